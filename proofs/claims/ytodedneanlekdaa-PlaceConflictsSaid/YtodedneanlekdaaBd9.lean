/- Several texts of this claim in one file. (1) Contracts: nodes, and the iterator. (2) A range over the beginnings where the search comes to. (3) Rows that are changed in place: copy, part of a slice, what slices.Insert leaves. Nothing of the program is proved here. (4) Contract: slices.Insert of one element. -/
import Derived.Test.YtodedneanlekdaaBd8
import Derived.Laws.CopyRow
import Derived.Laws.Externs
import Derived.Lib.AppendZerosOnto
import Derived.Lib.Overlaps
namespace Go.Proofs.Ytodedneanlekdaa
set_option linter.unusedSimpArgs false
set_option linter.unusedVariables false
section
open Go.RowKit

theorem BegAt.lower {W : World} {B B' : Nat} {a : Option Addr} {c : Nat} {xs : List Int} (h : BegAt W B a c xs) (hB : B' ≤ B) : BegAt W B' a c xs :=
  ⟨h.i, fun ad e => ⟨Nat.le_trans hB (h.ge ad e).1, (h.ge ad e).2⟩, h.nil, h.le⟩
/-- the cells of a problem in a variable -/
def PbC (p : Pb) (ta ha ba la : Option Addr) (tc hc bc lc bp : Nat) : List (Addr × Value) := [(⟨bp, 0, none⟩, .slice ta p.nt tc), (⟨bp, 1, none⟩, .slice ha p.nh hc), (⟨bp, 2, none⟩, .slice ba p.nb bc), (⟨bp, 3, none⟩, .slice la p.nl lc)]
set_option maxRecDepth 100000 in
set_option maxHeartbeats 400000 in
theorem nodes_any (p : Pb) (ta ha ba la : Option Addr) (tc hc bc lc : Nat) (w : World) :
  Calls Try.prog 69 #[.agg #[.slice ta p.nt tc, .slice ha p.nh hc, .slice ba p.nb bc, .slice la p.nl lc]] w fun e w' => ∃ bp, e = .returned (.func (.func 102) #[] #[Vp bp]) ∧ w.heap.size ≤ bp ∧ RCells w' (PbC p ta ha ba la tc hc bc lc bp) ∧ Gr w w' := by
 have G := Gr.refl w
 refine Y.calls 4 Try.func69 rfl rfl ?_
 intro ac F0
 have F : Fr ac 4 [(0, .agg #[.slice ta p.nt tc, .slice ha p.nh hc, .slice ba p.nb bc, .slice la p.nl lc])] := F0.sub _
 clear F0
 refine Y.sl ?_
 have hgs3 : w.heap.size ≤ w.heap.size := G.size
 refine Y.pv F (X.box rfl (F.ev 0 (.agg #[.slice ta p.nt tc, .slice ha p.nh hc, .slice ba p.nb bc, .slice la p.nl lc])) X.bx) ?_;clear F ac;intro ac F
 have hgs5 : w.heap.size ≤ w.heap.size := G.size
 have g := Gr.alloc w (.cells #[.slice ta p.nt tc, .slice ha p.nh hc, .slice ba p.nb bc, .slice la p.nl lc] 27)
 have hb := heap_alloc_new w (.cells #[.slice ta p.nt tc, .slice ha p.nh hc, .slice ba p.nb bc, .slice la p.nl lc] 27)
 have hbl : w.heap.size < (w.alloc (.cells #[.slice ta p.nt tc, .slice ha p.nh hc, .slice ba p.nb bc, .slice la p.nl lc] 27)).heap.size := by simp
 have hC2 : RCells (w.alloc (.cells #[.slice ta p.nt tc, .slice ha p.nh hc, .slice ba p.nb bc, .slice la p.nl lc] 27)) [(Ad w.heap.size 0, .slice ta p.nt tc), (Ad w.heap.size 1, .slice ha p.nh hc), (Ad w.heap.size 2, .slice ba p.nb bc), (Ad w.heap.size 3, .slice la p.nl lc)] := (RCells.nil w).box (b := w.heap.size) #[.slice ta p.nt tc, .slice ha p.nh hc, .slice ba p.nb bc, .slice la p.nl lc] 27 rfl
 generalize w.alloc (.cells #[.slice ta p.nt tc, .slice ha p.nh hc, .slice ba p.nb bc, .slice la p.nl lc] 27) = w6 at *
 replace G := G.trans g
 have hC := hC2
 clear hC2
 have hsz4 := hbl
 clear g hb hbl
 refine Y.pv F (X.assign rfl (X.kc (.nilFunc) rfl)) ?_;clear F ac;intro ac F
 refine Y.nt F [(1, Vp w.heap.size)] ?_;clear F ac;intro ac F
 refine Y.sg F [(2, .func (.func 102) #[] #[Vp w.heap.size])] (Y.pv F (Y.fnc rfl (Y.m1 (F.ev 1 (Vp w.heap.size)))) fun ac F=>Y.pv F (X.assign rfl (F.ev 3 (.func (.func 102) #[] #[Vp w.heap.size]))) fun ac F=>Y.fin F) ?_;clear F ac;intro ac F
 refine Y.ret ?_
 exact Y.ret0 (v := .func (.func 102) #[] #[Vp w.heap.size]) F (Y.r1 F) ⟨_, rfl, Nat.le_refl _, hC, G⟩
set_option maxRecDepth 100000 in
set_option maxHeartbeats 1000000 in
theorem nodes1_any {σ : Type} (p : Pb) (ta ha ba la : Option Addr) (tc hc bc lc bp lp : Nat) (Yb : Nat → Prop) (st : σ → List Int → σ × Bool × Bool) (J : σ → (Nat → Prop) → (Nat → Prop) → World → Prop) (Z : World → Prop) (s0 : σ) (O Kp : Nat → Prop) (w : World)
  (hp : PbOk p) (hYb : ∀ b, Yb b → b < w.heap.size) (hP : ∀ W, Only Yb w W → PbAt W p ta ha ba la tc hc bc lc ∧ RCells W (PbC p ta ha ba la tc hc bc lc bp)) (hJl : ∀ s O Kp W, J s O Kp W → ∀ b, O b ∨ Kp b → b < W.heap.size) (hJg : ∀ s O Kp W W', J s O Kp W → Gr W W' → J s O Kp W') (hYd : VisY p lp Yb w st J Z) (hOs : ∀ b, O b → Yb b ∨ w.heap.size ≤ b) (hJ : J s0 O Kp w) :
  Calls Try.prog 102 #[.func (.yield lp) #[] #[], Vp bp] w fun e w' => (∃ v, e = .returned v) ∧ ((∃ s' O' Kp', visF p.nh (hopeB p (tim p)) st p.nt [] s0 = (s', true) ∧ J s' O' Kp' w' ∧ Only O w w' ∧ (∀ b, O' b → O b ∨ w.heap.size ≤ b)) ∨ ((visF p.nh (hopeB p (tim p)) st p.nt [] s0).2 = false ∧ Z w')) := by
 have G := Gr.refl w
 obtain ⟨PN, hPN⟩ : ∃ PN : World → Prop, PN = fun W => ((∃ s' O' Kp', visF p.nh (hopeB p (tim p)) st p.nt [] s0 = (s', true) ∧ J s' O' Kp' W ∧ Only O w W ∧ (∀ b, O' b → O b ∨ w.heap.size ≤ b)) ∨ ((visF p.nh (hopeB p (tim p)) st p.nt [] s0).2 = false ∧ Z W)) := ⟨_, rfl⟩
 suffices hsf : Calls Try.prog 102 #[.func (.yield lp) #[] #[], Vp bp] w (fun e w' => (∃ v, e = .returned v) ∧ PN w') by
  rw [hPN] at hsf; exact hsf
 refine Y.calls 8 Try.func102 rfl rfl ?_
 intro ac F0
 have F : Fr ac 8 [(0, .func (.yield lp) #[] #[]), (1, Vp bp)] := F0.sub _
 clear F0
 refine Y.sl ?_
 have hgs3 : w.heap.size ≤ w.heap.size := G.size
 refine Y.pv F (X.box rfl (F.ev 0 (.func (.yield lp) #[] #[])) (Y.bx1 rfl)) ?_;clear F ac;intro ac F
 have hgs5 : w.heap.size ≤ w.heap.size := G.size
 have g := Gr.alloc w (.cells #[.func (.yield lp) #[] #[]] 128)
 have hb := heap_alloc_new w (.cells #[.func (.yield lp) #[] #[]] 128)
 have hbl : w.heap.size < (w.alloc (.cells #[.func (.yield lp) #[] #[]] 128)).heap.size := by simp
 have hC2 : RCells (w.alloc (.cells #[.func (.yield lp) #[] #[]] 128)) [(Ad w.heap.size 0, .func (.yield lp) #[] #[])] := (RCells.nil w).box (b := w.heap.size) #[.func (.yield lp) #[] #[]] 128 rfl
 generalize w.alloc (.cells #[.func (.yield lp) #[] #[]] 128) = w6 at *
 replace G := G.trans g
 have hC := hC2
 clear hC2
 have hsz4 := hbl
 clear g hb hbl
 refine Y.nt F [(1, Vp bp), (2, Vp w.heap.size)] ?_;clear F ac;intro ac F
 refine Y.sl ?_
 refine Y.pv F (Y.al rfl (Try.new129 _)) ?_;clear F ac;intro ac F
 have g := Gr.alloc w6 (.cells #[.nilFunc] 129)
 have hb := heap_alloc_new w6 (.cells #[.nilFunc] 129)
 have hszw7 : w6.heap.size < (w6.alloc (.cells #[.nilFunc] 129)).heap.size := by simp
 have hgsw7 : w.heap.size ≤ w6.heap.size := G.size
 generalize w6.alloc (.cells #[.nilFunc] 129) = w7 at *
 replace G := G.trans g
 replace hC := hC.gr g
 have hVw7 : OwnP w7 w6.heap.size 1 (VL [.nilFunc]) := ownP_bx (vs := [.nilFunc]) hb
 clear g hb
 refine Y.nt F [(1, Vp bp), (2, Vp w.heap.size), (3, Vp w6.heap.size)] ?_;clear F ac;intro ac F
 refine Y.sl ?_
 refine Y.pv F (Y.fnc rfl (Y.m3 (F.ev 1 (Vp bp)) (F.ev 2 (Vp w.heap.size)) (F.ev 3 (Vp w6.heap.size)))) ?_;clear F ac;intro ac F
 refine Y.punit F (X.w0 rfl) rfl (X.store rfl (F.ev 3 (Vp w6.heap.size)) (F.ev 4 (.func (.func 103) #[] #[Vp bp, Vp w.heap.size, Vp w6.heap.size])) (hVw7.st1 (Try.siz129 _) rfl rfl (by omega))) ?_;clear F ac;intro ac F
 have hon := Y.set_only w7 w6.heap.size 0 (.func (.func 103) #[] #[Vp bp, Vp w.heap.size, Vp w6.heap.size])
 have hV2 := hVw7.set (k := 0) (.func (.func 103) #[] #[Vp bp, Vp w.heap.size, Vp w6.heap.size])
 replace hV2 := hV2.congr (val' := fun _ => .func (.func 103) #[] #[Vp bp, Vp w.heap.size, Vp w6.heap.size]) (fun k hk => if_pos (by omega))
 generalize w7.setCell ⟨w6.heap.size, 0, none⟩ (.func (.func 103) #[] #[Vp bp, Vp w.heap.size, Vp w6.heap.size]) = w8 at *
 replace hVw7 : OwnP w8 w6.heap.size 1 (fun _ => .func (.func 103) #[] #[Vp bp, Vp w.heap.size, Vp w6.heap.size]) := hV2
 clear hV2
 replace G := Y.Only.up G hon (by omega)
 replace hC := (hC.kc hon 0 rfl (RCells.nil _))
 clear hon
 refine Y.nt F [(3, Vp w6.heap.size)] ?_;clear F ac;intro ac F
 refine Y.lit (by kernel_rfl) ?_
 replace hC : RCells w8 [(Ad w.heap.size 0, .func (.yield lp) #[] #[]), (Ad w6.heap.size 0, .func (.func 103) #[] #[Vp bp, Vp w.heap.size, Vp w6.heap.size])] := hC.append ((RCells.cons (hVw7.cell (k := 0) (by decide)) (RCells.nil _)))
 refine Y.pv F (X.load rfl (F.ev 3 (Vp w6.heap.size)) (X.ld1 (Try.agg129 _) (hC.at 1 rfl))) ?_;clear F ac;intro ac F
 refine Y.pv F (Y.bd rfl Y.bd0 (Try.bd108 _)) ?_;clear F ac;intro ac F
 have hcy := hC.at 0 rfl
 have hcv := hC.at 1 rfl
 have hgz := G.size
 have hyl : w.heap.size < w8.heap.size := lt_cell hcy
 have hvl : w6.heap.size < w8.heap.size := lt_cell hcv
 have hE : ∀ W, Only Yb w8 W → VisE W p ta ha ba la tc hc bc lc bp w.heap.size w6.heap.size lp := fun W h => by
  have h1 := hP W ((G.only Yb).trans h)
  exact ⟨h1.1, h1.2.append (RCells.cons (h.cell hcy (fun e => by have h9 := hYb _ e; simp only at h9; omega)) (RCells.cons (h.cell hcv (fun e => by have h9 := hYb _ e; simp only at h9; omega)) (RCells.nil _)))⟩
 have hV := visit_any p ta ha ba la tc hc bc lc bp w.heap.size w6.heap.size lp Yb w8 st J Z hp (fun b e => by have := hYb b e; omega) hE hJl hJg (fun s O Kp xs d a c W h1 h2 h3 h4 h5 h6 h7 h8 h9 h9k h10 h11 => hYd s O Kp xs d a c W h1 (fun b e => (h2 b e).imp id (fun e => by omega)) ((G.only Yb).trans h3) h4 h5 (h6.lower hgz) (by omega) h8 h9 h9k h10 h11) p.nt
 have hcl := hV [] none 0 s0 O Kp w8 (by simp) HosOk.nil ⟨⟨rfl, by decide, fun j hj => (by simp at hj)⟩, fun ad e => (by cases e), fun _ => ⟨rfl, rfl⟩, Nat.le_refl _⟩ (fun ad e => by cases e) (fun b e => (hOs b e).imp id (fun e2 => by have := hJl _ _ _ _ hJ b (.inl e); omega)) (Only.refl _ _) (hJg _ _ _ _ _ hJ G)
 refine Y.pcall F (X.w0 rfl) rfl (X.enter (F := 103) rfl (F.ev 5 (.func (.func 103) #[] #[Vp bp, Vp w.heap.size, Vp w6.heap.size])) (X.a2 (X.kc (.slice none 0 0) rfl) (F.ev 6 (.agg (ldA (fun _ => 0)).toArray))) (enters_of Try.func103 (by kernel_rfl) rfl _)) (hcl) ?_
 clear F ac
 intro e w9 hT
 obtain ⟨v, rfl, hT2⟩ : ∃ v, e = .returned v ∧ PN w9 := by
  subst hPN
  rcases hT with ⟨rfl, s2, O2, Kp2, h1, h2, h3, h4⟩ | ⟨rfl, h1, h2⟩
  ·exact ⟨_, rfl, .inl ⟨s2, O2, Kp2, h1, h2, (G.only O).trans h3, fun b e => (h4 b e).imp id (fun e => by omega)⟩⟩
  ·exact ⟨_, rfl, .inr ⟨h1, h2⟩⟩
 refine ⟨_, rfl, ?_⟩
 intro ac F
 refine Y.nil ?_
 replace F : Fr ac 8 [] := F.sub _
 show bodyPostM _ _ _ _ _ .ret _ _
 exact Y.ret0 (v := .tuple #[]) F (Y.rs0 rfl) ⟨⟨_, rfl⟩, hT2⟩
end
section
set_option linter.unusedVariables false
open Go.RowKit
/-- a node in a new variable -/
def NdC (p : Pb) (b : Nat) (a : Option Addr) (c d : Nat) (xs : List Int) : List (Addr × Value) := [(⟨b, 0, none⟩, .slice a xs.length c), (⟨b, 1, none⟩, .bool (hopeB p (tim p) xs)), (⟨b, 2, none⟩, .int .i64 (bndV p xs)), (⟨b, 3, none⟩, .pointer (some ⟨d, 0, none⟩))]
theorem ndC_box (p : Pb) (W : World) (a : Option Addr) (c d : Nat) (xs : List Int) (t : TypeId) : RCells (W.alloc (.cells #[.slice a xs.length c, .bool (hopeB p (tim p) xs), .int .i64 (bndV p xs), .pointer (some ⟨d, 0, none⟩)] t)) (NdC p W.heap.size a c d xs) :=
  (RCells.nil W).box (b := W.heap.size) #[.slice a xs.length c, .bool (hopeB p (tim p) xs), .int .i64 (bndV p xs), .pointer (some ⟨d, 0, none⟩)] t rfl
/-- what is given out: a beginning, its memory, its cell; lim: where new memory began -/
structure NdX where
  xs : List Int
  a : Option Addr
  c : Nat
  d : Nat
  lim : Nat
structure NdB (p : Pb) (w W : World) (O Kp : Nat → Prop) (x : NdX) : Prop where
  len : x.xs.length ≤ p.nt
  hos : HosOk p x.xs
  beg : BegAt W (w.heap.size + 2) x.a x.c x.xs
  dge : w.heap.size + 2 ≤ x.d
  dO : ¬ O x.d
  dK : ¬ Kp x.d
  aO : ∀ ad, x.a = some ad → ¬ O ad.block
  ad : ∀ ad, x.a = some ad → ad.block ≠ x.d
  own : OwnP W x.d 1 (fun _ => .bool true)
  lim : ∀ b, O b ∨ Kp b → b < x.lim
  dlim : x.d < x.lim
  alim : ∀ ad, x.a = some ad → ad.block < x.lim
  ge : x.lim ≤ W.heap.size
theorem NdB.gr {p : Pb} {w W W' : World} {O Kp : Nat → Prop} {x : NdX} (h : NdB p w W O Kp x) (g : Gr W W') : NdB p w W' O Kp x :=
  ⟨h.len, h.hos, h.beg.gr g, h.dge, h.dO, h.dK, h.aO, h.ad, h.own.gr g, h.lim, h.dlim, h.alim, Nat.le_trans h.ge g.size⟩
theorem NdB.only {p : Pb} {w W W' : World} {O Kp : Nat → Prop} {x : NdX} (h : NdB p w W O Kp x) (g : Only (fun b => b = w.heap.size + 1) W W') : NdB p w W' O Kp x :=
  ⟨h.len, h.hos, h.beg.only g (fun ad e => by have := (h.beg.ge ad e).1; omega), h.dge, h.dO, h.dK, h.aO, h.ad, h.own.only g (by have := h.dge; omega), h.lim, h.dlim, h.alim, Nat.le_trans h.ge g.size⟩
namespace Y
variable {A : Act} {N : Nat} {L : List (Nat × Value)} {D : List Deferred} {Q : Exit → Act → World → Prop} {w : World}
theorem fr_round9 {pt : Nat} (F : Fr A N L D) (hp : pt < N) (v : Value) : Fr { tmps := A.tmps.setIfInBounds pt v, defers := [] } N (X.putS L (some pt) v) := by
  have h := F.put (o := some pt) (v := v) (by simpa using hp)
  exact ⟨h.sz, rfl, h.get⟩
theorem fr_mark9 (F : Fr A N L D) (d : Deferred) : Fr { A with defers := d :: A.defers } N L (d :: D) := ⟨F.sz, by rw [← F.df], F.get⟩
set_option maxHeartbeats 1000000 in
theorem ndRange {σ : Type} {g : Operand} {body : Code} {id pt dv : Nat} {o1 o2 : Oper} {p : Pb} {ta ha ba la : Option Addr} {tc hc bc lc bp : Nat} (F : Fr A N L D) (hpt : pt < N) (hdv : dv < N) (hne : (dv == pt) = false)
    (ho1 : o1.op = .alloc 102) (hg1 : o1.guard = none) (hd1 : o1.dst = some dv) (ho2 : o2.op = .store 102 (.tmp dv) (.tmp pt)) (hg2 : o2.guard = none) (hd2 : o2.dst = none)
    (hg : A.eval g = .func (.func 102) #[] #[.pointer (some ⟨bp, 0, none⟩)])
    (hp : PbOk p) (Yb : Nat → Prop) (hYb : ∀ b, Yb b → b < w.heap.size) (hP : ∀ W, Only Yb w W → PbAt W p ta ha ba la tc hc bc lc ∧ RCells W (PbC p ta ha ba la tc hc bc lc bp))
    (st : σ → List Int → σ × Bool × Bool) (s0 : σ) (K : σ → (Nat → Prop) → (Nat → Prop) → World → Prop) (O0 Kp0 : Nat → Prop) (h0 : K s0 O0 Kp0 w) (hO0 : ∀ b, O0 b → Yb b)
    (hKl : ∀ s O Kp W, K s O Kp W → ∀ b, O b ∨ Kp b → b < W.heap.size) (hKg : ∀ s O Kp W W', K s O Kp W → Gr W W' → K s O Kp W') (hKo : ∀ s O Kp W W', K s O Kp W → (∀ b, O b → Yb b ∨ w.heap.size + 2 ≤ b) → Only (fun b => b = w.heap.size + 1) W W' → K s O Kp W')
    (Ix : Code → World → Prop) (hIx : ∀ c W o, Ix c W → Ix c (W.putObj (w.heap.size + 1) (.loop o)))
    (hbody : ∀ (s : σ) (O Kp : Nat → Prop) (xs : List Int) (a : Option Addr) (c d b : Nat) (W : World) (A1 : Act), Only Yb w W → K s O Kp W → (∀ b, O b → Yb b ∨ w.heap.size + 2 ≤ b) → xs.length ≤ p.nt → HosOk p xs → BegAt W (w.heap.size + 2) a c xs → w.heap.size + 2 ≤ d → ¬ O d → ¬ Kp d → (∀ ad, a = some ad → ¬ O ad.block) → (∀ ad, a = some ad → ad.block ≠ d) →
      OwnP W d 1 (fun _ => .bool true) → w.heap.size + 2 ≤ b → b ≠ d → ¬ O b → ¬ Kp b → (∀ ad, a = some ad → ad.block ≠ b) → RCells W (NdC p b a c d xs) → Fr A1 N (X.putS (X.putS L (some pt) (ndV p a c d xs)) (some dv) (.pointer (some ⟨b, 0, none⟩))) →
      body.wpIn (FW (some (w.heap.size + 1))) 0 Try.prog (roundQ4 (fun x => O x ∨ x = d) (fun W' => (∃ O' Kp', K (st s xs).1 O' Kp' W' ∧ (∀ b, O' b → O b ∨ W.heap.size ≤ b)) ∧ OwnP W' d 1 (fun _ => .bool (st s xs).2.1) ∧ (st s xs).2.2 = true) (fun c W' => Ix c W' ∧ (st s xs).2.2 = false) W) A1 W)
    (hdone : ∀ (s : σ) (O Kp : Nat → Prop) (W : World) (A' : Act), visF p.nh (hopeB p (tim p)) st p.nt [] s0 = (s, true) → Only Yb w W → K s O Kp W → (∀ b, O b → Yb b ∨ w.heap.size + 2 ≤ b) → W.heap[w.heap.size]? = some (.deferred (some [])) → Fr A' N L ({ target := .collected w.heap.size, args := #[] } :: D) → Q .normal A' W)
    (hstop : ∀ (c : Code) (W : World) (A' : Act), (visF p.nh (hopeB p (tim p)) st p.nt [] s0).2 = false → Ix c W → W.heap[w.heap.size]? = some (.deferred (some [])) → Fr A' N L ({ target := .collected w.heap.size, args := #[] } :: D) → c.wpIn (FW none) 0 Try.prog Q A' W) :
    (Code.rangeFunc g #[pt] (.region id #[o1, o2] false) body).wpIn (FW none) 0 Try.prog Q A w := by
  refine (wpIn_wide (n := 0)).2 ?_
  have hdp : ¬ dv = pt := by simpa using hne
  have hdp2 : ¬ pt = dv := fun e => hdp e.symm
  have hput : ∀ (W : World) (o : Loop), Only (fun b => b = w.heap.size + 1) W (W.putObj (w.heap.size + 1) (.loop o)) := fun W o => putObj_only _ _ _
  have hOp : ∀ (W : World) (o : Loop), Only Yb w W → Only Yb w (W.putObj (w.heap.size + 1) (.loop o)) := fun W o h => h.step2 (hput W o) (fun r e => .inr (by omega))
  refine range_rule4 (P := Try.prog) (α := NdX) (σ := σ × (Nat → Prop) × (Nat → Prop)) (gf := 102) (a := A) hg (enters_of Try.func102 (by kernel_rfl) rfl) (s0, O0, Kp0)
    (fun s x W W' => Only Yb w W' ∧ ∃ O' Kp', K (st s.1 x.xs).1 O' Kp' W' ∧ (∀ b, O' b → s.2.1 b ∨ W.heap.size ≤ b) ∧ (∀ b, O' b → Yb b ∨ w.heap.size + 2 ≤ b))
    (fun W => Only Yb w W ∧ ∃ s O Kp, visF p.nh (hopeB p (tim p)) st p.nt [] s0 = (s, true) ∧ K s O Kp W ∧ (∀ b, O b → Yb b ∨ w.heap.size + 2 ≤ b))
    (fun s W => Only Yb w W ∧ K s.1 s.2.1 s.2.2 W ∧ (∀ b, s.2.1 b → Yb b ∨ w.heap.size + 2 ≤ b)) Ix (fun s x b => s.2.1 b ∨ b = x.d)
    (fun s x args W => args = #[ndV p x.a x.c x.d x.xs] ∧ NdB p w W s.2.1 s.2.2 x ∧ (∀ b, s.2.1 b → Yb b ∨ w.heap.size + 2 ≤ b)) ((visF p.nh (hopeB p (tim p)) st p.nt [] s0).2 = false)
    (fun x A1 W => ∃ b, w.heap.size + 2 ≤ b ∧ x.lim ≤ b ∧ RCells W (NdC p b x.a x.c x.d x.xs) ∧ Fr A1 N (X.putS (X.putS L (some pt) (ndV p x.a x.c x.d x.xs)) (some dv) (.pointer (some ⟨b, 0, none⟩))))
    (fun s x W => NdB p w W s.2.1 s.2.2 x ∧ (∀ b, s.2.1 b → Yb b ∨ w.heap.size + 2 ≤ b)) (fun s x W => w.heap.size + 2 ≤ x.d ∧ OwnP W x.d 1 (fun _ => .bool (st s.1 x.xs).2.1)) (fun s x => (st s.1 x.xs).2.2 = false) (fun s x => (st s.1 x.xs).2.2 = true)
    (fun s W W' h g => ⟨h.1.thenGr g, hKg _ _ _ _ _ h.2.1 g, h.2.2⟩) (fun x A1 W o h => ?_) (fun s x args W h => h.2) (fun s x W W' h g => ⟨h.1.only g, h.2⟩) (fun s x W W' h g => ⟨h.1.gr g, h.2⟩) (fun s x W h => ⟨?_, ?_⟩)
    (fun s W o h => ⟨hOp _ _ h.1, hKo _ _ _ _ _ h.2.1 h.2.2 (hput W o), h.2.2⟩) hIx (fun s x W W' o h => ⟨hOp _ _ h.1, by obtain ⟨_, O', Kp', h1, h2, h3⟩ := h; exact ⟨O', Kp', hKo _ _ _ _ _ h1 h3 (hput W' o), h2, h3⟩⟩) (fun s x W W2 W' hs h => ⟨h.1, by obtain ⟨_, O', Kp', h1, h2, h3⟩ := h; exact ⟨O', Kp', h1, fun b e => (h2 b e).imp (fun z => z) (fun e => Nat.le_trans hs e), h3⟩⟩)
    (fun W o h => ⟨hOp _ _ h.1, by obtain ⟨_, s, O, Kp, h1, h2, h3⟩ := h; exact ⟨s, O, Kp, h1, hKo _ _ _ _ _ h2 h3 (hput W o), h3⟩⟩) (fun s x W o h => ⟨h.1, h.2.only (hput W o) (by have := h.1; omega)⟩) (fun s x args W h => by rw [h.1]; rfl)
    ⟨Only.refl _ _, h0, fun b e => .inl (hO0 b e)⟩ (fun s W o h => ⟨h.1.thenGr (Gr.alloc _ _), hKg _ _ _ _ _ h.2.1 (Gr.alloc _ _), h.2.2⟩) (fun lp s x args W K' hsz hE hK' => ?_) (fun s x W A1 hi hB hA hsz => ?_) ?_ (fun W hF hk => ?_) (fun c W hSp hI hk => ?_)
  · obtain ⟨b, hb, hlim, hc, hF⟩ := h
    exact ⟨b, hb, hlim, hc.only (hput W o) (fun p hp e => by simp [NdC] at hp; rcases hp with rfl | rfl | rfl | rfl <;> (simp only at e; omega)), hF⟩
  · rintro (e | e)
    · rcases h.2 _ e with e | e
      · have := hYb _ e; omega
      · omega
    · have := h.1.dge; omega
  · rintro (e | e)
    · rcases h.2 _ e with e | e
      · have := hYb _ e; omega
      · omega
    · have := h.1.dge; omega
  · obtain ⟨rfl, hB, _⟩ := hE
    have hF := fr_round9 F hpt (ndV p x.a x.c x.d x.xs)
    suffices h1 : (Code.region id #[o1, o2] false).wpIn (Fence.wide.inRound lp) 0 Try.prog (Exit.then K' (fun _ _ _ => False)) { tmps := A.tmps.setIfInBounds pt (ndV p x.a x.c x.d x.xs), defers := [] } W by simpa using h1
    show (Code.region id #[o1, o2] false).wpIn (FW (some lp)) 0 Try.prog _ _ W
    refine Y.lit (l := [o1, o2]) (by simp [ho1, ho2]) ?_
    refine Y.pval hF (X.w0 hg1) (by rw [hd1]; simpa using hdv) (Y.al ho1 (Try.new102 _)) ?_
    intro A2 F2
    rw [hd1] at F2
    refine Y.punit F2 (X.w0 hg2) (by rw [hd2]) (X.store ho2 (F2.ev dv _ (by simp [X.putS, lookS])) (F2.ev pt (ndV p x.a x.c x.d x.xs) (by simp [X.putS, lookS, List.filter_cons, hdp, hdp2])) (Y.stNew [.slice x.a x.xs.length x.c, .bool (hopeB p (tim p) x.xs), .int .i64 (bndV p x.xs), .pointer (some ⟨x.d, 0, none⟩)] [.slice none 0 0, .bool false, .int .i64 0, .pointer none] (Try.siz102 _) rfl rfl)) ?_
    intro A3 F3
    rw [hd2] at F3
    refine Y.nil ?_
    exact hK' _ _ (Gr.alloc _ _) ⟨W.heap.size, by omega, hB.ge, ndC_box p W _ _ _ _ 102, F3⟩
  · obtain ⟨b, hb, hlim, hc, hF⟩ := hA
    obtain ⟨hB, hOs⟩ := hB
    refine wpIn_mono (hbody s.1 s.2.1 s.2.2 x.xs x.a x.c x.d b W A1 hi.1 hi.2.1 hOs hB.len hB.hos hB.beg hB.dge hB.dO hB.dK hB.aO hB.ad hB.own hb (by have := hB.dlim; omega) (fun e => by have := hB.lim _ (.inl e); omega) (fun e => by have := hB.lim _ (.inr e); omega) (fun ad e => by have := hB.alim ad e; omega) hc hF) ?_
    have hO : ∀ W', Only (fun b => s.2.1 b ∨ b = x.d) W W' → Only Yb w W' := fun W' h => hi.1.step2 h (fun r e => by
      rcases e with e | e
      · exact (hOs r e).imp (fun z => z) (fun e => by omega)
      · exact .inr (by have := hB.dge; omega))
    have hsw := hi.1.size
    rintro e a3 W3 hp3
    cases e with
    | normal =>
      obtain ⟨ho, ⟨O', Kp', h1, h2⟩, h3, h4⟩ := hp3
      exact ⟨ho, ⟨hO _ ho, O', Kp', h1, h2, fun b e => (h2 b e).elim (fun e => hOs b e) (fun e => .inr (by omega))⟩, ⟨hB.dge, h3⟩, h4⟩
    | ret => exact ⟨hp3.1, hp3.2.1, hp3.2.2⟩
    | exit id => exact ⟨hp3.1, hp3.2.1, hp3.2.2⟩
    | goto t => exact hp3.elim
    | panic ch => exact hp3.elim
    | outgrown => exact hp3.elim
  · intro L' hLs hLp hyield hstart
    obtain ⟨W0, hW0⟩ : ∃ W0, (w.alloc (.deferred (some []))).alloc (.loop L') = W0 := ⟨_, rfl⟩
    have g0 : Gr w W0 := by rw [← hW0]; exact (Gr.alloc _ _).allocR _
    have s0' : W0.heap.size = w.heap.size + 2 := by rw [← hW0]; simp
    rw [hW0] at hstart ⊢
    refine callsIn_wide.2 ?_
    refine (nodes1_any p ta ha ba la tc hc bc lc bp (w.heap.size + 1) Yb st (fun s O Kp W => Btw w.heap.size L' (fun W => Only Yb w W ∧ K s O Kp W ∧ (∀ b, O b → Yb b ∨ w.heap.size + 2 ≤ b)) W) (fun W => Left w.heap.size L' Ix W) s0 O0 Kp0 W0 hp (fun b e => by have := hYb b e; omega) (fun W h => hP W ((g0.only _).trans h)) (fun s O Kp W h => hKl s O Kp W h.1.2.1) (fun s O Kp W W' h g => h.gr g (fun h => ⟨h.1.thenGr g, hKg _ _ _ _ _ h.2.1 g, h.2.2⟩)) ?_ (fun b e => .inl (hO0 b e)) hstart).mono ?_
    · intro s O Kp xs d a c W hJ hOs hO hlen hos hbeg hd had hdO hdK haO hown
      have hdl := hown.lt
      exact (hyield (s, O, Kp) ⟨xs, a, c, d, W.heap.size⟩ _ W hJ ⟨rfl, ⟨hlen, hos, hbeg.lower (by omega), by simp only; omega, hdO, hdK, haO, had, hown, fun b e => hKl s O Kp W hJ.1.2.1 b e, hdl, fun ad e => (hbeg.ge ad e).2, Nat.le_refl _⟩, hJ.1.2.2⟩).mono (fun e W' h => by
        rcases h with ⟨h1, ⟨⟨h2, O', Kp', h3, h4, h5⟩, hl, hk⟩, h6, h7, h8⟩ | ⟨h1, h2, h3⟩
        · exact ⟨true, h1, .inl ⟨rfl, h7, O', Kp', ⟨⟨h2, h3, h5⟩, hl, hk⟩, h6.2, h8, h4⟩⟩
        · exact ⟨false, h1, .inr ⟨rfl, h3, h2⟩⟩)
    · rintro e W' ⟨hv, (⟨s, O, Kp, h1, ⟨⟨h2, h3, h4⟩, hl, hk⟩, h5, h6⟩ | ⟨h1, h2⟩)⟩
      · exact ⟨hv, .inl ⟨⟨h2, s, O, Kp, h1, h3, h4⟩, hl, hk⟩⟩
      · exact ⟨hv, .inr ⟨h1, h2⟩⟩
  · obtain ⟨h1, s, O, Kp, h2, h3, h4⟩ := hF
    exact hdone s O Kp W _ h2 h1 h3 h4 hk (fr_mark9 F _)
  · exact (hstop c W _ hSp hI hk (fr_mark9 F _))
end Y
end
section
set_option linter.unusedVariables false
open Go.RowKit
/-- copy to a row, for elements of k cells -/
theorem copy_row {P : Program} (W : World) (dT sT ty elem : TypeId) (k g o dLen dCap : Nat) (a : Addr) (sLen sCap : Nat) (cur : Array Value) (t : TypeId) (cs : List Value)
    (hu : P.underlying dT = some (.slice elem)) (hs : (P.info? elem).map (·.size) = some k)
    (hg : W.heap[g]? = some (.cells cur t (0, 0))) (hn : cs.length = Nat.min sLen dLen * k)
    (hsrc : ∀ j v, cs[j]? = some v → W.cell? (a.add j) = some v) (hfit : o + cs.length ≤ cur.size) (h1 : ∀ v ∈ cs, v.oneCell' = true) :
    (Builtin.copy_ #[dT, sT] ty #[.slice (some ⟨g, o, none⟩) dLen dCap, .slice (some a) sLen sCap]).run P W =
      .ok (goInt (Nat.min sLen dLen)) (W.setRow g (cur.toList.take o ++ cs ++ cur.toList.drop (o + cs.length)).toArray) := by
  have hl := run_firstCells_some (P := P) (w := W) k (Nat.min sLen dLen) a sLen sCap cs hn hsrc
  have hst := run_storeCells_at P g o t cs 0 cur W hg (by simpa using hfit) h1
  cases hq : P.info? elem with
  | none => simp [hq] at hs
  | some i =>
    have hi : i.size = k := by simpa [hq] using hs
    simp [Builtin.copy_, run_underlying hu, Builtin.lenOf, sizeOf, typeInfo, hq, hi, hl, hst]
theorem setRow_only (W : World) (g : Nat) (cs : Array Value) : Only (fun b => b = g) W (W.setRow g cs) :=
  ⟨rfl, rfl, rfl, by rw [setRow_size]; exact Nat.le_refl _, fun b _ hn => setRow_other W g b cs hn⟩
/-- the cells of a block -/
theorem heap_cells {W : World} {g : Nat} {l : List Value} {t : TypeId} (h : W.heap[g]? = some (.cells l.toArray t (0, 0))) {o : Nat} {cs : List Value} (hc : ∀ j v, cs[j]? = some v → l[o + j]? = some v) : ∀ j v, cs[j]? = some v → W.cell? ((⟨g, o, none⟩ : Addr).add j) = some v := by
  intro j v hj
  have e : (⟨g, o, none⟩ : Addr).add j = ⟨g, o + j, none⟩ := by unfold Addr.add; split <;> simp_all
  rw [e]
  exact cell_at h (by simpa using hc j v hj)
theorem add_lit (g o j : Nat) : (⟨g, o, none⟩ : Addr).add j = ⟨g, o + j, none⟩ := by unfold Addr.add; split <;> simp_all
namespace Y
variable {P : Program} {W W' : World} {o : Oper} {ρ : Operand → Value}
/-- a slice from a place on -/
theorem slL {t e : TypeId} {x y : Operand} {a : Option Addr} {n c i k : Nat} {z : Int} (ho : o.op = .slice t x (some y) none none) (hx : ρ x = .slice a n c) (hy : ρ y = .int .i64 z) (hu : P.underlying t = some (.slice e)) (hS : (sizeOf e).run P W = .ok k W) (hz : z = (i : Int)) (hi : i ≤ n) (hn : n ≤ c) : (execOp ρ o).run P W = .ok (.value (.slice (if c = i then a else a.map (fun x => x.add (i * k))) (n - i) (c - i))) W := by
  subst hz
  have h2 : (i : Int) ≤ c := by omega
  have h3 : (i : Int) ≤ n := by omega
  have h4 : (n : Int) ≤ c := by omega
  simp [execOp, ho, hx, hy, Instr.sliceAt, Instr.slice, run_underlying hu, Instr.sliceBounds, Instr.sliceBound, asIntOf, h2, h3, h4, hi, hn, hS, go_sem]
theorem slL1 {t e : TypeId} {x y : Operand} {g p n c i k q m r : Nat} {z : Int} (ho : o.op = .slice t x (some y) none none) (hx : ρ x = .slice (some ⟨g, p, none⟩) n c) (hy : ρ y = .int .i64 z) (hu : P.underlying t = some (.slice e)) (hS : (sizeOf e).run P W = .ok k W) (hz : z = (i : Int)) (hi : i ≤ n) (hn : n ≤ c) (h0 : i < c) (hq : p + i * k = q) (hm : n - i = m) (hr : c - i = r) : (execOp ρ o).run P W = .ok (.value (.slice (some ⟨g, q, none⟩) m r)) W := by
  subst hq hm hr
  rw [slL ho hx hy hu hS hz hi hn, if_neg (by omega)]
  simp [add_lit]
theorem cap {x : Operand} {tx e : TypeId} {a : Option Addr} {n c : Nat} (hu : P.underlying tx = some (.slice e)) (ho : o.op = .call { callee := .builtin .cap, args := #[x], argTypes := #[tx] }) (hx : ρ x = .slice a n c) : (execOp ρ o).run P W = .ok (.value (.int .i64 (c : Nat))) W := by
  unfold execOp; rw [ho]; simp [hx, resolve, invoke, builtin, Builtin.cap_, run_underlying hu, go_sem]
theorem cpy {d s : Operand} {t t' : TypeId} {v u r : Value} (ho : o.op = .call { callee := .builtin .copy, args := #[d, s], argTypes := #[t, t'] }) (hd : ρ d = v) (hs : ρ s = u) (hr : (Builtin.copy_ #[t, t'] o.type #[v, u]).run P W = .ok r W') : (execOp ρ o).run P W = .ok (.value r) W' := by
  unfold execOp; rw [ho]; simp [resolve, invoke, builtin, hd, hs, hr, go_sem]
theorem apz {d s : Operand} {t t' : TypeId} {v u r : Value} (ho : o.op = .call { callee := .builtin .append, args := #[d, s], argTypes := #[t, t'] }) (hd : ρ d = v) (hs : ρ s = u) (hr : (Builtin.append_ #[t, t'] o.type #[v, u]).run P W = .ok r W') : (execOp ρ o).run P W = .ok (.value r) W' := by
  unfold execOp
  simp only [ho, resolve, invoke, builtin, Sem.run_bind, Sem.run_pure, Result.andThen_ok, List.map_toArray, List.map_cons, List.map_nil, hd, hs, hr]
/-- a function of the model's own -/
theorem ext {f d s : Operand} {ats : Array TypeId} {F : FuncId} {v u r : Value} (ho : o.op = .call { callee := .value f, args := #[d, s], argTypes := ats }) (hd : ρ d = v) (hs : ρ s = u) (hc : ρ f = .func (.func F) #[] #[]) (hr : (callFunc F #[v, u]).run P W = .ok (.value r) W) : (execOp ρ o).run P W = .ok (.value r) W := by
  unfold execOp; rw [ho]; simp [resolve, invoke, hd, hs, hc, hr, go_sem]
end Y
/-- what is left when a row is shifted and filled in place -/
theorem ins_place {L0 M R N : List Value} {p k : Nat} (hN : N.length = k) (hl : p + k ≤ L0.length) : (L0.take (p + k) ++ M ++ R).take p ++ N ++ (L0.take (p + k) ++ M ++ R).drop (p + N.length) = L0.take p ++ N ++ M ++ R := by
  have h1 : (L0.take (p + k)).length = p + k := by rw [List.length_take]; omega
  rw [hN, List.append_assoc (L0.take (p + k)), List.take_append_of_le_length (by omega), List.take_take, Nat.min_eq_left (by omega), List.drop_left' h1]
  simp [List.append_assoc]
/-- and in a new row -/
theorem ins_new {A Z M N : List Value} {p k m : Nat} (hA : A.length = p) (hN : N.length = k) (hM : M.length = m) (hZ : k + m ≤ Z.length) : ((A ++ Z).take p ++ N ++ (A ++ Z).drop (p + N.length)).take (p + k) ++ M ++ ((A ++ Z).take p ++ N ++ (A ++ Z).drop (p + N.length)).drop (p + k + M.length) = A ++ N ++ M ++ Z.drop (k + m) := by
  have h1 : (A ++ Z).take p = A := List.take_left' hA
  have h2 : (A ++ Z).drop (p + N.length) = Z.drop k := by rw [List.drop_append, List.drop_of_length_le (by omega), List.nil_append]; congr 1; omega
  have h3 : (A ++ N).length = p + k := by simp [hA, hN]
  rw [h1, h2, List.take_left' h3, List.drop_append, List.drop_of_length_le (by omega), List.nil_append, h3, List.drop_drop]
  congr 2
  omega
theorem ins_own {W : World} {B e k n c g : Nat} {l xs T : List Value} (h : W.heap[g]? = some (.cells l.toArray e (0, 0))) (hB : B ≤ g) (hl : l = xs ++ T) (hx : xs.length = n * k) (hc : l.length = c * k) (hnc : n ≤ c) (hm : c ≤ maxLen) : OwnR W B e k (.slice (some ⟨g, 0, none⟩) n c) n xs :=
  ⟨hx, .inr ⟨g, c, l.toArray, rfl, hB, h, hnc, hm, by simpa using hc, by rw [hl]; simp [← hx]⟩⟩
/-- a block holds these cells -/
def HpR (W : World) (g : Nat) (l : List Value) (e : TypeId) : Prop := W.heap[g]? = some (.cells l.toArray e (0, 0))
section
variable {W W' : World} {g : Nat} {l : List Value} {e : TypeId} {P : Program}
theorem HpR.lt (h : HpR W g l e) : g < W.heap.size := (Array.getElem?_eq_some_iff.1 h).1
theorem HpR.only {S : Nat → Prop} (h : HpR W g l e) (o : Only S W W') (hn : ¬ S g) : HpR W' g l e := (o.block _ h.lt hn).trans h
theorem HpR.gr (h : HpR W g l e) (o : Gr W W') : HpR W' g l e := h.only (o.only (fun _ => False)) (fun h => h)
theorem HpR.copy {dT sT ty elem : TypeId} {k o dLen dCap g2 o2 sLen sCap : Nat} {l2 cs : List Value} (h : HpR W g l e) (h2 : HpR W g2 l2 e) (hu : P.underlying dT = some (.slice elem)) (hs : (P.info? elem).map (·.size) = some k)
    (hn : cs.length = Nat.min sLen dLen * k) (hc : ∀ j v, cs[j]? = some v → l2[o2 + j]? = some v) (hfit : o + cs.length ≤ l.length) (h1 : (cs.all fun v => v.oneCell') = true) :
    ∃ W', (Builtin.copy_ #[dT, sT] ty #[.slice (some ⟨g, o, none⟩) dLen dCap, .slice (some ⟨g2, o2, none⟩) sLen sCap]).run P W = .ok (goInt (Nat.min sLen dLen)) W' ∧ HpR W' g (l.take o ++ cs ++ l.drop (o + cs.length)) e ∧ Only (fun b => b = g) W W' :=
  ⟨_, copy_row W dT sT ty elem k g o dLen dCap ⟨g2, o2, none⟩ sLen sCap l.toArray e cs hu hs h hn (heap_cells h2 hc) (by simpa using hfit) (fun v hv => List.all_eq_true.1 h1 v hv), setRow_heap W g _ _ _ _ h, setRow_only _ _ _⟩
/-- append of zeros: a new row -/
theorem HpR.grow {t tn ty elem : TypeId} {z : Value} {k bytes n i c : Nat} {xs : List Value} (h : HpR W g l e) (hu : P.underlying t = some (.slice elem)) (hun : P.underlying tn = some (.int .i64)) (hinfo : (P.info? elem).map (fun i => (i.zero, i.size, i.bytes)) = some (some z, k, bytes)) (hz : z.cells.size = k) (hk : 0 < k)
    (hx : xs.length = i * k) (hl : ∀ j v, xs[j]? = some v → l[0 + j]? = some v) (hi : i ≤ n) (hc : c < n + 1) (hn : n ≤ 1000000) (hbt : bytes ≤ 1000) :
    ∃ W' G Z, (Builtin.append_ #[t, tn] ty #[.slice (some ⟨g, 0, none⟩) i c, .int .i64 ((n : Int) + 1 - i)]).run P W = .ok (.slice (some ⟨W.heap.size, 0, none⟩) (n + 1) G) W' ∧ HpR W' W.heap.size (xs ++ Z) elem ∧ (xs ++ Z).length = G * k ∧ n + 1 ≤ G ∧ G ≤ maxLen ∧ Gr W W' := by
  obtain ⟨i0, hi0, hz0, hzs, hzb⟩ := info_parts hinfo
  have e1 : (n : Int) + 1 - i = ((n + 1 - i : Nat) : Int) := by omega
  have e2 : i + (n + 1 - i) = n + 1 := by omega
  have hb : (n + 1) * bytes ≤ 140737488355328 := by
    have := Nat.mul_le_mul (show n + 1 ≤ 1000001 by omega) hbt
    omega
  have h4 := run_firstCells_some (P := P) (w := W.drew) i0.size i ⟨g, 0, none⟩ i c xs (by rw [hzs]; exact hx) (fun j v hj => (heap_cells h (o := 0) hl) j v hj)
  have hb2 : (n + 1 - i) * i0.bytes ≤ 281474976710656 := by
    rw [hzb]
    have := Nat.mul_le_mul_right bytes (show n + 1 - i ≤ n + 1 by omega)
    omega
  have h5 := Lib.run_append_grow_zeros (P := P) W t tn ty elem i0 z .i64 .i64 hu hun hi0 hz0 (some ⟨g, 0, none⟩) i c xs h4 (n + 1 - i) (by omega) (by rw [hzs]; exact hk) (by omega) (by omega) hb2 (by rw [hzb, e2]; exact growslice_fits hc hb)
  rw [e2] at h5
  rw [e1]
  have hge := grownCap_ge W (n + 1) c elem
  have hle := grownCap_le_maxLen W (n + 1) c elem (by unfold maxLen; omega)
  refine ⟨_, grownCap W (n + 1) c elem, (Builtin.zeroCells z.cells (n + 1 - i) ++ Builtin.zeroCells z.cells (grownCap W (n + 1) c elem - (n + 1))).toList, h5, ?_, ?_, hge, hle, (Gr.drew W).trans (Gr.alloc _ _)⟩
  · have := heap_alloc_new W.drew (.cells (xs.toArray ++ Builtin.zeroCells z.cells (n + 1 - i) ++ Builtin.zeroCells z.cells (grownCap W (n + 1) c elem - (n + 1))) elem)
    unfold HpR
    rw [show (xs ++ (Builtin.zeroCells z.cells (n + 1 - i) ++ Builtin.zeroCells z.cells (grownCap W (n + 1) c elem - (n + 1))).toList).toArray = xs.toArray ++ Builtin.zeroCells z.cells (n + 1 - i) ++ Builtin.zeroCells z.cells (grownCap W (n + 1) c elem - (n + 1)) by simp [Array.append_assoc]]
    exact this
  · simp [Builtin.zeroCells, hz, hx]
    rw [← Nat.add_mul, ← Nat.add_mul]
    congr 1
    omega
end
/-- the parts of a row of the call's own -/
theorem OwnR.row {W : World} {B e k n : Nat} {a : Option Addr} {c : Nat} {xs : List Value} (h : OwnR W B e k (.slice a n c) n xs) (h0 : 0 < n) : ∃ g L, a = some ⟨g, 0, none⟩ ∧ B ≤ g ∧ HpR W g L e ∧ n ≤ c ∧ c ≤ maxLen ∧ L.length = c * k ∧ L.take (n * k) = xs := by
  rcases h.2 with ⟨e, h1⟩ | ⟨g, cap, cur, e, h1, h2, h3, h4, h5, h6⟩
  · omega
  · injection e with e1 e2 e3
    subst e1 e3
    exact ⟨g, cur.toList, rfl, h1, h2, h3, h4, by simpa using h5, h6⟩
theorem take_get {L xs : List Value} {m : Nat} (h : L.take m = xs) {o : Nat} : ∀ j v, (xs.drop o)[j]? = some v → L[o + j]? = some v := by
  intro j v hj
  rw [List.getElem?_drop, ← h] at hj
  have : o + j < (L.take m).length := (List.getElem?_eq_some_iff.1 hj).1
  rw [List.length_take] at this
  rw [List.getElem?_take_of_lt (by omega)] at hj
  exact hj
theorem take_get0 {L xs : List Value} {m : Nat} (h : L.take m = xs) {p : Nat} : ∀ j v, (xs.take p)[j]? = some v → L[0 + j]? = some v := by
  intro j v hj
  have h1 : j < (xs.take p).length := (List.getElem?_eq_some_iff.1 hj).1
  rw [List.length_take] at h1
  rw [List.getElem?_take_of_lt (by omega)] at hj
  exact take_get h (o := 0) j v (by simpa using hj)
theorem drop_all {xs : List Value} (h : (xs.all fun v => v.oneCell') = true) (p : Nat) : ((xs.drop p).all fun v => v.oneCell') = true :=
  List.all_eq_true.2 fun v hv => List.all_eq_true.1 h v (List.mem_of_mem_drop hv)
theorem self_get (N : List Value) : ∀ j v, N[j]? = some v → N[0 + j]? = some v := fun j v h => by rwa [Nat.zero_add]
theorem ovl {P : Program} {W : World} {F : FuncId} {t e : TypeId} {k : Nat} (hx : ∀ args, (callFunc F args).run P W = ((Extern.SlicesOverlaps.overlaps #[t, t] #[4] args).run P W).andThen fun v w' => .ok (.value v) w') (hu : P.underlying t = some (.slice e)) (hS : ∀ w, (sizeOf e).run P w = .ok k w) {g g2 o la ca lb cb : Nat} {l l2 : List Value} {e1 e2 : TypeId} (h : HpR W g l e1) (h2 : HpR W g2 l2 e2) (hne : g ≠ g2) (hl : l2.length ≠ 0) :
    (callFunc F #[.slice (some ⟨g, 0, none⟩) la ca, .slice (some ⟨g2, o, none⟩) lb cb]).run P W = .ok (.value (.bool false)) W := by
  have s1 : W.shape? g = some (e1, l.length) := by unfold World.shape?; unfold HpR at h; rw [h]; simp
  have s2 : W.shape? g2 = some (e2, l2.length) := by unfold World.shape?; unfold HpR at h2; rw [h2]; simp
  have f1 : ∀ j, W.frozen? ⟨g, j, none⟩ = false := fun j => by unfold World.frozen?; unfold HpR at h; simp [h]
  rw [hx, Lib.run_overlaps_apart W t 4 e hu k hS ⟨g, 0, none⟩ ⟨g2, o, none⟩ la ca lb cb hne e1 e2 l.length l2.length s1 s2 hl (f1 0) (f1 _)]
  rfl
end
section
open Go.RowKit

theorem siz92i : (Try.prog.info? 92).map (·.size) = some 2 := by kernel_rfl
theorem siz34i : (Try.prog.info? 34).map (·.size) = some 1 := by kernel_rfl
theorem run130 (args : Array Value) (w : World) : (callFunc 130 args).run Try.prog w = ((Extern.SlicesOverlaps.overlaps #[89, 89] #[4] args).run Try.prog w).andThen fun v w' => .ok (.value v) w' :=
  run_callFunc_extern Try.func130 (by kernel_rfl) (by kernel_rfl) (by kernel_rfl) (e := Extern.SlicesOverlaps.overlaps #[89, 89] #[4]) (by kernel_rfl) args w
theorem run132 (args : Array Value) (w : World) : (callFunc 132 args).run Try.prog w = ((Extern.SlicesOverlaps.overlaps #[38, 38] #[4] args).run Try.prog w).andThen fun v w' => .ok (.value v) w' :=
  run_callFunc_extern Try.func132 (by kernel_rfl) (by kernel_rfl) (by kernel_rfl) (e := Extern.SlicesOverlaps.overlaps #[38, 38] #[4]) (by kernel_rfl) args w
set_option maxRecDepth 100000 in
set_option maxHeartbeats 1000000 in
theorem ins116_end (B vb : Nat) (a : Option Addr) (n c : Nat) (xs N : List Value) (w : World) (hO : OwnR w B 92 2 (.slice a n c) n xs) (hn : n ≤ 100000) (hnc : n ≤ c) (hV0 : HpR w vb N 92) (hNl : N.length = 2) (hN1 : (N.all fun v => v.oneCell') = true) (hB : B ≤ w.heap.size) :
  Calls Try.prog 116 #[.slice a n c, Vi n, .slice (some ⟨vb, 0, none⟩) 1 1] w fun e w' => ∃ v', e = .returned v' ∧ OwnR w' B 92 2 v' (n + 1) (xs ++ N) ∧ Only (fun x => (Value.slice a n c).ownBlock = some x) w w' ∧ (v'.ownBlock = (Value.slice a n c).ownBlock ∨ ∃ x, v'.ownBlock = some x ∧ w.heap.size ≤ x) := by
 have G := Gr.refl w
 have hV := hV0
 refine Y.calls 95 Try.func116 rfl rfl ?_
 intro ac F0
 have F : Fr ac 95 [(0, .slice a n c), (1, Vi n), (2, .slice (some ⟨vb, 0, none⟩) 1 1)] := F0.sub _
 clear F0
 refine Y.sg F [(0, .slice a n c), (1, Vi n), (2, .slice (some ⟨vb, 0, none⟩) 1 1)] (Y.pv F (X.assign rfl (X.kc (.slice none 0 0) rfl)) fun ac F=>Y.fin F) ?_;clear F ac;intro ac F
 refine Y.sg F [(0, .slice a n c), (1, Vi n), (2, .slice (some ⟨vb, 0, none⟩) 1 1)] (by
  refine Y.pv F (X.move rfl (F.ev 0 (.slice a n c))) fun ac F=>?_
  refine Y.pv F (X.move rfl (F.ev 1 (Vi n))) fun ac F=>?_
  refine Y.pv F (Y.slL (i := n) rfl (F.ev 10 (.slice a n c)) (F.ev 11 (Vi n)) Try.underlying89 (Try.siz92 _) rfl (by omega) (by omega)) fun ac F=>?_
  exact Y.fin F) ?_;clear F ac;intro ac F
 refine Y.sg F [(0, .slice a n c), (1, Vi n), (2, .slice (some ⟨vb, 0, none⟩) 1 1), (7, Vi 1)] (Y.pv F (X.move rfl (F.ev 2 (.slice (some ⟨vb, 0, none⟩) 1 1))) fun ac F=>Y.pv F (X.len1 Try.underlying89 rfl (F.ev 13 (.slice (some ⟨vb, 0, none⟩) 1 1))) fun ac F=>Y.pv F (X.assign rfl (F.ev 14 (Vi 1))) fun ac F=>Y.fin F) ?_;clear F ac;intro ac F
 refine Y.seq ?_
 refine Y.sg F [(0, .slice a n c), (1, Vi n), (2, .slice (some ⟨vb, 0, none⟩) 1 1), (7, Vi 1), (16, .bool false)] (Y.pv F (X.move rfl (F.ev 7 (Vi 1))) fun ac F=>Y.pval F (X.w0 rfl) rfl (X.binop rfl (F.ev 15 (Vi 1)) (X.kc (Vi 0) rfl) (X.eqlI Try.underlying3 (show ((1 : Int) == 0) = false by simp))) fun ac F=>Y.fin F) ?_;clear F ac;intro ac F
 refine Y.condF (F.ev 16 (.bool false)) ?_
 refine Y.skip ?_
 refine X.thenN ?_
 refine Y.sg F [(0, .slice a n c), (1, Vi n), (2, .slice (some ⟨vb, 0, none⟩) 1 1), (7, Vi 1), (8, Vi n)] (Y.pv F (X.move rfl (F.ev 0 (.slice a n c))) fun ac F=>Y.pv F (X.len1 Try.underlying89 rfl (F.ev 18 (.slice a n c))) fun ac F=>Y.pv F (X.assign rfl (F.ev 19 (Vi n))) fun ac F=>Y.fin F) ?_;clear F ac;intro ac F
 refine Y.seq ?_
 refine Y.sg F [(0, .slice a n c), (1, Vi n), (2, .slice (some ⟨vb, 0, none⟩) 1 1), (7, Vi 1), (8, Vi n), (22, .bool true)] (Y.pv F (X.move rfl (F.ev 1 (Vi n))) fun ac F=>Y.pv F (X.move rfl (F.ev 8 (Vi n))) fun ac F=>Y.pval F (X.w0 rfl) rfl (X.binop rfl (F.ev 20 (Vi n)) (F.ev 21 (Vi n)) (X.eqlI Try.underlying3 (show ((n : Int) == n) = true by simp))) fun ac F=>Y.fin F) ?_;clear F ac;intro ac F
 refine Y.condT (F.ev 22 (.bool true)) ?_
 refine Y.sl ?_
 refine Y.pv2 F (X.move rfl (F.ev 0 (.slice a n c))) (fun _ F=>X.move rfl (F.ev 2 (.slice (some ⟨vb, 0, none⟩) 1 1))) ?_;clear F ac;intro ac F
 have hvc := HpR.gr hV G
 have hO2 := OwnR.gr hO G
 have hBW := Nat.le_trans hB G.size
 refine Y.wpL_plain rfl fun _ hK => wp_pushV Try.underlying89 Try.info92 rfl (by decide) rfl (F.ev 23 (.slice a n c)) (F.ev 24 (.slice (some ⟨vb, 0, none⟩) 1 1)) hO2 (m := 1) (news := N) (by omega) (heap_cells hvc (self_get N)) hN1 (by omega) (by decide) hBW (fun v2 w3 hO3 hon hat => hK _ _ ?_)
 refine Y.pput F rfl ?_;clear F ac;intro ac F
 refine Y.pv F (X.assign rfl (F.ev 25 (v2))) ?_;clear F ac;intro ac F
 refine Y.nt F [(6, v2)] ?_;clear F ac;intro ac F
 refine Y.ret ?_
 refine X.thenR ?_
 exact Y.ret0 (v := v2) F (Y.r1 F) ⟨_, rfl, hO3, (G.only _).trans hon, hat.imp (fun z => z) (fun e => ⟨_, e, G.size⟩)⟩
set_option maxRecDepth 100000 in
set_option maxHeartbeats 1000000 in
theorem ins116_grow (B b vb n c i : Nat) (L0 xs N : List Value) (w : World) (hL0 : HpR w b L0 92) (hBb : B ≤ b) (hnc : n ≤ c) (hcm : c ≤ maxLen) (hLl : L0.length = c * 2) (hLx : L0.take (n * 2) = xs) (hxl : xs.length = n * 2) (hx1 : (xs.all fun v => v.oneCell') = true) (hi : i < n) (hn : n ≤ 100000) (hroom : c < n + 1) (hvb : vb ≠ b) (hV0 : HpR w vb N 92) (hNl : N.length = 2) (hN1 : (N.all fun v => v.oneCell') = true) (hB : B ≤ w.heap.size) :
  Calls Try.prog 116 #[.slice (some ⟨b, 0, none⟩) n c, Vi i, .slice (some ⟨vb, 0, none⟩) 1 1] w fun e w' => ∃ v', e = .returned v' ∧ OwnR w' B 92 2 v' (n + 1) (xs.take (i * 2) ++ N ++ xs.drop (i * 2)) ∧ Only (fun x => (Value.slice (some ⟨b, 0, none⟩) n c).ownBlock = some x) w w' ∧ (v'.ownBlock = (Value.slice (some ⟨b, 0, none⟩) n c).ownBlock ∨ ∃ x, v'.ownBlock = some x ∧ w.heap.size ≤ x) := by
 have G := Gr.refl w
 have hL := hL0
 have hV := hV0
 have hbl9 := hL0.lt
 have hvl9 := hV0.lt
 have hvb2 := hvb
 refine Y.calls 95 Try.func116 rfl rfl ?_
 intro ac F0
 have F : Fr ac 95 [(0, .slice (some ⟨b, 0, none⟩) n c), (1, Vi i), (2, .slice (some ⟨vb, 0, none⟩) 1 1)] := F0.sub _
 clear F0
 refine Y.sg F [(0, .slice (some ⟨b, 0, none⟩) n c), (1, Vi i), (2, .slice (some ⟨vb, 0, none⟩) 1 1)] (Y.pv F (X.assign rfl (X.kc (.slice none 0 0) rfl)) fun ac F=>Y.fin F) ?_;clear F ac;intro ac F
 refine Y.sg F [(0, .slice (some ⟨b, 0, none⟩) n c), (1, Vi i), (2, .slice (some ⟨vb, 0, none⟩) 1 1)] (by
  refine Y.pv F (X.move rfl (F.ev 0 (.slice (some ⟨b, 0, none⟩) n c))) fun ac F=>?_
  refine Y.pv F (X.move rfl (F.ev 1 (Vi i))) fun ac F=>?_
  refine Y.pv F (Y.slL1 (i := i) (q := i * 2) (m := n - i) (r := c - i) rfl (F.ev 10 (.slice (some ⟨b, 0, none⟩) n c)) (F.ev 11 (Vi i)) Try.underlying89 (Try.siz92 _) (by omega) (by omega) (by omega) (by omega) (by omega) (by omega) (by omega)) fun ac F=>?_
  exact Y.fin F) ?_;clear F ac;intro ac F
 refine Y.sg F [(0, .slice (some ⟨b, 0, none⟩) n c), (1, Vi i), (2, .slice (some ⟨vb, 0, none⟩) 1 1), (7, Vi 1)] (Y.pv F (X.move rfl (F.ev 2 (.slice (some ⟨vb, 0, none⟩) 1 1))) fun ac F=>Y.pv F (X.len1 Try.underlying89 rfl (F.ev 13 (.slice (some ⟨vb, 0, none⟩) 1 1))) fun ac F=>Y.pv F (X.assign rfl (F.ev 14 (Vi 1))) fun ac F=>Y.fin F) ?_;clear F ac;intro ac F
 refine Y.seq ?_
 refine Y.sg F [(0, .slice (some ⟨b, 0, none⟩) n c), (1, Vi i), (2, .slice (some ⟨vb, 0, none⟩) 1 1), (7, Vi 1), (16, .bool false)] (Y.pv F (X.move rfl (F.ev 7 (Vi 1))) fun ac F=>Y.pval F (X.w0 rfl) rfl (X.binop rfl (F.ev 15 (Vi 1)) (X.kc (Vi 0) rfl) (X.eqlI Try.underlying3 (show ((1 : Int) == 0) = false by simp))) fun ac F=>Y.fin F) ?_;clear F ac;intro ac F
 refine Y.condF (F.ev 16 (.bool false)) ?_
 refine Y.skip ?_
 refine X.thenN ?_
 refine Y.sg F [(0, .slice (some ⟨b, 0, none⟩) n c), (1, Vi i), (2, .slice (some ⟨vb, 0, none⟩) 1 1), (7, Vi 1), (8, Vi n)] (Y.pv F (X.move rfl (F.ev 0 (.slice (some ⟨b, 0, none⟩) n c))) fun ac F=>Y.pv F (X.len1 Try.underlying89 rfl (F.ev 18 (.slice (some ⟨b, 0, none⟩) n c))) fun ac F=>Y.pv F (X.assign rfl (F.ev 19 (Vi n))) fun ac F=>Y.fin F) ?_;clear F ac;intro ac F
 refine Y.seq ?_
 refine Y.sg F [(0, .slice (some ⟨b, 0, none⟩) n c), (1, Vi i), (2, .slice (some ⟨vb, 0, none⟩) 1 1), (7, Vi 1), (8, Vi n), (22, .bool ((i : Int) == n))] (Y.pv F (X.move rfl (F.ev 1 (Vi i))) fun ac F=>Y.pv F (X.move rfl (F.ev 8 (Vi n))) fun ac F=>Y.pv F (X.binop rfl (F.ev 20 (Vi i)) (F.ev 21 (Vi n)) (X.eqlI Try.underlying3 rfl)) fun ac F=>Y.fin F) ?_;clear F ac;intro ac F
 have h4 : ((i : Int) == n) = false := beq_eq_false_iff_ne.2 (by omega)
 try rw [h4] at F
 refine Y.condF (F.ev 22 (.bool false)) ?_
 refine Y.skip ?_
 refine X.thenN ?_
 refine Y.seq ?_
 refine Y.sg F [(0, .slice (some ⟨b, 0, none⟩) n c), (1, Vi i), (2, .slice (some ⟨vb, 0, none⟩) 1 1), (7, Vi 1), (8, Vi n), (31, .bool (decide ((c : Int) < ((n : Int) + 1))))] (by
  refine Y.pv F (X.move rfl (F.ev 8 (Vi n))) fun ac F=>?_
  refine Y.pv F (X.move rfl (F.ev 7 (Vi 1))) fun ac F=>?_
  refine Y.pv F (X.binop rfl (F.ev 26 (Vi n)) (F.ev 27 (Vi 1)) (X.addI Try.underlying3 rfl (by omega) (by omega))) fun ac F=>?_
  refine Y.pv F (X.move rfl (F.ev 0 (.slice (some ⟨b, 0, none⟩) n c))) fun ac F=>?_
  refine Y.pv F (Y.cap Try.underlying89 rfl (F.ev 29 (.slice (some ⟨b, 0, none⟩) n c))) fun ac F=>?_
  refine Y.pv F (X.binop rfl (F.ev 28 (Vi ((n : Int) + 1))) (F.ev 30 (Vi c)) (X.gtrI Try.underlying3 rfl)) fun ac F=>?_
  exact Y.fin F) ?_;clear F ac;intro ac F
 have h6 : decide ((c : Int) < ((n : Int) + 1)) = true := decide_eq_true (by omega)
 have h6p : ((c : Int) < ((n : Int) + 1)) := of_decide_eq_true h6
 try rw [h6] at F
 refine Y.condT (F.ev 31 (.bool true)) ?_
 refine Y.sl ?_
 refine Y.pv4 F (X.move rfl (F.ev 0 (.slice (some ⟨b, 0, none⟩) n c))) (fun _ F=>X.move rfl (F.ev 1 (Vi i))) (fun _ F=>Y.slH (k := i) rfl (F.ev 32 (.slice (some ⟨b, 0, none⟩) n c)) (F.ev 33 (Vi i)) Try.underlying89 (Try.siz92 _) (by omega) (by omega)) (fun _ F=>X.move rfl (F.ev 8 (Vi n))) ?_;clear F ac;intro ac F
 refine Y.pv4 F (X.move rfl (F.ev 7 (Vi 1))) (fun _ F=>X.binop rfl (F.ev 35 (Vi n)) (F.ev 36 (Vi 1)) (X.addI Try.underlying3 rfl (by omega) (by omega))) (fun _ F=>X.move rfl (F.ev 1 (Vi i))) (fun _ F=>X.binop rfl (F.ev 37 (Vi ((n : Int) + 1))) (F.ev 38 (Vi i)) (X.subI Try.underlying3 rfl (by omega) (by omega))) ?_;clear F ac;intro ac F
 obtain ⟨w7, cg, Z, hrun, hN, hZl, hnG, hGm, gn⟩ := HpR.grow (P := Try.prog) (t := 89) (tn := 3) (ty := 89) (xs := xs.take (i * 2)) (n := n) (i := i) (c := c) (HpR.gr hL G) Try.underlying89 Try.underlying3 Try.info92 rfl (by decide) (by rw [List.length_take, hxl]; exact Nat.min_eq_left (by omega)) (take_get0 hLx) (by omega) (by omega) (by omega) (by decide)
 have hgs := G.size
 have hbl := hL.lt
 have hvl := hV.lt
 refine Y.pv F (Y.apz rfl (F.ev 34 (.slice (some ⟨b, 0, none⟩) i c)) (F.ev 39 (Vi (((n : Int) + 1 : Int) - i))) hrun) ?_
 clear F ac hrun
 intro ac F
 have g0 := G
 replace G := G.trans gn
 replace hL := hL.gr G
 replace hV := hV.gr G
 clear gn
 refine Y.pv F (X.assign rfl (F.ev 40 (.slice (some ⟨w.heap.size, 0, none⟩) (n + 1) cg))) ?_;clear F ac;intro ac F
 refine Y.nt F [(0, .slice (some ⟨b, 0, none⟩) n c), (1, Vi i), (2, .slice (some ⟨vb, 0, none⟩) 1 1), (7, Vi 1), (9, .slice (some ⟨w.heap.size, 0, none⟩) (n + 1) cg)] ?_;clear F ac;intro ac F
 refine Y.sl ?_
 refine Y.pv4 F (X.move rfl (F.ev 9 (.slice (some ⟨w.heap.size, 0, none⟩) (n + 1) cg))) (fun _ F=>X.move rfl (F.ev 1 (Vi i))) (fun _ F=>Y.slL1 (i := i) (q := i * 2) (m := n + 1 - i) (r := cg - i) rfl (F.ev 41 (.slice (some ⟨w.heap.size, 0, none⟩) (n + 1) cg)) (F.ev 42 (Vi i)) Try.underlying89 (Try.siz92 _) (by omega) (by omega) (by omega) (by omega) (by omega) (by omega) (by omega)) (fun _ F=>X.move rfl (F.ev 2 (.slice (some ⟨vb, 0, none⟩) 1 1))) ?_;clear F ac;intro ac F
 obtain ⟨w8, hrun, hH2, hon⟩ := HpR.copy (P := Try.prog) (dT := 89) (sT := 89) (ty := 3) (k := 2) (o := i * 2) (dLen := n + 1 - i) (dCap := cg - i) (o2 := 0) (sLen := 1) (sCap := 1) (cs := N) hN hV Try.underlying89 siz92i (by rw [hNl, show Nat.min 1 (n + 1 - i) = 1 from Nat.min_eq_left (by omega)]) (self_get N) (by have h8 := hZl; simp only [List.length_append, List.length_take, List.length_drop, hNl, hxl, hLl] at h8 ⊢; omega) hN1
 refine Y.pv F (Y.cpy rfl (F.ev 43 (.slice (some ⟨w.heap.size, i * 2, none⟩) (n + 1 - i) (cg - i))) (F.ev 44 (.slice (some ⟨vb, 0, none⟩) 1 1)) hrun) ?_
 clear F ac hrun
 intro ac F
 replace hL := hL.only hon (by omega)
 replace hV := hV.only hon (by omega)
 replace hN := hH2
 clear hH2
 have hC9 := ((G.only (fun x => x = b)).step hon (.inr (by omega)))
 clear hon
 clear G
 have G := Gr.refl w8
 refine Y.nt F [(0, .slice (some ⟨b, 0, none⟩) n c), (1, Vi i), (7, Vi 1), (9, .slice (some ⟨w.heap.size, 0, none⟩) (n + 1) cg)] ?_;clear F ac;intro ac F
 refine Y.seq ?_
 refine Y.regionS F [some (.slice (some ⟨w.heap.size, 0, none⟩) (n + 1) cg), some (Vi i), some (Vi 1), some (Vi ((i : Int) + 1)), some (.slice (some ⟨w.heap.size, (i + 1) * 2, none⟩) (n - i) (cg - (i + 1))), some (.slice (some ⟨b, 0, none⟩) n c), some (Vi i), some (.slice (some ⟨b, i * 2, none⟩) (n - i) (c - i)), some (goInt (Nat.min (n - i) (n - i)))] [] 8 (fun _ W => HpR W w.heap.size (((xs.take (i * 2) ++ Z).take (i * 2) ++ N ++ (xs.take (i * 2) ++ Z).drop (i * 2 + N.length)).take ((i + 1) * 2) ++ (xs.drop (i * 2)) ++ ((xs.take (i * 2) ++ Z).take (i * 2) ++ N ++ (xs.take (i * 2) ++ Z).drop (i * 2 + N.length)).drop ((i + 1) * 2 + (xs.drop (i * 2)).length)) 92 ∧ Only (fun x => x = w.heap.size) w8 W) rfl ⟨by kernel_rfl, of_decide_eq_true (by kernel_rfl), by kernel_rfl, by kernel_rfl, by kernel_rfl⟩ (of_decide_eq_true (by kernel_rfl)) ⟨?_, ?_, ?_, ?_, ?_, ?_, ?_, ?_, ?_, trivial⟩ ?_
 ·intro ac done u W Sx hT
  have hs := Sx.no 8 (by kernel_rfl)
  have hR := hT.1 hs
  exact X.vl (X.move rfl (Sx.ev 9 (.slice (some ⟨w.heap.size, 0, none⟩) (n + 1) cg))) (Y.RT.of hs rfl hR.st0)
 ·intro ac done u W Sx hT
  have hs := Sx.no 8 (by kernel_rfl)
  have hR := hT.1 hs
  exact X.vl (X.move rfl (Sx.ev 1 (Vi i))) (Y.RT.of hs rfl hR.st0)
 ·intro ac done u W Sx hT
  have hs := Sx.no 8 (by kernel_rfl)
  have hR := hT.1 hs
  exact X.vl (X.move rfl (Sx.ev 7 (Vi 1))) (Y.RT.of hs rfl hR.st0)
 ·intro ac done u W Sx hT
  have hs := Sx.no 8 (by kernel_rfl)
  have hR := hT.1 hs
  exact X.vl (X.binop rfl (Sx.ev 47 (Vi i)) (Sx.ev 48 (Vi 1)) (X.addI Try.underlying3 rfl (by omega) (by omega))) (Y.RT.of hs rfl hR.st0)
 ·intro ac done u W Sx hT
  have hs := Sx.no 8 (by kernel_rfl)
  have hR := hT.1 hs
  exact X.vl (Y.slL1 (i := i + 1) (q := (i + 1) * 2) (m := n - i) (r := cg - (i + 1)) rfl (Sx.ev 46 (.slice (some ⟨w.heap.size, 0, none⟩) (n + 1) cg)) (Sx.ev 49 (Vi ((i : Int) + 1))) Try.underlying89 (Try.siz92 _) (by omega) (by omega) (by omega) (by omega) (by omega) (by omega) (by omega)) (Y.RT.of hs rfl hR.st0)
 ·intro ac done u W Sx hT
  have hs := Sx.no 8 (by kernel_rfl)
  have hR := hT.1 hs
  exact X.vl (X.move rfl (Sx.ev 0 (.slice (some ⟨b, 0, none⟩) n c))) (Y.RT.of hs rfl hR.st0)
 ·intro ac done u W Sx hT
  have hs := Sx.no 8 (by kernel_rfl)
  have hR := hT.1 hs
  exact X.vl (X.move rfl (Sx.ev 1 (Vi i))) (Y.RT.of hs rfl hR.st0)
 ·intro ac done u W Sx hT
  have hs := Sx.no 8 (by kernel_rfl)
  have hR := hT.1 hs
  exact X.vl (Y.slL1 (i := i) (q := i * 2) (m := n - i) (r := c - i) rfl (Sx.ev 51 (.slice (some ⟨b, 0, none⟩) n c)) (Sx.ev 52 (Vi i)) Try.underlying89 (Try.siz92 _) (by omega) (by omega) (by omega) (by omega) (by omega) (by omega) (by omega)) (Y.RT.of hs rfl hR.st0)
 ·intro ac done u W Sx hT
  have g : Gr w8 W := (hT.1 Sx.nd).1
  obtain ⟨W2, hrun, hH2, hon⟩ := HpR.copy (P := Try.prog) (dT := 89) (sT := 89) (ty := 3) (k := 2) (o := (i + 1) * 2) (dLen := n - i) (dCap := cg - (i + 1)) (o2 := i * 2) (sLen := n - i) (sCap := c - i) (cs := (xs.drop (i * 2))) (hN.gr g) (hL.gr g) Try.underlying89 siz92i (by rw [List.length_drop, hxl, show Nat.min (n - i) (n - i) = n - i from Nat.min_self _]; omega) (take_get hLx) (by have h8 := hZl; simp only [List.length_append, List.length_take, List.length_drop, hNl, hxl, hLl] at h8 ⊢; omega) (drop_all hx1 _)
  exact X.vl (Y.cpy rfl (Sx.ev 50 (.slice (some ⟨w.heap.size, (i + 1) * 2, none⟩) (n - i) (cg - (i + 1)))) (Sx.ev 53 (.slice (some ⟨b, i * 2, none⟩) (n - i) (c - i))) hrun) (Y.RT.fin ⟨hH2, (g.only _).trans hon⟩)
 rintro ac u w9 hs hd hl_ ho ⟨hH2, hon⟩
 replace F : Fr ac 95 [(9, .slice (some ⟨w.heap.size, 0, none⟩) (n + 1) cg)] := X.fr hs hd hl_ _ (by kernel_rfl)
 clear hs hd hl_ ho
 replace hL := hL.only hon (by omega)
 replace hV := hV.only hon (by omega)
 replace hN := hH2
 clear hH2
 replace hC9 := hC9.step hon (.inr (by omega))
 clear hon
 clear G
 have G := Gr.refl w9
 refine X.thenN ?_
 refine Y.sg F [(6, .slice (some ⟨w.heap.size, 0, none⟩) (n + 1) cg)] (Y.pv F (X.move rfl (F.ev 9 (.slice (some ⟨w.heap.size, 0, none⟩) (n + 1) cg))) fun ac F=>Y.pv F (X.assign rfl (F.ev 55 (.slice (some ⟨w.heap.size, 0, none⟩) (n + 1) cg))) fun ac F=>Y.fin F) ?_;clear F ac;intro ac F
 refine Y.ret ?_
 refine X.thenR ?_
 have e9 := ins_new (A := xs.take (i * 2)) (Z := Z) (M := xs.drop (i * 2)) (N := N) (p := i * 2) (k := 2) (m := (n - i) * 2) (by rw [List.length_take, hxl]; exact Nat.min_eq_left (by omega)) hNl (by rw [List.length_drop, hxl]; omega) (by have h8 := hZl; rw [List.length_append, List.length_take, hxl] at h8; omega)
 rw [show i * 2 + 2 = (i + 1) * 2 by omega] at e9
 rw [e9] at hN
 have hlen9 : (xs.take (i * 2) ++ N ++ xs.drop (i * 2) ++ Z.drop (2 + (n - i) * 2)).length = cg * 2 := by have h8 := hZl; simp only [List.length_append, List.length_take, List.length_drop, hNl, hxl] at h8 ⊢; omega
 exact Y.ret0 (v := .slice (some ⟨w.heap.size, 0, none⟩) (n + 1) cg) F (Y.r1 F) ⟨_, rfl, ins_own hN (by omega) rfl (by simp only [List.length_append, List.length_take, List.length_drop, hNl, hxl]; omega) hlen9 hnG hGm, hC9.mono (fun x _ e => by subst e; rfl), .inr ⟨_, rfl, hgs⟩⟩
set_option maxRecDepth 100000 in
set_option maxHeartbeats 1000000 in
theorem ins116_shift (B b vb n c i : Nat) (L0 xs N : List Value) (w : World) (hL0 : HpR w b L0 92) (hBb : B ≤ b) (hnc : n ≤ c) (hcm : c ≤ maxLen) (hLl : L0.length = c * 2) (hLx : L0.take (n * 2) = xs) (hxl : xs.length = n * 2) (hx1 : (xs.all fun v => v.oneCell') = true) (hi : i < n) (hn : n ≤ 100000) (hroom : n + 1 ≤ c) (hvb : vb ≠ b) (hV0 : HpR w vb N 92) (hNl : N.length = 2) (hN1 : (N.all fun v => v.oneCell') = true) (hB : B ≤ w.heap.size) :
  Calls Try.prog 116 #[.slice (some ⟨b, 0, none⟩) n c, Vi i, .slice (some ⟨vb, 0, none⟩) 1 1] w fun e w' => ∃ v', e = .returned v' ∧ OwnR w' B 92 2 v' (n + 1) (xs.take (i * 2) ++ N ++ xs.drop (i * 2)) ∧ Only (fun x => (Value.slice (some ⟨b, 0, none⟩) n c).ownBlock = some x) w w' ∧ (v'.ownBlock = (Value.slice (some ⟨b, 0, none⟩) n c).ownBlock ∨ ∃ x, v'.ownBlock = some x ∧ w.heap.size ≤ x) := by
 have G := Gr.refl w
 have hL := hL0
 have hV := hV0
 have hbl9 := hL0.lt
 have hvl9 := hV0.lt
 have hvb2 := hvb
 refine Y.calls 95 Try.func116 rfl rfl ?_
 intro ac F0
 have F : Fr ac 95 [(0, .slice (some ⟨b, 0, none⟩) n c), (1, Vi i), (2, .slice (some ⟨vb, 0, none⟩) 1 1)] := F0.sub _
 clear F0
 refine Y.sg F [(0, .slice (some ⟨b, 0, none⟩) n c), (1, Vi i), (2, .slice (some ⟨vb, 0, none⟩) 1 1)] (Y.pv F (X.assign rfl (X.kc (.slice none 0 0) rfl)) fun ac F=>Y.fin F) ?_;clear F ac;intro ac F
 refine Y.sg F [(0, .slice (some ⟨b, 0, none⟩) n c), (1, Vi i), (2, .slice (some ⟨vb, 0, none⟩) 1 1)] (by
  refine Y.pv F (X.move rfl (F.ev 0 (.slice (some ⟨b, 0, none⟩) n c))) fun ac F=>?_
  refine Y.pv F (X.move rfl (F.ev 1 (Vi i))) fun ac F=>?_
  refine Y.pv F (Y.slL1 (i := i) (q := i * 2) (m := n - i) (r := c - i) rfl (F.ev 10 (.slice (some ⟨b, 0, none⟩) n c)) (F.ev 11 (Vi i)) Try.underlying89 (Try.siz92 _) (by omega) (by omega) (by omega) (by omega) (by omega) (by omega) (by omega)) fun ac F=>?_
  exact Y.fin F) ?_;clear F ac;intro ac F
 refine Y.sg F [(0, .slice (some ⟨b, 0, none⟩) n c), (1, Vi i), (2, .slice (some ⟨vb, 0, none⟩) 1 1), (7, Vi 1)] (Y.pv F (X.move rfl (F.ev 2 (.slice (some ⟨vb, 0, none⟩) 1 1))) fun ac F=>Y.pv F (X.len1 Try.underlying89 rfl (F.ev 13 (.slice (some ⟨vb, 0, none⟩) 1 1))) fun ac F=>Y.pv F (X.assign rfl (F.ev 14 (Vi 1))) fun ac F=>Y.fin F) ?_;clear F ac;intro ac F
 refine Y.seq ?_
 refine Y.sg F [(0, .slice (some ⟨b, 0, none⟩) n c), (1, Vi i), (2, .slice (some ⟨vb, 0, none⟩) 1 1), (7, Vi 1), (16, .bool false)] (Y.pv F (X.move rfl (F.ev 7 (Vi 1))) fun ac F=>Y.pval F (X.w0 rfl) rfl (X.binop rfl (F.ev 15 (Vi 1)) (X.kc (Vi 0) rfl) (X.eqlI Try.underlying3 (show ((1 : Int) == 0) = false by simp))) fun ac F=>Y.fin F) ?_;clear F ac;intro ac F
 refine Y.condF (F.ev 16 (.bool false)) ?_
 refine Y.skip ?_
 refine X.thenN ?_
 refine Y.sg F [(0, .slice (some ⟨b, 0, none⟩) n c), (1, Vi i), (2, .slice (some ⟨vb, 0, none⟩) 1 1), (7, Vi 1), (8, Vi n)] (Y.pv F (X.move rfl (F.ev 0 (.slice (some ⟨b, 0, none⟩) n c))) fun ac F=>Y.pv F (X.len1 Try.underlying89 rfl (F.ev 18 (.slice (some ⟨b, 0, none⟩) n c))) fun ac F=>Y.pv F (X.assign rfl (F.ev 19 (Vi n))) fun ac F=>Y.fin F) ?_;clear F ac;intro ac F
 refine Y.seq ?_
 refine Y.sg F [(0, .slice (some ⟨b, 0, none⟩) n c), (1, Vi i), (2, .slice (some ⟨vb, 0, none⟩) 1 1), (7, Vi 1), (8, Vi n), (22, .bool ((i : Int) == n))] (Y.pv F (X.move rfl (F.ev 1 (Vi i))) fun ac F=>Y.pv F (X.move rfl (F.ev 8 (Vi n))) fun ac F=>Y.pv F (X.binop rfl (F.ev 20 (Vi i)) (F.ev 21 (Vi n)) (X.eqlI Try.underlying3 rfl)) fun ac F=>Y.fin F) ?_;clear F ac;intro ac F
 have h4 : ((i : Int) == n) = false := beq_eq_false_iff_ne.2 (by omega)
 try rw [h4] at F
 refine Y.condF (F.ev 22 (.bool false)) ?_
 refine Y.skip ?_
 refine X.thenN ?_
 refine Y.seq ?_
 refine Y.sg F [(0, .slice (some ⟨b, 0, none⟩) n c), (1, Vi i), (2, .slice (some ⟨vb, 0, none⟩) 1 1), (7, Vi 1), (8, Vi n), (31, .bool (decide ((c : Int) < ((n : Int) + 1))))] (by
  refine Y.pv F (X.move rfl (F.ev 8 (Vi n))) fun ac F=>?_
  refine Y.pv F (X.move rfl (F.ev 7 (Vi 1))) fun ac F=>?_
  refine Y.pv F (X.binop rfl (F.ev 26 (Vi n)) (F.ev 27 (Vi 1)) (X.addI Try.underlying3 rfl (by omega) (by omega))) fun ac F=>?_
  refine Y.pv F (X.move rfl (F.ev 0 (.slice (some ⟨b, 0, none⟩) n c))) fun ac F=>?_
  refine Y.pv F (Y.cap Try.underlying89 rfl (F.ev 29 (.slice (some ⟨b, 0, none⟩) n c))) fun ac F=>?_
  refine Y.pv F (X.binop rfl (F.ev 28 (Vi ((n : Int) + 1))) (F.ev 30 (Vi c)) (X.gtrI Try.underlying3 rfl)) fun ac F=>?_
  exact Y.fin F) ?_;clear F ac;intro ac F
 have h6 : decide ((c : Int) < ((n : Int) + 1)) = false := decide_eq_false (by omega)
 have h6p : ¬ ((c : Int) < ((n : Int) + 1)) := of_decide_eq_false h6
 try rw [h6] at F
 refine Y.condF (F.ev 31 (.bool false)) ?_
 refine Y.skip ?_
 refine X.thenN ?_
 refine Y.sg F [(0, .slice (some ⟨b, 0, none⟩) (n + 1) c), (1, Vi i), (2, .slice (some ⟨vb, 0, none⟩) 1 1), (7, Vi 1), (8, Vi n)] (by
  refine Y.pv F (X.move rfl (F.ev 0 (.slice (some ⟨b, 0, none⟩) n c))) fun ac F=>?_
  refine Y.pv F (X.move rfl (F.ev 8 (Vi n))) fun ac F=>?_
  refine Y.pv F (X.move rfl (F.ev 7 (Vi 1))) fun ac F=>?_
  refine Y.pv F (X.binop rfl (F.ev 57 (Vi n)) (F.ev 58 (Vi 1)) (X.addI Try.underlying3 rfl (by omega) (by omega))) fun ac F=>?_
  refine Y.pv F (Y.slH (k := n + 1) rfl (F.ev 56 (.slice (some ⟨b, 0, none⟩) n c)) (F.ev 59 (Vi ((n : Int) + 1))) Try.underlying89 (Try.siz92 _) (by omega) (by omega)) fun ac F=>?_
  refine Y.pv F (X.assign rfl (F.ev 60 (.slice (some ⟨b, 0, none⟩) (n + 1) c))) fun ac F=>?_
  exact Y.fin F) ?_;clear F ac;intro ac F
 refine Y.seq ?_
 refine Y.sl ?_
 refine Y.pv4 F (X.move rfl (F.ev 2 (.slice (some ⟨vb, 0, none⟩) 1 1))) (fun _ F=>X.move rfl (F.ev 0 (.slice (some ⟨b, 0, none⟩) (n + 1) c))) (fun _ F=>X.move rfl (F.ev 1 (Vi i))) (fun _ F=>X.move rfl (F.ev 7 (Vi 1))) ?_;clear F ac;intro ac F
 refine Y.pv2 F (X.binop rfl (F.ev 63 (Vi i)) (F.ev 64 (Vi 1)) (X.addI Try.underlying3 rfl (by omega) (by omega))) (fun _ F=>Y.slL1 (i := i + 1) (q := (i + 1) * 2) (m := n - i) (r := c - (i + 1)) rfl (F.ev 62 (.slice (some ⟨b, 0, none⟩) (n + 1) c)) (F.ev 65 (Vi ((i : Int) + 1))) Try.underlying89 (Try.siz92 _) (by omega) (by omega) (by omega) (by omega) (by omega) (by omega) (by omega)) ?_;clear F ac;intro ac F
 refine Y.pval F (X.w0 rfl) rfl (Y.ext (v := .slice (some ⟨vb, 0, none⟩) 1 1) (u := .slice (some ⟨b, (i + 1) * 2, none⟩) (n - i) (c - (i + 1))) rfl (F.ev 61 (.slice (some ⟨vb, 0, none⟩) 1 1)) (F.ev 66 (.slice (some ⟨b, (i + 1) * 2, none⟩) (n - i) (c - (i + 1)))) rfl (ovl (fun args => run130 args _) Try.underlying89 Try.siz92 hV hL hvb2 (by rw [hLl]; omega))) ?_;clear F ac;intro ac F
 refine Y.pv F (X.notB rfl (F.ev 67 (.bool false)) rfl) ?_;clear F ac;intro ac F
 refine Y.nt F [(0, .slice (some ⟨b, 0, none⟩) (n + 1) c), (1, Vi i), (2, .slice (some ⟨vb, 0, none⟩) 1 1), (7, Vi 1), (8, Vi n), (68, .bool true)] ?_;clear F ac;intro ac F
 refine Y.condT (F.ev 68 (.bool true)) ?_
 refine Y.seq ?_
 refine Y.regionS F [some (.slice (some ⟨b, 0, none⟩) (n + 1) c), some (Vi i), some (Vi 1), some (Vi ((i : Int) + 1)), some (.slice (some ⟨b, (i + 1) * 2, none⟩) (n - i) (c - (i + 1))), some (.slice (some ⟨b, 0, none⟩) (n + 1) c), some (Vi i), some (.slice (some ⟨b, i * 2, none⟩) (n + 1 - i) (c - i)), some (goInt (Nat.min (n + 1 - i) (n - i)))] [] 8 (fun _ W => HpR W b (L0.take ((i + 1) * 2) ++ (xs.drop (i * 2)) ++ L0.drop ((i + 1) * 2 + (xs.drop (i * 2)).length)) 92 ∧ Only (fun x => x = b) w W) rfl ⟨by kernel_rfl, of_decide_eq_true (by kernel_rfl), by kernel_rfl, by kernel_rfl, by kernel_rfl⟩ (of_decide_eq_true (by kernel_rfl)) ⟨?_, ?_, ?_, ?_, ?_, ?_, ?_, ?_, ?_, trivial⟩ ?_
 ·intro ac done u W Sx hT
  have hs := Sx.no 8 (by kernel_rfl)
  have hR := hT.1 hs
  exact X.vl (X.move rfl (Sx.ev 0 (.slice (some ⟨b, 0, none⟩) (n + 1) c))) (Y.RT.of hs rfl hR.st0)
 ·intro ac done u W Sx hT
  have hs := Sx.no 8 (by kernel_rfl)
  have hR := hT.1 hs
  exact X.vl (X.move rfl (Sx.ev 1 (Vi i))) (Y.RT.of hs rfl hR.st0)
 ·intro ac done u W Sx hT
  have hs := Sx.no 8 (by kernel_rfl)
  have hR := hT.1 hs
  exact X.vl (X.move rfl (Sx.ev 7 (Vi 1))) (Y.RT.of hs rfl hR.st0)
 ·intro ac done u W Sx hT
  have hs := Sx.no 8 (by kernel_rfl)
  have hR := hT.1 hs
  exact X.vl (X.binop rfl (Sx.ev 70 (Vi i)) (Sx.ev 71 (Vi 1)) (X.addI Try.underlying3 rfl (by omega) (by omega))) (Y.RT.of hs rfl hR.st0)
 ·intro ac done u W Sx hT
  have hs := Sx.no 8 (by kernel_rfl)
  have hR := hT.1 hs
  exact X.vl (Y.slL1 (i := i + 1) (q := (i + 1) * 2) (m := n - i) (r := c - (i + 1)) rfl (Sx.ev 69 (.slice (some ⟨b, 0, none⟩) (n + 1) c)) (Sx.ev 72 (Vi ((i : Int) + 1))) Try.underlying89 (Try.siz92 _) (by omega) (by omega) (by omega) (by omega) (by omega) (by omega) (by omega)) (Y.RT.of hs rfl hR.st0)
 ·intro ac done u W Sx hT
  have hs := Sx.no 8 (by kernel_rfl)
  have hR := hT.1 hs
  exact X.vl (X.move rfl (Sx.ev 0 (.slice (some ⟨b, 0, none⟩) (n + 1) c))) (Y.RT.of hs rfl hR.st0)
 ·intro ac done u W Sx hT
  have hs := Sx.no 8 (by kernel_rfl)
  have hR := hT.1 hs
  exact X.vl (X.move rfl (Sx.ev 1 (Vi i))) (Y.RT.of hs rfl hR.st0)
 ·intro ac done u W Sx hT
  have hs := Sx.no 8 (by kernel_rfl)
  have hR := hT.1 hs
  exact X.vl (Y.slL1 (i := i) (q := i * 2) (m := n + 1 - i) (r := c - i) rfl (Sx.ev 74 (.slice (some ⟨b, 0, none⟩) (n + 1) c)) (Sx.ev 75 (Vi i)) Try.underlying89 (Try.siz92 _) (by omega) (by omega) (by omega) (by omega) (by omega) (by omega) (by omega)) (Y.RT.of hs rfl hR.st0)
 ·intro ac done u W Sx hT
  have g : Gr w W := (hT.1 Sx.nd).1
  obtain ⟨W2, hrun, hH2, hon⟩ := HpR.copy (P := Try.prog) (dT := 89) (sT := 89) (ty := 3) (k := 2) (o := (i + 1) * 2) (dLen := n - i) (dCap := c - (i + 1)) (o2 := i * 2) (sLen := n + 1 - i) (sCap := c - i) (cs := (xs.drop (i * 2))) (hL.gr g) (hL.gr g) Try.underlying89 siz92i (by rw [List.length_drop, hxl, show Nat.min (n + 1 - i) (n - i) = n - i from Nat.min_eq_right (by omega)]; omega) (take_get hLx) (by simp only [List.length_append, List.length_take, List.length_drop, hNl, hxl, hLl]; omega) (drop_all hx1 _)
  exact X.vl (Y.cpy rfl (Sx.ev 73 (.slice (some ⟨b, (i + 1) * 2, none⟩) (n - i) (c - (i + 1)))) (Sx.ev 76 (.slice (some ⟨b, i * 2, none⟩) (n + 1 - i) (c - i))) hrun) (Y.RT.fin ⟨hH2, (g.only _).trans hon⟩)
 rintro ac u w7 hs hd hl_ ho ⟨hH2, hon⟩
 replace F : Fr ac 95 [(0, .slice (some ⟨b, 0, none⟩) (n + 1) c), (1, Vi i), (2, .slice (some ⟨vb, 0, none⟩) 1 1)] := X.fr hs hd hl_ _ (by kernel_rfl)
 clear hs hd hl_ ho
 replace hL := hH2
 replace hV := hV.only hon (by omega)
 clear hH2
 have hC9 := ((G.only (fun x => x = b)).step hon (.inl rfl))
 clear hon
 clear G
 have G := Gr.refl w7
 refine X.thenN ?_
 refine Y.sl ?_
 refine Y.pv4 F (X.move rfl (F.ev 0 (.slice (some ⟨b, 0, none⟩) (n + 1) c))) (fun _ F=>X.move rfl (F.ev 1 (Vi i))) (fun _ F=>Y.slL1 (i := i) (q := i * 2) (m := n + 1 - i) (r := c - i) rfl (F.ev 78 (.slice (some ⟨b, 0, none⟩) (n + 1) c)) (F.ev 79 (Vi i)) Try.underlying89 (Try.siz92 _) (by omega) (by omega) (by omega) (by omega) (by omega) (by omega) (by omega)) (fun _ F=>X.move rfl (F.ev 2 (.slice (some ⟨vb, 0, none⟩) 1 1))) ?_;clear F ac;intro ac F
 obtain ⟨w8, hrun, hH2, hon⟩ := HpR.copy (P := Try.prog) (dT := 89) (sT := 89) (ty := 3) (k := 2) (o := i * 2) (dLen := n + 1 - i) (dCap := c - i) (o2 := 0) (sLen := 1) (sCap := 1) (cs := N) hL hV Try.underlying89 siz92i (by rw [hNl, show Nat.min 1 (n + 1 - i) = 1 from Nat.min_eq_left (by omega)]) (self_get N) (by simp only [List.length_append, List.length_take, List.length_drop, hNl, hxl, hLl]; omega) hN1
 refine Y.pv F (Y.cpy rfl (F.ev 80 (.slice (some ⟨b, i * 2, none⟩) (n + 1 - i) (c - i))) (F.ev 81 (.slice (some ⟨vb, 0, none⟩) 1 1)) hrun) ?_
 clear F ac hrun
 intro ac F
 replace hL := hH2
 replace hV := hV.only hon (by omega)
 clear hH2
 replace hC9 := hC9.step hon (.inl rfl)
 clear hon
 clear G
 have G := Gr.refl w8
 refine Y.nt F [(0, .slice (some ⟨b, 0, none⟩) (n + 1) c)] ?_;clear F ac;intro ac F
 refine Y.sg F [(6, .slice (some ⟨b, 0, none⟩) (n + 1) c)] (Y.pv F (X.move rfl (F.ev 0 (.slice (some ⟨b, 0, none⟩) (n + 1) c))) fun ac F=>Y.pv F (X.assign rfl (F.ev 83 (.slice (some ⟨b, 0, none⟩) (n + 1) c))) fun ac F=>Y.fin F) ?_;clear F ac;intro ac F
 refine Y.ret ?_
 refine X.thenR ?_
 have e9 := ins_place (L0 := L0) (M := xs.drop (i * 2)) (R := L0.drop ((i + 1) * 2 + (xs.drop (i * 2)).length)) (N := N) (p := i * 2) (k := 2) hNl (by rw [hLl]; omega)
 rw [show i * 2 + 2 = (i + 1) * 2 by omega] at e9
 have e8 : L0.take (i * 2) = xs.take (i * 2) := by rw [← hLx, List.take_take, Nat.min_eq_left (by omega)]
 rw [e9, e8] at hL
 have hlen9 : (xs.take (i * 2) ++ N ++ xs.drop (i * 2) ++ L0.drop ((i + 1) * 2 + (xs.drop (i * 2)).length)).length = c * 2 := by simp only [List.length_append, List.length_take, List.length_drop, hNl, hxl, hLl]; omega
 exact Y.ret0 (v := .slice (some ⟨b, 0, none⟩) (n + 1) c) F (Y.r1 F) ⟨_, rfl, ins_own hL hBb rfl (by simp only [List.length_append, List.length_take, List.length_drop, hNl, hxl]; omega) hlen9 (by omega) hcm, hC9.mono (fun x _ e => by subst e; rfl), .inl rfl⟩
theorem ins116_any (B vb n i : Nat) (v : Value) (xs N : List Value) (w : World) (hO : OwnR w B 92 2 v n xs) (hx1 : (xs.all fun v => v.oneCell') = true) (hi : i ≤ n) (hn : n ≤ 100000) (hvb : v.ownBlock ≠ some vb) (hV0 : HpR w vb N 92) (hNl : N.length = 2) (hN1 : (N.all fun v => v.oneCell') = true) (hB : B ≤ w.heap.size) :
  Calls Try.prog 116 #[v, Vi i, .slice (some ⟨vb, 0, none⟩) 1 1] w fun e w' => ∃ v', e = .returned v' ∧ OwnR w' B 92 2 v' (n + 1) (xs.take (i * 2) ++ N ++ xs.drop (i * 2)) ∧ Only (fun x => v.ownBlock = some x) w w' ∧ (v'.ownBlock = v.ownBlock ∨ ∃ x, v'.ownBlock = some x ∧ w.heap.size ≤ x) := by
 have hxl := hO.len
 by_cases h : i = n
 ·subst h
  have e1 : xs.take (i * 2) ++ N ++ xs.drop (i * 2) = xs ++ N := by rw [← hxl, List.take_length, List.drop_length, List.append_nil]
  rw [e1]
  rcases hO.shape with ⟨rfl, rfl⟩ | ⟨g, c, rfl, h1, h2⟩
  ·exact ins116_end B vb none 0 0 xs N w hO hn (Nat.le_refl _) hV0 hNl hN1 hB
  ·have hnc : i ≤ c := by
    rcases Nat.eq_zero_or_pos i with h3 | h3
    ·omega
    ·obtain ⟨_, _, _, _, _, h4, _⟩ := hO.row h3; exact h4
   exact ins116_end B vb (some ⟨g, 0, none⟩) i c xs N w hO hn hnc hV0 hNl hN1 hB
 ·have h0 : i < n := by omega
  rcases hO.shape with ⟨_, h3⟩ | ⟨g, c, rfl, h1, h2⟩
  ·omega
  ·obtain ⟨g', L, e, hBb, hL, hnc, hcm, hLl, hLx⟩ := hO.row (by omega)
   injection e with e
   injection e with e
   subst e
   have hne : vb ≠ g := fun e => hvb (by rw [e]; rfl)
   by_cases hr : c < n + 1
   ·exact ins116_grow B g vb n c i L xs N w hL hBb hnc hcm hLl hLx hxl hx1 h0 hn hr hne hV0 hNl hN1 hB
   ·exact ins116_shift B g vb n c i L xs N w hL hBb hnc hcm hLl hLx hxl hx1 h0 hn (by omega) hne hV0 hNl hN1 hB
set_option maxRecDepth 100000 in
set_option maxHeartbeats 1000000 in
theorem ins117_end (B vb : Nat) (a : Option Addr) (n c : Nat) (xs N : List Value) (w : World) (hO : OwnR w B 34 1 (.slice a n c) n xs) (hn : n ≤ 100000) (hnc : n ≤ c) (hV0 : HpR w vb N 34) (hNl : N.length = 1) (hN1 : (N.all fun v => v.oneCell') = true) (hB : B ≤ w.heap.size) :
  Calls Try.prog 117 #[.slice a n c, Vi n, .slice (some ⟨vb, 0, none⟩) 1 1] w fun e w' => ∃ v', e = .returned v' ∧ OwnR w' B 34 1 v' (n + 1) (xs ++ N) ∧ Only (fun x => (Value.slice a n c).ownBlock = some x) w w' ∧ (v'.ownBlock = (Value.slice a n c).ownBlock ∨ ∃ x, v'.ownBlock = some x ∧ w.heap.size ≤ x) := by
 have G := Gr.refl w
 have hV := hV0
 refine Y.calls 95 Try.func117 rfl rfl ?_
 intro ac F0
 have F : Fr ac 95 [(0, .slice a n c), (1, Vi n), (2, .slice (some ⟨vb, 0, none⟩) 1 1)] := F0.sub _
 clear F0
 refine Y.sg F [(0, .slice a n c), (1, Vi n), (2, .slice (some ⟨vb, 0, none⟩) 1 1)] (Y.pv F (X.assign rfl (X.kc (.slice none 0 0) rfl)) fun ac F=>Y.fin F) ?_;clear F ac;intro ac F
 refine Y.sg F [(0, .slice a n c), (1, Vi n), (2, .slice (some ⟨vb, 0, none⟩) 1 1)] (by
  refine Y.pv F (X.move rfl (F.ev 0 (.slice a n c))) fun ac F=>?_
  refine Y.pv F (X.move rfl (F.ev 1 (Vi n))) fun ac F=>?_
  refine Y.pv F (Y.slL (i := n) rfl (F.ev 10 (.slice a n c)) (F.ev 11 (Vi n)) Try.underlying38 (Try.siz34 _) rfl (by omega) (by omega)) fun ac F=>?_
  exact Y.fin F) ?_;clear F ac;intro ac F
 refine Y.sg F [(0, .slice a n c), (1, Vi n), (2, .slice (some ⟨vb, 0, none⟩) 1 1), (7, Vi 1)] (Y.pv F (X.move rfl (F.ev 2 (.slice (some ⟨vb, 0, none⟩) 1 1))) fun ac F=>Y.pv F (X.len1 Try.underlying38 rfl (F.ev 13 (.slice (some ⟨vb, 0, none⟩) 1 1))) fun ac F=>Y.pv F (X.assign rfl (F.ev 14 (Vi 1))) fun ac F=>Y.fin F) ?_;clear F ac;intro ac F
 refine Y.seq ?_
 refine Y.sg F [(0, .slice a n c), (1, Vi n), (2, .slice (some ⟨vb, 0, none⟩) 1 1), (7, Vi 1), (16, .bool false)] (Y.pv F (X.move rfl (F.ev 7 (Vi 1))) fun ac F=>Y.pval F (X.w0 rfl) rfl (X.binop rfl (F.ev 15 (Vi 1)) (X.kc (Vi 0) rfl) (X.eqlI Try.underlying3 (show ((1 : Int) == 0) = false by simp))) fun ac F=>Y.fin F) ?_;clear F ac;intro ac F
 refine Y.condF (F.ev 16 (.bool false)) ?_
 refine Y.skip ?_
 refine X.thenN ?_
 refine Y.sg F [(0, .slice a n c), (1, Vi n), (2, .slice (some ⟨vb, 0, none⟩) 1 1), (7, Vi 1), (8, Vi n)] (Y.pv F (X.move rfl (F.ev 0 (.slice a n c))) fun ac F=>Y.pv F (X.len1 Try.underlying38 rfl (F.ev 18 (.slice a n c))) fun ac F=>Y.pv F (X.assign rfl (F.ev 19 (Vi n))) fun ac F=>Y.fin F) ?_;clear F ac;intro ac F
 refine Y.seq ?_
 refine Y.sg F [(0, .slice a n c), (1, Vi n), (2, .slice (some ⟨vb, 0, none⟩) 1 1), (7, Vi 1), (8, Vi n), (22, .bool true)] (Y.pv F (X.move rfl (F.ev 1 (Vi n))) fun ac F=>Y.pv F (X.move rfl (F.ev 8 (Vi n))) fun ac F=>Y.pval F (X.w0 rfl) rfl (X.binop rfl (F.ev 20 (Vi n)) (F.ev 21 (Vi n)) (X.eqlI Try.underlying3 (show ((n : Int) == n) = true by simp))) fun ac F=>Y.fin F) ?_;clear F ac;intro ac F
 refine Y.condT (F.ev 22 (.bool true)) ?_
 refine Y.sl ?_
 refine Y.pv2 F (X.move rfl (F.ev 0 (.slice a n c))) (fun _ F=>X.move rfl (F.ev 2 (.slice (some ⟨vb, 0, none⟩) 1 1))) ?_;clear F ac;intro ac F
 have hvc := HpR.gr hV G
 have hO2 := OwnR.gr hO G
 have hBW := Nat.le_trans hB G.size
 refine Y.wpL_plain rfl fun _ hK => wp_pushV Try.underlying38 Try.info34 rfl (by decide) rfl (F.ev 23 (.slice a n c)) (F.ev 24 (.slice (some ⟨vb, 0, none⟩) 1 1)) hO2 (m := 1) (news := N) (by omega) (heap_cells hvc (self_get N)) hN1 (by omega) (by decide) hBW (fun v2 w3 hO3 hon hat => hK _ _ ?_)
 refine Y.pput F rfl ?_;clear F ac;intro ac F
 refine Y.pv F (X.assign rfl (F.ev 25 (v2))) ?_;clear F ac;intro ac F
 refine Y.nt F [(6, v2)] ?_;clear F ac;intro ac F
 refine Y.ret ?_
 refine X.thenR ?_
 exact Y.ret0 (v := v2) F (Y.r1 F) ⟨_, rfl, hO3, (G.only _).trans hon, hat.imp (fun z => z) (fun e => ⟨_, e, G.size⟩)⟩
set_option maxRecDepth 100000 in
set_option maxHeartbeats 1000000 in
theorem ins117_grow (B b vb n c i : Nat) (L0 xs N : List Value) (w : World) (hL0 : HpR w b L0 34) (hBb : B ≤ b) (hnc : n ≤ c) (hcm : c ≤ maxLen) (hLl : L0.length = c * 1) (hLx : L0.take (n * 1) = xs) (hxl : xs.length = n * 1) (hx1 : (xs.all fun v => v.oneCell') = true) (hi : i < n) (hn : n ≤ 100000) (hroom : c < n + 1) (hvb : vb ≠ b) (hV0 : HpR w vb N 34) (hNl : N.length = 1) (hN1 : (N.all fun v => v.oneCell') = true) (hB : B ≤ w.heap.size) :
  Calls Try.prog 117 #[.slice (some ⟨b, 0, none⟩) n c, Vi i, .slice (some ⟨vb, 0, none⟩) 1 1] w fun e w' => ∃ v', e = .returned v' ∧ OwnR w' B 34 1 v' (n + 1) (xs.take (i * 1) ++ N ++ xs.drop (i * 1)) ∧ Only (fun x => (Value.slice (some ⟨b, 0, none⟩) n c).ownBlock = some x) w w' ∧ (v'.ownBlock = (Value.slice (some ⟨b, 0, none⟩) n c).ownBlock ∨ ∃ x, v'.ownBlock = some x ∧ w.heap.size ≤ x) := by
 have G := Gr.refl w
 have hL := hL0
 have hV := hV0
 have hbl9 := hL0.lt
 have hvl9 := hV0.lt
 have hvb2 := hvb
 refine Y.calls 95 Try.func117 rfl rfl ?_
 intro ac F0
 have F : Fr ac 95 [(0, .slice (some ⟨b, 0, none⟩) n c), (1, Vi i), (2, .slice (some ⟨vb, 0, none⟩) 1 1)] := F0.sub _
 clear F0
 refine Y.sg F [(0, .slice (some ⟨b, 0, none⟩) n c), (1, Vi i), (2, .slice (some ⟨vb, 0, none⟩) 1 1)] (Y.pv F (X.assign rfl (X.kc (.slice none 0 0) rfl)) fun ac F=>Y.fin F) ?_;clear F ac;intro ac F
 refine Y.sg F [(0, .slice (some ⟨b, 0, none⟩) n c), (1, Vi i), (2, .slice (some ⟨vb, 0, none⟩) 1 1)] (by
  refine Y.pv F (X.move rfl (F.ev 0 (.slice (some ⟨b, 0, none⟩) n c))) fun ac F=>?_
  refine Y.pv F (X.move rfl (F.ev 1 (Vi i))) fun ac F=>?_
  refine Y.pv F (Y.slL1 (i := i) (q := i * 1) (m := n - i) (r := c - i) rfl (F.ev 10 (.slice (some ⟨b, 0, none⟩) n c)) (F.ev 11 (Vi i)) Try.underlying38 (Try.siz34 _) (by omega) (by omega) (by omega) (by omega) (by omega) (by omega) (by omega)) fun ac F=>?_
  exact Y.fin F) ?_;clear F ac;intro ac F
 refine Y.sg F [(0, .slice (some ⟨b, 0, none⟩) n c), (1, Vi i), (2, .slice (some ⟨vb, 0, none⟩) 1 1), (7, Vi 1)] (Y.pv F (X.move rfl (F.ev 2 (.slice (some ⟨vb, 0, none⟩) 1 1))) fun ac F=>Y.pv F (X.len1 Try.underlying38 rfl (F.ev 13 (.slice (some ⟨vb, 0, none⟩) 1 1))) fun ac F=>Y.pv F (X.assign rfl (F.ev 14 (Vi 1))) fun ac F=>Y.fin F) ?_;clear F ac;intro ac F
 refine Y.seq ?_
 refine Y.sg F [(0, .slice (some ⟨b, 0, none⟩) n c), (1, Vi i), (2, .slice (some ⟨vb, 0, none⟩) 1 1), (7, Vi 1), (16, .bool false)] (Y.pv F (X.move rfl (F.ev 7 (Vi 1))) fun ac F=>Y.pval F (X.w0 rfl) rfl (X.binop rfl (F.ev 15 (Vi 1)) (X.kc (Vi 0) rfl) (X.eqlI Try.underlying3 (show ((1 : Int) == 0) = false by simp))) fun ac F=>Y.fin F) ?_;clear F ac;intro ac F
 refine Y.condF (F.ev 16 (.bool false)) ?_
 refine Y.skip ?_
 refine X.thenN ?_
 refine Y.sg F [(0, .slice (some ⟨b, 0, none⟩) n c), (1, Vi i), (2, .slice (some ⟨vb, 0, none⟩) 1 1), (7, Vi 1), (8, Vi n)] (Y.pv F (X.move rfl (F.ev 0 (.slice (some ⟨b, 0, none⟩) n c))) fun ac F=>Y.pv F (X.len1 Try.underlying38 rfl (F.ev 18 (.slice (some ⟨b, 0, none⟩) n c))) fun ac F=>Y.pv F (X.assign rfl (F.ev 19 (Vi n))) fun ac F=>Y.fin F) ?_;clear F ac;intro ac F
 refine Y.seq ?_
 refine Y.sg F [(0, .slice (some ⟨b, 0, none⟩) n c), (1, Vi i), (2, .slice (some ⟨vb, 0, none⟩) 1 1), (7, Vi 1), (8, Vi n), (22, .bool ((i : Int) == n))] (Y.pv F (X.move rfl (F.ev 1 (Vi i))) fun ac F=>Y.pv F (X.move rfl (F.ev 8 (Vi n))) fun ac F=>Y.pv F (X.binop rfl (F.ev 20 (Vi i)) (F.ev 21 (Vi n)) (X.eqlI Try.underlying3 rfl)) fun ac F=>Y.fin F) ?_;clear F ac;intro ac F
 have h4 : ((i : Int) == n) = false := beq_eq_false_iff_ne.2 (by omega)
 try rw [h4] at F
 refine Y.condF (F.ev 22 (.bool false)) ?_
 refine Y.skip ?_
 refine X.thenN ?_
 refine Y.seq ?_
 refine Y.sg F [(0, .slice (some ⟨b, 0, none⟩) n c), (1, Vi i), (2, .slice (some ⟨vb, 0, none⟩) 1 1), (7, Vi 1), (8, Vi n), (31, .bool (decide ((c : Int) < ((n : Int) + 1))))] (by
  refine Y.pv F (X.move rfl (F.ev 8 (Vi n))) fun ac F=>?_
  refine Y.pv F (X.move rfl (F.ev 7 (Vi 1))) fun ac F=>?_
  refine Y.pv F (X.binop rfl (F.ev 26 (Vi n)) (F.ev 27 (Vi 1)) (X.addI Try.underlying3 rfl (by omega) (by omega))) fun ac F=>?_
  refine Y.pv F (X.move rfl (F.ev 0 (.slice (some ⟨b, 0, none⟩) n c))) fun ac F=>?_
  refine Y.pv F (Y.cap Try.underlying38 rfl (F.ev 29 (.slice (some ⟨b, 0, none⟩) n c))) fun ac F=>?_
  refine Y.pv F (X.binop rfl (F.ev 28 (Vi ((n : Int) + 1))) (F.ev 30 (Vi c)) (X.gtrI Try.underlying3 rfl)) fun ac F=>?_
  exact Y.fin F) ?_;clear F ac;intro ac F
 have h6 : decide ((c : Int) < ((n : Int) + 1)) = true := decide_eq_true (by omega)
 have h6p : ((c : Int) < ((n : Int) + 1)) := of_decide_eq_true h6
 try rw [h6] at F
 refine Y.condT (F.ev 31 (.bool true)) ?_
 refine Y.sl ?_
 refine Y.pv4 F (X.move rfl (F.ev 0 (.slice (some ⟨b, 0, none⟩) n c))) (fun _ F=>X.move rfl (F.ev 1 (Vi i))) (fun _ F=>Y.slH (k := i) rfl (F.ev 32 (.slice (some ⟨b, 0, none⟩) n c)) (F.ev 33 (Vi i)) Try.underlying38 (Try.siz34 _) (by omega) (by omega)) (fun _ F=>X.move rfl (F.ev 8 (Vi n))) ?_;clear F ac;intro ac F
 refine Y.pv4 F (X.move rfl (F.ev 7 (Vi 1))) (fun _ F=>X.binop rfl (F.ev 35 (Vi n)) (F.ev 36 (Vi 1)) (X.addI Try.underlying3 rfl (by omega) (by omega))) (fun _ F=>X.move rfl (F.ev 1 (Vi i))) (fun _ F=>X.binop rfl (F.ev 37 (Vi ((n : Int) + 1))) (F.ev 38 (Vi i)) (X.subI Try.underlying3 rfl (by omega) (by omega))) ?_;clear F ac;intro ac F
 obtain ⟨w7, cg, Z, hrun, hN, hZl, hnG, hGm, gn⟩ := HpR.grow (P := Try.prog) (t := 38) (tn := 3) (ty := 38) (xs := xs.take (i * 1)) (n := n) (i := i) (c := c) (HpR.gr hL G) Try.underlying38 Try.underlying3 Try.info34 rfl (by decide) (by rw [List.length_take, hxl]; exact Nat.min_eq_left (by omega)) (take_get0 hLx) (by omega) (by omega) (by omega) (by decide)
 have hgs := G.size
 have hbl := hL.lt
 have hvl := hV.lt
 refine Y.pv F (Y.apz rfl (F.ev 34 (.slice (some ⟨b, 0, none⟩) i c)) (F.ev 39 (Vi (((n : Int) + 1 : Int) - i))) hrun) ?_
 clear F ac hrun
 intro ac F
 have g0 := G
 replace G := G.trans gn
 replace hL := hL.gr G
 replace hV := hV.gr G
 clear gn
 refine Y.pv F (X.assign rfl (F.ev 40 (.slice (some ⟨w.heap.size, 0, none⟩) (n + 1) cg))) ?_;clear F ac;intro ac F
 refine Y.nt F [(0, .slice (some ⟨b, 0, none⟩) n c), (1, Vi i), (2, .slice (some ⟨vb, 0, none⟩) 1 1), (7, Vi 1), (9, .slice (some ⟨w.heap.size, 0, none⟩) (n + 1) cg)] ?_;clear F ac;intro ac F
 refine Y.sl ?_
 refine Y.pv4 F (X.move rfl (F.ev 9 (.slice (some ⟨w.heap.size, 0, none⟩) (n + 1) cg))) (fun _ F=>X.move rfl (F.ev 1 (Vi i))) (fun _ F=>Y.slL1 (i := i) (q := i * 1) (m := n + 1 - i) (r := cg - i) rfl (F.ev 41 (.slice (some ⟨w.heap.size, 0, none⟩) (n + 1) cg)) (F.ev 42 (Vi i)) Try.underlying38 (Try.siz34 _) (by omega) (by omega) (by omega) (by omega) (by omega) (by omega) (by omega)) (fun _ F=>X.move rfl (F.ev 2 (.slice (some ⟨vb, 0, none⟩) 1 1))) ?_;clear F ac;intro ac F
 obtain ⟨w8, hrun, hH2, hon⟩ := HpR.copy (P := Try.prog) (dT := 38) (sT := 38) (ty := 3) (k := 1) (o := i * 1) (dLen := n + 1 - i) (dCap := cg - i) (o2 := 0) (sLen := 1) (sCap := 1) (cs := N) hN hV Try.underlying38 siz34i (by rw [hNl, show Nat.min 1 (n + 1 - i) = 1 from Nat.min_eq_left (by omega)]) (self_get N) (by have h8 := hZl; simp only [List.length_append, List.length_take, List.length_drop, hNl, hxl, hLl] at h8 ⊢; omega) hN1
 refine Y.pv F (Y.cpy rfl (F.ev 43 (.slice (some ⟨w.heap.size, i * 1, none⟩) (n + 1 - i) (cg - i))) (F.ev 44 (.slice (some ⟨vb, 0, none⟩) 1 1)) hrun) ?_
 clear F ac hrun
 intro ac F
 replace hL := hL.only hon (by omega)
 replace hV := hV.only hon (by omega)
 replace hN := hH2
 clear hH2
 have hC9 := ((G.only (fun x => x = b)).step hon (.inr (by omega)))
 clear hon
 clear G
 have G := Gr.refl w8
 refine Y.nt F [(0, .slice (some ⟨b, 0, none⟩) n c), (1, Vi i), (7, Vi 1), (9, .slice (some ⟨w.heap.size, 0, none⟩) (n + 1) cg)] ?_;clear F ac;intro ac F
 refine Y.seq ?_
 refine Y.regionS F [some (.slice (some ⟨w.heap.size, 0, none⟩) (n + 1) cg), some (Vi i), some (Vi 1), some (Vi ((i : Int) + 1)), some (.slice (some ⟨w.heap.size, (i + 1) * 1, none⟩) (n - i) (cg - (i + 1))), some (.slice (some ⟨b, 0, none⟩) n c), some (Vi i), some (.slice (some ⟨b, i * 1, none⟩) (n - i) (c - i)), some (goInt (Nat.min (n - i) (n - i)))] [] 8 (fun _ W => HpR W w.heap.size (((xs.take (i * 1) ++ Z).take (i * 1) ++ N ++ (xs.take (i * 1) ++ Z).drop (i * 1 + N.length)).take ((i + 1) * 1) ++ (xs.drop (i * 1)) ++ ((xs.take (i * 1) ++ Z).take (i * 1) ++ N ++ (xs.take (i * 1) ++ Z).drop (i * 1 + N.length)).drop ((i + 1) * 1 + (xs.drop (i * 1)).length)) 34 ∧ Only (fun x => x = w.heap.size) w8 W) rfl ⟨by kernel_rfl, of_decide_eq_true (by kernel_rfl), by kernel_rfl, by kernel_rfl, by kernel_rfl⟩ (of_decide_eq_true (by kernel_rfl)) ⟨?_, ?_, ?_, ?_, ?_, ?_, ?_, ?_, ?_, trivial⟩ ?_
 ·intro ac done u W Sx hT
  have hs := Sx.no 8 (by kernel_rfl)
  have hR := hT.1 hs
  exact X.vl (X.move rfl (Sx.ev 9 (.slice (some ⟨w.heap.size, 0, none⟩) (n + 1) cg))) (Y.RT.of hs rfl hR.st0)
 ·intro ac done u W Sx hT
  have hs := Sx.no 8 (by kernel_rfl)
  have hR := hT.1 hs
  exact X.vl (X.move rfl (Sx.ev 1 (Vi i))) (Y.RT.of hs rfl hR.st0)
 ·intro ac done u W Sx hT
  have hs := Sx.no 8 (by kernel_rfl)
  have hR := hT.1 hs
  exact X.vl (X.move rfl (Sx.ev 7 (Vi 1))) (Y.RT.of hs rfl hR.st0)
 ·intro ac done u W Sx hT
  have hs := Sx.no 8 (by kernel_rfl)
  have hR := hT.1 hs
  exact X.vl (X.binop rfl (Sx.ev 47 (Vi i)) (Sx.ev 48 (Vi 1)) (X.addI Try.underlying3 rfl (by omega) (by omega))) (Y.RT.of hs rfl hR.st0)
 ·intro ac done u W Sx hT
  have hs := Sx.no 8 (by kernel_rfl)
  have hR := hT.1 hs
  exact X.vl (Y.slL1 (i := i + 1) (q := (i + 1) * 1) (m := n - i) (r := cg - (i + 1)) rfl (Sx.ev 46 (.slice (some ⟨w.heap.size, 0, none⟩) (n + 1) cg)) (Sx.ev 49 (Vi ((i : Int) + 1))) Try.underlying38 (Try.siz34 _) (by omega) (by omega) (by omega) (by omega) (by omega) (by omega) (by omega)) (Y.RT.of hs rfl hR.st0)
 ·intro ac done u W Sx hT
  have hs := Sx.no 8 (by kernel_rfl)
  have hR := hT.1 hs
  exact X.vl (X.move rfl (Sx.ev 0 (.slice (some ⟨b, 0, none⟩) n c))) (Y.RT.of hs rfl hR.st0)
 ·intro ac done u W Sx hT
  have hs := Sx.no 8 (by kernel_rfl)
  have hR := hT.1 hs
  exact X.vl (X.move rfl (Sx.ev 1 (Vi i))) (Y.RT.of hs rfl hR.st0)
 ·intro ac done u W Sx hT
  have hs := Sx.no 8 (by kernel_rfl)
  have hR := hT.1 hs
  exact X.vl (Y.slL1 (i := i) (q := i * 1) (m := n - i) (r := c - i) rfl (Sx.ev 51 (.slice (some ⟨b, 0, none⟩) n c)) (Sx.ev 52 (Vi i)) Try.underlying38 (Try.siz34 _) (by omega) (by omega) (by omega) (by omega) (by omega) (by omega) (by omega)) (Y.RT.of hs rfl hR.st0)
 ·intro ac done u W Sx hT
  have g : Gr w8 W := (hT.1 Sx.nd).1
  obtain ⟨W2, hrun, hH2, hon⟩ := HpR.copy (P := Try.prog) (dT := 38) (sT := 38) (ty := 3) (k := 1) (o := (i + 1) * 1) (dLen := n - i) (dCap := cg - (i + 1)) (o2 := i * 1) (sLen := n - i) (sCap := c - i) (cs := (xs.drop (i * 1))) (hN.gr g) (hL.gr g) Try.underlying38 siz34i (by rw [List.length_drop, hxl, show Nat.min (n - i) (n - i) = n - i from Nat.min_self _]; omega) (take_get hLx) (by have h8 := hZl; simp only [List.length_append, List.length_take, List.length_drop, hNl, hxl, hLl] at h8 ⊢; omega) (drop_all hx1 _)
  exact X.vl (Y.cpy rfl (Sx.ev 50 (.slice (some ⟨w.heap.size, (i + 1) * 1, none⟩) (n - i) (cg - (i + 1)))) (Sx.ev 53 (.slice (some ⟨b, i * 1, none⟩) (n - i) (c - i))) hrun) (Y.RT.fin ⟨hH2, (g.only _).trans hon⟩)
 rintro ac u w9 hs hd hl_ ho ⟨hH2, hon⟩
 replace F : Fr ac 95 [(9, .slice (some ⟨w.heap.size, 0, none⟩) (n + 1) cg)] := X.fr hs hd hl_ _ (by kernel_rfl)
 clear hs hd hl_ ho
 replace hL := hL.only hon (by omega)
 replace hV := hV.only hon (by omega)
 replace hN := hH2
 clear hH2
 replace hC9 := hC9.step hon (.inr (by omega))
 clear hon
 clear G
 have G := Gr.refl w9
 refine X.thenN ?_
 refine Y.sg F [(6, .slice (some ⟨w.heap.size, 0, none⟩) (n + 1) cg)] (Y.pv F (X.move rfl (F.ev 9 (.slice (some ⟨w.heap.size, 0, none⟩) (n + 1) cg))) fun ac F=>Y.pv F (X.assign rfl (F.ev 55 (.slice (some ⟨w.heap.size, 0, none⟩) (n + 1) cg))) fun ac F=>Y.fin F) ?_;clear F ac;intro ac F
 refine Y.ret ?_
 refine X.thenR ?_
 have e9 := ins_new (A := xs.take (i * 1)) (Z := Z) (M := xs.drop (i * 1)) (N := N) (p := i * 1) (k := 1) (m := (n - i) * 1) (by rw [List.length_take, hxl]; exact Nat.min_eq_left (by omega)) hNl (by rw [List.length_drop, hxl]; omega) (by have h8 := hZl; rw [List.length_append, List.length_take, hxl] at h8; omega)
 rw [show i * 1 + 1 = (i + 1) * 1 by omega] at e9
 rw [e9] at hN
 have hlen9 : (xs.take (i * 1) ++ N ++ xs.drop (i * 1) ++ Z.drop (1 + (n - i) * 1)).length = cg * 1 := by have h8 := hZl; simp only [List.length_append, List.length_take, List.length_drop, hNl, hxl] at h8 ⊢; omega
 exact Y.ret0 (v := .slice (some ⟨w.heap.size, 0, none⟩) (n + 1) cg) F (Y.r1 F) ⟨_, rfl, ins_own hN (by omega) rfl (by simp only [List.length_append, List.length_take, List.length_drop, hNl, hxl]; omega) hlen9 hnG hGm, hC9.mono (fun x _ e => by subst e; rfl), .inr ⟨_, rfl, hgs⟩⟩
set_option maxRecDepth 100000 in
set_option maxHeartbeats 1000000 in
theorem ins117_shift (B b vb n c i : Nat) (L0 xs N : List Value) (w : World) (hL0 : HpR w b L0 34) (hBb : B ≤ b) (hnc : n ≤ c) (hcm : c ≤ maxLen) (hLl : L0.length = c * 1) (hLx : L0.take (n * 1) = xs) (hxl : xs.length = n * 1) (hx1 : (xs.all fun v => v.oneCell') = true) (hi : i < n) (hn : n ≤ 100000) (hroom : n + 1 ≤ c) (hvb : vb ≠ b) (hV0 : HpR w vb N 34) (hNl : N.length = 1) (hN1 : (N.all fun v => v.oneCell') = true) (hB : B ≤ w.heap.size) :
  Calls Try.prog 117 #[.slice (some ⟨b, 0, none⟩) n c, Vi i, .slice (some ⟨vb, 0, none⟩) 1 1] w fun e w' => ∃ v', e = .returned v' ∧ OwnR w' B 34 1 v' (n + 1) (xs.take (i * 1) ++ N ++ xs.drop (i * 1)) ∧ Only (fun x => (Value.slice (some ⟨b, 0, none⟩) n c).ownBlock = some x) w w' ∧ (v'.ownBlock = (Value.slice (some ⟨b, 0, none⟩) n c).ownBlock ∨ ∃ x, v'.ownBlock = some x ∧ w.heap.size ≤ x) := by
 have G := Gr.refl w
 have hL := hL0
 have hV := hV0
 have hbl9 := hL0.lt
 have hvl9 := hV0.lt
 have hvb2 := hvb
 refine Y.calls 95 Try.func117 rfl rfl ?_
 intro ac F0
 have F : Fr ac 95 [(0, .slice (some ⟨b, 0, none⟩) n c), (1, Vi i), (2, .slice (some ⟨vb, 0, none⟩) 1 1)] := F0.sub _
 clear F0
 refine Y.sg F [(0, .slice (some ⟨b, 0, none⟩) n c), (1, Vi i), (2, .slice (some ⟨vb, 0, none⟩) 1 1)] (Y.pv F (X.assign rfl (X.kc (.slice none 0 0) rfl)) fun ac F=>Y.fin F) ?_;clear F ac;intro ac F
 refine Y.sg F [(0, .slice (some ⟨b, 0, none⟩) n c), (1, Vi i), (2, .slice (some ⟨vb, 0, none⟩) 1 1)] (by
  refine Y.pv F (X.move rfl (F.ev 0 (.slice (some ⟨b, 0, none⟩) n c))) fun ac F=>?_
  refine Y.pv F (X.move rfl (F.ev 1 (Vi i))) fun ac F=>?_
  refine Y.pv F (Y.slL1 (i := i) (q := i * 1) (m := n - i) (r := c - i) rfl (F.ev 10 (.slice (some ⟨b, 0, none⟩) n c)) (F.ev 11 (Vi i)) Try.underlying38 (Try.siz34 _) (by omega) (by omega) (by omega) (by omega) (by omega) (by omega) (by omega)) fun ac F=>?_
  exact Y.fin F) ?_;clear F ac;intro ac F
 refine Y.sg F [(0, .slice (some ⟨b, 0, none⟩) n c), (1, Vi i), (2, .slice (some ⟨vb, 0, none⟩) 1 1), (7, Vi 1)] (Y.pv F (X.move rfl (F.ev 2 (.slice (some ⟨vb, 0, none⟩) 1 1))) fun ac F=>Y.pv F (X.len1 Try.underlying38 rfl (F.ev 13 (.slice (some ⟨vb, 0, none⟩) 1 1))) fun ac F=>Y.pv F (X.assign rfl (F.ev 14 (Vi 1))) fun ac F=>Y.fin F) ?_;clear F ac;intro ac F
 refine Y.seq ?_
 refine Y.sg F [(0, .slice (some ⟨b, 0, none⟩) n c), (1, Vi i), (2, .slice (some ⟨vb, 0, none⟩) 1 1), (7, Vi 1), (16, .bool false)] (Y.pv F (X.move rfl (F.ev 7 (Vi 1))) fun ac F=>Y.pval F (X.w0 rfl) rfl (X.binop rfl (F.ev 15 (Vi 1)) (X.kc (Vi 0) rfl) (X.eqlI Try.underlying3 (show ((1 : Int) == 0) = false by simp))) fun ac F=>Y.fin F) ?_;clear F ac;intro ac F
 refine Y.condF (F.ev 16 (.bool false)) ?_
 refine Y.skip ?_
 refine X.thenN ?_
 refine Y.sg F [(0, .slice (some ⟨b, 0, none⟩) n c), (1, Vi i), (2, .slice (some ⟨vb, 0, none⟩) 1 1), (7, Vi 1), (8, Vi n)] (Y.pv F (X.move rfl (F.ev 0 (.slice (some ⟨b, 0, none⟩) n c))) fun ac F=>Y.pv F (X.len1 Try.underlying38 rfl (F.ev 18 (.slice (some ⟨b, 0, none⟩) n c))) fun ac F=>Y.pv F (X.assign rfl (F.ev 19 (Vi n))) fun ac F=>Y.fin F) ?_;clear F ac;intro ac F
 refine Y.seq ?_
 refine Y.sg F [(0, .slice (some ⟨b, 0, none⟩) n c), (1, Vi i), (2, .slice (some ⟨vb, 0, none⟩) 1 1), (7, Vi 1), (8, Vi n), (22, .bool ((i : Int) == n))] (Y.pv F (X.move rfl (F.ev 1 (Vi i))) fun ac F=>Y.pv F (X.move rfl (F.ev 8 (Vi n))) fun ac F=>Y.pv F (X.binop rfl (F.ev 20 (Vi i)) (F.ev 21 (Vi n)) (X.eqlI Try.underlying3 rfl)) fun ac F=>Y.fin F) ?_;clear F ac;intro ac F
 have h4 : ((i : Int) == n) = false := beq_eq_false_iff_ne.2 (by omega)
 try rw [h4] at F
 refine Y.condF (F.ev 22 (.bool false)) ?_
 refine Y.skip ?_
 refine X.thenN ?_
 refine Y.seq ?_
 refine Y.sg F [(0, .slice (some ⟨b, 0, none⟩) n c), (1, Vi i), (2, .slice (some ⟨vb, 0, none⟩) 1 1), (7, Vi 1), (8, Vi n), (31, .bool (decide ((c : Int) < ((n : Int) + 1))))] (by
  refine Y.pv F (X.move rfl (F.ev 8 (Vi n))) fun ac F=>?_
  refine Y.pv F (X.move rfl (F.ev 7 (Vi 1))) fun ac F=>?_
  refine Y.pv F (X.binop rfl (F.ev 26 (Vi n)) (F.ev 27 (Vi 1)) (X.addI Try.underlying3 rfl (by omega) (by omega))) fun ac F=>?_
  refine Y.pv F (X.move rfl (F.ev 0 (.slice (some ⟨b, 0, none⟩) n c))) fun ac F=>?_
  refine Y.pv F (Y.cap Try.underlying38 rfl (F.ev 29 (.slice (some ⟨b, 0, none⟩) n c))) fun ac F=>?_
  refine Y.pv F (X.binop rfl (F.ev 28 (Vi ((n : Int) + 1))) (F.ev 30 (Vi c)) (X.gtrI Try.underlying3 rfl)) fun ac F=>?_
  exact Y.fin F) ?_;clear F ac;intro ac F
 have h6 : decide ((c : Int) < ((n : Int) + 1)) = false := decide_eq_false (by omega)
 have h6p : ¬ ((c : Int) < ((n : Int) + 1)) := of_decide_eq_false h6
 try rw [h6] at F
 refine Y.condF (F.ev 31 (.bool false)) ?_
 refine Y.skip ?_
 refine X.thenN ?_
 refine Y.sg F [(0, .slice (some ⟨b, 0, none⟩) (n + 1) c), (1, Vi i), (2, .slice (some ⟨vb, 0, none⟩) 1 1), (7, Vi 1), (8, Vi n)] (by
  refine Y.pv F (X.move rfl (F.ev 0 (.slice (some ⟨b, 0, none⟩) n c))) fun ac F=>?_
  refine Y.pv F (X.move rfl (F.ev 8 (Vi n))) fun ac F=>?_
  refine Y.pv F (X.move rfl (F.ev 7 (Vi 1))) fun ac F=>?_
  refine Y.pv F (X.binop rfl (F.ev 57 (Vi n)) (F.ev 58 (Vi 1)) (X.addI Try.underlying3 rfl (by omega) (by omega))) fun ac F=>?_
  refine Y.pv F (Y.slH (k := n + 1) rfl (F.ev 56 (.slice (some ⟨b, 0, none⟩) n c)) (F.ev 59 (Vi ((n : Int) + 1))) Try.underlying38 (Try.siz34 _) (by omega) (by omega)) fun ac F=>?_
  refine Y.pv F (X.assign rfl (F.ev 60 (.slice (some ⟨b, 0, none⟩) (n + 1) c))) fun ac F=>?_
  exact Y.fin F) ?_;clear F ac;intro ac F
 refine Y.seq ?_
 refine Y.sl ?_
 refine Y.pv4 F (X.move rfl (F.ev 2 (.slice (some ⟨vb, 0, none⟩) 1 1))) (fun _ F=>X.move rfl (F.ev 0 (.slice (some ⟨b, 0, none⟩) (n + 1) c))) (fun _ F=>X.move rfl (F.ev 1 (Vi i))) (fun _ F=>X.move rfl (F.ev 7 (Vi 1))) ?_;clear F ac;intro ac F
 refine Y.pv2 F (X.binop rfl (F.ev 63 (Vi i)) (F.ev 64 (Vi 1)) (X.addI Try.underlying3 rfl (by omega) (by omega))) (fun _ F=>Y.slL1 (i := i + 1) (q := (i + 1) * 1) (m := n - i) (r := c - (i + 1)) rfl (F.ev 62 (.slice (some ⟨b, 0, none⟩) (n + 1) c)) (F.ev 65 (Vi ((i : Int) + 1))) Try.underlying38 (Try.siz34 _) (by omega) (by omega) (by omega) (by omega) (by omega) (by omega) (by omega)) ?_;clear F ac;intro ac F
 refine Y.pval F (X.w0 rfl) rfl (Y.ext (v := .slice (some ⟨vb, 0, none⟩) 1 1) (u := .slice (some ⟨b, (i + 1) * 1, none⟩) (n - i) (c - (i + 1))) rfl (F.ev 61 (.slice (some ⟨vb, 0, none⟩) 1 1)) (F.ev 66 (.slice (some ⟨b, (i + 1) * 1, none⟩) (n - i) (c - (i + 1)))) rfl (ovl (fun args => run132 args _) Try.underlying38 Try.siz34 hV hL hvb2 (by rw [hLl]; omega))) ?_;clear F ac;intro ac F
 refine Y.pv F (X.notB rfl (F.ev 67 (.bool false)) rfl) ?_;clear F ac;intro ac F
 refine Y.nt F [(0, .slice (some ⟨b, 0, none⟩) (n + 1) c), (1, Vi i), (2, .slice (some ⟨vb, 0, none⟩) 1 1), (7, Vi 1), (8, Vi n), (68, .bool true)] ?_;clear F ac;intro ac F
 refine Y.condT (F.ev 68 (.bool true)) ?_
 refine Y.seq ?_
 refine Y.regionS F [some (.slice (some ⟨b, 0, none⟩) (n + 1) c), some (Vi i), some (Vi 1), some (Vi ((i : Int) + 1)), some (.slice (some ⟨b, (i + 1) * 1, none⟩) (n - i) (c - (i + 1))), some (.slice (some ⟨b, 0, none⟩) (n + 1) c), some (Vi i), some (.slice (some ⟨b, i * 1, none⟩) (n + 1 - i) (c - i)), some (goInt (Nat.min (n + 1 - i) (n - i)))] [] 8 (fun _ W => HpR W b (L0.take ((i + 1) * 1) ++ (xs.drop (i * 1)) ++ L0.drop ((i + 1) * 1 + (xs.drop (i * 1)).length)) 34 ∧ Only (fun x => x = b) w W) rfl ⟨by kernel_rfl, of_decide_eq_true (by kernel_rfl), by kernel_rfl, by kernel_rfl, by kernel_rfl⟩ (of_decide_eq_true (by kernel_rfl)) ⟨?_, ?_, ?_, ?_, ?_, ?_, ?_, ?_, ?_, trivial⟩ ?_
 ·intro ac done u W Sx hT
  have hs := Sx.no 8 (by kernel_rfl)
  have hR := hT.1 hs
  exact X.vl (X.move rfl (Sx.ev 0 (.slice (some ⟨b, 0, none⟩) (n + 1) c))) (Y.RT.of hs rfl hR.st0)
 ·intro ac done u W Sx hT
  have hs := Sx.no 8 (by kernel_rfl)
  have hR := hT.1 hs
  exact X.vl (X.move rfl (Sx.ev 1 (Vi i))) (Y.RT.of hs rfl hR.st0)
 ·intro ac done u W Sx hT
  have hs := Sx.no 8 (by kernel_rfl)
  have hR := hT.1 hs
  exact X.vl (X.move rfl (Sx.ev 7 (Vi 1))) (Y.RT.of hs rfl hR.st0)
 ·intro ac done u W Sx hT
  have hs := Sx.no 8 (by kernel_rfl)
  have hR := hT.1 hs
  exact X.vl (X.binop rfl (Sx.ev 70 (Vi i)) (Sx.ev 71 (Vi 1)) (X.addI Try.underlying3 rfl (by omega) (by omega))) (Y.RT.of hs rfl hR.st0)
 ·intro ac done u W Sx hT
  have hs := Sx.no 8 (by kernel_rfl)
  have hR := hT.1 hs
  exact X.vl (Y.slL1 (i := i + 1) (q := (i + 1) * 1) (m := n - i) (r := c - (i + 1)) rfl (Sx.ev 69 (.slice (some ⟨b, 0, none⟩) (n + 1) c)) (Sx.ev 72 (Vi ((i : Int) + 1))) Try.underlying38 (Try.siz34 _) (by omega) (by omega) (by omega) (by omega) (by omega) (by omega) (by omega)) (Y.RT.of hs rfl hR.st0)
 ·intro ac done u W Sx hT
  have hs := Sx.no 8 (by kernel_rfl)
  have hR := hT.1 hs
  exact X.vl (X.move rfl (Sx.ev 0 (.slice (some ⟨b, 0, none⟩) (n + 1) c))) (Y.RT.of hs rfl hR.st0)
 ·intro ac done u W Sx hT
  have hs := Sx.no 8 (by kernel_rfl)
  have hR := hT.1 hs
  exact X.vl (X.move rfl (Sx.ev 1 (Vi i))) (Y.RT.of hs rfl hR.st0)
 ·intro ac done u W Sx hT
  have hs := Sx.no 8 (by kernel_rfl)
  have hR := hT.1 hs
  exact X.vl (Y.slL1 (i := i) (q := i * 1) (m := n + 1 - i) (r := c - i) rfl (Sx.ev 74 (.slice (some ⟨b, 0, none⟩) (n + 1) c)) (Sx.ev 75 (Vi i)) Try.underlying38 (Try.siz34 _) (by omega) (by omega) (by omega) (by omega) (by omega) (by omega) (by omega)) (Y.RT.of hs rfl hR.st0)
 ·intro ac done u W Sx hT
  have g : Gr w W := (hT.1 Sx.nd).1
  obtain ⟨W2, hrun, hH2, hon⟩ := HpR.copy (P := Try.prog) (dT := 38) (sT := 38) (ty := 3) (k := 1) (o := (i + 1) * 1) (dLen := n - i) (dCap := c - (i + 1)) (o2 := i * 1) (sLen := n + 1 - i) (sCap := c - i) (cs := (xs.drop (i * 1))) (hL.gr g) (hL.gr g) Try.underlying38 siz34i (by rw [List.length_drop, hxl, show Nat.min (n + 1 - i) (n - i) = n - i from Nat.min_eq_right (by omega)]; omega) (take_get hLx) (by simp only [List.length_append, List.length_take, List.length_drop, hNl, hxl, hLl]; omega) (drop_all hx1 _)
  exact X.vl (Y.cpy rfl (Sx.ev 73 (.slice (some ⟨b, (i + 1) * 1, none⟩) (n - i) (c - (i + 1)))) (Sx.ev 76 (.slice (some ⟨b, i * 1, none⟩) (n + 1 - i) (c - i))) hrun) (Y.RT.fin ⟨hH2, (g.only _).trans hon⟩)
 rintro ac u w7 hs hd hl_ ho ⟨hH2, hon⟩
 replace F : Fr ac 95 [(0, .slice (some ⟨b, 0, none⟩) (n + 1) c), (1, Vi i), (2, .slice (some ⟨vb, 0, none⟩) 1 1)] := X.fr hs hd hl_ _ (by kernel_rfl)
 clear hs hd hl_ ho
 replace hL := hH2
 replace hV := hV.only hon (by omega)
 clear hH2
 have hC9 := ((G.only (fun x => x = b)).step hon (.inl rfl))
 clear hon
 clear G
 have G := Gr.refl w7
 refine X.thenN ?_
 refine Y.sl ?_
 refine Y.pv4 F (X.move rfl (F.ev 0 (.slice (some ⟨b, 0, none⟩) (n + 1) c))) (fun _ F=>X.move rfl (F.ev 1 (Vi i))) (fun _ F=>Y.slL1 (i := i) (q := i * 1) (m := n + 1 - i) (r := c - i) rfl (F.ev 78 (.slice (some ⟨b, 0, none⟩) (n + 1) c)) (F.ev 79 (Vi i)) Try.underlying38 (Try.siz34 _) (by omega) (by omega) (by omega) (by omega) (by omega) (by omega) (by omega)) (fun _ F=>X.move rfl (F.ev 2 (.slice (some ⟨vb, 0, none⟩) 1 1))) ?_;clear F ac;intro ac F
 obtain ⟨w8, hrun, hH2, hon⟩ := HpR.copy (P := Try.prog) (dT := 38) (sT := 38) (ty := 3) (k := 1) (o := i * 1) (dLen := n + 1 - i) (dCap := c - i) (o2 := 0) (sLen := 1) (sCap := 1) (cs := N) hL hV Try.underlying38 siz34i (by rw [hNl, show Nat.min 1 (n + 1 - i) = 1 from Nat.min_eq_left (by omega)]) (self_get N) (by simp only [List.length_append, List.length_take, List.length_drop, hNl, hxl, hLl]; omega) hN1
 refine Y.pv F (Y.cpy rfl (F.ev 80 (.slice (some ⟨b, i * 1, none⟩) (n + 1 - i) (c - i))) (F.ev 81 (.slice (some ⟨vb, 0, none⟩) 1 1)) hrun) ?_
 clear F ac hrun
 intro ac F
 replace hL := hH2
 replace hV := hV.only hon (by omega)
 clear hH2
 replace hC9 := hC9.step hon (.inl rfl)
 clear hon
 clear G
 have G := Gr.refl w8
 refine Y.nt F [(0, .slice (some ⟨b, 0, none⟩) (n + 1) c)] ?_;clear F ac;intro ac F
 refine Y.sg F [(6, .slice (some ⟨b, 0, none⟩) (n + 1) c)] (Y.pv F (X.move rfl (F.ev 0 (.slice (some ⟨b, 0, none⟩) (n + 1) c))) fun ac F=>Y.pv F (X.assign rfl (F.ev 83 (.slice (some ⟨b, 0, none⟩) (n + 1) c))) fun ac F=>Y.fin F) ?_;clear F ac;intro ac F
 refine Y.ret ?_
 refine X.thenR ?_
 have e9 := ins_place (L0 := L0) (M := xs.drop (i * 1)) (R := L0.drop ((i + 1) * 1 + (xs.drop (i * 1)).length)) (N := N) (p := i * 1) (k := 1) hNl (by rw [hLl]; omega)
 rw [show i * 1 + 1 = (i + 1) * 1 by omega] at e9
 have e8 : L0.take (i * 1) = xs.take (i * 1) := by rw [← hLx, List.take_take, Nat.min_eq_left (by omega)]
 rw [e9, e8] at hL
 have hlen9 : (xs.take (i * 1) ++ N ++ xs.drop (i * 1) ++ L0.drop ((i + 1) * 1 + (xs.drop (i * 1)).length)).length = c * 1 := by simp only [List.length_append, List.length_take, List.length_drop, hNl, hxl, hLl]; omega
 exact Y.ret0 (v := .slice (some ⟨b, 0, none⟩) (n + 1) c) F (Y.r1 F) ⟨_, rfl, ins_own hL hBb rfl (by simp only [List.length_append, List.length_take, List.length_drop, hNl, hxl]; omega) hlen9 (by omega) hcm, hC9.mono (fun x _ e => by subst e; rfl), .inl rfl⟩
theorem ins117_any (B vb n i : Nat) (v : Value) (xs N : List Value) (w : World) (hO : OwnR w B 34 1 v n xs) (hx1 : (xs.all fun v => v.oneCell') = true) (hi : i ≤ n) (hn : n ≤ 100000) (hvb : v.ownBlock ≠ some vb) (hV0 : HpR w vb N 34) (hNl : N.length = 1) (hN1 : (N.all fun v => v.oneCell') = true) (hB : B ≤ w.heap.size) :
  Calls Try.prog 117 #[v, Vi i, .slice (some ⟨vb, 0, none⟩) 1 1] w fun e w' => ∃ v', e = .returned v' ∧ OwnR w' B 34 1 v' (n + 1) (xs.take (i * 1) ++ N ++ xs.drop (i * 1)) ∧ Only (fun x => v.ownBlock = some x) w w' ∧ (v'.ownBlock = v.ownBlock ∨ ∃ x, v'.ownBlock = some x ∧ w.heap.size ≤ x) := by
 have hxl := hO.len
 by_cases h : i = n
 ·subst h
  have e1 : xs.take (i * 1) ++ N ++ xs.drop (i * 1) = xs ++ N := by rw [← hxl, List.take_length, List.drop_length, List.append_nil]
  rw [e1]
  rcases hO.shape with ⟨rfl, rfl⟩ | ⟨g, c, rfl, h1, h2⟩
  ·exact ins117_end B vb none 0 0 xs N w hO hn (Nat.le_refl _) hV0 hNl hN1 hB
  ·have hnc : i ≤ c := by
    rcases Nat.eq_zero_or_pos i with h3 | h3
    ·omega
    ·obtain ⟨_, _, _, _, _, h4, _⟩ := hO.row h3; exact h4
   exact ins117_end B vb (some ⟨g, 0, none⟩) i c xs N w hO hn hnc hV0 hNl hN1 hB
 ·have h0 : i < n := by omega
  rcases hO.shape with ⟨_, h3⟩ | ⟨g, c, rfl, h1, h2⟩
  ·omega
  ·obtain ⟨g', L, e, hBb, hL, hnc, hcm, hLl, hLx⟩ := hO.row (by omega)
   injection e with e
   injection e with e
   subst e
   have hne : vb ≠ g := fun e => hvb (by rw [e]; rfl)
   by_cases hr : c < n + 1
   ·exact ins117_grow B g vb n c i L xs N w hL hBb hnc hcm hLl hLx hxl hx1 h0 hn hr hne hV0 hNl hN1 hB
   ·exact ins117_shift B g vb n c i L xs N w hL hBb hnc hcm hLl hLx hxl hx1 h0 hn (by omega) hne hV0 hNl hN1 hB
end
end Go.Proofs.Ytodedneanlekdaa
