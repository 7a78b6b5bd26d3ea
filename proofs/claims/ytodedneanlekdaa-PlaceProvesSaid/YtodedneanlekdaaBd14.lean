/- Several texts of this claim in one file. (1) Contracts: the reference's prove, Prove. (2) Contract: the look at the example. (3) Contracts: far, Large, SameInts. (4) Contracts: ints, Copy, Same. (5) Contract: the law about Check. -/
import Derived.Test.YtodedneanlekdaaBd13
import Derived.Test.YtodedneanlekdaaBd12
import Derived.Test.YtodedneanlekdaaBd11
import Derived.Test.YtodedneanlekdaaBd5
namespace Go.Proofs.Ytodedneanlekdaa
set_option linter.unusedSimpArgs false
set_option linter.unusedVariables false
section
open Go.RowKit

/-- what the reference's search appends from a beginning on, with m tasks to come -/
def PrvC (p : Pb) (ta ha ba la : Option Addr) (tc hc bc lc : Nat) (cst : Int) (w0 : World) (m : Nat) : Prop :=
  ∀ (xs : List Int) (a : Option Addr) (c : Nat) (oa : Option Addr) (oc : Nat) (E : List LfE) (w : World), Gr w0 w → xs.length + m = p.nt → HosOk p xs → Ints w a xs.length xs → (∀ ad, a = some ad → ad.block < w.heap.size ∧ (Value.slice oa E.length oc).ownBlock ≠ some ad.block) → LvAt w w0.heap.size (.slice oa E.length oc) E → E.length + 4 ^ m ≤ 5000 →
    Calls Try.prog 70 #[.agg #[.slice ta p.nt tc, .slice ha p.nh hc, .slice ba p.nb bc, .slice la p.nl lc], .slice a xs.length c, Vi cst, .slice oa E.length oc] w fun e w' =>
      ∃ v E2, e = .returned v ∧ LvAt w' w0.heap.size v (E ++ E2) ∧ stripL E2 = lvsF p.nh (hopeB p (tim p)) (fun ys => decide (cst ≤ bndV p ys)) m xs ∧ Only (fun b => (Value.slice oa E.length oc).ownBlock = some b) w w' ∧ Moved w (.slice oa E.length oc) v
theorem lvs_end {nh m k n : Nat} {hope dear : List Int → Bool} {xs : List Int} (h : hope xs = false) (d : dear xs = false) (hk : k = m - 1) (h0 : m = 0 → n = 0) (hn : n = nh ∨ m = 0) : flatN (fun h : Nat => lvsF nh hope dear k (xs ++ [(h : Int)])) n = lvsF nh hope dear m xs := by
  cases m with
  | zero => rw [h0 rfl, lvs_0 h d]; rfl
  | succ m =>
    rcases hn with rfl | hn
    · rw [show k = m by omega, lvs_n h d]
    · omega
set_option maxRecDepth 100000 in
set_option maxHeartbeats 2000000 in
theorem prove_step (p : Pb) (ta ha ba la : Option Addr) (tc hc bc lc : Nat) (m : Nat) (hp : PbOk p) (hsm : p.nt ≤ 5 ∧ p.nh ≤ 4) (cst : Int) (w0 : World) (hP0 : PbAt w0 p ta ha ba la tc hc bc lc) (ih : ∀ k, m = k + 1 → PrvC p ta ha ba la tc hc bc lc cst w0 k)
  (xs : List Int) (a : Option Addr) (c : Nat) (oa : Option Addr) (oc : Nat) (E : List LfE) (w : World) (g0 : Gr w0 w) (hm : xs.length + m = p.nt) (hx : HosOk p xs) (hX : Ints w a xs.length xs) (hXb : ∀ ad, a = some ad → ad.block < w.heap.size ∧ (Value.slice oa E.length oc).ownBlock ≠ some ad.block) (hLv0 : LvAt w w0.heap.size (.slice oa E.length oc) E) (hE : E.length + 4 ^ m ≤ 5000) :
  Calls Try.prog 70 #[.agg #[.slice ta p.nt tc, .slice ha p.nh hc, .slice ba p.nb bc, .slice la p.nl lc], .slice a xs.length c, Vi cst, .slice oa E.length oc] w fun e w' => ∃ v E2, e = .returned v ∧ LvAt w' w0.heap.size v (E ++ E2) ∧ stripL E2 = lvsF p.nh (hopeB p (tim p)) (fun ys => decide (cst ≤ bndV p ys)) m xs ∧ Only (fun b => (Value.slice oa E.length oc).ownBlock = some b) w w' ∧ Moved w (Value.slice oa E.length oc) v := by
 have G := Gr.refl w
 have hP := hP0.gr g0
 have hpt := hP.t
 have hph := hP.h
 have hpb := hP.b
 have hpl := hP.l
 have hplen := hP.len
 obtain ⟨hn1, hn2, hn3, hn4⟩ := hplen
 have hcp1 := hpt.cap
 have hcp2 := hph.cap
 have hcp3 := hpb.cap
 have hcp4 := hpl.cap
 have hxs := hX
 have hLv := hLv0
 have hlen : xs.length ≤ p.nt := by omega
 have hOn := Only.refl (fun b => (Value.slice oa E.length oc).ownBlock = some b) w
 replace G := g0
 have hE9 := pow4_pos (m := m)
 have hw0w := g0.size
 refine Y.calls 55 Try.func70 rfl rfl ?_
 intro ac F0
 have F : Fr ac 55 [(0, .agg #[.slice ta p.nt tc, .slice ha p.nh hc, .slice ba p.nb bc, .slice la p.nl lc]), (1, .slice a xs.length c), (2, Vi cst), (3, .slice oa E.length oc)] := F0.sub _
 clear F0
 refine Y.sl ?_
 have hgs3 : w0.heap.size ≤ w.heap.size := G.size
 refine Y.pv F (X.box rfl (F.ev 0 (.agg #[.slice ta p.nt tc, .slice ha p.nh hc, .slice ba p.nb bc, .slice la p.nl lc])) X.bx) ?_;clear F ac;intro ac F
 have hgs5 : w0.heap.size ≤ w.heap.size := G.size
 obtain ⟨w6, hw_, g, hb, hbl, hC2⟩ := Y.bxd (RCells.nil w) #[.slice ta p.nt tc, .slice ha p.nh hc, .slice ba p.nb bc, .slice la p.nl lc] 27;rw [hw_];clear hw_
 replace G := G.trans g
 have hC := hC2
 clear hC2
 replace hOn := hOn.thenGr g
 replace hpt := hpt.gr g
 replace hph := hph.gr g
 replace hpb := hpb.gr g
 replace hpl := hpl.gr g
 replace hxs := hxs.gr g
 replace hLv := hLv.gr g
 have hsz4 := hbl
 clear g hb hbl
 refine Y.pv F (X.assign rfl (X.kc (.slice none 0 0) rfl)) ?_;clear F ac;intro ac F
 refine Y.nt F [(1, .slice a xs.length c), (2, Vi cst), (3, .slice oa E.length oc), (4, Vp w.heap.size)] ?_;clear F ac;intro ac F
 refine Y.seq ?_
 refine Y.sg F [(1, .slice a xs.length c), (2, Vi cst), (3, .slice oa E.length oc), (4, Vp w.heap.size), (12, .bool (decide ((5000 : Int) < E.length)))] (Y.pv F (X.move rfl (F.ev 3 (.slice oa E.length oc))) fun ac F=>Y.pv F (X.len1 Try.underlying45 rfl (F.ev 10 (.slice oa E.length oc))) fun ac F=>Y.pv F (X.binop rfl (F.ev 11 (Vi E.length)) (X.kc (Vi 5000) rfl) (X.gtrI Try.underlying3 rfl)) fun ac F=>Y.fin F) ?_;clear F ac;intro ac F
 cases h7 : decide ((5000 : Int) < E.length) with
 | false =>
  try rw [h7] at F
  have h7p : ¬ ((5000 : Int) < E.length) := of_decide_eq_false h7
  refine Y.condF (F.ev 12 (.bool false)) ?_
  refine Y.skip ?_
  refine X.thenN ?_
  refine Y.seq ?_
  refine Y.sl ?_
  refine Y.pv2 F (X.load rfl (F.ev 4 (Vp w.heap.size)) (X.ldN (Try.agg27 _) (Try.siz27 _) (Y.atz (⟨w.heap.size, 0, none⟩) (Y.AtFrom.cons (hC.at 0 rfl) (Y.AtFrom.cons (hC.at 1 rfl) (Y.AtFrom.cons (hC.at 2 rfl) (Y.AtFrom.cons (hC.at 3 rfl) (Y.AtFrom.nil _ _ _)))))))) (fun _ F=>X.move rfl (F.ev 1 (.slice a xs.length c))) ?_;clear F ac;intro ac F
  refine Y.pc F 75 (X.a3 (F.ev 14 (.agg #[.slice ta p.nt tc, .slice ha p.nh hc, .slice ba p.nb bc, .slice la p.nl lc])) (F.ev 15 (.slice a xs.length c)) (X.kc (Vi 100) rfl)) Try.func75 (by have hq := hop2_any p ta ha ba la tc hc bc lc a c xs 100 w6 (hP0.gr G) hxs hp hx hlen (by decide); rw [hund_100] at hq; exact hq) ?_
  clear F ac
  rintro e w8 ⟨rfl, g⟩
  refine ⟨_, rfl, ?_⟩
  intro ac F
  replace G := G.trans g
  replace hC := hC.gr g
  replace hOn := hOn.thenGr g
  replace hpt := hpt.gr g
  replace hph := hph.gr g
  replace hpb := hpb.gr g
  replace hpl := hpl.gr g
  replace hxs := hxs.gr g
  replace hLv := hLv.gr g
  clear g
  refine Y.nt F [(1, .slice a xs.length c), (2, Vi cst), (3, .slice oa E.length oc), (4, Vp w.heap.size), (16, .bool (hopeB p (tim p) xs))] ?_;clear F ac;intro ac F
  cases h9 : hopeB p (tim p) xs with
  | false =>
   try rw [h9] at F
   refine Y.condF (F.ev 16 (.bool false)) ?_
   refine Y.skip ?_
   refine X.thenN ?_
   refine Y.seq ?_
   refine Y.sl ?_
   refine Y.pv2 F (X.load rfl (F.ev 4 (Vp w.heap.size)) (X.ldN (Try.agg27 _) (Try.siz27 _) (Y.atz (⟨w.heap.size, 0, none⟩) (Y.AtFrom.cons (hC.at 0 rfl) (Y.AtFrom.cons (hC.at 1 rfl) (Y.AtFrom.cons (hC.at 2 rfl) (Y.AtFrom.cons (hC.at 3 rfl) (Y.AtFrom.nil _ _ _)))))))) (fun _ F=>X.move rfl (F.ev 1 (.slice a xs.length c))) ?_;clear F ac;intro ac F
   refine Y.pc F 77 (X.a2 (F.ev 22 (.agg #[.slice ta p.nt tc, .slice ha p.nh hc, .slice ba p.nb bc, .slice la p.nl lc])) (F.ev 23 (.slice a xs.length c))) Try.func77 (bnd2_any p ta ha ba la tc hc bc lc a c xs w8 (hP0.gr G) hxs hp hx hlen) ?_
   clear F ac
   rintro e w10 ⟨rfl, g⟩
   refine ⟨_, rfl, ?_⟩
   intro ac F
   replace G := G.trans g
   replace hC := hC.gr g
   replace hOn := hOn.thenGr g
   replace hpt := hpt.gr g
   replace hph := hph.gr g
   replace hpb := hpb.gr g
   replace hpl := hpl.gr g
   replace hxs := hxs.gr g
   replace hLv := hLv.gr g
   clear g
   refine Y.pv2 F (X.move rfl (F.ev 2 (Vi cst))) (fun _ F=>X.binop rfl (F.ev 24 (Vi (bndV p xs))) (F.ev 25 (Vi cst)) (X.geqI Try.underlying3 rfl)) ?_;clear F ac;intro ac F
   refine Y.nt F [(1, .slice a xs.length c), (2, Vi cst), (3, .slice oa E.length oc), (4, Vp w.heap.size), (26, .bool (decide ((cst : Int) ≤ (bndV p xs))))] ?_;clear F ac;intro ac F
   cases h11 : decide ((cst : Int) ≤ (bndV p xs)) with
   | false =>
    try rw [h11] at F
    have h11p : ¬ ((cst : Int) ≤ (bndV p xs)) := of_decide_eq_false h11
    have hdr : (fun ys => decide (cst ≤ bndV p ys)) xs = false := decide_eq_false (by omega)
    refine Y.condF (F.ev 26 (.bool false)) ?_
    refine Y.skip ?_
    refine X.thenN ?_
    refine Y.seq ?_
    refine Y.sg F [(1, .slice a xs.length c), (2, Vi cst), (3, .slice oa E.length oc), (4, Vp w.heap.size), (9, Vi 0)] (Y.pv F (X.assign rfl (X.kc (Vi 0) rfl)) fun ac F=>Y.fin F) ?_;clear F ac;intro ac F
    refine Y.block ?_
    obtain ⟨k, hk9⟩ : ∃ k, k = m - 1 := ⟨_, rfl⟩
    have hwW : w.heap.size ≤ w10.heap.size := hOn.size
    have hb4l : w.heap.size < w10.heap.size := lt_cell (hC.at 0 rfl)
    have hb4g : w.heap.size ≤ w.heap.size := by omega
    have hOlt : ∀ b, (Value.slice oa E.length oc).ownBlock = some b → w0.heap.size ≤ b ∧ b < w.heap.size := fun b e => hLv0.o.ge e
    have hs1 := hsm.1
    have hs2 := hsm.2
    refine Y.loop (fun me_ ac wr => ∃ (h : Nat) (E2 : List LfE) (oa2 : Option Addr) (oc2 : Nat), me_ = p.nh - h ∧ Only (fun b => (Value.slice oa E.length oc).ownBlock = some b) w10 wr ∧ (h ≤ p.nh ∧ (m = 0 → h = 0)) ∧ LvAt wr w0.heap.size (.slice oa2 (E ++ E2).length oc2) (E ++ E2) ∧ stripL E2 = flatN (fun h : Nat => lvsF p.nh (hopeB p (tim p)) (fun ys => decide (cst ≤ bndV p ys)) k (xs ++ [(h : Int)])) h ∧ Moved w10 (Value.slice oa E.length oc) (.slice oa2 (E ++ E2).length oc2) ∧ Fr ac 55 [(1, .slice a xs.length c), (2, Vi cst), (3, .slice oa2 ((E ++ E2).length) oc2), (4, Vp w.heap.size), (9, Vi h)]) _ ⟨0, [], oa, oc, rfl, Only.refl _ _, ⟨Nat.zero_le _, fun _ => rfl⟩, by rw [List.append_nil]; exact hLv, rfl, by rw [List.append_nil]; exact Moved.refl _ _, by rw [List.append_nil]; exact F.sub _⟩ ?_
    have GB := G
    have hCB := hC
    have hxsB := hxs
    have hOnB := hOn
    clear F ac hLv G hC hxs hOn
    intro me_ ac w12 hI
    obtain ⟨h, E2, oa2, oc2, rfl, hO1, ⟨hh, hm0⟩, hLv, hst2, hMv, F⟩ := hI
    have G : Gr w0 w12 := ((GB.only (fun b => w0.heap.size ≤ b)).trans (hO1.mono' (fun i e => (hOlt i e).1))).gr (fun i hi e => by omega)
    have hxs := hxsB.onlyAt hO1 (fun ad e => (hXb ad e).2)
    have hOn := hOnB.trans hO1
    replace hpt := (hP0.t).gr G
    replace hph := (hP0.h).gr G
    replace hpb := (hP0.b).gr G
    replace hpl := (hP0.l).gr G
    have hC := (RCells.cons (hO1.cell (hCB.at 0 rfl) (fun e => by have h9 := hOlt _ e; simp only at h9; omega)) (RCells.cons (hO1.cell (hCB.at 1 rfl) (fun e => by have h9 := hOlt _ e; simp only at h9; omega)) (RCells.cons (hO1.cell (hCB.at 2 rfl) (fun e => by have h9 := hOlt _ e; simp only at h9; omega)) (RCells.cons (hO1.cell (hCB.at 3 rfl) (fun e => by have h9 := hOlt _ e; simp only at h9; omega)) (RCells.nil _)))))
    refine Y.seq ?_
    refine Y.sl ?_
    refine Y.pv4 F (X.move rfl (F.ev 9 (Vi h))) (fun _ F=>X.field rfl (F.ev 4 (Vp w.heap.size)) (X.fld Try.underlying27 rfl (Try.siz23 _) rfl rfl)) (fun _ F=>X.load rfl (F.ev 33 (.pointer (some ⟨w.heap.size, 1, none⟩))) (X.ld1 (Try.agg23 _) (hC.at 1 rfl))) (fun _ F=>X.len1 Try.underlying23 rfl (F.ev 34 (.slice ha p.nh hc))) ?_;clear F ac;intro ac F
    refine Y.pv2 F (X.binop rfl (F.ev 32 (Vi h)) (F.ev 35 (Vi p.nh)) (X.lssI Try.underlying3 rfl)) (fun _ F=>X.move rfl (F.ev 36 (.bool (decide ((h : Int) < p.nh))))) ?_;clear F ac;intro ac F
    cases h13 : decide ((h : Int) < p.nh) with
    | false =>
     try rw [h13] at F
     have h13p : ¬ ((h : Int) < p.nh) := of_decide_eq_false h13
     refine Y.ps F 5 37 false ?_;clear F ac;intro ac F
     refine Y.ps F 5 37 false ?_;clear F ac;intro ac F
     refine Y.ps F 5 37 false ?_;clear F ac;intro ac F
     refine Y.ps F 5 37 false ?_;clear F ac;intro ac F
     refine Y.ps F 5 37 false ?_;clear F ac;intro ac F
     refine Y.ps F 5 37 false ?_;clear F ac;intro ac F
     refine Y.pv F (X.pickF rfl (F.ev 37 (.bool false)) (X.kc (.bool false) rfl)) ?_;clear F ac;intro ac F
     refine Y.nt F [(1, .slice a xs.length c), (2, Vi cst), (3, .slice oa2 ((E ++ E2).length) oc2), (4, Vp w.heap.size), (9, Vi h), (44, .bool false)] ?_;clear F ac;intro ac F
     refine Y.condF (F.ev 44 (.bool false)) ?_
     refine Y.exit ?_
     refine X.thenX (X.thenX (X.blockX (X.thenN ?_)))
     refine Y.sg F [(8, .slice oa2 ((E ++ E2).length) oc2)] (Y.pv F (X.move rfl (F.ev 3 (.slice oa2 ((E ++ E2).length) oc2))) fun ac F=>Y.pv F (X.assign rfl (F.ev 54 (.slice oa2 ((E ++ E2).length) oc2))) fun ac F=>Y.fin F) ?_;clear F ac;intro ac F
     refine Y.ret ?_
     exact Y.ret0 (v := .slice oa2 ((E ++ E2).length) oc2) F (Y.r1 F) ⟨_, E2, rfl, hLv, by rw [hst2]; exact lvs_end h9 hdr hk9 hm0 (by omega), hOn, Moved.trans (Moved.refl _ _) hMv hwW⟩
    | true =>
     try rw [h13] at F
     have h13p : ((h : Int) < p.nh) := of_decide_eq_true h13
     have hi2 : h < p.nh := by omega
     refine Y.pg F 5 37 true (X.move rfl (F.ev 1 (.slice a xs.length c))) ?_;clear F ac;intro ac F
     refine Y.pg F 5 37 true (X.len1 Try.underlying34 rfl (F.ev 38 (.slice a xs.length c))) ?_;clear F ac;intro ac F
     refine Y.pg F 5 37 true (X.field rfl (F.ev 4 (Vp w.heap.size)) (X.fld Try.underlying27 rfl (Try.siz22 _) rfl rfl)) ?_;clear F ac;intro ac F
     refine Y.pg F 5 37 true (X.load rfl (F.ev 40 (Vp w.heap.size)) (X.ld1 (Try.agg22 _) (hC.at 0 rfl))) ?_;clear F ac;intro ac F
     refine Y.pg F 5 37 true (X.len1 Try.underlying22 rfl (F.ev 41 (.slice ta p.nt tc))) ?_;clear F ac;intro ac F
     refine Y.pg F 5 37 true (X.binop rfl (F.ev 39 (Vi xs.length)) (F.ev 42 (Vi p.nt)) (X.lssI Try.underlying3 rfl)) ?_;clear F ac;intro ac F
     refine Y.pv F (X.pickT rfl (F.ev 37 (.bool true)) (F.ev 43 (.bool (decide ((xs.length : Int) < p.nt))))) ?_;clear F ac;intro ac F
     refine Y.nt F [(1, .slice a xs.length c), (2, Vi cst), (3, .slice oa2 ((E ++ E2).length) oc2), (4, Vp w.heap.size), (9, Vi h), (44, .bool (decide ((xs.length : Int) < p.nt)))] ?_;clear F ac;intro ac F
     cases h14 : decide ((xs.length : Int) < p.nt) with
     | false =>
      try rw [h14] at F
      have h14p : ¬ ((xs.length : Int) < p.nt) := of_decide_eq_false h14
      refine Y.condF (F.ev 44 (.bool false)) ?_
      refine Y.exit ?_
      refine X.thenX (X.thenX (X.blockX (X.thenN ?_)))
      refine Y.sg F [(8, .slice oa2 ((E ++ E2).length) oc2)] (Y.pv F (X.move rfl (F.ev 3 (.slice oa2 ((E ++ E2).length) oc2))) fun ac F=>Y.pv F (X.assign rfl (F.ev 54 (.slice oa2 ((E ++ E2).length) oc2))) fun ac F=>Y.fin F) ?_;clear F ac;intro ac F
      refine Y.ret ?_
      exact Y.ret0 (v := .slice oa2 ((E ++ E2).length) oc2) F (Y.r1 F) ⟨_, E2, rfl, hLv, by rw [hst2]; exact lvs_end h9 hdr hk9 hm0 (by omega), hOn, Moved.trans (Moved.refl _ _) hMv hwW⟩
     | true =>
      try rw [h14] at F
      have h14p : ((xs.length : Int) < p.nt) := of_decide_eq_true h14
      have hmk : m = k + 1 := by omega
      refine Y.condT (F.ev 44 (.bool true)) ?_
      refine Y.skip ?_
      refine X.thenN ?_
      refine Y.seq ?_
      refine Y.block ?_
      have hwr0 : w0.heap.size ≤ w12.heap.size := G.size
      have hE2l : E2.length = (flatN (fun h : Nat => lvsF p.nh (hopeB p (tim p)) (fun ys => decide (cst ≤ bndV p ys)) k (xs ++ [(h : Int)])) h).length := by rw [← hst2, stripL_len]
      have hroom := lvs_room (hope := hopeB p (tim p)) (dear := (fun ys => decide (cst ≤ bndV p ys))) (xs := xs) hs2 hi2 (hmk ▸ hE)
      obtain ⟨Ta, hTa⟩ : ∃ T : Value → World → Prop, T = fun v W => ∃ g4 c4, v = .slice (some ⟨g4, 0, none⟩) (xs ++ [(h : Int)]).length c4 ∧ BegAt W w12.heap.size (some ⟨g4, 0, none⟩) c4 (xs ++ [(h : Int)]) := ⟨_, rfl⟩
      obtain ⟨Tc, hTc⟩ : ∃ T : Value → World → Prop, T = fun v W => ∃ E3 : List LfE, LvAt W w0.heap.size v ((E ++ E2) ++ E3) ∧ stripL E3 = lvsF p.nh (hopeB p (tim p)) (fun ys => decide (cst ≤ bndV p ys)) k (xs ++ [(h : Int)]) ∧ Only (fun b => (Value.slice oa2 (E ++ E2).length oc2).ownBlock = some b) w12 W ∧ Moved w12 (Value.slice oa2 (E ++ E2).length oc2) v := ⟨_, rfl⟩
      obtain ⟨Tb, hTb⟩ : ∃ T : Value → World → Prop, T = fun _ _ => True := ⟨_, rfl⟩
      have uTa : UpV Ta := by subst hTa; exact fun v W W2 ⟨g4, c4, e, h⟩ g => ⟨g4, c4, e, h.gr g⟩
      have uTb : UpV Tb := by subst hTb; exact fun v W W2 _ g => trivial
      refine region_xi F [some (.agg #[.slice ta p.nt tc, .slice ha p.nh hc, .slice ba p.nb bc, .slice la p.nl lc]), some (.slice a xs.length c), some (Vi h), none, some (Vi cst), some (.slice oa2 ((E ++ E2).length) oc2), none, none] (RA4 w12 3 100 6 7 Ta Tb Tc) rfl ⟨by kernel_rfl, of_decide_eq_true (by kernel_rfl), by kernel_rfl, by kernel_rfl, by kernel_rfl⟩ (fun _ => ⟨RA4.start (Gr.refl _), RA4.start (Gr.drew _)⟩) ⟨?_, ?_, ?_, ?_, ?_, ?_, ?_, ?_, trivial⟩ ?_
      ·intro ac done u W Sx hR
       have g : Gr w12 W := hR.g (Sx.no 6 (by kernel_rfl))
       exact X.vl (X.load rfl (Sx.ev 4 (Vp w.heap.size)) (X.ldN (Try.agg27 _) (Try.siz27 _) (Y.atz (⟨w.heap.size, 0, none⟩) (Y.AtFrom.cons ((hC.gr g).at 0 rfl) (Y.AtFrom.cons ((hC.gr g).at 1 rfl) (Y.AtFrom.cons ((hC.gr g).at 2 rfl) (Y.AtFrom.cons ((hC.gr g).at 3 rfl) (Y.AtFrom.nil _ _ _)))))))) (hR.quiet uTa uTb (Sx.no 6 (by kernel_rfl)) (Sx.no 7 (by kernel_rfl)) (Gr.refl _) (by decide))
      ·intro ac done u W Sx hR
       have g : Gr w12 W := hR.g (Sx.no 6 (by kernel_rfl))
       exact X.vl (X.move rfl (Sx.ev 1 (.slice a xs.length c))) (hR.quiet uTa uTb (Sx.no 6 (by kernel_rfl)) (Sx.no 7 (by kernel_rfl)) (Gr.refl _) (by decide))
      ·intro ac done u W Sx hR
       have g : Gr w12 W := hR.g (Sx.no 6 (by kernel_rfl))
       exact X.vl (X.move rfl (Sx.ev 9 (Vi h))) (hR.quiet uTa uTb (Sx.no 6 (by kernel_rfl)) (Sx.no 7 (by kernel_rfl)) (Gr.refl _) (by decide))
      ·intro ac done u W Sx hR
       have g : Gr w12 W := hR.g (Sx.no 6 (by kernel_rfl))
       refine X.call (X.w0 rfl) (X.enter (F := 101) rfl (X.kc (.func (.func 101) #[] #[]) rfl) (X.a2 (Sx.ev 48 (.slice a xs.length c)) (Sx.ev 49 (Vi h))) (enters_of Try.func101 (by kernel_rfl) rfl _)) (withL_any a c xs (h : Int) W (hxs.gr g) (by omega)) ?_
       rintro e W2 ⟨g4, c4, rfl, hb4, g2⟩
       exact ⟨_, rfl, X.un rfl, hR.sa (by decide) uTb (Sx.no 6 (by kernel_rfl)) (Sx.no 7 (by kernel_rfl)) g2 (by subst hTa; exact ⟨g4, c4, rfl, hb4.lower g.size⟩)⟩
      ·intro ac done u W Sx hR
       have g : Gr w12 W := hR.g (Sx.no 6 (by kernel_rfl))
       exact X.vl (X.move rfl (Sx.ev 2 (Vi cst))) (hR.quiet uTa uTb (Sx.no 6 (by kernel_rfl)) (Sx.no 7 (by kernel_rfl)) (Gr.refl _) (by decide))
      ·intro ac done u W Sx hR
       have g : Gr w12 W := hR.g (Sx.no 6 (by kernel_rfl))
       exact X.vl (X.move rfl (Sx.ev 3 (.slice oa2 ((E ++ E2).length) oc2))) (hR.quiet uTa uTb (Sx.no 6 (by kernel_rfl)) (Sx.no 7 (by kernel_rfl)) (Gr.refl _) (by decide))
      ·intro ac done u W Sx hR
       have g : Gr w12 W := hR.g Sx.nd
       have hA := hR.ga (Sx.an 3 (by kernel_rfl)) Sx.nd
       rw [hTa] at hA
       obtain ⟨g4, c4, e3, hb4⟩ := hA
       have hq := ih k hmk (xs ++ [(h : Int)]) (some ⟨g4, 0, none⟩) c4 oa2 oc2 (E ++ E2) W (G.trans g) (by simp; omega) (hx.app hi2) hb4.i (fun ad e => ⟨(hb4.ge ad e).2, fun e2 => by have h8 := (hLv.o.ge e2).2; have h7 := (hb4.ge ad e).1; omega⟩) (hLv.gr g) (by rw [List.length_append]; omega)
       refine X.call (X.w0 rfl) (X.enter (F := 70) rfl (X.kc (.func (.func 70) #[] #[]) rfl) (X.a4 (Sx.ev 47 (.agg #[.slice ta p.nt tc, .slice ha p.nh hc, .slice ba p.nb bc, .slice la p.nl lc])) ((Sx.own 3 50 rfl).trans e3) (Sx.ev 51 (Vi cst)) (Sx.ev 52 (.slice oa2 ((E ++ E2).length) oc2))) (enters_of Try.func70 (by kernel_rfl) rfl _)) hq ?_
       rintro e W2 ⟨v2, E3, rfl, hLv3, hst3, hon3, hMv3⟩
       exact ⟨_, rfl, X.un rfl, RA4.sc (by decide) (Sx.no 7 (by kernel_rfl)) (by subst hTc; exact ⟨E3, hLv3, hst3, (g.only _).trans hon3, Moved.trans (Moved.refl _ _) hMv3 g.size⟩)⟩
      ·intro ac done u W Sx hR
       exact X.valN (X.w0 rfl) rfl (X.assign rfl (Sx.own 6 53 rfl)) (hR.sd (by decide) (Sx.an 6 (by kernel_rfl)))
      rintro ac u w15 hs hd hl_ ho hR
      have hcc := hR.gc rfl
      have e7 := hR.gd rfl
      rw [hTc] at hcc
      obtain ⟨E3, hLv3, hst3, hon3, hMv4⟩ := hcc
      obtain ⟨oa3, oc3, e6⟩ := hLv3.form
      rw [e6] at hLv3 hMv4 e7
      clear hTa hTb hTc uTa uTb e6
      replace F : Fr ac 55 [(1, .slice a xs.length c), (2, Vi cst), (4, Vp w.heap.size), (9, Vi h)] := X.fr hs hd hl_ _ (by kernel_rfl)
      replace F := F.add (ho 7 3 rfl) e7
      clear hs hd hl_ ho hR e7
      replace F : Fr ac 55 [(1, .slice a xs.length c), (2, Vi cst), (3, .slice oa3 (((E ++ E2) ++ E3).length) oc3), (4, Vp w.heap.size), (9, Vi h)] := F.sub _
      have hO3 := hO1.step2 hon3 (fun r e => hMv.of e)
      have hMv3 := Moved.trans hMv hMv4 hO1.size
      clear hC G hxs hOn hon3 hMv4 hLv hMv
      refine X.blockN (X.thenN ?_)
      refine Y.lg F [(1, .slice a xs.length c), (2, Vi cst), (3, .slice oa3 (((E ++ E2) ++ E3).length) oc3), (4, Vp w.heap.size), (9, Vi ((h : Int) + 1))] (by
       refine Y.pv F (X.move rfl (F.ev 9 (Vi h))) fun ac F=>?_
       refine Y.pv F (X.binop rfl (F.ev 45 (Vi h)) (X.kc (Vi 1) rfl) (X.addI Try.underlying3 rfl (by omega) (by omega))) fun ac F=>?_
       refine Y.pv F (X.assign rfl (F.ev 46 (Vi ((h : Int) + 1)))) fun ac F=>?_
       exact Y.fin F) ?_;clear F ac;intro ac F
      refine ⟨_, ?_, h + 1, E2 ++ E3, oa3, oc3, rfl, hO3, ⟨by omega, fun e => by omega⟩, by rw [← List.append_assoc]; exact hLv3, by rw [stripL_app, hst2, hst3, lvs_s], by rw [← List.append_assoc]; exact hMv3, by rw [← List.append_assoc]; exact F.sub _⟩
      omega
   | true =>
    try rw [h11] at F
    have h11p : ((cst : Int) ≤ (bndV p xs)) := of_decide_eq_true h11
    have hdr : (fun ys => decide (cst ≤ bndV p ys)) xs = true := decide_eq_true (by omega)
    refine Y.condT (F.ev 26 (.bool true)) ?_
    refine Y.sl ?_
    refine Y.pv4 F (X.move rfl (F.ev 3 (.slice oa E.length oc))) (fun _ F=>X.move rfl (F.ev 1 (.slice a xs.length c))) (fun _ F=>Y.bd rfl (X.b2 (F.ev 28 (.slice a xs.length c)) (X.kc (Vi 2) rfl)) (Try.bd49 _ _ _ _ _)) (fun _ F=>X.bs rfl (X.b1 (F.ev 29 (.agg #[.slice a xs.length c, Vi 2]))) (Try.bs45_1 _ _ _ _ _)) ?_;clear F ac;intro ac F
    have g := Gr.alloc w10 (.cells #[.slice a xs.length c, Vi 2] 49)
    have hg9 := heap_alloc_new w10 (.cells #[.slice a xs.length c, Vi 2] 49)
    generalize w10.alloc (.cells #[.slice a xs.length c, Vi 2] 49) = w16 at *
    replace G := G.trans g
    replace hC := hC.gr g
    replace hOn := hOn.thenGr g
    replace hpt := hpt.gr g
    replace hph := hph.gr g
    replace hpb := hpb.gr g
    replace hpl := hpl.gr g
    replace hxs := hxs.gr g
    replace hLv := hLv.gr g
    clear g
    refine Y.wpL_plain rfl fun _ hK => wp_pushV Try.underlying45 Try.info49 rfl (by decide) rfl (F.ev 27 (.slice oa E.length oc)) (F.ev 30 (.slice (some ⟨w10.heap.size, 0, none⟩) 1 1)) hLv.o (m := 1) (news := [.slice a xs.length c, Vi 2]) rfl (cells_at (vs := [.slice a xs.length c, Vi 2]) hg9) rfl (by omega) (by decide) G.size (fun v2 w17 hO3 hon hat => hK _ _ ?_)
    refine Y.pput F rfl ?_;clear F ac;intro ac F
    have hwS : w.heap.size ≤ w16.heap.size := hOn.size
    obtain ⟨hLv3, hMv3⟩ := hLv.push (x := ⟨⟨xs, a, c⟩, 2⟩) hxs (fun ad e => ⟨Nat.lt_of_lt_of_le (hXb ad e).1 hOn.size, (hXb ad e).2⟩) hO3 hon hat
    obtain ⟨oa2, oc2, rfl⟩ := hO3.form
    replace hOn := hOn.trans hon
    clear hK hg9
    refine Y.pv F (X.assign rfl (F.ev 31 (.slice oa2 (E.length + 1) oc2))) ?_;clear F ac;intro ac F
    refine Y.nt F [(8, .slice oa2 (E.length + 1) oc2)] ?_;clear F ac;intro ac F
    refine Y.ret ?_
    refine X.thenR ?_
    exact Y.ret0 (v := .slice oa2 (E.length + 1) oc2) F (Y.r1 F) ⟨_, _, rfl, hLv3, by rw [lvs_d h9 hdr]; rfl, hOn, Moved.trans (Moved.refl _ _) hMv3 hwS⟩
  | true =>
   try rw [h9] at F
   refine Y.condT (F.ev 16 (.bool true)) ?_
   refine Y.sl ?_
   refine Y.pv4 F (X.move rfl (F.ev 3 (.slice oa E.length oc))) (fun _ F=>X.move rfl (F.ev 1 (.slice a xs.length c))) (fun _ F=>Y.bd rfl (X.b2 (F.ev 18 (.slice a xs.length c)) (X.kc (Vi 1) rfl)) (Try.bd49 _ _ _ _ _)) (fun _ F=>X.bs rfl (X.b1 (F.ev 19 (.agg #[.slice a xs.length c, Vi 1]))) (Try.bs45_1 _ _ _ _ _)) ?_;clear F ac;intro ac F
   have g := Gr.alloc w8 (.cells #[.slice a xs.length c, Vi 1] 49)
   have hg9 := heap_alloc_new w8 (.cells #[.slice a xs.length c, Vi 1] 49)
   generalize w8.alloc (.cells #[.slice a xs.length c, Vi 1] 49) = w18 at *
   replace G := G.trans g
   replace hC := hC.gr g
   replace hOn := hOn.thenGr g
   replace hpt := hpt.gr g
   replace hph := hph.gr g
   replace hpb := hpb.gr g
   replace hpl := hpl.gr g
   replace hxs := hxs.gr g
   replace hLv := hLv.gr g
   clear g
   refine Y.wpL_plain rfl fun _ hK => wp_pushV Try.underlying45 Try.info49 rfl (by decide) rfl (F.ev 17 (.slice oa E.length oc)) (F.ev 20 (.slice (some ⟨w8.heap.size, 0, none⟩) 1 1)) hLv.o (m := 1) (news := [.slice a xs.length c, Vi 1]) rfl (cells_at (vs := [.slice a xs.length c, Vi 1]) hg9) rfl (by omega) (by decide) G.size (fun v2 w19 hO3 hon hat => hK _ _ ?_)
   refine Y.pput F rfl ?_;clear F ac;intro ac F
   have hwS : w.heap.size ≤ w18.heap.size := hOn.size
   obtain ⟨hLv3, hMv3⟩ := hLv.push (x := ⟨⟨xs, a, c⟩, 1⟩) hxs (fun ad e => ⟨Nat.lt_of_lt_of_le (hXb ad e).1 hOn.size, (hXb ad e).2⟩) hO3 hon hat
   obtain ⟨oa2, oc2, rfl⟩ := hO3.form
   replace hOn := hOn.trans hon
   clear hK hg9
   refine Y.pv F (X.assign rfl (F.ev 21 (.slice oa2 (E.length + 1) oc2))) ?_;clear F ac;intro ac F
   refine Y.nt F [(8, .slice oa2 (E.length + 1) oc2)] ?_;clear F ac;intro ac F
   refine Y.ret ?_
   refine X.thenR ?_
   exact Y.ret0 (v := .slice oa2 (E.length + 1) oc2) F (Y.r1 F) ⟨_, _, rfl, hLv3, by rw [lvs_h h9]; rfl, hOn, Moved.trans (Moved.refl _ _) hMv3 hwS⟩
 | true =>
  try rw [h7] at F
  have h7p : ((5000 : Int) < E.length) := of_decide_eq_true h7
  refine Y.condT (F.ev 12 (.bool true)) ?_
  refine Y.sg F [(8, .slice oa E.length oc)] (Y.pv F (X.move rfl (F.ev 3 (.slice oa E.length oc))) fun ac F=>Y.pv F (X.assign rfl (F.ev 13 (.slice oa E.length oc))) fun ac F=>Y.fin F) ?_;clear F ac;intro ac F
  refine Y.ret ?_
  refine X.thenR ?_
  exfalso; omega
theorem prove_all (p : Pb) (ta ha ba la : Option Addr) (tc hc bc lc : Nat) (hp : PbOk p) (hsm : p.nt ≤ 5 ∧ p.nh ≤ 4) (cst : Int) (w0 : World) (hP0 : PbAt w0 p ta ha ba la tc hc bc lc) : ∀ m, PrvC p ta ha ba la tc hc bc lc cst w0 m := by
 intro m
 induction m with
 | zero => exact fun xs a c oa oc E w h1 h2 h3 h4 h5 h6 h7 => prove_step p ta ha ba la tc hc bc lc 0 hp hsm cst w0 hP0 (fun k e => by cases e) xs a c oa oc E w h1 h2 h3 h4 h5 h6 h7
 | succ m ih => exact fun xs a c oa oc E w h1 h2 h3 h4 h5 h6 h7 => prove_step p ta ha ba la tc hc bc lc (m + 1) hp hsm cst w0 hP0 (fun k e => by cases e; exact ih) xs a c oa oc E w h1 h2 h3 h4 h5 h6 h7
set_option maxRecDepth 100000 in
set_option maxHeartbeats 1000000 in
theorem proveR_any (p : Pb) (ta ha ba la : Option Addr) (tc hc bc lc : Nat) (hsm0 : chkE p = 0 → p.nt ≤ 5 ∧ p.nh ≤ 4) (w : World) (hP : PbAt w p ta ha ba la tc hc bc lc) :
  Calls Try.prog 31 #[.agg #[.slice ta p.nt tc, .slice ha p.nh hc, .slice ba p.nb bc, .slice la p.nl lc]] w fun e w' => ∃ a c E, e = .returned (.tuple #[.slice a (List.length E) c, Vi (chkE p)]) ∧ LfAt w' a E ∧ stripL E = prvL p ∧ E.length ≤ 1024 ∧ Gr w w' := by
 have G := Gr.refl w
 have hpt := hP.t
 have hph := hP.h
 have hpb := hP.b
 have hpl := hP.l
 have hplen := hP.len
 obtain ⟨hn1, hn2, hn3, hn4⟩ := hplen
 have hcp1 := hpt.cap
 have hcp2 := hph.cap
 have hcp3 := hpb.cap
 have hcp4 := hpl.cap
 refine Y.calls 29 Try.func31 rfl rfl ?_
 intro ac F0
 have F : Fr ac 29 [(0, .agg #[.slice ta p.nt tc, .slice ha p.nh hc, .slice ba p.nb bc, .slice la p.nl lc])] := F0.sub _
 clear F0
 refine Y.sl ?_
 have hgs3 : w.heap.size ≤ w.heap.size := G.size
 refine Y.pv F (X.box rfl (F.ev 0 (.agg #[.slice ta p.nt tc, .slice ha p.nh hc, .slice ba p.nb bc, .slice la p.nl lc])) X.bx) ?_;clear F ac;intro ac F
 have hgs5 : w.heap.size ≤ w.heap.size := G.size
 obtain ⟨w6, hw_, g, hb, hbl, hC2⟩ := Y.bxd (RCells.nil w) #[.slice ta p.nt tc, .slice ha p.nh hc, .slice ba p.nb bc, .slice la p.nl lc] 27;rw [hw_];clear hw_
 replace G := G.trans g
 have hC := hC2
 clear hC2
 replace hpt := hpt.gr g
 replace hph := hph.gr g
 replace hpb := hpb.gr g
 replace hpl := hpl.gr g
 have hsz4 := hbl
 clear g hb hbl
 refine Y.pv2 F (X.assign rfl (X.kc (.slice none 0 0) rfl)) (fun _ F=>X.assign rfl (X.kc (Vi 0) rfl)) ?_;clear F ac;intro ac F
 refine Y.nt F [(1, Vp w.heap.size)] ?_;clear F ac;intro ac F
 refine Y.sl ?_
 refine Y.pv F (X.load rfl (F.ev 1 (Vp w.heap.size)) (X.ldN (Try.agg27 _) (Try.siz27 _) (Y.atz (⟨w.heap.size, 0, none⟩) (Y.AtFrom.cons (hC.at 0 rfl) (Y.AtFrom.cons (hC.at 1 rfl) (Y.AtFrom.cons (hC.at 2 rfl) (Y.AtFrom.cons (hC.at 3 rfl) (Y.AtFrom.nil _ _ _)))))))) ?_;clear F ac;intro ac F
 refine Y.pc F 19 (X.a1 (F.ev 9 (.agg #[.slice ta p.nt tc, .slice ha p.nh hc, .slice ba p.nb bc, .slice la p.nl lc]))) Try.func19 (check2_any p ta ha ba la tc hc bc lc w6 (hP.gr G)) ?_
 clear F ac
 rintro e w7 ⟨rfl, g⟩
 refine ⟨_, rfl, ?_⟩
 intro ac F
 replace G := G.trans g
 replace hC := hC.gr g
 replace hpt := hpt.gr g
 replace hph := hph.gr g
 replace hpb := hpb.gr g
 replace hpl := hpl.gr g
 clear g
 refine Y.pv F (X.assign rfl (F.ev 10 (Vi (chkE p)))) ?_;clear F ac;intro ac F
 refine Y.nt F [(1, Vp w.heap.size), (4, Vi (chkE p))] ?_;clear F ac;intro ac F
 refine Y.seq ?_
 refine Y.sg F [(1, Vp w.heap.size), (4, Vi (chkE p)), (12, .bool ((chkE p : Int) != 0))] (Y.pv F (X.move rfl (F.ev 4 (Vi (chkE p)))) fun ac F=>Y.pv F (X.binop rfl (F.ev 11 (Vi (chkE p))) (X.kc (Vi 0) rfl) (X.neqI Try.underlying31 rfl)) fun ac F=>Y.fin F) ?_;clear F ac;intro ac F
 cases h8 : ((chkE p : Int) != 0) with
 | false =>
  try rw [h8] at F
  have h8p : (chkE p : Int) = 0 := by simpa using h8
  have hck : chkE p = 0 := by omega
  have hp := chk_ok hck
  have hsm := hsm0 hck
  refine Y.condF (F.ev 12 (.bool false)) ?_
  refine Y.skip ?_
  refine X.thenN ?_
  refine Y.sl ?_
  refine Y.pv F (X.load rfl (F.ev 1 (Vp w.heap.size)) (X.ldN (Try.agg27 _) (Try.siz27 _) (Y.atz (⟨w.heap.size, 0, none⟩) (Y.AtFrom.cons (hC.at 0 rfl) (Y.AtFrom.cons (hC.at 1 rfl) (Y.AtFrom.cons (hC.at 2 rfl) (Y.AtFrom.cons (hC.at 3 rfl) (Y.AtFrom.nil _ _ _)))))))) ?_;clear F ac;intro ac F
  refine Y.pc F 66 (X.a1 (F.ev 15 (.agg #[.slice ta p.nt tc, .slice ha p.nh hc, .slice ba p.nb bc, .slice la p.nl lc]))) Try.func66 (first2_any p ta ha ba la tc hc bc lc hp hsm w7 (hP.gr G)) ?_
  clear F ac
  rintro e w9 ⟨fa, fc, rfl, hIf, g⟩
  refine ⟨_, rfl, ?_⟩
  intro ac F
  replace G := G.trans g
  replace hC := hC.gr g
  replace hpt := hpt.gr g
  replace hph := hph.gr g
  replace hpb := hpb.gr g
  replace hpl := hpl.gr g
  clear g
  refine Y.pv4 F (X.move rfl (F.ev 16 (.tuple #[.slice fa ((firR p).1.length) fc, Vi ((firR p).2.1), .bool ((firR p).2.2)]))) (fun _ F=>X.extract rfl (F.ev 14 (.tuple #[.slice fa ((firR p).1.length) fc, Vi ((firR p).2.1), .bool ((firR p).2.2)])) rfl) (fun _ F=>X.extract rfl (F.ev 14 (.tuple #[.slice fa ((firR p).1.length) fc, Vi ((firR p).2.1), .bool ((firR p).2.2)])) rfl) (fun _ F=>X.extract rfl (F.ev 14 (.tuple #[.slice fa ((firR p).1.length) fc, Vi ((firR p).2.1), .bool ((firR p).2.2)])) rfl) ?_;clear F ac;intro ac F
  refine Y.pv3 F (X.assign rfl (F.ev 17 (.slice fa ((firR p).1.length) fc))) (fun _ F=>X.assign rfl (F.ev 18 (Vi ((firR p).2.1)))) (fun _ F=>X.assign rfl (F.ev 19 (.bool ((firR p).2.2)))) ?_;clear F ac;intro ac F
  refine Y.nt F [(1, Vp w.heap.size), (6, Vi ((firR p).2.1)), (7, .bool ((firR p).2.2))] ?_;clear F ac;intro ac F
  refine Y.seq ?_
  refine Y.sg F [(1, Vp w.heap.size), (6, Vi ((firR p).2.1)), (21, .bool (!((firR p).2.2)))] (Y.pv F (X.move rfl (F.ev 7 (.bool ((firR p).2.2)))) fun ac F=>Y.pv F (X.notB rfl (F.ev 20 (.bool ((firR p).2.2))) rfl) fun ac F=>Y.fin F) ?_;clear F ac;intro ac F
  cases h10 : (firR p).2.2 with
  | false =>
   try rw [h10] at F
   refine Y.condT (F.ev 21 (.bool true)) ?_
   refine Y.lg F [(1, Vp w.heap.size), (6, Vi 1099511627776)] (Y.pv F (X.assign rfl (X.kc (Vi 1099511627776) rfl)) fun ac F=>Y.fin F) ?_;clear F ac;intro ac F
   refine Y.sl ?_
   refine Y.pv2 F (X.load rfl (F.ev 1 (Vp w.heap.size)) (X.ldN (Try.agg27 _) (Try.siz27 _) (Y.atz (⟨w.heap.size, 0, none⟩) (Y.AtFrom.cons (hC.at 0 rfl) (Y.AtFrom.cons (hC.at 1 rfl) (Y.AtFrom.cons (hC.at 2 rfl) (Y.AtFrom.cons (hC.at 3 rfl) (Y.AtFrom.nil _ _ _)))))))) (fun _ F=>X.move rfl (F.ev 6 (Vi 1099511627776))) ?_;clear F ac;intro ac F
   refine Y.pc F 70 (X.a4 (F.ev 22 (.agg #[.slice ta p.nt tc, .slice ha p.nh hc, .slice ba p.nb bc, .slice la p.nl lc])) (X.kc (.slice none 0 0) rfl) (F.ev 23 (Vi 1099511627776)) (X.kc (.slice none 0 0) rfl)) Try.func70 (prove_all p ta ha ba la tc hc bc lc hp hsm 1099511627776 w9 (hP.gr G) p.nt [] none 0 none 0 [] w9 (Gr.refl _) (by simp) HosOk.nil (Ints.nilZ _) (fun ad e => by cases e) (LvAt.nil _ _) (by have := pow_le hsm.1; simp; omega)) ?_
   clear F ac
   rintro e w11 ⟨v, E, rfl, hLv, hst, hon, -⟩
   rw [List.nil_append] at hLv
   obtain ⟨oa, oc, rfl⟩ := hLv.form
   have g : Gr w9 w11 := hon.gr (fun i hi e => by cases e)
   have hEl : E.length ≤ 1024 := by
    have h9 := prv_len hsm (dear := (fun ys => decide (1099511627776 ≤ bndV p ys)))
    rw [← hst, stripL_len] at h9; exact h9
   refine ⟨_, rfl, ?_⟩
   intro ac F
   replace G := G.trans g
   replace hC := hC.gr g
   replace hpt := hpt.gr g
   replace hph := hph.gr g
   replace hpb := hpb.gr g
   replace hpl := hpl.gr g
   clear g
   refine Y.pv F (X.assign rfl (F.ev 24 (.slice oa E.length oc))) ?_;clear F ac;intro ac F
   refine Y.nt F [(8, .slice oa E.length oc)] ?_;clear F ac;intro ac F
   refine Y.seq ?_
   refine Y.sg F [(8, .slice oa E.length oc), (27, .bool (decide ((5000 : Int) < E.length)))] (Y.pv F (X.move rfl (F.ev 8 (.slice oa E.length oc))) fun ac F=>Y.pv F (X.len1 Try.underlying45 rfl (F.ev 25 (.slice oa E.length oc))) fun ac F=>Y.pv F (X.binop rfl (F.ev 26 (Vi E.length)) (X.kc (Vi 5000) rfl) (X.gtrI Try.underlying3 rfl)) fun ac F=>Y.fin F) ?_;clear F ac;intro ac F
   cases h12 : decide ((5000 : Int) < E.length) with
   | false =>
    try rw [h12] at F
    have h12p : ¬ ((5000 : Int) < E.length) := of_decide_eq_false h12
    refine Y.condF (F.ev 27 (.bool false)) ?_
    refine Y.skip ?_
    refine X.thenN ?_
    refine Y.sg F [(2, .slice oa E.length oc), (3, Vi 0)] (Y.pv F (X.move rfl (F.ev 8 (.slice oa E.length oc))) fun ac F=>Y.pv F (X.assign rfl (F.ev 28 (.slice oa E.length oc))) fun ac F=>Y.pv F (X.assign rfl (X.kc (Vi 0) rfl)) fun ac F=>Y.fin F) ?_;clear F ac;intro ac F
    refine Y.ret ?_
    have hcs : cstR p = 1099511627776 := by unfold cstR; rw [h10]; rfl
    exact Y.ret0 (v := .tuple #[.slice oa E.length oc, Vi 0]) F (Y.rs2 F rfl (by kernel_rfl) (by kernel_rfl)) ⟨_, _, E, by rw [hck], hLv.lf, by rw [hst, prv_1 hck, ← dear_eq hck, hcs], hEl, G⟩
   | true =>
    try rw [h12] at F
    have h12p : ((5000 : Int) < E.length) := of_decide_eq_true h12
    refine Y.condT (F.ev 27 (.bool true)) ?_
    refine Y.sg F [(2, .slice none 0 0), (3, Vi 2)] (Y.pv F (X.assign rfl (X.kc (.slice none 0 0) rfl)) fun ac F=>Y.pv F (X.assign rfl (X.kc (Vi 2) rfl)) fun ac F=>Y.fin F) ?_;clear F ac;intro ac F
    refine Y.ret ?_
    refine X.thenR ?_
    exfalso; omega
  | true =>
   try rw [h10] at F
   refine Y.condF (F.ev 21 (.bool false)) ?_
   refine Y.skip ?_
   refine X.thenN ?_
   refine Y.sl ?_
   refine Y.pv2 F (X.load rfl (F.ev 1 (Vp w.heap.size)) (X.ldN (Try.agg27 _) (Try.siz27 _) (Y.atz (⟨w.heap.size, 0, none⟩) (Y.AtFrom.cons (hC.at 0 rfl) (Y.AtFrom.cons (hC.at 1 rfl) (Y.AtFrom.cons (hC.at 2 rfl) (Y.AtFrom.cons (hC.at 3 rfl) (Y.AtFrom.nil _ _ _)))))))) (fun _ F=>X.move rfl (F.ev 6 (Vi ((firR p).2.1)))) ?_;clear F ac;intro ac F
   refine Y.pc F 70 (X.a4 (F.ev 22 (.agg #[.slice ta p.nt tc, .slice ha p.nh hc, .slice ba p.nb bc, .slice la p.nl lc])) (X.kc (.slice none 0 0) rfl) (F.ev 23 (Vi ((firR p).2.1))) (X.kc (.slice none 0 0) rfl)) Try.func70 (prove_all p ta ha ba la tc hc bc lc hp hsm ((firR p).2.1) w9 (hP.gr G) p.nt [] none 0 none 0 [] w9 (Gr.refl _) (by simp) HosOk.nil (Ints.nilZ _) (fun ad e => by cases e) (LvAt.nil _ _) (by have := pow_le hsm.1; simp; omega)) ?_
   clear F ac
   rintro e w13 ⟨v, E, rfl, hLv, hst, hon, -⟩
   rw [List.nil_append] at hLv
   obtain ⟨oa, oc, rfl⟩ := hLv.form
   have g : Gr w9 w13 := hon.gr (fun i hi e => by cases e)
   have hEl : E.length ≤ 1024 := by
    have h9 := prv_len hsm (dear := (fun ys => decide ((firR p).2.1 ≤ bndV p ys)))
    rw [← hst, stripL_len] at h9; exact h9
   refine ⟨_, rfl, ?_⟩
   intro ac F
   replace G := G.trans g
   replace hC := hC.gr g
   replace hpt := hpt.gr g
   replace hph := hph.gr g
   replace hpb := hpb.gr g
   replace hpl := hpl.gr g
   clear g
   refine Y.pv F (X.assign rfl (F.ev 24 (.slice oa E.length oc))) ?_;clear F ac;intro ac F
   refine Y.nt F [(8, .slice oa E.length oc)] ?_;clear F ac;intro ac F
   refine Y.seq ?_
   refine Y.sg F [(8, .slice oa E.length oc), (27, .bool (decide ((5000 : Int) < E.length)))] (Y.pv F (X.move rfl (F.ev 8 (.slice oa E.length oc))) fun ac F=>Y.pv F (X.len1 Try.underlying45 rfl (F.ev 25 (.slice oa E.length oc))) fun ac F=>Y.pv F (X.binop rfl (F.ev 26 (Vi E.length)) (X.kc (Vi 5000) rfl) (X.gtrI Try.underlying3 rfl)) fun ac F=>Y.fin F) ?_;clear F ac;intro ac F
   cases h14 : decide ((5000 : Int) < E.length) with
   | false =>
    try rw [h14] at F
    have h14p : ¬ ((5000 : Int) < E.length) := of_decide_eq_false h14
    refine Y.condF (F.ev 27 (.bool false)) ?_
    refine Y.skip ?_
    refine X.thenN ?_
    refine Y.sg F [(2, .slice oa E.length oc), (3, Vi 0)] (Y.pv F (X.move rfl (F.ev 8 (.slice oa E.length oc))) fun ac F=>Y.pv F (X.assign rfl (F.ev 28 (.slice oa E.length oc))) fun ac F=>Y.pv F (X.assign rfl (X.kc (Vi 0) rfl)) fun ac F=>Y.fin F) ?_;clear F ac;intro ac F
    refine Y.ret ?_
    have hcs : cstR p = (firR p).2.1 := by unfold cstR; rw [h10]; rfl
    exact Y.ret0 (v := .tuple #[.slice oa E.length oc, Vi 0]) F (Y.rs2 F rfl (by kernel_rfl) (by kernel_rfl)) ⟨_, _, E, by rw [hck], hLv.lf, by rw [hst, prv_1 hck, ← dear_eq hck, hcs], hEl, G⟩
   | true =>
    try rw [h14] at F
    have h14p : ((5000 : Int) < E.length) := of_decide_eq_true h14
    refine Y.condT (F.ev 27 (.bool true)) ?_
    refine Y.sg F [(2, .slice none 0 0), (3, Vi 2)] (Y.pv F (X.assign rfl (X.kc (.slice none 0 0) rfl)) fun ac F=>Y.pv F (X.assign rfl (X.kc (Vi 2) rfl)) fun ac F=>Y.fin F) ?_;clear F ac;intro ac F
    refine Y.ret ?_
    refine X.thenR ?_
    exfalso; omega
 | true =>
  try rw [h8] at F
  have h8p : ¬ (chkE p : Int) = 0 := by simpa using h8
  refine Y.condT (F.ev 12 (.bool true)) ?_
  refine Y.sg F [(2, .slice none 0 0), (3, Vi (chkE p))] (Y.pv F (X.move rfl (F.ev 4 (Vi (chkE p)))) fun ac F=>Y.pv F (X.assign rfl (X.kc (.slice none 0 0) rfl)) fun ac F=>Y.pv F (X.assign rfl (F.ev 13 (Vi (chkE p)))) fun ac F=>Y.fin F) ?_;clear F ac;intro ac F
  refine Y.ret ?_
  refine X.thenR ?_
  exact Y.ret0 (v := .tuple #[.slice none 0 0, Vi (chkE p)]) F (Y.rs2 F rfl (by kernel_rfl) (by kernel_rfl)) ⟨none, 0, [], rfl, LfAt.nil _ _, by rw [prv_0 (by omega)]; rfl, by decide, G⟩
end
section
open Go.RowKit

/-- the problem of the examples -/
def exP : Pb where
  nt := 2
  nh := 2
  nb := 0
  nl := 1
  tn := fun i => if i = 0 then ⟨#[97]⟩ else ⟨#[98]⟩
  tv := fun i r => (([[0, 2, 3, 0], [0, 1, 3, 2]] : List (List Int))[i]?.getD [])[r]?.getD 0
  hn := fun i => if i = 0 then ⟨#[120]⟩ else ⟨#[121]⟩
  hv := fun i r => (([[0, 4, 5, 2, 0, 10], [0, 2, 5, 0, 1, 4]] : List (List Int))[i]?.getD [])[r]?.getD 0
  bv := fun _ _ => 0
  lv := fun _ r => ([0, 1, 3] : List Int)[r]?.getD 0
theorem ex_best : bestR exP = ([1, 0], 20, 0) := by kernel_rfl
theorem TbAt.only {S : Nat → Prop} {w w' : World} {k : Nat} {a : Option Addr} {n c : Nat} {V : Nat → Nat → Value} (h : TbAt w k a n c V) (g : Only S w w') (hn : ∀ ad, a = some ad → ¬ S ad.block) : TbAt w' k a n c V :=
  ⟨h.1, h.2.1, fun j hj => by
    obtain ⟨ad, e, hb, hc⟩ := h.2.2 j hj
    exact ⟨ad, e, Nat.lt_of_lt_of_le hb g.size, fun r hr => g.cell (hc r hr) (by rw [add_block, add_block]; exact hn ad e)⟩⟩
theorem TbAt.nil (w : World) (k c : Nat) (a : Option Addr) (V : Nat → Nat → Value) : TbAt w k a 0 c V := ⟨Nat.zero_le _, by simp, fun j hj => by omega⟩
theorem tb_new {W : World} {b k n : Nat} {V : Nat → Nat → Value} {cs : List Value} {t : TypeId} (h : W.heap[b]? = some (.cells cs.toArray t)) (hn : n * k * 8 ≤ 140737488351232) (hc : ∀ j r, j < n → r < k → cs[j * k + r]? = some (V j r)) : TbAt W k (some ⟨b, 0, none⟩) n n V :=
  ⟨Nat.le_refl _, hn, fun j hj => ⟨_, rfl, (Array.getElem?_eq_some_iff.1 h).1, fun r hr => by
    rw [addr_add0, show (⟨b, j * k, none⟩ : Addr).add r = ⟨b, j * k + r, none⟩ from Y.addr_add _ _ _]
    exact cell_at h (by simpa using hc j r hj hr)⟩⟩
theorem exT_at {W : World} {b : Nat} (h : W.heap[b]? = some (.cells #[.string ⟨#[97]⟩, .int .i64 2, .int .i64 3, .int .i64 0, .string ⟨#[98]⟩, .int .i64 1, .int .i64 3, .int .i64 2] 74)) : TbAt W 4 (some ⟨b, 0, none⟩) 2 2 (tvV exP) := tb_new (cs := [.string ⟨#[97]⟩, .int .i64 2, .int .i64 3, .int .i64 0, .string ⟨#[98]⟩, .int .i64 1, .int .i64 3, .int .i64 2]) h (by decide) (fun j r hj hr => by
  have h1 : j = 0 ∨ j = 1 := by omega
  have h2 : r = 0 ∨ r = 1 ∨ r = 2 ∨ r = 3 := by omega
  rcases h1 with rfl | rfl <;> rcases h2 with rfl | rfl | rfl | rfl <;> rfl)
theorem exH_at {W : World} {b : Nat} (h : W.heap[b]? = some (.cells #[.string ⟨#[120]⟩, .int .i64 4, .int .i64 5, .int .i64 2, .int .i64 0, .int .i64 10, .string ⟨#[121]⟩, .int .i64 2, .int .i64 5, .int .i64 0, .int .i64 1, .int .i64 4] 53)) : TbAt W 6 (some ⟨b, 0, none⟩) 2 2 (hvV exP) := tb_new (cs := [.string ⟨#[120]⟩, .int .i64 4, .int .i64 5, .int .i64 2, .int .i64 0, .int .i64 10, .string ⟨#[121]⟩, .int .i64 2, .int .i64 5, .int .i64 0, .int .i64 1, .int .i64 4]) h (by decide) (fun j r hj hr => by
  have h1 : j = 0 ∨ j = 1 := by omega
  have h2 : r = 0 ∨ r = 1 ∨ r = 2 ∨ r = 3 ∨ r = 4 ∨ r = 5 := by omega
  rcases h1 with rfl | rfl <;> rcases h2 with rfl | rfl | rfl | rfl | rfl | rfl <;> rfl)
theorem exL_at {W : World} {b : Nat} (h : W.heap[b]? = some (.cells #[.int .i64 0, .int .i64 1, .int .i64 3] 84)) : TbAt W 3 (some ⟨b, 0, none⟩) 1 1 (lvV exP) := tb_new (cs := [.int .i64 0, .int .i64 1, .int .i64 3]) h (by decide) (fun j r hj hr => by
  obtain rfl : j = 0 := by omega
  have h2 : r = 0 ∨ r = 1 ∨ r = 2 := by omega
  rcases h2 with rfl | rfl | rfl <;> rfl)
theorem Try.exT0 (w : World) : (Instr.build 74 #[(0, .string ⟨#[97]⟩), (1, .int .i64 2), (2, .int .i64 3)]).run Try.prog w = .ok (.agg #[.string ⟨#[97]⟩, .int .i64 2, .int .i64 3, .int .i64 0]) w := by kernel_rfl
theorem Try.exT1 (w : World) : (Instr.build 74 #[(0, .string ⟨#[98]⟩), (1, .int .i64 1), (2, .int .i64 3), (3, .int .i64 2)]).run Try.prog w = .ok (.agg #[.string ⟨#[98]⟩, .int .i64 1, .int .i64 3, .int .i64 2]) w := by kernel_rfl
theorem Try.exH0 (w : World) : (Instr.build 53 #[(0, .string ⟨#[120]⟩), (1, .int .i64 4), (2, .int .i64 5), (3, .int .i64 2), (5, .int .i64 10)]).run Try.prog w = .ok (.agg #[.string ⟨#[120]⟩, .int .i64 4, .int .i64 5, .int .i64 2, .int .i64 0, .int .i64 10]) w := by kernel_rfl
theorem Try.exH1 (w : World) : (Instr.build 53 #[(0, .string ⟨#[121]⟩), (1, .int .i64 2), (2, .int .i64 5), (4, .int .i64 1), (5, .int .i64 4)]).run Try.prog w = .ok (.agg #[.string ⟨#[121]⟩, .int .i64 2, .int .i64 5, .int .i64 0, .int .i64 1, .int .i64 4]) w := by kernel_rfl
theorem Try.exL0 (w : World) : (Instr.build 84 #[(0, .int .i64 0), (1, .int .i64 1), (2, .int .i64 3)]).run Try.prog w = .ok (.agg #[.int .i64 0, .int .i64 1, .int .i64 3]) w := by kernel_rfl
theorem Try.exsT (w : World) : (Instr.buildSlice 22 2 #[(0, .agg #[.string ⟨#[97]⟩, .int .i64 2, .int .i64 3, .int .i64 0]), (1, .agg #[.string ⟨#[98]⟩, .int .i64 1, .int .i64 3, .int .i64 2])]).run Try.prog w = .ok (.slice (some ⟨w.heap.size, 0, none⟩) 2 2) (w.alloc (.cells #[.string ⟨#[97]⟩, .int .i64 2, .int .i64 3, .int .i64 0, .string ⟨#[98]⟩, .int .i64 1, .int .i64 3, .int .i64 2] 74)) := by kernel_rfl
theorem Try.exsH (w : World) : (Instr.buildSlice 23 2 #[(0, .agg #[.string ⟨#[120]⟩, .int .i64 4, .int .i64 5, .int .i64 2, .int .i64 0, .int .i64 10]), (1, .agg #[.string ⟨#[121]⟩, .int .i64 2, .int .i64 5, .int .i64 0, .int .i64 1, .int .i64 4])]).run Try.prog w = .ok (.slice (some ⟨w.heap.size, 0, none⟩) 2 2) (w.alloc (.cells #[.string ⟨#[120]⟩, .int .i64 4, .int .i64 5, .int .i64 2, .int .i64 0, .int .i64 10, .string ⟨#[121]⟩, .int .i64 2, .int .i64 5, .int .i64 0, .int .i64 1, .int .i64 4] 53)) := by kernel_rfl
theorem Try.exsL (w : World) : (Instr.buildSlice 25 1 #[(0, .agg #[.int .i64 0, .int .i64 1, .int .i64 3])]).run Try.prog w = .ok (.slice (some ⟨w.heap.size, 0, none⟩) 1 1) (w.alloc (.cells #[.int .i64 0, .int .i64 1, .int .i64 3] 84)) := by kernel_rfl
theorem Try.bd27 (a b c : Option Addr) (n1 c1 n2 c2 n3 c3 : Nat) (w : World) : (Instr.build 27 #[(0, .slice a n1 c1), (1, .slice b n2 c2), (3, .slice c n3 c3)]).run Try.prog w = .ok (.agg #[.slice a n1 c1, .slice b n2 c2, .slice none 0 0, .slice c n3 c3]) w := by kernel_rfl
theorem X.b013 {ρ : Operand → Value} {x y z : Operand} {v1 v2 v3 : Value} (h1 : ρ x = v1) (h2 : ρ y = v2) (h3 : ρ z = v3) : [(0, x), (1, y), (3, z)].map (fun p : Nat × Operand => (p.1, ρ p.2)) = [(0, v1), (1, v2), (3, v3)] := by simp [h1, h2, h3]
theorem exT_sz : ∀ i, i < exP.nt → (exP.tn i).size ≤ 9223372036854775807 := fun i _ => by
  show (if i = 0 then (⟨#[97]⟩ : ByteArray) else ⟨#[98]⟩).size ≤ _
  split <;> decide
theorem exH_sz : ∀ i, i < exP.nh → (exP.hn i).size ≤ 9223372036854775807 := fun i _ => by
  show (if i = 0 then (⟨#[120]⟩ : ByteArray) else ⟨#[121]⟩).size ≤ _
  split <;> decide
set_option maxRecDepth 100000 in
set_option maxHeartbeats 400000 in
theorem example_any (w : World) :
  Calls Try.prog 51 #[] w fun e w' => ∃ ta ha la, e = .returned (.agg #[.slice ta 2 2, .slice ha 2 2, .slice none 0 0, .slice la 1 1]) ∧ PbAt w' exP ta ha none la 2 2 0 1 ∧ Gr w w' := by
 have G := Gr.refl w
 refine Y.calls 10 Try.func51 rfl rfl ?_
 intro ac F0
 have F : Fr ac 10 [] := F0.sub _
 clear F0
 refine Y.sl ?_
 refine Y.pv F (Y.al rfl (Try.new27 _)) ?_;clear F ac;intro ac F
 have g := Gr.alloc w (.cells #[.slice none 0 0, .slice none 0 0, .slice none 0 0, .slice none 0 0] 27)
 have hb := heap_alloc_new w (.cells #[.slice none 0 0, .slice none 0 0, .slice none 0 0, .slice none 0 0] 27)
 have hszw3 : w.heap.size < (w.alloc (.cells #[.slice none 0 0, .slice none 0 0, .slice none 0 0, .slice none 0 0] 27)).heap.size := by simp
 have hgsw3 : w.heap.size ≤ w.heap.size := G.size
 generalize w.alloc (.cells #[.slice none 0 0, .slice none 0 0, .slice none 0 0, .slice none 0 0] 27) = w3 at *
 replace G := G.trans g
 have hVw3 : OwnP w3 w.heap.size 4 (VL [.slice none 0 0, .slice none 0 0, .slice none 0 0, .slice none 0 0]) := ownP_bx (vs := [.slice none 0 0, .slice none 0 0, .slice none 0 0, .slice none 0 0]) hb
 clear g hb
 refine Y.nt F [(0, Vp w.heap.size)] ?_;clear F ac;intro ac F
 refine Y.sl ?_
 refine Y.pv3 F (Y.bd rfl rfl (Try.exT0 _)) (fun _ F=>Y.bd rfl rfl (Try.exT1 _)) (fun _ F=>X.bs rfl (X.b2 (F.ev 1 (.agg #[.string ⟨#[97]⟩, Vi 2, Vi 3, Vi 0])) (F.ev 2 (.agg #[.string ⟨#[98]⟩, Vi 1, Vi 3, Vi 2]))) (Try.exsT _)) ?_;clear F ac;intro ac F
 have g := Gr.alloc w3 (.cells #[.string ⟨#[97]⟩, Vi 2, Vi 3, Vi 0, .string ⟨#[98]⟩, Vi 1, Vi 3, Vi 2] 74)
 have hgsT : w.heap.size ≤ w3.heap.size := G.size
 have hboT : w.heap.size < w3.heap.size := hVw3.lt
 have hxT := exT_at (heap_alloc_new w3 (.cells #[.string ⟨#[97]⟩, Vi 2, Vi 3, Vi 0, .string ⟨#[98]⟩, Vi 1, Vi 3, Vi 2] 74))
 generalize w3.alloc (.cells #[.string ⟨#[97]⟩, Vi 2, Vi 3, Vi 0, .string ⟨#[98]⟩, Vi 1, Vi 3, Vi 2] 74) = w4 at *
 replace G := G.trans g
 replace hVw3 := hVw3.gr g
 clear g
 refine Y.pv3 F (Y.bd rfl rfl (Try.exH0 _)) (fun _ F=>Y.bd rfl rfl (Try.exH1 _)) (fun _ F=>X.bs rfl (X.b2 (F.ev 4 (.agg #[.string ⟨#[120]⟩, Vi 4, Vi 5, Vi 2, Vi 0, Vi 10])) (F.ev 5 (.agg #[.string ⟨#[121]⟩, Vi 2, Vi 5, Vi 0, Vi 1, Vi 4]))) (Try.exsH _)) ?_;clear F ac;intro ac F
 have g := Gr.alloc w4 (.cells #[.string ⟨#[120]⟩, Vi 4, Vi 5, Vi 2, Vi 0, Vi 10, .string ⟨#[121]⟩, Vi 2, Vi 5, Vi 0, Vi 1, Vi 4] 53)
 have hgsH : w.heap.size ≤ w4.heap.size := G.size
 have hboH : w.heap.size < w4.heap.size := hVw3.lt
 have hxH := exH_at (heap_alloc_new w4 (.cells #[.string ⟨#[120]⟩, Vi 4, Vi 5, Vi 2, Vi 0, Vi 10, .string ⟨#[121]⟩, Vi 2, Vi 5, Vi 0, Vi 1, Vi 4] 53))
 generalize w4.alloc (.cells #[.string ⟨#[120]⟩, Vi 4, Vi 5, Vi 2, Vi 0, Vi 10, .string ⟨#[121]⟩, Vi 2, Vi 5, Vi 0, Vi 1, Vi 4] 53) = w5 at *
 replace G := G.trans g
 replace hVw3 := hVw3.gr g
 replace hxT := hxT.gr g
 clear g
 refine Y.pv2 F (Y.bd rfl rfl (Try.exL0 _)) (fun _ F=>X.bs rfl (X.b1 (F.ev 7 (.agg #[Vi 0, Vi 1, Vi 3]))) (Try.exsL _)) ?_;clear F ac;intro ac F
 have g := Gr.alloc w5 (.cells #[Vi 0, Vi 1, Vi 3] 84)
 have hgsL : w.heap.size ≤ w5.heap.size := G.size
 have hboL : w.heap.size < w5.heap.size := hVw3.lt
 have hxL := exL_at (heap_alloc_new w5 (.cells #[Vi 0, Vi 1, Vi 3] 84))
 generalize w5.alloc (.cells #[Vi 0, Vi 1, Vi 3] 84) = w6 at *
 replace G := G.trans g
 replace hVw3 := hVw3.gr g
 replace hxT := hxT.gr g
 replace hxH := hxH.gr g
 clear g
 refine Y.pv F (Y.bd rfl (X.b013 (F.ev 3 (.slice (some ⟨w3.heap.size, 0, none⟩) 2 2)) (F.ev 6 (.slice (some ⟨w4.heap.size, 0, none⟩) 2 2)) (F.ev 8 (.slice (some ⟨w5.heap.size, 0, none⟩) 1 1))) (Try.bd27 _ _ _ _ _ _ _ _ _ _)) ?_;clear F ac;intro ac F
 obtain ⟨w7, hrun, hV2, hon⟩ := ownP_store (P := Try.prog) (vs := [.slice (some ⟨w3.heap.size, 0, none⟩) 2 2, .slice (some ⟨w4.heap.size, 0, none⟩) 2 2, .slice none 0 0, .slice (some ⟨w5.heap.size, 0, none⟩) 1 1]) (t := 27) hVw3 rfl (fun W => Try.siz27 W) rfl
 refine Y.punit F (X.w0 rfl) rfl (X.store rfl (F.ev 0 (Vp w.heap.size)) (F.ev 9 (.agg #[.slice (some ⟨w3.heap.size, 0, none⟩) 2 2, .slice (some ⟨w4.heap.size, 0, none⟩) 2 2, .slice none 0 0, .slice (some ⟨w5.heap.size, 0, none⟩) 1 1])) hrun) ?_
 clear F ac hrun
 intro ac F
 replace hxT := hxT.only hon (fun ad e h => by injection e with e; subst e; have h9 : _ = _ := h; simp only at h9; omega)
 replace hxH := hxH.only hon (fun ad e h => by injection e with e; subst e; have h9 : _ = _ := h; simp only at h9; omega)
 replace hxL := hxL.only hon (fun ad e h => by injection e with e; subst e; have h9 : _ = _ := h; simp only at h9; omega)
 replace G := Y.Only.up G hon (by omega)
 refine Y.nt F [(0, Vp w.heap.size)] ?_;clear F ac;intro ac F
 refine Y.ret ?_
 exact Y.ret0 (v := .agg #[.slice (some ⟨w3.heap.size, 0, none⟩) 2 2, .slice (some ⟨w4.heap.size, 0, none⟩) 2 2, .slice none 0 0, .slice (some ⟨w5.heap.size, 0, none⟩) 1 1]) F (Y.rcl F rfl (by kernel_rfl) (ownP_load hV2 (Try.agg27 _) (Try.siz27 _) rfl)) ⟨_, _, _, rfl, ⟨hxT, hxH, TbAt.nil _ _ _ _ _, hxL, fun i hi => exT_sz i hi, fun i hi => exH_sz i hi⟩, G⟩
set_option maxRecDepth 100000 in
set_option maxHeartbeats 400000 in
theorem works_any (w : World) :
  Calls Try.prog 16 #[] w fun e w' => e = .returned (.bool true) ∧ Gr w w' := by
 have G := Gr.refl w
 refine Y.calls 33 Try.func16 rfl rfl ?_
 intro ac F0
 have F : Fr ac 33 [] := F0.sub _
 clear F0
 refine Y.sg F [] (Y.pv F (X.assign rfl (X.kc (.bool false) rfl)) fun ac F=>Y.fin F) ?_;clear F ac;intro ac F
 refine Y.sl ?_
 refine Y.pcall F (X.w0 rfl) rfl (X.enter (F := 51) rfl (X.kc (.func (.func 51) #[] #[]) rfl) rfl (enters_of Try.func51 (by kernel_rfl) rfl _)) (example_any w) ?_
 clear F ac
 rintro e w3 ⟨ta, ha, la, rfl, hP0, g⟩
 refine ⟨_, rfl, ?_⟩
 intro ac F
 replace G := G.trans g
 clear g
 have hP := hP0
 refine Y.pc F 22 (X.a1 (F.ev 5 (.agg #[.slice ta 2 2, .slice ha 2 2, .slice none 0 0, .slice la 1 1]))) Try.func22 (best_any exP ta ha none la 2 2 0 1 w3 hP) ?_
 clear F ac
 rintro e w4 ⟨a9, c9, rfl, hI, -, g⟩
 rw [ex_best] at hI
 refine ⟨_, rfl, ?_⟩
 rw [ex_best]
 intro ac F
 replace G := G.trans g
 clear g
 obtain ⟨ad, rfl, -, hc0⟩ := hI.at (j := 0) (by decide)
 obtain ⟨ad2, e2, -, hc1⟩ := hI.at (j := 1) (by decide)
 injection e2 with e2
 subst e2
 have hC : RCells w4 [(ad.add 0, Vi 1), (ad.add 1, Vi 0)] := (RCells.cons hc0 (RCells.cons hc1 (RCells.nil _)))
 refine Y.pv4 F (X.move rfl (F.ev 6 (.tuple #[.slice (some ad) 2 c9, Vi 20, Vi 0]))) (fun _ F=>X.extract rfl (F.ev 4 (.tuple #[.slice (some ad) 2 c9, Vi 20, Vi 0])) rfl) (fun _ F=>X.extract rfl (F.ev 4 (.tuple #[.slice (some ad) 2 c9, Vi 20, Vi 0])) rfl) (fun _ F=>X.extract rfl (F.ev 4 (.tuple #[.slice (some ad) 2 c9, Vi 20, Vi 0])) rfl) ?_;clear F ac;intro ac F
 refine Y.pv3 F (X.assign rfl (F.ev 7 (.slice (some ad) 2 c9))) (fun _ F=>X.assign rfl (F.ev 8 (Vi 20))) (fun _ F=>X.assign rfl (F.ev 9 (Vi 0))) ?_;clear F ac;intro ac F
 refine Y.nt F [(1, .slice (some ad) 2 c9), (2, Vi 20), (3, Vi 0)] ?_;clear F ac;intro ac F
 refine Y.sg F [(0, .bool true)] (by
  refine Y.pv F (X.move rfl (F.ev 3 (Vi 0))) fun ac F=>?_
  refine Y.pval F (X.w0 rfl) rfl (X.binop rfl (F.ev 10 (Vi 0)) (X.kc (Vi 0) rfl) (X.eqlI Try.underlying31 (show ((0 : Int) == 0) = true by simp))) fun ac F=>?_
  refine Y.pv F (X.move rfl (F.ev 11 (.bool true))) fun ac F=>?_
  refine Y.pg F 2 12 true (X.move rfl (F.ev 2 (Vi 20))) fun ac F=>?_
  refine Y.pg F 2 12 true (X.binop rfl (F.ev 13 (Vi 20)) (X.kc (Vi 20) rfl) (X.eqlI Try.underlying3 (show ((20 : Int) == 20) = true by simp))) fun ac F=>?_
  refine Y.pv F (X.pickT rfl (F.ev 12 (.bool true)) (F.ev 14 (.bool true))) fun ac F=>?_
  refine Y.pv F (X.move rfl (F.ev 15 (.bool true))) fun ac F=>?_
  refine Y.pg F 6 16 true (X.move rfl (F.ev 1 (.slice (some ad) 2 c9))) fun ac F=>?_
  refine Y.pg F 6 16 true (X.len1 Try.underlying34 rfl (F.ev 17 (.slice (some ad) 2 c9))) fun ac F=>?_
  refine Y.pg F 6 16 true (X.binop rfl (F.ev 18 (Vi 2)) (X.kc (Vi 2) rfl) (X.eqlI Try.underlying3 (show ((2 : Int) == 2) = true by simp))) fun ac F=>?_
  refine Y.pv F (X.pickT rfl (F.ev 16 (.bool true)) (F.ev 19 (.bool true))) fun ac F=>?_
  refine Y.pv F (X.move rfl (F.ev 20 (.bool true))) fun ac F=>?_
  refine Y.pg F 11 21 true (X.move rfl (F.ev 1 (.slice (some ad) 2 c9))) fun ac F=>?_
  refine Y.pg F 11 21 true (X.index rfl (F.ev 22 (.slice (some ad) 2 c9)) (X.kc (Vi 0) rfl) (X.idx (k := 0) Try.underlying34 (Try.siz3 _) (by omega) (by omega) (by rw [Nat.mul_one]))) fun ac F=>?_
  refine Y.pg F 11 21 true (X.load rfl (F.ev 23 (.pointer (some (ad.add 0)))) (X.ld1 (Try.agg3 _) (hC.at 0 rfl))) fun ac F=>?_
  refine Y.pg F 11 21 true (X.binop rfl (F.ev 24 (Vi 1)) (X.kc (Vi 1) rfl) (X.eqlI Try.underlying3 (show ((1 : Int) == 1) = true by simp))) fun ac F=>?_
  refine Y.pv F (X.pickT rfl (F.ev 21 (.bool true)) (F.ev 25 (.bool true))) fun ac F=>?_
  refine Y.pv F (X.move rfl (F.ev 26 (.bool true))) fun ac F=>?_
  refine Y.pg F 17 27 true (X.move rfl (F.ev 1 (.slice (some ad) 2 c9))) fun ac F=>?_
  refine Y.pg F 17 27 true (X.index rfl (F.ev 28 (.slice (some ad) 2 c9)) (X.kc (Vi 1) rfl) (X.idx (k := 1) Try.underlying34 (Try.siz3 _) (by omega) (by omega) (by rw [Nat.mul_one]))) fun ac F=>?_
  refine Y.pg F 17 27 true (X.load rfl (F.ev 29 (.pointer (some (ad.add 1)))) (X.ld1 (Try.agg3 _) (hC.at 1 rfl))) fun ac F=>?_
  refine Y.pg F 17 27 true (X.binop rfl (F.ev 30 (Vi 0)) (X.kc (Vi 0) rfl) (X.eqlI Try.underlying3 (show ((0 : Int) == 0) = true by simp))) fun ac F=>?_
  refine Y.pv F (X.pickT rfl (F.ev 27 (.bool true)) (F.ev 31 (.bool true))) fun ac F=>?_
  refine Y.pv F (X.assign rfl (F.ev 32 (.bool true))) fun ac F=>?_
  exact Y.fin F) ?_;clear F ac;intro ac F
 refine Y.ret ?_
 exact Y.ret0 (v := .bool true) F (Y.r1 F) ⟨rfl, G⟩
end
section
open Go.RowKit

set_option maxRecDepth 100000 in
set_option maxHeartbeats 1000000 in
theorem far_any (p : Pb) (ta ha ba la : Option Addr) (tc hc bc lc : Nat) (w : World) (hP : PbAt w p ta ha ba la tc hc bc lc) :
  Calls Try.prog 15 #[.agg #[.slice ta p.nt tc, .slice ha p.nh hc, .slice ba p.nb bc, .slice la p.nl lc]] w fun e w' => e = .returned (.bool (farB p)) ∧ Gr w w' := by
 have G := Gr.refl w
 have hpt := hP.t
 have hph := hP.h
 have hpb := hP.b
 have hpl := hP.l
 have hplen := hP.len
 obtain ⟨hn1, hn2, hn3, hn4⟩ := hplen
 have hcp1 := hpt.cap
 have hcp2 := hph.cap
 have hcp3 := hpb.cap
 have hcp4 := hpl.cap
 refine Y.calls 57 Try.func15 rfl rfl ?_
 intro ac F0
 have F : Fr ac 57 [(0, .agg #[.slice ta p.nt tc, .slice ha p.nh hc, .slice ba p.nb bc, .slice la p.nl lc])] := F0.sub _
 clear F0
 refine Y.sl ?_
 have hgs3 : w.heap.size ≤ w.heap.size := G.size
 refine Y.pv F (X.box rfl (F.ev 0 (.agg #[.slice ta p.nt tc, .slice ha p.nh hc, .slice ba p.nb bc, .slice la p.nl lc])) X.bx) ?_;clear F ac;intro ac F
 have hgs5 : w.heap.size ≤ w.heap.size := G.size
 obtain ⟨w6, hw_, g, hb, hbl, hC2⟩ := Y.bxd (RCells.nil w) #[.slice ta p.nt tc, .slice ha p.nh hc, .slice ba p.nb bc, .slice la p.nl lc] 27;rw [hw_];clear hw_
 replace G := G.trans g
 have hC := hC2
 clear hC2
 replace hpt := hpt.gr g
 replace hph := hph.gr g
 replace hpb := hpb.gr g
 replace hpl := hpl.gr g
 have hsz4 := hbl
 clear g hb hbl
 refine Y.pv F (X.assign rfl (X.kc (.bool false) rfl)) ?_;clear F ac;intro ac F
 refine Y.nt F [(1, Vp w.heap.size)] ?_;clear F ac;intro ac F
 refine Y.seq ?_
 refine Y.sl ?_
 refine Y.pv4 F (X.field rfl (F.ev 1 (Vp w.heap.size)) (X.fld Try.underlying27 rfl (Try.siz22 _) rfl rfl)) (fun _ F=>X.load rfl (F.ev 5 (Vp w.heap.size)) (X.ld1 (Try.agg22 _) (hC.at 0 rfl))) (fun _ F=>X.len1 Try.underlying22 rfl (F.ev 6 (.slice ta p.nt tc))) (fun _ F=>X.binop rfl (F.ev 7 (Vi p.nt)) (X.kc (Vi 20) rfl) (X.gtrI Try.underlying3 rfl)) ?_;clear F ac;intro ac F
 refine Y.pv F (X.move rfl (F.ev 8 (.bool (decide ((20 : Int) < p.nt))))) ?_;clear F ac;intro ac F
 cases h7 : decide ((20 : Int) < p.nt) with
 | false =>
  try rw [h7] at F
  have h7p : ¬ ((20 : Int) < p.nt) := of_decide_eq_false h7
  refine Y.pg F 4 9 false (X.field rfl (F.ev 1 (Vp w.heap.size)) (X.fld Try.underlying27 rfl (Try.siz23 _) rfl rfl)) ?_;clear F ac;intro ac F
  refine Y.pg F 4 9 false (X.load rfl (F.ev 10 (.pointer (some ⟨w.heap.size, 1, none⟩))) (X.ld1 (Try.agg23 _) (hC.at 1 rfl))) ?_;clear F ac;intro ac F
  refine Y.pg F 4 9 false (X.len1 Try.underlying23 rfl (F.ev 11 (.slice ha p.nh hc))) ?_;clear F ac;intro ac F
  refine Y.pg F 4 9 false (X.binop rfl (F.ev 12 (Vi p.nh)) (X.kc (Vi 20) rfl) (X.gtrI Try.underlying3 rfl)) ?_;clear F ac;intro ac F
  refine Y.pv2 F (X.pickF rfl (F.ev 9 (.bool false)) (F.ev 13 (.bool (decide ((20 : Int) < p.nh))))) (fun _ F=>X.move rfl (F.ev 14 (.bool (decide ((20 : Int) < p.nh))))) ?_;clear F ac;intro ac F
  cases h8 : decide ((20 : Int) < p.nh) with
  | false =>
   try rw [h8] at F
   have h8p : ¬ ((20 : Int) < p.nh) := of_decide_eq_false h8
   refine Y.pg F 10 15 false (X.field rfl (F.ev 1 (Vp w.heap.size)) (X.fld Try.underlying27 rfl (Try.siz24 _) rfl rfl)) ?_;clear F ac;intro ac F
   refine Y.pg F 10 15 false (X.load rfl (F.ev 16 (.pointer (some ⟨w.heap.size, 2, none⟩))) (X.ld1 (Try.agg24 _) (hC.at 2 rfl))) ?_;clear F ac;intro ac F
   refine Y.pg F 10 15 false (X.len1 Try.underlying24 rfl (F.ev 17 (.slice ba p.nb bc))) ?_;clear F ac;intro ac F
   refine Y.pg F 10 15 false (X.binop rfl (F.ev 18 (Vi p.nb)) (X.kc (Vi 40) rfl) (X.gtrI Try.underlying3 rfl)) ?_;clear F ac;intro ac F
   refine Y.pv2 F (X.pickF rfl (F.ev 15 (.bool false)) (F.ev 19 (.bool (decide ((40 : Int) < p.nb))))) (fun _ F=>X.move rfl (F.ev 20 (.bool (decide ((40 : Int) < p.nb))))) ?_;clear F ac;intro ac F
   cases h9 : decide ((40 : Int) < p.nb) with
   | false =>
    try rw [h9] at F
    have h9p : ¬ ((40 : Int) < p.nb) := of_decide_eq_false h9
    refine Y.pg F 16 21 false (X.field rfl (F.ev 1 (Vp w.heap.size)) (X.fld Try.underlying27 rfl (Try.siz25 _) rfl rfl)) ?_;clear F ac;intro ac F
    refine Y.pg F 16 21 false (X.load rfl (F.ev 22 (.pointer (some ⟨w.heap.size, 3, none⟩))) (X.ld1 (Try.agg25 _) (hC.at 3 rfl))) ?_;clear F ac;intro ac F
    refine Y.pg F 16 21 false (X.len1 Try.underlying25 rfl (F.ev 23 (.slice la p.nl lc))) ?_;clear F ac;intro ac F
    refine Y.pg F 16 21 false (X.binop rfl (F.ev 24 (Vi p.nl)) (X.kc (Vi 40) rfl) (X.gtrI Try.underlying3 rfl)) ?_;clear F ac;intro ac F
    refine Y.pv F (X.pickF rfl (F.ev 21 (.bool false)) (F.ev 25 (.bool (decide ((40 : Int) < p.nl))))) ?_;clear F ac;intro ac F
    refine Y.nt F [(1, Vp w.heap.size), (26, .bool (decide ((40 : Int) < p.nl)))] ?_;clear F ac;intro ac F
    cases h10 : decide ((40 : Int) < p.nl) with
    | false =>
     try rw [h10] at F
     have h10p : ¬ ((40 : Int) < p.nl) := of_decide_eq_false h10
     refine Y.condF (F.ev 26 (.bool false)) ?_
     refine Y.skip ?_
     refine X.thenN ?_
     refine Y.seq ?_
     refine Y.sg F [(1, Vp w.heap.size), (3, Vi 0)] (Y.pv F (X.assign rfl (X.kc (Vi 0) rfl)) fun ac F=>Y.fin F) ?_;clear F ac;intro ac F
     refine Y.block ?_
     refine Y.loop (fun me_ ac wr => ∃ (i : Nat), me_ = p.nt - i ∧ Only (fun b => False) w6 wr ∧ i ≤ p.nt ∧ allN (fun i => decide ((p.tn i).size ≤ 100)) i = true ∧ Fr ac 57 [(1, Vp w.heap.size), (3, Vi i)]) _ ⟨0, rfl, Only.refl _ _, Nat.zero_le _, rfl, F.sub _⟩ ?_
     have hptB1 := hpt
     have hphB1 := hph
     have hpbB1 := hpb
     have hplB1 := hpl
     have GB1 := G
     have hCB1 := hC
     clear F ac
     intro me_ ac w11 hI
     obtain ⟨i, rfl, hO1, h0i, hoki, F⟩ := hI
     replace G := GB1.trans (hO1.gr (fun _ _ h => h))
     replace hpt := (hP.t).gr G
     replace hph := (hP.h).gr G
     replace hpb := (hP.b).gr G
     replace hpl := (hP.l).gr G
     replace hC := (RCells.cons (hO1.cell (hCB1.at 0 rfl) (fun h => h)) (RCells.cons (hO1.cell (hCB1.at 1 rfl) (fun h => h)) (RCells.cons (hO1.cell (hCB1.at 2 rfl) (fun h => h)) (RCells.cons (hO1.cell (hCB1.at 3 rfl) (fun h => h)) (RCells.nil _)))))
     refine Y.seq ?_
     refine Y.sg F [(1, Vp w.heap.size), (3, Vi i), (31, .bool (decide ((i : Int) < p.nt)))] (by
      refine Y.pv F (X.move rfl (F.ev 3 (Vi i))) fun ac F=>?_
      refine Y.pv F (X.field rfl (F.ev 1 (Vp w.heap.size)) (X.fld Try.underlying27 rfl (Try.siz22 _) rfl rfl)) fun ac F=>?_
      refine Y.pv F (X.load rfl (F.ev 28 (Vp w.heap.size)) (X.ld1 (Try.agg22 _) (hC.at 0 rfl))) fun ac F=>?_
      refine Y.pv F (X.len1 Try.underlying22 rfl (F.ev 29 (.slice ta p.nt tc))) fun ac F=>?_
      refine Y.pv F (X.binop rfl (F.ev 27 (Vi i)) (F.ev 30 (Vi p.nt)) (X.lssI Try.underlying3 rfl)) fun ac F=>?_
      exact Y.fin F) ?_;clear F ac;intro ac F
     cases h12 : decide ((i : Int) < p.nt) with
     | false =>
      try rw [h12] at F
      have h12p : ¬ ((i : Int) < p.nt) := of_decide_eq_false h12
      obtain rfl : i = p.nt := by omega
      refine Y.condF (F.ev 31 (.bool false)) ?_
      refine Y.exit ?_
      refine X.thenX (X.thenX (X.blockX (X.thenN ?_)))
      refine Y.seq ?_
      refine Y.sg F [(1, Vp w.heap.size), (4, Vi 0)] (Y.pv F (X.assign rfl (X.kc (Vi 0) rfl)) fun ac F=>Y.fin F) ?_;clear F ac;intro ac F
      refine Y.block ?_
      refine Y.loop (fun me_ ac wr => ∃ (j : Nat), me_ = p.nh - j ∧ Only (fun b => False) w11 wr ∧ j ≤ p.nh ∧ allN (fun i => decide ((p.hn i).size ≤ 100)) j = true ∧ Fr ac 57 [(1, Vp w.heap.size), (4, Vi j)]) _ ⟨0, rfl, Only.refl _ _, Nat.zero_le _, rfl, F.sub _⟩ ?_
      have hptB1 := hpt
      have hphB1 := hph
      have hpbB1 := hpb
      have hplB1 := hpl
      have GB1 := G
      have hCB1 := hC
      clear F ac
      intro me_ ac w13 hI
      obtain ⟨j, rfl, hO1, h0j, hokj, F⟩ := hI
      replace G := GB1.trans (hO1.gr (fun _ _ h => h))
      replace hpt := (hP.t).gr G
      replace hph := (hP.h).gr G
      replace hpb := (hP.b).gr G
      replace hpl := (hP.l).gr G
      replace hC := (RCells.cons (hO1.cell (hCB1.at 0 rfl) (fun h => h)) (RCells.cons (hO1.cell (hCB1.at 1 rfl) (fun h => h)) (RCells.cons (hO1.cell (hCB1.at 2 rfl) (fun h => h)) (RCells.cons (hO1.cell (hCB1.at 3 rfl) (fun h => h)) (RCells.nil _)))))
      refine Y.seq ?_
      refine Y.sg F [(1, Vp w.heap.size), (4, Vi j), (46, .bool (decide ((j : Int) < p.nh)))] (by
       refine Y.pv F (X.move rfl (F.ev 4 (Vi j))) fun ac F=>?_
       refine Y.pv F (X.field rfl (F.ev 1 (Vp w.heap.size)) (X.fld Try.underlying27 rfl (Try.siz23 _) rfl rfl)) fun ac F=>?_
       refine Y.pv F (X.load rfl (F.ev 43 (.pointer (some ⟨w.heap.size, 1, none⟩))) (X.ld1 (Try.agg23 _) (hC.at 1 rfl))) fun ac F=>?_
       refine Y.pv F (X.len1 Try.underlying23 rfl (F.ev 44 (.slice ha p.nh hc))) fun ac F=>?_
       refine Y.pv F (X.binop rfl (F.ev 42 (Vi j)) (F.ev 45 (Vi p.nh)) (X.lssI Try.underlying3 rfl)) fun ac F=>?_
       exact Y.fin F) ?_;clear F ac;intro ac F
      cases h14 : decide ((j : Int) < p.nh) with
      | false =>
       try rw [h14] at F
       have h14p : ¬ ((j : Int) < p.nh) := of_decide_eq_false h14
       obtain rfl : j = p.nh := by omega
       refine Y.condF (F.ev 46 (.bool false)) ?_
       refine Y.exit ?_
       refine X.thenX (X.thenX (X.blockX (X.thenN ?_)))
       refine Y.sg F [(2, .bool false)] (Y.pv F (X.assign rfl (X.kc (.bool false) rfl)) fun ac F=>Y.fin F) ?_;clear F ac;intro ac F
       refine Y.ret ?_
       exact Y.ret0 (v := .bool false) F (Y.r1 F) ⟨by rw [far_no (by omega) hoki hokj], G⟩
      | true =>
       try rw [h14] at F
       have h14p : ((j : Int) < p.nh) := of_decide_eq_true h14
       have h9j : j < p.nh := by omega
       refine Y.condT (F.ev 46 (.bool true)) ?_
       refine Y.skip ?_
       refine X.thenN ?_
       refine Y.seq ?_
       refine Y.block ?_
       refine Y.sl ?_
       refine Y.pv3 F (X.field rfl (F.ev 1 (Vp w.heap.size)) (X.fld Try.underlying27 rfl (Try.siz23 _) rfl rfl)) (fun _ F=>X.load rfl (F.ev 49 (.pointer (some ⟨w.heap.size, 1, none⟩))) (X.ld1 (Try.agg23 _) (hC.at 1 rfl))) (fun _ F=>X.move rfl (F.ev 4 (Vi j))) ?_;clear F ac;intro ac F
       obtain ⟨pd15, pe15, -, pc15⟩ := hph.at (j := j) (by omega)
       subst pe15
       replace hC := hC.append (show RCells w13 (Y.cs (pd15.add (j * 6)) [.string (p.hn j), Vi (p.hv j 1), Vi (p.hv j 2), Vi (p.hv j 3), Vi (p.hv j 4), Vi (p.hv j 5)]) from (RCells.cons (pc15 0 (by decide)) (RCells.cons (pc15 1 (by decide)) (RCells.cons (pc15 2 (by decide)) (RCells.cons (pc15 3 (by decide)) (RCells.cons (pc15 4 (by decide)) (RCells.cons (pc15 5 (by decide)) (RCells.nil _))))))))
       clear pc15
       refine Y.pv4 F (X.index rfl (F.ev 50 (.slice (some pd15) p.nh hc)) (F.ev 51 (Vi j)) (X.idx (k := j) Try.underlying23 (Try.siz53 _) (by omega) (by omega) rfl)) (fun _ F=>X.field rfl (F.ev 52 (.pointer (some (pd15.add (j * 6))))) (X.fld Try.underlying53 rfl (Try.siz9 _) rfl rfl)) (fun _ F=>X.load rfl (F.ev 53 (.pointer (some (pd15.add (j * 6))))) (X.ld1 (Try.agg9 _) (hC.at 4 rfl))) (fun _ F=>Y.lenS Try.underlying9 rfl (F.ev 54 (.string (p.hn j)))) ?_;clear F ac;intro ac F
       refine Y.pv F (X.binop rfl (F.ev 55 (Vi ((p.hn j).size : Nat))) (X.kc (Vi 100) rfl) (X.gtrI Try.underlying3 rfl)) ?_;clear F ac;intro ac F
       refine Y.nt F [(1, Vp w.heap.size), (4, Vi j), (56, .bool (decide ((100 : Int) < ((p.hn j).size : Nat))))] ?_;clear F ac;intro ac F
       cases h16 : decide ((100 : Int) < ((p.hn j).size : Nat)) with
       | false =>
        try rw [h16] at F
        have h16p : ¬ ((100 : Int) < ((p.hn j).size : Nat)) := of_decide_eq_false h16
        refine Y.condF (F.ev 56 (.bool false)) ?_
        refine Y.skip ?_
        refine X.blockN (X.thenN ?_)
        refine Y.lg F [(1, Vp w.heap.size), (4, Vi ((j : Int) + 1))] (by
         refine Y.pv F (X.move rfl (F.ev 4 (Vi j))) fun ac F=>?_
         refine Y.pv F (X.binop rfl (F.ev 47 (Vi j)) (X.kc (Vi 1) rfl) (X.addI Try.underlying3 rfl (by omega) (by omega))) fun ac F=>?_
         refine Y.pv F (X.assign rfl (F.ev 48 (Vi ((j : Int) + 1)))) fun ac F=>?_
         exact Y.fin F) ?_;clear F ac;intro ac F
        refine ⟨_, ?_, j + 1, rfl, hO1, by omega, allN_succ hokj (decide_eq_true (by omega)), F.sub _⟩
        omega
       | true =>
        try rw [h16] at F
        have h16p : ((100 : Int) < ((p.hn j).size : Nat)) := of_decide_eq_true h16
        refine Y.condT (F.ev 56 (.bool true)) ?_
        refine Y.sg F [(2, .bool true)] (Y.pv F (X.assign rfl (X.kc (.bool true) rfl)) fun ac F=>Y.fin F) ?_;clear F ac;intro ac F
        refine Y.ret ?_
        refine X.blockR (X.thenR (X.thenR (X.blockR (X.thenR ?_))))
        exact Y.ret0 (v := .bool true) F (Y.r1 F) ⟨by rw [far_h h9j (by omega)], G⟩
     | true =>
      try rw [h12] at F
      have h12p : ((i : Int) < p.nt) := of_decide_eq_true h12
      have h9i : i < p.nt := by omega
      refine Y.condT (F.ev 31 (.bool true)) ?_
      refine Y.skip ?_
      refine X.thenN ?_
      refine Y.seq ?_
      refine Y.block ?_
      refine Y.sl ?_
      refine Y.pv3 F (X.field rfl (F.ev 1 (Vp w.heap.size)) (X.fld Try.underlying27 rfl (Try.siz22 _) rfl rfl)) (fun _ F=>X.load rfl (F.ev 34 (Vp w.heap.size)) (X.ld1 (Try.agg22 _) (hC.at 0 rfl))) (fun _ F=>X.move rfl (F.ev 3 (Vi i))) ?_;clear F ac;intro ac F
      obtain ⟨pd17, pe17, -, pc17⟩ := hpt.at (j := i) (by omega)
      subst pe17
      replace hC := hC.append (show RCells w11 (Y.cs (pd17.add (i * 4)) [.string (p.tn i), Vi (p.tv i 1), Vi (p.tv i 2), Vi (p.tv i 3)]) from (RCells.cons (pc17 0 (by decide)) (RCells.cons (pc17 1 (by decide)) (RCells.cons (pc17 2 (by decide)) (RCells.cons (pc17 3 (by decide)) (RCells.nil _))))))
      clear pc17
      refine Y.pv4 F (X.index rfl (F.ev 35 (.slice (some pd17) p.nt tc)) (F.ev 36 (Vi i)) (X.idx (k := i) Try.underlying22 (Try.siz74 _) (by omega) (by omega) rfl)) (fun _ F=>X.field rfl (F.ev 37 (.pointer (some (pd17.add (i * 4))))) (X.fld Try.underlying74 rfl (Try.siz9 _) rfl rfl)) (fun _ F=>X.load rfl (F.ev 38 (.pointer (some (pd17.add (i * 4))))) (X.ld1 (Try.agg9 _) (hC.at 4 rfl))) (fun _ F=>Y.lenS Try.underlying9 rfl (F.ev 39 (.string (p.tn i)))) ?_;clear F ac;intro ac F
      refine Y.pv F (X.binop rfl (F.ev 40 (Vi ((p.tn i).size : Nat))) (X.kc (Vi 100) rfl) (X.gtrI Try.underlying3 rfl)) ?_;clear F ac;intro ac F
      refine Y.nt F [(1, Vp w.heap.size), (3, Vi i), (41, .bool (decide ((100 : Int) < ((p.tn i).size : Nat))))] ?_;clear F ac;intro ac F
      cases h18 : decide ((100 : Int) < ((p.tn i).size : Nat)) with
      | false =>
       try rw [h18] at F
       have h18p : ¬ ((100 : Int) < ((p.tn i).size : Nat)) := of_decide_eq_false h18
       refine Y.condF (F.ev 41 (.bool false)) ?_
       refine Y.skip ?_
       refine X.blockN (X.thenN ?_)
       refine Y.lg F [(1, Vp w.heap.size), (3, Vi ((i : Int) + 1))] (by
        refine Y.pv F (X.move rfl (F.ev 3 (Vi i))) fun ac F=>?_
        refine Y.pv F (X.binop rfl (F.ev 32 (Vi i)) (X.kc (Vi 1) rfl) (X.addI Try.underlying3 rfl (by omega) (by omega))) fun ac F=>?_
        refine Y.pv F (X.assign rfl (F.ev 33 (Vi ((i : Int) + 1)))) fun ac F=>?_
        exact Y.fin F) ?_;clear F ac;intro ac F
       refine ⟨_, ?_, i + 1, rfl, hO1, by omega, allN_succ hoki (decide_eq_true (by omega)), F.sub _⟩
       omega
      | true =>
       try rw [h18] at F
       have h18p : ((100 : Int) < ((p.tn i).size : Nat)) := of_decide_eq_true h18
       refine Y.condT (F.ev 41 (.bool true)) ?_
       refine Y.sg F [(2, .bool true)] (Y.pv F (X.assign rfl (X.kc (.bool true) rfl)) fun ac F=>Y.fin F) ?_;clear F ac;intro ac F
       refine Y.ret ?_
       refine X.blockR (X.thenR (X.thenR (X.blockR (X.thenR ?_))))
       exact Y.ret0 (v := .bool true) F (Y.r1 F) ⟨by rw [far_t h9i (by omega)], G⟩
    | true =>
     try rw [h10] at F
     have h10p : ((40 : Int) < p.nl) := of_decide_eq_true h10
     refine Y.condT (F.ev 26 (.bool true)) ?_
     refine Y.sg F [(2, .bool true)] (Y.pv F (X.assign rfl (X.kc (.bool true) rfl)) fun ac F=>Y.fin F) ?_;clear F ac;intro ac F
     refine Y.ret ?_
     refine X.thenR ?_
     exact Y.ret0 (v := .bool true) F (Y.r1 F) ⟨by rw [far_n (by omega)], G⟩
   | true =>
    try rw [h9] at F
    have h9p : ((40 : Int) < p.nb) := of_decide_eq_true h9
    refine Y.ps F 16 21 true ?_;clear F ac;intro ac F
    refine Y.ps F 16 21 true ?_;clear F ac;intro ac F
    refine Y.ps F 16 21 true ?_;clear F ac;intro ac F
    refine Y.ps F 16 21 true ?_;clear F ac;intro ac F
    refine Y.pv F (X.pickT rfl (F.ev 21 (.bool true)) (X.kc (.bool true) rfl)) ?_;clear F ac;intro ac F
    refine Y.nt F [(1, Vp w.heap.size), (26, .bool true)] ?_;clear F ac;intro ac F
    refine Y.condT (F.ev 26 (.bool true)) ?_
    refine Y.sg F [(2, .bool true)] (Y.pv F (X.assign rfl (X.kc (.bool true) rfl)) fun ac F=>Y.fin F) ?_;clear F ac;intro ac F
    refine Y.ret ?_
    refine X.thenR ?_
    exact Y.ret0 (v := .bool true) F (Y.r1 F) ⟨by rw [far_n (by omega)], G⟩
  | true =>
   try rw [h8] at F
   have h8p : ((20 : Int) < p.nh) := of_decide_eq_true h8
   refine Y.ps F 10 15 true ?_;clear F ac;intro ac F
   refine Y.ps F 10 15 true ?_;clear F ac;intro ac F
   refine Y.ps F 10 15 true ?_;clear F ac;intro ac F
   refine Y.ps F 10 15 true ?_;clear F ac;intro ac F
   refine Y.pv2 F (X.pickT rfl (F.ev 15 (.bool true)) (X.kc (.bool true) rfl)) (fun _ F=>X.move rfl (F.ev 20 (.bool true))) ?_;clear F ac;intro ac F
   refine Y.ps F 16 21 true ?_;clear F ac;intro ac F
   refine Y.ps F 16 21 true ?_;clear F ac;intro ac F
   refine Y.ps F 16 21 true ?_;clear F ac;intro ac F
   refine Y.ps F 16 21 true ?_;clear F ac;intro ac F
   refine Y.pv F (X.pickT rfl (F.ev 21 (.bool true)) (X.kc (.bool true) rfl)) ?_;clear F ac;intro ac F
   refine Y.nt F [(1, Vp w.heap.size), (26, .bool true)] ?_;clear F ac;intro ac F
   refine Y.condT (F.ev 26 (.bool true)) ?_
   refine Y.sg F [(2, .bool true)] (Y.pv F (X.assign rfl (X.kc (.bool true) rfl)) fun ac F=>Y.fin F) ?_;clear F ac;intro ac F
   refine Y.ret ?_
   refine X.thenR ?_
   exact Y.ret0 (v := .bool true) F (Y.r1 F) ⟨by rw [far_n (by omega)], G⟩
 | true =>
  try rw [h7] at F
  have h7p : ((20 : Int) < p.nt) := of_decide_eq_true h7
  refine Y.ps F 4 9 true ?_;clear F ac;intro ac F
  refine Y.ps F 4 9 true ?_;clear F ac;intro ac F
  refine Y.ps F 4 9 true ?_;clear F ac;intro ac F
  refine Y.ps F 4 9 true ?_;clear F ac;intro ac F
  refine Y.pv2 F (X.pickT rfl (F.ev 9 (.bool true)) (X.kc (.bool true) rfl)) (fun _ F=>X.move rfl (F.ev 14 (.bool true))) ?_;clear F ac;intro ac F
  refine Y.ps F 10 15 true ?_;clear F ac;intro ac F
  refine Y.ps F 10 15 true ?_;clear F ac;intro ac F
  refine Y.ps F 10 15 true ?_;clear F ac;intro ac F
  refine Y.ps F 10 15 true ?_;clear F ac;intro ac F
  refine Y.pv2 F (X.pickT rfl (F.ev 15 (.bool true)) (X.kc (.bool true) rfl)) (fun _ F=>X.move rfl (F.ev 20 (.bool true))) ?_;clear F ac;intro ac F
  refine Y.ps F 16 21 true ?_;clear F ac;intro ac F
  refine Y.ps F 16 21 true ?_;clear F ac;intro ac F
  refine Y.ps F 16 21 true ?_;clear F ac;intro ac F
  refine Y.ps F 16 21 true ?_;clear F ac;intro ac F
  refine Y.pv F (X.pickT rfl (F.ev 21 (.bool true)) (X.kc (.bool true) rfl)) ?_;clear F ac;intro ac F
  refine Y.nt F [(1, Vp w.heap.size), (26, .bool true)] ?_;clear F ac;intro ac F
  refine Y.condT (F.ev 26 (.bool true)) ?_
  refine Y.sg F [(2, .bool true)] (Y.pv F (X.assign rfl (X.kc (.bool true) rfl)) fun ac F=>Y.fin F) ?_;clear F ac;intro ac F
  refine Y.ret ?_
  refine X.thenR ?_
  exact Y.ret0 (v := .bool true) F (Y.r1 F) ⟨by rw [far_n (by omega)], G⟩
set_option maxRecDepth 100000 in
set_option maxHeartbeats 400000 in
theorem large_any (p : Pb) (ta ha ba la : Option Addr) (tc hc bc lc : Nat) (w : World) (hP : PbAt w p ta ha ba la tc hc bc lc) :
  Calls Try.prog 21 #[.agg #[.slice ta p.nt tc, .slice ha p.nh hc, .slice ba p.nb bc, .slice la p.nl lc]] w fun e w' => e = .returned (.bool (largeB p)) ∧ Gr w w' := by
 have G := Gr.refl w
 have hpt := hP.t
 have hph := hP.h
 have hpb := hP.b
 have hpl := hP.l
 have hplen := hP.len
 obtain ⟨hn1, hn2, hn3, hn4⟩ := hplen
 have hcp1 := hpt.cap
 have hcp2 := hph.cap
 have hcp3 := hpb.cap
 have hcp4 := hpl.cap
 refine Y.calls 22 Try.func21 rfl rfl ?_
 intro ac F0
 have F : Fr ac 22 [(0, .agg #[.slice ta p.nt tc, .slice ha p.nh hc, .slice ba p.nb bc, .slice la p.nl lc])] := F0.sub _
 clear F0
 refine Y.sl ?_
 have hgs3 : w.heap.size ≤ w.heap.size := G.size
 refine Y.pv F (X.box rfl (F.ev 0 (.agg #[.slice ta p.nt tc, .slice ha p.nh hc, .slice ba p.nb bc, .slice la p.nl lc])) X.bx) ?_;clear F ac;intro ac F
 have hgs5 : w.heap.size ≤ w.heap.size := G.size
 obtain ⟨w6, hw_, g, hb, hbl, hC2⟩ := Y.bxd (RCells.nil w) #[.slice ta p.nt tc, .slice ha p.nh hc, .slice ba p.nb bc, .slice la p.nl lc] 27;rw [hw_];clear hw_
 replace G := G.trans g
 have hC := hC2
 clear hC2
 replace hpt := hpt.gr g
 replace hph := hph.gr g
 replace hpb := hpb.gr g
 replace hpl := hpl.gr g
 have hsz4 := hbl
 clear g hb hbl
 refine Y.pv F (X.assign rfl (X.kc (.bool false) rfl)) ?_;clear F ac;intro ac F
 refine Y.nt F [(1, Vp w.heap.size)] ?_;clear F ac;intro ac F
 refine Y.sl ?_
 refine Y.pv F (X.load rfl (F.ev 1 (Vp w.heap.size)) (X.ldN (Try.agg27 _) (Try.siz27 _) (Y.atz (⟨w.heap.size, 0, none⟩) (Y.AtFrom.cons (hC.at 0 rfl) (Y.AtFrom.cons (hC.at 1 rfl) (Y.AtFrom.cons (hC.at 2 rfl) (Y.AtFrom.cons (hC.at 3 rfl) (Y.AtFrom.nil _ _ _)))))))) ?_;clear F ac;intro ac F
 refine Y.pc F 15 (X.a1 (F.ev 3 (.agg #[.slice ta p.nt tc, .slice ha p.nh hc, .slice ba p.nb bc, .slice la p.nl lc]))) Try.func15 (far_any p ta ha ba la tc hc bc lc w6 (hP.gr G)) ?_
 clear F ac
 rintro e w7 ⟨rfl, g⟩
 refine ⟨_, rfl, ?_⟩
 intro ac F
 replace G := G.trans g
 replace hC := hC.gr g
 replace hpt := hpt.gr g
 replace hph := hph.gr g
 replace hpb := hpb.gr g
 replace hpl := hpl.gr g
 clear g
 refine Y.pv F (X.move rfl (F.ev 4 (.bool (farB p)))) ?_;clear F ac;intro ac F
 cases h8 : farB p with
 | false =>
  try rw [h8] at F
  refine Y.pg F 2 5 false (X.load rfl (F.ev 1 (Vp w.heap.size)) (X.ldN (Try.agg27 _) (Try.siz27 _) (Y.atz (⟨w.heap.size, 0, none⟩) (Y.AtFrom.cons (hC.at 0 rfl) (Y.AtFrom.cons (hC.at 1 rfl) (Y.AtFrom.cons (hC.at 2 rfl) (Y.AtFrom.cons (hC.at 3 rfl) (Y.AtFrom.nil _ _ _)))))))) ?_;clear F ac;intro ac F
  refine Y.pcall F (X.w1 rfl (F.yl (j := 2) (d := 5) (b := false) rfl (by kernel_rfl))) rfl (X.enter (F := 19) rfl (X.kc (.func (.func 19) #[] #[]) rfl) (X.a1 (F.ev 6 (.agg #[.slice ta p.nt tc, .slice ha p.nh hc, .slice ba p.nb bc, .slice la p.nl lc]))) (enters_of Try.func19 (by kernel_rfl) rfl _)) (check2_any p ta ha ba la tc hc bc lc w7 (hP.gr G)) ?_
  clear F ac
  rintro e w9 ⟨rfl, g⟩
  refine ⟨_, rfl, ?_⟩
  intro ac F
  replace G := G.trans g
  replace hC := hC.gr g
  replace hpt := hpt.gr g
  replace hph := hph.gr g
  replace hpb := hpb.gr g
  replace hpl := hpl.gr g
  clear g
  refine Y.pg F 2 5 false (X.binop rfl (F.ev 7 (Vi (chkE p))) (X.kc (Vi 0) rfl) (X.eqlI Try.underlying31 rfl)) ?_;clear F ac;intro ac F
  refine Y.pg F 2 5 false (X.move rfl (F.ev 8 (.bool ((chkE p : Int) == 0)))) ?_;clear F ac;intro ac F
  cases h10 : ((chkE p : Int) == 0) with
  | false =>
   try rw [h10] at F
   have h10p : ¬ (chkE p : Int) = 0 := by simpa using h10
   refine Y.ps F 6 9 false ?_;clear F ac;intro ac F
   refine Y.ps F 6 9 false ?_;clear F ac;intro ac F
   refine Y.ps F 6 9 false ?_;clear F ac;intro ac F
   refine Y.ps F 6 9 false ?_;clear F ac;intro ac F
   refine Y.ps F 6 9 false ?_;clear F ac;intro ac F
   refine Y.pn F 11 14 ?_;clear F ac;intro ac F
   refine Y.pn F 11 14 ?_;clear F ac;intro ac F
   refine Y.pn F 11 14 ?_;clear F ac;intro ac F
   refine Y.pn F 11 14 ?_;clear F ac;intro ac F
   refine Y.ps F 6 9 false ?_;clear F ac;intro ac F
   refine Y.pg F 2 5 false (X.pickF rfl (F.ev 9 (.bool false)) (X.kc (.bool false) rfl)) ?_;clear F ac;intro ac F
   refine Y.pv2 F (X.pickF rfl (F.ev 5 (.bool false)) (F.ev 20 (.bool false))) (fun _ F=>X.assign rfl (F.ev 21 (.bool false))) ?_;clear F ac;intro ac F
   refine Y.nt F [(2, .bool false)] ?_;clear F ac;intro ac F
   refine Y.ret ?_
   exact Y.ret0 (v := .bool false) F (Y.r1 F) ⟨by unfold largeB; rw [h8, decide_eq_false (by omega : ¬ chkE p = 0)]; rfl, G⟩
  | true =>
   try rw [h10] at F
   have h10p : (chkE p : Int) = 0 := by simpa using h10
   refine Y.pg F 6 9 true (X.field rfl (F.ev 1 (Vp w.heap.size)) (X.fld Try.underlying27 rfl (Try.siz22 _) rfl rfl)) ?_;clear F ac;intro ac F
   refine Y.pg F 6 9 true (X.load rfl (F.ev 10 (Vp w.heap.size)) (X.ld1 (Try.agg22 _) (hC.at 0 rfl))) ?_;clear F ac;intro ac F
   refine Y.pg F 6 9 true (X.len1 Try.underlying22 rfl (F.ev 11 (.slice ta p.nt tc))) ?_;clear F ac;intro ac F
   refine Y.pg F 6 9 true (X.binop rfl (F.ev 12 (Vi p.nt)) (X.kc (Vi 5) rfl) (X.gtrI Try.underlying3 rfl)) ?_;clear F ac;intro ac F
   refine Y.pg F 6 9 true (X.move rfl (F.ev 13 (.bool (decide ((5 : Int) < p.nt))))) ?_;clear F ac;intro ac F
   cases h11 : decide ((5 : Int) < p.nt) with
   | false =>
    try rw [h11] at F
    have h11p : ¬ ((5 : Int) < p.nt) := of_decide_eq_false h11
    refine Y.pg F 11 14 false (X.field rfl (F.ev 1 (Vp w.heap.size)) (X.fld Try.underlying27 rfl (Try.siz23 _) rfl rfl)) ?_;clear F ac;intro ac F
    refine Y.pg F 11 14 false (X.load rfl (F.ev 15 (.pointer (some ⟨w.heap.size, 1, none⟩))) (X.ld1 (Try.agg23 _) (hC.at 1 rfl))) ?_;clear F ac;intro ac F
    refine Y.pg F 11 14 false (X.len1 Try.underlying23 rfl (F.ev 16 (.slice ha p.nh hc))) ?_;clear F ac;intro ac F
    refine Y.pg F 11 14 false (X.binop rfl (F.ev 17 (Vi p.nh)) (X.kc (Vi 4) rfl) (X.gtrI Try.underlying3 rfl)) ?_;clear F ac;intro ac F
    refine Y.pg F 6 9 true (X.pickF rfl (F.ev 14 (.bool false)) (F.ev 18 (.bool (decide ((4 : Int) < p.nh))))) ?_;clear F ac;intro ac F
    refine Y.pg F 2 5 false (X.pickT rfl (F.ev 9 (.bool true)) (F.ev 19 (.bool (decide ((4 : Int) < p.nh))))) ?_;clear F ac;intro ac F
    refine Y.pv2 F (X.pickF rfl (F.ev 5 (.bool false)) (F.ev 20 (.bool (decide ((4 : Int) < p.nh))))) (fun _ F=>X.assign rfl (F.ev 21 (.bool (decide ((4 : Int) < p.nh))))) ?_;clear F ac;intro ac F
    refine Y.nt F [(2, .bool (decide ((4 : Int) < p.nh)))] ?_;clear F ac;intro ac F
    refine Y.ret ?_
    exact Y.ret0 (v := .bool (decide ((4 : Int) < p.nh))) F (Y.r1 F) ⟨by unfold largeB; rw [h8, decide_eq_true (by omega : chkE p = 0), decide_eq_false (by omega : ¬ 5 < p.nt), show decide ((4 : Int) < p.nh) = decide (4 < p.nh) from decide_eq_decide.2 (by omega)]; simp, G⟩
   | true =>
    try rw [h11] at F
    have h11p : ((5 : Int) < p.nt) := of_decide_eq_true h11
    refine Y.ps F 11 14 true ?_;clear F ac;intro ac F
    refine Y.ps F 11 14 true ?_;clear F ac;intro ac F
    refine Y.ps F 11 14 true ?_;clear F ac;intro ac F
    refine Y.ps F 11 14 true ?_;clear F ac;intro ac F
    refine Y.pg F 6 9 true (X.pickT rfl (F.ev 14 (.bool true)) (X.kc (.bool true) rfl)) ?_;clear F ac;intro ac F
    refine Y.pg F 2 5 false (X.pickT rfl (F.ev 9 (.bool true)) (F.ev 19 (.bool true))) ?_;clear F ac;intro ac F
    refine Y.pv2 F (X.pickF rfl (F.ev 5 (.bool false)) (F.ev 20 (.bool true))) (fun _ F=>X.assign rfl (F.ev 21 (.bool true))) ?_;clear F ac;intro ac F
    refine Y.nt F [(2, .bool true)] ?_;clear F ac;intro ac F
    refine Y.ret ?_
    exact Y.ret0 (v := .bool true) F (Y.r1 F) ⟨by unfold largeB; rw [h8, decide_eq_true (by omega : chkE p = 0), decide_eq_true (by omega : 5 < p.nt)]; rfl, G⟩
 | true =>
  try rw [h8] at F
  refine Y.ps F 2 5 true ?_;clear F ac;intro ac F
  refine Y.ps F 2 5 true ?_;clear F ac;intro ac F
  refine Y.ps F 2 5 true ?_;clear F ac;intro ac F
  refine Y.ps F 2 5 true ?_;clear F ac;intro ac F
  refine Y.pn F 6 9 ?_;clear F ac;intro ac F
  refine Y.pn F 6 9 ?_;clear F ac;intro ac F
  refine Y.pn F 6 9 ?_;clear F ac;intro ac F
  refine Y.pn F 6 9 ?_;clear F ac;intro ac F
  refine Y.pn F 6 9 ?_;clear F ac;intro ac F
  refine Y.pn F 11 14 ?_;clear F ac;intro ac F
  refine Y.pn F 11 14 ?_;clear F ac;intro ac F
  refine Y.pn F 11 14 ?_;clear F ac;intro ac F
  refine Y.pn F 11 14 ?_;clear F ac;intro ac F
  refine Y.pn F 6 9 ?_;clear F ac;intro ac F
  refine Y.ps F 2 5 true ?_;clear F ac;intro ac F
  refine Y.pv2 F (X.pickT rfl (F.ev 5 (.bool true)) (X.kc (.bool true) rfl)) (fun _ F=>X.assign rfl (F.ev 21 (.bool true))) ?_;clear F ac;intro ac F
  refine Y.nt F [(2, .bool true)] ?_;clear F ac;intro ac F
  refine Y.ret ?_
  exact Y.ret0 (v := .bool true) F (Y.r1 F) ⟨by unfold largeB; rw [h8]; rfl, G⟩
theorem same_yes {xs ys : List Int} (hl : xs.length = ys.length) (h : ∀ j, j < xs.length → xs[j]?.getD 0 = ys[j]?.getD 0) : decide (xs = ys) = true := by
 refine decide_eq_true (List.ext_getElem hl fun i h1 h2 => ?_)
 have := h i h1
 simpa [h1, h2] using this
theorem same_no {xs ys : List Int} {j : Nat} (hj : j < xs.length) (hl : xs.length = ys.length) (h : ¬ xs[j]?.getD 0 = ys[j]?.getD 0) : decide (xs = ys) = false :=
 decide_eq_false fun e => h (by rw [e])
set_option maxRecDepth 100000 in
set_option maxHeartbeats 400000 in
theorem same_any (a b : Option Addr) (c d : Nat) (xs ys : List Int) (w : World) (hX : Ints w a xs.length xs) (hY : Ints w b ys.length ys) :
  Calls Try.prog 24 #[.slice a xs.length c, .slice b ys.length d] w fun e w' => e = .returned (.bool (decide (xs = ys))) ∧ Gr w w' := by
 have G := Gr.refl w
 have hx := hX
 have hy := hY
 have hlt := hX.lt
 have hlt2 := hY.lt
 refine Y.calls 26 Try.func24 rfl rfl ?_
 intro ac F0
 have F : Fr ac 26 [(0, .slice a xs.length c), (1, .slice b ys.length d)] := F0.sub _
 clear F0
 refine Y.sg F [(0, .slice a xs.length c), (1, .slice b ys.length d)] (Y.pv F (X.assign rfl (X.kc (.bool false) rfl)) fun ac F=>Y.fin F) ?_;clear F ac;intro ac F
 refine Y.seq ?_
 refine Y.sg F [(0, .slice a xs.length c), (1, .slice b ys.length d), (10, .bool ((xs.length : Int) != ys.length))] (Y.pv F (X.move rfl (F.ev 0 (.slice a xs.length c))) fun ac F=>Y.pv F (X.len1 Try.underlying34 rfl (F.ev 6 (.slice a xs.length c))) fun ac F=>Y.pv F (X.move rfl (F.ev 1 (.slice b ys.length d))) fun ac F=>Y.pv F (X.len1 Try.underlying34 rfl (F.ev 8 (.slice b ys.length d))) fun ac F=>Y.pv F (X.binop rfl (F.ev 7 (Vi xs.length)) (F.ev 9 (Vi ys.length)) (X.neqI Try.underlying3 rfl)) fun ac F=>Y.fin F) ?_;clear F ac;intro ac F
 cases h3 : ((xs.length : Int) != ys.length) with
 | false =>
  try rw [h3] at F
  have h3p : (xs.length : Int) = ys.length := by simpa using h3
  have hl2 : xs.length = ys.length := by omega
  refine Y.condF (F.ev 10 (.bool false)) ?_
  refine Y.skip ?_
  refine X.thenN ?_
  refine Y.seq ?_
  refine Y.sg F [(0, .slice a xs.length c), (1, .slice b ys.length d), (5, Vi 0)] (Y.pv F (X.assign rfl (X.kc (Vi 0) rfl)) fun ac F=>Y.fin F) ?_;clear F ac;intro ac F
  refine Y.block ?_
  refine Y.loop (fun me_ ac wr => ∃ (i : Nat), me_ = xs.length - i ∧ Only (fun b => False) w wr ∧ i ≤ xs.length ∧ (∀ j, j < i → xs[j]?.getD 0 = ys[j]?.getD 0) ∧ Fr ac 26 [(0, .slice a xs.length c), (1, .slice b ys.length d), (5, Vi i)]) _ ⟨0, rfl, Only.refl _ _, Nat.zero_le _, fun j h => by omega, F.sub _⟩ ?_
  have hxB1 := hx
  have hyB1 := hy
  have GB1 := G
  clear F ac
  intro me_ ac w4 hI
  obtain ⟨i, rfl, hO1, hi, hsame, F⟩ := hI
  replace G := GB1.trans (hO1.gr (fun _ _ h => h))
  replace hx := (hX).gr G
  replace hy := (hY).gr G
  refine Y.seq ?_
  refine Y.sg F [(0, .slice a xs.length c), (1, .slice b ys.length d), (5, Vi i), (14, .bool (decide ((i : Int) < xs.length)))] (Y.pv F (X.move rfl (F.ev 5 (Vi i))) fun ac F=>Y.pv F (X.move rfl (F.ev 0 (.slice a xs.length c))) fun ac F=>Y.pv F (X.len1 Try.underlying34 rfl (F.ev 12 (.slice a xs.length c))) fun ac F=>Y.pv F (X.binop rfl (F.ev 11 (Vi i)) (F.ev 13 (Vi xs.length)) (X.lssI Try.underlying3 rfl)) fun ac F=>Y.fin F) ?_;clear F ac;intro ac F
  cases h5 : decide ((i : Int) < xs.length) with
  | false =>
   try rw [h5] at F
   have h5p : ¬ ((i : Int) < xs.length) := of_decide_eq_false h5
   have hin : i = xs.length := by omega
   refine Y.condF (F.ev 14 (.bool false)) ?_
   refine Y.exit ?_
   refine X.thenX (X.thenX (X.blockX (X.thenN ?_)))
   refine Y.sg F [(4, .bool true)] (Y.pv F (X.assign rfl (X.kc (.bool true) rfl)) fun ac F=>Y.fin F) ?_;clear F ac;intro ac F
   refine Y.ret ?_
   exact Y.ret0 (v := .bool true) F (Y.r1 F) ⟨by rw [same_yes hl2 (fun j hj => hsame j (by omega))], G⟩
  | true =>
   try rw [h5] at F
   have h5p : ((i : Int) < xs.length) := of_decide_eq_true h5
   refine Y.condT (F.ev 14 (.bool true)) ?_
   refine Y.skip ?_
   refine X.thenN ?_
   refine Y.seq ?_
   refine Y.block ?_
   refine Y.seq ?_
   obtain ⟨pd6, pe6, -, pc6⟩ := hx.at (j := i) (by omega)
   subst pe6
   have hC : RCells w4 [(pd6.add i, Vi (xs[i]?.getD 0))] := (RCells.cons pc6 (RCells.nil _))
   clear pc6
   obtain ⟨pd7, pe7, -, pc7⟩ := hy.at (j := i) (by omega)
   subst pe7
   replace hC := hC.append (show RCells w4 ([(pd7.add i, Vi (ys[i]?.getD 0))]) from (RCells.cons pc7 (RCells.nil _)))
   clear pc7
   refine Y.region F [some (.slice (some pd6) xs.length c), some (Vi i), some (.pointer (some (pd6.add i))), some (Vi (xs[i]?.getD 0)), some (.slice (some pd7) ys.length d), some (Vi i), some (.pointer (some (pd7.add i))), some (Vi (ys[i]?.getD 0)), some (.bool ((xs[i]?.getD 0 : Int) != (ys[i]?.getD 0)))] [] rfl ⟨by kernel_rfl, of_decide_eq_true (by kernel_rfl), by kernel_rfl, by kernel_rfl, by kernel_rfl⟩ ⟨?_, ?_, ?_, ?_, ?_, ?_, ?_, ?_, ?_, trivial⟩ ?_
   ·intro ac done u W Sx hR
    exact X.vl (X.move rfl (Sx.ev 0 (.slice (some pd6) xs.length c))) hR.st0
   ·intro ac done u W Sx hR
    exact X.vl (X.move rfl (Sx.ev 5 (Vi i))) hR.st0
   ·intro ac done u W Sx hR
    exact X.val (X.w0 rfl) rfl (X.index rfl (Sx.ev 17 (.slice (some pd6) xs.length c)) (Sx.ev 18 (Vi i)) (X.idx (k := i) Try.underlying34 (Try.siz3 _) (by omega) (by omega) (by rw [Nat.mul_one]))) hR.st0
   ·intro ac done u W Sx hR
    have g : Gr w4 W := hR.1
    exact X.vl (X.load rfl (Sx.ev 19 (.pointer (some (pd6.add i)))) (X.ld1 (Try.agg3 _) ((hC.gr g).at 0 rfl))) hR.st0
   ·intro ac done u W Sx hR
    exact X.vl (X.move rfl (Sx.ev 1 (.slice (some pd7) ys.length d))) hR.st0
   ·intro ac done u W Sx hR
    exact X.vl (X.move rfl (Sx.ev 5 (Vi i))) hR.st0
   ·intro ac done u W Sx hR
    exact X.val (X.w0 rfl) rfl (X.index rfl (Sx.ev 21 (.slice (some pd7) ys.length d)) (Sx.ev 22 (Vi i)) (X.idx (k := i) Try.underlying34 (Try.siz3 _) (by omega) (by omega) (by rw [Nat.mul_one]))) hR.st0
   ·intro ac done u W Sx hR
    have g : Gr w4 W := hR.1
    exact X.vl (X.load rfl (Sx.ev 23 (.pointer (some (pd7.add i)))) (X.ld1 (Try.agg3 _) ((hC.gr g).at 1 rfl))) hR.st0
   ·intro ac done u W Sx hR
    exact X.vl (X.binop rfl (Sx.ev 20 (Vi (xs[i]?.getD 0))) (Sx.ev 24 (Vi (ys[i]?.getD 0))) (X.neqI Try.underlying3 rfl)) hR.st0
   intro ac u w8 hs hd hl ho hR
   have g : Gr w4 w8 := hR.1
   replace F : Fr ac 26 [(0, .slice (some pd6) xs.length c), (1, .slice (some pd7) ys.length d), (5, Vi i), (25, .bool ((xs[i]?.getD 0 : Int) != (ys[i]?.getD 0)))] := X.fr hs hd hl _ (by kernel_rfl)
   clear hs hd hl ho hR
   replace G := G.trans g
   replace hC := hC.gr g
   replace hO1 := hO1.thenGr g
   replace hx := hx.gr g
   replace hy := hy.gr g
   clear g
   refine X.thenN ?_
   cases h9 : ((xs[i]?.getD 0 : Int) != (ys[i]?.getD 0)) with
   | false =>
    try rw [h9] at F
    have h9p : (xs[i]?.getD 0 : Int) = (ys[i]?.getD 0) := by simpa using h9
    refine Y.condF (F.ev 25 (.bool false)) ?_
    refine Y.skip ?_
    refine X.blockN (X.thenN ?_)
    refine Y.lg F [(0, .slice (some pd6) xs.length c), (1, .slice (some pd7) ys.length d), (5, Vi ((i : Int) + 1))] (by
     refine Y.pv F (X.move rfl (F.ev 5 (Vi i))) fun ac F=>?_
     refine Y.pv F (X.binop rfl (F.ev 15 (Vi i)) (X.kc (Vi 1) rfl) (X.addI Try.underlying3 rfl (by omega) (by omega))) fun ac F=>?_
     refine Y.pv F (X.assign rfl (F.ev 16 (Vi ((i : Int) + 1)))) fun ac F=>?_
     exact Y.fin F) ?_;clear F ac;intro ac F
    refine ⟨_, ?_, i + 1, rfl, hO1, by omega, fun j hj => if e : j = i then by rw [e]; exact (by simpa using h9p) else hsame j (by omega), F.sub _⟩
    omega
   | true =>
    try rw [h9] at F
    have h9p : ¬ (xs[i]?.getD 0 : Int) = (ys[i]?.getD 0) := by simpa using h9
    refine Y.condT (F.ev 25 (.bool true)) ?_
    refine Y.sg F [(4, .bool false)] (Y.pv F (X.assign rfl (X.kc (.bool false) rfl)) fun ac F=>Y.fin F) ?_;clear F ac;intro ac F
    refine Y.ret ?_
    refine X.blockR (X.thenR (X.thenR (X.blockR (X.thenR ?_))))
    exact Y.ret0 (v := .bool false) F (Y.r1 F) ⟨by rw [same_no (j := i) (by omega) hl2 (by simpa using h9p)], G⟩
 | true =>
  try rw [h3] at F
  have h3p : ¬ (xs.length : Int) = ys.length := by simpa using h3
  refine Y.condT (F.ev 10 (.bool true)) ?_
  refine Y.sg F [(4, .bool false)] (Y.pv F (X.assign rfl (X.kc (.bool false) rfl)) fun ac F=>Y.fin F) ?_;clear F ac;intro ac F
  refine Y.ret ?_
  refine X.thenR ?_
  exact Y.ret0 (v := .bool false) F (Y.r1 F) ⟨by rw [show decide (xs = ys) = false by simp only [decide_eq_false_iff_not]; intro e; subst e; omega], G⟩
end
section
open Go.RowKit

/-- a problem in memory of the call's own -/
structure PbOwn (w : World) (B : Nat) (p : Pb) (ta ha ba la : Option Addr) (tc hc bc lc : Nat) : Prop where
  t : OwnR w B 74 4 (.slice ta p.nt tc) p.nt (tbL (tvV p) p.nt 4)
  h : OwnR w B 53 6 (.slice ha p.nh hc) p.nh (tbL (hvV p) p.nh 6)
  b : OwnR w B 65 3 (.slice ba p.nb bc) p.nb (tbL (bvV p) p.nb 3)
  l : OwnR w B 84 3 (.slice la p.nl lc) p.nl (tbL (lvV p) p.nl 3)
  s1 : ∀ i, i < p.nt → (p.tn i).size ≤ 9223372036854775807
  s2 : ∀ i, i < p.nh → (p.hn i).size ≤ 9223372036854775807
def SmlP (p : Pb) : Prop := p.nt ≤ 20 ∧ p.nh ≤ 20 ∧ p.nb ≤ 40 ∧ p.nl ≤ 40
theorem PbOwn.at {w : World} {B : Nat} {p : Pb} {ta ha ba la : Option Addr} {tc hc bc lc : Nat} (h : PbOwn w B p ta ha ba la tc hc bc lc) (hz : SmlP p) : PbAt w p ta ha ba la tc hc bc lc := by
  obtain ⟨h1, h2, h3, h4⟩ := hz
  exact ⟨h.t.tb (by omega), h.h.tb (by omega), h.b.tb (by omega), h.l.tb (by omega), h.s1, h.s2⟩
theorem PbOwn.gr {w w' : World} {B : Nat} {p : Pb} {ta ha ba la : Option Addr} {tc hc bc lc : Nat} (h : PbOwn w B p ta ha ba la tc hc bc lc) (g : Gr w w') : PbOwn w' B p ta ha ba la tc hc bc lc := ⟨h.t.gr g, h.h.gr g, h.b.gr g, h.l.gr g, h.s1, h.s2⟩
theorem OwnR.after {w w' : World} {b B e k n c : Nat} {a : Option Addr} {xs : List Value} (h : OwnR w B e k (.slice a n c) n xs) (g : Only (fun x => x = b) w w') (hb : b < B) : OwnR w' B e k (.slice a n c) n xs :=
  h.only g (fun x hx e => by have h1 := (h.ge hx).1; have h2 : x = b := e; omega)
set_option maxRecDepth 100000 in
set_option maxHeartbeats 2000000 in
theorem copy_any (p : Pb) (ta ha ba la : Option Addr) (tc hc bc lc : Nat) (w : World) (hP : PbAt w p ta ha ba la tc hc bc lc) (hz : SmlP p) :
  Calls Try.prog 17 #[.agg #[.slice ta p.nt tc, .slice ha p.nh hc, .slice ba p.nb bc, .slice la p.nl lc]] w fun e w' => ∃ ta ha ba la tc hc bc lc, e = .returned (.agg #[.slice ta p.nt tc, .slice ha p.nh hc, .slice ba p.nb bc, .slice la p.nl lc]) ∧ PbOwn w' w.heap.size p ta ha ba la tc hc bc lc ∧ Gr w w' := by
 have G := Gr.refl w
 have hpt := hP.t
 have hph := hP.h
 have hpb := hP.b
 have hpl := hP.l
 have hplen := hP.len
 obtain ⟨hn1, hn2, hn3, hn4⟩ := hplen
 have hcp1 := hpt.cap
 have hcp2 := hph.cap
 have hcp3 := hpb.cap
 have hcp4 := hpl.cap
 obtain ⟨hz1, hz2, hz3, hz4⟩ := hz
 refine Y.calls 20 Try.func17 rfl rfl ?_
 intro ac F0
 have F : Fr ac 20 [(0, .agg #[.slice ta p.nt tc, .slice ha p.nh hc, .slice ba p.nb bc, .slice la p.nl lc])] := F0.sub _
 clear F0
 refine Y.sl ?_
 have hgs3 : w.heap.size ≤ w.heap.size := G.size
 refine Y.pv F (X.box rfl (F.ev 0 (.agg #[.slice ta p.nt tc, .slice ha p.nh hc, .slice ba p.nb bc, .slice la p.nl lc])) X.bx) ?_;clear F ac;intro ac F
 have hgs5 : w.heap.size ≤ w.heap.size := G.size
 obtain ⟨w6, hw_, g, hb, hbl, hC2⟩ := Y.bxd (RCells.nil w) #[.slice ta p.nt tc, .slice ha p.nh hc, .slice ba p.nb bc, .slice la p.nl lc] 27;rw [hw_];clear hw_
 replace G := G.trans g
 have hC := hC2
 clear hC2
 replace hpt := hpt.gr g
 replace hph := hph.gr g
 replace hpb := hpb.gr g
 replace hpl := hpl.gr g
 have hsz4 := hbl
 clear g hb hbl
 refine Y.pv F (Y.al rfl (Try.new27 _)) ?_;clear F ac;intro ac F
 have g := Gr.alloc w6 (.cells #[.slice none 0 0, .slice none 0 0, .slice none 0 0, .slice none 0 0] 27)
 have hb := heap_alloc_new w6 (.cells #[.slice none 0 0, .slice none 0 0, .slice none 0 0, .slice none 0 0] 27)
 have hszw7 : w6.heap.size < (w6.alloc (.cells #[.slice none 0 0, .slice none 0 0, .slice none 0 0, .slice none 0 0] 27)).heap.size := by simp
 have hgsw7 : w.heap.size ≤ w6.heap.size := G.size
 generalize w6.alloc (.cells #[.slice none 0 0, .slice none 0 0, .slice none 0 0, .slice none 0 0] 27) = w7 at *
 replace G := G.trans g
 replace hC := hC.gr g
 replace hpt := hpt.gr g
 replace hph := hph.gr g
 replace hpb := hpb.gr g
 replace hpl := hpl.gr g
 have hVw7 : OwnP w7 w6.heap.size 4 (VL [.slice none 0 0, .slice none 0 0, .slice none 0 0, .slice none 0 0]) := ownP_bx (vs := [.slice none 0 0, .slice none 0 0, .slice none 0 0, .slice none 0 0]) hb
 clear g hb
 refine Y.nt F [(1, Vp w.heap.size), (2, Vp w6.heap.size)] ?_;clear F ac;intro ac F
 refine Y.seq ?_
 have hgL : w.heap.size ≤ w7.heap.size := G.size
 have hbB := hVw7.lt
 have hbw : w.heap.size ≤ w6.heap.size := by first | exact Nat.le_refl _ | omega
 obtain ⟨TT, hTT⟩ : ∃ T : (Nat → Value) → World → Prop, T = fun _ W => ∃ t0 c0 t1 c1 t2 c2 t3 c3, OwnP W w6.heap.size 4 (VL [.slice t0 p.nt c0, .slice t1 p.nh c1, .slice t2 p.nb c2, .slice t3 p.nl c3]) ∧ Only (fun x => x = w6.heap.size) w7 W ∧ OwnR W w7.heap.size 74 4 (.slice t0 p.nt c0) p.nt (tbL (tvV p) p.nt 4) ∧ OwnR W w7.heap.size 53 6 (.slice t1 p.nh c1) p.nh (tbL (hvV p) p.nh 6) ∧ OwnR W w7.heap.size 65 3 (.slice t2 p.nb c2) p.nb (tbL (bvV p) p.nb 3) ∧ OwnR W w7.heap.size 84 3 (.slice t3 p.nl c3) p.nl (tbL (lvV p) p.nl 3) := ⟨_, rfl⟩
 refine Y.regionS F [none, some (Vp w.heap.size), some (.slice ta p.nt tc), none, none, some (.pointer (some ⟨w.heap.size, 1, none⟩)), some (.slice ha p.nh hc), none, none, some (.pointer (some ⟨w.heap.size, 2, none⟩)), some (.slice ba p.nb bc), none, none, some (.pointer (some ⟨w.heap.size, 3, none⟩)), some (.slice la p.nl lc), none, none, none] [(0, Y.MP.row0 w7.heap.size 74 4), (3, Y.MP.row w7.heap.size 74 4 p.nt (tbL (tvV p) p.nt 4)), (4, Y.MP.row0 w7.heap.size 53 6), (7, Y.MP.row w7.heap.size 53 6 p.nh (tbL (hvV p) p.nh 6)), (8, Y.MP.row0 w7.heap.size 65 3), (11, Y.MP.row w7.heap.size 65 3 p.nb (tbL (bvV p) p.nb 3)), (12, Y.MP.row0 w7.heap.size 84 3), (15, Y.MP.row w7.heap.size 84 3 p.nl (tbL (lvV p) p.nl 3)), (16, Y.MP.pbv w7.heap.size p)] 17 TT rfl ⟨by kernel_rfl, of_decide_eq_true (by kernel_rfl), by kernel_rfl, by kernel_rfl, by kernel_rfl⟩ (of_decide_eq_true (by kernel_rfl)) ⟨?_, ?_, ?_, ?_, ?_, ?_, ?_, ?_, ?_, ?_, ?_, ?_, ?_, ?_, ?_, ?_, ?_, ?_, trivial⟩ ?_
 ·intro ac done u W Sx hT
  have hs := Sx.no 17 (by kernel_rfl)
  have hR := hT.1 hs
  have g : Gr w7 W := hR.1
  exact X.valN (X.w0 rfl) rfl (X.bs rfl X.bs0 (Try.bs22_0 _)) (Y.RT.of hs rfl (hR.new (q := Y.MP.row0 w7.heap.size 74 4) (Gr.alloc _ _) rfl ⟨_, rfl, ownR_new (heap_alloc_new _ _) g.size⟩))
 ·intro ac done u W Sx hT
  have hs := Sx.no 17 (by kernel_rfl)
  have hR := hT.1 hs
  have g : Gr w7 W := hR.1
  exact X.vl (X.field rfl (Sx.ev 1 (Vp w.heap.size)) (X.fld Try.underlying27 rfl (Try.siz22 _) rfl rfl)) (Y.RT.of hs rfl hR.st0)
 ·intro ac done u W Sx hT
  have hs := Sx.no 17 (by kernel_rfl)
  have hR := hT.1 hs
  have g : Gr w7 W := hR.1
  exact X.vl (X.load rfl (Sx.ev 4 (Vp w.heap.size)) (X.ld1 (Try.agg22 _) ((hC.gr g).at 0 rfl))) (Y.RT.of hs rfl hR.st0)
 ·intro ac done u W Sx hT
  have hs := Sx.no 17 (by kernel_rfl)
  have hR := hT.1 hs
  have g : Gr w7 W := hR.1
  obtain ⟨ra0, e0, hI0⟩ := hR.get (i := 0) (Y.MP.row0 w7.heap.size 74 4) rfl (Sx.an 0 (by kernel_rfl))
  obtain ⟨a9, c9, W2, hrun, hO2, g2⟩ := run_copyN (P := Try.prog) (ts := 22) Try.underlying22 Try.info74 rfl (by decide) hI0 (hpt.gr g).none0 tbL_len ((hpt.gr g).src (by decide)) (tv_one p _) (by omega) (by decide) g.size
  exact X.valN (X.w0 rfl) rfl (Y.apz rfl ((Sx.own 0 3 rfl).trans e0) (Sx.ev 5 (.slice ta p.nt tc)) hrun) (Y.RT.of hs rfl (hR.new (q := Y.MP.row w7.heap.size 74 4 p.nt (tbL (tvV p) p.nt 4)) g2 rfl ⟨_, _, rfl, hO2⟩))
 ·intro ac done u W Sx hT
  have hs := Sx.no 17 (by kernel_rfl)
  have hR := hT.1 hs
  have g : Gr w7 W := hR.1
  exact X.valN (X.w0 rfl) rfl (X.bs rfl X.bs0 (Try.bs23_0 _)) (Y.RT.of hs rfl (hR.new (q := Y.MP.row0 w7.heap.size 53 6) (Gr.alloc _ _) rfl ⟨_, rfl, ownR_new (heap_alloc_new _ _) g.size⟩))
 ·intro ac done u W Sx hT
  have hs := Sx.no 17 (by kernel_rfl)
  have hR := hT.1 hs
  have g : Gr w7 W := hR.1
  exact X.vl (X.field rfl (Sx.ev 1 (Vp w.heap.size)) (X.fld Try.underlying27 rfl (Try.siz23 _) rfl rfl)) (Y.RT.of hs rfl hR.st0)
 ·intro ac done u W Sx hT
  have hs := Sx.no 17 (by kernel_rfl)
  have hR := hT.1 hs
  have g : Gr w7 W := hR.1
  exact X.vl (X.load rfl (Sx.ev 8 (.pointer (some ⟨w.heap.size, 1, none⟩))) (X.ld1 (Try.agg23 _) ((hC.gr g).at 1 rfl))) (Y.RT.of hs rfl hR.st0)
 ·intro ac done u W Sx hT
  have hs := Sx.no 17 (by kernel_rfl)
  have hR := hT.1 hs
  have g : Gr w7 W := hR.1
  obtain ⟨ra4, e4, hI4⟩ := hR.get (i := 4) (Y.MP.row0 w7.heap.size 53 6) rfl (Sx.an 4 (by kernel_rfl))
  obtain ⟨a9, c9, W2, hrun, hO2, g2⟩ := run_copyN (P := Try.prog) (ts := 23) Try.underlying23 Try.info53 rfl (by decide) hI4 (hph.gr g).none0 tbL_len ((hph.gr g).src (by decide)) (hv_one p _) (by omega) (by decide) g.size
  exact X.valN (X.w0 rfl) rfl (Y.apz rfl ((Sx.own 4 7 rfl).trans e4) (Sx.ev 9 (.slice ha p.nh hc)) hrun) (Y.RT.of hs rfl (hR.new (q := Y.MP.row w7.heap.size 53 6 p.nh (tbL (hvV p) p.nh 6)) g2 rfl ⟨_, _, rfl, hO2⟩))
 ·intro ac done u W Sx hT
  have hs := Sx.no 17 (by kernel_rfl)
  have hR := hT.1 hs
  have g : Gr w7 W := hR.1
  exact X.valN (X.w0 rfl) rfl (X.bs rfl X.bs0 (Try.bs24_0 _)) (Y.RT.of hs rfl (hR.new (q := Y.MP.row0 w7.heap.size 65 3) (Gr.alloc _ _) rfl ⟨_, rfl, ownR_new (heap_alloc_new _ _) g.size⟩))
 ·intro ac done u W Sx hT
  have hs := Sx.no 17 (by kernel_rfl)
  have hR := hT.1 hs
  have g : Gr w7 W := hR.1
  exact X.vl (X.field rfl (Sx.ev 1 (Vp w.heap.size)) (X.fld Try.underlying27 rfl (Try.siz24 _) rfl rfl)) (Y.RT.of hs rfl hR.st0)
 ·intro ac done u W Sx hT
  have hs := Sx.no 17 (by kernel_rfl)
  have hR := hT.1 hs
  have g : Gr w7 W := hR.1
  exact X.vl (X.load rfl (Sx.ev 12 (.pointer (some ⟨w.heap.size, 2, none⟩))) (X.ld1 (Try.agg24 _) ((hC.gr g).at 2 rfl))) (Y.RT.of hs rfl hR.st0)
 ·intro ac done u W Sx hT
  have hs := Sx.no 17 (by kernel_rfl)
  have hR := hT.1 hs
  have g : Gr w7 W := hR.1
  obtain ⟨ra8, e8, hI8⟩ := hR.get (i := 8) (Y.MP.row0 w7.heap.size 65 3) rfl (Sx.an 8 (by kernel_rfl))
  obtain ⟨a9, c9, W2, hrun, hO2, g2⟩ := run_copyN (P := Try.prog) (ts := 24) Try.underlying24 Try.info65 rfl (by decide) hI8 (hpb.gr g).none0 tbL_len ((hpb.gr g).src (by decide)) (bv_one p _) (by omega) (by decide) g.size
  exact X.valN (X.w0 rfl) rfl (Y.apz rfl ((Sx.own 8 11 rfl).trans e8) (Sx.ev 13 (.slice ba p.nb bc)) hrun) (Y.RT.of hs rfl (hR.new (q := Y.MP.row w7.heap.size 65 3 p.nb (tbL (bvV p) p.nb 3)) g2 rfl ⟨_, _, rfl, hO2⟩))
 ·intro ac done u W Sx hT
  have hs := Sx.no 17 (by kernel_rfl)
  have hR := hT.1 hs
  have g : Gr w7 W := hR.1
  exact X.valN (X.w0 rfl) rfl (X.bs rfl X.bs0 (Try.bs25_0 _)) (Y.RT.of hs rfl (hR.new (q := Y.MP.row0 w7.heap.size 84 3) (Gr.alloc _ _) rfl ⟨_, rfl, ownR_new (heap_alloc_new _ _) g.size⟩))
 ·intro ac done u W Sx hT
  have hs := Sx.no 17 (by kernel_rfl)
  have hR := hT.1 hs
  have g : Gr w7 W := hR.1
  exact X.vl (X.field rfl (Sx.ev 1 (Vp w.heap.size)) (X.fld Try.underlying27 rfl (Try.siz25 _) rfl rfl)) (Y.RT.of hs rfl hR.st0)
 ·intro ac done u W Sx hT
  have hs := Sx.no 17 (by kernel_rfl)
  have hR := hT.1 hs
  have g : Gr w7 W := hR.1
  exact X.vl (X.load rfl (Sx.ev 16 (.pointer (some ⟨w.heap.size, 3, none⟩))) (X.ld1 (Try.agg25 _) ((hC.gr g).at 3 rfl))) (Y.RT.of hs rfl hR.st0)
 ·intro ac done u W Sx hT
  have hs := Sx.no 17 (by kernel_rfl)
  have hR := hT.1 hs
  have g : Gr w7 W := hR.1
  obtain ⟨ra12, e12, hI12⟩ := hR.get (i := 12) (Y.MP.row0 w7.heap.size 84 3) rfl (Sx.an 12 (by kernel_rfl))
  obtain ⟨a9, c9, W2, hrun, hO2, g2⟩ := run_copyN (P := Try.prog) (ts := 25) Try.underlying25 Try.info84 rfl (by decide) hI12 (hpl.gr g).none0 tbL_len ((hpl.gr g).src (by decide)) (lv_one p _) (by omega) (by decide) g.size
  exact X.valN (X.w0 rfl) rfl (Y.apz rfl ((Sx.own 12 15 rfl).trans e12) (Sx.ev 17 (.slice la p.nl lc)) hrun) (Y.RT.of hs rfl (hR.new (q := Y.MP.row w7.heap.size 84 3 p.nl (tbL (lvV p) p.nl 3)) g2 rfl ⟨_, _, rfl, hO2⟩))
 ·intro ac done u W Sx hT
  have hs := Sx.no 17 (by kernel_rfl)
  have hR := hT.1 hs
  have g : Gr w7 W := hR.1
  obtain ⟨ra3, rc3, e3, hI3⟩ := hR.get (i := 3) (Y.MP.row w7.heap.size 74 4 p.nt (tbL (tvV p) p.nt 4)) rfl (Sx.an 3 (by kernel_rfl))
  obtain ⟨ra7, rc7, e7, hI7⟩ := hR.get (i := 7) (Y.MP.row w7.heap.size 53 6 p.nh (tbL (hvV p) p.nh 6)) rfl (Sx.an 7 (by kernel_rfl))
  obtain ⟨ra11, rc11, e11, hI11⟩ := hR.get (i := 11) (Y.MP.row w7.heap.size 65 3 p.nb (tbL (bvV p) p.nb 3)) rfl (Sx.an 11 (by kernel_rfl))
  obtain ⟨ra15, rc15, e15, hI15⟩ := hR.get (i := 15) (Y.MP.row w7.heap.size 84 3 p.nl (tbL (lvV p) p.nl 3)) rfl (Sx.an 15 (by kernel_rfl))
  exact X.valN (X.w0 rfl) rfl (Y.bd rfl (X.b4 ((Sx.own 3 6 rfl).trans e3) ((Sx.own 7 10 rfl).trans e7) ((Sx.own 11 14 rfl).trans e11) ((Sx.own 15 18 rfl).trans e15)) (Try.bd27f _ _ _ _ _ _ _ _ _ _ _ _ _)) (Y.RT.of hs rfl (hR.new (q := Y.MP.pbv w7.heap.size p) (Gr.refl _) rfl ⟨_, _, _, _, _, _, _, _, rfl, hI3, hI7, hI11, hI15⟩))
 ·intro ac done u W Sx hT
  have hR := hT.1 Sx.nd
  have g : Gr w7 W := hR.1
  obtain ⟨t0, c0, t1, c1, t2, c2, t3, c3, e16, hO0, hO1, hO2, hO3⟩ := hR.get (i := 16) (Y.MP.pbv w7.heap.size p) rfl (Sx.an 16 (by kernel_rfl))
  obtain ⟨W2, hrun, hV2, hon⟩ := ownP_store (P := Try.prog) (vs := [.slice t0 p.nt c0, .slice t1 p.nh c1, .slice t2 p.nb c2, .slice t3 p.nl c3]) (t := 27) (hVw7.gr g) rfl (fun W => Try.siz27 W) rfl
  exact X.unit (X.w0 rfl) rfl (X.store rfl (Sx.ev 2 (Vp w6.heap.size)) ((Sx.own 16 19 rfl).trans e16) hrun) (Y.RT.fin (by subst hTT; exact ⟨t0, c0, t1, c1, t2, c2, t3, c3, hV2, (g.only _).trans hon, hO0.after hon hbB, hO1.after hon hbB, hO2.after hon hbB, hO3.after hon hbB⟩))
 rintro ac u w8 hs hd hl_ ho hT
 rw [hTT] at hT
 obtain ⟨t0, c0, t1, c1, t2, c2, t3, c3, hV2, hon, hO0, hO1, hO2, hO3⟩ := hT
 clear hTT
 replace F : Fr ac 20 [(2, Vp w6.heap.size)] := X.fr hs hd hl_ _ (by kernel_rfl)
 clear hs hd hl_ ho
 replace G := Y.Only.up G hon (by omega)
 refine X.thenN ?_
 refine Y.ret ?_
 exact Y.ret0 (v := .agg #[.slice t0 p.nt c0, .slice t1 p.nh c1, .slice t2 p.nb c2, .slice t3 p.nl c3]) F (Y.rcl F rfl (by kernel_rfl) (ownP_load hV2 (Try.agg27 _) (Try.siz27 _) rfl)) ⟨t0, t1, t2, t3, c0, c1, c2, c3, rfl, ⟨hO0.lower hgL, hO1.lower hgL, hO2.lower hgL, hO3.lower hgL, hP.s1, hP.s2⟩, G⟩
end
section
open Go.RowKit

theorem large_far {p : Pb} (h : largeB p = false) : farB p = false := by
  cases e : farB p with
  | false => rfl
  | true => unfold largeB at h; rw [e] at h; cases h
theorem large_sz {p : Pb} (h : largeB p = false) : SmlP p := far_sz (large_far h)
theorem large_pl {p : Pb} (h : largeB p = false) : chkE p = 0 → p.nt ≤ 5 ∧ p.nh ≤ 4 := fun hc => by
  simp [largeB, hc] at h
  omega
end
end Go.Proofs.Ytodedneanlekdaa
