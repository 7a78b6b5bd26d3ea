/- Several texts of this claim in one file. (1) Contracts: ints, Copy, Same. (2) Contracts: Save, and the reference's. (3) Contract: the law about Check. (4) Contract: the law about Save. -/
import Derived.Test.YtodedneanlekdaaBd13
import Derived.Test.YtodedneanlekdaaBd5
namespace Go.Proofs.Ytodedneanlekdaa
set_option linter.unusedSimpArgs false
set_option linter.unusedVariables false
section
open Go.RowKit

/-- a problem in memory of the call's own -/
structure PbOwn (w : World) (B : Nat) (p : Pb) (ta ha ba la : Option Addr) (tc hc bc lc : Nat) : Prop where
  t : OwnR w B 74 4 (.slice ta p.nt tc) p.nt (tbL (tvV p) p.nt 4)
  h : OwnR w B 53 6 (.slice ha p.nh hc) p.nh (tbL (hvV p) p.nh 6)
  b : OwnR w B 65 3 (.slice ba p.nb bc) p.nb (tbL (bvV p) p.nb 3)
  l : OwnR w B 84 3 (.slice la p.nl lc) p.nl (tbL (lvV p) p.nl 3)
  s1 : ∀ i, i < p.nt → (p.tn i).size ≤ 9223372036854775807
  s2 : ∀ i, i < p.nh → (p.hn i).size ≤ 9223372036854775807
def SmlP (p : Pb) : Prop := p.nt ≤ 20 ∧ p.nh ≤ 20 ∧ p.nb ≤ 40 ∧ p.nl ≤ 40
theorem PbOwn.at {w : World} {B : Nat} {p : Pb} {ta ha ba la : Option Addr} {tc hc bc lc : Nat} (h : PbOwn w B p ta ha ba la tc hc bc lc) (hz : SmlP p) : PbAt w p ta ha ba la tc hc bc lc := by
  obtain ⟨h1, h2, h3, h4⟩ := hz
  exact ⟨h.t.tb (by omega), h.h.tb (by omega), h.b.tb (by omega), h.l.tb (by omega), h.s1, h.s2⟩
theorem PbOwn.gr {w w' : World} {B : Nat} {p : Pb} {ta ha ba la : Option Addr} {tc hc bc lc : Nat} (h : PbOwn w B p ta ha ba la tc hc bc lc) (g : Gr w w') : PbOwn w' B p ta ha ba la tc hc bc lc := ⟨h.t.gr g, h.h.gr g, h.b.gr g, h.l.gr g, h.s1, h.s2⟩
theorem OwnR.after {w w' : World} {b B e k n c : Nat} {a : Option Addr} {xs : List Value} (h : OwnR w B e k (.slice a n c) n xs) (g : Only (fun x => x = b) w w') (hb : b < B) : OwnR w' B e k (.slice a n c) n xs :=
  h.only g (fun x hx e => by have h1 := (h.ge hx).1; have h2 : x = b := e; omega)
set_option maxRecDepth 100000 in
set_option maxHeartbeats 400000 in
theorem ints_any (a : Option Addr) (c : Nat) (xs : List Int) (w : World) (hX : Ints w a xs.length xs) (hl : xs.length ≤ 100000) :
  Calls Try.prog 33 #[.slice a xs.length c] w fun e w' => ∃ a' c', e = .returned (.slice a' xs.length c') ∧ OwnR w' w.heap.size 3 1 (.slice a' xs.length c') xs.length (xs.map (Value.int .i64)) ∧ Gr w w' := by
 have G := Gr.refl w
 have hxs := hX
 refine Y.calls 6 Try.func33 rfl rfl ?_
 intro ac F0
 have F : Fr ac 6 [(0, .slice a xs.length c)] := F0.sub _
 clear F0
 refine Y.sg F [(0, .slice a xs.length c)] (Y.pv F (X.assign rfl (X.kc (.slice none 0 0) rfl)) fun ac F=>Y.fin F) ?_;clear F ac;intro ac F
 refine Y.sl ?_
 refine Y.pv F (X.bs rfl X.bs0 (Try.bs34_0 _)) ?_;clear F ac;intro ac F
 have g := Gr.alloc w (.cells #[] 3)
 have hO := ownR_new (k := 1) (heap_alloc_new w (.cells #[] 3)) (Nat.le_refl _)
 generalize w.alloc (.cells #[] 3) = w3 at *
 replace G := G.trans g
 replace hxs := hxs.gr g
 clear g
 refine Y.pv F (X.move rfl (F.ev 0 (.slice a xs.length c))) ?_;clear F ac;intro ac F
 obtain ⟨ra, rc, w4, hrun, hO2, g⟩ := run_copyN (P := Try.prog) (ts := 34) Try.underlying34 Try.info3 rfl (by decide) hO (ints_tb hxs).2 (by rw [List.length_map, Nat.mul_one]) (ints_tb hxs).1 (ints_all xs) (by omega) (by decide) G.size
 refine Y.pv F (Y.apz rfl (F.ev 3 (.slice (some ⟨w.heap.size, 0, none⟩) 0 0)) (F.ev 4 (.slice a xs.length c)) hrun) ?_
 clear F ac hrun
 intro ac F
 replace G := G.trans g
 replace hxs := hxs.gr g
 refine Y.pv F (X.assign rfl (F.ev 5 (.slice ra xs.length rc))) ?_;clear F ac;intro ac F
 refine Y.nt F [(2, .slice ra xs.length rc)] ?_;clear F ac;intro ac F
 refine Y.ret ?_
 exact Y.ret0 (v := .slice ra xs.length rc) F (Y.r1 F) ⟨ra, rc, rfl, hO2, G⟩
set_option maxRecDepth 100000 in
set_option maxHeartbeats 2000000 in
theorem copy_any (p : Pb) (ta ha ba la : Option Addr) (tc hc bc lc : Nat) (w : World) (hP : PbAt w p ta ha ba la tc hc bc lc) (hz : SmlP p) :
  Calls Try.prog 17 #[.agg #[.slice ta p.nt tc, .slice ha p.nh hc, .slice ba p.nb bc, .slice la p.nl lc]] w fun e w' => ∃ ta ha ba la tc hc bc lc, e = .returned (.agg #[.slice ta p.nt tc, .slice ha p.nh hc, .slice ba p.nb bc, .slice la p.nl lc]) ∧ PbOwn w' w.heap.size p ta ha ba la tc hc bc lc ∧ Gr w w' := by
 have G := Gr.refl w
 have hpt := hP.t
 have hph := hP.h
 have hpb := hP.b
 have hpl := hP.l
 have hplen := hP.len
 obtain ⟨hn1, hn2, hn3, hn4⟩ := hplen
 have hcp1 := hpt.cap
 have hcp2 := hph.cap
 have hcp3 := hpb.cap
 have hcp4 := hpl.cap
 obtain ⟨hz1, hz2, hz3, hz4⟩ := hz
 refine Y.calls 20 Try.func17 rfl rfl ?_
 intro ac F0
 have F : Fr ac 20 [(0, .agg #[.slice ta p.nt tc, .slice ha p.nh hc, .slice ba p.nb bc, .slice la p.nl lc])] := F0.sub _
 clear F0
 refine Y.sl ?_
 have hgs3 : w.heap.size ≤ w.heap.size := G.size
 refine Y.pv F (X.box rfl (F.ev 0 (.agg #[.slice ta p.nt tc, .slice ha p.nh hc, .slice ba p.nb bc, .slice la p.nl lc])) X.bx) ?_;clear F ac;intro ac F
 have hgs5 : w.heap.size ≤ w.heap.size := G.size
 have g := Gr.alloc w (.cells #[.slice ta p.nt tc, .slice ha p.nh hc, .slice ba p.nb bc, .slice la p.nl lc] 27)
 have hb := heap_alloc_new w (.cells #[.slice ta p.nt tc, .slice ha p.nh hc, .slice ba p.nb bc, .slice la p.nl lc] 27)
 have hbl : w.heap.size < (w.alloc (.cells #[.slice ta p.nt tc, .slice ha p.nh hc, .slice ba p.nb bc, .slice la p.nl lc] 27)).heap.size := by simp
 have hC2 : RCells (w.alloc (.cells #[.slice ta p.nt tc, .slice ha p.nh hc, .slice ba p.nb bc, .slice la p.nl lc] 27)) [(Ad w.heap.size 0, .slice ta p.nt tc), (Ad w.heap.size 1, .slice ha p.nh hc), (Ad w.heap.size 2, .slice ba p.nb bc), (Ad w.heap.size 3, .slice la p.nl lc)] := (RCells.nil w).box (b := w.heap.size) #[.slice ta p.nt tc, .slice ha p.nh hc, .slice ba p.nb bc, .slice la p.nl lc] 27 rfl
 generalize w.alloc (.cells #[.slice ta p.nt tc, .slice ha p.nh hc, .slice ba p.nb bc, .slice la p.nl lc] 27) = w6 at *
 replace G := G.trans g
 have hC := hC2
 clear hC2
 replace hpt := hpt.gr g
 replace hph := hph.gr g
 replace hpb := hpb.gr g
 replace hpl := hpl.gr g
 have hsz4 := hbl
 clear g hb hbl
 refine Y.pv F (Y.al rfl (Try.new27 _)) ?_;clear F ac;intro ac F
 have g := Gr.alloc w6 (.cells #[.slice none 0 0, .slice none 0 0, .slice none 0 0, .slice none 0 0] 27)
 have hb := heap_alloc_new w6 (.cells #[.slice none 0 0, .slice none 0 0, .slice none 0 0, .slice none 0 0] 27)
 have hszw7 : w6.heap.size < (w6.alloc (.cells #[.slice none 0 0, .slice none 0 0, .slice none 0 0, .slice none 0 0] 27)).heap.size := by simp
 have hgsw7 : w.heap.size ≤ w6.heap.size := G.size
 generalize w6.alloc (.cells #[.slice none 0 0, .slice none 0 0, .slice none 0 0, .slice none 0 0] 27) = w7 at *
 replace G := G.trans g
 replace hC := hC.gr g
 replace hpt := hpt.gr g
 replace hph := hph.gr g
 replace hpb := hpb.gr g
 replace hpl := hpl.gr g
 have hVw7 : OwnP w7 w6.heap.size 4 (VL [.slice none 0 0, .slice none 0 0, .slice none 0 0, .slice none 0 0]) := ownP_bx (vs := [.slice none 0 0, .slice none 0 0, .slice none 0 0, .slice none 0 0]) hb
 clear g hb
 refine Y.nt F [(1, Vp w.heap.size), (2, Vp w6.heap.size)] ?_;clear F ac;intro ac F
 refine Y.seq ?_
 have hgL : w.heap.size ≤ w7.heap.size := G.size
 have hbB := hVw7.lt
 have hbw : w.heap.size ≤ w6.heap.size := by first | exact Nat.le_refl _ | omega
 obtain ⟨TT, hTT⟩ : ∃ T : (Nat → Value) → World → Prop, T = fun _ W => ∃ t0 c0 t1 c1 t2 c2 t3 c3, OwnP W w6.heap.size 4 (VL [.slice t0 p.nt c0, .slice t1 p.nh c1, .slice t2 p.nb c2, .slice t3 p.nl c3]) ∧ Only (fun x => x = w6.heap.size) w7 W ∧ OwnR W w7.heap.size 74 4 (.slice t0 p.nt c0) p.nt (tbL (tvV p) p.nt 4) ∧ OwnR W w7.heap.size 53 6 (.slice t1 p.nh c1) p.nh (tbL (hvV p) p.nh 6) ∧ OwnR W w7.heap.size 65 3 (.slice t2 p.nb c2) p.nb (tbL (bvV p) p.nb 3) ∧ OwnR W w7.heap.size 84 3 (.slice t3 p.nl c3) p.nl (tbL (lvV p) p.nl 3) := ⟨_, rfl⟩
 refine Y.regionS F [none, some (Vp w.heap.size), some (.slice ta p.nt tc), none, none, some (.pointer (some ⟨w.heap.size, 1, none⟩)), some (.slice ha p.nh hc), none, none, some (.pointer (some ⟨w.heap.size, 2, none⟩)), some (.slice ba p.nb bc), none, none, some (.pointer (some ⟨w.heap.size, 3, none⟩)), some (.slice la p.nl lc), none, none, none] [(0, Y.MP.row0 w7.heap.size 74 4), (3, Y.MP.row w7.heap.size 74 4 p.nt (tbL (tvV p) p.nt 4)), (4, Y.MP.row0 w7.heap.size 53 6), (7, Y.MP.row w7.heap.size 53 6 p.nh (tbL (hvV p) p.nh 6)), (8, Y.MP.row0 w7.heap.size 65 3), (11, Y.MP.row w7.heap.size 65 3 p.nb (tbL (bvV p) p.nb 3)), (12, Y.MP.row0 w7.heap.size 84 3), (15, Y.MP.row w7.heap.size 84 3 p.nl (tbL (lvV p) p.nl 3)), (16, Y.MP.pbv w7.heap.size p)] 17 TT rfl ⟨by kernel_rfl, of_decide_eq_true (by kernel_rfl), by kernel_rfl, by kernel_rfl, by kernel_rfl⟩ (of_decide_eq_true (by kernel_rfl)) ⟨?_, ?_, ?_, ?_, ?_, ?_, ?_, ?_, ?_, ?_, ?_, ?_, ?_, ?_, ?_, ?_, ?_, ?_, trivial⟩ ?_
 ·intro ac done u W Sx hT
  have hs := Sx.no 17 (by kernel_rfl)
  have hR := hT.1 hs
  have g : Gr w7 W := hR.1
  exact X.valN (X.w0 rfl) rfl (X.bs rfl X.bs0 (Try.bs22_0 _)) (Y.RT.of hs rfl (hR.new (q := Y.MP.row0 w7.heap.size 74 4) (Gr.alloc _ _) rfl ⟨_, rfl, ownR_new (heap_alloc_new _ _) g.size⟩))
 ·intro ac done u W Sx hT
  have hs := Sx.no 17 (by kernel_rfl)
  have hR := hT.1 hs
  have g : Gr w7 W := hR.1
  exact X.vl (X.field rfl (Sx.ev 1 (Vp w.heap.size)) (X.fld Try.underlying27 rfl (Try.siz22 _) rfl rfl)) (Y.RT.of hs rfl hR.st0)
 ·intro ac done u W Sx hT
  have hs := Sx.no 17 (by kernel_rfl)
  have hR := hT.1 hs
  have g : Gr w7 W := hR.1
  exact X.vl (X.load rfl (Sx.ev 4 (Vp w.heap.size)) (X.ld1 (Try.agg22 _) ((hC.gr g).at 0 rfl))) (Y.RT.of hs rfl hR.st0)
 ·intro ac done u W Sx hT
  have hs := Sx.no 17 (by kernel_rfl)
  have hR := hT.1 hs
  have g : Gr w7 W := hR.1
  obtain ⟨ra0, e0, hI0⟩ := hR.get (i := 0) (Y.MP.row0 w7.heap.size 74 4) rfl (Sx.an 0 (by kernel_rfl))
  obtain ⟨a9, c9, W2, hrun, hO2, g2⟩ := run_copyN (P := Try.prog) (ts := 22) Try.underlying22 Try.info74 rfl (by decide) hI0 (hpt.gr g).none0 tbL_len ((hpt.gr g).src (by decide)) (tv_one p _) (by omega) (by decide) g.size
  exact X.valN (X.w0 rfl) rfl (Y.apz rfl ((Sx.own 0 3 rfl).trans e0) (Sx.ev 5 (.slice ta p.nt tc)) hrun) (Y.RT.of hs rfl (hR.new (q := Y.MP.row w7.heap.size 74 4 p.nt (tbL (tvV p) p.nt 4)) g2 rfl ⟨_, _, rfl, hO2⟩))
 ·intro ac done u W Sx hT
  have hs := Sx.no 17 (by kernel_rfl)
  have hR := hT.1 hs
  have g : Gr w7 W := hR.1
  exact X.valN (X.w0 rfl) rfl (X.bs rfl X.bs0 (Try.bs23_0 _)) (Y.RT.of hs rfl (hR.new (q := Y.MP.row0 w7.heap.size 53 6) (Gr.alloc _ _) rfl ⟨_, rfl, ownR_new (heap_alloc_new _ _) g.size⟩))
 ·intro ac done u W Sx hT
  have hs := Sx.no 17 (by kernel_rfl)
  have hR := hT.1 hs
  have g : Gr w7 W := hR.1
  exact X.vl (X.field rfl (Sx.ev 1 (Vp w.heap.size)) (X.fld Try.underlying27 rfl (Try.siz23 _) rfl rfl)) (Y.RT.of hs rfl hR.st0)
 ·intro ac done u W Sx hT
  have hs := Sx.no 17 (by kernel_rfl)
  have hR := hT.1 hs
  have g : Gr w7 W := hR.1
  exact X.vl (X.load rfl (Sx.ev 8 (.pointer (some ⟨w.heap.size, 1, none⟩))) (X.ld1 (Try.agg23 _) ((hC.gr g).at 1 rfl))) (Y.RT.of hs rfl hR.st0)
 ·intro ac done u W Sx hT
  have hs := Sx.no 17 (by kernel_rfl)
  have hR := hT.1 hs
  have g : Gr w7 W := hR.1
  obtain ⟨ra4, e4, hI4⟩ := hR.get (i := 4) (Y.MP.row0 w7.heap.size 53 6) rfl (Sx.an 4 (by kernel_rfl))
  obtain ⟨a9, c9, W2, hrun, hO2, g2⟩ := run_copyN (P := Try.prog) (ts := 23) Try.underlying23 Try.info53 rfl (by decide) hI4 (hph.gr g).none0 tbL_len ((hph.gr g).src (by decide)) (hv_one p _) (by omega) (by decide) g.size
  exact X.valN (X.w0 rfl) rfl (Y.apz rfl ((Sx.own 4 7 rfl).trans e4) (Sx.ev 9 (.slice ha p.nh hc)) hrun) (Y.RT.of hs rfl (hR.new (q := Y.MP.row w7.heap.size 53 6 p.nh (tbL (hvV p) p.nh 6)) g2 rfl ⟨_, _, rfl, hO2⟩))
 ·intro ac done u W Sx hT
  have hs := Sx.no 17 (by kernel_rfl)
  have hR := hT.1 hs
  have g : Gr w7 W := hR.1
  exact X.valN (X.w0 rfl) rfl (X.bs rfl X.bs0 (Try.bs24_0 _)) (Y.RT.of hs rfl (hR.new (q := Y.MP.row0 w7.heap.size 65 3) (Gr.alloc _ _) rfl ⟨_, rfl, ownR_new (heap_alloc_new _ _) g.size⟩))
 ·intro ac done u W Sx hT
  have hs := Sx.no 17 (by kernel_rfl)
  have hR := hT.1 hs
  have g : Gr w7 W := hR.1
  exact X.vl (X.field rfl (Sx.ev 1 (Vp w.heap.size)) (X.fld Try.underlying27 rfl (Try.siz24 _) rfl rfl)) (Y.RT.of hs rfl hR.st0)
 ·intro ac done u W Sx hT
  have hs := Sx.no 17 (by kernel_rfl)
  have hR := hT.1 hs
  have g : Gr w7 W := hR.1
  exact X.vl (X.load rfl (Sx.ev 12 (.pointer (some ⟨w.heap.size, 2, none⟩))) (X.ld1 (Try.agg24 _) ((hC.gr g).at 2 rfl))) (Y.RT.of hs rfl hR.st0)
 ·intro ac done u W Sx hT
  have hs := Sx.no 17 (by kernel_rfl)
  have hR := hT.1 hs
  have g : Gr w7 W := hR.1
  obtain ⟨ra8, e8, hI8⟩ := hR.get (i := 8) (Y.MP.row0 w7.heap.size 65 3) rfl (Sx.an 8 (by kernel_rfl))
  obtain ⟨a9, c9, W2, hrun, hO2, g2⟩ := run_copyN (P := Try.prog) (ts := 24) Try.underlying24 Try.info65 rfl (by decide) hI8 (hpb.gr g).none0 tbL_len ((hpb.gr g).src (by decide)) (bv_one p _) (by omega) (by decide) g.size
  exact X.valN (X.w0 rfl) rfl (Y.apz rfl ((Sx.own 8 11 rfl).trans e8) (Sx.ev 13 (.slice ba p.nb bc)) hrun) (Y.RT.of hs rfl (hR.new (q := Y.MP.row w7.heap.size 65 3 p.nb (tbL (bvV p) p.nb 3)) g2 rfl ⟨_, _, rfl, hO2⟩))
 ·intro ac done u W Sx hT
  have hs := Sx.no 17 (by kernel_rfl)
  have hR := hT.1 hs
  have g : Gr w7 W := hR.1
  exact X.valN (X.w0 rfl) rfl (X.bs rfl X.bs0 (Try.bs25_0 _)) (Y.RT.of hs rfl (hR.new (q := Y.MP.row0 w7.heap.size 84 3) (Gr.alloc _ _) rfl ⟨_, rfl, ownR_new (heap_alloc_new _ _) g.size⟩))
 ·intro ac done u W Sx hT
  have hs := Sx.no 17 (by kernel_rfl)
  have hR := hT.1 hs
  have g : Gr w7 W := hR.1
  exact X.vl (X.field rfl (Sx.ev 1 (Vp w.heap.size)) (X.fld Try.underlying27 rfl (Try.siz25 _) rfl rfl)) (Y.RT.of hs rfl hR.st0)
 ·intro ac done u W Sx hT
  have hs := Sx.no 17 (by kernel_rfl)
  have hR := hT.1 hs
  have g : Gr w7 W := hR.1
  exact X.vl (X.load rfl (Sx.ev 16 (.pointer (some ⟨w.heap.size, 3, none⟩))) (X.ld1 (Try.agg25 _) ((hC.gr g).at 3 rfl))) (Y.RT.of hs rfl hR.st0)
 ·intro ac done u W Sx hT
  have hs := Sx.no 17 (by kernel_rfl)
  have hR := hT.1 hs
  have g : Gr w7 W := hR.1
  obtain ⟨ra12, e12, hI12⟩ := hR.get (i := 12) (Y.MP.row0 w7.heap.size 84 3) rfl (Sx.an 12 (by kernel_rfl))
  obtain ⟨a9, c9, W2, hrun, hO2, g2⟩ := run_copyN (P := Try.prog) (ts := 25) Try.underlying25 Try.info84 rfl (by decide) hI12 (hpl.gr g).none0 tbL_len ((hpl.gr g).src (by decide)) (lv_one p _) (by omega) (by decide) g.size
  exact X.valN (X.w0 rfl) rfl (Y.apz rfl ((Sx.own 12 15 rfl).trans e12) (Sx.ev 17 (.slice la p.nl lc)) hrun) (Y.RT.of hs rfl (hR.new (q := Y.MP.row w7.heap.size 84 3 p.nl (tbL (lvV p) p.nl 3)) g2 rfl ⟨_, _, rfl, hO2⟩))
 ·intro ac done u W Sx hT
  have hs := Sx.no 17 (by kernel_rfl)
  have hR := hT.1 hs
  have g : Gr w7 W := hR.1
  obtain ⟨ra3, rc3, e3, hI3⟩ := hR.get (i := 3) (Y.MP.row w7.heap.size 74 4 p.nt (tbL (tvV p) p.nt 4)) rfl (Sx.an 3 (by kernel_rfl))
  obtain ⟨ra7, rc7, e7, hI7⟩ := hR.get (i := 7) (Y.MP.row w7.heap.size 53 6 p.nh (tbL (hvV p) p.nh 6)) rfl (Sx.an 7 (by kernel_rfl))
  obtain ⟨ra11, rc11, e11, hI11⟩ := hR.get (i := 11) (Y.MP.row w7.heap.size 65 3 p.nb (tbL (bvV p) p.nb 3)) rfl (Sx.an 11 (by kernel_rfl))
  obtain ⟨ra15, rc15, e15, hI15⟩ := hR.get (i := 15) (Y.MP.row w7.heap.size 84 3 p.nl (tbL (lvV p) p.nl 3)) rfl (Sx.an 15 (by kernel_rfl))
  exact X.valN (X.w0 rfl) rfl (Y.bd rfl (X.b4 ((Sx.own 3 6 rfl).trans e3) ((Sx.own 7 10 rfl).trans e7) ((Sx.own 11 14 rfl).trans e11) ((Sx.own 15 18 rfl).trans e15)) (Try.bd27f _ _ _ _ _ _ _ _ _ _ _ _ _)) (Y.RT.of hs rfl (hR.new (q := Y.MP.pbv w7.heap.size p) (Gr.refl _) rfl ⟨_, _, _, _, _, _, _, _, rfl, hI3, hI7, hI11, hI15⟩))
 ·intro ac done u W Sx hT
  have hR := hT.1 Sx.nd
  have g : Gr w7 W := hR.1
  obtain ⟨t0, c0, t1, c1, t2, c2, t3, c3, e16, hO0, hO1, hO2, hO3⟩ := hR.get (i := 16) (Y.MP.pbv w7.heap.size p) rfl (Sx.an 16 (by kernel_rfl))
  obtain ⟨W2, hrun, hV2, hon⟩ := ownP_store (P := Try.prog) (vs := [.slice t0 p.nt c0, .slice t1 p.nh c1, .slice t2 p.nb c2, .slice t3 p.nl c3]) (t := 27) (hVw7.gr g) rfl (fun W => Try.siz27 W) rfl
  exact X.unit (X.w0 rfl) rfl (X.store rfl (Sx.ev 2 (Vp w6.heap.size)) ((Sx.own 16 19 rfl).trans e16) hrun) (Y.RT.fin (by subst hTT; exact ⟨t0, c0, t1, c1, t2, c2, t3, c3, hV2, (g.only _).trans hon, hO0.after hon hbB, hO1.after hon hbB, hO2.after hon hbB, hO3.after hon hbB⟩))
 rintro ac u w8 hs hd hl_ ho hT
 rw [hTT] at hT
 obtain ⟨t0, c0, t1, c1, t2, c2, t3, c3, hV2, hon, hO0, hO1, hO2, hO3⟩ := hT
 clear hTT
 replace F : Fr ac 20 [(2, Vp w6.heap.size)] := X.fr hs hd hl_ _ (by kernel_rfl)
 clear hs hd hl_ ho
 replace G := Y.Only.up G hon (by omega)
 refine X.thenN ?_
 refine Y.ret ?_
 exact Y.ret0 (v := .agg #[.slice t0 p.nt c0, .slice t1 p.nh c1, .slice t2 p.nb c2, .slice t3 p.nl c3]) F (Y.rcl F rfl (by kernel_rfl) (ownP_load hV2 (Try.agg27 _) (Try.siz27 _) rfl)) ⟨t0, t1, t2, t3, c0, c1, c2, c3, rfl, ⟨hO0.lower hgL, hO1.lower hgL, hO2.lower hgL, hO3.lower hgL, hP.s1, hP.s2⟩, G⟩
end
section
open Go.RowKit

set_option maxRecDepth 100000 in
set_option maxHeartbeats 2000000 in
theorem save_any (p : Pb) (ta ha ba la : Option Addr) (tc hc bc lc : Nat) (a : Option Addr) (c : Nat) (xs : List Int) (hz : SmlP p) (w : World) (hP : PbAt w p ta ha ba la tc hc bc lc) (hX : Ints w a xs.length xs) :
  Calls Try.prog 43 #[.agg #[.slice ta p.nt tc, .slice ha p.nh hc, .slice ba p.nb bc, .slice la p.nl lc], .slice a xs.length c] w fun e w' => e = .returned (.tuple #[Vi (saveV p xs), Vi (saveE p xs)]) ∧ Gr w w' := by
 have G := Gr.refl w
 have hpt := hP.t
 have hph := hP.h
 have hpb := hP.b
 have hpl := hP.l
 have hplen := hP.len
 obtain ⟨hn1, hn2, hn3, hn4⟩ := hplen
 have hcp1 := hpt.cap
 have hcp2 := hph.cap
 have hcp3 := hpb.cap
 have hcp4 := hpl.cap
 have hxs := hX
 refine Y.calls 35 Try.func43 rfl rfl ?_
 intro ac F0
 have F : Fr ac 35 [(0, .agg #[.slice ta p.nt tc, .slice ha p.nh hc, .slice ba p.nb bc, .slice la p.nl lc]), (1, .slice a xs.length c)] := F0.sub _
 clear F0
 refine Y.sl ?_
 have hgs3 : w.heap.size ≤ w.heap.size := G.size
 refine Y.pv F (X.box rfl (F.ev 0 (.agg #[.slice ta p.nt tc, .slice ha p.nh hc, .slice ba p.nb bc, .slice la p.nl lc])) X.bx) ?_;clear F ac;intro ac F
 have hgs5 : w.heap.size ≤ w.heap.size := G.size
 have g := Gr.alloc w (.cells #[.slice ta p.nt tc, .slice ha p.nh hc, .slice ba p.nb bc, .slice la p.nl lc] 27)
 have hb := heap_alloc_new w (.cells #[.slice ta p.nt tc, .slice ha p.nh hc, .slice ba p.nb bc, .slice la p.nl lc] 27)
 have hbl : w.heap.size < (w.alloc (.cells #[.slice ta p.nt tc, .slice ha p.nh hc, .slice ba p.nb bc, .slice la p.nl lc] 27)).heap.size := by simp
 have hC2 : RCells (w.alloc (.cells #[.slice ta p.nt tc, .slice ha p.nh hc, .slice ba p.nb bc, .slice la p.nl lc] 27)) [(Ad w.heap.size 0, .slice ta p.nt tc), (Ad w.heap.size 1, .slice ha p.nh hc), (Ad w.heap.size 2, .slice ba p.nb bc), (Ad w.heap.size 3, .slice la p.nl lc)] := (RCells.nil w).box (b := w.heap.size) #[.slice ta p.nt tc, .slice ha p.nh hc, .slice ba p.nb bc, .slice la p.nl lc] 27 rfl
 generalize w.alloc (.cells #[.slice ta p.nt tc, .slice ha p.nh hc, .slice ba p.nb bc, .slice la p.nl lc] 27) = w6 at *
 replace G := G.trans g
 have hC := hC2
 clear hC2
 replace hpt := hpt.gr g
 replace hph := hph.gr g
 replace hpb := hpb.gr g
 replace hpl := hpl.gr g
 replace hxs := hxs.gr g
 have hsz4 := hbl
 clear g hb hbl
 have hgs7 : w.heap.size ≤ w6.heap.size := G.size
 refine Y.pv F (X.box rfl (F.ev 1 (.slice a xs.length c)) (Y.bx1 rfl)) ?_;clear F ac;intro ac F
 have hgs9 : w.heap.size ≤ w6.heap.size := G.size
 have g := Gr.alloc w6 (.cells #[.slice a xs.length c] 34)
 have hb := heap_alloc_new w6 (.cells #[.slice a xs.length c] 34)
 have hbl : w6.heap.size < (w6.alloc (.cells #[.slice a xs.length c] 34)).heap.size := by simp
 have hC2 : RCells (w6.alloc (.cells #[.slice a xs.length c] 34)) [(Ad w.heap.size 0, .slice ta p.nt tc), (Ad w.heap.size 1, .slice ha p.nh hc), (Ad w.heap.size 2, .slice ba p.nb bc), (Ad w.heap.size 3, .slice la p.nl lc), (Ad w6.heap.size 0, .slice a xs.length c)] := hC.box (b := w6.heap.size) #[.slice a xs.length c] 34 rfl
 generalize w6.alloc (.cells #[.slice a xs.length c] 34) = w10 at *
 replace G := G.trans g
 replace hC := hC2
 clear hC2
 replace hpt := hpt.gr g
 replace hph := hph.gr g
 replace hpb := hpb.gr g
 replace hpl := hpl.gr g
 replace hxs := hxs.gr g
 have hsz8 := hbl
 clear g hb hbl
 refine Y.pv F (X.assign rfl (X.kc (Vi 0) rfl)) ?_;clear F ac;intro ac F
 refine Y.pv F (X.assign rfl (X.kc (Vi 0) rfl)) ?_;clear F ac;intro ac F
 refine Y.nt F [(2, Vp w.heap.size), (3, Vp w6.heap.size)] ?_;clear F ac;intro ac F
 refine Y.seq ?_
 refine Y.sl ?_
 refine Y.pv F (X.load rfl (F.ev 2 (Vp w.heap.size)) (X.ldN (Try.agg27 _) (Try.siz27 _) (Y.atz (⟨w.heap.size, 0, none⟩) (Y.AtFrom.cons (hC.at 0 rfl) (Y.AtFrom.cons (hC.at 1 rfl) (Y.AtFrom.cons (hC.at 2 rfl) (Y.AtFrom.cons (hC.at 3 rfl) (Y.AtFrom.nil _ _ _)))))))) ?_;clear F ac;intro ac F
 refine Y.pv F (X.load rfl (F.ev 3 (Vp w6.heap.size)) (X.ld1 (Try.agg34 _) (hC.at 4 rfl))) ?_;clear F ac;intro ac F
 refine Y.pc F 71 (X.a3 (F.ev 11 (.agg #[.slice ta p.nt tc, .slice ha p.nh hc, .slice ba p.nb bc, .slice la p.nl lc])) (F.ev 12 (.slice a xs.length c)) (X.kc (.bool true) rfl)) Try.func71 (begun_any p ta ha ba la tc hc bc lc a c xs true w10 (hP.gr G) (hX.gr G)) ?_
 clear F ac
 rintro e w11 ⟨rfl, g⟩
 refine ⟨_, rfl, ?_⟩
 intro ac F
 replace G := G.trans g
 replace hC := hC.gr g
 replace hpt := hpt.gr g
 replace hph := hph.gr g
 replace hpb := hpb.gr g
 replace hpl := hpl.gr g
 replace hxs := hxs.gr g
 clear g
 refine Y.pv F (X.assign rfl (F.ev 13 (Vi (whoE p xs)))) ?_;clear F ac;intro ac F
 refine Y.nt F [(2, Vp w.heap.size), (3, Vp w6.heap.size), (6, Vi (whoE p xs))] ?_;clear F ac;intro ac F
 refine Y.sg F [(2, Vp w.heap.size), (3, Vp w6.heap.size), (6, Vi (whoE p xs)), (15, .bool ((whoE p xs : Int) != 0))] (Y.pv F (X.move rfl (F.ev 6 (Vi (whoE p xs)))) fun ac F=>Y.pv F (X.binop rfl (F.ev 14 (Vi (whoE p xs))) (X.kc (Vi 0) rfl) (X.neqI Try.underlying31 rfl)) fun ac F=>Y.fin F) ?_;clear F ac;intro ac F
 cases h12 : ((whoE p xs : Int) != 0) with
 | false =>
  try rw [h12] at F
  have h12p : (whoE p xs : Int) = 0 := by simpa using h12
  have hwh : whoE p xs = 0 := by omega
  have hbg := (who_ok hwh).1
  obtain ⟨hck, hp, hlen, hx⟩ := beg_ok hbg
  refine Y.condF (F.ev 15 (.bool false)) ?_
  refine Y.skip ?_
  refine X.thenN ?_
  refine Y.sg F [(7, .func (.func 82) #[] #[Vp w.heap.size, Vp w6.heap.size])] (Y.pv F (Y.fnc rfl (Y.m2 (F.ev 2 (Vp w.heap.size)) (F.ev 3 (Vp w6.heap.size)))) fun ac F=>Y.pv F (X.assign rfl (F.ev 17 (.func (.func 82) #[] #[Vp w.heap.size, Vp w6.heap.size]))) fun ac F=>Y.fin F) ?_;clear F ac;intro ac F
  refine Y.seq ?_
  refine Y.sl ?_
  refine Y.pv F (X.move rfl (F.ev 7 (.func (.func 82) #[] #[Vp w.heap.size, Vp w6.heap.size]))) ?_;clear F ac;intro ac F
  refine Y.pcall F (X.w0 rfl) rfl (X.enter (F := 82) rfl (F.ev 18 (.func (.func 82) #[] #[Vp w.heap.size, Vp w6.heap.size])) (X.a1 (X.kc (Vi 0) rfl)) (enters_of Try.func82 (by kernel_rfl) rfl _)) (sv1_any p ta ha ba la tc hc bc lc a c w.heap.size w6.heap.size xs 0 w11 (hP.gr G) (hX.gr G) ((RCells.cons (hC.at 0 rfl) (RCells.cons (hC.at 1 rfl) (RCells.cons (hC.at 2 rfl) (RCells.cons (hC.at 3 rfl) (RCells.cons (hC.at 4 rfl) (RCells.nil _))))))) hck (by omega) hlen hx) ?_
  clear F ac
  rintro e w13 ⟨rfl, g⟩
  refine ⟨_, rfl, ?_⟩
  intro ac F
  replace G := G.trans g
  replace hC := hC.gr g
  replace hpt := hpt.gr g
  replace hph := hph.gr g
  replace hpb := hpb.gr g
  replace hpl := hpl.gr g
  replace hxs := hxs.gr g
  clear g
  refine Y.pv F (X.notB rfl (F.ev 19 (.bool (!hopeB p (hund p 0) xs))) rfl) ?_;clear F ac;intro ac F
  refine Y.nt F [(7, .func (.func 82) #[] #[Vp w.heap.size, Vp w6.heap.size]), (20, .bool (!(!hopeB p (hund p 0) xs)))] ?_;clear F ac;intro ac F
  cases h14 : hopeB p (hund p 0) xs with
  | false =>
   try rw [h14] at F
   refine Y.condF (F.ev 20 (.bool false)) ?_
   refine Y.skip ?_
   refine X.thenN ?_
   refine Y.sg F [(7, .func (.func 82) #[] #[Vp w.heap.size, Vp w6.heap.size]), (8, Vi 0), (9, Vi 100001)] (Y.pv F (X.assign rfl (X.kc (Vi 0) rfl)) fun ac F=>Y.pv F (X.assign rfl (X.kc (Vi 100001) rfl)) fun ac F=>Y.fin F) ?_;clear F ac;intro ac F
   refine Y.seq ?_
   refine Y.block ?_
   refine Y.loop (fun me_ ac wr => ∃ (k : Nat) (l h : Int), me_ = k + 1 ∧ Only (fun b => False) w13 wr ∧ 0 ≤ l ∧ l ≤ 100001 ∧ 0 ≤ h ∧ h ≤ 100001 ∧ (h - l).toNat ≤ k ∧ bsS (fitF p xs) k l h = bsS (fitF p xs) 100001 0 100001 ∧ Fr ac 35 [(7, .func (.func 82) #[] #[Vp w.heap.size, Vp w6.heap.size]), (8, Vi l), (9, Vi h)]) _ ⟨100001, 0, 100001, rfl, Only.refl _ _, by decide, by decide, by decide, by decide, by decide, rfl, F.sub _⟩ ?_
   have hptB1 := hpt
   have hphB1 := hph
   have hpbB1 := hpb
   have hplB1 := hpl
   have hxsB1 := hxs
   have GB1 := G
   have hCB1 := hC
   clear F ac
   intro me_ ac w15 hI
   obtain ⟨k, l, h, rfl, hO1, hl0, hl1, hh0, hh1, hkk, hbs, F⟩ := hI
   replace G := GB1.trans (hO1.gr (fun _ _ h => h))
   replace hpt := (hP.t).gr G
   replace hph := (hP.h).gr G
   replace hpb := (hP.b).gr G
   replace hpl := (hP.l).gr G
   replace hxs := (hX).gr G
   replace hC := (RCells.cons (hO1.cell (hCB1.at 0 rfl) (fun h => h)) (RCells.cons (hO1.cell (hCB1.at 1 rfl) (fun h => h)) (RCells.cons (hO1.cell (hCB1.at 2 rfl) (fun h => h)) (RCells.cons (hO1.cell (hCB1.at 3 rfl) (fun h => h)) (RCells.cons (hO1.cell (hCB1.at 4 rfl) (fun h => h)) (RCells.nil _))))))
   refine Y.seq ?_
   refine Y.sg F [(7, .func (.func 82) #[] #[Vp w.heap.size, Vp w6.heap.size]), (8, Vi l), (9, Vi h), (24, .bool (decide ((1 : Int) < ((h : Int) - l))))] (by
    refine Y.pv F (X.move rfl (F.ev 9 (Vi h))) fun ac F=>?_
    refine Y.pv F (X.move rfl (F.ev 8 (Vi l))) fun ac F=>?_
    refine Y.pv F (X.binop rfl (F.ev 21 (Vi h)) (F.ev 22 (Vi l)) (X.subI Try.underlying3 rfl (by omega) (by omega))) fun ac F=>?_
    refine Y.pv F (X.binop rfl (F.ev 23 (Vi ((h : Int) - l))) (X.kc (Vi 1) rfl) (X.gtrI Try.underlying3 rfl)) fun ac F=>?_
    exact Y.fin F) ?_;clear F ac;intro ac F
   cases h16 : decide ((1 : Int) < ((h : Int) - l)) with
   | false =>
    try rw [h16] at F
    have h16p : ¬ ((1 : Int) < ((h : Int) - l)) := of_decide_eq_false h16
    refine Y.condF (F.ev 24 (.bool false)) ?_
    refine Y.exit ?_
    refine X.thenX (X.thenX (X.blockX (X.thenN ?_)))
    refine Y.sg F [(4, Vi l), (5, Vi 0)] (Y.pv F (X.move rfl (F.ev 8 (Vi l))) fun ac F=>Y.pv F (X.assign rfl (F.ev 34 (Vi l))) fun ac F=>Y.pv F (X.assign rfl (X.kc (Vi 0) rfl)) fun ac F=>Y.fin F) ?_;clear F ac;intro ac F
    refine Y.ret ?_
    have hb := save_2 hwh h14
    exact Y.ret0 (v := .tuple #[Vi l, Vi 0]) F (Y.rs2 F rfl (by kernel_rfl) (by kernel_rfl)) ⟨by rw [hb.1, hb.2, ← hbs, bs_end (by omega)], G⟩
   | true =>
    try rw [h16] at F
    have h16p : ((1 : Int) < ((h : Int) - l)) := of_decide_eq_true h16
    refine Y.condT (F.ev 24 (.bool true)) ?_
    refine Y.skip ?_
    refine X.thenN ?_
    refine Y.block ?_
    refine Y.sg F [(7, .func (.func 82) #[] #[Vp w.heap.size, Vp w6.heap.size]), (8, Vi l), (9, Vi h), (10, Vi (((l : Int) + h : Int) / 2))] (by
     refine Y.pv F (X.move rfl (F.ev 8 (Vi l))) fun ac F=>?_
     refine Y.pv F (X.move rfl (F.ev 9 (Vi h))) fun ac F=>?_
     refine Y.pv F (X.binop rfl (F.ev 25 (Vi l)) (F.ev 26 (Vi h)) (X.addI Try.underlying3 rfl (by omega) (by omega))) fun ac F=>?_
     refine Y.pv F (X.binop rfl (F.ev 27 (Vi ((l : Int) + h))) (X.kc (Vi 2) rfl) (X.quoI Try.underlying3 rfl (by omega) (by omega))) fun ac F=>?_
     refine Y.pv F (X.assign rfl (F.ev 28 (Vi (((l : Int) + h : Int) / 2)))) fun ac F=>?_
     exact Y.fin F) ?_;clear F ac;intro ac F
    refine Y.sl ?_
    refine Y.pv F (X.move rfl (F.ev 7 (.func (.func 82) #[] #[Vp w.heap.size, Vp w6.heap.size]))) ?_;clear F ac;intro ac F
    refine Y.pv F (X.move rfl (F.ev 10 (Vi (((l : Int) + h : Int) / 2)))) ?_;clear F ac;intro ac F
    refine Y.pcall F (X.w0 rfl) rfl (X.enter (F := 82) rfl (F.ev 29 (.func (.func 82) #[] #[Vp w.heap.size, Vp w6.heap.size])) (X.a1 (F.ev 30 (Vi (((l : Int) + h : Int) / 2)))) (enters_of Try.func82 (by kernel_rfl) rfl _)) (sv1_any p ta ha ba la tc hc bc lc a c w.heap.size w6.heap.size xs (((l : Int) + h : Int) / 2) w15 (hP.gr G) (hX.gr G) ((RCells.cons (hC.at 0 rfl) (RCells.cons (hC.at 1 rfl) (RCells.cons (hC.at 2 rfl) (RCells.cons (hC.at 3 rfl) (RCells.cons (hC.at 4 rfl) (RCells.nil _))))))) hck (by omega) hlen hx) ?_
    clear F ac
    rintro e w17 ⟨rfl, g⟩
    refine ⟨_, rfl, ?_⟩
    intro ac F
    replace G := G.trans g
    replace hC := hC.gr g
    replace hO1 := hO1.thenGr g
    replace hpt := hpt.gr g
    replace hph := hph.gr g
    replace hpb := hpb.gr g
    replace hpl := hpl.gr g
    replace hxs := hxs.gr g
    clear g
    refine Y.nt F [(7, .func (.func 82) #[] #[Vp w.heap.size, Vp w6.heap.size]), (8, Vi l), (9, Vi h), (10, Vi (((l : Int) + h : Int) / 2)), (31, .bool (!hopeB p (hund p (((l : Int) + h : Int) / 2)) xs))] ?_;clear F ac;intro ac F
    cases h18 : hopeB p (hund p (((l : Int) + h : Int) / 2)) xs with
    | false =>
     try rw [h18] at F
     refine Y.condT (F.ev 31 (.bool true)) ?_
     refine Y.lit (by kernel_rfl) ?_
     refine Y.pv F (X.move rfl (F.ev 10 (Vi (((l : Int) + h : Int) / 2)))) ?_;clear F ac;intro ac F
     refine Y.pv F (X.assign rfl (F.ev 32 (Vi (((l : Int) + h : Int) / 2)))) ?_;clear F ac;intro ac F
     refine Y.nil ?_
     replace F : Fr ac 35 [(7, .func (.func 82) #[] #[Vp w.heap.size, Vp w6.heap.size]), (8, Vi (((l : Int) + h : Int) / 2)), (9, Vi h)] := F.sub _
     refine X.blockN (X.thenN ?_)
     refine ⟨_, ?_, k - 1, (l + h) / 2, h, rfl, hO1, by omega, by omega, by omega, by omega, by omega, by obtain ⟨k2, rfl⟩ : ∃ k2, k = k2 + 1 := ⟨k - 1, by omega⟩; rw [← hbs, bs_yes (by omega) (by unfold fitF; rw [h18]; rfl)]; rfl, F.sub _⟩
     omega
    | true =>
     try rw [h18] at F
     refine Y.condF (F.ev 31 (.bool false)) ?_
     refine Y.lit (by kernel_rfl) ?_
     refine Y.pv F (X.move rfl (F.ev 10 (Vi (((l : Int) + h : Int) / 2)))) ?_;clear F ac;intro ac F
     refine Y.pv F (X.assign rfl (F.ev 33 (Vi (((l : Int) + h : Int) / 2)))) ?_;clear F ac;intro ac F
     refine Y.nil ?_
     replace F : Fr ac 35 [(7, .func (.func 82) #[] #[Vp w.heap.size, Vp w6.heap.size]), (8, Vi l), (9, Vi (((l : Int) + h : Int) / 2))] := F.sub _
     refine X.blockN (X.thenN ?_)
     refine ⟨_, ?_, k - 1, l, (l + h) / 2, rfl, hO1, by omega, by omega, by omega, by omega, by omega, by obtain ⟨k2, rfl⟩ : ∃ k2, k = k2 + 1 := ⟨k - 1, by omega⟩; rw [← hbs, bs_no (by omega) (by unfold fitF; rw [h18]; rfl)]; rfl, F.sub _⟩
     omega
  | true =>
   try rw [h14] at F
   refine Y.condT (F.ev 20 (.bool true)) ?_
   refine Y.sg F [(4, Vi 0), (5, Vi 33)] (Y.pv F (X.assign rfl (X.kc (Vi 0) rfl)) fun ac F=>Y.pv F (X.assign rfl (X.kc (Vi 33) rfl)) fun ac F=>Y.fin F) ?_;clear F ac;intro ac F
   refine Y.ret ?_
   refine X.thenR ?_
   have hb := save_1 hwh h14
   exact Y.ret0 (v := .tuple #[Vi 0, Vi 33]) F (Y.rs2 F rfl (by kernel_rfl) (by kernel_rfl)) ⟨by rw [hb.1, hb.2], G⟩
 | true =>
  try rw [h12] at F
  have h12p : ¬ (whoE p xs : Int) = 0 := by simpa using h12
  refine Y.condT (F.ev 15 (.bool true)) ?_
  refine Y.sg F [(4, Vi 0), (5, Vi (whoE p xs))] (Y.pv F (X.move rfl (F.ev 6 (Vi (whoE p xs)))) fun ac F=>Y.pv F (X.assign rfl (X.kc (Vi 0) rfl)) fun ac F=>Y.pv F (X.assign rfl (F.ev 16 (Vi (whoE p xs)))) fun ac F=>Y.fin F) ?_;clear F ac;intro ac F
  refine Y.ret ?_
  refine X.thenR ?_
  have hb := save_0 (p := p) (xs := xs) (by omega)
  exact Y.ret0 (v := .tuple #[Vi 0, Vi (whoE p xs)]) F (Y.rs2 F rfl (by kernel_rfl) (by kernel_rfl)) ⟨by rw [hb.1, hb.2], G⟩
set_option maxRecDepth 100000 in
set_option maxHeartbeats 2000000 in
theorem save2_any (p : Pb) (ta ha ba la : Option Addr) (tc hc bc lc : Nat) (a : Option Addr) (c : Nat) (xs : List Int) (w : World) (hP : PbAt w p ta ha ba la tc hc bc lc) (hX : Ints w a xs.length xs) :
  Calls Try.prog 44 #[.agg #[.slice ta p.nt tc, .slice ha p.nh hc, .slice ba p.nb bc, .slice la p.nl lc], .slice a xs.length c] w fun e w' => e = .returned (.tuple #[Vi (saveV p xs), Vi (saveE p xs)]) ∧ Gr w w' := by
 have G := Gr.refl w
 have hpt := hP.t
 have hph := hP.h
 have hpb := hP.b
 have hpl := hP.l
 have hplen := hP.len
 obtain ⟨hn1, hn2, hn3, hn4⟩ := hplen
 have hcp1 := hpt.cap
 have hcp2 := hph.cap
 have hcp3 := hpb.cap
 have hcp4 := hpl.cap
 have hxs := hX
 refine Y.calls 34 Try.func44 rfl rfl ?_
 intro ac F0
 have F : Fr ac 34 [(0, .agg #[.slice ta p.nt tc, .slice ha p.nh hc, .slice ba p.nb bc, .slice la p.nl lc]), (1, .slice a xs.length c)] := F0.sub _
 clear F0
 refine Y.sl ?_
 have hgs3 : w.heap.size ≤ w.heap.size := G.size
 refine Y.pv F (X.box rfl (F.ev 0 (.agg #[.slice ta p.nt tc, .slice ha p.nh hc, .slice ba p.nb bc, .slice la p.nl lc])) X.bx) ?_;clear F ac;intro ac F
 have hgs5 : w.heap.size ≤ w.heap.size := G.size
 have g := Gr.alloc w (.cells #[.slice ta p.nt tc, .slice ha p.nh hc, .slice ba p.nb bc, .slice la p.nl lc] 27)
 have hb := heap_alloc_new w (.cells #[.slice ta p.nt tc, .slice ha p.nh hc, .slice ba p.nb bc, .slice la p.nl lc] 27)
 have hbl : w.heap.size < (w.alloc (.cells #[.slice ta p.nt tc, .slice ha p.nh hc, .slice ba p.nb bc, .slice la p.nl lc] 27)).heap.size := by simp
 have hC2 : RCells (w.alloc (.cells #[.slice ta p.nt tc, .slice ha p.nh hc, .slice ba p.nb bc, .slice la p.nl lc] 27)) [(Ad w.heap.size 0, .slice ta p.nt tc), (Ad w.heap.size 1, .slice ha p.nh hc), (Ad w.heap.size 2, .slice ba p.nb bc), (Ad w.heap.size 3, .slice la p.nl lc)] := (RCells.nil w).box (b := w.heap.size) #[.slice ta p.nt tc, .slice ha p.nh hc, .slice ba p.nb bc, .slice la p.nl lc] 27 rfl
 generalize w.alloc (.cells #[.slice ta p.nt tc, .slice ha p.nh hc, .slice ba p.nb bc, .slice la p.nl lc] 27) = w6 at *
 replace G := G.trans g
 have hC := hC2
 clear hC2
 replace hpt := hpt.gr g
 replace hph := hph.gr g
 replace hpb := hpb.gr g
 replace hpl := hpl.gr g
 replace hxs := hxs.gr g
 have hsz4 := hbl
 clear g hb hbl
 refine Y.pv F (X.assign rfl (X.kc (Vi 0) rfl)) ?_;clear F ac;intro ac F
 refine Y.pv F (X.assign rfl (X.kc (Vi 0) rfl)) ?_;clear F ac;intro ac F
 refine Y.nt F [(1, .slice a xs.length c), (2, Vp w.heap.size)] ?_;clear F ac;intro ac F
 refine Y.sl ?_
 refine Y.pv F (X.load rfl (F.ev 2 (Vp w.heap.size)) (X.ldN (Try.agg27 _) (Try.siz27 _) (Y.atz (⟨w.heap.size, 0, none⟩) (Y.AtFrom.cons (hC.at 0 rfl) (Y.AtFrom.cons (hC.at 1 rfl) (Y.AtFrom.cons (hC.at 2 rfl) (Y.AtFrom.cons (hC.at 3 rfl) (Y.AtFrom.nil _ _ _)))))))) ?_;clear F ac;intro ac F
 refine Y.pv F (X.move rfl (F.ev 1 (.slice a xs.length c))) ?_;clear F ac;intro ac F
 refine Y.pc F 74 (X.a2 (F.ev 10 (.agg #[.slice ta p.nt tc, .slice ha p.nh hc, .slice ba p.nb bc, .slice la p.nl lc])) (F.ev 11 (.slice a xs.length c))) Try.func74 (whole_any p ta ha ba la tc hc bc lc a c xs w6 (hP.gr G) (hX.gr G)) ?_
 clear F ac
 rintro e w7 ⟨rfl, g⟩
 refine ⟨_, rfl, ?_⟩
 intro ac F
 replace G := G.trans g
 replace hC := hC.gr g
 replace hpt := hpt.gr g
 replace hph := hph.gr g
 replace hpb := hpb.gr g
 replace hpl := hpl.gr g
 replace hxs := hxs.gr g
 clear g
 refine Y.pv F (X.assign rfl (F.ev 12 (Vi (whoE p xs)))) ?_;clear F ac;intro ac F
 refine Y.nt F [(1, .slice a xs.length c), (2, Vp w.heap.size), (6, Vi (whoE p xs))] ?_;clear F ac;intro ac F
 refine Y.seq ?_
 refine Y.sg F [(1, .slice a xs.length c), (2, Vp w.heap.size), (6, Vi (whoE p xs)), (14, .bool ((whoE p xs : Int) != 0))] (Y.pv F (X.move rfl (F.ev 6 (Vi (whoE p xs)))) fun ac F=>Y.pv F (X.binop rfl (F.ev 13 (Vi (whoE p xs))) (X.kc (Vi 0) rfl) (X.neqI Try.underlying31 rfl)) fun ac F=>Y.fin F) ?_;clear F ac;intro ac F
 cases h8 : ((whoE p xs : Int) != 0) with
 | false =>
  try rw [h8] at F
  have h8p : (whoE p xs : Int) = 0 := by simpa using h8
  have hwh : whoE p xs = 0 := by omega
  have hbg := (who_ok hwh).1
  obtain ⟨hck, hp, hlen, hx⟩ := beg_ok hbg
  refine Y.condF (F.ev 14 (.bool false)) ?_
  refine Y.skip ?_
  refine X.thenN ?_
  refine Y.seq ?_
  refine Y.sl ?_
  refine Y.pv F (X.load rfl (F.ev 2 (Vp w.heap.size)) (X.ldN (Try.agg27 _) (Try.siz27 _) (Y.atz (⟨w.heap.size, 0, none⟩) (Y.AtFrom.cons (hC.at 0 rfl) (Y.AtFrom.cons (hC.at 1 rfl) (Y.AtFrom.cons (hC.at 2 rfl) (Y.AtFrom.cons (hC.at 3 rfl) (Y.AtFrom.nil _ _ _)))))))) ?_;clear F ac;intro ac F
  refine Y.pv F (X.move rfl (F.ev 1 (.slice a xs.length c))) ?_;clear F ac;intro ac F
  refine Y.pc F 75 (X.a3 (F.ev 16 (.agg #[.slice ta p.nt tc, .slice ha p.nh hc, .slice ba p.nb bc, .slice la p.nl lc])) (F.ev 17 (.slice a xs.length c)) (X.kc (Vi 0) rfl)) Try.func75 (hop2_any p ta ha ba la tc hc bc lc a c xs 0 w7 (hP.gr G) (hX.gr G) hp hx hlen (by omega)) ?_
  clear F ac
  rintro e w9 ⟨rfl, g⟩
  refine ⟨_, rfl, ?_⟩
  intro ac F
  replace G := G.trans g
  replace hC := hC.gr g
  replace hpt := hpt.gr g
  replace hph := hph.gr g
  replace hpb := hpb.gr g
  replace hpl := hpl.gr g
  replace hxs := hxs.gr g
  clear g
  refine Y.nt F [(1, .slice a xs.length c), (2, Vp w.heap.size), (18, .bool (hopeB p (hund p 0) xs))] ?_;clear F ac;intro ac F
  cases h10 : hopeB p (hund p 0) xs with
  | false =>
   try rw [h10] at F
   refine Y.condF (F.ev 18 (.bool false)) ?_
   refine Y.skip ?_
   refine X.thenN ?_
   refine Y.sg F [(1, .slice a xs.length c), (2, Vp w.heap.size), (7, Vi 0), (8, Vi 100001)] (Y.pv F (X.assign rfl (X.kc (Vi 0) rfl)) fun ac F=>Y.pv F (X.assign rfl (X.kc (Vi 100001) rfl)) fun ac F=>Y.fin F) ?_;clear F ac;intro ac F
   refine Y.seq ?_
   refine Y.block ?_
   refine Y.loop (fun me_ ac wr => ∃ (k : Nat) (l h : Int), me_ = k + 1 ∧ Only (fun b => False) w9 wr ∧ 0 ≤ l ∧ l ≤ 100001 ∧ 0 ≤ h ∧ h ≤ 100001 ∧ (h - l).toNat ≤ k ∧ bsS (fitF p xs) k l h = bsS (fitF p xs) 100001 0 100001 ∧ Fr ac 34 [(1, .slice a xs.length c), (2, Vp w.heap.size), (7, Vi l), (8, Vi h)]) _ ⟨100001, 0, 100001, rfl, Only.refl _ _, by decide, by decide, by decide, by decide, by decide, rfl, F.sub _⟩ ?_
   have hptB1 := hpt
   have hphB1 := hph
   have hpbB1 := hpb
   have hplB1 := hpl
   have hxsB1 := hxs
   have GB1 := G
   have hCB1 := hC
   clear F ac
   intro me_ ac w11 hI
   obtain ⟨k, l, h, rfl, hO1, hl0, hl1, hh0, hh1, hkk, hbs, F⟩ := hI
   replace G := GB1.trans (hO1.gr (fun _ _ h => h))
   replace hpt := (hP.t).gr G
   replace hph := (hP.h).gr G
   replace hpb := (hP.b).gr G
   replace hpl := (hP.l).gr G
   replace hxs := (hX).gr G
   replace hC := (RCells.cons (hO1.cell (hCB1.at 0 rfl) (fun h => h)) (RCells.cons (hO1.cell (hCB1.at 1 rfl) (fun h => h)) (RCells.cons (hO1.cell (hCB1.at 2 rfl) (fun h => h)) (RCells.cons (hO1.cell (hCB1.at 3 rfl) (fun h => h)) (RCells.nil _)))))
   refine Y.seq ?_
   refine Y.sg F [(1, .slice a xs.length c), (2, Vp w.heap.size), (7, Vi l), (8, Vi h), (22, .bool (decide ((1 : Int) < ((h : Int) - l))))] (by
    refine Y.pv F (X.move rfl (F.ev 8 (Vi h))) fun ac F=>?_
    refine Y.pv F (X.move rfl (F.ev 7 (Vi l))) fun ac F=>?_
    refine Y.pv F (X.binop rfl (F.ev 19 (Vi h)) (F.ev 20 (Vi l)) (X.subI Try.underlying3 rfl (by omega) (by omega))) fun ac F=>?_
    refine Y.pv F (X.binop rfl (F.ev 21 (Vi ((h : Int) - l))) (X.kc (Vi 1) rfl) (X.gtrI Try.underlying3 rfl)) fun ac F=>?_
    exact Y.fin F) ?_;clear F ac;intro ac F
   cases h12 : decide ((1 : Int) < ((h : Int) - l)) with
   | false =>
    try rw [h12] at F
    have h12p : ¬ ((1 : Int) < ((h : Int) - l)) := of_decide_eq_false h12
    refine Y.condF (F.ev 22 (.bool false)) ?_
    refine Y.exit ?_
    refine X.thenX (X.thenX (X.blockX (X.thenN ?_)))
    refine Y.sg F [(4, Vi l), (5, Vi 0)] (Y.pv F (X.move rfl (F.ev 7 (Vi l))) fun ac F=>Y.pv F (X.assign rfl (F.ev 33 (Vi l))) fun ac F=>Y.pv F (X.assign rfl (X.kc (Vi 0) rfl)) fun ac F=>Y.fin F) ?_;clear F ac;intro ac F
    refine Y.ret ?_
    have hb := save_2 hwh h10
    exact Y.ret0 (v := .tuple #[Vi l, Vi 0]) F (Y.rs2 F rfl (by kernel_rfl) (by kernel_rfl)) ⟨by rw [hb.1, hb.2, ← hbs, bs_end (by omega)], G⟩
   | true =>
    try rw [h12] at F
    have h12p : ((1 : Int) < ((h : Int) - l)) := of_decide_eq_true h12
    refine Y.condT (F.ev 22 (.bool true)) ?_
    refine Y.skip ?_
    refine X.thenN ?_
    refine Y.block ?_
    refine Y.sg F [(1, .slice a xs.length c), (2, Vp w.heap.size), (7, Vi l), (8, Vi h), (9, Vi (((l : Int) + h : Int) / 2))] (by
     refine Y.pv F (X.move rfl (F.ev 7 (Vi l))) fun ac F=>?_
     refine Y.pv F (X.move rfl (F.ev 8 (Vi h))) fun ac F=>?_
     refine Y.pv F (X.binop rfl (F.ev 23 (Vi l)) (F.ev 24 (Vi h)) (X.addI Try.underlying3 rfl (by omega) (by omega))) fun ac F=>?_
     refine Y.pv F (X.binop rfl (F.ev 25 (Vi ((l : Int) + h))) (X.kc (Vi 2) rfl) (X.quoI Try.underlying3 rfl (by omega) (by omega))) fun ac F=>?_
     refine Y.pv F (X.assign rfl (F.ev 26 (Vi (((l : Int) + h : Int) / 2)))) fun ac F=>?_
     exact Y.fin F) ?_;clear F ac;intro ac F
    refine Y.sl ?_
    refine Y.pv F (X.load rfl (F.ev 2 (Vp w.heap.size)) (X.ldN (Try.agg27 _) (Try.siz27 _) (Y.atz (⟨w.heap.size, 0, none⟩) (Y.AtFrom.cons (hC.at 0 rfl) (Y.AtFrom.cons (hC.at 1 rfl) (Y.AtFrom.cons (hC.at 2 rfl) (Y.AtFrom.cons (hC.at 3 rfl) (Y.AtFrom.nil _ _ _)))))))) ?_;clear F ac;intro ac F
    refine Y.pv F (X.move rfl (F.ev 1 (.slice a xs.length c))) ?_;clear F ac;intro ac F
    refine Y.pv F (X.move rfl (F.ev 9 (Vi (((l : Int) + h : Int) / 2)))) ?_;clear F ac;intro ac F
    refine Y.pc F 75 (X.a3 (F.ev 27 (.agg #[.slice ta p.nt tc, .slice ha p.nh hc, .slice ba p.nb bc, .slice la p.nl lc])) (F.ev 28 (.slice a xs.length c)) (F.ev 29 (Vi (((l : Int) + h : Int) / 2)))) Try.func75 (hop2_any p ta ha ba la tc hc bc lc a c xs (((l : Int) + h : Int) / 2) w11 (hP.gr G) (hX.gr G) hp hx hlen (by omega)) ?_
    clear F ac
    rintro e w13 ⟨rfl, g⟩
    refine ⟨_, rfl, ?_⟩
    intro ac F
    replace G := G.trans g
    replace hC := hC.gr g
    replace hO1 := hO1.thenGr g
    replace hpt := hpt.gr g
    replace hph := hph.gr g
    replace hpb := hpb.gr g
    replace hpl := hpl.gr g
    replace hxs := hxs.gr g
    clear g
    refine Y.nt F [(1, .slice a xs.length c), (2, Vp w.heap.size), (7, Vi l), (8, Vi h), (9, Vi (((l : Int) + h : Int) / 2)), (30, .bool (hopeB p (hund p (((l : Int) + h : Int) / 2)) xs))] ?_;clear F ac;intro ac F
    cases h14 : hopeB p (hund p (((l : Int) + h : Int) / 2)) xs with
    | false =>
     try rw [h14] at F
     refine Y.condF (F.ev 30 (.bool false)) ?_
     refine Y.lit (by kernel_rfl) ?_
     refine Y.pv F (X.move rfl (F.ev 9 (Vi (((l : Int) + h : Int) / 2)))) ?_;clear F ac;intro ac F
     refine Y.pv F (X.assign rfl (F.ev 32 (Vi (((l : Int) + h : Int) / 2)))) ?_;clear F ac;intro ac F
     refine Y.nil ?_
     replace F : Fr ac 34 [(1, .slice a xs.length c), (2, Vp w.heap.size), (7, Vi (((l : Int) + h : Int) / 2)), (8, Vi h)] := F.sub _
     refine X.blockN (X.thenN ?_)
     refine ⟨_, ?_, k - 1, (l + h) / 2, h, rfl, hO1, by omega, by omega, by omega, by omega, by omega, by obtain ⟨k2, rfl⟩ : ∃ k2, k = k2 + 1 := ⟨k - 1, by omega⟩; rw [← hbs, bs_yes (by omega) (by unfold fitF; rw [h14]; rfl)]; rfl, F.sub _⟩
     omega
    | true =>
     try rw [h14] at F
     refine Y.condT (F.ev 30 (.bool true)) ?_
     refine Y.lit (by kernel_rfl) ?_
     refine Y.pv F (X.move rfl (F.ev 9 (Vi (((l : Int) + h : Int) / 2)))) ?_;clear F ac;intro ac F
     refine Y.pv F (X.assign rfl (F.ev 31 (Vi (((l : Int) + h : Int) / 2)))) ?_;clear F ac;intro ac F
     refine Y.nil ?_
     replace F : Fr ac 34 [(1, .slice a xs.length c), (2, Vp w.heap.size), (7, Vi l), (8, Vi (((l : Int) + h : Int) / 2))] := F.sub _
     refine X.blockN (X.thenN ?_)
     refine ⟨_, ?_, k - 1, l, (l + h) / 2, rfl, hO1, by omega, by omega, by omega, by omega, by omega, by obtain ⟨k2, rfl⟩ : ∃ k2, k = k2 + 1 := ⟨k - 1, by omega⟩; rw [← hbs, bs_no (by omega) (by unfold fitF; rw [h14]; rfl)]; rfl, F.sub _⟩
     omega
  | true =>
   try rw [h10] at F
   refine Y.condT (F.ev 18 (.bool true)) ?_
   refine Y.sg F [(4, Vi 0), (5, Vi 33)] (Y.pv F (X.assign rfl (X.kc (Vi 0) rfl)) fun ac F=>Y.pv F (X.assign rfl (X.kc (Vi 33) rfl)) fun ac F=>Y.fin F) ?_;clear F ac;intro ac F
   refine Y.ret ?_
   refine X.thenR ?_
   have hb := save_1 hwh h10
   exact Y.ret0 (v := .tuple #[Vi 0, Vi 33]) F (Y.rs2 F rfl (by kernel_rfl) (by kernel_rfl)) ⟨by rw [hb.1, hb.2], G⟩
 | true =>
  try rw [h8] at F
  have h8p : ¬ (whoE p xs : Int) = 0 := by simpa using h8
  refine Y.condT (F.ev 14 (.bool true)) ?_
  refine Y.sg F [(4, Vi 0), (5, Vi (whoE p xs))] (Y.pv F (X.move rfl (F.ev 6 (Vi (whoE p xs)))) fun ac F=>Y.pv F (X.assign rfl (X.kc (Vi 0) rfl)) fun ac F=>Y.pv F (X.assign rfl (F.ev 15 (Vi (whoE p xs)))) fun ac F=>Y.fin F) ?_;clear F ac;intro ac F
  refine Y.ret ?_
  refine X.thenR ?_
  have hb := save_0 (p := p) (xs := xs) (by omega)
  exact Y.ret0 (v := .tuple #[Vi 0, Vi (whoE p xs)]) F (Y.rs2 F rfl (by kernel_rfl) (by kernel_rfl)) ⟨by rw [hb.1, hb.2], G⟩
end
section
open Go.RowKit

theorem OwnR.intsS {W : World} {B c : Nat} {a : Option Addr} {xs : List Int} (h : OwnR W B 3 1 (.slice a xs.length c) xs.length (xs.map (Value.int .i64))) (hl : xs.length < 1152921504606846976) : Ints W a xs.length xs := by
  obtain ⟨a', c', e, h'⟩ := h.ints hl
  injection e with e
  subst e; exact h'
end
section
open Go.RowKit

set_option maxRecDepth 100000 in
set_option maxHeartbeats 1000000 in
theorem saves_any (p : Pb) (ta ha ba la : Option Addr) (tc hc bc lc : Nat) (a : Option Addr) (c : Nat) (xs : List Int) (w : World) (hP : PbAt w p ta ha ba la tc hc bc lc) (hX : Ints w a xs.length xs) :
  Calls Try.prog 11 #[.agg #[.slice ta p.nt tc, .slice ha p.nh hc, .slice ba p.nb bc, .slice la p.nl lc], .slice a xs.length c] w fun e w' => e = .returned (.bool true) ∧ Gr w w' := by
 have G := Gr.refl w
 have hPP := hP
 have hXX := hX
 have hlx := hX.lt
 refine Y.calls 42 Try.func11 rfl rfl ?_
 intro ac F0
 have F : Fr ac 42 [(0, .agg #[.slice ta p.nt tc, .slice ha p.nh hc, .slice ba p.nb bc, .slice la p.nl lc]), (1, .slice a xs.length c)] := F0.sub _
 clear F0
 refine Y.sl ?_
 have hgs3 : w.heap.size ≤ w.heap.size := G.size
 refine Y.pv F (X.box rfl (F.ev 0 (.agg #[.slice ta p.nt tc, .slice ha p.nh hc, .slice ba p.nb bc, .slice la p.nl lc])) X.bx) ?_;clear F ac;intro ac F
 have hgs5 : w.heap.size ≤ w.heap.size := G.size
 have g := Gr.alloc w (.cells #[.slice ta p.nt tc, .slice ha p.nh hc, .slice ba p.nb bc, .slice la p.nl lc] 27)
 have hb := heap_alloc_new w (.cells #[.slice ta p.nt tc, .slice ha p.nh hc, .slice ba p.nb bc, .slice la p.nl lc] 27)
 have hbl : w.heap.size < (w.alloc (.cells #[.slice ta p.nt tc, .slice ha p.nh hc, .slice ba p.nb bc, .slice la p.nl lc] 27)).heap.size := by simp
 have hC2 : RCells (w.alloc (.cells #[.slice ta p.nt tc, .slice ha p.nh hc, .slice ba p.nb bc, .slice la p.nl lc] 27)) [(Ad w.heap.size 0, .slice ta p.nt tc), (Ad w.heap.size 1, .slice ha p.nh hc), (Ad w.heap.size 2, .slice ba p.nb bc), (Ad w.heap.size 3, .slice la p.nl lc)] := (RCells.nil w).box (b := w.heap.size) #[.slice ta p.nt tc, .slice ha p.nh hc, .slice ba p.nb bc, .slice la p.nl lc] 27 rfl
 generalize w.alloc (.cells #[.slice ta p.nt tc, .slice ha p.nh hc, .slice ba p.nb bc, .slice la p.nl lc] 27) = w6 at *
 replace G := G.trans g
 have hC := hC2
 clear hC2
 replace hPP := hPP.gr g
 replace hXX := hXX.gr g
 have hsz4 := hbl
 clear g hb hbl
 refine Y.pv F (X.assign rfl (X.kc (.bool false) rfl)) ?_;clear F ac;intro ac F
 refine Y.nt F [(1, .slice a xs.length c), (2, Vp w.heap.size)] ?_;clear F ac;intro ac F
 refine Y.seq ?_
 refine Y.sl ?_
 refine Y.pv F (X.load rfl (F.ev 2 (Vp w.heap.size)) (X.ldN (Try.agg27 _) (Try.siz27 _) (Y.atz (⟨w.heap.size, 0, none⟩) (Y.AtFrom.cons (hC.at 0 rfl) (Y.AtFrom.cons (hC.at 1 rfl) (Y.AtFrom.cons (hC.at 2 rfl) (Y.AtFrom.cons (hC.at 3 rfl) (Y.AtFrom.nil _ _ _)))))))) ?_;clear F ac;intro ac F
 refine Y.pc F 15 (X.a1 (F.ev 9 (.agg #[.slice ta p.nt tc, .slice ha p.nh hc, .slice ba p.nb bc, .slice la p.nl lc]))) Try.func15 (far_any p ta ha ba la tc hc bc lc w6 hPP) ?_
 clear F ac
 rintro e w7 ⟨rfl, g⟩
 refine ⟨_, rfl, ?_⟩
 intro ac F
 replace G := G.trans g
 replace hC := hC.gr g
 replace hPP := hPP.gr g
 replace hXX := hXX.gr g
 clear g
 refine Y.pv F (X.move rfl (F.ev 10 (.bool (farB p)))) ?_;clear F ac;intro ac F
 cases h8 : farB p with
 | false =>
  try rw [h8] at F
  have hz : SmlP p := far_sz h8
  refine Y.pg F 2 11 false (X.move rfl (F.ev 1 (.slice a xs.length c))) ?_;clear F ac;intro ac F
  refine Y.pg F 2 11 false (X.len1 Try.underlying34 rfl (F.ev 12 (.slice a xs.length c))) ?_;clear F ac;intro ac F
  refine Y.pg F 2 11 false (X.binop rfl (F.ev 13 (Vi xs.length)) (X.kc (Vi 30) rfl) (X.gtrI Try.underlying3 rfl)) ?_;clear F ac;intro ac F
  refine Y.pv F (X.pickF rfl (F.ev 11 (.bool false)) (F.ev 14 (.bool (decide ((30 : Int) < xs.length))))) ?_;clear F ac;intro ac F
  refine Y.nt F [(1, .slice a xs.length c), (2, Vp w.heap.size), (15, .bool (decide ((30 : Int) < xs.length)))] ?_;clear F ac;intro ac F
  cases h9 : decide ((30 : Int) < xs.length) with
  | false =>
   try rw [h9] at F
   have h9p : ¬ ((30 : Int) < xs.length) := of_decide_eq_false h9
   refine Y.condF (F.ev 15 (.bool false)) ?_
   refine Y.skip ?_
   refine X.thenN ?_
   refine Y.sl ?_
   refine Y.pv F (X.load rfl (F.ev 2 (Vp w.heap.size)) (X.ldN (Try.agg27 _) (Try.siz27 _) (Y.atz (⟨w.heap.size, 0, none⟩) (Y.AtFrom.cons (hC.at 0 rfl) (Y.AtFrom.cons (hC.at 1 rfl) (Y.AtFrom.cons (hC.at 2 rfl) (Y.AtFrom.cons (hC.at 3 rfl) (Y.AtFrom.nil _ _ _)))))))) ?_;clear F ac;intro ac F
   refine Y.pc F 17 (X.a1 (F.ev 18 (.agg #[.slice ta p.nt tc, .slice ha p.nh hc, .slice ba p.nb bc, .slice la p.nl lc]))) Try.func17 (copy_any p ta ha ba la tc hc bc lc w7 hPP hz) ?_
   clear F ac
   rintro e w11 ⟨ta10, ha10, ba10, la10, tc10, hc10, bc10, lc10, rfl, hO10, g⟩
   have hQ10 := hO10.at hz
   refine ⟨_, rfl, ?_⟩
   intro ac F
   replace G := G.trans g
   replace hC := hC.gr g
   replace hPP := hPP.gr g
   replace hXX := hXX.gr g
   clear g
   refine Y.pv F (X.move rfl (F.ev 1 (.slice a xs.length c))) ?_;clear F ac;intro ac F
   refine Y.pc F 33 (X.a1 (F.ev 20 (.slice a xs.length c))) Try.func33 (ints_any a c xs w11 hXX (by omega)) ?_
   clear F ac
   rintro e w13 ⟨xa12, xc12, rfl, hO12, g⟩
   have hI12 := hO12.intsS (by omega)
   refine ⟨_, rfl, ?_⟩
   intro ac F
   replace G := G.trans g
   replace hC := hC.gr g
   replace hPP := hPP.gr g
   replace hXX := hXX.gr g
   replace hQ10 := hQ10.gr g
   replace hO10 := hO10.gr g
   clear g
   refine Y.pc F 43 (X.a2 (F.ev 19 (.agg #[.slice ta10 p.nt tc10, .slice ha10 p.nh hc10, .slice ba10 p.nb bc10, .slice la10 p.nl lc10])) (F.ev 21 (.slice xa12 xs.length xc12))) Try.func43 (save_any p ta10 ha10 ba10 la10 tc10 hc10 bc10 lc10 xa12 xc12 xs hz w13 hQ10 hI12) ?_
   clear F ac
   rintro e w14 ⟨rfl, g⟩
   refine ⟨_, rfl, ?_⟩
   intro ac F
   replace G := G.trans g
   replace hC := hC.gr g
   replace hPP := hPP.gr g
   replace hXX := hXX.gr g
   replace hQ10 := hQ10.gr g
   replace hO10 := hO10.gr g
   replace hI12 := hI12.gr g
   clear g
   refine Y.pv F (X.move rfl (F.ev 22 (.tuple #[Vi (saveV p xs), Vi (saveE p xs)]))) ?_;clear F ac;intro ac F
   refine Y.pv F (X.extract rfl (F.ev 17 (.tuple #[Vi (saveV p xs), Vi (saveE p xs)])) rfl) ?_;clear F ac;intro ac F
   refine Y.pv F (X.extract rfl (F.ev 17 (.tuple #[Vi (saveV p xs), Vi (saveE p xs)])) rfl) ?_;clear F ac;intro ac F
   refine Y.pv F (X.assign rfl (F.ev 23 (Vi (saveV p xs)))) ?_;clear F ac;intro ac F
   refine Y.pv F (X.assign rfl (F.ev 24 (Vi (saveE p xs)))) ?_;clear F ac;intro ac F
   refine Y.nt F [(1, .slice a xs.length c), (2, Vp w.heap.size), (5, Vi (saveV p xs)), (6, Vi (saveE p xs))] ?_;clear F ac;intro ac F
   refine Y.sl ?_
   refine Y.pv F (X.load rfl (F.ev 2 (Vp w.heap.size)) (X.ldN (Try.agg27 _) (Try.siz27 _) (Y.atz (⟨w.heap.size, 0, none⟩) (Y.AtFrom.cons (hC.at 0 rfl) (Y.AtFrom.cons (hC.at 1 rfl) (Y.AtFrom.cons (hC.at 2 rfl) (Y.AtFrom.cons (hC.at 3 rfl) (Y.AtFrom.nil _ _ _)))))))) ?_;clear F ac;intro ac F
   refine Y.pv F (X.move rfl (F.ev 1 (.slice a xs.length c))) ?_;clear F ac;intro ac F
   refine Y.pc F 44 (X.a2 (F.ev 26 (.agg #[.slice ta p.nt tc, .slice ha p.nh hc, .slice ba p.nb bc, .slice la p.nl lc])) (F.ev 27 (.slice a xs.length c))) Try.func44 (save2_any p ta ha ba la tc hc bc lc a c xs w14 hPP hXX) ?_
   clear F ac
   rintro e w15 ⟨rfl, g⟩
   refine ⟨_, rfl, ?_⟩
   intro ac F
   replace G := G.trans g
   replace hC := hC.gr g
   replace hPP := hPP.gr g
   replace hXX := hXX.gr g
   replace hQ10 := hQ10.gr g
   replace hO10 := hO10.gr g
   replace hI12 := hI12.gr g
   clear g
   refine Y.pv F (X.move rfl (F.ev 28 (.tuple #[Vi (saveV p xs), Vi (saveE p xs)]))) ?_;clear F ac;intro ac F
   refine Y.pv F (X.extract rfl (F.ev 25 (.tuple #[Vi (saveV p xs), Vi (saveE p xs)])) rfl) ?_;clear F ac;intro ac F
   refine Y.pv F (X.extract rfl (F.ev 25 (.tuple #[Vi (saveV p xs), Vi (saveE p xs)])) rfl) ?_;clear F ac;intro ac F
   refine Y.pv F (X.assign rfl (F.ev 29 (Vi (saveV p xs)))) ?_;clear F ac;intro ac F
   refine Y.pv F (X.assign rfl (F.ev 30 (Vi (saveE p xs)))) ?_;clear F ac;intro ac F
   refine Y.nt F [(5, Vi (saveV p xs)), (6, Vi (saveE p xs)), (7, Vi (saveV p xs)), (8, Vi (saveE p xs))] ?_;clear F ac;intro ac F
   refine Y.sl ?_
   refine Y.pv F (X.move rfl (F.ev 5 (Vi (saveV p xs)))) ?_;clear F ac;intro ac F
   refine Y.pv F (X.move rfl (F.ev 7 (Vi (saveV p xs)))) ?_;clear F ac;intro ac F
   refine Y.pval F (X.w0 rfl) rfl (X.binop rfl (F.ev 31 (Vi (saveV p xs))) (F.ev 32 (Vi (saveV p xs))) (X.eqlI Try.underlying3 (show ((saveV p xs : Int) == (saveV p xs)) = true by simp))) ?_;clear F ac;intro ac F
   refine Y.pv F (X.move rfl (F.ev 33 (.bool true))) ?_;clear F ac;intro ac F
   refine Y.pg F 3 34 true (X.move rfl (F.ev 6 (Vi (saveE p xs)))) ?_;clear F ac;intro ac F
   refine Y.pg F 3 34 true (X.move rfl (F.ev 8 (Vi (saveE p xs)))) ?_;clear F ac;intro ac F
   refine Y.pg F 3 34 true (X.binop rfl (F.ev 35 (Vi (saveE p xs))) (F.ev 36 (Vi (saveE p xs))) (X.eqlI Try.underlying31 (show ((saveE p xs : Int) == (saveE p xs)) = true by simp))) ?_;clear F ac;intro ac F
   refine Y.pv F (X.pickT rfl (F.ev 34 (.bool true)) (F.ev 37 (.bool true))) ?_;clear F ac;intro ac F
   refine Y.pv F (X.move rfl (F.ev 38 (.bool true))) ?_;clear F ac;intro ac F
   refine Y.pcall F (X.w1 rfl (F.yl (j := 8) (d := 39) (b := true) rfl (by kernel_rfl))) rfl (X.enter (F := 16) rfl (X.kc (.func (.func 16) #[] #[]) rfl) rfl (enters_of Try.func16 (by kernel_rfl) rfl _)) (works_any w15) ?_
   clear F ac
   rintro e w16 ⟨rfl, g⟩
   refine ⟨_, rfl, ?_⟩
   intro ac F
   replace G := G.trans g
   replace hC := hC.gr g
   replace hPP := hPP.gr g
   replace hXX := hXX.gr g
   replace hQ10 := hQ10.gr g
   replace hO10 := hO10.gr g
   replace hI12 := hI12.gr g
   clear g
   refine Y.pv F (X.pickT rfl (F.ev 39 (.bool true)) (F.ev 40 (.bool true))) ?_;clear F ac;intro ac F
   refine Y.pv F (X.assign rfl (F.ev 41 (.bool true))) ?_;clear F ac;intro ac F
   refine Y.nt F [(4, .bool true)] ?_;clear F ac;intro ac F
   refine Y.ret ?_
   exact Y.ret0 (v := .bool true) F (Y.r1 F) ⟨rfl, G⟩
  | true =>
   try rw [h9] at F
   have h9p : ((30 : Int) < xs.length) := of_decide_eq_true h9
   refine Y.condT (F.ev 15 (.bool true)) ?_
   refine Y.sl ?_
   refine Y.pcall F (X.w0 rfl) rfl (X.enter (F := 16) rfl (X.kc (.func (.func 16) #[] #[]) rfl) rfl (enters_of Try.func16 (by kernel_rfl) rfl _)) (works_any w7) ?_
   clear F ac
   rintro e w17 ⟨rfl, g⟩
   refine ⟨_, rfl, ?_⟩
   intro ac F
   replace G := G.trans g
   replace hC := hC.gr g
   replace hPP := hPP.gr g
   replace hXX := hXX.gr g
   clear g
   refine Y.pv F (X.assign rfl (F.ev 16 (.bool true))) ?_;clear F ac;intro ac F
   refine Y.nt F [(4, .bool true)] ?_;clear F ac;intro ac F
   refine Y.ret ?_
   refine X.thenR ?_
   exact Y.ret0 (v := .bool true) F (Y.r1 F) ⟨rfl, G⟩
 | true =>
  try rw [h8] at F
  refine Y.ps F 2 11 true ?_;clear F ac;intro ac F
  refine Y.ps F 2 11 true ?_;clear F ac;intro ac F
  refine Y.ps F 2 11 true ?_;clear F ac;intro ac F
  refine Y.pv F (X.pickT rfl (F.ev 11 (.bool true)) (X.kc (.bool true) rfl)) ?_;clear F ac;intro ac F
  refine Y.nt F [(1, .slice a xs.length c), (2, Vp w.heap.size), (15, .bool true)] ?_;clear F ac;intro ac F
  refine Y.condT (F.ev 15 (.bool true)) ?_
  refine Y.sl ?_
  refine Y.pcall F (X.w0 rfl) rfl (X.enter (F := 16) rfl (X.kc (.func (.func 16) #[] #[]) rfl) rfl (enters_of Try.func16 (by kernel_rfl) rfl _)) (works_any w7) ?_
  clear F ac
  rintro e w18 ⟨rfl, g⟩
  refine ⟨_, rfl, ?_⟩
  intro ac F
  replace G := G.trans g
  replace hC := hC.gr g
  replace hPP := hPP.gr g
  replace hXX := hXX.gr g
  clear g
  refine Y.pv F (X.assign rfl (F.ev 16 (.bool true))) ?_;clear F ac;intro ac F
  refine Y.nt F [(4, .bool true)] ?_;clear F ac;intro ac F
  refine Y.ret ?_
  refine X.thenR ?_
  exact Y.ret0 (v := .bool true) F (Y.r1 F) ⟨rfl, G⟩
end
end Go.Proofs.Ytodedneanlekdaa
