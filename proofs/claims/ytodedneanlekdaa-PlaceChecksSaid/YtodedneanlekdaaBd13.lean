/- Several texts of this claim in one file. (1) Contracts: ints, Copy, Same. (2) Contract: the law about Check. -/
import Derived.Test.YtodedneanlekdaaBd12
import Derived.Test.YtodedneanlekdaaBd5
namespace Go.Proofs.Ytodedneanlekdaa
set_option linter.unusedSimpArgs false
set_option linter.unusedVariables false
section
open Go.RowKit

/-- a problem in memory of the call's own -/
structure PbOwn (w : World) (B : Nat) (p : Pb) (ta ha ba la : Option Addr) (tc hc bc lc : Nat) : Prop where
  t : OwnR w B 74 4 (.slice ta p.nt tc) p.nt (tbL (tvV p) p.nt 4)
  h : OwnR w B 53 6 (.slice ha p.nh hc) p.nh (tbL (hvV p) p.nh 6)
  b : OwnR w B 65 3 (.slice ba p.nb bc) p.nb (tbL (bvV p) p.nb 3)
  l : OwnR w B 84 3 (.slice la p.nl lc) p.nl (tbL (lvV p) p.nl 3)
  s1 : ∀ i, i < p.nt → (p.tn i).size ≤ 9223372036854775807
  s2 : ∀ i, i < p.nh → (p.hn i).size ≤ 9223372036854775807
def SmlP (p : Pb) : Prop := p.nt ≤ 20 ∧ p.nh ≤ 20 ∧ p.nb ≤ 40 ∧ p.nl ≤ 40
theorem PbOwn.at {w : World} {B : Nat} {p : Pb} {ta ha ba la : Option Addr} {tc hc bc lc : Nat} (h : PbOwn w B p ta ha ba la tc hc bc lc) (hz : SmlP p) : PbAt w p ta ha ba la tc hc bc lc := by
  obtain ⟨h1, h2, h3, h4⟩ := hz
  exact ⟨h.t.tb (by omega), h.h.tb (by omega), h.b.tb (by omega), h.l.tb (by omega), h.s1, h.s2⟩
theorem PbOwn.gr {w w' : World} {B : Nat} {p : Pb} {ta ha ba la : Option Addr} {tc hc bc lc : Nat} (h : PbOwn w B p ta ha ba la tc hc bc lc) (g : Gr w w') : PbOwn w' B p ta ha ba la tc hc bc lc := ⟨h.t.gr g, h.h.gr g, h.b.gr g, h.l.gr g, h.s1, h.s2⟩
theorem OwnR.after {w w' : World} {b B e k n c : Nat} {a : Option Addr} {xs : List Value} (h : OwnR w B e k (.slice a n c) n xs) (g : Only (fun x => x = b) w w') (hb : b < B) : OwnR w' B e k (.slice a n c) n xs :=
  h.only g (fun x hx e => by have h1 := (h.ge hx).1; have h2 : x = b := e; omega)
theorem Try.hm74 : Try.prog.eqGuardType Try.prog.depth 74 = false := by kernel_rfl
theorem Try.hm53 : Try.prog.eqGuardType Try.prog.depth 53 = false := by kernel_rfl
theorem Try.hm65 : Try.prog.eqGuardType Try.prog.depth 65 = false := by kernel_rfl
theorem Try.hm84 : Try.prog.eqGuardType Try.prog.depth 84 = false := by kernel_rfl
theorem fieldsOf_eq {o : Option TypeDesc} {f g : Array Field} (h : o = some (.struct f)) (k : o = some (.struct g)) : f = g := by rw [k] at h; injection h with h; injection h with h; exact h.symm
theorem Try.st74 : Try.prog.stoodInHeld 74 = false := by kernel_rfl
theorem Try.fo74 : Try.prog.underlying 74 = some (.struct (Try.prog.fieldsOf 74)) := by kernel_rfl
theorem Try.neq74 (o1 o2 : Operand) (x0 : ByteArray) (x1 : Int) (x2 : Int) (x3 : Int) (W : World) : (do eqGuard .neq 74 o1 o2 (.agg #[.string x0, .int .i64 x1, .int .i64 x2, .int .i64 x3]) (.agg #[.string x0, .int .i64 x1, .int .i64 x2, .int .i64 x3]); binOp .neq 74 (.agg #[.string x0, .int .i64 x1, .int .i64 x2, .int .i64 x3]) (.agg #[.string x0, .int .i64 x1, .int .i64 x2, .int .i64 x3]) : Sem Value).run Try.prog W = .ok (.bool false) W := by
  have h1 := run_eqGuard_agg (P := Try.prog) W .neq 74 o1 o2 #[.string x0, Vi x1, Vi x2, Vi x3] #[.string x0, Vi x1, Vi x2, Vi x3] Try.hm74
  have h2 := run_neq_struct (P := Try.prog) W 74 #[.string x0, Vi x1, Vi x2, Vi x3] #[.string x0, Vi x1, Vi x2, Vi x3]
  have h3 := run_equalIn_agg (P := Try.prog) W 9999 74 #[.string x0, Vi x1, Vi x2, Vi x3] #[.string x0, Vi x1, Vi x2, Vi x3] Try.fo74 Try.st74
  have h4 := fieldsOf_eq Try.fo74 Try.underlying74
  have s3 : Try.prog.cellsOf 3 = 1 := by kernel_rfl
  have s9 : Try.prog.cellsOf 9 = 1 := by kernel_rfl
  rw [Sem.run_bind, h1, Result.andThen_ok, h2, h3, h4]
  simp [Op.eqFields, part, go_sem]
theorem Try.st53 : Try.prog.stoodInHeld 53 = false := by kernel_rfl
theorem Try.fo53 : Try.prog.underlying 53 = some (.struct (Try.prog.fieldsOf 53)) := by kernel_rfl
theorem Try.neq53 (o1 o2 : Operand) (x0 : ByteArray) (x1 : Int) (x2 : Int) (x3 : Int) (x4 : Int) (x5 : Int) (W : World) : (do eqGuard .neq 53 o1 o2 (.agg #[.string x0, .int .i64 x1, .int .i64 x2, .int .i64 x3, .int .i64 x4, .int .i64 x5]) (.agg #[.string x0, .int .i64 x1, .int .i64 x2, .int .i64 x3, .int .i64 x4, .int .i64 x5]); binOp .neq 53 (.agg #[.string x0, .int .i64 x1, .int .i64 x2, .int .i64 x3, .int .i64 x4, .int .i64 x5]) (.agg #[.string x0, .int .i64 x1, .int .i64 x2, .int .i64 x3, .int .i64 x4, .int .i64 x5]) : Sem Value).run Try.prog W = .ok (.bool false) W := by
  have h1 := run_eqGuard_agg (P := Try.prog) W .neq 53 o1 o2 #[.string x0, Vi x1, Vi x2, Vi x3, Vi x4, Vi x5] #[.string x0, Vi x1, Vi x2, Vi x3, Vi x4, Vi x5] Try.hm53
  have h2 := run_neq_struct (P := Try.prog) W 53 #[.string x0, Vi x1, Vi x2, Vi x3, Vi x4, Vi x5] #[.string x0, Vi x1, Vi x2, Vi x3, Vi x4, Vi x5]
  have h3 := run_equalIn_agg (P := Try.prog) W 9999 53 #[.string x0, Vi x1, Vi x2, Vi x3, Vi x4, Vi x5] #[.string x0, Vi x1, Vi x2, Vi x3, Vi x4, Vi x5] Try.fo53 Try.st53
  have h4 := fieldsOf_eq Try.fo53 Try.underlying53
  have s3 : Try.prog.cellsOf 3 = 1 := by kernel_rfl
  have s9 : Try.prog.cellsOf 9 = 1 := by kernel_rfl
  rw [Sem.run_bind, h1, Result.andThen_ok, h2, h3, h4]
  simp [Op.eqFields, part, go_sem]
theorem Try.st65 : Try.prog.stoodInHeld 65 = false := by kernel_rfl
theorem Try.fo65 : Try.prog.underlying 65 = some (.struct (Try.prog.fieldsOf 65)) := by kernel_rfl
theorem Try.neq65 (o1 o2 : Operand) (x0 : Int) (x1 : Int) (x2 : Int) (W : World) : (do eqGuard .neq 65 o1 o2 (.agg #[.int .i64 x0, .int .i64 x1, .int .i64 x2]) (.agg #[.int .i64 x0, .int .i64 x1, .int .i64 x2]); binOp .neq 65 (.agg #[.int .i64 x0, .int .i64 x1, .int .i64 x2]) (.agg #[.int .i64 x0, .int .i64 x1, .int .i64 x2]) : Sem Value).run Try.prog W = .ok (.bool false) W := by
  have h1 := run_eqGuard_agg (P := Try.prog) W .neq 65 o1 o2 #[Vi x0, Vi x1, Vi x2] #[Vi x0, Vi x1, Vi x2] Try.hm65
  have h2 := run_neq_struct (P := Try.prog) W 65 #[Vi x0, Vi x1, Vi x2] #[Vi x0, Vi x1, Vi x2]
  have h3 := run_equalIn_agg (P := Try.prog) W 9999 65 #[Vi x0, Vi x1, Vi x2] #[Vi x0, Vi x1, Vi x2] Try.fo65 Try.st65
  have h4 := fieldsOf_eq Try.fo65 Try.underlying65
  have s3 : Try.prog.cellsOf 3 = 1 := by kernel_rfl
  have s9 : Try.prog.cellsOf 9 = 1 := by kernel_rfl
  rw [Sem.run_bind, h1, Result.andThen_ok, h2, h3, h4]
  simp [Op.eqFields, part, go_sem]
theorem Try.st84 : Try.prog.stoodInHeld 84 = false := by kernel_rfl
theorem Try.fo84 : Try.prog.underlying 84 = some (.struct (Try.prog.fieldsOf 84)) := by kernel_rfl
theorem Try.neq84 (o1 o2 : Operand) (x0 : Int) (x1 : Int) (x2 : Int) (W : World) : (do eqGuard .neq 84 o1 o2 (.agg #[.int .i64 x0, .int .i64 x1, .int .i64 x2]) (.agg #[.int .i64 x0, .int .i64 x1, .int .i64 x2]); binOp .neq 84 (.agg #[.int .i64 x0, .int .i64 x1, .int .i64 x2]) (.agg #[.int .i64 x0, .int .i64 x1, .int .i64 x2]) : Sem Value).run Try.prog W = .ok (.bool false) W := by
  have h1 := run_eqGuard_agg (P := Try.prog) W .neq 84 o1 o2 #[Vi x0, Vi x1, Vi x2] #[Vi x0, Vi x1, Vi x2] Try.hm84
  have h2 := run_neq_struct (P := Try.prog) W 84 #[Vi x0, Vi x1, Vi x2] #[Vi x0, Vi x1, Vi x2]
  have h3 := run_equalIn_agg (P := Try.prog) W 9999 84 #[Vi x0, Vi x1, Vi x2] #[Vi x0, Vi x1, Vi x2] Try.fo84 Try.st84
  have h4 := fieldsOf_eq Try.fo84 Try.underlying84
  have s3 : Try.prog.cellsOf 3 = 1 := by kernel_rfl
  have s9 : Try.prog.cellsOf 9 = 1 := by kernel_rfl
  rw [Sem.run_bind, h1, Result.andThen_ok, h2, h3, h4]
  simp [Op.eqFields, part, go_sem]
set_option maxRecDepth 100000 in
set_option maxHeartbeats 2000000 in
theorem copy_any (p : Pb) (ta ha ba la : Option Addr) (tc hc bc lc : Nat) (w : World) (hP : PbAt w p ta ha ba la tc hc bc lc) (hz : SmlP p) :
  Calls Try.prog 17 #[.agg #[.slice ta p.nt tc, .slice ha p.nh hc, .slice ba p.nb bc, .slice la p.nl lc]] w fun e w' => ∃ ta ha ba la tc hc bc lc, e = .returned (.agg #[.slice ta p.nt tc, .slice ha p.nh hc, .slice ba p.nb bc, .slice la p.nl lc]) ∧ PbOwn w' w.heap.size p ta ha ba la tc hc bc lc ∧ Gr w w' := by
 have G := Gr.refl w
 have hpt := hP.t
 have hph := hP.h
 have hpb := hP.b
 have hpl := hP.l
 have hplen := hP.len
 obtain ⟨hn1, hn2, hn3, hn4⟩ := hplen
 have hcp1 := hpt.cap
 have hcp2 := hph.cap
 have hcp3 := hpb.cap
 have hcp4 := hpl.cap
 obtain ⟨hz1, hz2, hz3, hz4⟩ := hz
 refine Y.calls 20 Try.func17 rfl rfl ?_
 intro ac F0
 have F : Fr ac 20 [(0, .agg #[.slice ta p.nt tc, .slice ha p.nh hc, .slice ba p.nb bc, .slice la p.nl lc])] := F0.sub _
 clear F0
 refine Y.seq ?_
 refine Y.lit (by kernel_rfl) ?_
 have hgs3 : w.heap.size ≤ w.heap.size := G.size
 refine Y.pv F (X.box rfl (F.ev 0 (.agg #[.slice ta p.nt tc, .slice ha p.nh hc, .slice ba p.nb bc, .slice la p.nl lc])) X.bx) ?_;clear F ac;intro ac F
 have hgs5 : w.heap.size ≤ w.heap.size := G.size
 have g := Gr.alloc w (.cells #[.slice ta p.nt tc, .slice ha p.nh hc, .slice ba p.nb bc, .slice la p.nl lc] 27)
 have hb := heap_alloc_new w (.cells #[.slice ta p.nt tc, .slice ha p.nh hc, .slice ba p.nb bc, .slice la p.nl lc] 27)
 have hbl : w.heap.size < (w.alloc (.cells #[.slice ta p.nt tc, .slice ha p.nh hc, .slice ba p.nb bc, .slice la p.nl lc] 27)).heap.size := by simp
 have hC2 : RCells (w.alloc (.cells #[.slice ta p.nt tc, .slice ha p.nh hc, .slice ba p.nb bc, .slice la p.nl lc] 27)) [(Ad w.heap.size 0, .slice ta p.nt tc), (Ad w.heap.size 1, .slice ha p.nh hc), (Ad w.heap.size 2, .slice ba p.nb bc), (Ad w.heap.size 3, .slice la p.nl lc)] := (RCells.nil w).box (b := w.heap.size) #[.slice ta p.nt tc, .slice ha p.nh hc, .slice ba p.nb bc, .slice la p.nl lc] 27 rfl
 generalize w.alloc (.cells #[.slice ta p.nt tc, .slice ha p.nh hc, .slice ba p.nb bc, .slice la p.nl lc] 27) = w6 at *
 replace G := G.trans g
 have hC := hC2
 clear hC2
 replace hpt := hpt.gr g
 replace hph := hph.gr g
 replace hpb := hpb.gr g
 replace hpl := hpl.gr g
 have hsz4 := hbl
 clear g hb hbl
 refine Y.pv F (Y.al rfl (Try.new27 _)) ?_;clear F ac;intro ac F
 have g := Gr.alloc w6 (.cells #[.slice none 0 0, .slice none 0 0, .slice none 0 0, .slice none 0 0] 27)
 have hb := heap_alloc_new w6 (.cells #[.slice none 0 0, .slice none 0 0, .slice none 0 0, .slice none 0 0] 27)
 have hszw7 : w6.heap.size < (w6.alloc (.cells #[.slice none 0 0, .slice none 0 0, .slice none 0 0, .slice none 0 0] 27)).heap.size := by simp
 have hgsw7 : w.heap.size ≤ w6.heap.size := G.size
 generalize w6.alloc (.cells #[.slice none 0 0, .slice none 0 0, .slice none 0 0, .slice none 0 0] 27) = w7 at *
 replace G := G.trans g
 replace hC := hC.gr g
 replace hpt := hpt.gr g
 replace hph := hph.gr g
 replace hpb := hpb.gr g
 replace hpl := hpl.gr g
 have hVw7 : OwnP w7 w6.heap.size 4 (VL [.slice none 0 0, .slice none 0 0, .slice none 0 0, .slice none 0 0]) := ownP_bx (vs := [.slice none 0 0, .slice none 0 0, .slice none 0 0, .slice none 0 0]) hb
 clear g hb
 refine Y.nil ?_
 replace F : Fr ac 20 [(1, Vp w.heap.size), (2, Vp w6.heap.size)] := F.sub _
 refine X.thenN ?_
 refine Y.seq ?_
 have hgL : w.heap.size ≤ w7.heap.size := G.size
 have hbB := hVw7.lt
 have hbw : w.heap.size ≤ w6.heap.size := by first | exact Nat.le_refl _ | omega
 obtain ⟨TT, hTT⟩ : ∃ T : (Nat → Value) → World → Prop, T = fun _ W => ∃ t0 c0 t1 c1 t2 c2 t3 c3, OwnP W w6.heap.size 4 (VL [.slice t0 p.nt c0, .slice t1 p.nh c1, .slice t2 p.nb c2, .slice t3 p.nl c3]) ∧ Only (fun x => x = w6.heap.size) w7 W ∧ OwnR W w7.heap.size 74 4 (.slice t0 p.nt c0) p.nt (tbL (tvV p) p.nt 4) ∧ OwnR W w7.heap.size 53 6 (.slice t1 p.nh c1) p.nh (tbL (hvV p) p.nh 6) ∧ OwnR W w7.heap.size 65 3 (.slice t2 p.nb c2) p.nb (tbL (bvV p) p.nb 3) ∧ OwnR W w7.heap.size 84 3 (.slice t3 p.nl c3) p.nl (tbL (lvV p) p.nl 3) := ⟨_, rfl⟩
 refine Y.regionS F [none, some (Vp w.heap.size), some (.slice ta p.nt tc), none, none, some (.pointer (some ⟨w.heap.size, 1, none⟩)), some (.slice ha p.nh hc), none, none, some (.pointer (some ⟨w.heap.size, 2, none⟩)), some (.slice ba p.nb bc), none, none, some (.pointer (some ⟨w.heap.size, 3, none⟩)), some (.slice la p.nl lc), none, none, none] [(0, Y.MP.row0 w7.heap.size 74 4), (3, Y.MP.row w7.heap.size 74 4 p.nt (tbL (tvV p) p.nt 4)), (4, Y.MP.row0 w7.heap.size 53 6), (7, Y.MP.row w7.heap.size 53 6 p.nh (tbL (hvV p) p.nh 6)), (8, Y.MP.row0 w7.heap.size 65 3), (11, Y.MP.row w7.heap.size 65 3 p.nb (tbL (bvV p) p.nb 3)), (12, Y.MP.row0 w7.heap.size 84 3), (15, Y.MP.row w7.heap.size 84 3 p.nl (tbL (lvV p) p.nl 3)), (16, Y.MP.pbv w7.heap.size p)] 17 TT rfl ⟨by kernel_rfl, of_decide_eq_true (by kernel_rfl), by kernel_rfl, by kernel_rfl, by kernel_rfl⟩ (of_decide_eq_true (by kernel_rfl)) ⟨?_, ?_, ?_, ?_, ?_, ?_, ?_, ?_, ?_, ?_, ?_, ?_, ?_, ?_, ?_, ?_, ?_, ?_, trivial⟩ ?_
 ·intro ac done u W Sx hT
  have hs := Sx.no 17 (by kernel_rfl)
  have hR := hT.1 hs
  have g : Gr w7 W := hR.1
  exact X.valN (X.w0 rfl) rfl (X.bs rfl X.bs0 (Try.bs22_0 _)) (Y.RT.of hs rfl (hR.new (q := Y.MP.row0 w7.heap.size 74 4) (Gr.alloc _ _) rfl ⟨_, rfl, ownR_new (heap_alloc_new _ _) g.size⟩))
 ·intro ac done u W Sx hT
  have hs := Sx.no 17 (by kernel_rfl)
  have hR := hT.1 hs
  have g : Gr w7 W := hR.1
  exact X.vl (X.field rfl (Sx.ev 1 (Vp w.heap.size)) (X.fld Try.underlying27 rfl (Try.siz22 _) rfl rfl)) (Y.RT.of hs rfl hR.st0)
 ·intro ac done u W Sx hT
  have hs := Sx.no 17 (by kernel_rfl)
  have hR := hT.1 hs
  have g : Gr w7 W := hR.1
  exact X.vl (X.load rfl (Sx.ev 4 (Vp w.heap.size)) (X.ld1 (Try.agg22 _) ((hC.gr g).at 0 rfl))) (Y.RT.of hs rfl hR.st0)
 ·intro ac done u W Sx hT
  have hs := Sx.no 17 (by kernel_rfl)
  have hR := hT.1 hs
  have g : Gr w7 W := hR.1
  obtain ⟨ra0, e0, hI0⟩ := hR.get (i := 0) (Y.MP.row0 w7.heap.size 74 4) rfl (Sx.an 0 (by kernel_rfl))
  obtain ⟨a9, c9, W2, hrun, hO2, g2⟩ := run_copyN (P := Try.prog) (ts := 22) Try.underlying22 Try.info74 rfl (by decide) hI0 (hpt.gr g).none0 tbL_len ((hpt.gr g).src (by decide)) (tv_one p _) (by omega) (by decide) g.size
  exact X.valN (X.w0 rfl) rfl (Y.apz rfl ((Sx.own 0 3 rfl).trans e0) (Sx.ev 5 (.slice ta p.nt tc)) hrun) (Y.RT.of hs rfl (hR.new (q := Y.MP.row w7.heap.size 74 4 p.nt (tbL (tvV p) p.nt 4)) g2 rfl ⟨_, _, rfl, hO2⟩))
 ·intro ac done u W Sx hT
  have hs := Sx.no 17 (by kernel_rfl)
  have hR := hT.1 hs
  have g : Gr w7 W := hR.1
  exact X.valN (X.w0 rfl) rfl (X.bs rfl X.bs0 (Try.bs23_0 _)) (Y.RT.of hs rfl (hR.new (q := Y.MP.row0 w7.heap.size 53 6) (Gr.alloc _ _) rfl ⟨_, rfl, ownR_new (heap_alloc_new _ _) g.size⟩))
 ·intro ac done u W Sx hT
  have hs := Sx.no 17 (by kernel_rfl)
  have hR := hT.1 hs
  have g : Gr w7 W := hR.1
  exact X.vl (X.field rfl (Sx.ev 1 (Vp w.heap.size)) (X.fld Try.underlying27 rfl (Try.siz23 _) rfl rfl)) (Y.RT.of hs rfl hR.st0)
 ·intro ac done u W Sx hT
  have hs := Sx.no 17 (by kernel_rfl)
  have hR := hT.1 hs
  have g : Gr w7 W := hR.1
  exact X.vl (X.load rfl (Sx.ev 8 (.pointer (some ⟨w.heap.size, 1, none⟩))) (X.ld1 (Try.agg23 _) ((hC.gr g).at 1 rfl))) (Y.RT.of hs rfl hR.st0)
 ·intro ac done u W Sx hT
  have hs := Sx.no 17 (by kernel_rfl)
  have hR := hT.1 hs
  have g : Gr w7 W := hR.1
  obtain ⟨ra4, e4, hI4⟩ := hR.get (i := 4) (Y.MP.row0 w7.heap.size 53 6) rfl (Sx.an 4 (by kernel_rfl))
  obtain ⟨a9, c9, W2, hrun, hO2, g2⟩ := run_copyN (P := Try.prog) (ts := 23) Try.underlying23 Try.info53 rfl (by decide) hI4 (hph.gr g).none0 tbL_len ((hph.gr g).src (by decide)) (hv_one p _) (by omega) (by decide) g.size
  exact X.valN (X.w0 rfl) rfl (Y.apz rfl ((Sx.own 4 7 rfl).trans e4) (Sx.ev 9 (.slice ha p.nh hc)) hrun) (Y.RT.of hs rfl (hR.new (q := Y.MP.row w7.heap.size 53 6 p.nh (tbL (hvV p) p.nh 6)) g2 rfl ⟨_, _, rfl, hO2⟩))
 ·intro ac done u W Sx hT
  have hs := Sx.no 17 (by kernel_rfl)
  have hR := hT.1 hs
  have g : Gr w7 W := hR.1
  exact X.valN (X.w0 rfl) rfl (X.bs rfl X.bs0 (Try.bs24_0 _)) (Y.RT.of hs rfl (hR.new (q := Y.MP.row0 w7.heap.size 65 3) (Gr.alloc _ _) rfl ⟨_, rfl, ownR_new (heap_alloc_new _ _) g.size⟩))
 ·intro ac done u W Sx hT
  have hs := Sx.no 17 (by kernel_rfl)
  have hR := hT.1 hs
  have g : Gr w7 W := hR.1
  exact X.vl (X.field rfl (Sx.ev 1 (Vp w.heap.size)) (X.fld Try.underlying27 rfl (Try.siz24 _) rfl rfl)) (Y.RT.of hs rfl hR.st0)
 ·intro ac done u W Sx hT
  have hs := Sx.no 17 (by kernel_rfl)
  have hR := hT.1 hs
  have g : Gr w7 W := hR.1
  exact X.vl (X.load rfl (Sx.ev 12 (.pointer (some ⟨w.heap.size, 2, none⟩))) (X.ld1 (Try.agg24 _) ((hC.gr g).at 2 rfl))) (Y.RT.of hs rfl hR.st0)
 ·intro ac done u W Sx hT
  have hs := Sx.no 17 (by kernel_rfl)
  have hR := hT.1 hs
  have g : Gr w7 W := hR.1
  obtain ⟨ra8, e8, hI8⟩ := hR.get (i := 8) (Y.MP.row0 w7.heap.size 65 3) rfl (Sx.an 8 (by kernel_rfl))
  obtain ⟨a9, c9, W2, hrun, hO2, g2⟩ := run_copyN (P := Try.prog) (ts := 24) Try.underlying24 Try.info65 rfl (by decide) hI8 (hpb.gr g).none0 tbL_len ((hpb.gr g).src (by decide)) (bv_one p _) (by omega) (by decide) g.size
  exact X.valN (X.w0 rfl) rfl (Y.apz rfl ((Sx.own 8 11 rfl).trans e8) (Sx.ev 13 (.slice ba p.nb bc)) hrun) (Y.RT.of hs rfl (hR.new (q := Y.MP.row w7.heap.size 65 3 p.nb (tbL (bvV p) p.nb 3)) g2 rfl ⟨_, _, rfl, hO2⟩))
 ·intro ac done u W Sx hT
  have hs := Sx.no 17 (by kernel_rfl)
  have hR := hT.1 hs
  have g : Gr w7 W := hR.1
  exact X.valN (X.w0 rfl) rfl (X.bs rfl X.bs0 (Try.bs25_0 _)) (Y.RT.of hs rfl (hR.new (q := Y.MP.row0 w7.heap.size 84 3) (Gr.alloc _ _) rfl ⟨_, rfl, ownR_new (heap_alloc_new _ _) g.size⟩))
 ·intro ac done u W Sx hT
  have hs := Sx.no 17 (by kernel_rfl)
  have hR := hT.1 hs
  have g : Gr w7 W := hR.1
  exact X.vl (X.field rfl (Sx.ev 1 (Vp w.heap.size)) (X.fld Try.underlying27 rfl (Try.siz25 _) rfl rfl)) (Y.RT.of hs rfl hR.st0)
 ·intro ac done u W Sx hT
  have hs := Sx.no 17 (by kernel_rfl)
  have hR := hT.1 hs
  have g : Gr w7 W := hR.1
  exact X.vl (X.load rfl (Sx.ev 16 (.pointer (some ⟨w.heap.size, 3, none⟩))) (X.ld1 (Try.agg25 _) ((hC.gr g).at 3 rfl))) (Y.RT.of hs rfl hR.st0)
 ·intro ac done u W Sx hT
  have hs := Sx.no 17 (by kernel_rfl)
  have hR := hT.1 hs
  have g : Gr w7 W := hR.1
  obtain ⟨ra12, e12, hI12⟩ := hR.get (i := 12) (Y.MP.row0 w7.heap.size 84 3) rfl (Sx.an 12 (by kernel_rfl))
  obtain ⟨a9, c9, W2, hrun, hO2, g2⟩ := run_copyN (P := Try.prog) (ts := 25) Try.underlying25 Try.info84 rfl (by decide) hI12 (hpl.gr g).none0 tbL_len ((hpl.gr g).src (by decide)) (lv_one p _) (by omega) (by decide) g.size
  exact X.valN (X.w0 rfl) rfl (Y.apz rfl ((Sx.own 12 15 rfl).trans e12) (Sx.ev 17 (.slice la p.nl lc)) hrun) (Y.RT.of hs rfl (hR.new (q := Y.MP.row w7.heap.size 84 3 p.nl (tbL (lvV p) p.nl 3)) g2 rfl ⟨_, _, rfl, hO2⟩))
 ·intro ac done u W Sx hT
  have hs := Sx.no 17 (by kernel_rfl)
  have hR := hT.1 hs
  have g : Gr w7 W := hR.1
  obtain ⟨ra3, rc3, e3, hI3⟩ := hR.get (i := 3) (Y.MP.row w7.heap.size 74 4 p.nt (tbL (tvV p) p.nt 4)) rfl (Sx.an 3 (by kernel_rfl))
  obtain ⟨ra7, rc7, e7, hI7⟩ := hR.get (i := 7) (Y.MP.row w7.heap.size 53 6 p.nh (tbL (hvV p) p.nh 6)) rfl (Sx.an 7 (by kernel_rfl))
  obtain ⟨ra11, rc11, e11, hI11⟩ := hR.get (i := 11) (Y.MP.row w7.heap.size 65 3 p.nb (tbL (bvV p) p.nb 3)) rfl (Sx.an 11 (by kernel_rfl))
  obtain ⟨ra15, rc15, e15, hI15⟩ := hR.get (i := 15) (Y.MP.row w7.heap.size 84 3 p.nl (tbL (lvV p) p.nl 3)) rfl (Sx.an 15 (by kernel_rfl))
  exact X.valN (X.w0 rfl) rfl (Y.bd rfl (X.b4 ((Sx.own 3 6 rfl).trans e3) ((Sx.own 7 10 rfl).trans e7) ((Sx.own 11 14 rfl).trans e11) ((Sx.own 15 18 rfl).trans e15)) (Try.bd27f _ _ _ _ _ _ _ _ _ _ _ _ _)) (Y.RT.of hs rfl (hR.new (q := Y.MP.pbv w7.heap.size p) (Gr.refl _) rfl ⟨_, _, _, _, _, _, _, _, rfl, hI3, hI7, hI11, hI15⟩))
 ·intro ac done u W Sx hT
  have hR := hT.1 Sx.nd
  have g : Gr w7 W := hR.1
  obtain ⟨t0, c0, t1, c1, t2, c2, t3, c3, e16, hO0, hO1, hO2, hO3⟩ := hR.get (i := 16) (Y.MP.pbv w7.heap.size p) rfl (Sx.an 16 (by kernel_rfl))
  obtain ⟨W2, hrun, hV2, hon⟩ := ownP_store (P := Try.prog) (vs := [.slice t0 p.nt c0, .slice t1 p.nh c1, .slice t2 p.nb c2, .slice t3 p.nl c3]) (t := 27) (hVw7.gr g) rfl (fun W => Try.siz27 W) rfl
  exact X.unit (X.w0 rfl) rfl (X.store rfl (Sx.ev 2 (Vp w6.heap.size)) ((Sx.own 16 19 rfl).trans e16) hrun) (Y.RT.fin (by subst hTT; exact ⟨t0, c0, t1, c1, t2, c2, t3, c3, hV2, (g.only _).trans hon, hO0.after hon hbB, hO1.after hon hbB, hO2.after hon hbB, hO3.after hon hbB⟩))
 rintro ac u w8 hs hd hl_ ho hT
 rw [hTT] at hT
 obtain ⟨t0, c0, t1, c1, t2, c2, t3, c3, hV2, hon, hO0, hO1, hO2, hO3⟩ := hT
 clear hTT
 replace F : Fr ac 20 [(2, Vp w6.heap.size)] := X.fr hs hd hl_ _ (by kernel_rfl)
 clear hs hd hl_ ho
 replace G := Y.Only.up G hon (by omega)
 refine X.thenN ?_
 refine Y.ret ?_
 exact Y.ret0 (v := .agg #[.slice t0 p.nt c0, .slice t1 p.nh c1, .slice t2 p.nb c2, .slice t3 p.nl c3]) F (Y.rcl F rfl (by kernel_rfl) (ownP_load hV2 (Try.agg27 _) (Try.siz27 _) rfl)) ⟨t0, t1, t2, t3, c0, c1, c2, c3, rfl, ⟨hO0.lower hgL, hO1.lower hgL, hO2.lower hgL, hO3.lower hgL, hP.s1, hP.s2⟩, G⟩
set_option maxRecDepth 100000 in
set_option maxHeartbeats 2000000 in
theorem same2_any (p : Pb) (ta ha ba la : Option Addr) (tc hc bc lc : Nat) (ta2 ha2 ba2 la2 : Option Addr) (tc2 hc2 bc2 lc2 : Nat) (w : World) (hP : PbAt w p ta ha ba la tc hc bc lc) (hQ : PbAt w p ta2 ha2 ba2 la2 tc2 hc2 bc2 lc2) :
  Calls Try.prog 20 #[.agg #[.slice ta p.nt tc, .slice ha p.nh hc, .slice ba p.nb bc, .slice la p.nl lc], .agg #[.slice ta2 p.nt tc2, .slice ha2 p.nh hc2, .slice ba2 p.nb bc2, .slice la2 p.nl lc2]] w fun e w' => e = .returned (.bool true) ∧ Gr w w' := by
 have G := Gr.refl w
 have hpt := hP.t
 have hph := hP.h
 have hpb := hP.b
 have hpl := hP.l
 have hplen := hP.len
 obtain ⟨hn1, hn2, hn3, hn4⟩ := hplen
 have hcp1 := hpt.cap
 have hcp2 := hph.cap
 have hcp3 := hpb.cap
 have hcp4 := hpl.cap
 have hqt := hQ.t
 have hqh := hQ.h
 have hqb := hQ.b
 have hql := hQ.l
 refine Y.calls 115 Try.func20 rfl rfl ?_
 intro ac F0
 have F : Fr ac 115 [(0, .agg #[.slice ta p.nt tc, .slice ha p.nh hc, .slice ba p.nb bc, .slice la p.nl lc]), (1, .agg #[.slice ta2 p.nt tc2, .slice ha2 p.nh hc2, .slice ba2 p.nb bc2, .slice la2 p.nl lc2])] := F0.sub _
 clear F0
 refine Y.seq ?_
 refine Y.lit (by kernel_rfl) ?_
 have hgs3 : w.heap.size ≤ w.heap.size := G.size
 refine Y.pv F (X.box rfl (F.ev 0 (.agg #[.slice ta p.nt tc, .slice ha p.nh hc, .slice ba p.nb bc, .slice la p.nl lc])) X.bx) ?_;clear F ac;intro ac F
 have hgs5 : w.heap.size ≤ w.heap.size := G.size
 have g := Gr.alloc w (.cells #[.slice ta p.nt tc, .slice ha p.nh hc, .slice ba p.nb bc, .slice la p.nl lc] 27)
 have hb := heap_alloc_new w (.cells #[.slice ta p.nt tc, .slice ha p.nh hc, .slice ba p.nb bc, .slice la p.nl lc] 27)
 have hbl : w.heap.size < (w.alloc (.cells #[.slice ta p.nt tc, .slice ha p.nh hc, .slice ba p.nb bc, .slice la p.nl lc] 27)).heap.size := by simp
 have hC2 : RCells (w.alloc (.cells #[.slice ta p.nt tc, .slice ha p.nh hc, .slice ba p.nb bc, .slice la p.nl lc] 27)) [(Ad w.heap.size 0, .slice ta p.nt tc), (Ad w.heap.size 1, .slice ha p.nh hc), (Ad w.heap.size 2, .slice ba p.nb bc), (Ad w.heap.size 3, .slice la p.nl lc)] := (RCells.nil w).box (b := w.heap.size) #[.slice ta p.nt tc, .slice ha p.nh hc, .slice ba p.nb bc, .slice la p.nl lc] 27 rfl
 generalize w.alloc (.cells #[.slice ta p.nt tc, .slice ha p.nh hc, .slice ba p.nb bc, .slice la p.nl lc] 27) = w6 at *
 replace G := G.trans g
 have hC := hC2
 clear hC2
 replace hpt := hpt.gr g
 replace hph := hph.gr g
 replace hpb := hpb.gr g
 replace hpl := hpl.gr g
 replace hqt := hqt.gr g
 replace hqh := hqh.gr g
 replace hqb := hqb.gr g
 replace hql := hql.gr g
 have hsz4 := hbl
 clear g hb hbl
 have hgs7 : w.heap.size ≤ w6.heap.size := G.size
 refine Y.pv F (X.box rfl (F.ev 1 (.agg #[.slice ta2 p.nt tc2, .slice ha2 p.nh hc2, .slice ba2 p.nb bc2, .slice la2 p.nl lc2])) X.bx) ?_;clear F ac;intro ac F
 have hgs9 : w.heap.size ≤ w6.heap.size := G.size
 have g := Gr.alloc w6 (.cells #[.slice ta2 p.nt tc2, .slice ha2 p.nh hc2, .slice ba2 p.nb bc2, .slice la2 p.nl lc2] 27)
 have hb := heap_alloc_new w6 (.cells #[.slice ta2 p.nt tc2, .slice ha2 p.nh hc2, .slice ba2 p.nb bc2, .slice la2 p.nl lc2] 27)
 have hbl : w6.heap.size < (w6.alloc (.cells #[.slice ta2 p.nt tc2, .slice ha2 p.nh hc2, .slice ba2 p.nb bc2, .slice la2 p.nl lc2] 27)).heap.size := by simp
 have hC2 : RCells (w6.alloc (.cells #[.slice ta2 p.nt tc2, .slice ha2 p.nh hc2, .slice ba2 p.nb bc2, .slice la2 p.nl lc2] 27)) [(Ad w.heap.size 0, .slice ta p.nt tc), (Ad w.heap.size 1, .slice ha p.nh hc), (Ad w.heap.size 2, .slice ba p.nb bc), (Ad w.heap.size 3, .slice la p.nl lc), (Ad w6.heap.size 0, .slice ta2 p.nt tc2), (Ad w6.heap.size 1, .slice ha2 p.nh hc2), (Ad w6.heap.size 2, .slice ba2 p.nb bc2), (Ad w6.heap.size 3, .slice la2 p.nl lc2)] := hC.box (b := w6.heap.size) #[.slice ta2 p.nt tc2, .slice ha2 p.nh hc2, .slice ba2 p.nb bc2, .slice la2 p.nl lc2] 27 rfl
 generalize w6.alloc (.cells #[.slice ta2 p.nt tc2, .slice ha2 p.nh hc2, .slice ba2 p.nb bc2, .slice la2 p.nl lc2] 27) = w10 at *
 replace G := G.trans g
 replace hC := hC2
 clear hC2
 replace hpt := hpt.gr g
 replace hph := hph.gr g
 replace hpb := hpb.gr g
 replace hpl := hpl.gr g
 replace hqt := hqt.gr g
 replace hqh := hqh.gr g
 replace hqb := hqb.gr g
 replace hql := hql.gr g
 have hsz8 := hbl
 clear g hb hbl
 refine Y.pv F (X.assign rfl (X.kc (.bool false) rfl)) ?_;clear F ac;intro ac F
 refine Y.nil ?_
 replace F : Fr ac 115 [(2, Vp w.heap.size), (3, Vp w6.heap.size)] := F.sub _
 refine X.thenN ?_
 refine Y.seq ?_
 refine Y.seq ?_
 refine Y.lit (by kernel_rfl) ?_
 refine Y.pv F (X.field rfl (F.ev 2 (Vp w.heap.size)) (X.fld Try.underlying27 rfl (Try.siz22 _) rfl rfl)) ?_;clear F ac;intro ac F
 refine Y.pv F (X.load rfl (F.ev 9 (Vp w.heap.size)) (X.ld1 (Try.agg22 _) (hC.at 0 rfl))) ?_;clear F ac;intro ac F
 refine Y.pv F (X.len1 Try.underlying22 rfl (F.ev 10 (.slice ta p.nt tc))) ?_;clear F ac;intro ac F
 refine Y.pv F (X.field rfl (F.ev 3 (Vp w6.heap.size)) (X.fld Try.underlying27 rfl (Try.siz22 _) rfl rfl)) ?_;clear F ac;intro ac F
 refine Y.pv F (X.load rfl (F.ev 12 (Vp w6.heap.size)) (X.ld1 (Try.agg22 _) (hC.at 4 rfl))) ?_;clear F ac;intro ac F
 refine Y.pv F (X.len1 Try.underlying22 rfl (F.ev 13 (.slice ta2 p.nt tc2))) ?_;clear F ac;intro ac F
 refine Y.pval F (X.w0 rfl) rfl (X.binop rfl (F.ev 11 (Vi p.nt)) (F.ev 14 (Vi p.nt)) (X.neqI Try.underlying3 (show ((p.nt : Int) != p.nt) = false by simp))) ?_;clear F ac;intro ac F
 refine Y.pv F (X.move rfl (F.ev 15 (.bool false))) ?_;clear F ac;intro ac F
 refine Y.pval F (X.w1 rfl (F.yl (j := 7) (d := 16) (b := false) rfl (by kernel_rfl))) rfl (X.field rfl (F.ev 2 (Vp w.heap.size)) (X.fld Try.underlying27 rfl (Try.siz23 _) rfl rfl)) ?_;clear F ac;intro ac F
 refine Y.pval F (X.w1 rfl (F.yl (j := 7) (d := 16) (b := false) rfl (by kernel_rfl))) rfl (X.load rfl (F.ev 17 (.pointer (some ⟨w.heap.size, 1, none⟩))) (X.ld1 (Try.agg23 _) (hC.at 1 rfl))) ?_;clear F ac;intro ac F
 refine Y.pval F (X.w1 rfl (F.yl (j := 7) (d := 16) (b := false) rfl (by kernel_rfl))) rfl (X.len1 Try.underlying23 rfl (F.ev 18 (.slice ha p.nh hc))) ?_;clear F ac;intro ac F
 refine Y.pval F (X.w1 rfl (F.yl (j := 7) (d := 16) (b := false) rfl (by kernel_rfl))) rfl (X.field rfl (F.ev 3 (Vp w6.heap.size)) (X.fld Try.underlying27 rfl (Try.siz23 _) rfl rfl)) ?_;clear F ac;intro ac F
 refine Y.pval F (X.w1 rfl (F.yl (j := 7) (d := 16) (b := false) rfl (by kernel_rfl))) rfl (X.load rfl (F.ev 20 (.pointer (some ⟨w6.heap.size, 1, none⟩))) (X.ld1 (Try.agg23 _) (hC.at 5 rfl))) ?_;clear F ac;intro ac F
 refine Y.pval F (X.w1 rfl (F.yl (j := 7) (d := 16) (b := false) rfl (by kernel_rfl))) rfl (X.len1 Try.underlying23 rfl (F.ev 21 (.slice ha2 p.nh hc2))) ?_;clear F ac;intro ac F
 refine Y.pval F (X.w1 rfl (F.yl (j := 7) (d := 16) (b := false) rfl (by kernel_rfl))) rfl (X.binop rfl (F.ev 19 (Vi p.nh)) (F.ev 22 (Vi p.nh)) (X.neqI Try.underlying3 (show ((p.nh : Int) != p.nh) = false by simp))) ?_;clear F ac;intro ac F
 refine Y.pv F (X.pickF rfl (F.ev 16 (.bool false)) (F.ev 23 (.bool false))) ?_;clear F ac;intro ac F
 refine Y.pv F (X.move rfl (F.ev 24 (.bool false))) ?_;clear F ac;intro ac F
 refine Y.pval F (X.w1 rfl (F.yl (j := 16) (d := 25) (b := false) rfl (by kernel_rfl))) rfl (X.field rfl (F.ev 2 (Vp w.heap.size)) (X.fld Try.underlying27 rfl (Try.siz24 _) rfl rfl)) ?_;clear F ac;intro ac F
 refine Y.pval F (X.w1 rfl (F.yl (j := 16) (d := 25) (b := false) rfl (by kernel_rfl))) rfl (X.load rfl (F.ev 26 (.pointer (some ⟨w.heap.size, 2, none⟩))) (X.ld1 (Try.agg24 _) (hC.at 2 rfl))) ?_;clear F ac;intro ac F
 refine Y.pval F (X.w1 rfl (F.yl (j := 16) (d := 25) (b := false) rfl (by kernel_rfl))) rfl (X.len1 Try.underlying24 rfl (F.ev 27 (.slice ba p.nb bc))) ?_;clear F ac;intro ac F
 refine Y.pval F (X.w1 rfl (F.yl (j := 16) (d := 25) (b := false) rfl (by kernel_rfl))) rfl (X.field rfl (F.ev 3 (Vp w6.heap.size)) (X.fld Try.underlying27 rfl (Try.siz24 _) rfl rfl)) ?_;clear F ac;intro ac F
 refine Y.pval F (X.w1 rfl (F.yl (j := 16) (d := 25) (b := false) rfl (by kernel_rfl))) rfl (X.load rfl (F.ev 29 (.pointer (some ⟨w6.heap.size, 2, none⟩))) (X.ld1 (Try.agg24 _) (hC.at 6 rfl))) ?_;clear F ac;intro ac F
 refine Y.pval F (X.w1 rfl (F.yl (j := 16) (d := 25) (b := false) rfl (by kernel_rfl))) rfl (X.len1 Try.underlying24 rfl (F.ev 30 (.slice ba2 p.nb bc2))) ?_;clear F ac;intro ac F
 refine Y.pval F (X.w1 rfl (F.yl (j := 16) (d := 25) (b := false) rfl (by kernel_rfl))) rfl (X.binop rfl (F.ev 28 (Vi p.nb)) (F.ev 31 (Vi p.nb)) (X.neqI Try.underlying3 (show ((p.nb : Int) != p.nb) = false by simp))) ?_;clear F ac;intro ac F
 refine Y.pv F (X.pickF rfl (F.ev 25 (.bool false)) (F.ev 32 (.bool false))) ?_;clear F ac;intro ac F
 refine Y.pv F (X.move rfl (F.ev 33 (.bool false))) ?_;clear F ac;intro ac F
 refine Y.pval F (X.w1 rfl (F.yl (j := 25) (d := 34) (b := false) rfl (by kernel_rfl))) rfl (X.field rfl (F.ev 2 (Vp w.heap.size)) (X.fld Try.underlying27 rfl (Try.siz25 _) rfl rfl)) ?_;clear F ac;intro ac F
 refine Y.pval F (X.w1 rfl (F.yl (j := 25) (d := 34) (b := false) rfl (by kernel_rfl))) rfl (X.load rfl (F.ev 35 (.pointer (some ⟨w.heap.size, 3, none⟩))) (X.ld1 (Try.agg25 _) (hC.at 3 rfl))) ?_;clear F ac;intro ac F
 refine Y.pval F (X.w1 rfl (F.yl (j := 25) (d := 34) (b := false) rfl (by kernel_rfl))) rfl (X.len1 Try.underlying25 rfl (F.ev 36 (.slice la p.nl lc))) ?_;clear F ac;intro ac F
 refine Y.pval F (X.w1 rfl (F.yl (j := 25) (d := 34) (b := false) rfl (by kernel_rfl))) rfl (X.field rfl (F.ev 3 (Vp w6.heap.size)) (X.fld Try.underlying27 rfl (Try.siz25 _) rfl rfl)) ?_;clear F ac;intro ac F
 refine Y.pval F (X.w1 rfl (F.yl (j := 25) (d := 34) (b := false) rfl (by kernel_rfl))) rfl (X.load rfl (F.ev 38 (.pointer (some ⟨w6.heap.size, 3, none⟩))) (X.ld1 (Try.agg25 _) (hC.at 7 rfl))) ?_;clear F ac;intro ac F
 refine Y.pval F (X.w1 rfl (F.yl (j := 25) (d := 34) (b := false) rfl (by kernel_rfl))) rfl (X.len1 Try.underlying25 rfl (F.ev 39 (.slice la2 p.nl lc2))) ?_;clear F ac;intro ac F
 refine Y.pval F (X.w1 rfl (F.yl (j := 25) (d := 34) (b := false) rfl (by kernel_rfl))) rfl (X.binop rfl (F.ev 37 (Vi p.nl)) (F.ev 40 (Vi p.nl)) (X.neqI Try.underlying3 (show ((p.nl : Int) != p.nl) = false by simp))) ?_;clear F ac;intro ac F
 refine Y.pv F (X.pickF rfl (F.ev 34 (.bool false)) (F.ev 41 (.bool false))) ?_;clear F ac;intro ac F
 refine Y.nil ?_
 replace F : Fr ac 115 [(2, Vp w.heap.size), (3, Vp w6.heap.size), (42, .bool false)] := F.sub _
 refine X.thenN ?_
 refine Y.condF (F.ev 42 (.bool false)) ?_
 refine Y.skip ?_
 refine X.thenN ?_
 refine Y.seq ?_
 refine Y.seq ?_
 refine Y.lit (by kernel_rfl) ?_
 refine Y.pv F (X.assign rfl (X.kc (Vi 0) rfl)) ?_;clear F ac;intro ac F
 refine Y.nil ?_
 replace F : Fr ac 115 [(2, Vp w.heap.size), (3, Vp w6.heap.size), (5, Vi 0)] := F.sub _
 refine X.thenN ?_
 refine Y.block ?_
 refine Y.loop (fun me_ ac wr => ∃ (i : Nat), me_ = p.nt - i ∧ Only (fun b => False) w10 wr ∧ i ≤ p.nt ∧ Fr ac 115 [(2, Vp w.heap.size), (3, Vp w6.heap.size), (5, Vi i)]) _ ⟨0, rfl, Only.refl _ _, Nat.zero_le _, F.sub _⟩ ?_
 have hptB1 := hpt
 have hphB1 := hph
 have hpbB1 := hpb
 have hplB1 := hpl
 have hqtB1 := hqt
 have hqhB1 := hqh
 have hqbB1 := hqb
 have hqlB1 := hql
 have GB1 := G
 have hCB1 := hC
 clear F ac
 intro me_ ac w11 hI
 obtain ⟨i, rfl, hO1, h0i, F⟩ := hI
 replace G := GB1.trans (hO1.gr (fun _ _ h => h))
 replace hpt := (hP.t).gr G
 replace hph := (hP.h).gr G
 replace hpb := (hP.b).gr G
 replace hpl := (hP.l).gr G
 replace hqt := (hQ.t).gr G
 replace hqh := (hQ.h).gr G
 replace hqb := (hQ.b).gr G
 replace hql := (hQ.l).gr G
 replace hC := (RCells.cons (hO1.cell (hCB1.at 0 rfl) (fun h => h)) (RCells.cons (hO1.cell (hCB1.at 1 rfl) (fun h => h)) (RCells.cons (hO1.cell (hCB1.at 2 rfl) (fun h => h)) (RCells.cons (hO1.cell (hCB1.at 3 rfl) (fun h => h)) (RCells.cons (hO1.cell (hCB1.at 4 rfl) (fun h => h)) (RCells.cons (hO1.cell (hCB1.at 5 rfl) (fun h => h)) (RCells.cons (hO1.cell (hCB1.at 6 rfl) (fun h => h)) (RCells.cons (hO1.cell (hCB1.at 7 rfl) (fun h => h)) (RCells.nil _)))))))))
 refine Y.seq ?_
 refine Y.seq ?_
 refine Y.lit (by kernel_rfl) ?_
 refine Y.pv F (X.move rfl (F.ev 5 (Vi i))) ?_;clear F ac;intro ac F
 refine Y.pv F (X.field rfl (F.ev 2 (Vp w.heap.size)) (X.fld Try.underlying27 rfl (Try.siz22 _) rfl rfl)) ?_;clear F ac;intro ac F
 refine Y.pv F (X.load rfl (F.ev 44 (Vp w.heap.size)) (X.ld1 (Try.agg22 _) (hC.at 0 rfl))) ?_;clear F ac;intro ac F
 refine Y.pv F (X.len1 Try.underlying22 rfl (F.ev 45 (.slice ta p.nt tc))) ?_;clear F ac;intro ac F
 refine Y.pv F (X.binop rfl (F.ev 43 (Vi i)) (F.ev 46 (Vi p.nt)) (X.lssI Try.underlying3 rfl)) ?_;clear F ac;intro ac F
 refine Y.nil ?_
 replace F : Fr ac 115 [(2, Vp w.heap.size), (3, Vp w6.heap.size), (5, Vi i), (47, .bool (decide ((i : Int) < p.nt)))] := F.sub _
 refine X.thenN ?_
 cases h12 : decide ((i : Int) < p.nt) with
 | false =>
  try rw [h12] at F
  have h12p : ¬ ((i : Int) < p.nt) := of_decide_eq_false h12
  obtain rfl : i = p.nt := by omega
  refine Y.condF (F.ev 47 (.bool false)) ?_
  refine Y.exit ?_
  refine X.thenX ?_
  refine X.thenX ?_
  refine X.blockX ?_
  refine X.thenN ?_
  refine Y.seq ?_
  refine Y.seq ?_
  refine Y.lit (by kernel_rfl) ?_
  refine Y.pv F (X.assign rfl (X.kc (Vi 0) rfl)) ?_;clear F ac;intro ac F
  refine Y.nil ?_
  replace F : Fr ac 115 [(2, Vp w.heap.size), (3, Vp w6.heap.size), (6, Vi 0)] := F.sub _
  refine X.thenN ?_
  refine Y.block ?_
  refine Y.loop (fun me_ ac wr => ∃ (j : Nat), me_ = p.nh - j ∧ Only (fun b => False) w11 wr ∧ j ≤ p.nh ∧ Fr ac 115 [(2, Vp w.heap.size), (3, Vp w6.heap.size), (6, Vi j)]) _ ⟨0, rfl, Only.refl _ _, Nat.zero_le _, F.sub _⟩ ?_
  have hptB1 := hpt
  have hphB1 := hph
  have hpbB1 := hpb
  have hplB1 := hpl
  have hqtB1 := hqt
  have hqhB1 := hqh
  have hqbB1 := hqb
  have hqlB1 := hql
  have GB1 := G
  have hCB1 := hC
  clear F ac
  intro me_ ac w13 hI
  obtain ⟨j, rfl, hO1, h0j, F⟩ := hI
  replace G := GB1.trans (hO1.gr (fun _ _ h => h))
  replace hpt := (hP.t).gr G
  replace hph := (hP.h).gr G
  replace hpb := (hP.b).gr G
  replace hpl := (hP.l).gr G
  replace hqt := (hQ.t).gr G
  replace hqh := (hQ.h).gr G
  replace hqb := (hQ.b).gr G
  replace hql := (hQ.l).gr G
  replace hC := (RCells.cons (hO1.cell (hCB1.at 0 rfl) (fun h => h)) (RCells.cons (hO1.cell (hCB1.at 1 rfl) (fun h => h)) (RCells.cons (hO1.cell (hCB1.at 2 rfl) (fun h => h)) (RCells.cons (hO1.cell (hCB1.at 3 rfl) (fun h => h)) (RCells.cons (hO1.cell (hCB1.at 4 rfl) (fun h => h)) (RCells.cons (hO1.cell (hCB1.at 5 rfl) (fun h => h)) (RCells.cons (hO1.cell (hCB1.at 6 rfl) (fun h => h)) (RCells.cons (hO1.cell (hCB1.at 7 rfl) (fun h => h)) (RCells.nil _)))))))))
  refine Y.seq ?_
  refine Y.seq ?_
  refine Y.lit (by kernel_rfl) ?_
  refine Y.pv F (X.move rfl (F.ev 6 (Vi j))) ?_;clear F ac;intro ac F
  refine Y.pv F (X.field rfl (F.ev 2 (Vp w.heap.size)) (X.fld Try.underlying27 rfl (Try.siz23 _) rfl rfl)) ?_;clear F ac;intro ac F
  refine Y.pv F (X.load rfl (F.ev 62 (.pointer (some ⟨w.heap.size, 1, none⟩))) (X.ld1 (Try.agg23 _) (hC.at 1 rfl))) ?_;clear F ac;intro ac F
  refine Y.pv F (X.len1 Try.underlying23 rfl (F.ev 63 (.slice ha p.nh hc))) ?_;clear F ac;intro ac F
  refine Y.pv F (X.binop rfl (F.ev 61 (Vi j)) (F.ev 64 (Vi p.nh)) (X.lssI Try.underlying3 rfl)) ?_;clear F ac;intro ac F
  refine Y.nil ?_
  replace F : Fr ac 115 [(2, Vp w.heap.size), (3, Vp w6.heap.size), (6, Vi j), (65, .bool (decide ((j : Int) < p.nh)))] := F.sub _
  refine X.thenN ?_
  cases h14 : decide ((j : Int) < p.nh) with
  | false =>
   try rw [h14] at F
   have h14p : ¬ ((j : Int) < p.nh) := of_decide_eq_false h14
   obtain rfl : j = p.nh := by omega
   refine Y.condF (F.ev 65 (.bool false)) ?_
   refine Y.exit ?_
   refine X.thenX ?_
   refine X.thenX ?_
   refine X.blockX ?_
   refine X.thenN ?_
   refine Y.seq ?_
   refine Y.seq ?_
   refine Y.lit (by kernel_rfl) ?_
   refine Y.pv F (X.assign rfl (X.kc (Vi 0) rfl)) ?_;clear F ac;intro ac F
   refine Y.nil ?_
   replace F : Fr ac 115 [(2, Vp w.heap.size), (3, Vp w6.heap.size), (7, Vi 0)] := F.sub _
   refine X.thenN ?_
   refine Y.block ?_
   refine Y.loop (fun me_ ac wr => ∃ (k : Nat), me_ = p.nb - k ∧ Only (fun b => False) w13 wr ∧ k ≤ p.nb ∧ Fr ac 115 [(2, Vp w.heap.size), (3, Vp w6.heap.size), (7, Vi k)]) _ ⟨0, rfl, Only.refl _ _, Nat.zero_le _, F.sub _⟩ ?_
   have hptB1 := hpt
   have hphB1 := hph
   have hpbB1 := hpb
   have hplB1 := hpl
   have hqtB1 := hqt
   have hqhB1 := hqh
   have hqbB1 := hqb
   have hqlB1 := hql
   have GB1 := G
   have hCB1 := hC
   clear F ac
   intro me_ ac w15 hI
   obtain ⟨k, rfl, hO1, h0k, F⟩ := hI
   replace G := GB1.trans (hO1.gr (fun _ _ h => h))
   replace hpt := (hP.t).gr G
   replace hph := (hP.h).gr G
   replace hpb := (hP.b).gr G
   replace hpl := (hP.l).gr G
   replace hqt := (hQ.t).gr G
   replace hqh := (hQ.h).gr G
   replace hqb := (hQ.b).gr G
   replace hql := (hQ.l).gr G
   replace hC := (RCells.cons (hO1.cell (hCB1.at 0 rfl) (fun h => h)) (RCells.cons (hO1.cell (hCB1.at 1 rfl) (fun h => h)) (RCells.cons (hO1.cell (hCB1.at 2 rfl) (fun h => h)) (RCells.cons (hO1.cell (hCB1.at 3 rfl) (fun h => h)) (RCells.cons (hO1.cell (hCB1.at 4 rfl) (fun h => h)) (RCells.cons (hO1.cell (hCB1.at 5 rfl) (fun h => h)) (RCells.cons (hO1.cell (hCB1.at 6 rfl) (fun h => h)) (RCells.cons (hO1.cell (hCB1.at 7 rfl) (fun h => h)) (RCells.nil _)))))))))
   refine Y.seq ?_
   refine Y.seq ?_
   refine Y.lit (by kernel_rfl) ?_
   refine Y.pv F (X.move rfl (F.ev 7 (Vi k))) ?_;clear F ac;intro ac F
   refine Y.pv F (X.field rfl (F.ev 2 (Vp w.heap.size)) (X.fld Try.underlying27 rfl (Try.siz24 _) rfl rfl)) ?_;clear F ac;intro ac F
   refine Y.pv F (X.load rfl (F.ev 80 (.pointer (some ⟨w.heap.size, 2, none⟩))) (X.ld1 (Try.agg24 _) (hC.at 2 rfl))) ?_;clear F ac;intro ac F
   refine Y.pv F (X.len1 Try.underlying24 rfl (F.ev 81 (.slice ba p.nb bc))) ?_;clear F ac;intro ac F
   refine Y.pv F (X.binop rfl (F.ev 79 (Vi k)) (F.ev 82 (Vi p.nb)) (X.lssI Try.underlying3 rfl)) ?_;clear F ac;intro ac F
   refine Y.nil ?_
   replace F : Fr ac 115 [(2, Vp w.heap.size), (3, Vp w6.heap.size), (7, Vi k), (83, .bool (decide ((k : Int) < p.nb)))] := F.sub _
   refine X.thenN ?_
   cases h16 : decide ((k : Int) < p.nb) with
   | false =>
    try rw [h16] at F
    have h16p : ¬ ((k : Int) < p.nb) := of_decide_eq_false h16
    obtain rfl : k = p.nb := by omega
    refine Y.condF (F.ev 83 (.bool false)) ?_
    refine Y.exit ?_
    refine X.thenX ?_
    refine X.thenX ?_
    refine X.blockX ?_
    refine X.thenN ?_
    refine Y.seq ?_
    refine Y.seq ?_
    refine Y.lit (by kernel_rfl) ?_
    refine Y.pv F (X.assign rfl (X.kc (Vi 0) rfl)) ?_;clear F ac;intro ac F
    refine Y.nil ?_
    replace F : Fr ac 115 [(2, Vp w.heap.size), (3, Vp w6.heap.size), (8, Vi 0)] := F.sub _
    refine X.thenN ?_
    refine Y.block ?_
    refine Y.loop (fun me_ ac wr => ∃ (z : Nat), me_ = p.nl - z ∧ Only (fun b => False) w15 wr ∧ z ≤ p.nl ∧ Fr ac 115 [(2, Vp w.heap.size), (3, Vp w6.heap.size), (8, Vi z)]) _ ⟨0, rfl, Only.refl _ _, Nat.zero_le _, F.sub _⟩ ?_
    have hptB1 := hpt
    have hphB1 := hph
    have hpbB1 := hpb
    have hplB1 := hpl
    have hqtB1 := hqt
    have hqhB1 := hqh
    have hqbB1 := hqb
    have hqlB1 := hql
    have GB1 := G
    have hCB1 := hC
    clear F ac
    intro me_ ac w17 hI
    obtain ⟨z, rfl, hO1, h0z, F⟩ := hI
    replace G := GB1.trans (hO1.gr (fun _ _ h => h))
    replace hpt := (hP.t).gr G
    replace hph := (hP.h).gr G
    replace hpb := (hP.b).gr G
    replace hpl := (hP.l).gr G
    replace hqt := (hQ.t).gr G
    replace hqh := (hQ.h).gr G
    replace hqb := (hQ.b).gr G
    replace hql := (hQ.l).gr G
    replace hC := (RCells.cons (hO1.cell (hCB1.at 0 rfl) (fun h => h)) (RCells.cons (hO1.cell (hCB1.at 1 rfl) (fun h => h)) (RCells.cons (hO1.cell (hCB1.at 2 rfl) (fun h => h)) (RCells.cons (hO1.cell (hCB1.at 3 rfl) (fun h => h)) (RCells.cons (hO1.cell (hCB1.at 4 rfl) (fun h => h)) (RCells.cons (hO1.cell (hCB1.at 5 rfl) (fun h => h)) (RCells.cons (hO1.cell (hCB1.at 6 rfl) (fun h => h)) (RCells.cons (hO1.cell (hCB1.at 7 rfl) (fun h => h)) (RCells.nil _)))))))))
    refine Y.seq ?_
    refine Y.seq ?_
    refine Y.lit (by kernel_rfl) ?_
    refine Y.pv F (X.move rfl (F.ev 8 (Vi z))) ?_;clear F ac;intro ac F
    refine Y.pv F (X.field rfl (F.ev 2 (Vp w.heap.size)) (X.fld Try.underlying27 rfl (Try.siz25 _) rfl rfl)) ?_;clear F ac;intro ac F
    refine Y.pv F (X.load rfl (F.ev 98 (.pointer (some ⟨w.heap.size, 3, none⟩))) (X.ld1 (Try.agg25 _) (hC.at 3 rfl))) ?_;clear F ac;intro ac F
    refine Y.pv F (X.len1 Try.underlying25 rfl (F.ev 99 (.slice la p.nl lc))) ?_;clear F ac;intro ac F
    refine Y.pv F (X.binop rfl (F.ev 97 (Vi z)) (F.ev 100 (Vi p.nl)) (X.lssI Try.underlying3 rfl)) ?_;clear F ac;intro ac F
    refine Y.nil ?_
    replace F : Fr ac 115 [(2, Vp w.heap.size), (3, Vp w6.heap.size), (8, Vi z), (101, .bool (decide ((z : Int) < p.nl)))] := F.sub _
    refine X.thenN ?_
    cases h18 : decide ((z : Int) < p.nl) with
    | false =>
     try rw [h18] at F
     have h18p : ¬ ((z : Int) < p.nl) := of_decide_eq_false h18
     obtain rfl : z = p.nl := by omega
     refine Y.condF (F.ev 101 (.bool false)) ?_
     refine Y.exit ?_
     refine X.thenX ?_
     refine X.thenX ?_
     refine X.blockX ?_
     refine X.thenN ?_
     refine Y.seq ?_
     refine Y.lit (by kernel_rfl) ?_
     refine Y.pv F (X.assign rfl (X.kc (.bool true) rfl)) ?_;clear F ac;intro ac F
     refine Y.nil ?_
     replace F : Fr ac 115 [(4, .bool true)] := F.sub _
     refine X.thenN ?_
     refine Y.ret ?_
     exact Y.ret0 (v := .bool true) F (Y.rs1 F rfl (by kernel_rfl)) ⟨rfl, G⟩
    | true =>
     try rw [h18] at F
     have h18p : ((z : Int) < p.nl) := of_decide_eq_true h18
     have h9z : z < p.nl := by omega
     refine Y.condT (F.ev 101 (.bool true)) ?_
     refine Y.skip ?_
     refine X.thenN ?_
     refine Y.seq ?_
     refine Y.block ?_
     refine Y.seq ?_
     obtain ⟨pd19, pe19, -, pc19⟩ := hpl.at (j := z) (by omega)
     subst pe19
     replace hC : RCells w17 [(Ad w.heap.size 0, .slice ta p.nt tc), (Ad w.heap.size 1, .slice ha p.nh hc), (Ad w.heap.size 2, .slice ba p.nb bc), (Ad w.heap.size 3, .slice (some pd19) p.nl lc), (Ad w6.heap.size 0, .slice ta2 p.nt tc2), (Ad w6.heap.size 1, .slice ha2 p.nh hc2), (Ad w6.heap.size 2, .slice ba2 p.nb bc2), (Ad w6.heap.size 3, .slice la2 p.nl lc2), (pd19.add (z * 3), Vi (p.lv z 0)), (⟨(pd19.add (z * 3)).block, (pd19.add (z * 3)).off + 1, none⟩, Vi (p.lv z 1)), (⟨(pd19.add (z * 3)).block, (pd19.add (z * 3)).off + 2, none⟩, Vi (p.lv z 2))] := hC.append ((RCells.cons (pc19 0 (by decide)) (RCells.cons (pc19 1 (by decide)) (RCells.cons (pc19 2 (by decide)) (RCells.nil _)))))
     clear pc19
     obtain ⟨pd20, pe20, -, pc20⟩ := hql.at (j := z) (by omega)
     subst pe20
     replace hC : RCells w17 [(Ad w.heap.size 0, .slice ta p.nt tc), (Ad w.heap.size 1, .slice ha p.nh hc), (Ad w.heap.size 2, .slice ba p.nb bc), (Ad w.heap.size 3, .slice (some pd19) p.nl lc), (Ad w6.heap.size 0, .slice ta2 p.nt tc2), (Ad w6.heap.size 1, .slice ha2 p.nh hc2), (Ad w6.heap.size 2, .slice ba2 p.nb bc2), (Ad w6.heap.size 3, .slice (some pd20) p.nl lc2), (pd19.add (z * 3), Vi (p.lv z 0)), (⟨(pd19.add (z * 3)).block, (pd19.add (z * 3)).off + 1, none⟩, Vi (p.lv z 1)), (⟨(pd19.add (z * 3)).block, (pd19.add (z * 3)).off + 2, none⟩, Vi (p.lv z 2)), (pd20.add (z * 3), Vi (p.lv z 0)), (⟨(pd20.add (z * 3)).block, (pd20.add (z * 3)).off + 1, none⟩, Vi (p.lv z 1)), (⟨(pd20.add (z * 3)).block, (pd20.add (z * 3)).off + 2, none⟩, Vi (p.lv z 2))] := hC.append ((RCells.cons (pc20 0 (by decide)) (RCells.cons (pc20 1 (by decide)) (RCells.cons (pc20 2 (by decide)) (RCells.nil _)))))
     clear pc20
     refine Y.region F [some (.pointer (some ⟨w.heap.size, 3, none⟩)), some (.slice (some pd19) p.nl lc), some (Vi z), some (.pointer (some (pd19.add (z * 3)))), some (.agg #[Vi (p.lv z 0), Vi (p.lv z 1), Vi (p.lv z 2)]), some (.pointer (some ⟨w6.heap.size, 3, none⟩)), some (.slice (some pd20) p.nl lc2), some (Vi z), some (.pointer (some (pd20.add (z * 3)))), some (.agg #[Vi (p.lv z 0), Vi (p.lv z 1), Vi (p.lv z 2)]), some (.bool false)] [] rfl ⟨by kernel_rfl, of_decide_eq_true (by kernel_rfl), by kernel_rfl, by kernel_rfl, by kernel_rfl⟩ ⟨?_, ?_, ?_, ?_, ?_, ?_, ?_, ?_, ?_, ?_, ?_, trivial⟩ ?_
     ·intro ac done u W Sx hR
      exact X.vl (X.field rfl (Sx.ev 2 (Vp w.heap.size)) (X.fld Try.underlying27 rfl (Try.siz25 _) rfl rfl)) hR.st0
     ·intro ac done u W Sx hR
      have g : Gr w17 W := hR.1
      exact X.vl (X.load rfl (Sx.ev 104 (.pointer (some ⟨w.heap.size, 3, none⟩))) (X.ld1 (Try.agg25 _) ((hC.gr g).at 3 rfl))) hR.st0
     ·intro ac done u W Sx hR
      exact X.vl (X.move rfl (Sx.ev 8 (Vi z))) hR.st0
     ·intro ac done u W Sx hR
      exact X.vl (X.index rfl (Sx.ev 105 (.slice (some pd19) p.nl lc)) (Sx.ev 106 (Vi z)) (X.idx (k := z) Try.underlying25 (Try.siz84 _) (by omega) (by omega) rfl)) hR.st0
     ·intro ac done u W Sx hR
      have g : Gr w17 W := hR.1
      exact X.vl (X.load rfl (Sx.ev 107 (.pointer (some (pd19.add (z * 3))))) (X.ldN (Try.agg84 _) (Try.siz84 _) (Y.atz (pd19.add (z * 3)) (Y.AtFrom.cons ((hC.gr g).at 8 rfl) (Y.AtFrom.cons ((hC.gr g).at 9 rfl) (Y.AtFrom.cons ((hC.gr g).at 10 rfl) (Y.AtFrom.nil _ _ _))))))) hR.st0
     ·intro ac done u W Sx hR
      exact X.vl (X.field rfl (Sx.ev 3 (Vp w6.heap.size)) (X.fld Try.underlying27 rfl (Try.siz25 _) rfl rfl)) hR.st0
     ·intro ac done u W Sx hR
      have g : Gr w17 W := hR.1
      exact X.vl (X.load rfl (Sx.ev 109 (.pointer (some ⟨w6.heap.size, 3, none⟩))) (X.ld1 (Try.agg25 _) ((hC.gr g).at 7 rfl))) hR.st0
     ·intro ac done u W Sx hR
      exact X.vl (X.move rfl (Sx.ev 8 (Vi z))) hR.st0
     ·intro ac done u W Sx hR
      exact X.vl (X.index rfl (Sx.ev 110 (.slice (some pd20) p.nl lc2)) (Sx.ev 111 (Vi z)) (X.idx (k := z) Try.underlying25 (Try.siz84 _) (by omega) (by omega) rfl)) hR.st0
     ·intro ac done u W Sx hR
      have g : Gr w17 W := hR.1
      exact X.vl (X.load rfl (Sx.ev 112 (.pointer (some (pd20.add (z * 3))))) (X.ldN (Try.agg84 _) (Try.siz84 _) (Y.atz (pd20.add (z * 3)) (Y.AtFrom.cons ((hC.gr g).at 11 rfl) (Y.AtFrom.cons ((hC.gr g).at 12 rfl) (Y.AtFrom.cons ((hC.gr g).at 13 rfl) (Y.AtFrom.nil _ _ _))))))) hR.st0
     ·intro ac done u W Sx hR
      exact X.vl (X.binop rfl (Sx.ev 108 (.agg #[Vi (p.lv z 0), Vi (p.lv z 1), Vi (p.lv z 2)])) (Sx.ev 113 (.agg #[Vi (p.lv z 0), Vi (p.lv z 1), Vi (p.lv z 2)])) (Try.neq84 _ _ (p.lv z 0) (p.lv z 1) (p.lv z 2) _)) hR.st0
     intro ac u w21 hs hd hl ho hR
     have g : Gr w17 w21 := hR.1
     replace F : Fr ac 115 [(2, Vp w.heap.size), (3, Vp w6.heap.size), (8, Vi z), (114, .bool false)] := X.fr hs hd hl _ (by kernel_rfl)
     clear hs hd hl ho hR
     replace G := G.trans g
     replace hC := hC.gr g
     replace hO1 := hO1.thenGr g
     replace hpt := hpt.gr g
     replace hph := hph.gr g
     replace hpb := hpb.gr g
     replace hpl := hpl.gr g
     replace hqt := hqt.gr g
     replace hqh := hqh.gr g
     replace hqb := hqb.gr g
     replace hql := hql.gr g
     clear g
     refine X.thenN ?_
     refine Y.condF (F.ev 114 (.bool false)) ?_
     refine Y.skip ?_
     refine X.blockN ?_
     refine X.thenN ?_
     refine Y.lit (by kernel_rfl) ?_
     refine Y.pv F (X.move rfl (F.ev 8 (Vi z))) ?_;clear F ac;intro ac F
     refine Y.pv F (X.binop rfl (F.ev 102 (Vi z)) (X.kc (Vi 1) rfl) (X.addI Try.underlying3 rfl (by omega) (by omega))) ?_;clear F ac;intro ac F
     refine Y.pv F (X.assign rfl (F.ev 103 (Vi ((z : Int) + 1)))) ?_;clear F ac;intro ac F
     refine Y.nil ?_
     replace F : Fr ac 115 [(2, Vp w.heap.size), (3, Vp w6.heap.size), (8, Vi ((z : Int) + 1))] := F.sub _
     refine X.thenN ?_
     refine ⟨_, ?_, z + 1, rfl, hO1, by omega, F.sub _⟩
     omega
   | true =>
    try rw [h16] at F
    have h16p : ((k : Int) < p.nb) := of_decide_eq_true h16
    have h9k : k < p.nb := by omega
    refine Y.condT (F.ev 83 (.bool true)) ?_
    refine Y.skip ?_
    refine X.thenN ?_
    refine Y.seq ?_
    refine Y.block ?_
    refine Y.seq ?_
    obtain ⟨pd22, pe22, -, pc22⟩ := hpb.at (j := k) (by omega)
    subst pe22
    replace hC : RCells w15 [(Ad w.heap.size 0, .slice ta p.nt tc), (Ad w.heap.size 1, .slice ha p.nh hc), (Ad w.heap.size 2, .slice (some pd22) p.nb bc), (Ad w.heap.size 3, .slice la p.nl lc), (Ad w6.heap.size 0, .slice ta2 p.nt tc2), (Ad w6.heap.size 1, .slice ha2 p.nh hc2), (Ad w6.heap.size 2, .slice ba2 p.nb bc2), (Ad w6.heap.size 3, .slice la2 p.nl lc2), (pd22.add (k * 3), Vi (p.bv k 0)), (⟨(pd22.add (k * 3)).block, (pd22.add (k * 3)).off + 1, none⟩, Vi (p.bv k 1)), (⟨(pd22.add (k * 3)).block, (pd22.add (k * 3)).off + 2, none⟩, Vi (p.bv k 2))] := hC.append ((RCells.cons (pc22 0 (by decide)) (RCells.cons (pc22 1 (by decide)) (RCells.cons (pc22 2 (by decide)) (RCells.nil _)))))
    clear pc22
    obtain ⟨pd23, pe23, -, pc23⟩ := hqb.at (j := k) (by omega)
    subst pe23
    replace hC : RCells w15 [(Ad w.heap.size 0, .slice ta p.nt tc), (Ad w.heap.size 1, .slice ha p.nh hc), (Ad w.heap.size 2, .slice (some pd22) p.nb bc), (Ad w.heap.size 3, .slice la p.nl lc), (Ad w6.heap.size 0, .slice ta2 p.nt tc2), (Ad w6.heap.size 1, .slice ha2 p.nh hc2), (Ad w6.heap.size 2, .slice (some pd23) p.nb bc2), (Ad w6.heap.size 3, .slice la2 p.nl lc2), (pd22.add (k * 3), Vi (p.bv k 0)), (⟨(pd22.add (k * 3)).block, (pd22.add (k * 3)).off + 1, none⟩, Vi (p.bv k 1)), (⟨(pd22.add (k * 3)).block, (pd22.add (k * 3)).off + 2, none⟩, Vi (p.bv k 2)), (pd23.add (k * 3), Vi (p.bv k 0)), (⟨(pd23.add (k * 3)).block, (pd23.add (k * 3)).off + 1, none⟩, Vi (p.bv k 1)), (⟨(pd23.add (k * 3)).block, (pd23.add (k * 3)).off + 2, none⟩, Vi (p.bv k 2))] := hC.append ((RCells.cons (pc23 0 (by decide)) (RCells.cons (pc23 1 (by decide)) (RCells.cons (pc23 2 (by decide)) (RCells.nil _)))))
    clear pc23
    refine Y.region F [some (.pointer (some ⟨w.heap.size, 2, none⟩)), some (.slice (some pd22) p.nb bc), some (Vi k), some (.pointer (some (pd22.add (k * 3)))), some (.agg #[Vi (p.bv k 0), Vi (p.bv k 1), Vi (p.bv k 2)]), some (.pointer (some ⟨w6.heap.size, 2, none⟩)), some (.slice (some pd23) p.nb bc2), some (Vi k), some (.pointer (some (pd23.add (k * 3)))), some (.agg #[Vi (p.bv k 0), Vi (p.bv k 1), Vi (p.bv k 2)]), some (.bool false)] [] rfl ⟨by kernel_rfl, of_decide_eq_true (by kernel_rfl), by kernel_rfl, by kernel_rfl, by kernel_rfl⟩ ⟨?_, ?_, ?_, ?_, ?_, ?_, ?_, ?_, ?_, ?_, ?_, trivial⟩ ?_
    ·intro ac done u W Sx hR
     exact X.vl (X.field rfl (Sx.ev 2 (Vp w.heap.size)) (X.fld Try.underlying27 rfl (Try.siz24 _) rfl rfl)) hR.st0
    ·intro ac done u W Sx hR
     have g : Gr w15 W := hR.1
     exact X.vl (X.load rfl (Sx.ev 86 (.pointer (some ⟨w.heap.size, 2, none⟩))) (X.ld1 (Try.agg24 _) ((hC.gr g).at 2 rfl))) hR.st0
    ·intro ac done u W Sx hR
     exact X.vl (X.move rfl (Sx.ev 7 (Vi k))) hR.st0
    ·intro ac done u W Sx hR
     exact X.vl (X.index rfl (Sx.ev 87 (.slice (some pd22) p.nb bc)) (Sx.ev 88 (Vi k)) (X.idx (k := k) Try.underlying24 (Try.siz65 _) (by omega) (by omega) rfl)) hR.st0
    ·intro ac done u W Sx hR
     have g : Gr w15 W := hR.1
     exact X.vl (X.load rfl (Sx.ev 89 (.pointer (some (pd22.add (k * 3))))) (X.ldN (Try.agg65 _) (Try.siz65 _) (Y.atz (pd22.add (k * 3)) (Y.AtFrom.cons ((hC.gr g).at 8 rfl) (Y.AtFrom.cons ((hC.gr g).at 9 rfl) (Y.AtFrom.cons ((hC.gr g).at 10 rfl) (Y.AtFrom.nil _ _ _))))))) hR.st0
    ·intro ac done u W Sx hR
     exact X.vl (X.field rfl (Sx.ev 3 (Vp w6.heap.size)) (X.fld Try.underlying27 rfl (Try.siz24 _) rfl rfl)) hR.st0
    ·intro ac done u W Sx hR
     have g : Gr w15 W := hR.1
     exact X.vl (X.load rfl (Sx.ev 91 (.pointer (some ⟨w6.heap.size, 2, none⟩))) (X.ld1 (Try.agg24 _) ((hC.gr g).at 6 rfl))) hR.st0
    ·intro ac done u W Sx hR
     exact X.vl (X.move rfl (Sx.ev 7 (Vi k))) hR.st0
    ·intro ac done u W Sx hR
     exact X.vl (X.index rfl (Sx.ev 92 (.slice (some pd23) p.nb bc2)) (Sx.ev 93 (Vi k)) (X.idx (k := k) Try.underlying24 (Try.siz65 _) (by omega) (by omega) rfl)) hR.st0
    ·intro ac done u W Sx hR
     have g : Gr w15 W := hR.1
     exact X.vl (X.load rfl (Sx.ev 94 (.pointer (some (pd23.add (k * 3))))) (X.ldN (Try.agg65 _) (Try.siz65 _) (Y.atz (pd23.add (k * 3)) (Y.AtFrom.cons ((hC.gr g).at 11 rfl) (Y.AtFrom.cons ((hC.gr g).at 12 rfl) (Y.AtFrom.cons ((hC.gr g).at 13 rfl) (Y.AtFrom.nil _ _ _))))))) hR.st0
    ·intro ac done u W Sx hR
     exact X.vl (X.binop rfl (Sx.ev 90 (.agg #[Vi (p.bv k 0), Vi (p.bv k 1), Vi (p.bv k 2)])) (Sx.ev 95 (.agg #[Vi (p.bv k 0), Vi (p.bv k 1), Vi (p.bv k 2)])) (Try.neq65 _ _ (p.bv k 0) (p.bv k 1) (p.bv k 2) _)) hR.st0
    intro ac u w24 hs hd hl ho hR
    have g : Gr w15 w24 := hR.1
    replace F : Fr ac 115 [(2, Vp w.heap.size), (3, Vp w6.heap.size), (7, Vi k), (96, .bool false)] := X.fr hs hd hl _ (by kernel_rfl)
    clear hs hd hl ho hR
    replace G := G.trans g
    replace hC := hC.gr g
    replace hO1 := hO1.thenGr g
    replace hpt := hpt.gr g
    replace hph := hph.gr g
    replace hpb := hpb.gr g
    replace hpl := hpl.gr g
    replace hqt := hqt.gr g
    replace hqh := hqh.gr g
    replace hqb := hqb.gr g
    replace hql := hql.gr g
    clear g
    refine X.thenN ?_
    refine Y.condF (F.ev 96 (.bool false)) ?_
    refine Y.skip ?_
    refine X.blockN ?_
    refine X.thenN ?_
    refine Y.lit (by kernel_rfl) ?_
    refine Y.pv F (X.move rfl (F.ev 7 (Vi k))) ?_;clear F ac;intro ac F
    refine Y.pv F (X.binop rfl (F.ev 84 (Vi k)) (X.kc (Vi 1) rfl) (X.addI Try.underlying3 rfl (by omega) (by omega))) ?_;clear F ac;intro ac F
    refine Y.pv F (X.assign rfl (F.ev 85 (Vi ((k : Int) + 1)))) ?_;clear F ac;intro ac F
    refine Y.nil ?_
    replace F : Fr ac 115 [(2, Vp w.heap.size), (3, Vp w6.heap.size), (7, Vi ((k : Int) + 1))] := F.sub _
    refine X.thenN ?_
    refine ⟨_, ?_, k + 1, rfl, hO1, by omega, F.sub _⟩
    omega
  | true =>
   try rw [h14] at F
   have h14p : ((j : Int) < p.nh) := of_decide_eq_true h14
   have h9j : j < p.nh := by omega
   refine Y.condT (F.ev 65 (.bool true)) ?_
   refine Y.skip ?_
   refine X.thenN ?_
   refine Y.seq ?_
   refine Y.block ?_
   refine Y.seq ?_
   obtain ⟨pd25, pe25, -, pc25⟩ := hph.at (j := j) (by omega)
   subst pe25
   replace hC : RCells w13 [(Ad w.heap.size 0, .slice ta p.nt tc), (Ad w.heap.size 1, .slice (some pd25) p.nh hc), (Ad w.heap.size 2, .slice ba p.nb bc), (Ad w.heap.size 3, .slice la p.nl lc), (Ad w6.heap.size 0, .slice ta2 p.nt tc2), (Ad w6.heap.size 1, .slice ha2 p.nh hc2), (Ad w6.heap.size 2, .slice ba2 p.nb bc2), (Ad w6.heap.size 3, .slice la2 p.nl lc2), (pd25.add (j * 6), .string (p.hn j)), (⟨(pd25.add (j * 6)).block, (pd25.add (j * 6)).off + 1, none⟩, Vi (p.hv j 1)), (⟨(pd25.add (j * 6)).block, (pd25.add (j * 6)).off + 2, none⟩, Vi (p.hv j 2)), (⟨(pd25.add (j * 6)).block, (pd25.add (j * 6)).off + 3, none⟩, Vi (p.hv j 3)), (⟨(pd25.add (j * 6)).block, (pd25.add (j * 6)).off + 4, none⟩, Vi (p.hv j 4)), (⟨(pd25.add (j * 6)).block, (pd25.add (j * 6)).off + 5, none⟩, Vi (p.hv j 5))] := hC.append ((RCells.cons (pc25 0 (by decide)) (RCells.cons (pc25 1 (by decide)) (RCells.cons (pc25 2 (by decide)) (RCells.cons (pc25 3 (by decide)) (RCells.cons (pc25 4 (by decide)) (RCells.cons (pc25 5 (by decide)) (RCells.nil _))))))))
   clear pc25
   obtain ⟨pd26, pe26, -, pc26⟩ := hqh.at (j := j) (by omega)
   subst pe26
   replace hC : RCells w13 [(Ad w.heap.size 0, .slice ta p.nt tc), (Ad w.heap.size 1, .slice (some pd25) p.nh hc), (Ad w.heap.size 2, .slice ba p.nb bc), (Ad w.heap.size 3, .slice la p.nl lc), (Ad w6.heap.size 0, .slice ta2 p.nt tc2), (Ad w6.heap.size 1, .slice (some pd26) p.nh hc2), (Ad w6.heap.size 2, .slice ba2 p.nb bc2), (Ad w6.heap.size 3, .slice la2 p.nl lc2), (pd25.add (j * 6), .string (p.hn j)), (⟨(pd25.add (j * 6)).block, (pd25.add (j * 6)).off + 1, none⟩, Vi (p.hv j 1)), (⟨(pd25.add (j * 6)).block, (pd25.add (j * 6)).off + 2, none⟩, Vi (p.hv j 2)), (⟨(pd25.add (j * 6)).block, (pd25.add (j * 6)).off + 3, none⟩, Vi (p.hv j 3)), (⟨(pd25.add (j * 6)).block, (pd25.add (j * 6)).off + 4, none⟩, Vi (p.hv j 4)), (⟨(pd25.add (j * 6)).block, (pd25.add (j * 6)).off + 5, none⟩, Vi (p.hv j 5)), (pd26.add (j * 6), .string (p.hn j)), (⟨(pd26.add (j * 6)).block, (pd26.add (j * 6)).off + 1, none⟩, Vi (p.hv j 1)), (⟨(pd26.add (j * 6)).block, (pd26.add (j * 6)).off + 2, none⟩, Vi (p.hv j 2)), (⟨(pd26.add (j * 6)).block, (pd26.add (j * 6)).off + 3, none⟩, Vi (p.hv j 3)), (⟨(pd26.add (j * 6)).block, (pd26.add (j * 6)).off + 4, none⟩, Vi (p.hv j 4)), (⟨(pd26.add (j * 6)).block, (pd26.add (j * 6)).off + 5, none⟩, Vi (p.hv j 5))] := hC.append ((RCells.cons (pc26 0 (by decide)) (RCells.cons (pc26 1 (by decide)) (RCells.cons (pc26 2 (by decide)) (RCells.cons (pc26 3 (by decide)) (RCells.cons (pc26 4 (by decide)) (RCells.cons (pc26 5 (by decide)) (RCells.nil _))))))))
   clear pc26
   refine Y.region F [some (.pointer (some ⟨w.heap.size, 1, none⟩)), some (.slice (some pd25) p.nh hc), some (Vi j), some (.pointer (some (pd25.add (j * 6)))), some (.agg #[.string (p.hn j), Vi (p.hv j 1), Vi (p.hv j 2), Vi (p.hv j 3), Vi (p.hv j 4), Vi (p.hv j 5)]), some (.pointer (some ⟨w6.heap.size, 1, none⟩)), some (.slice (some pd26) p.nh hc2), some (Vi j), some (.pointer (some (pd26.add (j * 6)))), some (.agg #[.string (p.hn j), Vi (p.hv j 1), Vi (p.hv j 2), Vi (p.hv j 3), Vi (p.hv j 4), Vi (p.hv j 5)]), some (.bool false)] [] rfl ⟨by kernel_rfl, of_decide_eq_true (by kernel_rfl), by kernel_rfl, by kernel_rfl, by kernel_rfl⟩ ⟨?_, ?_, ?_, ?_, ?_, ?_, ?_, ?_, ?_, ?_, ?_, trivial⟩ ?_
   ·intro ac done u W Sx hR
    exact X.vl (X.field rfl (Sx.ev 2 (Vp w.heap.size)) (X.fld Try.underlying27 rfl (Try.siz23 _) rfl rfl)) hR.st0
   ·intro ac done u W Sx hR
    have g : Gr w13 W := hR.1
    exact X.vl (X.load rfl (Sx.ev 68 (.pointer (some ⟨w.heap.size, 1, none⟩))) (X.ld1 (Try.agg23 _) ((hC.gr g).at 1 rfl))) hR.st0
   ·intro ac done u W Sx hR
    exact X.vl (X.move rfl (Sx.ev 6 (Vi j))) hR.st0
   ·intro ac done u W Sx hR
    exact X.vl (X.index rfl (Sx.ev 69 (.slice (some pd25) p.nh hc)) (Sx.ev 70 (Vi j)) (X.idx (k := j) Try.underlying23 (Try.siz53 _) (by omega) (by omega) rfl)) hR.st0
   ·intro ac done u W Sx hR
    have g : Gr w13 W := hR.1
    exact X.vl (X.load rfl (Sx.ev 71 (.pointer (some (pd25.add (j * 6))))) (X.ldN (Try.agg53 _) (Try.siz53 _) (Y.atz (pd25.add (j * 6)) (Y.AtFrom.cons ((hC.gr g).at 8 rfl) (Y.AtFrom.cons ((hC.gr g).at 9 rfl) (Y.AtFrom.cons ((hC.gr g).at 10 rfl) (Y.AtFrom.cons ((hC.gr g).at 11 rfl) (Y.AtFrom.cons ((hC.gr g).at 12 rfl) (Y.AtFrom.cons ((hC.gr g).at 13 rfl) (Y.AtFrom.nil _ _ _)))))))))) hR.st0
   ·intro ac done u W Sx hR
    exact X.vl (X.field rfl (Sx.ev 3 (Vp w6.heap.size)) (X.fld Try.underlying27 rfl (Try.siz23 _) rfl rfl)) hR.st0
   ·intro ac done u W Sx hR
    have g : Gr w13 W := hR.1
    exact X.vl (X.load rfl (Sx.ev 73 (.pointer (some ⟨w6.heap.size, 1, none⟩))) (X.ld1 (Try.agg23 _) ((hC.gr g).at 5 rfl))) hR.st0
   ·intro ac done u W Sx hR
    exact X.vl (X.move rfl (Sx.ev 6 (Vi j))) hR.st0
   ·intro ac done u W Sx hR
    exact X.vl (X.index rfl (Sx.ev 74 (.slice (some pd26) p.nh hc2)) (Sx.ev 75 (Vi j)) (X.idx (k := j) Try.underlying23 (Try.siz53 _) (by omega) (by omega) rfl)) hR.st0
   ·intro ac done u W Sx hR
    have g : Gr w13 W := hR.1
    exact X.vl (X.load rfl (Sx.ev 76 (.pointer (some (pd26.add (j * 6))))) (X.ldN (Try.agg53 _) (Try.siz53 _) (Y.atz (pd26.add (j * 6)) (Y.AtFrom.cons ((hC.gr g).at 14 rfl) (Y.AtFrom.cons ((hC.gr g).at 15 rfl) (Y.AtFrom.cons ((hC.gr g).at 16 rfl) (Y.AtFrom.cons ((hC.gr g).at 17 rfl) (Y.AtFrom.cons ((hC.gr g).at 18 rfl) (Y.AtFrom.cons ((hC.gr g).at 19 rfl) (Y.AtFrom.nil _ _ _)))))))))) hR.st0
   ·intro ac done u W Sx hR
    exact X.vl (X.binop rfl (Sx.ev 72 (.agg #[.string (p.hn j), Vi (p.hv j 1), Vi (p.hv j 2), Vi (p.hv j 3), Vi (p.hv j 4), Vi (p.hv j 5)])) (Sx.ev 77 (.agg #[.string (p.hn j), Vi (p.hv j 1), Vi (p.hv j 2), Vi (p.hv j 3), Vi (p.hv j 4), Vi (p.hv j 5)])) (Try.neq53 _ _ (p.hn j) (p.hv j 1) (p.hv j 2) (p.hv j 3) (p.hv j 4) (p.hv j 5) _)) hR.st0
   intro ac u w27 hs hd hl ho hR
   have g : Gr w13 w27 := hR.1
   replace F : Fr ac 115 [(2, Vp w.heap.size), (3, Vp w6.heap.size), (6, Vi j), (78, .bool false)] := X.fr hs hd hl _ (by kernel_rfl)
   clear hs hd hl ho hR
   replace G := G.trans g
   replace hC := hC.gr g
   replace hO1 := hO1.thenGr g
   replace hpt := hpt.gr g
   replace hph := hph.gr g
   replace hpb := hpb.gr g
   replace hpl := hpl.gr g
   replace hqt := hqt.gr g
   replace hqh := hqh.gr g
   replace hqb := hqb.gr g
   replace hql := hql.gr g
   clear g
   refine X.thenN ?_
   refine Y.condF (F.ev 78 (.bool false)) ?_
   refine Y.skip ?_
   refine X.blockN ?_
   refine X.thenN ?_
   refine Y.lit (by kernel_rfl) ?_
   refine Y.pv F (X.move rfl (F.ev 6 (Vi j))) ?_;clear F ac;intro ac F
   refine Y.pv F (X.binop rfl (F.ev 66 (Vi j)) (X.kc (Vi 1) rfl) (X.addI Try.underlying3 rfl (by omega) (by omega))) ?_;clear F ac;intro ac F
   refine Y.pv F (X.assign rfl (F.ev 67 (Vi ((j : Int) + 1)))) ?_;clear F ac;intro ac F
   refine Y.nil ?_
   replace F : Fr ac 115 [(2, Vp w.heap.size), (3, Vp w6.heap.size), (6, Vi ((j : Int) + 1))] := F.sub _
   refine X.thenN ?_
   refine ⟨_, ?_, j + 1, rfl, hO1, by omega, F.sub _⟩
   omega
 | true =>
  try rw [h12] at F
  have h12p : ((i : Int) < p.nt) := of_decide_eq_true h12
  have h9i : i < p.nt := by omega
  refine Y.condT (F.ev 47 (.bool true)) ?_
  refine Y.skip ?_
  refine X.thenN ?_
  refine Y.seq ?_
  refine Y.block ?_
  refine Y.seq ?_
  obtain ⟨pd28, pe28, -, pc28⟩ := hpt.at (j := i) (by omega)
  subst pe28
  replace hC : RCells w11 [(Ad w.heap.size 0, .slice (some pd28) p.nt tc), (Ad w.heap.size 1, .slice ha p.nh hc), (Ad w.heap.size 2, .slice ba p.nb bc), (Ad w.heap.size 3, .slice la p.nl lc), (Ad w6.heap.size 0, .slice ta2 p.nt tc2), (Ad w6.heap.size 1, .slice ha2 p.nh hc2), (Ad w6.heap.size 2, .slice ba2 p.nb bc2), (Ad w6.heap.size 3, .slice la2 p.nl lc2), (pd28.add (i * 4), .string (p.tn i)), (⟨(pd28.add (i * 4)).block, (pd28.add (i * 4)).off + 1, none⟩, Vi (p.tv i 1)), (⟨(pd28.add (i * 4)).block, (pd28.add (i * 4)).off + 2, none⟩, Vi (p.tv i 2)), (⟨(pd28.add (i * 4)).block, (pd28.add (i * 4)).off + 3, none⟩, Vi (p.tv i 3))] := hC.append ((RCells.cons (pc28 0 (by decide)) (RCells.cons (pc28 1 (by decide)) (RCells.cons (pc28 2 (by decide)) (RCells.cons (pc28 3 (by decide)) (RCells.nil _))))))
  clear pc28
  obtain ⟨pd29, pe29, -, pc29⟩ := hqt.at (j := i) (by omega)
  subst pe29
  replace hC : RCells w11 [(Ad w.heap.size 0, .slice (some pd28) p.nt tc), (Ad w.heap.size 1, .slice ha p.nh hc), (Ad w.heap.size 2, .slice ba p.nb bc), (Ad w.heap.size 3, .slice la p.nl lc), (Ad w6.heap.size 0, .slice (some pd29) p.nt tc2), (Ad w6.heap.size 1, .slice ha2 p.nh hc2), (Ad w6.heap.size 2, .slice ba2 p.nb bc2), (Ad w6.heap.size 3, .slice la2 p.nl lc2), (pd28.add (i * 4), .string (p.tn i)), (⟨(pd28.add (i * 4)).block, (pd28.add (i * 4)).off + 1, none⟩, Vi (p.tv i 1)), (⟨(pd28.add (i * 4)).block, (pd28.add (i * 4)).off + 2, none⟩, Vi (p.tv i 2)), (⟨(pd28.add (i * 4)).block, (pd28.add (i * 4)).off + 3, none⟩, Vi (p.tv i 3)), (pd29.add (i * 4), .string (p.tn i)), (⟨(pd29.add (i * 4)).block, (pd29.add (i * 4)).off + 1, none⟩, Vi (p.tv i 1)), (⟨(pd29.add (i * 4)).block, (pd29.add (i * 4)).off + 2, none⟩, Vi (p.tv i 2)), (⟨(pd29.add (i * 4)).block, (pd29.add (i * 4)).off + 3, none⟩, Vi (p.tv i 3))] := hC.append ((RCells.cons (pc29 0 (by decide)) (RCells.cons (pc29 1 (by decide)) (RCells.cons (pc29 2 (by decide)) (RCells.cons (pc29 3 (by decide)) (RCells.nil _))))))
  clear pc29
  refine Y.region F [some (Vp w.heap.size), some (.slice (some pd28) p.nt tc), some (Vi i), some (.pointer (some (pd28.add (i * 4)))), some (.agg #[.string (p.tn i), Vi (p.tv i 1), Vi (p.tv i 2), Vi (p.tv i 3)]), some (Vp w6.heap.size), some (.slice (some pd29) p.nt tc2), some (Vi i), some (.pointer (some (pd29.add (i * 4)))), some (.agg #[.string (p.tn i), Vi (p.tv i 1), Vi (p.tv i 2), Vi (p.tv i 3)]), some (.bool false)] [] rfl ⟨by kernel_rfl, of_decide_eq_true (by kernel_rfl), by kernel_rfl, by kernel_rfl, by kernel_rfl⟩ ⟨?_, ?_, ?_, ?_, ?_, ?_, ?_, ?_, ?_, ?_, ?_, trivial⟩ ?_
  ·intro ac done u W Sx hR
   exact X.vl (X.field rfl (Sx.ev 2 (Vp w.heap.size)) (X.fld Try.underlying27 rfl (Try.siz22 _) rfl rfl)) hR.st0
  ·intro ac done u W Sx hR
   have g : Gr w11 W := hR.1
   exact X.vl (X.load rfl (Sx.ev 50 (Vp w.heap.size)) (X.ld1 (Try.agg22 _) ((hC.gr g).at 0 rfl))) hR.st0
  ·intro ac done u W Sx hR
   exact X.vl (X.move rfl (Sx.ev 5 (Vi i))) hR.st0
  ·intro ac done u W Sx hR
   exact X.vl (X.index rfl (Sx.ev 51 (.slice (some pd28) p.nt tc)) (Sx.ev 52 (Vi i)) (X.idx (k := i) Try.underlying22 (Try.siz74 _) (by omega) (by omega) rfl)) hR.st0
  ·intro ac done u W Sx hR
   have g : Gr w11 W := hR.1
   exact X.vl (X.load rfl (Sx.ev 53 (.pointer (some (pd28.add (i * 4))))) (X.ldN (Try.agg74 _) (Try.siz74 _) (Y.atz (pd28.add (i * 4)) (Y.AtFrom.cons ((hC.gr g).at 8 rfl) (Y.AtFrom.cons ((hC.gr g).at 9 rfl) (Y.AtFrom.cons ((hC.gr g).at 10 rfl) (Y.AtFrom.cons ((hC.gr g).at 11 rfl) (Y.AtFrom.nil _ _ _)))))))) hR.st0
  ·intro ac done u W Sx hR
   exact X.vl (X.field rfl (Sx.ev 3 (Vp w6.heap.size)) (X.fld Try.underlying27 rfl (Try.siz22 _) rfl rfl)) hR.st0
  ·intro ac done u W Sx hR
   have g : Gr w11 W := hR.1
   exact X.vl (X.load rfl (Sx.ev 55 (Vp w6.heap.size)) (X.ld1 (Try.agg22 _) ((hC.gr g).at 4 rfl))) hR.st0
  ·intro ac done u W Sx hR
   exact X.vl (X.move rfl (Sx.ev 5 (Vi i))) hR.st0
  ·intro ac done u W Sx hR
   exact X.vl (X.index rfl (Sx.ev 56 (.slice (some pd29) p.nt tc2)) (Sx.ev 57 (Vi i)) (X.idx (k := i) Try.underlying22 (Try.siz74 _) (by omega) (by omega) rfl)) hR.st0
  ·intro ac done u W Sx hR
   have g : Gr w11 W := hR.1
   exact X.vl (X.load rfl (Sx.ev 58 (.pointer (some (pd29.add (i * 4))))) (X.ldN (Try.agg74 _) (Try.siz74 _) (Y.atz (pd29.add (i * 4)) (Y.AtFrom.cons ((hC.gr g).at 12 rfl) (Y.AtFrom.cons ((hC.gr g).at 13 rfl) (Y.AtFrom.cons ((hC.gr g).at 14 rfl) (Y.AtFrom.cons ((hC.gr g).at 15 rfl) (Y.AtFrom.nil _ _ _)))))))) hR.st0
  ·intro ac done u W Sx hR
   exact X.vl (X.binop rfl (Sx.ev 54 (.agg #[.string (p.tn i), Vi (p.tv i 1), Vi (p.tv i 2), Vi (p.tv i 3)])) (Sx.ev 59 (.agg #[.string (p.tn i), Vi (p.tv i 1), Vi (p.tv i 2), Vi (p.tv i 3)])) (Try.neq74 _ _ (p.tn i) (p.tv i 1) (p.tv i 2) (p.tv i 3) _)) hR.st0
  intro ac u w30 hs hd hl ho hR
  have g : Gr w11 w30 := hR.1
  replace F : Fr ac 115 [(2, Vp w.heap.size), (3, Vp w6.heap.size), (5, Vi i), (60, .bool false)] := X.fr hs hd hl _ (by kernel_rfl)
  clear hs hd hl ho hR
  replace G := G.trans g
  replace hC := hC.gr g
  replace hO1 := hO1.thenGr g
  replace hpt := hpt.gr g
  replace hph := hph.gr g
  replace hpb := hpb.gr g
  replace hpl := hpl.gr g
  replace hqt := hqt.gr g
  replace hqh := hqh.gr g
  replace hqb := hqb.gr g
  replace hql := hql.gr g
  clear g
  refine X.thenN ?_
  refine Y.condF (F.ev 60 (.bool false)) ?_
  refine Y.skip ?_
  refine X.blockN ?_
  refine X.thenN ?_
  refine Y.lit (by kernel_rfl) ?_
  refine Y.pv F (X.move rfl (F.ev 5 (Vi i))) ?_;clear F ac;intro ac F
  refine Y.pv F (X.binop rfl (F.ev 48 (Vi i)) (X.kc (Vi 1) rfl) (X.addI Try.underlying3 rfl (by omega) (by omega))) ?_;clear F ac;intro ac F
  refine Y.pv F (X.assign rfl (F.ev 49 (Vi ((i : Int) + 1)))) ?_;clear F ac;intro ac F
  refine Y.nil ?_
  replace F : Fr ac 115 [(2, Vp w.heap.size), (3, Vp w6.heap.size), (5, Vi ((i : Int) + 1))] := F.sub _
  refine X.thenN ?_
  refine ⟨_, ?_, i + 1, rfl, hO1, by omega, F.sub _⟩
  omega
end
section
open Go.RowKit

set_option maxRecDepth 100000 in
set_option maxHeartbeats 1000000 in
theorem checks_any (p : Pb) (ta ha ba la : Option Addr) (tc hc bc lc : Nat) (w : World) (hP : PbAt w p ta ha ba la tc hc bc lc) :
  Calls Try.prog 3 #[.agg #[.slice ta p.nt tc, .slice ha p.nh hc, .slice ba p.nb bc, .slice la p.nl lc]] w fun e w' => e = .returned (.bool true) ∧ Gr w w' := by
 have G := Gr.refl w
 have hPP := hP
 refine Y.calls 22 Try.func3 rfl rfl ?_
 intro ac F0
 have F : Fr ac 22 [(0, .agg #[.slice ta p.nt tc, .slice ha p.nh hc, .slice ba p.nb bc, .slice la p.nl lc])] := F0.sub _
 clear F0
 refine Y.seq ?_
 refine Y.lit (by kernel_rfl) ?_
 have hgs3 : w.heap.size ≤ w.heap.size := G.size
 refine Y.pv F (X.box rfl (F.ev 0 (.agg #[.slice ta p.nt tc, .slice ha p.nh hc, .slice ba p.nb bc, .slice la p.nl lc])) X.bx) ?_;clear F ac;intro ac F
 have hgs5 : w.heap.size ≤ w.heap.size := G.size
 have g := Gr.alloc w (.cells #[.slice ta p.nt tc, .slice ha p.nh hc, .slice ba p.nb bc, .slice la p.nl lc] 27)
 have hb := heap_alloc_new w (.cells #[.slice ta p.nt tc, .slice ha p.nh hc, .slice ba p.nb bc, .slice la p.nl lc] 27)
 have hbl : w.heap.size < (w.alloc (.cells #[.slice ta p.nt tc, .slice ha p.nh hc, .slice ba p.nb bc, .slice la p.nl lc] 27)).heap.size := by simp
 have hC2 : RCells (w.alloc (.cells #[.slice ta p.nt tc, .slice ha p.nh hc, .slice ba p.nb bc, .slice la p.nl lc] 27)) [(Ad w.heap.size 0, .slice ta p.nt tc), (Ad w.heap.size 1, .slice ha p.nh hc), (Ad w.heap.size 2, .slice ba p.nb bc), (Ad w.heap.size 3, .slice la p.nl lc)] := (RCells.nil w).box (b := w.heap.size) #[.slice ta p.nt tc, .slice ha p.nh hc, .slice ba p.nb bc, .slice la p.nl lc] 27 rfl
 generalize w.alloc (.cells #[.slice ta p.nt tc, .slice ha p.nh hc, .slice ba p.nb bc, .slice la p.nl lc] 27) = w6 at *
 replace G := G.trans g
 have hC := hC2
 clear hC2
 replace hPP := hPP.gr g
 have hsz4 := hbl
 clear g hb hbl
 refine Y.pv F (X.assign rfl (X.kc (.bool false) rfl)) ?_;clear F ac;intro ac F
 refine Y.nil ?_
 replace F : Fr ac 22 [(1, Vp w.heap.size)] := F.sub _
 refine X.thenN ?_
 refine Y.seq ?_
 refine Y.seq ?_
 refine Y.lit (by kernel_rfl) ?_
 refine Y.pv F (X.load rfl (F.ev 1 (Vp w.heap.size)) (X.ldN (Try.agg27 _) (Try.siz27 _) (Y.atz (⟨w.heap.size, 0, none⟩) (Y.AtFrom.cons (hC.at 0 rfl) (Y.AtFrom.cons (hC.at 1 rfl) (Y.AtFrom.cons (hC.at 2 rfl) (Y.AtFrom.cons (hC.at 3 rfl) (Y.AtFrom.nil _ _ _)))))))) ?_;clear F ac;intro ac F
 refine Y.pcall F (X.w0 rfl) rfl (X.enter (F := 15) rfl (X.kc (.func (.func 15) #[] #[]) rfl) (X.a1 (F.ev 4 (.agg #[.slice ta p.nt tc, .slice ha p.nh hc, .slice ba p.nb bc, .slice la p.nl lc]))) (enters_of Try.func15 (by kernel_rfl) rfl _)) (far_any p ta ha ba la tc hc bc lc w6 hPP) ?_
 clear F ac
 rintro e w7 ⟨rfl, g⟩
 refine ⟨_, rfl, ?_⟩
 intro ac F
 replace G := G.trans g
 replace hC := hC.gr g
 replace hPP := hPP.gr g
 clear g
 refine Y.nil ?_
 replace F : Fr ac 22 [(1, Vp w.heap.size), (5, .bool (farB p))] := F.sub _
 refine X.thenN ?_
 cases h8 : farB p with
 | false =>
  try rw [h8] at F
  have hz : SmlP p := far_sz h8
  refine Y.condF (F.ev 5 (.bool false)) ?_
  refine Y.skip ?_
  refine X.thenN ?_
  refine Y.seq ?_
  refine Y.lit (by kernel_rfl) ?_
  refine Y.pv F (X.load rfl (F.ev 1 (Vp w.heap.size)) (X.ldN (Try.agg27 _) (Try.siz27 _) (Y.atz (⟨w.heap.size, 0, none⟩) (Y.AtFrom.cons (hC.at 0 rfl) (Y.AtFrom.cons (hC.at 1 rfl) (Y.AtFrom.cons (hC.at 2 rfl) (Y.AtFrom.cons (hC.at 3 rfl) (Y.AtFrom.nil _ _ _)))))))) ?_;clear F ac;intro ac F
  refine Y.pcall F (X.w0 rfl) rfl (X.enter (F := 17) rfl (X.kc (.func (.func 17) #[] #[]) rfl) (X.a1 (F.ev 7 (.agg #[.slice ta p.nt tc, .slice ha p.nh hc, .slice ba p.nb bc, .slice la p.nl lc]))) (enters_of Try.func17 (by kernel_rfl) rfl _)) (copy_any p ta ha ba la tc hc bc lc w7 hPP hz) ?_
  clear F ac
  rintro e w10 ⟨ta9, ha9, ba9, la9, tc9, hc9, bc9, lc9, rfl, hO9, g⟩
  have hQ9 := hO9.at hz
  refine ⟨_, rfl, ?_⟩
  intro ac F
  replace G := G.trans g
  replace hC := hC.gr g
  replace hPP := hPP.gr g
  clear g
  refine Y.pv F (Y.al rfl (Try.new27 _)) ?_;clear F ac;intro ac F
  refine Y.punit F (X.w0 rfl) rfl (X.store rfl (F.ev 3 (Vp w10.heap.size)) (F.ev 8 (.agg #[.slice ta9 p.nt tc9, .slice ha9 p.nh hc9, .slice ba9 p.nb bc9, .slice la9 p.nl lc9])) (Y.stNew [.slice ta9 p.nt tc9, .slice ha9 p.nh hc9, .slice ba9 p.nb bc9, .slice la9 p.nl lc9] [.slice none 0 0, .slice none 0 0, .slice none 0 0, .slice none 0 0] (Try.siz27 _) rfl rfl)) ?_;clear F ac;intro ac F
  have hgs11 : w.heap.size ≤ w10.heap.size := G.size
  have g := Gr.alloc w10 (.cells #[.slice ta9 p.nt tc9, .slice ha9 p.nh hc9, .slice ba9 p.nb bc9, .slice la9 p.nl lc9] 27)
  have hb := heap_alloc_new w10 (.cells #[.slice ta9 p.nt tc9, .slice ha9 p.nh hc9, .slice ba9 p.nb bc9, .slice la9 p.nl lc9] 27)
  have hbl : w10.heap.size < (w10.alloc (.cells #[.slice ta9 p.nt tc9, .slice ha9 p.nh hc9, .slice ba9 p.nb bc9, .slice la9 p.nl lc9] 27)).heap.size := by simp
  have hC2 : RCells (w10.alloc (.cells #[.slice ta9 p.nt tc9, .slice ha9 p.nh hc9, .slice ba9 p.nb bc9, .slice la9 p.nl lc9] 27)) [(Ad w.heap.size 0, .slice ta p.nt tc), (Ad w.heap.size 1, .slice ha p.nh hc), (Ad w.heap.size 2, .slice ba p.nb bc), (Ad w.heap.size 3, .slice la p.nl lc), (Ad w10.heap.size 0, .slice ta9 p.nt tc9), (Ad w10.heap.size 1, .slice ha9 p.nh hc9), (Ad w10.heap.size 2, .slice ba9 p.nb bc9), (Ad w10.heap.size 3, .slice la9 p.nl lc9)] := hC.box (b := w10.heap.size) #[.slice ta9 p.nt tc9, .slice ha9 p.nh hc9, .slice ba9 p.nb bc9, .slice la9 p.nl lc9] 27 rfl
  generalize w10.alloc (.cells #[.slice ta9 p.nt tc9, .slice ha9 p.nh hc9, .slice ba9 p.nb bc9, .slice la9 p.nl lc9] 27) = w12 at *
  replace G := G.trans g
  replace hC := hC2
  clear hC2
  replace hPP := hPP.gr g
  replace hQ9 := hQ9.gr g
  replace hO9 := hO9.gr g
  clear g hb hbl
  refine Y.nil ?_
  replace F : Fr ac 22 [(1, Vp w.heap.size), (3, Vp w10.heap.size)] := F.sub _
  refine X.thenN ?_
  refine Y.seq ?_
  refine Y.region F [some (.agg #[.slice ta9 p.nt tc9, .slice ha9 p.nh hc9, .slice ba9 p.nb bc9, .slice la9 p.nl lc9]), some (Vi (chkE p)), some (.agg #[.slice ta p.nt tc, .slice ha p.nh hc, .slice ba p.nb bc, .slice la p.nl lc]), some (Vi (chkE p)), some (.bool true), some (.bool true), some (.agg #[.slice ta9 p.nt tc9, .slice ha9 p.nh hc9, .slice ba9 p.nb bc9, .slice la9 p.nl lc9]), some (.agg #[.slice ta p.nt tc, .slice ha p.nh hc, .slice ba p.nb bc, .slice la p.nl lc]), some (.bool true), some (.bool true), some (.bool true), some (.bool true), some (.bool true), some (.bool true)] [] rfl ⟨by kernel_rfl, of_decide_eq_true (by kernel_rfl), by kernel_rfl, by kernel_rfl, by kernel_rfl⟩ ⟨?_, ?_, ?_, ?_, ?_, ?_, ?_, ?_, ?_, ?_, ?_, ?_, ?_, ?_, trivial⟩ ?_
  ·intro ac done u W Sx hR
   have g : Gr w12 W := hR.1
   exact X.vl (X.load rfl (Sx.ev 3 (Vp w10.heap.size)) (X.ldN (Try.agg27 _) (Try.siz27 _) (Y.atz (⟨w10.heap.size, 0, none⟩) (Y.AtFrom.cons ((hC.gr g).at 4 rfl) (Y.AtFrom.cons ((hC.gr g).at 5 rfl) (Y.AtFrom.cons ((hC.gr g).at 6 rfl) (Y.AtFrom.cons ((hC.gr g).at 7 rfl) (Y.AtFrom.nil _ _ _)))))))) hR.st0
  ·intro ac done u W Sx hR
   have g : Gr w12 W := hR.1
   refine X.call (X.w0 rfl) (X.enter (F := 18) rfl (X.kc (.func (.func 18) #[] #[]) rfl) (X.a1 (Sx.ev 9 (.agg #[.slice ta9 p.nt tc9, .slice ha9 p.nh hc9, .slice ba9 p.nb bc9, .slice la9 p.nl lc9]))) (enters_of Try.func18 (by kernel_rfl) rfl _)) (check_any p ta9 ha9 ba9 la9 tc9 hc9 bc9 lc9 W (hQ9.gr g)) ?_
   rintro e W2 ⟨rfl, g2⟩
   exact ⟨_, rfl, X.kn rfl, hR.step g2 rfl⟩
  ·intro ac done u W Sx hR
   have g : Gr w12 W := hR.1
   exact X.vl (X.load rfl (Sx.ev 1 (Vp w.heap.size)) (X.ldN (Try.agg27 _) (Try.siz27 _) (Y.atz (⟨w.heap.size, 0, none⟩) (Y.AtFrom.cons ((hC.gr g).at 0 rfl) (Y.AtFrom.cons ((hC.gr g).at 1 rfl) (Y.AtFrom.cons ((hC.gr g).at 2 rfl) (Y.AtFrom.cons ((hC.gr g).at 3 rfl) (Y.AtFrom.nil _ _ _)))))))) hR.st0
  ·intro ac done u W Sx hR
   have g : Gr w12 W := hR.1
   refine X.call (X.w0 rfl) (X.enter (F := 19) rfl (X.kc (.func (.func 19) #[] #[]) rfl) (X.a1 (Sx.ev 11 (.agg #[.slice ta p.nt tc, .slice ha p.nh hc, .slice ba p.nb bc, .slice la p.nl lc]))) (enters_of Try.func19 (by kernel_rfl) rfl _)) (check2_any p ta ha ba la tc hc bc lc W (hPP.gr g)) ?_
   rintro e W2 ⟨rfl, g2⟩
   exact ⟨_, rfl, X.kn rfl, hR.step g2 rfl⟩
  ·intro ac done u W Sx hR
   exact X.val (X.w0 rfl) rfl (X.binop rfl (Sx.ev 10 (Vi (chkE p))) (Sx.ev 12 (Vi (chkE p))) (X.eqlI Try.underlying31 (show ((chkE p : Int) == (chkE p)) = true by simp))) hR.st0
  ·intro ac done u W Sx hR
   exact X.vl (X.move rfl (Sx.ev 13 (.bool true))) hR.st0
  ·intro ac done u W Sx hR
   have g : Gr w12 W := hR.1
   exact X.val (X.w1 rfl (Sx.yl 5 14 true (by kernel_rfl) rfl rfl)) rfl (X.load rfl (Sx.ev 3 (Vp w10.heap.size)) (X.ldN (Try.agg27 _) (Try.siz27 _) (Y.atz (⟨w10.heap.size, 0, none⟩) (Y.AtFrom.cons ((hC.gr g).at 4 rfl) (Y.AtFrom.cons ((hC.gr g).at 5 rfl) (Y.AtFrom.cons ((hC.gr g).at 6 rfl) (Y.AtFrom.cons ((hC.gr g).at 7 rfl) (Y.AtFrom.nil _ _ _)))))))) hR.st0
  ·intro ac done u W Sx hR
   have g : Gr w12 W := hR.1
   exact X.val (X.w1 rfl (Sx.yl 5 14 true (by kernel_rfl) rfl rfl)) rfl (X.load rfl (Sx.ev 1 (Vp w.heap.size)) (X.ldN (Try.agg27 _) (Try.siz27 _) (Y.atz (⟨w.heap.size, 0, none⟩) (Y.AtFrom.cons ((hC.gr g).at 0 rfl) (Y.AtFrom.cons ((hC.gr g).at 1 rfl) (Y.AtFrom.cons ((hC.gr g).at 2 rfl) (Y.AtFrom.cons ((hC.gr g).at 3 rfl) (Y.AtFrom.nil _ _ _)))))))) hR.st0
  ·intro ac done u W Sx hR
   have g : Gr w12 W := hR.1
   refine X.call (X.w1 rfl (Sx.yl 5 14 true (by kernel_rfl) rfl rfl)) (X.enter (F := 20) rfl (X.kc (.func (.func 20) #[] #[]) rfl) (X.a2 (Sx.ev 15 (.agg #[.slice ta9 p.nt tc9, .slice ha9 p.nh hc9, .slice ba9 p.nb bc9, .slice la9 p.nl lc9])) (Sx.ev 16 (.agg #[.slice ta p.nt tc, .slice ha p.nh hc, .slice ba p.nb bc, .slice la p.nl lc]))) (enters_of Try.func20 (by kernel_rfl) rfl _)) (same2_any p ta9 ha9 ba9 la9 tc9 hc9 bc9 lc9 ta ha ba la tc hc bc lc W (hQ9.gr g) (hPP.gr g)) ?_
   rintro e W2 ⟨rfl, g2⟩
   exact ⟨_, rfl, X.kn rfl, hR.step g2 rfl⟩
  ·intro ac done u W Sx hR
   exact X.vl (X.pickT rfl (Sx.ev 14 (.bool true)) (Sx.ev 17 (.bool true))) hR.st0
  ·intro ac done u W Sx hR
   exact X.vl (X.move rfl (Sx.ev 18 (.bool true))) hR.st0
  ·intro ac done u W Sx hR
   refine X.call (X.w1 rfl (Sx.yl 10 19 true (by kernel_rfl) rfl rfl)) (X.enter (F := 16) rfl (X.kc (.func (.func 16) #[] #[]) rfl) rfl (enters_of Try.func16 (by kernel_rfl) rfl _)) (works_any W) ?_
   rintro e W2 ⟨rfl, g2⟩
   exact ⟨_, rfl, X.kn rfl, hR.step g2 rfl⟩
  ·intro ac done u W Sx hR
   exact X.vl (X.pickT rfl (Sx.ev 19 (.bool true)) (Sx.ev 20 (.bool true))) hR.st0
  ·intro ac done u W Sx hR
   exact X.vl (X.assign rfl (Sx.ev 21 (.bool true))) hR.st0
  intro ac u w13 hs hd hl ho hR
  have g : Gr w12 w13 := hR.1
  replace F : Fr ac 22 [(2, .bool true)] := X.fr hs hd hl _ (by kernel_rfl)
  clear hs hd hl ho hR
  replace G := G.trans g
  replace hC := hC.gr g
  replace hPP := hPP.gr g
  replace hQ9 := hQ9.gr g
  replace hO9 := hO9.gr g
  clear g
  refine X.thenN ?_
  refine Y.ret ?_
  exact Y.ret0 (v := .bool true) F (Y.rs1 F rfl (by kernel_rfl)) ⟨rfl, G⟩
 | true =>
  try rw [h8] at F
  refine Y.condT (F.ev 5 (.bool true)) ?_
  refine Y.seq ?_
  refine Y.lit (by kernel_rfl) ?_
  refine Y.pcall F (X.w0 rfl) rfl (X.enter (F := 16) rfl (X.kc (.func (.func 16) #[] #[]) rfl) rfl (enters_of Try.func16 (by kernel_rfl) rfl _)) (works_any w7) ?_
  clear F ac
  rintro e w14 ⟨rfl, g⟩
  refine ⟨_, rfl, ?_⟩
  intro ac F
  replace G := G.trans g
  replace hC := hC.gr g
  replace hPP := hPP.gr g
  clear g
  refine Y.pv F (X.assign rfl (F.ev 6 (.bool true))) ?_;clear F ac;intro ac F
  refine Y.nil ?_
  replace F : Fr ac 22 [(2, .bool true)] := F.sub _
  refine X.thenN ?_
  refine Y.ret ?_
  refine X.thenR ?_
  exact Y.ret0 (v := .bool true) F (Y.rs1 F rfl (by kernel_rfl)) ⟨rfl, G⟩
end
end Go.Proofs.Ytodedneanlekdaa
