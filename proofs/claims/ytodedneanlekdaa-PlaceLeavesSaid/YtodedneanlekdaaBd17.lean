/- Several texts of this claim in one file. (1) Contracts: the reference's covered, Proves. (2) The leaves as the search gathers them in memory. Nothing of the program is proved here. (3) The leaves as the reference gathers them: a slice that is passed on. Nothing of the program is proved here. (4) Contract: the law about Check. (5) Contract: copied. (6) Contract: the law about Proves. (7) Leaves that came in, read off their data. -/
import Derived.Test.YtodedneanlekdaaBd16
import Derived.Test.YtodedneanlekdaaBd15
import Derived.Test.YtodedneanlekdaaBd14
import Derived.Test.YtodedneanlekdaaBd5
import Derived.Test.YtodedneanlekdaaBd11
import Derived.Deep.SlicePairs
namespace Go.Proofs.Ytodedneanlekdaa
set_option linter.unusedSimpArgs false
set_option linter.unusedVariables false
section
open Go.RowKit

theorem cov_z {nh nt : Nat} {T : List (List Int)} (h : nh = 0 ∧ 0 < nt) : covB nh nt T = true := if_pos h
theorem cov_no {nh nt : Nat} {T : List (List Int)} (h : ¬ (nh = 0 ∧ 0 < nt)) (k : antiB T = false) : covB nh nt T = false := by unfold covB; rw [if_neg h, k]; rfl
theorem cov_yes {p : Pb} {E : List LfE} (h : ¬ (p.nh = 0 ∧ 0 < p.nt)) (k : antiB (E.map fun x => x.b.xs) = true) : covB p.nh p.nt (E.map fun x => x.b.xs) = decide (sumE p E E.length = p.nh ^ p.nt) := by
  unfold covB sumE; rw [if_neg h, k, List.take_length]; rfl
theorem prov_r {p : Pb} {cost : Int} {E : List LfE} (hc : chkE p = 0) (h : okE p cost E E.length) : provB p cost E = covB p.nh p.nt (E.map fun x => x.b.xs) := by
  unfold provB pvsB
  rw [decide_eq_true hc, all_okE h, strip_fst]; rfl
theorem beg_no {p : Pb} {cost why : Int} {xs : List Int} (hc : chkE p = 0) (h : ¬ begE p xs = 0) : lfB p cost (xs, why) = false := by
  unfold begE at h
  rw [if_neg (by rw [hc]; decide)] at h
  split at h
  · rename_i h1
    rcases h1 with h1 | h1
    · exact lf_1 (by omega)
    · exact lf_2 h1
  · exact absurd rfl h
theorem beg_yes {p : Pb} {xs : List Int} (h : begE p xs = 0) : chkE p = 0 ∧ xs.length ≤ p.nt ∧ hosB p xs = true := by
  obtain ⟨h1, _, h2, h3⟩ := beg_ok h
  exact ⟨h1, h2, hosB_iff.2 h3⟩
theorem lfB_len {p : Pb} {cost why : Int} {xs : List Int} (h : lfB p cost (xs, why) = true) : xs.length ≤ p.nt := by
  unfold lfB at h
  rw [Bool.and_eq_true, Bool.and_eq_true, decide_eq_true_eq] at h
  exact h.1.1
set_option maxRecDepth 100000 in
set_option maxHeartbeats 4000000 in
theorem covered_any (p : Pb) (ta ha ba la : Option Addr) (tc hc bc lc : Nat) (la9 : Option Addr) (lc9 : Nat) (E : List LfE) (w : World) (hP : PbAt w p ta ha ba la tc hc bc lc) (hp : PbOk p) (hL : LfAt w la9 E) (hE : E.length ≤ 5000) (hlen : ∀ (i : Nat) (x : LfE), E[i]? = some x → x.b.xs.length ≤ p.nt) :
  Calls Try.prog 92 #[.agg #[.slice ta p.nt tc, .slice ha p.nh hc, .slice ba p.nb bc, .slice la p.nl lc], .slice la9 E.length lc9] w fun e w' => e = .returned (.bool (covB p.nh p.nt (E.map fun x => x.b.xs))) ∧ Gr w w' := by
 have G := Gr.refl w
 have hpt := hP.t
 have hph := hP.h
 have hpb := hP.b
 have hpl := hP.l
 have hplen := hP.len
 obtain ⟨hn1, hn2, hn3, hn4⟩ := hplen
 have hcp1 := hpt.cap
 have hcp2 := hph.cap
 have hcp3 := hpb.cap
 have hcp4 := hpl.cap
 have hl := hL
 have hh6 := hp.h6
 have hnt10 := hp.t10
 refine Y.calls 84 Try.func92 rfl rfl ?_
 intro ac F0
 have F : Fr ac 84 [(0, .agg #[.slice ta p.nt tc, .slice ha p.nh hc, .slice ba p.nb bc, .slice la p.nl lc]), (1, .slice la9 E.length lc9)] := F0.sub _
 clear F0
 refine Y.sl ?_
 have hgs3 : w.heap.size ≤ w.heap.size := G.size
 refine Y.pv F (X.box rfl (F.ev 0 (.agg #[.slice ta p.nt tc, .slice ha p.nh hc, .slice ba p.nb bc, .slice la p.nl lc])) X.bx) ?_;clear F ac;intro ac F
 have hgs5 : w.heap.size ≤ w.heap.size := G.size
 obtain ⟨w6, hw_, g, hb, hbl, hC2⟩ := Y.bxd (RCells.nil w) #[.slice ta p.nt tc, .slice ha p.nh hc, .slice ba p.nb bc, .slice la p.nl lc] 27;rw [hw_];clear hw_
 replace G := G.trans g
 have hC := hC2
 clear hC2
 replace hpt := hpt.gr g
 replace hph := hph.gr g
 replace hpb := hpb.gr g
 replace hpl := hpl.gr g
 replace hl := hl.gr g
 have hsz4 := hbl
 clear g hb hbl
 refine Y.pv F (X.assign rfl (X.kc (.bool false) rfl)) ?_;clear F ac;intro ac F
 refine Y.nt F [(1, .slice la9 E.length lc9), (2, Vp w.heap.size)] ?_;clear F ac;intro ac F
 refine Y.seqJ (fun ac wr => w6 = wr ∧ ¬ (p.nh = 0 ∧ 0 < p.nt) ∧ Fr ac 84 [(1, .slice la9 E.length lc9), (2, Vp w.heap.size)]) ?_ ?_
 ·refine Y.seq ?_
  refine Y.lit (by kernel_rfl) ?_
  refine Y.pv4 F (X.field rfl (F.ev 2 (Vp w.heap.size)) (X.fld Try.underlying27 rfl (Try.siz23 _) rfl rfl)) (fun _ F=>X.load rfl (F.ev 12 (.pointer (some ⟨w.heap.size, 1, none⟩))) (X.ld1 (Try.agg23 _) (hC.at 1 rfl))) (fun _ F=>X.len1 Try.underlying23 rfl (F.ev 13 (.slice ha p.nh hc))) (fun _ F=>X.binop rfl (F.ev 14 (Vi p.nh)) (X.kc (Vi 0) rfl) (X.eqlI Try.underlying3 rfl)) ?_;clear F ac;intro ac F
  refine Y.pv F (X.move rfl (F.ev 15 (.bool ((p.nh : Int) == 0)))) ?_;clear F ac;intro ac F
  cases h7 : ((p.nh : Int) == 0) with
  | false =>
   try rw [h7] at F
   have h7p : ¬ (p.nh : Int) = 0 := by simpa using h7
   refine Y.ps F 4 16 false ?_;clear F ac;intro ac F
   refine Y.ps F 4 16 false ?_;clear F ac;intro ac F
   refine Y.ps F 4 16 false ?_;clear F ac;intro ac F
   refine Y.ps F 4 16 false ?_;clear F ac;intro ac F
   refine Y.pv F (X.pickF rfl (F.ev 16 (.bool false)) (X.kc (.bool false) rfl)) ?_;clear F ac;intro ac F
   refine Y.nt F [(1, .slice la9 E.length lc9), (2, Vp w.heap.size), (21, .bool false)] ?_;clear F ac;intro ac F
   refine Y.condF (F.ev 21 (.bool false)) ?_
   refine Y.skip ?_
   refine X.thenN ?_
   exact ⟨rfl, by omega, F.sub _⟩
  | true =>
   try rw [h7] at F
   have h7p : (p.nh : Int) = 0 := by simpa using h7
   refine Y.pg F 4 16 true (X.field rfl (F.ev 2 (Vp w.heap.size)) (X.fld Try.underlying27 rfl (Try.siz22 _) rfl rfl)) ?_;clear F ac;intro ac F
   refine Y.pg F 4 16 true (X.load rfl (F.ev 17 (Vp w.heap.size)) (X.ld1 (Try.agg22 _) (hC.at 0 rfl))) ?_;clear F ac;intro ac F
   refine Y.pg F 4 16 true (X.len1 Try.underlying22 rfl (F.ev 18 (.slice ta p.nt tc))) ?_;clear F ac;intro ac F
   refine Y.pg F 4 16 true (X.binop rfl (F.ev 19 (Vi p.nt)) (X.kc (Vi 0) rfl) (X.gtrI Try.underlying3 rfl)) ?_;clear F ac;intro ac F
   refine Y.pv F (X.pickT rfl (F.ev 16 (.bool true)) (F.ev 20 (.bool (decide ((0 : Int) < p.nt))))) ?_;clear F ac;intro ac F
   refine Y.nt F [(1, .slice la9 E.length lc9), (2, Vp w.heap.size), (21, .bool (decide ((0 : Int) < p.nt)))] ?_;clear F ac;intro ac F
   cases h8 : decide ((0 : Int) < p.nt) with
   | false =>
    try rw [h8] at F
    have h8p : ¬ ((0 : Int) < p.nt) := of_decide_eq_false h8
    refine Y.condF (F.ev 21 (.bool false)) ?_
    refine Y.skip ?_
    refine X.thenN ?_
    exact ⟨rfl, by omega, F.sub _⟩
   | true =>
    try rw [h8] at F
    have h8p : ((0 : Int) < p.nt) := of_decide_eq_true h8
    refine Y.condT (F.ev 21 (.bool true)) ?_
    refine Y.sg F [(4, .bool true)] (Y.pv F (X.assign rfl (X.kc (.bool true) rfl)) fun ac F=>Y.fin F) ?_;clear F ac;intro ac F
    refine Y.ret ?_
    refine X.thenR ?_
    exact Y.ret0 (v := .bool true) F (Y.r1 F) ⟨by rw [cov_z (by omega)], G⟩
 ·clear F ac
  rintro ac _ ⟨rfl, hz9, F⟩
  refine Y.sg F [(1, .slice la9 E.length lc9), (2, Vp w.heap.size), (5, Vi 1), (6, Vi 0)] (Y.pv F (X.assign rfl (X.kc (Vi 1) rfl)) fun ac F=>Y.pv F (X.assign rfl (X.kc (Vi 0) rfl)) fun ac F=>Y.fin F) ?_;clear F ac;intro ac F
  refine Y.seq ?_
  refine Y.sg F [(1, .slice la9 E.length lc9), (2, Vp w.heap.size), (5, Vi 1), (6, Vi 0), (7, Vi 0)] (Y.pv F (X.assign rfl (X.kc (Vi 0) rfl)) fun ac F=>Y.fin F) ?_;clear F ac;intro ac F
  refine Y.block ?_
  refine Y.loop (fun me_ ac wr => ∃ (m : Nat), me_ = p.nt - m ∧ Only (fun b => False) w6 wr ∧ m ≤ p.nt ∧ Fr ac 84 [(1, .slice la9 E.length lc9), (2, Vp w.heap.size), (5, Vi ((p.nh ^ m : Nat) : Int)), (6, Vi 0), (7, Vi m)]) _ ⟨0, rfl, Only.refl _ _, Nat.zero_le _, F.sub _⟩ ?_
  have hptB1 := hpt
  have hphB1 := hph
  have hpbB1 := hpb
  have hplB1 := hpl
  have hlB1 := hl
  have GB1 := G
  have hCB1 := hC
  clear F ac
  intro me_ ac w9 hI
  obtain ⟨m, rfl, hO1, hm, F⟩ := hI
  replace G := GB1.trans (hO1.gr (fun _ _ h => h))
  replace hpt := (hP.t).gr G
  replace hph := (hP.h).gr G
  replace hpb := (hP.b).gr G
  replace hpl := (hP.l).gr G
  replace hl := (hL).gr G
  replace hC := (RCells.cons (hO1.cell (hCB1.at 0 rfl) (fun h => h)) (RCells.cons (hO1.cell (hCB1.at 1 rfl) (fun h => h)) (RCells.cons (hO1.cell (hCB1.at 2 rfl) (fun h => h)) (RCells.cons (hO1.cell (hCB1.at 3 rfl) (fun h => h)) (RCells.nil _)))))
  refine Y.seq ?_
  refine Y.sg F [(1, .slice la9 E.length lc9), (2, Vp w.heap.size), (5, Vi ((p.nh ^ m : Nat) : Int)), (6, Vi 0), (7, Vi m), (26, .bool (decide ((m : Int) < p.nt)))] (by
   refine Y.pv F (X.move rfl (F.ev 7 (Vi m))) fun ac F=>?_
   refine Y.pv F (X.field rfl (F.ev 2 (Vp w.heap.size)) (X.fld Try.underlying27 rfl (Try.siz22 _) rfl rfl)) fun ac F=>?_
   refine Y.pv F (X.load rfl (F.ev 23 (Vp w.heap.size)) (X.ld1 (Try.agg22 _) (hC.at 0 rfl))) fun ac F=>?_
   refine Y.pv F (X.len1 Try.underlying22 rfl (F.ev 24 (.slice ta p.nt tc))) fun ac F=>?_
   refine Y.pv F (X.binop rfl (F.ev 22 (Vi m)) (F.ev 25 (Vi p.nt)) (X.lssI Try.underlying3 rfl)) fun ac F=>?_
   exact Y.fin F) ?_;clear F ac;intro ac F
  cases h10 : decide ((m : Int) < p.nt) with
  | false =>
   try rw [h10] at F
   have h10p : ¬ ((m : Int) < p.nt) := of_decide_eq_false h10
   obtain rfl : m = p.nt := by omega
   refine Y.condF (F.ev 26 (.bool false)) ?_
   refine Y.exit ?_
   refine X.thenX (X.thenX (X.blockX (X.thenN ?_)))
   refine Y.seq ?_
   refine Y.sg F [(1, .slice la9 E.length lc9), (2, Vp w.heap.size), (5, Vi ((p.nh ^ p.nt : Nat) : Int)), (6, Vi 0), (8, Vi 0)] (Y.pv F (X.assign rfl (X.kc (Vi 0) rfl)) fun ac F=>Y.fin F) ?_;clear F ac;intro ac F
   refine Y.block ?_
   refine Y.loop (fun me_ ac wr => ∃ (i : Nat), me_ = E.length - i ∧ Only (fun b => False) w9 wr ∧ i ≤ E.length ∧ antN (E.map fun x => x.b.xs) i ∧ Fr ac 84 [(1, .slice la9 E.length lc9), (2, Vp w.heap.size), (5, Vi ((p.nh ^ p.nt : Nat) : Int)), (6, Vi ((sumE p E i : Nat) : Int)), (8, Vi i)]) _ ⟨0, rfl, Only.refl _ _, Nat.zero_le _, fun a b h => by omega, F.sub _⟩ ?_
   have hptB1 := hpt
   have hphB1 := hph
   have hpbB1 := hpb
   have hplB1 := hpl
   have hlB1 := hl
   have GB1 := G
   have hCB1 := hC
   clear F ac
   intro me_ ac w11 hI
   obtain ⟨i, rfl, hO1, hi, han, F⟩ := hI
   replace G := GB1.trans (hO1.gr (fun _ _ h => h))
   replace hpt := (hP.t).gr G
   replace hph := (hP.h).gr G
   replace hpb := (hP.b).gr G
   replace hpl := (hP.l).gr G
   replace hl := (hL).gr G
   replace hC := (RCells.cons (hO1.cell (hCB1.at 0 rfl) (fun h => h)) (RCells.cons (hO1.cell (hCB1.at 1 rfl) (fun h => h)) (RCells.cons (hO1.cell (hCB1.at 2 rfl) (fun h => h)) (RCells.cons (hO1.cell (hCB1.at 3 rfl) (fun h => h)) (RCells.nil _)))))
   have hsl := sumE_le (E := E) hp i
   refine Y.seq ?_
   refine Y.sg F [(1, .slice la9 E.length lc9), (2, Vp w.heap.size), (5, Vi ((p.nh ^ p.nt : Nat) : Int)), (6, Vi ((sumE p E i : Nat) : Int)), (8, Vi i), (37, .bool (decide ((i : Int) < E.length)))] (Y.pv F (X.move rfl (F.ev 8 (Vi i))) fun ac F=>Y.pv F (X.move rfl (F.ev 1 (.slice la9 E.length lc9))) fun ac F=>Y.pv F (X.len1 Try.underlying45 rfl (F.ev 35 (.slice la9 E.length lc9))) fun ac F=>Y.pv F (X.binop rfl (F.ev 34 (Vi i)) (F.ev 36 (Vi E.length)) (X.lssI Try.underlying3 rfl)) fun ac F=>Y.fin F) ?_;clear F ac;intro ac F
   cases h12 : decide ((i : Int) < E.length) with
   | false =>
    try rw [h12] at F
    have h12p : ¬ ((i : Int) < E.length) := of_decide_eq_false h12
    obtain rfl : i = E.length := by omega
    refine Y.condF (F.ev 37 (.bool false)) ?_
    refine Y.exit ?_
    refine X.thenX (X.thenX (X.blockX (X.thenN ?_)))
    refine Y.sg F [(4, .bool ((((sumE p E E.length : Nat) : Int) : Int) == ((p.nh ^ p.nt : Nat) : Int)))] (Y.pv F (X.move rfl (F.ev 6 (Vi ((sumE p E E.length : Nat) : Int)))) fun ac F=>Y.pv F (X.move rfl (F.ev 5 (Vi ((p.nh ^ p.nt : Nat) : Int)))) fun ac F=>Y.pv F (X.binop rfl (F.ev 81 (Vi ((sumE p E E.length : Nat) : Int))) (F.ev 82 (Vi ((p.nh ^ p.nt : Nat) : Int))) (X.eqlI Try.underlying3 rfl)) fun ac F=>Y.pv F (X.assign rfl (F.ev 83 (.bool ((((sumE p E E.length : Nat) : Int) : Int) == ((p.nh ^ p.nt : Nat) : Int))))) fun ac F=>Y.fin F) ?_;clear F ac;intro ac F
    refine Y.ret ?_
    exact Y.ret0 (v := .bool ((((sumE p E E.length : Nat) : Int) : Int) == ((p.nh ^ p.nt : Nat) : Int))) F (Y.r1 F) ⟨by rw [cov_yes (by omega) (anti_yes (by rw [List.length_map]; exact han)), int_eq], G⟩
   | true =>
    try rw [h12] at F
    have h12p : ((i : Int) < E.length) := of_decide_eq_true h12
    refine Y.condT (F.ev 37 (.bool true)) ?_
    refine Y.skip ?_
    refine X.thenN ?_
    refine Y.seq ?_
    refine Y.block ?_
    refine Y.sg F [(1, .slice la9 E.length lc9), (2, Vp w.heap.size), (5, Vi ((p.nh ^ p.nt : Nat) : Int)), (6, Vi ((sumE p E i : Nat) : Int)), (8, Vi i), (9, Vi ((p.nh ^ p.nt : Nat) : Int))] (Y.pv F (X.move rfl (F.ev 5 (Vi ((p.nh ^ p.nt : Nat) : Int)))) fun ac F=>Y.pv F (X.assign rfl (F.ev 40 (Vi ((p.nh ^ p.nt : Nat) : Int)))) fun ac F=>Y.fin F) ?_;clear F ac;intro ac F
    refine Y.seq ?_
    refine Y.sg F [(1, .slice la9 E.length lc9), (2, Vp w.heap.size), (5, Vi ((p.nh ^ p.nt : Nat) : Int)), (6, Vi ((sumE p E i : Nat) : Int)), (8, Vi i), (9, Vi ((p.nh ^ p.nt : Nat) : Int)), (10, Vi 0)] (Y.pv F (X.assign rfl (X.kc (Vi 0) rfl)) fun ac F=>Y.fin F) ?_;clear F ac;intro ac F
    refine Y.block ?_
    obtain ⟨xi, hxxi⟩ : ∃ x, E[i]? = some x := ⟨_, List.getElem?_eq_getElem (by omega)⟩
    have hlnxi := hlen i xi hxxi
    refine Y.loop (fun me_ ac wr => ∃ (k : Nat), me_ = xi.b.xs.length - k ∧ Only (fun b => False) w11 wr ∧ k ≤ xi.b.xs.length ∧ Fr ac 84 [(1, .slice la9 E.length lc9), (2, Vp w.heap.size), (5, Vi ((p.nh ^ p.nt : Nat) : Int)), (6, Vi ((sumE p E i : Nat) : Int)), (8, Vi i), (9, Vi ((p.nh ^ (p.nt - k) : Nat) : Int)), (10, Vi k)]) _ ⟨0, rfl, Only.refl _ _, Nat.zero_le _, F.sub _⟩ ?_
    have hptB2 := hpt
    have hphB2 := hph
    have hpbB2 := hpb
    have hplB2 := hpl
    have hlB2 := hl
    have GB2 := G
    have hCB2 := hC
    clear F ac
    intro me_ ac w13 hI
    obtain ⟨k, rfl, hO2, hk, F⟩ := hI
    replace G := GB2.trans (hO2.gr (fun _ _ h => h))
    replace hpt := (hP.t).gr G
    replace hph := (hP.h).gr G
    replace hpb := (hP.b).gr G
    replace hpl := (hP.l).gr G
    replace hl := (hL).gr G
    replace hC := (RCells.cons (hO2.cell (hCB2.at 0 rfl) (fun h => h)) (RCells.cons (hO2.cell (hCB2.at 1 rfl) (fun h => h)) (RCells.cons (hO2.cell (hCB2.at 2 rfl) (fun h => h)) (RCells.cons (hO2.cell (hCB2.at 3 rfl) (fun h => h)) (RCells.nil _)))))
    replace hO1 := hO1.step2 hO2 (fun r e => False.elim e)
    refine Y.seq ?_
    refine Y.sl ?_
    refine Y.pv3 F (X.move rfl (F.ev 10 (Vi k))) (fun _ F=>X.move rfl (F.ev 1 (.slice la9 E.length lc9))) (fun _ F=>X.move rfl (F.ev 8 (Vi i))) ?_;clear F ac;intro ac F
    obtain ⟨pd14, pe14, pc14, pw14, pI14, pl14⟩ := hl i xi hxxi
    subst pe14
    replace hC := hC.append (show RCells w13 (Y.cs (pd14.add (i * 2)) [.slice xi.b.a xi.b.xs.length xi.b.c, Vi xi.why]) from (RCells.cons pc14 (RCells.cons pw14 (RCells.nil _))))
    clear pc14
    refine Y.pv4 F (X.index rfl (F.ev 42 (.slice (some pd14) E.length lc9)) (F.ev 43 (Vi i)) (X.idx (k := i) Try.underlying45 (Try.siz49 _) (by omega) (by omega) rfl)) (fun _ F=>X.field rfl (F.ev 44 (.pointer (some (pd14.add (i * 2))))) (X.fld Try.underlying49 rfl (Try.siz34 _) rfl rfl)) (fun _ F=>X.load rfl (F.ev 45 (.pointer (some (pd14.add (i * 2))))) (X.ld1 (Try.agg34 _) (hC.at 4 rfl))) (fun _ F=>X.len1 Try.underlying34 rfl (F.ev 46 (.slice xi.b.a xi.b.xs.length xi.b.c))) ?_;clear F ac;intro ac F
    refine Y.pv F (X.binop rfl (F.ev 41 (Vi k)) (F.ev 47 (Vi xi.b.xs.length)) (X.lssI Try.underlying3 rfl)) ?_;clear F ac;intro ac F
    refine Y.nt F [(1, .slice (some pd14) E.length lc9), (2, Vp w.heap.size), (5, Vi ((p.nh ^ p.nt : Nat) : Int)), (6, Vi ((sumE p E i : Nat) : Int)), (8, Vi i), (9, Vi ((p.nh ^ (p.nt - k) : Nat) : Int)), (10, Vi k), (48, .bool (decide ((k : Int) < xi.b.xs.length)))] ?_;clear F ac;intro ac F
    cases h15 : decide ((k : Int) < xi.b.xs.length) with
    | false =>
     try rw [h15] at F
     have h15p : ¬ ((k : Int) < xi.b.xs.length) := of_decide_eq_false h15
     obtain rfl : k = xi.b.xs.length := by omega
     have hpw9 := pow_sm hh6 (show p.nt - xi.b.xs.length ≤ 10 by omega)
     refine Y.condF (F.ev 48 (.bool false)) ?_
     refine Y.exit ?_
     refine X.thenX (X.thenX (X.blockX (X.thenN ?_)))
     refine Y.sg F [(1, .slice (some pd14) E.length lc9), (2, Vp w.heap.size), (5, Vi ((p.nh ^ p.nt : Nat) : Int)), (6, Vi ((((sumE p E i : Nat) : Int) : Int) + ((p.nh ^ (p.nt - xi.b.xs.length) : Nat) : Int))), (8, Vi i)] (by
      refine Y.pv F (X.move rfl (F.ev 6 (Vi ((sumE p E i : Nat) : Int)))) fun ac F=>?_
      refine Y.pv F (X.move rfl (F.ev 9 (Vi ((p.nh ^ (p.nt - xi.b.xs.length) : Nat) : Int)))) fun ac F=>?_
      refine Y.pv F (X.binop rfl (F.ev 56 (Vi ((sumE p E i : Nat) : Int))) (F.ev 57 (Vi ((p.nh ^ (p.nt - xi.b.xs.length) : Nat) : Int))) (X.addI Try.underlying3 rfl (by omega) (by omega))) fun ac F=>?_
      refine Y.pv F (X.assign rfl (F.ev 58 (Vi ((((sumE p E i : Nat) : Int) : Int) + ((p.nh ^ (p.nt - xi.b.xs.length) : Nat) : Int))))) fun ac F=>?_
      exact Y.fin F) ?_;clear F ac;intro ac F
     refine Y.sg F [(1, .slice (some pd14) E.length lc9), (2, Vp w.heap.size), (5, Vi ((p.nh ^ p.nt : Nat) : Int)), (6, Vi ((((sumE p E i : Nat) : Int) : Int) + ((p.nh ^ (p.nt - xi.b.xs.length) : Nat) : Int))), (8, Vi i), (11, Vi 0)] (Y.pv F (X.assign rfl (X.kc (Vi 0) rfl)) fun ac F=>Y.fin F) ?_;clear F ac;intro ac F
     refine Y.block ?_
     refine Y.loop (fun me_ ac wr => ∃ (k : Nat), me_ = E.length - k ∧ Only (fun b => False) w13 wr ∧ k ≤ E.length ∧ (∀ b, b < k → b ≠ i → ((E.map fun x => x.b.xs)[i]?.getD []).isPrefixOf ((E.map fun x => x.b.xs)[b]?.getD []) = false) ∧ Fr ac 84 [(1, .slice (some pd14) E.length lc9), (2, Vp w.heap.size), (5, Vi ((p.nh ^ p.nt : Nat) : Int)), (6, Vi ((((sumE p E i : Nat) : Int) : Int) + ((p.nh ^ (p.nt - xi.b.xs.length) : Nat) : Int))), (8, Vi i), (11, Vi k)]) _ ⟨0, rfl, Only.refl _ _, Nat.zero_le _, fun b h => by omega, F.sub _⟩ ?_
     have hptB2 := hpt
     have hphB2 := hph
     have hpbB2 := hpb
     have hplB2 := hpl
     have hlB2 := hl
     have pI14B2 := pI14
     have GB2 := G
     have hCB2 := hC
     clear F ac
     intro me_ ac w16 hI
     obtain ⟨k, rfl, hO2, hk, han2, F⟩ := hI
     replace G := GB2.trans (hO2.gr (fun _ _ h => h))
     replace hpt := (hP.t).gr G
     replace hph := (hP.h).gr G
     replace hpb := (hP.b).gr G
     replace hpl := (hP.l).gr G
     replace hl := (hL).gr G
     replace pI14 := pI14B2.gr (hO2.gr (fun _ _ h => h))
     replace hC := (RCells.cons (hO2.cell (hCB2.at 0 rfl) (fun h => h)) (RCells.cons (hO2.cell (hCB2.at 1 rfl) (fun h => h)) (RCells.cons (hO2.cell (hCB2.at 2 rfl) (fun h => h)) (RCells.cons (hO2.cell (hCB2.at 3 rfl) (fun h => h)) (RCells.cons (hO2.cell (hCB2.at 4 rfl) (fun h => h)) (RCells.cons (hO2.cell (hCB2.at 5 rfl) (fun h => h)) (RCells.nil _)))))))
     replace hO1 := hO1.step2 hO2 (fun r e => False.elim e)
     refine Y.seq ?_
     refine Y.sg F [(1, .slice (some pd14) E.length lc9), (2, Vp w.heap.size), (5, Vi ((p.nh ^ p.nt : Nat) : Int)), (6, Vi ((((sumE p E i : Nat) : Int) : Int) + ((p.nh ^ (p.nt - xi.b.xs.length) : Nat) : Int))), (8, Vi i), (11, Vi k), (62, .bool (decide ((k : Int) < E.length)))] (Y.pv F (X.move rfl (F.ev 11 (Vi k))) fun ac F=>Y.pv F (X.move rfl (F.ev 1 (.slice (some pd14) E.length lc9))) fun ac F=>Y.pv F (X.len1 Try.underlying45 rfl (F.ev 60 (.slice (some pd14) E.length lc9))) fun ac F=>Y.pv F (X.binop rfl (F.ev 59 (Vi k)) (F.ev 61 (Vi E.length)) (X.lssI Try.underlying3 rfl)) fun ac F=>Y.fin F) ?_;clear F ac;intro ac F
     cases h17 : decide ((k : Int) < E.length) with
     | false =>
      try rw [h17] at F
      have h17p : ¬ ((k : Int) < E.length) := of_decide_eq_false h17
      obtain rfl : k = E.length := by omega
      refine Y.condF (F.ev 62 (.bool false)) ?_
      refine Y.exit ?_
      refine X.thenX (X.thenX (X.blockX (X.blockN (X.thenN ?_))))
      refine Y.lg F [(1, .slice (some pd14) E.length lc9), (2, Vp w.heap.size), (5, Vi ((p.nh ^ p.nt : Nat) : Int)), (6, Vi ((((sumE p E i : Nat) : Int) : Int) + ((p.nh ^ (p.nt - xi.b.xs.length) : Nat) : Int))), (8, Vi ((i : Int) + 1))] (by
       refine Y.pv F (X.move rfl (F.ev 8 (Vi i))) fun ac F=>?_
       refine Y.pv F (X.binop rfl (F.ev 38 (Vi i)) (X.kc (Vi 1) rfl) (X.addI Try.underlying3 rfl (by omega) (by omega))) fun ac F=>?_
       refine Y.pv F (X.assign rfl (F.ev 39 (Vi ((i : Int) + 1)))) fun ac F=>?_
       exact Y.fin F) ?_;clear F ac;intro ac F
      refine ⟨_, ?_, i + 1, rfl, hO1, by omega, fun a b h1 h2 h3 => if e : a = i then by subst e; rw [List.length_map] at h2; exact han2 b (by omega) h3 else han a b (by omega) h2 h3, (by rw [sumE_s hxxi, Int.natCast_add]; exact F.sub _)⟩
      omega
     | true =>
      try rw [h17] at F
      have h17p : ((k : Int) < E.length) := of_decide_eq_true h17
      refine Y.condT (F.ev 62 (.bool true)) ?_
      refine Y.skip ?_
      refine X.thenN ?_
      refine Y.seq ?_
      refine Y.block ?_
      refine Y.seq ?_
      cases h18 : ((k : Int) != i) with
      | false =>
       try rw [h18] at F
       have h18p : (k : Int) = i := by simpa using h18
       have hkne : k = i := by omega
       refine Y.region F [some (Vi k), some (Vi i), some (.bool false), some (.bool false), none, none, none, none, none, none, none, none, none, none, none, some (.bool false)] [] rfl ⟨by kernel_rfl, of_decide_eq_true (by kernel_rfl), by kernel_rfl, by kernel_rfl, by kernel_rfl⟩ ⟨?_, ?_, ?_, ?_, ?_, ?_, ?_, ?_, ?_, ?_, ?_, ?_, ?_, ?_, ?_, ?_, trivial⟩ ?_
       ·intro ac done u W Sx hR
        exact X.vl (X.move rfl (Sx.ev 11 (Vi k))) hR.st0
       ·intro ac done u W Sx hR
        exact X.vl (X.move rfl (Sx.ev 8 (Vi i))) hR.st0
       ·intro ac done u W Sx hR
        exact X.vl (X.binop rfl (Sx.ev 65 (Vi k)) (Sx.ev 66 (Vi i)) (X.neqI Try.underlying3 h18)) hR.st0
       ·intro ac done u W Sx hR
        exact X.vl (X.move rfl (Sx.ev 67 (.bool false))) hR.st0
       ·intro ac done u W Sx hR
        exact X.skip (X.w2 rfl (Sx.yl 3 68 false (by kernel_rfl) rfl rfl) rfl) rfl (hR.skip rfl)
       ·intro ac done u W Sx hR
        exact X.skip (X.w2 rfl (Sx.yl 3 68 false (by kernel_rfl) rfl rfl) rfl) rfl (hR.skip rfl)
       ·intro ac done u W Sx hR
        exact X.skip (X.w2 rfl (Sx.yl 3 68 false (by kernel_rfl) rfl rfl) rfl) rfl (hR.skip rfl)
       ·intro ac done u W Sx hR
        exact X.skip (X.w2 rfl (Sx.yl 3 68 false (by kernel_rfl) rfl rfl) rfl) rfl (hR.skip rfl)
       ·intro ac done u W Sx hR
        exact X.skip (X.w2 rfl (Sx.yl 3 68 false (by kernel_rfl) rfl rfl) rfl) rfl (hR.skip rfl)
       ·intro ac done u W Sx hR
        exact X.skip (X.w2 rfl (Sx.yl 3 68 false (by kernel_rfl) rfl rfl) rfl) rfl (hR.skip rfl)
       ·intro ac done u W Sx hR
        exact X.skip (X.w2 rfl (Sx.yl 3 68 false (by kernel_rfl) rfl rfl) rfl) rfl (hR.skip rfl)
       ·intro ac done u W Sx hR
        exact X.skip (X.w2 rfl (Sx.yl 3 68 false (by kernel_rfl) rfl rfl) rfl) rfl (hR.skip rfl)
       ·intro ac done u W Sx hR
        exact X.skip (X.w2 rfl (Sx.yl 3 68 false (by kernel_rfl) rfl rfl) rfl) rfl (hR.skip rfl)
       ·intro ac done u W Sx hR
        exact X.skip (X.w2 rfl (Sx.yl 3 68 false (by kernel_rfl) rfl rfl) rfl) rfl (hR.skip rfl)
       ·intro ac done u W Sx hR
        exact X.skip (X.w2 rfl (Sx.yl 3 68 false (by kernel_rfl) rfl rfl) rfl) rfl (hR.skip rfl)
       ·intro ac done u W Sx hR
        exact X.vl (X.pickF rfl (Sx.ev 68 (.bool false)) (X.kc (.bool false) rfl)) hR.st0
       intro ac u w19 hs hd hl ho hR
       have g : Gr w16 w19 := hR.1
       replace F : Fr ac 84 [(1, .slice (some pd14) E.length lc9), (2, Vp w.heap.size), (5, Vi ((p.nh ^ p.nt : Nat) : Int)), (6, Vi ((((sumE p E i : Nat) : Int) : Int) + ((p.nh ^ (p.nt - xi.b.xs.length) : Nat) : Int))), (8, Vi i), (11, Vi k), (80, .bool false)] := X.fr hs hd hl _ (by kernel_rfl)
       clear hs hd hl ho hR
       replace G := G.trans g
       replace hC := hC.gr g
       replace hO1 := hO1.thenGr g
       replace hO2 := hO2.thenGr g
       replace hpt := hpt.gr g
       replace hph := hph.gr g
       replace hpb := hpb.gr g
       replace hpl := hpl.gr g
       replace hl := hl.gr g
       replace pI14 := pI14.gr g
       clear g
       refine X.thenN ?_
       refine Y.condF (F.ev 80 (.bool false)) ?_
       refine Y.skip ?_
       refine X.blockN (X.thenN ?_)
       refine Y.lg F [(1, .slice (some pd14) E.length lc9), (2, Vp w.heap.size), (5, Vi ((p.nh ^ p.nt : Nat) : Int)), (6, Vi ((((sumE p E i : Nat) : Int) : Int) + ((p.nh ^ (p.nt - xi.b.xs.length) : Nat) : Int))), (8, Vi i), (11, Vi ((k : Int) + 1))] (by
        refine Y.pv F (X.move rfl (F.ev 11 (Vi k))) fun ac F=>?_
        refine Y.pv F (X.binop rfl (F.ev 63 (Vi k)) (X.kc (Vi 1) rfl) (X.addI Try.underlying3 rfl (by omega) (by omega))) fun ac F=>?_
        refine Y.pv F (X.assign rfl (F.ev 64 (Vi ((k : Int) + 1)))) fun ac F=>?_
        exact Y.fin F) ?_;clear F ac;intro ac F
       refine ⟨_, ?_, k + 1, rfl, hO2, by omega, fun b h1 h2 => if e : b = k then by omega else han2 b (by omega) h2, F.sub _⟩
       omega
      | true =>
       try rw [h18] at F
       have h18p : ¬ (k : Int) = i := by simpa using h18
       have hkne : ¬ k = i := by omega
       obtain ⟨xk, hxxk⟩ : ∃ x, E[k]? = some x := ⟨_, List.getElem?_eq_getElem (by omega)⟩
       have hlnxk := hlen k xk hxxk
       obtain ⟨pd20, pe20, pc20, pw20, pI20, pl20⟩ := hl k xk hxxk
       injection pe20 with pe20
       subst pe20
       replace hC := hC.append (show RCells w16 (Y.cs (pd14.add (k * 2)) [.slice xk.b.a xk.b.xs.length xk.b.c, Vi xk.why]) from (RCells.cons pc20 (RCells.cons pw20 (RCells.nil _))))
       clear pc20
       refine Y.region F [some (Vi k), some (Vi i), some (.bool true), some (.bool true), some (.slice (some pd14) E.length lc9), some (Vi k), some (.pointer (some (pd14.add (k * 2)))), some (.pointer (some (pd14.add (k * 2)))), some (.slice xk.b.a xk.b.xs.length xk.b.c), some (.slice (some pd14) E.length lc9), some (Vi i), some (.pointer (some (pd14.add (i * 2)))), some (.pointer (some (pd14.add (i * 2)))), some (.slice xi.b.a xi.b.xs.length xi.b.c), some (.bool (xi.b.xs.isPrefixOf xk.b.xs)), some (.bool (xi.b.xs.isPrefixOf xk.b.xs))] [] rfl ⟨by kernel_rfl, of_decide_eq_true (by kernel_rfl), by kernel_rfl, by kernel_rfl, by kernel_rfl⟩ ⟨?_, ?_, ?_, ?_, ?_, ?_, ?_, ?_, ?_, ?_, ?_, ?_, ?_, ?_, ?_, ?_, trivial⟩ ?_
       ·intro ac done u W Sx hR
        exact X.vl (X.move rfl (Sx.ev 11 (Vi k))) hR.st0
       ·intro ac done u W Sx hR
        exact X.vl (X.move rfl (Sx.ev 8 (Vi i))) hR.st0
       ·intro ac done u W Sx hR
        exact X.vl (X.binop rfl (Sx.ev 65 (Vi k)) (Sx.ev 66 (Vi i)) (X.neqI Try.underlying3 h18)) hR.st0
       ·intro ac done u W Sx hR
        exact X.vl (X.move rfl (Sx.ev 67 (.bool true))) hR.st0
       ·intro ac done u W Sx hR
        exact X.val (X.w1 rfl (Sx.yl 3 68 true (by kernel_rfl) rfl rfl)) rfl (X.move rfl (Sx.ev 1 (.slice (some pd14) E.length lc9))) hR.st0
       ·intro ac done u W Sx hR
        exact X.val (X.w1 rfl (Sx.yl 3 68 true (by kernel_rfl) rfl rfl)) rfl (X.move rfl (Sx.ev 11 (Vi k))) hR.st0
       ·intro ac done u W Sx hR
        exact X.val (X.w1 rfl (Sx.yl 3 68 true (by kernel_rfl) rfl rfl)) rfl (X.index rfl (Sx.ev 69 (.slice (some pd14) E.length lc9)) (Sx.ev 70 (Vi k)) (X.idx (k := k) Try.underlying45 (Try.siz49 _) (by omega) (by omega) rfl)) hR.st0
       ·intro ac done u W Sx hR
        exact X.val (X.w1 rfl (Sx.yl 3 68 true (by kernel_rfl) rfl rfl)) rfl (X.field rfl (Sx.ev 71 (.pointer (some (pd14.add (k * 2))))) (X.fld Try.underlying49 rfl (Try.siz34 _) rfl rfl)) hR.st0
       ·intro ac done u W Sx hR
        have g : Gr w16 W := hR.1
        exact X.val (X.w1 rfl (Sx.yl 3 68 true (by kernel_rfl) rfl rfl)) rfl (X.load rfl (Sx.ev 72 (.pointer (some (pd14.add (k * 2))))) (X.ld1 (Try.agg34 _) ((hC.gr g).at 6 rfl))) hR.st0
       ·intro ac done u W Sx hR
        exact X.val (X.w1 rfl (Sx.yl 3 68 true (by kernel_rfl) rfl rfl)) rfl (X.move rfl (Sx.ev 1 (.slice (some pd14) E.length lc9))) hR.st0
       ·intro ac done u W Sx hR
        exact X.val (X.w1 rfl (Sx.yl 3 68 true (by kernel_rfl) rfl rfl)) rfl (X.move rfl (Sx.ev 8 (Vi i))) hR.st0
       ·intro ac done u W Sx hR
        exact X.val (X.w1 rfl (Sx.yl 3 68 true (by kernel_rfl) rfl rfl)) rfl (X.index rfl (Sx.ev 74 (.slice (some pd14) E.length lc9)) (Sx.ev 75 (Vi i)) (X.idx (k := i) Try.underlying45 (Try.siz49 _) (by omega) (by omega) rfl)) hR.st0
       ·intro ac done u W Sx hR
        exact X.val (X.w1 rfl (Sx.yl 3 68 true (by kernel_rfl) rfl rfl)) rfl (X.field rfl (Sx.ev 76 (.pointer (some (pd14.add (i * 2))))) (X.fld Try.underlying49 rfl (Try.siz34 _) rfl rfl)) hR.st0
       ·intro ac done u W Sx hR
        have g : Gr w16 W := hR.1
        exact X.val (X.w1 rfl (Sx.yl 3 68 true (by kernel_rfl) rfl rfl)) rfl (X.load rfl (Sx.ev 77 (.pointer (some (pd14.add (i * 2))))) (X.ld1 (Try.agg34 _) ((hC.gr g).at 4 rfl))) hR.st0
       ·intro ac done u W Sx hR
        have g : Gr w16 W := hR.1
        refine X.call (X.w1 rfl (Sx.yl 3 68 true (by kernel_rfl) rfl rfl)) (X.enter (F := 114) rfl (X.kc (.func (.func 114) #[] #[]) rfl) (X.a2 (Sx.ev 73 (.slice xk.b.a xk.b.xs.length xk.b.c)) (Sx.ev 78 (.slice xi.b.a xi.b.xs.length xi.b.c))) (enters_of Try.func114 (by kernel_rfl) rfl _)) (begins_any xk.b.a xi.b.a xk.b.c xi.b.c xk.b.xs xi.b.xs W (pI20.gr g) (pI14.gr g)) ?_
        rintro e W2 ⟨rfl, g2⟩
        exact ⟨_, rfl, X.kn rfl, hR.step g2 rfl⟩
       ·intro ac done u W Sx hR
        exact X.vl (X.pickT rfl (Sx.ev 68 (.bool true)) (Sx.ev 79 (.bool (xi.b.xs.isPrefixOf xk.b.xs)))) hR.st0
       intro ac u w21 hs hd hl ho hR
       have g : Gr w16 w21 := hR.1
       replace F : Fr ac 84 [(1, .slice (some pd14) E.length lc9), (2, Vp w.heap.size), (5, Vi ((p.nh ^ p.nt : Nat) : Int)), (6, Vi ((((sumE p E i : Nat) : Int) : Int) + ((p.nh ^ (p.nt - xi.b.xs.length) : Nat) : Int))), (8, Vi i), (11, Vi k), (80, .bool (xi.b.xs.isPrefixOf xk.b.xs))] := X.fr hs hd hl _ (by kernel_rfl)
       clear hs hd hl ho hR
       replace G := G.trans g
       replace hC := hC.gr g
       replace hO1 := hO1.thenGr g
       replace hO2 := hO2.thenGr g
       replace hpt := hpt.gr g
       replace hph := hph.gr g
       replace hpb := hpb.gr g
       replace hpl := hpl.gr g
       replace hl := hl.gr g
       replace pI14 := pI14.gr g
       replace pI20 := pI20.gr g
       clear g
       refine X.thenN ?_
       cases h22 : xi.b.xs.isPrefixOf xk.b.xs with
       | false =>
        try rw [h22] at F
        refine Y.condF (F.ev 80 (.bool false)) ?_
        refine Y.skip ?_
        refine X.blockN (X.thenN ?_)
        refine Y.lg F [(1, .slice (some pd14) E.length lc9), (2, Vp w.heap.size), (5, Vi ((p.nh ^ p.nt : Nat) : Int)), (6, Vi ((((sumE p E i : Nat) : Int) : Int) + ((p.nh ^ (p.nt - xi.b.xs.length) : Nat) : Int))), (8, Vi i), (11, Vi ((k : Int) + 1))] (by
         refine Y.pv F (X.move rfl (F.ev 11 (Vi k))) fun ac F=>?_
         refine Y.pv F (X.binop rfl (F.ev 63 (Vi k)) (X.kc (Vi 1) rfl) (X.addI Try.underlying3 rfl (by omega) (by omega))) fun ac F=>?_
         refine Y.pv F (X.assign rfl (F.ev 64 (Vi ((k : Int) + 1)))) fun ac F=>?_
         exact Y.fin F) ?_;clear F ac;intro ac F
        refine ⟨_, ?_, k + 1, rfl, hO2, by omega, fun b h1 h2 => if e : b = k then by subst e; rw [plan_gt hxxi, plan_gt hxxk]; exact h22 else han2 b (by omega) h2, F.sub _⟩
        omega
       | true =>
        try rw [h22] at F
        refine Y.condT (F.ev 80 (.bool true)) ?_
        refine Y.sg F [(4, .bool false)] (Y.pv F (X.assign rfl (X.kc (.bool false) rfl)) fun ac F=>Y.fin F) ?_;clear F ac;intro ac F
        refine Y.ret ?_
        refine X.blockR (X.thenR (X.thenR (X.blockR (X.blockR (X.thenR (X.thenR (X.blockR (X.thenR ?_))))))))
        exact Y.ret0 (v := .bool false) F (Y.r1 F) ⟨by rw [cov_no (by omega) (anti_no (i := i) (k := k) (by rw [List.length_map]; omega) (by rw [List.length_map]; omega) hkne (by rw [plan_gt hxxi, plan_gt hxxk]; exact h22))], G⟩
    | true =>
     try rw [h15] at F
     have h15p : ((k : Int) < xi.b.xs.length) := of_decide_eq_true h15
     have hnh0 : ¬ p.nh = 0 := by omega
     have hnh : (0 : Int) < p.nh := by omega
     have hpz := pow_sm hh6 (show p.nt - k ≤ 10 by omega)
     have hdr : 0 ≤ ((p.nh ^ (p.nt - k) : Nat) : Int) ∧ ((p.nh ^ (p.nt - k) : Nat) : Int) ≤ 9223372036854775807 := by omega
     have hdq : ((p.nh ^ (p.nt - k) : Nat) : Int) / (p.nh : Int) = ((p.nh ^ (p.nt - (k + 1)) : Nat) : Int) := by rw [show p.nt - k = (p.nt - (k + 1)) + 1 by omega]; exact pow_div hnh0
     refine Y.condT (F.ev 48 (.bool true)) ?_
     refine Y.skip ?_
     refine X.thenN ?_
     refine Y.seq ?_
     refine Y.block ?_
     refine Y.lit (by kernel_rfl) ?_
     refine Y.pv4 F (X.move rfl (F.ev 9 (Vi ((p.nh ^ (p.nt - k) : Nat) : Int)))) (fun _ F=>X.field rfl (F.ev 2 (Vp w.heap.size)) (X.fld Try.underlying27 rfl (Try.siz23 _) rfl rfl)) (fun _ F=>X.load rfl (F.ev 52 (.pointer (some ⟨w.heap.size, 1, none⟩))) (X.ld1 (Try.agg23 _) (hC.at 1 rfl))) (fun _ F=>X.len1 Try.underlying23 rfl (F.ev 53 (.slice ha p.nh hc))) ?_;clear F ac;intro ac F
     refine Y.pv2 F (X.binop rfl (F.ev 51 (Vi ((p.nh ^ (p.nt - k) : Nat) : Int))) (F.ev 54 (Vi p.nh)) (X.quoI Try.underlying3 hdq hdr hnh)) (fun _ F=>X.assign rfl (F.ev 55 (Vi ((p.nh ^ (p.nt - (k + 1)) : Nat) : Int)))) ?_;clear F ac;intro ac F
     refine Y.nil ?_
     replace F : Fr ac 84 [(1, .slice (some pd14) E.length lc9), (2, Vp w.heap.size), (5, Vi ((p.nh ^ p.nt : Nat) : Int)), (6, Vi ((sumE p E i : Nat) : Int)), (8, Vi i), (9, Vi ((p.nh ^ (p.nt - (k + 1)) : Nat) : Int)), (10, Vi k)] := F.sub _
     refine X.blockN (X.thenN ?_)
     refine Y.lg F [(1, .slice (some pd14) E.length lc9), (2, Vp w.heap.size), (5, Vi ((p.nh ^ p.nt : Nat) : Int)), (6, Vi ((sumE p E i : Nat) : Int)), (8, Vi i), (9, Vi ((p.nh ^ (p.nt - (k + 1)) : Nat) : Int)), (10, Vi ((k : Int) + 1))] (by
      refine Y.pv F (X.move rfl (F.ev 10 (Vi k))) fun ac F=>?_
      refine Y.pv F (X.binop rfl (F.ev 49 (Vi k)) (X.kc (Vi 1) rfl) (X.addI Try.underlying3 rfl (by omega) (by omega))) fun ac F=>?_
      refine Y.pv F (X.assign rfl (F.ev 50 (Vi ((k : Int) + 1)))) fun ac F=>?_
      exact Y.fin F) ?_;clear F ac;intro ac F
     refine ⟨_, ?_, k + 1, rfl, hO2, by omega, F.sub _⟩
     omega
  | true =>
   try rw [h10] at F
   have h10p : ((m : Int) < p.nt) := of_decide_eq_true h10
   have h2m : m < p.nt := by omega
   have hpw0 := pow_sm hh6 (show m + 1 ≤ 10 by omega)
   rw [Nat.pow_succ] at hpw0
   have hpw : ((p.nh ^ m : Nat) : Int) * (p.nh : Int) ≤ 60466176 := by rw [← Int.natCast_mul]; omega
   have hpv : 0 ≤ ((p.nh ^ m : Nat) : Int) * (p.nh : Int) := by rw [← Int.natCast_mul]; omega
   refine Y.condT (F.ev 26 (.bool true)) ?_
   refine Y.skip ?_
   refine X.thenN ?_
   refine Y.seq ?_
   refine Y.block ?_
   refine Y.lit (by kernel_rfl) ?_
   refine Y.pv4 F (X.move rfl (F.ev 5 (Vi ((p.nh ^ m : Nat) : Int)))) (fun _ F=>X.field rfl (F.ev 2 (Vp w.heap.size)) (X.fld Try.underlying27 rfl (Try.siz23 _) rfl rfl)) (fun _ F=>X.load rfl (F.ev 30 (.pointer (some ⟨w.heap.size, 1, none⟩))) (X.ld1 (Try.agg23 _) (hC.at 1 rfl))) (fun _ F=>X.len1 Try.underlying23 rfl (F.ev 31 (.slice ha p.nh hc))) ?_;clear F ac;intro ac F
   refine Y.pv2 F (X.binop rfl (F.ev 29 (Vi ((p.nh ^ m : Nat) : Int))) (F.ev 32 (Vi p.nh)) (X.mulI Try.underlying3 rfl (by omega) (by omega))) (fun _ F=>X.assign rfl (F.ev 33 (Vi ((((p.nh ^ m : Nat) : Int) : Int) * p.nh)))) ?_;clear F ac;intro ac F
   refine Y.nil ?_
   replace F : Fr ac 84 [(1, .slice la9 E.length lc9), (2, Vp w.heap.size), (5, Vi ((((p.nh ^ m : Nat) : Int) : Int) * p.nh)), (6, Vi 0), (7, Vi m)] := F.sub _
   refine X.blockN (X.thenN ?_)
   refine Y.lg F [(1, .slice la9 E.length lc9), (2, Vp w.heap.size), (5, Vi ((((p.nh ^ m : Nat) : Int) : Int) * p.nh)), (6, Vi 0), (7, Vi ((m : Int) + 1))] (by
    refine Y.pv F (X.move rfl (F.ev 7 (Vi m))) fun ac F=>?_
    refine Y.pv F (X.binop rfl (F.ev 27 (Vi m)) (X.kc (Vi 1) rfl) (X.addI Try.underlying3 rfl (by omega) (by omega))) fun ac F=>?_
    refine Y.pv F (X.assign rfl (F.ev 28 (Vi ((m : Int) + 1)))) fun ac F=>?_
    exact Y.fin F) ?_;clear F ac;intro ac F
   refine ⟨_, ?_, m + 1, rfl, hO1, by omega, (by rw [Nat.pow_succ, Int.natCast_mul]; exact F.sub _)⟩
   omega
set_option maxRecDepth 100000 in
set_option maxHeartbeats 4000000 in
theorem provsR_any (p : Pb) (ta ha ba la : Option Addr) (tc hc bc lc : Nat) (la9 : Option Addr) (lc9 : Nat) (E : List LfE) (cost : Int) (w : World) (hP : PbAt w p ta ha ba la tc hc bc lc) (hL : LfAt w la9 E) (hE : E.length ≤ 5000) :
  Calls Try.prog 50 #[.agg #[.slice ta p.nt tc, .slice ha p.nh hc, .slice ba p.nb bc, .slice la p.nl lc], .slice la9 E.length lc9, Vi cost] w fun e w' => e = .returned (.tuple #[.bool (provB p cost E), Vi (chkE p)]) ∧ Gr w w' := by
 have G := Gr.refl w
 have hpt := hP.t
 have hph := hP.h
 have hpb := hP.b
 have hpl := hP.l
 have hplen := hP.len
 obtain ⟨hn1, hn2, hn3, hn4⟩ := hplen
 have hcp1 := hpt.cap
 have hcp2 := hph.cap
 have hcp3 := hpb.cap
 have hcp4 := hpl.cap
 have hl := hL
 refine Y.calls 72 Try.func50 rfl rfl ?_
 intro ac F0
 have F : Fr ac 72 [(0, .agg #[.slice ta p.nt tc, .slice ha p.nh hc, .slice ba p.nb bc, .slice la p.nl lc]), (1, .slice la9 E.length lc9), (2, Vi cost)] := F0.sub _
 clear F0
 refine Y.sl ?_
 have hgs3 : w.heap.size ≤ w.heap.size := G.size
 refine Y.pv F (X.box rfl (F.ev 0 (.agg #[.slice ta p.nt tc, .slice ha p.nh hc, .slice ba p.nb bc, .slice la p.nl lc])) X.bx) ?_;clear F ac;intro ac F
 have hgs5 : w.heap.size ≤ w.heap.size := G.size
 obtain ⟨w6, hw_, g, hb, hbl, hC2⟩ := Y.bxd (RCells.nil w) #[.slice ta p.nt tc, .slice ha p.nh hc, .slice ba p.nb bc, .slice la p.nl lc] 27;rw [hw_];clear hw_
 replace G := G.trans g
 have hC := hC2
 clear hC2
 replace hpt := hpt.gr g
 replace hph := hph.gr g
 replace hpb := hpb.gr g
 replace hpl := hpl.gr g
 replace hl := hl.gr g
 have hsz4 := hbl
 clear g hb hbl
 refine Y.pv2 F (X.assign rfl (X.kc (.bool false) rfl)) (fun _ F=>X.assign rfl (X.kc (Vi 0) rfl)) ?_;clear F ac;intro ac F
 refine Y.nt F [(1, .slice la9 E.length lc9), (2, Vi cost), (3, Vp w.heap.size)] ?_;clear F ac;intro ac F
 refine Y.sl ?_
 refine Y.pv F (X.load rfl (F.ev 3 (Vp w.heap.size)) (X.ldN (Try.agg27 _) (Try.siz27 _) (Y.atz (⟨w.heap.size, 0, none⟩) (Y.AtFrom.cons (hC.at 0 rfl) (Y.AtFrom.cons (hC.at 1 rfl) (Y.AtFrom.cons (hC.at 2 rfl) (Y.AtFrom.cons (hC.at 3 rfl) (Y.AtFrom.nil _ _ _)))))))) ?_;clear F ac;intro ac F
 refine Y.pc F 19 (X.a1 (F.ev 11 (.agg #[.slice ta p.nt tc, .slice ha p.nh hc, .slice ba p.nb bc, .slice la p.nl lc]))) Try.func19 (check2_any p ta ha ba la tc hc bc lc w6 (hP.gr G)) ?_
 clear F ac
 rintro e w7 ⟨rfl, g⟩
 refine ⟨_, rfl, ?_⟩
 intro ac F
 replace G := G.trans g
 replace hC := hC.gr g
 replace hpt := hpt.gr g
 replace hph := hph.gr g
 replace hpb := hpb.gr g
 replace hpl := hpl.gr g
 replace hl := hl.gr g
 clear g
 refine Y.pv F (X.assign rfl (F.ev 12 (Vi (chkE p)))) ?_;clear F ac;intro ac F
 refine Y.nt F [(1, .slice la9 E.length lc9), (2, Vi cost), (3, Vp w.heap.size), (8, Vi (chkE p))] ?_;clear F ac;intro ac F
 refine Y.seq ?_
 refine Y.sg F [(1, .slice la9 E.length lc9), (2, Vi cost), (3, Vp w.heap.size), (8, Vi (chkE p)), (14, .bool ((chkE p : Int) != 0))] (Y.pv F (X.move rfl (F.ev 8 (Vi (chkE p)))) fun ac F=>Y.pv F (X.binop rfl (F.ev 13 (Vi (chkE p))) (X.kc (Vi 0) rfl) (X.neqI Try.underlying31 rfl)) fun ac F=>Y.fin F) ?_;clear F ac;intro ac F
 cases h8 : ((chkE p : Int) != 0) with
 | false =>
  try rw [h8] at F
  have h8p : (chkE p : Int) = 0 := by simpa using h8
  have hck : chkE p = 0 := by omega
  have hp := chk_ok hck
  refine Y.condF (F.ev 14 (.bool false)) ?_
  refine Y.skip ?_
  refine X.thenN ?_
  refine Y.seq ?_
  refine Y.sg F [(1, .slice la9 E.length lc9), (2, Vi cost), (3, Vp w.heap.size), (18, .bool (decide ((5000 : Int) < E.length)))] (Y.pv F (X.move rfl (F.ev 1 (.slice la9 E.length lc9))) fun ac F=>Y.pv F (X.len1 Try.underlying45 rfl (F.ev 16 (.slice la9 E.length lc9))) fun ac F=>Y.pv F (X.binop rfl (F.ev 17 (Vi E.length)) (X.kc (Vi 5000) rfl) (X.gtrI Try.underlying3 rfl)) fun ac F=>Y.fin F) ?_;clear F ac;intro ac F
  cases h9 : decide ((5000 : Int) < E.length) with
  | false =>
   try rw [h9] at F
   have h9p : ¬ ((5000 : Int) < E.length) := of_decide_eq_false h9
   refine Y.condF (F.ev 18 (.bool false)) ?_
   refine Y.skip ?_
   refine X.thenN ?_
   refine Y.seq ?_
   refine Y.sg F [(1, .slice la9 E.length lc9), (2, Vi cost), (3, Vp w.heap.size), (9, Vi 0)] (Y.pv F (X.assign rfl (X.kc (Vi 0) rfl)) fun ac F=>Y.fin F) ?_;clear F ac;intro ac F
   refine Y.block ?_
   refine Y.loop (fun me_ ac wr => ∃ (i : Nat), me_ = E.length - i ∧ Only (fun b => False) w7 wr ∧ i ≤ E.length ∧ okE p cost E i ∧ Fr ac 72 [(1, .slice la9 E.length lc9), (2, Vi cost), (3, Vp w.heap.size), (9, Vi i)]) _ ⟨0, rfl, Only.refl _ _, Nat.zero_le _, fun j x h => by omega, F.sub _⟩ ?_
   have hptB1 := hpt
   have hphB1 := hph
   have hpbB1 := hpb
   have hplB1 := hpl
   have hlB1 := hl
   have GB1 := G
   have hCB1 := hC
   clear F ac
   intro me_ ac w10 hI
   obtain ⟨i, rfl, hO1, hi, hok, F⟩ := hI
   replace G := GB1.trans (hO1.gr (fun _ _ h => h))
   replace hpt := (hP.t).gr G
   replace hph := (hP.h).gr G
   replace hpb := (hP.b).gr G
   replace hpl := (hP.l).gr G
   replace hl := (hL).gr G
   replace hC := (RCells.cons (hO1.cell (hCB1.at 0 rfl) (fun h => h)) (RCells.cons (hO1.cell (hCB1.at 1 rfl) (fun h => h)) (RCells.cons (hO1.cell (hCB1.at 2 rfl) (fun h => h)) (RCells.cons (hO1.cell (hCB1.at 3 rfl) (fun h => h)) (RCells.nil _)))))
   refine Y.seq ?_
   refine Y.sg F [(1, .slice la9 E.length lc9), (2, Vi cost), (3, Vp w.heap.size), (9, Vi i), (22, .bool (decide ((i : Int) < E.length)))] (Y.pv F (X.move rfl (F.ev 9 (Vi i))) fun ac F=>Y.pv F (X.move rfl (F.ev 1 (.slice la9 E.length lc9))) fun ac F=>Y.pv F (X.len1 Try.underlying45 rfl (F.ev 20 (.slice la9 E.length lc9))) fun ac F=>Y.pv F (X.binop rfl (F.ev 19 (Vi i)) (F.ev 21 (Vi E.length)) (X.lssI Try.underlying3 rfl)) fun ac F=>Y.fin F) ?_;clear F ac;intro ac F
   cases h11 : decide ((i : Int) < E.length) with
   | false =>
    try rw [h11] at F
    have h11p : ¬ ((i : Int) < E.length) := of_decide_eq_false h11
    obtain rfl : i = E.length := by omega
    refine Y.condF (F.ev 22 (.bool false)) ?_
    refine Y.exit ?_
    refine X.thenX (X.thenX (X.blockX (X.thenN ?_)))
    refine Y.sl ?_
    refine Y.pv2 F (X.load rfl (F.ev 3 (Vp w.heap.size)) (X.ldN (Try.agg27 _) (Try.siz27 _) (Y.atz (⟨w.heap.size, 0, none⟩) (Y.AtFrom.cons (hC.at 0 rfl) (Y.AtFrom.cons (hC.at 1 rfl) (Y.AtFrom.cons (hC.at 2 rfl) (Y.AtFrom.cons (hC.at 3 rfl) (Y.AtFrom.nil _ _ _)))))))) (fun _ F=>X.move rfl (F.ev 1 (.slice la9 E.length lc9))) ?_;clear F ac;intro ac F
    refine Y.pc F 92 (X.a2 (F.ev 69 (.agg #[.slice ta p.nt tc, .slice ha p.nh hc, .slice ba p.nb bc, .slice la p.nl lc])) (F.ev 70 (.slice la9 E.length lc9))) Try.func92 (covered_any p ta ha ba la tc hc bc lc la9 lc9 E w10 (hP.gr G) hp (hL.gr G) hE (fun i x hx => by have h9 := hok i x (List.getElem?_eq_some_iff.1 hx).1 hx; exact lfB_len h9)) ?_
    clear F ac
    rintro e w12 ⟨rfl, g⟩
    refine ⟨_, rfl, ?_⟩
    intro ac F
    replace G := G.trans g
    replace hC := hC.gr g
    replace hpt := hpt.gr g
    replace hph := hph.gr g
    replace hpb := hpb.gr g
    replace hpl := hpl.gr g
    replace hl := hl.gr g
    clear g
    refine Y.pv2 F (X.assign rfl (F.ev 71 (.bool (covB p.nh p.nt (E.map fun x => x.b.xs))))) (fun _ F=>X.assign rfl (X.kc (Vi 0) rfl)) ?_;clear F ac;intro ac F
    refine Y.nt F [(6, .bool (covB p.nh p.nt (E.map fun x => x.b.xs))), (7, Vi 0)] ?_;clear F ac;intro ac F
    refine Y.ret ?_
    exact Y.ret0 (v := .tuple #[.bool (covB p.nh p.nt (E.map fun x => x.b.xs)), Vi 0]) F (Y.rs2 F rfl (by kernel_rfl) (by kernel_rfl)) ⟨by rw [prov_r hck hok, hck], G⟩
   | true =>
    try rw [h11] at F
    have h11p : ((i : Int) < E.length) := of_decide_eq_true h11
    refine Y.condT (F.ev 22 (.bool true)) ?_
    refine Y.skip ?_
    refine X.thenN ?_
    refine Y.seq ?_
    refine Y.block ?_
    refine Y.sl ?_
    refine Y.pv2 F (X.move rfl (F.ev 1 (.slice la9 E.length lc9))) (fun _ F=>X.move rfl (F.ev 9 (Vi i))) ?_;clear F ac;intro ac F
    obtain ⟨xf, hxxf⟩ : ∃ x, E[i]? = some x := ⟨_, List.getElem?_eq_getElem (by omega)⟩
    obtain ⟨pd13, pe13, pc13, pw13, pI13, pl13⟩ := hl i xf hxxf
    subst pe13
    replace hC := hC.append (show RCells w10 (Y.cs (pd13.add (i * 2)) [.slice xf.b.a xf.b.xs.length xf.b.c, Vi xf.why]) from (RCells.cons pc13 (RCells.cons pw13 (RCells.nil _))))
    clear pc13
    refine Y.pv3 F (X.index rfl (F.ev 25 (.slice (some pd13) E.length lc9)) (F.ev 26 (Vi i)) (X.idx (k := i) Try.underlying45 (Try.siz49 _) (by omega) (by omega) rfl)) (fun _ F=>X.load rfl (F.ev 27 (.pointer (some (pd13.add (i * 2))))) (X.ldN (Try.agg49 _) (Try.siz49 _) (Y.atz (pd13.add (i * 2)) (Y.AtFrom.cons (hC.at 4 rfl) (Y.AtFrom.cons (hC.at 5 rfl) (Y.AtFrom.nil _ _ _)))))) (fun _ F=>Y.al rfl (Try.new49 _)) ?_;clear F ac;intro ac F
    refine Y.punit F (X.w0 rfl) rfl (X.store rfl (F.ev 10 (Vp w10.heap.size)) (F.ev 28 (.agg #[.slice xf.b.a xf.b.xs.length xf.b.c, Vi xf.why])) (Y.stNew [.slice xf.b.a xf.b.xs.length xf.b.c, Vi xf.why] [.slice none 0 0, Vi 0] (Try.siz49 _) rfl rfl)) ?_;clear F ac;intro ac F
    have hgs14 : w.heap.size ≤ w10.heap.size := G.size
    obtain ⟨w15, hw_, g, hb, hbl, hC2⟩ := Y.bxd hC #[.slice xf.b.a xf.b.xs.length xf.b.c, Vi xf.why] 49;rw [hw_];clear hw_
    replace G := G.trans g
    replace hC := hC2
    clear hC2
    replace hO1 := hO1.thenGr g
    replace hpt := hpt.gr g
    replace hph := hph.gr g
    replace hpb := hpb.gr g
    replace hpl := hpl.gr g
    replace hl := hl.gr g
    replace pI13 := pI13.gr g
    clear g hb hbl
    refine Y.nt F [(1, .slice (some pd13) E.length lc9), (2, Vi cost), (3, Vp w.heap.size), (9, Vi i), (10, Vp w10.heap.size)] ?_;clear F ac;intro ac F
    refine Y.sl ?_
    refine Y.pv3 F (X.load rfl (F.ev 3 (Vp w.heap.size)) (X.ldN (Try.agg27 _) (Try.siz27 _) (Y.atz (⟨w.heap.size, 0, none⟩) (Y.AtFrom.cons (hC.at 0 rfl) (Y.AtFrom.cons (hC.at 1 rfl) (Y.AtFrom.cons (hC.at 2 rfl) (Y.AtFrom.cons (hC.at 3 rfl) (Y.AtFrom.nil _ _ _)))))))) (fun _ F=>X.field rfl (F.ev 10 (Vp w10.heap.size)) (X.fld Try.underlying49 rfl (Try.siz34 _) rfl rfl)) (fun _ F=>X.load rfl (F.ev 30 (Vp w10.heap.size)) (X.ld1 (Try.agg34 _) (hC.at 6 rfl))) ?_;clear F ac;intro ac F
    refine Y.pc F 78 (X.a2 (F.ev 29 (.agg #[.slice ta p.nt tc, .slice ha p.nh hc, .slice ba p.nb bc, .slice la p.nl lc])) (F.ev 31 (.slice xf.b.a xf.b.xs.length xf.b.c))) Try.func78 (begin_any p ta ha ba la tc hc bc lc xf.b.a xf.b.c xf.b.xs w15 (hP.gr G) pI13) ?_
    clear F ac
    rintro e w16 ⟨rfl, g⟩
    refine ⟨_, rfl, ?_⟩
    intro ac F
    replace G := G.trans g
    replace hC := hC.gr g
    replace hO1 := hO1.thenGr g
    replace hpt := hpt.gr g
    replace hph := hph.gr g
    replace hpb := hpb.gr g
    replace hpl := hpl.gr g
    replace hl := hl.gr g
    replace pI13 := pI13.gr g
    clear g
    refine Y.pv2 F (X.binop rfl (F.ev 32 (Vi (begE p xf.b.xs))) (X.kc (Vi 0) rfl) (X.neqI Try.underlying31 rfl)) (fun _ F=>X.move rfl (F.ev 33 (.bool ((begE p xf.b.xs : Int) != 0)))) ?_;clear F ac;intro ac F
    cases h17 : ((begE p xf.b.xs : Int) != 0) with
    | false =>
     try rw [h17] at F
     have h17p : (begE p xf.b.xs : Int) = 0 := by simpa using h17
     obtain ⟨-, hlen, hho⟩ := beg_yes (p := p) (xs := xf.b.xs) (by omega)
     have hxo := hosB_iff.1 hho
     refine Y.pg F 5 34 false (X.field rfl (F.ev 10 (Vp w10.heap.size)) (X.fld Try.underlying49 rfl (Try.siz3 _) rfl rfl)) ?_;clear F ac;intro ac F
     refine Y.pg F 5 34 false (X.load rfl (F.ev 35 (.pointer (some ⟨w10.heap.size, 1, none⟩))) (X.ld1 (Try.agg3 _) (hC.at 7 rfl))) ?_;clear F ac;intro ac F
     refine Y.pg F 5 34 false (X.binop rfl (F.ev 36 (Vi xf.why)) (X.kc (Vi 1) rfl) (X.lssI Try.underlying3 rfl)) ?_;clear F ac;intro ac F
     refine Y.pv2 F (X.pickF rfl (F.ev 34 (.bool false)) (F.ev 37 (.bool (decide ((xf.why : Int) < 1))))) (fun _ F=>X.move rfl (F.ev 38 (.bool (decide ((xf.why : Int) < 1))))) ?_;clear F ac;intro ac F
     cases h18 : decide ((xf.why : Int) < 1) with
     | false =>
      try rw [h18] at F
      have h18p : ¬ ((xf.why : Int) < 1) := of_decide_eq_false h18
      refine Y.pg F 10 39 false (X.field rfl (F.ev 10 (Vp w10.heap.size)) (X.fld Try.underlying49 rfl (Try.siz3 _) rfl rfl)) ?_;clear F ac;intro ac F
      refine Y.pg F 10 39 false (X.load rfl (F.ev 40 (.pointer (some ⟨w10.heap.size, 1, none⟩))) (X.ld1 (Try.agg3 _) (hC.at 7 rfl))) ?_;clear F ac;intro ac F
      refine Y.pg F 10 39 false (X.binop rfl (F.ev 41 (Vi xf.why)) (X.kc (Vi 2) rfl) (X.gtrI Try.underlying3 rfl)) ?_;clear F ac;intro ac F
      refine Y.pv2 F (X.pickF rfl (F.ev 39 (.bool false)) (F.ev 42 (.bool (decide ((2 : Int) < xf.why))))) (fun _ F=>X.move rfl (F.ev 43 (.bool (decide ((2 : Int) < xf.why))))) ?_;clear F ac;intro ac F
      cases h19 : decide ((2 : Int) < xf.why) with
      | false =>
       try rw [h19] at F
       have h19p : ¬ ((2 : Int) < xf.why) := of_decide_eq_false h19
       refine Y.pg F 15 44 false (X.field rfl (F.ev 10 (Vp w10.heap.size)) (X.fld Try.underlying49 rfl (Try.siz3 _) rfl rfl)) ?_;clear F ac;intro ac F
       refine Y.pg F 15 44 false (X.load rfl (F.ev 45 (.pointer (some ⟨w10.heap.size, 1, none⟩))) (X.ld1 (Try.agg3 _) (hC.at 7 rfl))) ?_;clear F ac;intro ac F
       refine Y.pg F 15 44 false (X.binop rfl (F.ev 46 (Vi xf.why)) (X.kc (Vi 1) rfl) (X.eqlI Try.underlying3 rfl)) ?_;clear F ac;intro ac F
       refine Y.pg F 15 44 false (X.move rfl (F.ev 47 (.bool ((xf.why : Int) == 1)))) ?_;clear F ac;intro ac F
       cases h20 : ((xf.why : Int) == 1) with
       | false =>
        try rw [h20] at F
        have h20p : ¬ (xf.why : Int) = 1 := by simpa using h20
        have hw1 : ¬ xf.why = 1 := by omega
        refine Y.ps F 19 48 false ?_;clear F ac;intro ac F
        refine Y.ps F 19 48 false ?_;clear F ac;intro ac F
        refine Y.ps F 19 48 false ?_;clear F ac;intro ac F
        refine Y.ps F 19 48 false ?_;clear F ac;intro ac F
        refine Y.ps F 19 48 false ?_;clear F ac;intro ac F
        refine Y.pg F 15 44 false (X.pickF rfl (F.ev 48 (.bool false)) (X.kc (.bool false) rfl)) ?_;clear F ac;intro ac F
        refine Y.pv2 F (X.pickF rfl (F.ev 44 (.bool false)) (F.ev 54 (.bool false))) (fun _ F=>X.move rfl (F.ev 55 (.bool false))) ?_;clear F ac;intro ac F
        refine Y.pg F 27 56 false (X.field rfl (F.ev 10 (Vp w10.heap.size)) (X.fld Try.underlying49 rfl (Try.siz3 _) rfl rfl)) ?_;clear F ac;intro ac F
        refine Y.pg F 27 56 false (X.load rfl (F.ev 57 (.pointer (some ⟨w10.heap.size, 1, none⟩))) (X.ld1 (Try.agg3 _) (hC.at 7 rfl))) ?_;clear F ac;intro ac F
        refine Y.pg F 27 56 false (X.binop rfl (F.ev 58 (Vi xf.why)) (X.kc (Vi 2) rfl) (X.eqlI Try.underlying3 rfl)) ?_;clear F ac;intro ac F
        refine Y.pg F 27 56 false (X.move rfl (F.ev 59 (.bool ((xf.why : Int) == 2)))) ?_;clear F ac;intro ac F
        have h22 : ((xf.why : Int) == 2) = true := by rw [show xf.why = 2 by omega]; rfl
        try rw [h22] at F
        refine Y.pg F 31 60 true (X.load rfl (F.ev 3 (Vp w.heap.size)) (X.ldN (Try.agg27 _) (Try.siz27 _) (Y.atz (⟨w.heap.size, 0, none⟩) (Y.AtFrom.cons (hC.at 0 rfl) (Y.AtFrom.cons (hC.at 1 rfl) (Y.AtFrom.cons (hC.at 2 rfl) (Y.AtFrom.cons (hC.at 3 rfl) (Y.AtFrom.nil _ _ _)))))))) ?_;clear F ac;intro ac F
        refine Y.pg F 31 60 true (X.field rfl (F.ev 10 (Vp w10.heap.size)) (X.fld Try.underlying49 rfl (Try.siz34 _) rfl rfl)) ?_;clear F ac;intro ac F
        refine Y.pg F 31 60 true (X.load rfl (F.ev 62 (Vp w10.heap.size)) (X.ld1 (Try.agg34 _) (hC.at 6 rfl))) ?_;clear F ac;intro ac F
        refine Y.pcall F (X.w1 rfl (F.yl (j := 31) (d := 60) (b := true) rfl (by kernel_rfl))) rfl (X.enter (F := 77) rfl (X.kc (.func (.func 77) #[] #[]) rfl) (X.a2 (F.ev 61 (.agg #[.slice ta p.nt tc, .slice ha p.nh hc, .slice ba p.nb bc, .slice la p.nl lc])) (F.ev 63 (.slice xf.b.a xf.b.xs.length xf.b.c))) (enters_of Try.func77 (by kernel_rfl) rfl _)) (bnd2_any p ta ha ba la tc hc bc lc xf.b.a xf.b.c xf.b.xs w16 (hP.gr G) pI13 hp hxo hlen) ?_
        clear F ac
        rintro e w23 ⟨rfl, g⟩
        refine ⟨_, rfl, ?_⟩
        intro ac F
        replace G := G.trans g
        replace hC := hC.gr g
        replace hO1 := hO1.thenGr g
        replace hpt := hpt.gr g
        replace hph := hph.gr g
        replace hpb := hpb.gr g
        replace hpl := hpl.gr g
        replace hl := hl.gr g
        replace pI13 := pI13.gr g
        clear g
        refine Y.pg F 31 60 true (X.move rfl (F.ev 2 (Vi cost))) ?_;clear F ac;intro ac F
        refine Y.pg F 31 60 true (X.binop rfl (F.ev 64 (Vi (bndV p xf.b.xs))) (F.ev 65 (Vi cost)) (X.lssI Try.underlying3 rfl)) ?_;clear F ac;intro ac F
        refine Y.pg F 27 56 false (X.pickT rfl (F.ev 60 (.bool true)) (F.ev 66 (.bool (decide ((bndV p xf.b.xs : Int) < cost))))) ?_;clear F ac;intro ac F
        refine Y.pv F (X.pickF rfl (F.ev 56 (.bool false)) (F.ev 67 (.bool (decide ((bndV p xf.b.xs : Int) < cost))))) ?_;clear F ac;intro ac F
        refine Y.nt F [(1, .slice (some pd13) E.length lc9), (2, Vi cost), (3, Vp w.heap.size), (9, Vi i), (68, .bool (decide ((bndV p xf.b.xs : Int) < cost)))] ?_;clear F ac;intro ac F
        cases h24 : decide ((bndV p xf.b.xs : Int) < cost) with
        | false =>
         try rw [h24] at F
         have h24p : ¬ ((bndV p xf.b.xs : Int) < cost) := of_decide_eq_false h24
         refine Y.condF (F.ev 68 (.bool false)) ?_
         refine Y.skip ?_
         refine X.blockN (X.thenN ?_)
         refine Y.lg F [(1, .slice (some pd13) E.length lc9), (2, Vi cost), (3, Vp w.heap.size), (9, Vi ((i : Int) + 1))] (by
          refine Y.pv F (X.move rfl (F.ev 9 (Vi i))) fun ac F=>?_
          refine Y.pv F (X.binop rfl (F.ev 23 (Vi i)) (X.kc (Vi 1) rfl) (X.addI Try.underlying3 rfl (by omega) (by omega))) fun ac F=>?_
          refine Y.pv F (X.assign rfl (F.ev 24 (Vi ((i : Int) + 1)))) fun ac F=>?_
          exact Y.fin F) ?_;clear F ac;intro ac F
         refine ⟨_, ?_, i + 1, rfl, hO1, by omega, okE_s hok hxxf (lf_7 (by omega) hlen hho (by omega)), F.sub _⟩
         omega
        | true =>
         try rw [h24] at F
         have h24p : ((bndV p xf.b.xs : Int) < cost) := of_decide_eq_true h24
         have hlf : lfB p cost (xf.b.xs, xf.why) = false := lf_5 hw1 (by omega)
         refine Y.condT (F.ev 68 (.bool true)) ?_
         refine Y.sg F [(6, .bool false), (7, Vi 0)] (Y.pv F (X.assign rfl (X.kc (.bool false) rfl)) fun ac F=>Y.pv F (X.assign rfl (X.kc (Vi 0) rfl)) fun ac F=>Y.fin F) ?_;clear F ac;intro ac F
         refine Y.ret ?_
         refine X.blockR (X.thenR (X.thenR (X.blockR (X.thenR ?_))))
         exact Y.ret0 (v := .tuple #[.bool false, Vi 0]) F (Y.rs2 F rfl (by kernel_rfl) (by kernel_rfl)) ⟨by rw [prov_no hxxf hlf, hck], G⟩
       | true =>
        try rw [h20] at F
        have h20p : (xf.why : Int) = 1 := by simpa using h20
        have hw1 : xf.why = 1 := by omega
        refine Y.pg F 19 48 true (X.load rfl (F.ev 3 (Vp w.heap.size)) (X.ldN (Try.agg27 _) (Try.siz27 _) (Y.atz (⟨w.heap.size, 0, none⟩) (Y.AtFrom.cons (hC.at 0 rfl) (Y.AtFrom.cons (hC.at 1 rfl) (Y.AtFrom.cons (hC.at 2 rfl) (Y.AtFrom.cons (hC.at 3 rfl) (Y.AtFrom.nil _ _ _)))))))) ?_;clear F ac;intro ac F
        refine Y.pg F 19 48 true (X.field rfl (F.ev 10 (Vp w10.heap.size)) (X.fld Try.underlying49 rfl (Try.siz34 _) rfl rfl)) ?_;clear F ac;intro ac F
        refine Y.pg F 19 48 true (X.load rfl (F.ev 50 (Vp w10.heap.size)) (X.ld1 (Try.agg34 _) (hC.at 6 rfl))) ?_;clear F ac;intro ac F
        refine Y.pcall F (X.w1 rfl (F.yl (j := 19) (d := 48) (b := true) rfl (by kernel_rfl))) rfl (X.enter (F := 75) rfl (X.kc (.func (.func 75) #[] #[]) rfl) (X.a3 (F.ev 49 (.agg #[.slice ta p.nt tc, .slice ha p.nh hc, .slice ba p.nb bc, .slice la p.nl lc])) (F.ev 51 (.slice xf.b.a xf.b.xs.length xf.b.c)) (X.kc (Vi 100) rfl)) (enters_of Try.func75 (by kernel_rfl) rfl _)) (by have hq := hop2_any p ta ha ba la tc hc bc lc xf.b.a xf.b.c xf.b.xs 100 w16 (hP.gr G) pI13 hp hxo hlen (by decide); rw [hund_100] at hq; exact hq) ?_
        clear F ac
        rintro e w25 ⟨rfl, g⟩
        refine ⟨_, rfl, ?_⟩
        intro ac F
        replace G := G.trans g
        replace hC := hC.gr g
        replace hO1 := hO1.thenGr g
        replace hpt := hpt.gr g
        replace hph := hph.gr g
        replace hpb := hpb.gr g
        replace hpl := hpl.gr g
        replace hl := hl.gr g
        replace pI13 := pI13.gr g
        clear g
        refine Y.pg F 19 48 true (X.notB rfl (F.ev 52 (.bool (hopeB p (tim p) xf.b.xs))) rfl) ?_;clear F ac;intro ac F
        refine Y.pg F 15 44 false (X.pickT rfl (F.ev 48 (.bool true)) (F.ev 53 (.bool (!(hopeB p (tim p) xf.b.xs))))) ?_;clear F ac;intro ac F
        refine Y.pv2 F (X.pickF rfl (F.ev 44 (.bool false)) (F.ev 54 (.bool (!(hopeB p (tim p) xf.b.xs))))) (fun _ F=>X.move rfl (F.ev 55 (.bool (!(hopeB p (tim p) xf.b.xs))))) ?_;clear F ac;intro ac F
        cases h26 : hopeB p (tim p) xf.b.xs with
        | false =>
         try rw [h26] at F
         have hlf : lfB p cost (xf.b.xs, xf.why) = false := lf_3 hw1 h26
         refine Y.ps F 27 56 true ?_;clear F ac;intro ac F
         refine Y.ps F 27 56 true ?_;clear F ac;intro ac F
         refine Y.ps F 27 56 true ?_;clear F ac;intro ac F
         refine Y.ps F 27 56 true ?_;clear F ac;intro ac F
         refine Y.pn F 31 60 ?_;clear F ac;intro ac F
         refine Y.pn F 31 60 ?_;clear F ac;intro ac F
         refine Y.pn F 31 60 ?_;clear F ac;intro ac F
         refine Y.pn F 31 60 ?_;clear F ac;intro ac F
         refine Y.pn F 31 60 ?_;clear F ac;intro ac F
         refine Y.pn F 31 60 ?_;clear F ac;intro ac F
         refine Y.ps F 27 56 true ?_;clear F ac;intro ac F
         refine Y.pv F (X.pickT rfl (F.ev 56 (.bool true)) (X.kc (.bool true) rfl)) ?_;clear F ac;intro ac F
         refine Y.nt F [(1, .slice (some pd13) E.length lc9), (2, Vi cost), (3, Vp w.heap.size), (9, Vi i), (68, .bool true)] ?_;clear F ac;intro ac F
         refine Y.condT (F.ev 68 (.bool true)) ?_
         refine Y.sg F [(6, .bool false), (7, Vi 0)] (Y.pv F (X.assign rfl (X.kc (.bool false) rfl)) fun ac F=>Y.pv F (X.assign rfl (X.kc (Vi 0) rfl)) fun ac F=>Y.fin F) ?_;clear F ac;intro ac F
         refine Y.ret ?_
         refine X.blockR (X.thenR (X.thenR (X.blockR (X.thenR ?_))))
         exact Y.ret0 (v := .tuple #[.bool false, Vi 0]) F (Y.rs2 F rfl (by kernel_rfl) (by kernel_rfl)) ⟨by rw [prov_no hxxf hlf, hck], G⟩
        | true =>
         try rw [h26] at F
         refine Y.pg F 27 56 false (X.field rfl (F.ev 10 (Vp w10.heap.size)) (X.fld Try.underlying49 rfl (Try.siz3 _) rfl rfl)) ?_;clear F ac;intro ac F
         refine Y.pg F 27 56 false (X.load rfl (F.ev 57 (.pointer (some ⟨w10.heap.size, 1, none⟩))) (X.ld1 (Try.agg3 _) (hC.at 7 rfl))) ?_;clear F ac;intro ac F
         refine Y.pg F 27 56 false (X.binop rfl (F.ev 58 (Vi xf.why)) (X.kc (Vi 2) rfl) (X.eqlI Try.underlying3 rfl)) ?_;clear F ac;intro ac F
         refine Y.pg F 27 56 false (X.move rfl (F.ev 59 (.bool ((xf.why : Int) == 2)))) ?_;clear F ac;intro ac F
         have h28 : ((xf.why : Int) == 2) = false := by rw [hw1]; rfl
         try rw [h28] at F
         refine Y.ps F 31 60 false ?_;clear F ac;intro ac F
         refine Y.ps F 31 60 false ?_;clear F ac;intro ac F
         refine Y.ps F 31 60 false ?_;clear F ac;intro ac F
         refine Y.ps F 31 60 false ?_;clear F ac;intro ac F
         refine Y.ps F 31 60 false ?_;clear F ac;intro ac F
         refine Y.ps F 31 60 false ?_;clear F ac;intro ac F
         refine Y.pg F 27 56 false (X.pickF rfl (F.ev 60 (.bool false)) (X.kc (.bool false) rfl)) ?_;clear F ac;intro ac F
         refine Y.pv F (X.pickF rfl (F.ev 56 (.bool false)) (F.ev 67 (.bool false))) ?_;clear F ac;intro ac F
         refine Y.nt F [(1, .slice (some pd13) E.length lc9), (2, Vi cost), (3, Vp w.heap.size), (9, Vi i), (68, .bool false)] ?_;clear F ac;intro ac F
         refine Y.condF (F.ev 68 (.bool false)) ?_
         refine Y.skip ?_
         refine X.blockN (X.thenN ?_)
         refine Y.lg F [(1, .slice (some pd13) E.length lc9), (2, Vi cost), (3, Vp w.heap.size), (9, Vi ((i : Int) + 1))] (by
          refine Y.pv F (X.move rfl (F.ev 9 (Vi i))) fun ac F=>?_
          refine Y.pv F (X.binop rfl (F.ev 23 (Vi i)) (X.kc (Vi 1) rfl) (X.addI Try.underlying3 rfl (by omega) (by omega))) fun ac F=>?_
          refine Y.pv F (X.assign rfl (F.ev 24 (Vi ((i : Int) + 1)))) fun ac F=>?_
          exact Y.fin F) ?_;clear F ac;intro ac F
         refine ⟨_, ?_, i + 1, rfl, hO1, by omega, okE_s hok hxxf (lf_6 hw1 hlen hho h26), F.sub _⟩
         omega
      | true =>
       try rw [h19] at F
       have h19p : ((2 : Int) < xf.why) := of_decide_eq_true h19
       have hlf : lfB p cost (xf.b.xs, xf.why) = false := lf_4 (by omega) (by omega)
       refine Y.ps F 15 44 true ?_;clear F ac;intro ac F
       refine Y.ps F 15 44 true ?_;clear F ac;intro ac F
       refine Y.ps F 15 44 true ?_;clear F ac;intro ac F
       refine Y.ps F 15 44 true ?_;clear F ac;intro ac F
       refine Y.pn F 19 48 ?_;clear F ac;intro ac F
       refine Y.pn F 19 48 ?_;clear F ac;intro ac F
       refine Y.pn F 19 48 ?_;clear F ac;intro ac F
       refine Y.pn F 19 48 ?_;clear F ac;intro ac F
       refine Y.pn F 19 48 ?_;clear F ac;intro ac F
       refine Y.ps F 15 44 true ?_;clear F ac;intro ac F
       refine Y.pv2 F (X.pickT rfl (F.ev 44 (.bool true)) (X.kc (.bool true) rfl)) (fun _ F=>X.move rfl (F.ev 55 (.bool true))) ?_;clear F ac;intro ac F
       refine Y.ps F 27 56 true ?_;clear F ac;intro ac F
       refine Y.ps F 27 56 true ?_;clear F ac;intro ac F
       refine Y.ps F 27 56 true ?_;clear F ac;intro ac F
       refine Y.ps F 27 56 true ?_;clear F ac;intro ac F
       refine Y.pn F 31 60 ?_;clear F ac;intro ac F
       refine Y.pn F 31 60 ?_;clear F ac;intro ac F
       refine Y.pn F 31 60 ?_;clear F ac;intro ac F
       refine Y.pn F 31 60 ?_;clear F ac;intro ac F
       refine Y.pn F 31 60 ?_;clear F ac;intro ac F
       refine Y.pn F 31 60 ?_;clear F ac;intro ac F
       refine Y.ps F 27 56 true ?_;clear F ac;intro ac F
       refine Y.pv F (X.pickT rfl (F.ev 56 (.bool true)) (X.kc (.bool true) rfl)) ?_;clear F ac;intro ac F
       refine Y.nt F [(1, .slice (some pd13) E.length lc9), (2, Vi cost), (3, Vp w.heap.size), (9, Vi i), (68, .bool true)] ?_;clear F ac;intro ac F
       refine Y.condT (F.ev 68 (.bool true)) ?_
       refine Y.sg F [(6, .bool false), (7, Vi 0)] (Y.pv F (X.assign rfl (X.kc (.bool false) rfl)) fun ac F=>Y.pv F (X.assign rfl (X.kc (Vi 0) rfl)) fun ac F=>Y.fin F) ?_;clear F ac;intro ac F
       refine Y.ret ?_
       refine X.blockR (X.thenR (X.thenR (X.blockR (X.thenR ?_))))
       exact Y.ret0 (v := .tuple #[.bool false, Vi 0]) F (Y.rs2 F rfl (by kernel_rfl) (by kernel_rfl)) ⟨by rw [prov_no hxxf hlf, hck], G⟩
     | true =>
      try rw [h18] at F
      have h18p : ((xf.why : Int) < 1) := of_decide_eq_true h18
      have hlf : lfB p cost (xf.b.xs, xf.why) = false := lf_4 (by omega) (by omega)
      refine Y.ps F 10 39 true ?_;clear F ac;intro ac F
      refine Y.ps F 10 39 true ?_;clear F ac;intro ac F
      refine Y.ps F 10 39 true ?_;clear F ac;intro ac F
      refine Y.pv2 F (X.pickT rfl (F.ev 39 (.bool true)) (X.kc (.bool true) rfl)) (fun _ F=>X.move rfl (F.ev 43 (.bool true))) ?_;clear F ac;intro ac F
      refine Y.ps F 15 44 true ?_;clear F ac;intro ac F
      refine Y.ps F 15 44 true ?_;clear F ac;intro ac F
      refine Y.ps F 15 44 true ?_;clear F ac;intro ac F
      refine Y.ps F 15 44 true ?_;clear F ac;intro ac F
      refine Y.pn F 19 48 ?_;clear F ac;intro ac F
      refine Y.pn F 19 48 ?_;clear F ac;intro ac F
      refine Y.pn F 19 48 ?_;clear F ac;intro ac F
      refine Y.pn F 19 48 ?_;clear F ac;intro ac F
      refine Y.pn F 19 48 ?_;clear F ac;intro ac F
      refine Y.ps F 15 44 true ?_;clear F ac;intro ac F
      refine Y.pv2 F (X.pickT rfl (F.ev 44 (.bool true)) (X.kc (.bool true) rfl)) (fun _ F=>X.move rfl (F.ev 55 (.bool true))) ?_;clear F ac;intro ac F
      refine Y.ps F 27 56 true ?_;clear F ac;intro ac F
      refine Y.ps F 27 56 true ?_;clear F ac;intro ac F
      refine Y.ps F 27 56 true ?_;clear F ac;intro ac F
      refine Y.ps F 27 56 true ?_;clear F ac;intro ac F
      refine Y.pn F 31 60 ?_;clear F ac;intro ac F
      refine Y.pn F 31 60 ?_;clear F ac;intro ac F
      refine Y.pn F 31 60 ?_;clear F ac;intro ac F
      refine Y.pn F 31 60 ?_;clear F ac;intro ac F
      refine Y.pn F 31 60 ?_;clear F ac;intro ac F
      refine Y.pn F 31 60 ?_;clear F ac;intro ac F
      refine Y.ps F 27 56 true ?_;clear F ac;intro ac F
      refine Y.pv F (X.pickT rfl (F.ev 56 (.bool true)) (X.kc (.bool true) rfl)) ?_;clear F ac;intro ac F
      refine Y.nt F [(1, .slice (some pd13) E.length lc9), (2, Vi cost), (3, Vp w.heap.size), (9, Vi i), (68, .bool true)] ?_;clear F ac;intro ac F
      refine Y.condT (F.ev 68 (.bool true)) ?_
      refine Y.sg F [(6, .bool false), (7, Vi 0)] (Y.pv F (X.assign rfl (X.kc (.bool false) rfl)) fun ac F=>Y.pv F (X.assign rfl (X.kc (Vi 0) rfl)) fun ac F=>Y.fin F) ?_;clear F ac;intro ac F
      refine Y.ret ?_
      refine X.blockR (X.thenR (X.thenR (X.blockR (X.thenR ?_))))
      exact Y.ret0 (v := .tuple #[.bool false, Vi 0]) F (Y.rs2 F rfl (by kernel_rfl) (by kernel_rfl)) ⟨by rw [prov_no hxxf hlf, hck], G⟩
    | true =>
     try rw [h17] at F
     have h17p : ¬ (begE p xf.b.xs : Int) = 0 := by simpa using h17
     have hlf : lfB p cost (xf.b.xs, xf.why) = false := beg_no hck (by omega)
     refine Y.ps F 5 34 true ?_;clear F ac;intro ac F
     refine Y.ps F 5 34 true ?_;clear F ac;intro ac F
     refine Y.ps F 5 34 true ?_;clear F ac;intro ac F
     refine Y.pv2 F (X.pickT rfl (F.ev 34 (.bool true)) (X.kc (.bool true) rfl)) (fun _ F=>X.move rfl (F.ev 38 (.bool true))) ?_;clear F ac;intro ac F
     refine Y.ps F 10 39 true ?_;clear F ac;intro ac F
     refine Y.ps F 10 39 true ?_;clear F ac;intro ac F
     refine Y.ps F 10 39 true ?_;clear F ac;intro ac F
     refine Y.pv2 F (X.pickT rfl (F.ev 39 (.bool true)) (X.kc (.bool true) rfl)) (fun _ F=>X.move rfl (F.ev 43 (.bool true))) ?_;clear F ac;intro ac F
     refine Y.ps F 15 44 true ?_;clear F ac;intro ac F
     refine Y.ps F 15 44 true ?_;clear F ac;intro ac F
     refine Y.ps F 15 44 true ?_;clear F ac;intro ac F
     refine Y.ps F 15 44 true ?_;clear F ac;intro ac F
     refine Y.pn F 19 48 ?_;clear F ac;intro ac F
     refine Y.pn F 19 48 ?_;clear F ac;intro ac F
     refine Y.pn F 19 48 ?_;clear F ac;intro ac F
     refine Y.pn F 19 48 ?_;clear F ac;intro ac F
     refine Y.pn F 19 48 ?_;clear F ac;intro ac F
     refine Y.ps F 15 44 true ?_;clear F ac;intro ac F
     refine Y.pv2 F (X.pickT rfl (F.ev 44 (.bool true)) (X.kc (.bool true) rfl)) (fun _ F=>X.move rfl (F.ev 55 (.bool true))) ?_;clear F ac;intro ac F
     refine Y.ps F 27 56 true ?_;clear F ac;intro ac F
     refine Y.ps F 27 56 true ?_;clear F ac;intro ac F
     refine Y.ps F 27 56 true ?_;clear F ac;intro ac F
     refine Y.ps F 27 56 true ?_;clear F ac;intro ac F
     refine Y.pn F 31 60 ?_;clear F ac;intro ac F
     refine Y.pn F 31 60 ?_;clear F ac;intro ac F
     refine Y.pn F 31 60 ?_;clear F ac;intro ac F
     refine Y.pn F 31 60 ?_;clear F ac;intro ac F
     refine Y.pn F 31 60 ?_;clear F ac;intro ac F
     refine Y.pn F 31 60 ?_;clear F ac;intro ac F
     refine Y.ps F 27 56 true ?_;clear F ac;intro ac F
     refine Y.pv F (X.pickT rfl (F.ev 56 (.bool true)) (X.kc (.bool true) rfl)) ?_;clear F ac;intro ac F
     refine Y.nt F [(1, .slice (some pd13) E.length lc9), (2, Vi cost), (3, Vp w.heap.size), (9, Vi i), (68, .bool true)] ?_;clear F ac;intro ac F
     refine Y.condT (F.ev 68 (.bool true)) ?_
     refine Y.sg F [(6, .bool false), (7, Vi 0)] (Y.pv F (X.assign rfl (X.kc (.bool false) rfl)) fun ac F=>Y.pv F (X.assign rfl (X.kc (Vi 0) rfl)) fun ac F=>Y.fin F) ?_;clear F ac;intro ac F
     refine Y.ret ?_
     refine X.blockR (X.thenR (X.thenR (X.blockR (X.thenR ?_))))
     exact Y.ret0 (v := .tuple #[.bool false, Vi 0]) F (Y.rs2 F rfl (by kernel_rfl) (by kernel_rfl)) ⟨by rw [prov_no hxxf hlf, hck], G⟩
  | true =>
   try rw [h9] at F
   have h9p : ((5000 : Int) < E.length) := of_decide_eq_true h9
   refine Y.condT (F.ev 18 (.bool true)) ?_
   refine Y.sg F [(6, .bool false), (7, Vi 2)] (Y.pv F (X.assign rfl (X.kc (.bool false) rfl)) fun ac F=>Y.pv F (X.assign rfl (X.kc (Vi 2) rfl)) fun ac F=>Y.fin F) ?_;clear F ac;intro ac F
   refine Y.ret ?_
   refine X.thenR ?_
   exfalso; omega
 | true =>
  try rw [h8] at F
  have h8p : ¬ (chkE p : Int) = 0 := by simpa using h8
  refine Y.condT (F.ev 14 (.bool true)) ?_
  refine Y.sg F [(6, .bool false), (7, Vi (chkE p))] (Y.pv F (X.move rfl (F.ev 8 (Vi (chkE p)))) fun ac F=>Y.pv F (X.assign rfl (X.kc (.bool false) rfl)) fun ac F=>Y.pv F (X.assign rfl (F.ev 15 (Vi (chkE p)))) fun ac F=>Y.fin F) ?_;clear F ac;intro ac F
  refine Y.ret ?_
  refine X.thenR ?_
  exact Y.ret0 (v := .tuple #[.bool false, Vi (chkE p)]) F (Y.rs2 F rfl (by kernel_rfl) (by kernel_rfl)) ⟨by rw [prov_0 (by omega)], G⟩
end
section
set_option linter.unusedVariables false
open Go.RowKit
theorem Try.bd49 (a : Option Addr) (n c : Nat) (y : Int) (w : World) : (Instr.build 49 #[(0, .slice a n c), (1, .int .i64 y)]).run Try.prog w = .ok (.agg #[.slice a n c, .int .i64 y]) w := by kernel_rfl
theorem Try.bs45_1 (a : Option Addr) (n c : Nat) (y : Int) (w : World) : (Instr.buildSlice 45 1 #[(0, .agg #[.slice a n c, .int .i64 y])]).run Try.prog w = .ok (.slice (some ⟨w.heap.size, 0, none⟩) 1 1) (w.alloc (.cells #[.slice a n c, .int .i64 y] 49)) := by kernel_rfl
section
variable {W W' : World} {ob r2 r3 B : Nat} {v : Value} {E : List LfE}
end
section
variable {W W' : World} {ob r2 r3 B : Nat} {s : List (List Int × Int)} {O Kp : Nat → Prop}
end
end
section
set_option linter.unusedVariables false
open Go.RowKit
/-- leaves in a slice of the call's own -/
structure LvAt (W : World) (B : Nat) (v : Value) (E : List LfE) : Prop where
  o : OwnR W B 49 2 v E.length (lfsV E)
  i : ∀ x ∈ E, Ints W x.b.a x.b.xs.length x.b.xs ∧ x.b.xs.length ≤ x.b.c
  n : ∀ x ∈ E, ∀ ad, x.b.a = some ad → v.ownBlock ≠ some ad.block ∧ ad.block < W.heap.size
section
variable {W W' : World} {B : Nat} {v : Value} {E : List LfE}
theorem LvAt.gr (h : LvAt W B v E) (g : Gr W W') : LvAt W' B v E :=
  ⟨h.o.gr g, fun x hx => ⟨(h.i x hx).1.gr g, (h.i x hx).2⟩, fun x hx ad e => ⟨(h.n x hx ad e).1, Nat.lt_of_lt_of_le (h.n x hx ad e).2 g.size⟩⟩
theorem LvAt.nil (W : World) (B : Nat) : LvAt W B (.slice none 0 0) [] := ⟨OwnR.nil _ _ _ _, fun x hx => (by simp at hx), fun x hx => (by simp at hx)⟩
theorem LvAt.lf {a : Option Addr} {c : Nat} (h : LvAt W B (.slice a E.length c) E) : LfAt W a E := lf_own h.o h.i
/-- where a slice is behind an append -/
def Moved (W : World) (v v2 : Value) : Prop := v2.ownBlock = v.ownBlock ∨ ∃ b, v2.ownBlock = some b ∧ W.heap.size ≤ b
theorem Moved.of {v v2 : Value} {b : Nat} (h : Moved W v v2) (e : v2.ownBlock = some b) : v.ownBlock = some b ∨ W.heap.size ≤ b := by
  rcases h with h | ⟨c, h1, h2⟩
  · exact .inl (h ▸ e)
  · rw [h1] at e; injection e with e; subst e; exact .inr h2
theorem Moved.ne {v v2 : Value} {b : Nat} (h : Moved W v v2) (k : v.ownBlock ≠ some b) (hb : b < W.heap.size) : v2.ownBlock ≠ some b := fun e => by
  rcases h.of e with h | h
  · exact k h
  · omega
/-- one more leaf -/
theorem LvAt.push {v2 : Value} {x : LfE} (h : LvAt W B v E) (hi : Ints W x.b.a x.b.xs.length x.b.xs ∧ x.b.xs.length ≤ x.b.c) (hn : ∀ ad, x.b.a = some ad → ad.block < W.heap.size ∧ v.ownBlock ≠ some ad.block) (hO : OwnR W' B 49 2 v2 (E.length + 1) (lfsV E ++ [.slice x.b.a x.b.xs.length x.b.c, .int .i64 x.why]))
    (hon : Only (fun b => v.ownBlock = some b) W W') (hat : v2.ownBlock = v.ownBlock ∨ v2.ownBlock = some W.heap.size) : LvAt W' B v2 (E ++ [x]) ∧ Moved W v v2 := by
  have hx : ∀ y ∈ E ++ [x], (Ints W y.b.a y.b.xs.length y.b.xs ∧ y.b.xs.length ≤ y.b.c) ∧ ∀ ad, y.b.a = some ad → v.ownBlock ≠ some ad.block ∧ ad.block < W.heap.size := fun y hy => by
    rcases List.mem_append.1 hy with hy | hy
    · exact ⟨h.i y hy, h.n y hy⟩
    · simp at hy; subst hy; exact ⟨hi, fun ad e => ⟨(hn ad e).2, (hn ad e).1⟩⟩
  have hM : Moved W v v2 := hat.imp (fun h => h) (fun h => ⟨_, h, Nat.le_refl _⟩)
  refine ⟨⟨by rw [List.length_append, lfs_app]; exact hO, fun y hy => ⟨(hx y hy).1.1.onlyAt hon (fun ad e => ((hx y hy).2 ad e).1), (hx y hy).1.2⟩, fun y hy ad e => ?_⟩, hM⟩
  obtain ⟨k1, k2⟩ := (hx y hy).2 ad e
  exact ⟨hM.ne k1 k2, Nat.lt_of_lt_of_le k2 hon.size⟩
end
end
section
open Go.RowKit

theorem OwnR.intsS {W : World} {B c : Nat} {a : Option Addr} {xs : List Int} (h : OwnR W B 3 1 (.slice a xs.length c) xs.length (xs.map (Value.int .i64))) (hl : xs.length < 1152921504606846976) : Ints W a xs.length xs := by
  obtain ⟨a', c', e, h'⟩ := h.ints hl
  injection e with e
  subst e; exact h'
end
section
open Go.RowKit

set_option maxRecDepth 100000 in
set_option maxHeartbeats 4000000 in
theorem copied_any (la9 : Option Addr) (lc9 : Nat) (E : List LfE) (w : World) (hL : LfAt w la9 E) (hE : E.length ≤ 5000) (hx30 : ∀ x ∈ E, x.b.xs.length ≤ 30) :
  Calls Try.prog 49 #[.slice la9 E.length lc9] w fun e w' => ∃ a c E2, e = .returned (.slice a (List.length E2) c) ∧ LfAt w' a E2 ∧ stripL E2 = stripL E ∧ Gr w w' := by
 have G := Gr.refl w
 have hl := hL
 refine Y.calls 27 Try.func49 rfl rfl ?_
 intro ac F0
 have F : Fr ac 27 [(0, .slice la9 E.length lc9)] := F0.sub _
 clear F0
 refine Y.sg F [(0, .slice la9 E.length lc9)] (Y.pv F (X.assign rfl (X.kc (.slice none 0 0) rfl)) fun ac F=>Y.fin F) ?_;clear F ac;intro ac F
 refine Y.sg F [(0, .slice la9 E.length lc9), (3, .slice none 0 0)] (Y.pv F (X.assign rfl (X.kc (.slice none 0 0) rfl)) fun ac F=>Y.fin F) ?_;clear F ac;intro ac F
 refine Y.seq ?_
 refine Y.sg F [(0, .slice la9 E.length lc9), (3, .slice none 0 0), (4, Vi 0)] (Y.pv F (X.assign rfl (X.kc (Vi 0) rfl)) fun ac F=>Y.fin F) ?_;clear F ac;intro ac F
 refine Y.block ?_
 have hW1 : w.heap.size ≤ w.heap.size := G.size
 refine Y.loop (fun me_ ac wr => ∃ (i : Nat) (E2 : List LfE) (oa : Option Addr) (oc : Nat), me_ = E.length - i ∧ Only (fun b => False) w wr ∧ i ≤ E.length ∧ LvAt wr w.heap.size (.slice oa E2.length oc) E2 ∧ stripL E2 = stripL (E.take i) ∧ Fr ac 27 [(0, .slice la9 E.length lc9), (3, .slice oa E2.length oc), (4, Vi i)]) _ ⟨0, [], none, 0, rfl, Only.refl _ _, Nat.zero_le _, LvAt.nil _ _, rfl, F.sub _⟩ ?_
 have hlB1 := hl
 have GB1 := G
 clear F ac
 intro me_ ac w3 hI
 obtain ⟨i, E2, oa, oc, rfl, hO1, hi, hLv, hst, F⟩ := hI
 replace G := GB1.trans (hO1.gr (fun _ _ h => h))
 replace hl := (hL).gr G
 have hl2 : E2.length = i := by have h9 := congrArg List.length hst; rw [stripL_len, stripL_len, List.length_take] at h9; omega
 refine Y.seq ?_
 refine Y.sg F [(0, .slice la9 E.length lc9), (3, .slice oa E2.length oc), (4, Vi i), (8, .bool (decide ((i : Int) < E.length)))] (Y.pv F (X.move rfl (F.ev 4 (Vi i))) fun ac F=>Y.pv F (X.move rfl (F.ev 0 (.slice la9 E.length lc9))) fun ac F=>Y.pv F (X.len1 Try.underlying45 rfl (F.ev 6 (.slice la9 E.length lc9))) fun ac F=>Y.pv F (X.binop rfl (F.ev 5 (Vi i)) (F.ev 7 (Vi E.length)) (X.lssI Try.underlying3 rfl)) fun ac F=>Y.fin F) ?_;clear F ac;intro ac F
 cases h4 : decide ((i : Int) < E.length) with
 | false =>
  try rw [h4] at F
  have h4p : ¬ ((i : Int) < E.length) := of_decide_eq_false h4
  obtain rfl : i = E.length := by omega
  rw [List.take_length] at hst
  refine Y.condF (F.ev 8 (.bool false)) ?_
  refine Y.exit ?_
  refine X.thenX (X.thenX (X.blockX (X.thenN ?_)))
  refine Y.sg F [(2, .slice oa E2.length oc)] (Y.pv F (X.move rfl (F.ev 3 (.slice oa E2.length oc))) fun ac F=>Y.pv F (X.assign rfl (F.ev 26 (.slice oa E2.length oc))) fun ac F=>Y.fin F) ?_;clear F ac;intro ac F
  refine Y.ret ?_
  exact Y.ret0 (v := .slice oa E2.length oc) F (Y.r1 F) ⟨oa, oc, E2, rfl, hLv.lf, hst, G⟩
 | true =>
  try rw [h4] at F
  have h4p : ((i : Int) < E.length) := of_decide_eq_true h4
  refine Y.condT (F.ev 8 (.bool true)) ?_
  refine Y.skip ?_
  refine X.thenN ?_
  refine Y.seq ?_
  refine Y.block ?_
  obtain ⟨xf, hxxf⟩ : ∃ x, E[i]? = some x := ⟨_, List.getElem?_eq_getElem (by omega)⟩
  have hx3 := hx30 xf (List.mem_of_getElem? hxxf)
  obtain ⟨pd5, pe5, pc5, pw5, pI5, pl5⟩ := hl i xf hxxf
  subst pe5
  have hC : RCells w3 [(pd5.add (i * 2), .slice xf.b.a xf.b.xs.length xf.b.c), (⟨(pd5.add (i * 2)).block, (pd5.add (i * 2)).off + 1, none⟩, Vi xf.why)] := (RCells.cons pc5 (RCells.cons pw5 (RCells.nil _)))
  clear pc5
  obtain ⟨Tp, hTp⟩ : ∃ T : Nat → Value → World → Prop, T = fun i v W => ∃ xa6 xc6, (i = 6 ∧ v = .slice xa6 xf.b.xs.length xc6 ∧ OwnR W w3.heap.size 3 1 (.slice xa6 xf.b.xs.length xc6) xf.b.xs.length (xf.b.xs.map (Value.int .i64))) ∨ (i = 12 ∧ v = .agg #[.slice xa6 xf.b.xs.length xc6, Vi xf.why] ∧ OwnR W w3.heap.size 3 1 (.slice xa6 xf.b.xs.length xc6) xf.b.xs.length (xf.b.xs.map (Value.int .i64))) ∨ (i = 13 ∧ (∃ g9, v = .slice (some ⟨g9, 0, none⟩) 1 1 ∧ W.heap[g9]? = some (.cells #[.slice xa6 xf.b.xs.length xc6, Vi xf.why] 49)) ∧ OwnR W w3.heap.size 3 1 (.slice xa6 xf.b.xs.length xc6) xf.b.xs.length (xf.b.xs.map (Value.int .i64))) := ⟨_, rfl⟩
  obtain ⟨Tc, hTc⟩ : ∃ T : Value → World → Prop, T = fun v W => ∃ xa6 xc6 oa3 oc3, v = .slice oa3 (E2.length + 1) oc3 ∧ LvAt W w.heap.size (.slice oa3 (E2.length + 1) oc3) (E2 ++ [⟨⟨xf.b.xs, xa6, xc6⟩, xf.why⟩]) ∧ Only (fun b => (Value.slice oa E2.length oc).ownBlock = some b) w3 W := ⟨_, rfl⟩
  have uTp : ∀ i, UpV (Tp i) := by
   subst hTp
   rintro i v W W2 ⟨x, y, h⟩ g
   refine ⟨x, y, ?_⟩
   rcases h with ⟨h1, h2, h3⟩ | ⟨h1, h2, h3⟩ | ⟨h1, ⟨q, h2, h3⟩, h4⟩
   ·exact .inl ⟨h1, h2, h3.gr g⟩
   ·exact .inr (.inl ⟨h1, h2, h3.gr g⟩)
   ·exact .inr (.inr ⟨h1, ⟨q, h2, (g.below.block _ (Array.getElem?_eq_some_iff.1 h3).1).trans h3⟩, h4.gr g⟩)
  refine region_xi F [some (.slice oa E2.length oc), some (.slice (some pd5) E.length lc9), some (Vi i), some (.pointer (some (pd5.add (i * 2)))), some (.pointer (some (pd5.add (i * 2)))), some (.slice xf.b.a xf.b.xs.length xf.b.c), none, some (.slice (some pd5) E.length lc9), some (Vi i), some (.pointer (some (pd5.add (i * 2)))), some (.pointer (some (⟨(pd5.add (i * 2)).block, (pd5.add (i * 2)).off + 1, none⟩))), some (Vi xf.why), none, none, none, none] (RQ w3 [6, 12, 13] 14 15 Tp Tc) rfl ⟨by kernel_rfl, of_decide_eq_true (by kernel_rfl), by kernel_rfl, by kernel_rfl, by kernel_rfl⟩ (fun _ => ⟨RQ.start (Gr.refl _), RQ.start (Gr.drew _)⟩) ⟨?_, ?_, ?_, ?_, ?_, ?_, ?_, ?_, ?_, ?_, ?_, ?_, ?_, ?_, ?_, ?_, trivial⟩ ?_
  ·intro ac done u W Sx hR
   have g : Gr w3 W := hR.g (Sx.no 14 (by kernel_rfl))
   exact X.vl (X.move rfl (Sx.ev 3 (.slice oa E2.length oc))) (hR.quiet uTp (Sx.no 14 (by kernel_rfl)) (Sx.no 15 (by kernel_rfl)) (Gr.refl _) (by decide))
  ·intro ac done u W Sx hR
   have g : Gr w3 W := hR.g (Sx.no 14 (by kernel_rfl))
   exact X.vl (X.move rfl (Sx.ev 0 (.slice (some pd5) E.length lc9))) (hR.quiet uTp (Sx.no 14 (by kernel_rfl)) (Sx.no 15 (by kernel_rfl)) (Gr.refl _) (by decide))
  ·intro ac done u W Sx hR
   have g : Gr w3 W := hR.g (Sx.no 14 (by kernel_rfl))
   exact X.vl (X.move rfl (Sx.ev 4 (Vi i))) (hR.quiet uTp (Sx.no 14 (by kernel_rfl)) (Sx.no 15 (by kernel_rfl)) (Gr.refl _) (by decide))
  ·intro ac done u W Sx hR
   have g : Gr w3 W := hR.g (Sx.no 14 (by kernel_rfl))
   exact X.vl (X.index rfl (Sx.ev 12 (.slice (some pd5) E.length lc9)) (Sx.ev 13 (Vi i)) (X.idx (k := i) Try.underlying45 (Try.siz49 _) (by omega) (by omega) rfl)) (hR.quiet uTp (Sx.no 14 (by kernel_rfl)) (Sx.no 15 (by kernel_rfl)) (Gr.refl _) (by decide))
  ·intro ac done u W Sx hR
   have g : Gr w3 W := hR.g (Sx.no 14 (by kernel_rfl))
   exact X.vl (X.field rfl (Sx.ev 14 (.pointer (some (pd5.add (i * 2))))) (X.fld Try.underlying49 rfl (Try.siz34 _) rfl rfl)) (hR.quiet uTp (Sx.no 14 (by kernel_rfl)) (Sx.no 15 (by kernel_rfl)) (Gr.refl _) (by decide))
  ·intro ac done u W Sx hR
   have g : Gr w3 W := hR.g (Sx.no 14 (by kernel_rfl))
   exact X.vl (X.load rfl (Sx.ev 15 (.pointer (some (pd5.add (i * 2))))) (X.ld1 (Try.agg34 _) ((hC.gr g).at 0 rfl))) (hR.quiet uTp (Sx.no 14 (by kernel_rfl)) (Sx.no 15 (by kernel_rfl)) (Gr.refl _) (by decide))
  ·intro ac done u W Sx hR
   have g : Gr w3 W := hR.g (Sx.no 14 (by kernel_rfl))
   refine X.call (X.w0 rfl) (X.enter (F := 33) rfl (X.kc (.func (.func 33) #[] #[]) rfl) (X.a1 (Sx.ev 16 (.slice xf.b.a xf.b.xs.length xf.b.c))) (enters_of Try.func33 (by kernel_rfl) rfl _)) (ints_any xf.b.a xf.b.c xf.b.xs W (pI5.gr g) (by omega)) ?_
   rintro e W2 ⟨xa6, xc6, rfl, hO6, g2⟩
   exact ⟨_, rfl, X.un rfl, hR.step uTp (Sx.no 14 (by kernel_rfl)) (Sx.no 15 (by kernel_rfl)) g2 (by decide) (fun _ => by subst hTp; exact ⟨xa6, xc6, .inl ⟨rfl, rfl, hO6.lower g.size⟩⟩)⟩
  ·intro ac done u W Sx hR
   have g : Gr w3 W := hR.g (Sx.no 14 (by kernel_rfl))
   exact X.vl (X.move rfl (Sx.ev 0 (.slice (some pd5) E.length lc9))) (hR.quiet uTp (Sx.no 14 (by kernel_rfl)) (Sx.no 15 (by kernel_rfl)) (Gr.refl _) (by decide))
  ·intro ac done u W Sx hR
   have g : Gr w3 W := hR.g (Sx.no 14 (by kernel_rfl))
   exact X.vl (X.move rfl (Sx.ev 4 (Vi i))) (hR.quiet uTp (Sx.no 14 (by kernel_rfl)) (Sx.no 15 (by kernel_rfl)) (Gr.refl _) (by decide))
  ·intro ac done u W Sx hR
   have g : Gr w3 W := hR.g (Sx.no 14 (by kernel_rfl))
   exact X.vl (X.index rfl (Sx.ev 18 (.slice (some pd5) E.length lc9)) (Sx.ev 19 (Vi i)) (X.idx (k := i) Try.underlying45 (Try.siz49 _) (by omega) (by omega) rfl)) (hR.quiet uTp (Sx.no 14 (by kernel_rfl)) (Sx.no 15 (by kernel_rfl)) (Gr.refl _) (by decide))
  ·intro ac done u W Sx hR
   have g : Gr w3 W := hR.g (Sx.no 14 (by kernel_rfl))
   exact X.vl (X.field rfl (Sx.ev 20 (.pointer (some (pd5.add (i * 2))))) (X.fld Try.underlying49 rfl (Try.siz3 _) rfl rfl)) (hR.quiet uTp (Sx.no 14 (by kernel_rfl)) (Sx.no 15 (by kernel_rfl)) (Gr.refl _) (by decide))
  ·intro ac done u W Sx hR
   have g : Gr w3 W := hR.g (Sx.no 14 (by kernel_rfl))
   exact X.vl (X.load rfl (Sx.ev 21 (.pointer (some (⟨(pd5.add (i * 2)).block, (pd5.add (i * 2)).off + 1, none⟩)))) (X.ld1 (Try.agg3 _) ((hC.gr g).at 1 rfl))) (hR.quiet uTp (Sx.no 14 (by kernel_rfl)) (Sx.no 15 (by kernel_rfl)) (Gr.refl _) (by decide))
  ·intro ac done u W Sx hR
   have g : Gr w3 W := hR.g (Sx.no 14 (by kernel_rfl))
   have hA := hR.gp 6 (by simp) (Sx.an 6 (by kernel_rfl)) (Sx.no 14 (by kernel_rfl))
   rw [hTp] at hA
   obtain ⟨xa6, xc6, hA⟩ := hA
   obtain ⟨e6, hO6⟩ : u 6 = .slice xa6 xf.b.xs.length xc6 ∧ OwnR W w3.heap.size 3 1 (.slice xa6 xf.b.xs.length xc6) xf.b.xs.length (xf.b.xs.map (Value.int .i64)) := by
    rcases hA with ⟨_, h⟩ | ⟨h, _⟩ | ⟨h, _⟩
    ·exact h
    ·omega
    ·omega
   exact X.valN (X.w0 rfl) rfl (Y.bd rfl (X.b2 ((Sx.own 6 17 rfl).trans e6) (Sx.ev 22 (Vi xf.why))) (Try.bd49 _ _ _ _ _)) (hR.step uTp (Sx.no 14 (by kernel_rfl)) (Sx.no 15 (by kernel_rfl)) (Gr.refl _) (by decide) (fun _ => by subst hTp; exact ⟨xa6, xc6, .inr (.inl ⟨rfl, rfl, hO6⟩)⟩))
  ·intro ac done u W Sx hR
   have g : Gr w3 W := hR.g (Sx.no 14 (by kernel_rfl))
   have hA := hR.gp 12 (by simp) (Sx.an 12 (by kernel_rfl)) (Sx.no 14 (by kernel_rfl))
   rw [hTp] at hA
   obtain ⟨xa6, xc6, hA⟩ := hA
   obtain ⟨e12, hO6⟩ : u 12 = .agg #[.slice xa6 xf.b.xs.length xc6, Vi xf.why] ∧ OwnR W w3.heap.size 3 1 (.slice xa6 xf.b.xs.length xc6) xf.b.xs.length (xf.b.xs.map (Value.int .i64)) := by
    rcases hA with ⟨h, _⟩ | ⟨_, h⟩ | ⟨h, _⟩
    ·omega
    ·exact h
    ·omega
   exact X.valN (X.w0 rfl) rfl (X.bs rfl (X.b1 ((Sx.own 12 23 rfl).trans e12)) (Try.bs45_1 _ _ _ _ _)) (hR.step uTp (Sx.no 14 (by kernel_rfl)) (Sx.no 15 (by kernel_rfl)) (Gr.alloc _ _) (by decide) (fun _ => by subst hTp; exact ⟨xa6, xc6, .inr (.inr ⟨rfl, ⟨_, rfl, heap_alloc_new _ _⟩, hO6.gr (Gr.alloc _ _)⟩)⟩))
  ·intro ac done u W Sx hR
   have g : Gr w3 W := hR.g Sx.nd
   have hA := hR.gp 13 (by simp) (Sx.an 13 (by kernel_rfl)) Sx.nd
   rw [hTp] at hA
   obtain ⟨xa6, xc6, hA⟩ := hA
   obtain ⟨⟨g9, e13, hg9⟩, hO6⟩ : (∃ g9, u 13 = .slice (some ⟨g9, 0, none⟩) 1 1 ∧ W.heap[g9]? = some (.cells #[.slice xa6 xf.b.xs.length xc6, Vi xf.why] 49)) ∧ OwnR W w3.heap.size 3 1 (.slice xa6 xf.b.xs.length xc6) xf.b.xs.length (xf.b.xs.map (Value.int .i64)) := by
    rcases hA with ⟨h, _⟩ | ⟨h, _⟩ | ⟨_, h⟩
    ·omega
    ·omega
    ·exact h
   refine X.law (X.w0 rfl) (fun K_ hK => wp_pushV Try.underlying45 Try.info49 rfl (by decide) rfl (Sx.ev 11 (.slice oa E2.length oc)) ((Sx.own 13 24 rfl).trans e13) (hLv.o.gr g) (m := 1) (news := [.slice xa6 xf.b.xs.length xc6, Vi xf.why]) rfl (cells_at (vs := [.slice xa6 xf.b.xs.length xc6, Vi xf.why]) hg9) rfl (by omega) (by decide) (Nat.le_trans hO1.size g.size) (fun v2 W2 hO3 hon hat => hK v2 W2 (fun x hx => by cases hx) (RQ.sc (by decide) (Sx.no 15 (by kernel_rfl)) ?_)))
   obtain ⟨hLv3, -⟩ := (hLv.gr g).push (x := ⟨⟨xf.b.xs, xa6, xc6⟩, xf.why⟩) ⟨hO6.intsS (by omega), hO6.le⟩ (fun ad e => ⟨(hO6.ge (b := ad.block) (by simp only at e; rw [e]; rfl)).2, fun e2 => by have h1 := (hO6.ge (b := ad.block) (by simp only at e; rw [e]; rfl)).1; have h2 := (hLv.o.ge e2).2; omega⟩) hO3 hon hat
   obtain ⟨oa3, oc3, rfl⟩ := hO3.form
   subst hTc
   exact ⟨xa6, xc6, oa3, oc3, rfl, hLv3, (g.only _).trans hon⟩
  ·intro ac done u W Sx hR
   exact X.valN (X.w0 rfl) rfl (X.assign rfl (Sx.own 14 25 rfl)) (RQ.sd (by decide) (Sx.an 14 (by kernel_rfl)) hR)
  rintro ac u w6 hs hd hl_ ho hR
  have hcc := hR.gc rfl
  have e15 := hR.gd rfl
  rw [hTc] at hcc
  obtain ⟨xa6, xc6, oa3, oc3, e14, hLv3, hon⟩ := hcc
  rw [e14] at e15
  clear hTp hTc uTp e14
  replace F : Fr ac 27 [(0, .slice (some pd5) E.length lc9), (4, Vi i)] := X.fr hs hd hl_ _ (by kernel_rfl)
  replace F := F.add (ho 15 3 rfl) e15
  clear hs hd hl_ ho hR e15
  replace F : Fr ac 27 [(0, .slice (some pd5) E.length lc9), (3, .slice oa3 (E2.length + 1) oc3), (4, Vi i)] := F.sub _
  replace hO1 := hO1.step2 hon (fun r e => .inr (hLv.o.ge e).1)
  clear hon hLv
  refine X.blockN (X.thenN ?_)
  refine Y.lg F [(0, .slice (some pd5) E.length lc9), (3, .slice oa3 (E2.length + 1) oc3), (4, Vi ((i : Int) + 1))] (by
   refine Y.pv F (X.move rfl (F.ev 4 (Vi i))) fun ac F=>?_
   refine Y.pv F (X.binop rfl (F.ev 9 (Vi i)) (X.kc (Vi 1) rfl) (X.addI Try.underlying3 rfl (by omega) (by omega))) fun ac F=>?_
   refine Y.pv F (X.assign rfl (F.ev 10 (Vi ((i : Int) + 1)))) fun ac F=>?_
   exact Y.fin F) ?_;clear F ac;intro ac F
  refine ⟨_, ?_, i + 1, E2 ++ [⟨⟨xf.b.xs, xa6, xc6⟩, xf.why⟩], oa3, oc3, rfl, hO1, by omega, by rw [List.length_append]; exact hLv3, by rw [take_s hxxf, stripL_app, stripL_app, hst]; rfl, (by rw [List.length_append]; exact F.sub _)⟩
  omega
end
section
open Go.RowKit

theorem prov_strip {p : Pb} {cost : Int} {E D : List LfE} (h : stripL E = stripL D) : provB p cost E = provB p cost D := by unfold provB; rw [h]
set_option maxRecDepth 100000 in
set_option maxHeartbeats 2000000 in
theorem leaves_any (p : Pb) (ta ha ba la : Option Addr) (tc hc bc lc : Nat) (la9 : Option Addr) (lc9 : Nat) (E : List LfE) (cost : Int) (w : World) (hP : PbAt w p ta ha ba la tc hc bc lc) (hL : LfAt w la9 E) (hEb : E.length ≤ 1152921504606846975) :
  Calls Try.prog 13 #[.agg #[.slice ta p.nt tc, .slice ha p.nh hc, .slice ba p.nb bc, .slice la p.nl lc], .slice la9 E.length lc9, Vi cost] w fun e w' => e = .returned (.bool true) ∧ Gr w w' := by
 have G := Gr.refl w
 have hPP := hP
 have hl := hL
 refine Y.calls 45 Try.func13 rfl rfl ?_
 intro ac F0
 have F : Fr ac 45 [(0, .agg #[.slice ta p.nt tc, .slice ha p.nh hc, .slice ba p.nb bc, .slice la p.nl lc]), (1, .slice la9 E.length lc9), (2, Vi cost)] := F0.sub _
 clear F0
 refine Y.sl ?_
 have hgs3 : w.heap.size ≤ w.heap.size := G.size
 refine Y.pv F (X.box rfl (F.ev 0 (.agg #[.slice ta p.nt tc, .slice ha p.nh hc, .slice ba p.nb bc, .slice la p.nl lc])) X.bx) ?_;clear F ac;intro ac F
 have hgs5 : w.heap.size ≤ w.heap.size := G.size
 obtain ⟨w6, hw_, g, hb, hbl, hC2⟩ := Y.bxd (RCells.nil w) #[.slice ta p.nt tc, .slice ha p.nh hc, .slice ba p.nb bc, .slice la p.nl lc] 27;rw [hw_];clear hw_
 replace G := G.trans g
 have hC := hC2
 clear hC2
 replace hPP := hPP.gr g
 replace hl := hl.gr g
 have hsz4 := hbl
 clear g hb hbl
 refine Y.pv F (X.assign rfl (X.kc (.bool false) rfl)) ?_;clear F ac;intro ac F
 refine Y.nt F [(1, .slice la9 E.length lc9), (2, Vi cost), (3, Vp w.heap.size)] ?_;clear F ac;intro ac F
 refine Y.seq ?_
 refine Y.sl ?_
 refine Y.pv F (X.load rfl (F.ev 3 (Vp w.heap.size)) (X.ldN (Try.agg27 _) (Try.siz27 _) (Y.atz (⟨w.heap.size, 0, none⟩) (Y.AtFrom.cons (hC.at 0 rfl) (Y.AtFrom.cons (hC.at 1 rfl) (Y.AtFrom.cons (hC.at 2 rfl) (Y.AtFrom.cons (hC.at 3 rfl) (Y.AtFrom.nil _ _ _)))))))) ?_;clear F ac;intro ac F
 refine Y.pc F 15 (X.a1 (F.ev 11 (.agg #[.slice ta p.nt tc, .slice ha p.nh hc, .slice ba p.nb bc, .slice la p.nl lc]))) Try.func15 (far_any p ta ha ba la tc hc bc lc w6 hPP) ?_
 clear F ac
 rintro e w7 ⟨rfl, g⟩
 refine ⟨_, rfl, ?_⟩
 intro ac F
 replace G := G.trans g
 replace hC := hC.gr g
 replace hPP := hPP.gr g
 replace hl := hl.gr g
 clear g
 refine Y.pv F (X.move rfl (F.ev 12 (.bool (farB p)))) ?_;clear F ac;intro ac F
 cases h8 : farB p with
 | false =>
  try rw [h8] at F
  have hz : SmlP p := far_sz h8
  refine Y.pg F 2 13 false (X.move rfl (F.ev 1 (.slice la9 E.length lc9))) ?_;clear F ac;intro ac F
  refine Y.pcall F (X.w1 rfl (F.yl (j := 2) (d := 13) (b := false) rfl (by kernel_rfl))) rfl (X.enter (F := 47) rfl (X.kc (.func (.func 47) #[] #[]) rfl) (X.a1 (F.ev 14 (.slice la9 E.length lc9))) (enters_of Try.func47 (by kernel_rfl) rfl _)) (many_any la9 lc9 E w7 hl hEb) ?_
  clear F ac
  rintro e w10 ⟨rfl, g⟩
  refine ⟨_, rfl, ?_⟩
  intro ac F
  replace G := G.trans g
  replace hC := hC.gr g
  replace hPP := hPP.gr g
  replace hl := hl.gr g
  clear g
  refine Y.pv F (X.pickF rfl (F.ev 13 (.bool false)) (F.ev 15 (.bool (manyB E)))) ?_;clear F ac;intro ac F
  refine Y.nt F [(1, .slice la9 E.length lc9), (2, Vi cost), (3, Vp w.heap.size), (16, .bool (manyB E))] ?_;clear F ac;intro ac F
  cases h11 : manyB E with
  | false =>
   try rw [h11] at F
   have hmn := many_no h11
   have hmn1 := hmn.1
   refine Y.condF (F.ev 16 (.bool false)) ?_
   refine Y.skip ?_
   refine X.thenN ?_
   refine Y.sl ?_
   refine Y.pv F (X.load rfl (F.ev 3 (Vp w.heap.size)) (X.ldN (Try.agg27 _) (Try.siz27 _) (Y.atz (⟨w.heap.size, 0, none⟩) (Y.AtFrom.cons (hC.at 0 rfl) (Y.AtFrom.cons (hC.at 1 rfl) (Y.AtFrom.cons (hC.at 2 rfl) (Y.AtFrom.cons (hC.at 3 rfl) (Y.AtFrom.nil _ _ _)))))))) ?_;clear F ac;intro ac F
   refine Y.pc F 17 (X.a1 (F.ev 19 (.agg #[.slice ta p.nt tc, .slice ha p.nh hc, .slice ba p.nb bc, .slice la p.nl lc]))) Try.func17 (copy_any p ta ha ba la tc hc bc lc w10 hPP hz) ?_
   clear F ac
   rintro e w13 ⟨ta12, ha12, ba12, la12, tc12, hc12, bc12, lc12, rfl, hO12, g⟩
   have hQ12 := hO12.at hz
   refine ⟨_, rfl, ?_⟩
   intro ac F
   replace G := G.trans g
   replace hC := hC.gr g
   replace hPP := hPP.gr g
   replace hl := hl.gr g
   clear g
   refine Y.pv F (X.move rfl (F.ev 1 (.slice la9 E.length lc9))) ?_;clear F ac;intro ac F
   refine Y.pc F 49 (X.a1 (F.ev 21 (.slice la9 E.length lc9))) Try.func49 (copied_any la9 lc9 E w13 hl (by omega) hmn.2) ?_
   clear F ac
   rintro e w15 ⟨ca14, cc14, E2, rfl, hL14, hm14, g⟩
   have hl2 : E2.length = E.length := by
    have h9 := congrArg List.length hm14
    rwa [stripL_len, stripL_len] at h9
   refine ⟨_, rfl, ?_⟩
   intro ac F
   replace G := G.trans g
   replace hC := hC.gr g
   replace hPP := hPP.gr g
   replace hl := hl.gr g
   replace hQ12 := hQ12.gr g
   replace hO12 := hO12.gr g
   clear g
   refine Y.pv F (X.move rfl (F.ev 2 (Vi cost))) ?_;clear F ac;intro ac F
   refine Y.pc F 48 (X.a3 (F.ev 20 (.agg #[.slice ta12 p.nt tc12, .slice ha12 p.nh hc12, .slice ba12 p.nb bc12, .slice la12 p.nl lc12])) (F.ev 22 (.slice ca14 E2.length cc14)) (F.ev 23 (Vi cost))) Try.func48 (by have hq := provs_any p ta12 ha12 ba12 la12 tc12 hc12 bc12 lc12 ca14 cc14 E2 cost w15 hQ12 hL14 (by omega); rw [prov_strip hm14] at hq; exact hq) ?_
   clear F ac
   rintro e w17 ⟨rfl, g⟩
   refine ⟨_, rfl, ?_⟩
   intro ac F
   replace G := G.trans g
   replace hC := hC.gr g
   replace hPP := hPP.gr g
   replace hl := hl.gr g
   replace hQ12 := hQ12.gr g
   replace hO12 := hO12.gr g
   replace hL14 := hL14.gr g
   clear g
   refine Y.pv4 F (X.move rfl (F.ev 24 (.tuple #[.bool (provB p cost E), Vi (chkE p)]))) (fun _ F=>X.extract rfl (F.ev 18 (.tuple #[.bool (provB p cost E), Vi (chkE p)])) rfl) (fun _ F=>X.extract rfl (F.ev 18 (.tuple #[.bool (provB p cost E), Vi (chkE p)])) rfl) (fun _ F=>X.assign rfl (F.ev 25 (.bool (provB p cost E)))) ?_;clear F ac;intro ac F
   refine Y.pv F (X.assign rfl (F.ev 26 (Vi (chkE p)))) ?_;clear F ac;intro ac F
   refine Y.nt F [(1, .slice la9 E.length lc9), (2, Vi cost), (3, Vp w.heap.size), (7, .bool (provB p cost E)), (8, Vi (chkE p))] ?_;clear F ac;intro ac F
   refine Y.sl ?_
   refine Y.pv3 F (X.load rfl (F.ev 3 (Vp w.heap.size)) (X.ldN (Try.agg27 _) (Try.siz27 _) (Y.atz (⟨w.heap.size, 0, none⟩) (Y.AtFrom.cons (hC.at 0 rfl) (Y.AtFrom.cons (hC.at 1 rfl) (Y.AtFrom.cons (hC.at 2 rfl) (Y.AtFrom.cons (hC.at 3 rfl) (Y.AtFrom.nil _ _ _)))))))) (fun _ F=>X.move rfl (F.ev 1 (.slice la9 E.length lc9))) (fun _ F=>X.move rfl (F.ev 2 (Vi cost))) ?_;clear F ac;intro ac F
   refine Y.pc F 50 (X.a3 (F.ev 28 (.agg #[.slice ta p.nt tc, .slice ha p.nh hc, .slice ba p.nb bc, .slice la p.nl lc])) (F.ev 29 (.slice la9 E.length lc9)) (F.ev 30 (Vi cost))) Try.func50 (provsR_any p ta ha ba la tc hc bc lc la9 lc9 E cost w17 hPP hl (by omega)) ?_
   clear F ac
   rintro e w19 ⟨rfl, g⟩
   refine ⟨_, rfl, ?_⟩
   intro ac F
   replace G := G.trans g
   replace hC := hC.gr g
   replace hPP := hPP.gr g
   replace hl := hl.gr g
   replace hQ12 := hQ12.gr g
   replace hO12 := hO12.gr g
   replace hL14 := hL14.gr g
   clear g
   refine Y.pv4 F (X.move rfl (F.ev 31 (.tuple #[.bool (provB p cost E), Vi (chkE p)]))) (fun _ F=>X.extract rfl (F.ev 27 (.tuple #[.bool (provB p cost E), Vi (chkE p)])) rfl) (fun _ F=>X.extract rfl (F.ev 27 (.tuple #[.bool (provB p cost E), Vi (chkE p)])) rfl) (fun _ F=>X.assign rfl (F.ev 32 (.bool (provB p cost E)))) ?_;clear F ac;intro ac F
   refine Y.pv F (X.assign rfl (F.ev 33 (Vi (chkE p)))) ?_;clear F ac;intro ac F
   refine Y.nt F [(7, .bool (provB p cost E)), (8, Vi (chkE p)), (9, .bool (provB p cost E)), (10, Vi (chkE p))] ?_;clear F ac;intro ac F
   refine Y.sl ?_
   refine Y.pv2 F (X.move rfl (F.ev 7 (.bool (provB p cost E)))) (fun _ F=>X.move rfl (F.ev 9 (.bool (provB p cost E)))) ?_;clear F ac;intro ac F
   refine Y.pval F (X.w0 rfl) rfl (X.binop rfl (F.ev 34 (.bool (provB p cost E))) (F.ev 35 (.bool (provB p cost E))) (Y.eqlB Try.underlying4 (show ((provB p cost E) == (provB p cost E)) = true by simp))) ?_;clear F ac;intro ac F
   refine Y.pv F (X.move rfl (F.ev 36 (.bool true))) ?_;clear F ac;intro ac F
   refine Y.pg F 3 37 true (X.move rfl (F.ev 8 (Vi (chkE p)))) ?_;clear F ac;intro ac F
   refine Y.pg F 3 37 true (X.move rfl (F.ev 10 (Vi (chkE p)))) ?_;clear F ac;intro ac F
   refine Y.pg F 3 37 true (X.binop rfl (F.ev 38 (Vi (chkE p))) (F.ev 39 (Vi (chkE p))) (X.eqlI Try.underlying31 (show ((chkE p : Int) == (chkE p)) = true by simp))) ?_;clear F ac;intro ac F
   refine Y.pv2 F (X.pickT rfl (F.ev 37 (.bool true)) (F.ev 40 (.bool true))) (fun _ F=>X.move rfl (F.ev 41 (.bool true))) ?_;clear F ac;intro ac F
   refine Y.pcall F (X.w1 rfl (F.yl (j := 8) (d := 42) (b := true) rfl (by kernel_rfl))) rfl (X.enter (F := 16) rfl (X.kc (.func (.func 16) #[] #[]) rfl) rfl (enters_of Try.func16 (by kernel_rfl) rfl _)) (works_any w19) ?_
   clear F ac
   rintro e w20 ⟨rfl, g⟩
   refine ⟨_, rfl, ?_⟩
   intro ac F
   replace G := G.trans g
   replace hC := hC.gr g
   replace hPP := hPP.gr g
   replace hl := hl.gr g
   replace hQ12 := hQ12.gr g
   replace hO12 := hO12.gr g
   replace hL14 := hL14.gr g
   clear g
   refine Y.pv2 F (X.pickT rfl (F.ev 42 (.bool true)) (F.ev 43 (.bool true))) (fun _ F=>X.assign rfl (F.ev 44 (.bool true))) ?_;clear F ac;intro ac F
   refine Y.nt F [(6, .bool true)] ?_;clear F ac;intro ac F
   refine Y.ret ?_
   exact Y.ret0 (v := .bool true) F (Y.r1 F) ⟨rfl, G⟩
  | true =>
   try rw [h11] at F
   refine Y.condT (F.ev 16 (.bool true)) ?_
   refine Y.sl ?_
   refine Y.pcall F (X.w0 rfl) rfl (X.enter (F := 16) rfl (X.kc (.func (.func 16) #[] #[]) rfl) rfl (enters_of Try.func16 (by kernel_rfl) rfl _)) (works_any w10) ?_
   clear F ac
   rintro e w21 ⟨rfl, g⟩
   refine ⟨_, rfl, ?_⟩
   intro ac F
   replace G := G.trans g
   replace hC := hC.gr g
   replace hPP := hPP.gr g
   replace hl := hl.gr g
   clear g
   refine Y.pv F (X.assign rfl (F.ev 17 (.bool true))) ?_;clear F ac;intro ac F
   refine Y.nt F [(6, .bool true)] ?_;clear F ac;intro ac F
   refine Y.ret ?_
   refine X.thenR ?_
   exact Y.ret0 (v := .bool true) F (Y.r1 F) ⟨rfl, G⟩
 | true =>
  try rw [h8] at F
  refine Y.ps F 2 13 true ?_;clear F ac;intro ac F
  refine Y.ps F 2 13 true ?_;clear F ac;intro ac F
  refine Y.pv F (X.pickT rfl (F.ev 13 (.bool true)) (X.kc (.bool true) rfl)) ?_;clear F ac;intro ac F
  refine Y.nt F [(1, .slice la9 E.length lc9), (2, Vi cost), (3, Vp w.heap.size), (16, .bool true)] ?_;clear F ac;intro ac F
  refine Y.condT (F.ev 16 (.bool true)) ?_
  refine Y.sl ?_
  refine Y.pcall F (X.w0 rfl) rfl (X.enter (F := 16) rfl (X.kc (.func (.func 16) #[] #[]) rfl) rfl (enters_of Try.func16 (by kernel_rfl) rfl _)) (works_any w7) ?_
  clear F ac
  rintro e w22 ⟨rfl, g⟩
  refine ⟨_, rfl, ?_⟩
  intro ac F
  replace G := G.trans g
  replace hC := hC.gr g
  replace hPP := hPP.gr g
  replace hl := hl.gr g
  clear g
  refine Y.pv F (X.assign rfl (F.ev 17 (.bool true))) ?_;clear F ac;intro ac F
  refine Y.nt F [(6, .bool true)] ?_;clear F ac;intro ac F
  refine Y.ret ?_
  refine X.thenR ?_
  exact Y.ret0 (v := .bool true) F (Y.r1 F) ⟨rfl, G⟩
end
section
open Go.ChangeShapes Go.WideShapes Go.RowKit Go.Deep Go.Joins
section
variable {H : Type} {enc : TypeId × Value → H} {w : World} {base : Nat} {spare : Nat → Bool} {held : Bool}
theorem Try.bytes49 : Try.prog.bytesOf 49 = 32 := by kernel_rfl
theorem Try.cells49 : Try.prog.cellsOf 49 = 2 := by kernel_rfl
theorem open_s34c {fuel : Nat} {v : Value} {x : DataW H × List MemPlace} (h : DataW.trod enc Try.prog w base spare held fuel 34 [v] = some x) (hw : Wt 34 x.1) : ∃ a c xs, v = .slice a (List.length xs) c ∧ Ints w a (List.length xs) xs ∧ List.length xs ≤ c := by
  obtain ⟨a, c, xs, rfl, hI⟩ := open_s34 h hw
  refine ⟨a, c, xs, rfl, hI, ?_⟩
  rcases open_slice Try.underlying34 h with ⟨hcs, _⟩ | ⟨a', len, cap, m, n, D, Pl, hcs, hb, hl, _⟩
  · have h1 := congrArg (fun l : List Value => l[0]?) hcs
    simp at h1
    obtain ⟨_, h2, _⟩ := h1
    rw [h2]; exact Nat.zero_le _
  · simp at hcs; omega
theorem open_s45 {fuel : Nat} {v : Value} {x : DataW H × List MemPlace} (h : DataW.trod enc Try.prog w base spare held fuel 45 [v] = some x) (hw : Wt 45 x.1) : ∃ a c E, v = .slice a (List.length E) c ∧ LfAt w a E ∧ List.length E ≤ 1152921504606846975 := by
  rcases open_slice_pairs Try.underlying45 Try.underlying49 Try.cells49 rfl rfl Try.cells34 Try.cells3 h with ⟨hcs, _⟩ | ⟨a, len, cap, m, n, V0, V1, D0, D1, P0, P1, hcs, hb, hl, hcm, hmm, hx, hi⟩
  · simp at hcs
    exact ⟨none, 0, [], hcs, LfAt.nil _ _, by decide⟩
  · simp at hcs
    subst hcs
    have hlm : len ≤ m := by rw [hmm]; split <;> omega
    have hw1 := hw
    rw [hx] at hw1
    have hlen := hw1.len Try.underlying45
    rw [Try.bytes49] at hlen
    simp only [List.length_map, List.length_range, reachBytes] at hlen
    obtain ⟨C, hC1, hC2⟩ := list_of (P := fun j (x : LfE) => w.cell? (a.add (j * 2)) = some (.slice x.b.a x.b.xs.length x.b.c) ∧ w.cell? (a.add (j * 2 + 1)) = some (.int .i64 x.why) ∧ Ints w x.b.a x.b.xs.length x.b.xs ∧ x.b.xs.length ≤ x.b.c) ⟨⟨[], none, 0⟩, 0⟩ len (fun j hj => by
      obtain ⟨h0, h1, t0, t1⟩ := hi j (by omega)
      have hwj : Wt 49 (.agg [D0 j, D1 j]) := hw1.elem Try.underlying45 (List.mem_map.2 ⟨j, List.mem_range.2 hj, rfl⟩)
      have hw0 : Wt 34 (D0 j) := hwj.field Try.underlying49 (j := 0) (ft := 34) (by simp) (by simp)
      obtain ⟨a', c', xs, e0, hI, hc⟩ := open_s34c t0 hw0
      obtain ⟨y, e1, _⟩ := DataW.trod_int Try.underlying3 t1
      simp at e1
      rw [e0] at h0
      rw [e1] at h1
      exact ⟨⟨⟨xs, a', c'⟩, y⟩, h0, h1, hI, hc⟩)
    subst hC1
    refine ⟨some a, cap, C, rfl, fun i x hx => ?_, by omega⟩
    have hi2 := (List.getElem?_eq_some_iff.1 hx).1
    obtain ⟨k1, k2, k3, k4⟩ := hC2 i hi2
    rw [hx] at k1 k2 k3 k4
    exact ⟨a, rfl, k1, by rw [Addr.add_add]; exact k2, k3, k4⟩
set_option maxRecDepth 100000 in
theorem open_lv {r : Reach} {b0 : Nat} {v : Value} {d : DataW H} {p : List MemPlace} (hv : Value.okWide Try.prog w r b0 45 v) (h : DataW.Trod enc Try.prog w base spare held 45 v d p) (hw : Wt 45 d) :
    ∃ a c E, v = .slice a (List.length E) c ∧ LfAt w a E ∧ List.length E ≤ 1152921504606846975 := by
  obtain ⟨fuel, hf⟩ := h
  have hvs := okWide_sl Try.underlying45 hv
  rw [hvs] at hf
  exact open_s45 (x := (d, p)) hf hw
end
end
end Go.Proofs.Ytodedneanlekdaa
