/- Several texts of this claim in one file. (1) Contracts: with, all (reference). (2) Contracts: the reference's first, Best. (3) Contract: sorted. (4) Contracts: the reference's List, Count. (5) Contract: the reference's Repair. (6) Allowed plans are those of the list; one that does not use the host stays. Nothing of the program is proved here. (7) Contracts: ints, Copy, Same. (8) An easier problem: a bond less, larger hosts. Nothing of the program is proved here. (9) Which bonds are in conflict. Nothing of the program is proved here. (10) The leaves of the search that shows that no plan is cheaper. Nothing of the program is proved here. (11) The leaves as the search gathers them in memory. Nothing of the program is proved here. (12) Is there an allowed plan at all: what the rounds keep. Nothing of the program is proved here. (13) Some of the bonds, as a row in memory. Nothing of the program is proved here. (14) Contract: but. (15) Contract: possible. (16) Contract: the law about Check. (17) The bonds in conflict: the program's answer, and the memory of its loop. Nothing of the program is proved here. (18) The leaves as the reference gathers them: a slice that is passed on. Nothing of the program is proved here. -/
import Derived.Test.YtodedneanlekdaaBd12
import Derived.Test.YtodedneanlekdaaBd11
import Derived.Test.YtodedneanlekdaaBd2
import Derived.Test.YtodedneanlekdaaBd10
import Derived.Test.YtodedneanlekdaaBd9
import Derived.Test.YtodedneanlekdaaBd5
import Derived.Test.YtodedneanlekdaaBd3
namespace Go.Proofs.Ytodedneanlekdaa
set_option linter.unusedSimpArgs false
set_option linter.unusedVariables false
section
open Go.RowKit

set_option maxRecDepth 100000 in
set_option maxHeartbeats 400000 in
theorem withL_any (a : Option Addr) (c : Nat) (xs : List Int) (x : Int) (w : World) (hX : Ints w a xs.length xs) (hl : xs.length ≤ 1000) :
  Calls Try.prog 101 #[.slice a xs.length c, Vi x] w fun e w' => ∃ g c', e = .returned (.slice (some ⟨g, 0, none⟩) (xs ++ [x]).length c') ∧ BegAt w' w.heap.size (some ⟨g, 0, none⟩) c' (xs ++ [x]) ∧ Gr w w' := by
 have G := Gr.refl w
 have hxs := hX
 have hgz := Nat.le_refl w.heap.size
 refine Y.calls 11 Try.func101 rfl rfl ?_
 intro ac F0
 have F : Fr ac 11 [(0, .slice a xs.length c), (1, Vi x)] := F0.sub _
 clear F0
 refine Y.sg F [(0, .slice a xs.length c), (1, Vi x)] (Y.pv F (X.assign rfl (X.kc (.slice none 0 0) rfl)) fun ac F=>Y.fin F) ?_;clear F ac;intro ac F
 refine Y.sl ?_
 refine Y.pv F (X.bs rfl X.bs0 (Try.bs34_0 _)) ?_;clear F ac;intro ac F
 have g := Gr.alloc w (.cells #[] 3)
 have hO := ownR_new (k := 1) (heap_alloc_new w (.cells #[] 3)) (Nat.le_refl _)
 generalize w.alloc (.cells #[] 3) = w3 at *
 replace G := G.trans g
 replace hxs := hxs.gr g
 clear g
 refine Y.pv F (X.move rfl (F.ev 0 (.slice a xs.length c))) ?_;clear F ac;intro ac F
 obtain ⟨ra, rc, w4, hrun, hO2, g⟩ := run_copyN (P := Try.prog) (ts := 34) Try.underlying34 Try.info3 rfl (by decide) hO (ints_tb hxs).2 (by rw [List.length_map, Nat.mul_one]) (ints_tb hxs).1 (ints_all xs) (by omega) (by decide) G.size
 refine Y.pv F (Y.apz rfl (F.ev 5 (.slice (some ⟨w.heap.size, 0, none⟩) 0 0)) (F.ev 6 (.slice a xs.length c)) hrun) ?_
 clear F ac hrun
 intro ac F
 replace G := G.trans g
 replace hxs := hxs.gr g
 refine Y.pv2 F (X.move rfl (F.ev 1 (Vi x))) (fun _ F=>X.bs rfl (X.b1 (F.ev 8 (Vi x))) (Try.bs34_1 _ _)) ?_;clear F ac;intro ac F
 have g := Gr.alloc w4 (.cells #[Vi x] 3)
 have hg9 := heap_alloc_new w4 (.cells #[Vi x] 3)
 replace hO2 := hO2.gr g
 generalize w4.alloc (.cells #[Vi x] 3) = w5 at *
 replace G := G.trans g
 replace hxs := hxs.gr g
 clear g
 refine Y.wpL_plain rfl fun _ hK => wp_pushV Try.underlying34 Try.info3 rfl (by decide) rfl (F.ev 7 (.slice ra xs.length rc)) (F.ev 9 (.slice (some ⟨w4.heap.size, 0, none⟩) 1 1)) hO2 (m := 1) (news := [Vi x]) rfl (cells_at (vs := [Vi x]) hg9) rfl (by omega) (by decide) (Nat.le_trans hgz G.size) (fun v2 w6 hO3 hon hat => hK _ _ ?_)
 refine Y.pput F rfl ?_
 clear F ac hat
 intro ac F
 obtain ⟨g5, c5, rfl, hb5⟩ := OwnR.beg (xs := xs ++ [x]) (by rw [List.map_append, List.length_append]; exact hO3) (by simp; omega) (by simp)
 replace G := OnlyG G hon (fun b e => Nat.le_trans hgz (hO2.ge e).1)
 refine Y.pv F (X.assign rfl (F.ev 10 (.slice (some ⟨g5, 0, none⟩) ((xs ++ [x]).length) c5))) ?_;clear F ac;intro ac F
 refine Y.nt F [(4, .slice (some ⟨g5, 0, none⟩) ((xs ++ [x]).length) c5)] ?_;clear F ac;intro ac F
 refine Y.ret ?_
 exact Y.ret0 (v := .slice (some ⟨g5, 0, none⟩) ((xs ++ [x]).length) c5) F (Y.r1 F) ⟨g5, c5, rfl, hb5.lower hgz, G⟩
/-- what the reference's search returns from a beginning on, with m tasks to come -/
def AllC (p : Pb) (ta ha ba la : Option Addr) (tc hc bc lc m : Nat) : Prop :=
 ∀ (xs : List Int) (a : Option Addr) (c : Nat) (w : World), PbAt w p ta ha ba la tc hc bc lc → xs.length + m = p.nt → HosOk p xs → Ints w a xs.length xs → (∀ ad, a = some ad → ad.block < w.heap.size) →
  Calls Try.prog 68 #[.agg #[.slice ta p.nt tc, .slice ha p.nh hc, .slice ba p.nb bc, .slice la p.nl lc], .slice a xs.length c] w fun e w' =>
   ∃ v E, e = .returned v ∧ RwAt w' w.heap.size v E ∧ E.map BegE.xs = allF p.nh (hopeB p (tim p)) m xs ∧ (∀ x ∈ E, x.a = a ∨ ∀ ad, x.a = some ad → w.heap.size ≤ ad.block) ∧ Gr w w'
set_option maxRecDepth 100000 in
set_option maxHeartbeats 2000000 in
theorem all_step (p : Pb) (ta ha ba la : Option Addr) (tc hc bc lc : Nat) (m : Nat) (hp : PbOk p) (hsm : p.nt ≤ 5 ∧ p.nh ≤ 4) (ih : ∀ k, m = k + 1 → AllC p ta ha ba la tc hc bc lc k)
  (xs : List Int) (a : Option Addr) (c : Nat) (w : World) (hP : PbAt w p ta ha ba la tc hc bc lc) (hm : xs.length + m = p.nt) (hx : HosOk p xs) (hX : Ints w a xs.length xs) (hXb : ∀ ad, a = some ad → ad.block < w.heap.size) :
  Calls Try.prog 68 #[.agg #[.slice ta p.nt tc, .slice ha p.nh hc, .slice ba p.nb bc, .slice la p.nl lc], .slice a xs.length c] w fun e w' => ∃ v E, e = .returned v ∧ RwAt w' w.heap.size v E ∧ E.map BegE.xs = allF p.nh (hopeB p (tim p)) m xs ∧ (∀ x ∈ E, x.a = a ∨ ∀ ad, x.a = some ad → w.heap.size ≤ ad.block) ∧ Gr w w' := by
 have G := Gr.refl w
 have hpt := hP.t
 have hph := hP.h
 have hpb := hP.b
 have hpl := hP.l
 have hplen := hP.len
 obtain ⟨hn1, hn2, hn3, hn4⟩ := hplen
 have hcp1 := hpt.cap
 have hcp2 := hph.cap
 have hcp3 := hpb.cap
 have hcp4 := hpl.cap
 have hxs := hX
 have hlen : xs.length ≤ p.nt := by omega
 have hs1 := hsm.1
 have hs2 := hsm.2
 refine Y.calls 33 Try.func68 rfl rfl ?_
 intro ac F0
 have F : Fr ac 33 [(0, .agg #[.slice ta p.nt tc, .slice ha p.nh hc, .slice ba p.nb bc, .slice la p.nl lc]), (1, .slice a xs.length c)] := F0.sub _
 clear F0
 refine Y.sl ?_
 have hgs3 : w.heap.size ≤ w.heap.size := G.size
 refine Y.pv F (X.box rfl (F.ev 0 (.agg #[.slice ta p.nt tc, .slice ha p.nh hc, .slice ba p.nb bc, .slice la p.nl lc])) X.bx) ?_;clear F ac;intro ac F
 have hgs5 : w.heap.size ≤ w.heap.size := G.size
 obtain ⟨w6, hw_, g, hb, hbl, hC2⟩ := Y.bxd (RCells.nil w) #[.slice ta p.nt tc, .slice ha p.nh hc, .slice ba p.nb bc, .slice la p.nl lc] 27;rw [hw_];clear hw_
 replace G := G.trans g
 have hC := hC2
 clear hC2
 replace hpt := hpt.gr g
 replace hph := hph.gr g
 replace hpb := hpb.gr g
 replace hpl := hpl.gr g
 replace hxs := hxs.gr g
 have hsz4 := hbl
 clear g hb hbl
 refine Y.pv F (X.assign rfl (X.kc (.slice none 0 0) rfl)) ?_;clear F ac;intro ac F
 refine Y.nt F [(1, .slice a xs.length c), (2, Vp w.heap.size)] ?_;clear F ac;intro ac F
 refine Y.seq ?_
 refine Y.sl ?_
 refine Y.pv2 F (X.load rfl (F.ev 2 (Vp w.heap.size)) (X.ldN (Try.agg27 _) (Try.siz27 _) (Y.atz (⟨w.heap.size, 0, none⟩) (Y.AtFrom.cons (hC.at 0 rfl) (Y.AtFrom.cons (hC.at 1 rfl) (Y.AtFrom.cons (hC.at 2 rfl) (Y.AtFrom.cons (hC.at 3 rfl) (Y.AtFrom.nil _ _ _)))))))) (fun _ F=>X.move rfl (F.ev 1 (.slice a xs.length c))) ?_;clear F ac;intro ac F
 refine Y.pc F 75 (X.a3 (F.ev 7 (.agg #[.slice ta p.nt tc, .slice ha p.nh hc, .slice ba p.nb bc, .slice la p.nl lc])) (F.ev 8 (.slice a xs.length c)) (X.kc (Vi 100) rfl)) Try.func75 (by have hq := hop2_any p ta ha ba la tc hc bc lc a c xs 100 w6 (hP.gr G) (hX.gr G) hp hx hlen (by decide); rw [hund_100] at hq; exact hq) ?_
 clear F ac
 rintro e w7 ⟨rfl, g⟩
 refine ⟨_, rfl, ?_⟩
 intro ac F
 replace G := G.trans g
 replace hC := hC.gr g
 replace hpt := hpt.gr g
 replace hph := hph.gr g
 replace hpb := hpb.gr g
 replace hpl := hpl.gr g
 replace hxs := hxs.gr g
 clear g
 refine Y.nt F [(1, .slice a xs.length c), (2, Vp w.heap.size), (9, .bool (hopeB p (tim p) xs))] ?_;clear F ac;intro ac F
 cases h8 : hopeB p (tim p) xs with
 | false =>
  try rw [h8] at F
  refine Y.condF (F.ev 9 (.bool false)) ?_
  refine Y.skip ?_
  refine X.thenN ?_
  refine Y.seq ?_
  refine Y.sg F [(1, .slice a xs.length c), (2, Vp w.heap.size), (15, .bool ((xs.length : Int) == p.nt))] (by
   refine Y.pv F (X.move rfl (F.ev 1 (.slice a xs.length c))) fun ac F=>?_
   refine Y.pv F (X.len1 Try.underlying34 rfl (F.ev 10 (.slice a xs.length c))) fun ac F=>?_
   refine Y.pv F (X.field rfl (F.ev 2 (Vp w.heap.size)) (X.fld Try.underlying27 rfl (Try.siz22 _) rfl rfl)) fun ac F=>?_
   refine Y.pv F (X.load rfl (F.ev 12 (Vp w.heap.size)) (X.ld1 (Try.agg22 _) (hC.at 0 rfl))) fun ac F=>?_
   refine Y.pv F (X.len1 Try.underlying22 rfl (F.ev 13 (.slice ta p.nt tc))) fun ac F=>?_
   refine Y.pv F (X.binop rfl (F.ev 11 (Vi xs.length)) (F.ev 14 (Vi p.nt)) (X.eqlI Try.underlying3 rfl)) fun ac F=>?_
   exact Y.fin F) ?_;clear F ac;intro ac F
  cases h9 : ((xs.length : Int) == p.nt) with
  | false =>
   try rw [h9] at F
   have h9p : ¬ (xs.length : Int) = p.nt := by simpa using h9
   obtain ⟨k, rfl⟩ : ∃ k, m = k + 1 := ⟨m - 1, by omega⟩
   refine Y.condF (F.ev 15 (.bool false)) ?_
   refine Y.skip ?_
   refine X.thenN ?_
   refine Y.sg F [(1, .slice a xs.length c), (2, Vp w.heap.size), (5, .slice none 0 0)] (Y.pv F (X.assign rfl (X.kc (.slice none 0 0) rfl)) fun ac F=>Y.fin F) ?_;clear F ac;intro ac F
   refine Y.seq ?_
   refine Y.sg F [(1, .slice a xs.length c), (2, Vp w.heap.size), (5, .slice none 0 0), (6, Vi 0)] (Y.pv F (X.assign rfl (X.kc (Vi 0) rfl)) fun ac F=>Y.fin F) ?_;clear F ac;intro ac F
   refine Y.block ?_
   have hwl0 : w.heap.size ≤ w7.heap.size := G.size
   have hbp7 : w.heap.size < w7.heap.size := lt_cell (hC.at 0 rfl)
   refine Y.loop (fun me_ ac wr => ∃ (h : Nat) (E : List BegE) (oa : Option Addr) (oc : Nat), me_ = p.nh - h ∧ Only (fun b => False) w7 wr ∧ h ≤ p.nh ∧ RwAt wr w7.heap.size (.slice oa E.length oc) E ∧ E.map BegE.xs = flatN (fun h : Nat => allF p.nh (hopeB p (tim p)) k (xs ++ [(h : Int)])) h ∧ (∀ x ∈ E, ∀ ad, x.a = some ad → w.heap.size ≤ ad.block) ∧ Fr ac 33 [(1, .slice a xs.length c), (2, Vp w.heap.size), (5, .slice oa E.length oc), (6, Vi h)]) _ ⟨0, [], none, 0, rfl, Only.refl _ _, Nat.zero_le _, RwAt.nil _ _, rfl, fun x hx => (by simp at hx), F.sub _⟩ ?_
   have hptB1 := hpt
   have hphB1 := hph
   have hpbB1 := hpb
   have hplB1 := hpl
   have hxsB1 := hxs
   have GB1 := G
   have hCB1 := hC
   clear F ac
   intro me_ ac w10 hI
   obtain ⟨h, E, oa, oc, rfl, hO1, hh, hRw, hmap, hbk, F⟩ := hI
   replace G := GB1.trans (hO1.gr (fun _ _ h => h))
   replace hpt := (hP.t).gr G
   replace hph := (hP.h).gr G
   replace hpb := (hP.b).gr G
   replace hpl := (hP.l).gr G
   replace hxs := (hX).gr G
   replace hC := (RCells.cons (hO1.cell (hCB1.at 0 rfl) (fun h => h)) (RCells.cons (hO1.cell (hCB1.at 1 rfl) (fun h => h)) (RCells.cons (hO1.cell (hCB1.at 2 rfl) (fun h => h)) (RCells.cons (hO1.cell (hCB1.at 3 rfl) (fun h => h)) (RCells.nil _)))))
   refine Y.seq ?_
   refine Y.sg F [(1, .slice a xs.length c), (2, Vp w.heap.size), (5, .slice oa E.length oc), (6, Vi h), (22, .bool (decide ((h : Int) < p.nh)))] (by
    refine Y.pv F (X.move rfl (F.ev 6 (Vi h))) fun ac F=>?_
    refine Y.pv F (X.field rfl (F.ev 2 (Vp w.heap.size)) (X.fld Try.underlying27 rfl (Try.siz23 _) rfl rfl)) fun ac F=>?_
    refine Y.pv F (X.load rfl (F.ev 19 (.pointer (some ⟨w.heap.size, 1, none⟩))) (X.ld1 (Try.agg23 _) (hC.at 1 rfl))) fun ac F=>?_
    refine Y.pv F (X.len1 Try.underlying23 rfl (F.ev 20 (.slice ha p.nh hc))) fun ac F=>?_
    refine Y.pv F (X.binop rfl (F.ev 18 (Vi h)) (F.ev 21 (Vi p.nh)) (X.lssI Try.underlying3 rfl)) fun ac F=>?_
    exact Y.fin F) ?_;clear F ac;intro ac F
   cases h11 : decide ((h : Int) < p.nh) with
   | false =>
    try rw [h11] at F
    have h11p : ¬ ((h : Int) < p.nh) := of_decide_eq_false h11
    obtain rfl : h = p.nh := by omega
    refine Y.condF (F.ev 22 (.bool false)) ?_
    refine Y.exit ?_
    refine X.thenX (X.thenX (X.blockX (X.thenN ?_)))
    refine Y.sg F [(4, .slice oa E.length oc)] (Y.pv F (X.move rfl (F.ev 5 (.slice oa E.length oc))) fun ac F=>Y.pv F (X.assign rfl (F.ev 32 (.slice oa E.length oc))) fun ac F=>Y.fin F) ?_;clear F ac;intro ac F
    refine Y.ret ?_
    exact Y.ret0 (v := .slice oa E.length oc) F (Y.r1 F) ⟨_, E, rfl, hRw.lower hwl0, by rw [all_in h8]; exact hmap, fun x hx => .inr (hbk x hx), G⟩
   | true =>
    try rw [h11] at F
    have h11p : ((h : Int) < p.nh) := of_decide_eq_true h11
    have hi2 : h < p.nh := by omega
    refine Y.condT (F.ev 22 (.bool true)) ?_
    refine Y.skip ?_
    refine X.thenN ?_
    refine Y.seq ?_
    refine Y.block ?_
    have hOs := hO1.size
    have hwq : w.heap.size ≤ w10.heap.size := G.size
    have hE1 : E.length ≤ 4096 := by
     have h1 := congrArg List.length hmap
     rw [List.length_map] at h1
     have h2 := flatN_len (f := (fun h : Nat => allF p.nh (hopeB p (tim p)) k (xs ++ [(h : Int)]))) (k := 4 ^ k) (n := h) (fun h _ => allF_len hsm.2 k _)
     have h3 := pow_le (m := k) (by omega)
     have h4 := Nat.mul_le_mul (show h ≤ 4 by omega) h3
     omega
    obtain ⟨Ta, hTa⟩ : ∃ T : Value → World → Prop, T = fun v W => ∃ g4 c4, v = .slice (some ⟨g4, 0, none⟩) (xs ++ [(h : Int)]).length c4 ∧ BegAt W w10.heap.size (some ⟨g4, 0, none⟩) c4 (xs ++ [(h : Int)]) := ⟨_, rfl⟩
    obtain ⟨Tb, hTb⟩ : ∃ T : Value → World → Prop, T = fun v W => ∃ E2 : List BegE, RwAt W w10.heap.size v E2 ∧ E2.map BegE.xs = allF p.nh (hopeB p (tim p)) k (xs ++ [(h : Int)]) ∧ ∀ x ∈ E2, ∀ ad, x.a = some ad → w10.heap.size ≤ ad.block := ⟨_, rfl⟩
    obtain ⟨Tc, hTc⟩ : ∃ T : Value → World → Prop, T = fun v W => ∃ E2 : List BegE, E2.map BegE.xs = allF p.nh (hopeB p (tim p)) k (xs ++ [(h : Int)]) ∧ (∀ x ∈ E2, ∀ ad, x.a = some ad → w10.heap.size ≤ ad.block) ∧ RwAt W w7.heap.size v (E ++ E2) ∧ Only (fun b => (Value.slice oa E.length oc).ownBlock = some b) w10 W := ⟨_, rfl⟩
    have uTa : UpV Ta := by subst hTa; exact fun v W W2 ⟨g4, c4, e, h⟩ g => ⟨g4, c4, e, h.gr g⟩
    have uTb : UpV Tb := by subst hTb; exact fun v W W2 ⟨E2, h1, h2, h3⟩ g => ⟨E2, h1.gr g, h2, h3⟩
    refine region_xi F [some (.slice oa E.length oc), some (.agg #[.slice ta p.nt tc, .slice ha p.nh hc, .slice ba p.nb bc, .slice la p.nl lc]), some (.slice a xs.length c), some (Vi h), none, none, none, none] (RA4 w10 4 5 6 7 Ta Tb Tc) rfl ⟨by kernel_rfl, of_decide_eq_true (by kernel_rfl), by kernel_rfl, by kernel_rfl, by kernel_rfl⟩ (fun _ => ⟨RA4.start (Gr.refl _), RA4.start (Gr.drew _)⟩) ⟨?_, ?_, ?_, ?_, ?_, ?_, ?_, ?_, trivial⟩ ?_
    ·intro ac done u W Sx hR
     have g : Gr w10 W := hR.g (Sx.no 6 (by kernel_rfl))
     exact X.vl (X.move rfl (Sx.ev 5 (.slice oa E.length oc))) (hR.quiet uTa uTb (Sx.no 6 (by kernel_rfl)) (Sx.no 7 (by kernel_rfl)) (Gr.refl _) (by decide))
    ·intro ac done u W Sx hR
     have g : Gr w10 W := hR.g (Sx.no 6 (by kernel_rfl))
     exact X.vl (X.load rfl (Sx.ev 2 (Vp w.heap.size)) (X.ldN (Try.agg27 _) (Try.siz27 _) (Y.atz (⟨w.heap.size, 0, none⟩) (Y.AtFrom.cons ((hC.gr g).at 0 rfl) (Y.AtFrom.cons ((hC.gr g).at 1 rfl) (Y.AtFrom.cons ((hC.gr g).at 2 rfl) (Y.AtFrom.cons ((hC.gr g).at 3 rfl) (Y.AtFrom.nil _ _ _)))))))) (hR.quiet uTa uTb (Sx.no 6 (by kernel_rfl)) (Sx.no 7 (by kernel_rfl)) (Gr.refl _) (by decide))
    ·intro ac done u W Sx hR
     have g : Gr w10 W := hR.g (Sx.no 6 (by kernel_rfl))
     exact X.vl (X.move rfl (Sx.ev 1 (.slice a xs.length c))) (hR.quiet uTa uTb (Sx.no 6 (by kernel_rfl)) (Sx.no 7 (by kernel_rfl)) (Gr.refl _) (by decide))
    ·intro ac done u W Sx hR
     have g : Gr w10 W := hR.g (Sx.no 6 (by kernel_rfl))
     exact X.vl (X.move rfl (Sx.ev 6 (Vi h))) (hR.quiet uTa uTb (Sx.no 6 (by kernel_rfl)) (Sx.no 7 (by kernel_rfl)) (Gr.refl _) (by decide))
    ·intro ac done u W Sx hR
     have g : Gr w10 W := hR.g (Sx.no 6 (by kernel_rfl))
     refine X.call (X.w0 rfl) (X.enter (F := 101) rfl (X.kc (.func (.func 101) #[] #[]) rfl) (X.a2 (Sx.ev 27 (.slice a xs.length c)) (Sx.ev 28 (Vi h))) (enters_of Try.func101 (by kernel_rfl) rfl _)) (withL_any a c xs (h : Int) W (hX.gr (G.trans g)) (by omega)) ?_
     rintro e W2 ⟨g4, c4, rfl, hb4, g2⟩
     exact ⟨_, rfl, X.un rfl, hR.sa (by decide) uTb (Sx.no 6 (by kernel_rfl)) (Sx.no 7 (by kernel_rfl)) g2 (by subst hTa; exact ⟨g4, c4, rfl, hb4.lower g.size⟩)⟩
    ·intro ac done u W Sx hR
     have g : Gr w10 W := hR.g (Sx.no 6 (by kernel_rfl))
     have hA := hR.ga (Sx.an 4 (by kernel_rfl)) (Sx.no 6 (by kernel_rfl))
     rw [hTa] at hA
     obtain ⟨g4, c4, e4, hb4⟩ := hA
     have hq := ih k rfl (xs ++ [(h : Int)]) (some ⟨g4, 0, none⟩) c4 W (hP.gr (G.trans g)) (by simp; omega) (hx.app hi2) hb4.i (fun ad e => (hb4.ge ad e).2)
     refine X.call (X.w0 rfl) (X.enter (F := 68) rfl (X.kc (.func (.func 68) #[] #[]) rfl) (X.a2 (Sx.ev 26 (.agg #[.slice ta p.nt tc, .slice ha p.nh hc, .slice ba p.nb bc, .slice la p.nl lc])) ((Sx.own 4 29 rfl).trans e4)) (enters_of Try.func68 (by kernel_rfl) rfl _)) hq ?_
     rintro e W2 ⟨v2, E2, rfl, hRw2, hm2, hb2, g2⟩
     exact ⟨_, rfl, X.un rfl, hR.sb (by decide) uTa (Sx.no 6 (by kernel_rfl)) (Sx.no 7 (by kernel_rfl)) g2 (by subst hTb; exact ⟨E2, hRw2.lower g.size, hm2, fun x hx ad e => (hb2 x hx).elim (fun h9 => by rw [h9] at e; injection e with e; subst e; exact (hb4.ge _ rfl).1) (fun h9 => Nat.le_trans g.size (h9 ad e))⟩)⟩
    ·intro ac done u W Sx hR
     have g : Gr w10 W := hR.g Sx.nd
     have hBb := hR.gb (Sx.an 5 (by kernel_rfl)) Sx.nd
     rw [hTb] at hBb
     obtain ⟨E2, hRw2, hm2, hb2⟩ := hBb
     obtain ⟨sa, sc, e5⟩ := hRw2.form
     rw [e5] at hRw2
     have hE2 : E2.length ≤ 1024 := by
      have h1 := congrArg List.length hm2
      rw [List.length_map] at h1
      have h2 := allF_len (hope := (hopeB p (tim p))) hsm.2 k (xs ++ [(h : Int)])
      have h3 := pow_le (m := k) (by omega)
      omega
     refine X.law (X.w0 rfl) (fun K_ hK => wp_pushG Try.underlying38 Try.info34 rfl (by decide) rfl (Sx.ev 25 (.slice oa E.length oc)) ((Sx.own 5 30 rfl).trans e5) (hRw.o.gr g) hRw2.none0 (by rw [rowsV_len, Nat.mul_one]) hRw2.src (rowsV_all E2) (by omega) (by decide) (Nat.le_trans (by omega) g.size) (fun v2 W2 hO2 hon hat => hK v2 W2 (fun x hx => by cases hx) (RA4.sc (by decide) (Sx.no 7 (by kernel_rfl)) ?_)))
     subst hTc
     exact ⟨E2, hm2, hb2, (hRw.gr g).push hRw2 hO2 hon hat (fun x hx ad e h9 => by have h8 := (hRw.o.ge h9).2; have h7 := hb2 x hx ad e; omega), (g.only _).trans hon⟩
    ·intro ac done u W Sx hR
     exact X.valN (X.w0 rfl) rfl (X.assign rfl (Sx.own 6 31 rfl)) (hR.sd (by decide) (Sx.an 6 (by kernel_rfl)))
    rintro ac u w12 hs hd hl_ ho hR
    have hcc := hR.gc rfl
    have e7 := hR.gd rfl
    rw [hTc] at hcc
    obtain ⟨E2, hm2, hb2, hRw2, hon⟩ := hcc
    obtain ⟨oa2, oc2, e6⟩ := hRw2.form
    rw [e6] at hRw2 e7
    clear hTa hTb hTc uTa uTb e6
    replace F : Fr ac 33 [(1, .slice a xs.length c), (2, Vp w.heap.size), (6, Vi h)] := X.fr hs hd hl_ _ (by kernel_rfl)
    replace F := F.add (ho 7 5 rfl) e7
    clear hs hd hl_ ho hR e7
    replace F : Fr ac 33 [(1, .slice a xs.length c), (2, Vp w.heap.size), (5, .slice oa2 ((E ++ E2).length) oc2), (6, Vi h)] := F.sub _
    have hlo : ∀ b, (Value.slice oa E.length oc).ownBlock = some b → w7.heap.size ≤ b := fun b e => (hRw.o.ge e).1
    replace hO1 := hO1.step2 hon (fun r e => .inr (hlo r e))
    replace G := ((G.only (fun b => w7.heap.size ≤ b)).trans (hon.mono' (fun i e => hlo i e))).gr (fun i hi e => by omega)
    replace hpt := (hP.t).gr G
    replace hph := (hP.h).gr G
    replace hpb := (hP.b).gr G
    replace hpl := (hP.l).gr G
    replace hxs := (hX).gr G
    replace hC := (RCells.cons (hon.cell (hC.at 0 rfl) (fun e => by have h9 := hlo _ e; simp only at h9; omega)) (RCells.cons (hon.cell (hC.at 1 rfl) (fun e => by have h9 := hlo _ e; simp only at h9; omega)) (RCells.cons (hon.cell (hC.at 2 rfl) (fun e => by have h9 := hlo _ e; simp only at h9; omega)) (RCells.cons (hon.cell (hC.at 3 rfl) (fun e => by have h9 := hlo _ e; simp only at h9; omega)) (RCells.nil _)))))
    clear hon hlo
    refine X.blockN (X.thenN ?_)
    refine Y.lg F [(1, .slice a xs.length c), (2, Vp w.heap.size), (5, .slice oa2 ((E ++ E2).length) oc2), (6, Vi ((h : Int) + 1))] (by
     refine Y.pv F (X.move rfl (F.ev 6 (Vi h))) fun ac F=>?_
     refine Y.pv F (X.binop rfl (F.ev 23 (Vi h)) (X.kc (Vi 1) rfl) (X.addI Try.underlying3 rfl (by omega) (by omega))) fun ac F=>?_
     refine Y.pv F (X.assign rfl (F.ev 24 (Vi ((h : Int) + 1)))) fun ac F=>?_
     exact Y.fin F) ?_;clear F ac;intro ac F
    refine ⟨_, ?_, h + 1, E ++ E2, oa2, oc2, rfl, hO1, by omega, hRw2, by rw [List.map_append, hmap, hm2]; rfl, fun x hx ad e => (List.mem_append.1 hx).elim (fun hx => hbk x hx ad e) (fun hx => Nat.le_trans hwq (hb2 x hx ad e)), F.sub _⟩
    omega
  | true =>
   try rw [h9] at F
   have h9p : (xs.length : Int) = p.nt := by simpa using h9
   obtain rfl : m = 0 := by omega
   refine Y.condT (F.ev 15 (.bool true)) ?_
   refine Y.sl ?_
   refine Y.pv2 F (X.move rfl (F.ev 1 (.slice a xs.length c))) (fun _ F=>X.bs rfl (X.b1 (F.ev 16 (.slice a xs.length c))) (Try.bs38_1 _ _ _ _)) ?_;clear F ac;intro ac F
   have g := Gr.alloc w7 (.cells #[.slice a xs.length c] 34)
   have hR1 := rw_one (heap_alloc_new w7 (.cells #[.slice a xs.length c] 34)) G.size ((hX.gr G).gr g) (fun ad e => Nat.lt_of_lt_of_le (hXb ad e) G.size)
   generalize w7.alloc (.cells #[.slice a xs.length c] 34) = w13 at *
   replace G := G.trans g
   replace hC := hC.gr g
   replace hpt := hpt.gr g
   replace hph := hph.gr g
   replace hpb := hpb.gr g
   replace hpl := hpl.gr g
   replace hxs := hxs.gr g
   clear g
   refine Y.pv F (X.assign rfl (F.ev 17 (.slice (some ⟨w7.heap.size, 0, none⟩) 1 1))) ?_;clear F ac;intro ac F
   refine Y.nt F [(4, .slice (some ⟨w7.heap.size, 0, none⟩) 1 1)] ?_;clear F ac;intro ac F
   refine Y.ret ?_
   refine X.thenR ?_
   exact Y.ret0 (v := .slice (some ⟨w7.heap.size, 0, none⟩) 1 1) F (Y.r1 F) ⟨_, [⟨xs, a, c⟩], rfl, hR1, by rw [all_leaf h8]; rfl, fun x hx => (by simp at hx; subst hx; exact .inl rfl), G⟩
 | true =>
  try rw [h8] at F
  refine Y.condT (F.ev 9 (.bool true)) ?_
  refine Y.sg F [(4, .slice none 0 0)] (Y.pv F (X.assign rfl (X.kc (.slice none 0 0) rfl)) fun ac F=>Y.fin F) ?_;clear F ac;intro ac F
  refine Y.ret ?_
  refine X.thenR ?_
  exact Y.ret0 (v := .slice none 0 0) F (Y.r1 F) ⟨_, [], rfl, RwAt.nil _ _, by rw [all_hope h8]; rfl, fun x hx => (by simp at hx), G⟩
theorem all_any (p : Pb) (ta ha ba la : Option Addr) (tc hc bc lc : Nat) (hp : PbOk p) (hsm : p.nt ≤ 5 ∧ p.nh ≤ 4) : ∀ m, AllC p ta ha ba la tc hc bc lc m := by
 intro m
 induction m with
 | zero => exact fun xs a c w h1 h2 h3 h4 h5 => all_step p ta ha ba la tc hc bc lc 0 hp hsm (fun k e => by cases e) xs a c w h1 h2 h3 h4 h5
 | succ m ih => exact fun xs a c w h1 h2 h3 h4 h5 => all_step p ta ha ba la tc hc bc lc (m + 1) hp hsm (fun k e => by cases e; exact ih) xs a c w h1 h2 h3 h4 h5
end
section
open Go.RowKit
end
section
open Go.RowKit
end
section
open Go.RowKit

theorem all_mp (p : Pb) (ta ha ba la : Option Addr) (tc hc bc lc : Nat) (hp : PbOk p) (hsm : p.nt ≤ 5 ∧ p.nh ≤ 4) (w : World) (hP : PbAt w p ta ha ba la tc hc bc lc) :
    Calls Try.prog 68 #[.agg #[.slice ta p.nt tc, .slice ha p.nh hc, .slice ba p.nb bc, .slice la p.nl lc], .slice none 0 0] w fun e w' => ∃ v, e = .returned v ∧ (∃ a c E, v = .slice a (List.length E) c ∧ RrAt w' a E ∧ E.map BegE.xs = allP p ∧ E.length ≤ c ∧ E.length ≤ 1024) ∧ Gr w w' :=
  (all_any p ta ha ba la tc hc bc lc hp hsm p.nt [] none 0 w hP (by simp) HosOk.nil (Ints.nilZ _) (fun ad e => by cases e)).mono fun e w' ⟨v, E, he, hRw, hm, _, g⟩ => by
    obtain ⟨oa, oc, rfl⟩ := hRw.form
    refine ⟨_, he, ⟨oa, oc, E, rfl, hRw.rr, hm, hRw.o.le, ?_⟩, g⟩
    have h1 := congrArg List.length hm
    rw [List.length_map] at h1
    have h2 := allF_len (hope := hopeB p (tim p)) hsm.2 p.nt []
    have h3 := pow_le hsm.1
    omega
end
section
open Go.RowKit

section
variable {E : List BegE} {plan : List Int} {host mv : Int} {i bn bc : Nat} {ba : Option Addr} {x : BegE}
end
end
section
set_option linter.unusedVariables false
open Go.RowKit
theorem onS_mono {g : Nat → Int} {xs : List Int} {x h : Int} (hg : 0 ≤ g xs.length) : onS g xs h xs.length ≤ onS g (xs ++ [x]) h (xs ++ [x]).length := by
  rw [onS_end]; split <;> omega
/-- what is hopeless stays so -/
theorem hope_mono {p : Pb} (hp : PbOk p) {xs : List Int} {x : Int} (hl : xs.length < p.nt) (h : hopeB p (tim p) xs = true) : hopeB p (tim p) (xs ++ [x]) = true := by
  unfold hopeB at h ⊢
  rw [Bool.not_eq_true'] at h ⊢
  rw [Bool.and_eq_false_iff, Bool.and_eq_false_iff] at h ⊢
  have hm := hp.tm xs.length hl
  have ht := hp.tt xs.length hl
  rcases h with (h | h) | h
  · refine .inl (.inl ?_)
    cases e : allN (fitB p (tim p) (xs ++ [x])) p.nh with
    | false => rfl
    | true =>
      rw [← h]
      refine (allN_iff.2 fun i hi => ?_).symm
      have := allN_iff.1 e i hi
      simp only [fitB, Bool.and_eq_true, decide_eq_true_eq] at this ⊢
      have m1 := onS_mono (g := fun i => p.tv i 1) (xs := xs) (x := x) (h := (i : Int)) hm.1
      have m2 := onS_mono (g := tim p) (xs := xs) (x := x) (h := (i : Int)) ht.1
      omega
  · refine .inl (.inr ?_)
    cases e : allN (lvlB p (xs ++ [x])) (xs ++ [x]).length with
    | false => rfl
    | true =>
      rw [← h]
      refine (allN_iff.2 fun i hi => ?_).symm
      have := allN_iff.1 e i (by simp; omega)
      unfold lvlB at this ⊢
      rwa [xg_app hi] at this
  · refine .inr ?_
    cases e : allN (keptB p (xs ++ [x])) p.nb with
    | false => rfl
    | true =>
      rw [← h]
      refine (allN_iff.2 fun j hj => ?_).symm
      have := allN_iff.1 e j hj
      have ha := hp.ba j hj
      have hb := hp.bt j hj
      have hk := hp.bk j hj
      unfold keptB at this ⊢
      have hl2 : ((xs ++ [x]).length : Int) = xs.length + 1 := by simp
      by_cases c1 : (xs.length : Int) ≤ p.bv j 1
      · rw [if_pos c1]
      · have c1' : ¬ ((xs ++ [x]).length : Int) ≤ p.bv j 1 := by omega
        rw [if_neg c1]
        rw [if_neg c1', xg_app (show (p.bv j 1).toNat < xs.length by omega)] at this
        by_cases c4 : p.bv j 0 = 4
        · rw [if_pos c4] at this ⊢; exact this
        · rw [if_neg c4] at this ⊢
          by_cases c5 : p.bv j 0 = 5
          · rw [if_pos c5] at this ⊢; exact this
          · rw [if_neg c5] at this ⊢
            have hb := hb (by omega)
            by_cases c2 : (xs.length : Int) ≤ p.bv j 2
            · rw [if_pos c2]
            · have c2' : ¬ ((xs ++ [x]).length : Int) ≤ p.bv j 2 := by omega
              rw [if_neg c2]
              rw [if_neg c2', xg_app (show (p.bv j 2).toNat < xs.length by omega)] at this
              exact this
theorem allF_in {p : Pb} (hp : PbOk p) : ∀ (m : Nat) (xs ys : List Int), xs.length + m = p.nt → ys.length = m → HosOk p (xs ++ ys) → hopeB p (tim p) (xs ++ ys) = false → (xs ++ ys) ∈ allF p.nh (hopeB p (tim p)) m xs := by
  intro m
  induction m with
  | zero =>
    intro xs ys h1 h2 hx hh
    have : ys = [] := List.eq_nil_of_length_eq_zero h2
    subst this
    rw [List.append_nil] at hh ⊢
    unfold allF; rw [if_neg (by rw [hh]; decide)]; simp
  | succ m ih =>
    intro xs ys h1 h2 hx hh
    cases ys with
    | nil => simp at h2
    | cons y ys =>
      have e : xs ++ y :: ys = (xs ++ [y]) ++ ys := by simp
      have hxs : hopeB p (tim p) xs = false := by
        have hpre : ∀ (ys xs : List Int), xs.length + ys.length ≤ p.nt → hopeB p (tim p) xs = true → hopeB p (tim p) (xs ++ ys) = true := by
          intro ys
          induction ys with
          | nil => intro xs _ h; simpa using h
          | cons z ys ih2 =>
            intro xs hl h
            rw [show xs ++ z :: ys = (xs ++ [z]) ++ ys by simp]
            exact ih2 (xs ++ [z]) (by simp at hl ⊢; omega) (hope_mono hp (by simp at hl; omega) h)
        cases q : hopeB p (tim p) xs with
        | false => rfl
        | true => rw [hpre (y :: ys) xs (by omega) q] at hh; cases hh
      have hy := hx xs.length (by simp)
      have hxy : xg (xs ++ y :: ys) xs.length = y := by unfold xg; rw [List.getElem?_append_right (Nat.le_refl _)]; simp
      rw [hxy] at hy
      unfold allF
      rw [if_neg (by rw [hxs]; decide)]
      refine flatN_mem.2 ⟨y.toNat, by omega, ?_⟩
      rw [e] at hx hh ⊢
      have ey : ((y.toNat : Nat) : Int) = y := by omega
      rw [ey]
      exact ih (xs ++ [y]) ys (by simp; omega) (by simpa using h2) hx hh
/-- the list has all that are allowed -/
theorem allP_iff {p : Pb} (hp : PbOk p) {x : List Int} : x ∈ allP p ↔ HosOk p x ∧ x.length = p.nt ∧ hopeB p (tim p) x = false :=
  ⟨mem_allP, fun ⟨h1, h2, h3⟩ => by
    have := allF_in hp p.nt [] x (by simp) h2 (by simpa using h1) (by simpa using h3)
    rw [List.nil_append] at this
    exact this⟩
end
section
open Go.RowKit

/-- a problem in memory of the call's own -/
structure PbOwn (w : World) (B : Nat) (p : Pb) (ta ha ba la : Option Addr) (tc hc bc lc : Nat) : Prop where
  t : OwnR w B 74 4 (.slice ta p.nt tc) p.nt (tbL (tvV p) p.nt 4)
  h : OwnR w B 53 6 (.slice ha p.nh hc) p.nh (tbL (hvV p) p.nh 6)
  b : OwnR w B 65 3 (.slice ba p.nb bc) p.nb (tbL (bvV p) p.nb 3)
  l : OwnR w B 84 3 (.slice la p.nl lc) p.nl (tbL (lvV p) p.nl 3)
  s1 : ∀ i, i < p.nt → (p.tn i).size ≤ 9223372036854775807
  s2 : ∀ i, i < p.nh → (p.hn i).size ≤ 9223372036854775807
def SmlP (p : Pb) : Prop := p.nt ≤ 20 ∧ p.nh ≤ 20 ∧ p.nb ≤ 40 ∧ p.nl ≤ 40
theorem PbOwn.at {w : World} {B : Nat} {p : Pb} {ta ha ba la : Option Addr} {tc hc bc lc : Nat} (h : PbOwn w B p ta ha ba la tc hc bc lc) (hz : SmlP p) : PbAt w p ta ha ba la tc hc bc lc := by
  obtain ⟨h1, h2, h3, h4⟩ := hz
  exact ⟨h.t.tb (by omega), h.h.tb (by omega), h.b.tb (by omega), h.l.tb (by omega), h.s1, h.s2⟩
theorem PbOwn.gr {w w' : World} {B : Nat} {p : Pb} {ta ha ba la : Option Addr} {tc hc bc lc : Nat} (h : PbOwn w B p ta ha ba la tc hc bc lc) (g : Gr w w') : PbOwn w' B p ta ha ba la tc hc bc lc := ⟨h.t.gr g, h.h.gr g, h.b.gr g, h.l.gr g, h.s1, h.s2⟩
theorem OwnR.after {w w' : World} {b B e k n c : Nat} {a : Option Addr} {xs : List Value} (h : OwnR w B e k (.slice a n c) n xs) (g : Only (fun x => x = b) w w') (hb : b < B) : OwnR w' B e k (.slice a n c) n xs :=
  h.only g (fun x hx e => by have h1 := (h.ge hx).1; have h2 : x = b := e; omega)
set_option maxRecDepth 100000 in
set_option maxHeartbeats 2000000 in
theorem copy_any (p : Pb) (ta ha ba la : Option Addr) (tc hc bc lc : Nat) (w : World) (hP : PbAt w p ta ha ba la tc hc bc lc) (hz : SmlP p) :
  Calls Try.prog 17 #[.agg #[.slice ta p.nt tc, .slice ha p.nh hc, .slice ba p.nb bc, .slice la p.nl lc]] w fun e w' => ∃ ta ha ba la tc hc bc lc, e = .returned (.agg #[.slice ta p.nt tc, .slice ha p.nh hc, .slice ba p.nb bc, .slice la p.nl lc]) ∧ PbOwn w' w.heap.size p ta ha ba la tc hc bc lc ∧ Gr w w' := by
 have G := Gr.refl w
 have hpt := hP.t
 have hph := hP.h
 have hpb := hP.b
 have hpl := hP.l
 have hplen := hP.len
 obtain ⟨hn1, hn2, hn3, hn4⟩ := hplen
 have hcp1 := hpt.cap
 have hcp2 := hph.cap
 have hcp3 := hpb.cap
 have hcp4 := hpl.cap
 obtain ⟨hz1, hz2, hz3, hz4⟩ := hz
 refine Y.calls 20 Try.func17 rfl rfl ?_
 intro ac F0
 have F : Fr ac 20 [(0, .agg #[.slice ta p.nt tc, .slice ha p.nh hc, .slice ba p.nb bc, .slice la p.nl lc])] := F0.sub _
 clear F0
 refine Y.sl ?_
 have hgs3 : w.heap.size ≤ w.heap.size := G.size
 refine Y.pv F (X.box rfl (F.ev 0 (.agg #[.slice ta p.nt tc, .slice ha p.nh hc, .slice ba p.nb bc, .slice la p.nl lc])) X.bx) ?_;clear F ac;intro ac F
 have hgs5 : w.heap.size ≤ w.heap.size := G.size
 obtain ⟨w6, hw_, g, hb, hbl, hC2⟩ := Y.bxd (RCells.nil w) #[.slice ta p.nt tc, .slice ha p.nh hc, .slice ba p.nb bc, .slice la p.nl lc] 27;rw [hw_];clear hw_
 replace G := G.trans g
 have hC := hC2
 clear hC2
 replace hpt := hpt.gr g
 replace hph := hph.gr g
 replace hpb := hpb.gr g
 replace hpl := hpl.gr g
 have hsz4 := hbl
 clear g hb hbl
 refine Y.pv F (Y.al rfl (Try.new27 _)) ?_;clear F ac;intro ac F
 have g := Gr.alloc w6 (.cells #[.slice none 0 0, .slice none 0 0, .slice none 0 0, .slice none 0 0] 27)
 have hb := heap_alloc_new w6 (.cells #[.slice none 0 0, .slice none 0 0, .slice none 0 0, .slice none 0 0] 27)
 have hszw7 : w6.heap.size < (w6.alloc (.cells #[.slice none 0 0, .slice none 0 0, .slice none 0 0, .slice none 0 0] 27)).heap.size := by simp
 have hgsw7 : w.heap.size ≤ w6.heap.size := G.size
 generalize w6.alloc (.cells #[.slice none 0 0, .slice none 0 0, .slice none 0 0, .slice none 0 0] 27) = w7 at *
 replace G := G.trans g
 replace hC := hC.gr g
 replace hpt := hpt.gr g
 replace hph := hph.gr g
 replace hpb := hpb.gr g
 replace hpl := hpl.gr g
 have hVw7 : OwnP w7 w6.heap.size 4 (VL [.slice none 0 0, .slice none 0 0, .slice none 0 0, .slice none 0 0]) := ownP_bx (vs := [.slice none 0 0, .slice none 0 0, .slice none 0 0, .slice none 0 0]) hb
 clear g hb
 refine Y.nt F [(1, Vp w.heap.size), (2, Vp w6.heap.size)] ?_;clear F ac;intro ac F
 refine Y.seq ?_
 have hgL : w.heap.size ≤ w7.heap.size := G.size
 have hbB := hVw7.lt
 have hbw : w.heap.size ≤ w6.heap.size := by first | exact Nat.le_refl _ | omega
 obtain ⟨TT, hTT⟩ : ∃ T : (Nat → Value) → World → Prop, T = fun _ W => ∃ t0 c0 t1 c1 t2 c2 t3 c3, OwnP W w6.heap.size 4 (VL [.slice t0 p.nt c0, .slice t1 p.nh c1, .slice t2 p.nb c2, .slice t3 p.nl c3]) ∧ Only (fun x => x = w6.heap.size) w7 W ∧ OwnR W w7.heap.size 74 4 (.slice t0 p.nt c0) p.nt (tbL (tvV p) p.nt 4) ∧ OwnR W w7.heap.size 53 6 (.slice t1 p.nh c1) p.nh (tbL (hvV p) p.nh 6) ∧ OwnR W w7.heap.size 65 3 (.slice t2 p.nb c2) p.nb (tbL (bvV p) p.nb 3) ∧ OwnR W w7.heap.size 84 3 (.slice t3 p.nl c3) p.nl (tbL (lvV p) p.nl 3) := ⟨_, rfl⟩
 refine Y.regionS F [none, some (Vp w.heap.size), some (.slice ta p.nt tc), none, none, some (.pointer (some ⟨w.heap.size, 1, none⟩)), some (.slice ha p.nh hc), none, none, some (.pointer (some ⟨w.heap.size, 2, none⟩)), some (.slice ba p.nb bc), none, none, some (.pointer (some ⟨w.heap.size, 3, none⟩)), some (.slice la p.nl lc), none, none, none] [(0, Y.MP.row0 w7.heap.size 74 4), (3, Y.MP.row w7.heap.size 74 4 p.nt (tbL (tvV p) p.nt 4)), (4, Y.MP.row0 w7.heap.size 53 6), (7, Y.MP.row w7.heap.size 53 6 p.nh (tbL (hvV p) p.nh 6)), (8, Y.MP.row0 w7.heap.size 65 3), (11, Y.MP.row w7.heap.size 65 3 p.nb (tbL (bvV p) p.nb 3)), (12, Y.MP.row0 w7.heap.size 84 3), (15, Y.MP.row w7.heap.size 84 3 p.nl (tbL (lvV p) p.nl 3)), (16, Y.MP.pbv w7.heap.size p)] 17 TT rfl ⟨by kernel_rfl, of_decide_eq_true (by kernel_rfl), by kernel_rfl, by kernel_rfl, by kernel_rfl⟩ (of_decide_eq_true (by kernel_rfl)) ⟨?_, ?_, ?_, ?_, ?_, ?_, ?_, ?_, ?_, ?_, ?_, ?_, ?_, ?_, ?_, ?_, ?_, ?_, trivial⟩ ?_
 ·intro ac done u W Sx hT
  have hs := Sx.no 17 (by kernel_rfl)
  have hR := hT.1 hs
  have g : Gr w7 W := hR.1
  exact X.valN (X.w0 rfl) rfl (X.bs rfl X.bs0 (Try.bs22_0 _)) (Y.RT.of hs rfl (hR.new (q := Y.MP.row0 w7.heap.size 74 4) (Gr.alloc _ _) rfl ⟨_, rfl, ownR_new (heap_alloc_new _ _) g.size⟩))
 ·intro ac done u W Sx hT
  have hs := Sx.no 17 (by kernel_rfl)
  have hR := hT.1 hs
  have g : Gr w7 W := hR.1
  exact X.vl (X.field rfl (Sx.ev 1 (Vp w.heap.size)) (X.fld Try.underlying27 rfl (Try.siz22 _) rfl rfl)) (Y.RT.of hs rfl hR.st0)
 ·intro ac done u W Sx hT
  have hs := Sx.no 17 (by kernel_rfl)
  have hR := hT.1 hs
  have g : Gr w7 W := hR.1
  exact X.vl (X.load rfl (Sx.ev 4 (Vp w.heap.size)) (X.ld1 (Try.agg22 _) ((hC.gr g).at 0 rfl))) (Y.RT.of hs rfl hR.st0)
 ·intro ac done u W Sx hT
  have hs := Sx.no 17 (by kernel_rfl)
  have hR := hT.1 hs
  have g : Gr w7 W := hR.1
  obtain ⟨ra0, e0, hI0⟩ := hR.get (i := 0) (Y.MP.row0 w7.heap.size 74 4) rfl (Sx.an 0 (by kernel_rfl))
  obtain ⟨a9, c9, W2, hrun, hO2, g2⟩ := run_copyN (P := Try.prog) (ts := 22) Try.underlying22 Try.info74 rfl (by decide) hI0 (hpt.gr g).none0 tbL_len ((hpt.gr g).src (by decide)) (tv_one p _) (by omega) (by decide) g.size
  exact X.valN (X.w0 rfl) rfl (Y.apz rfl ((Sx.own 0 3 rfl).trans e0) (Sx.ev 5 (.slice ta p.nt tc)) hrun) (Y.RT.of hs rfl (hR.new (q := Y.MP.row w7.heap.size 74 4 p.nt (tbL (tvV p) p.nt 4)) g2 rfl ⟨_, _, rfl, hO2⟩))
 ·intro ac done u W Sx hT
  have hs := Sx.no 17 (by kernel_rfl)
  have hR := hT.1 hs
  have g : Gr w7 W := hR.1
  exact X.valN (X.w0 rfl) rfl (X.bs rfl X.bs0 (Try.bs23_0 _)) (Y.RT.of hs rfl (hR.new (q := Y.MP.row0 w7.heap.size 53 6) (Gr.alloc _ _) rfl ⟨_, rfl, ownR_new (heap_alloc_new _ _) g.size⟩))
 ·intro ac done u W Sx hT
  have hs := Sx.no 17 (by kernel_rfl)
  have hR := hT.1 hs
  have g : Gr w7 W := hR.1
  exact X.vl (X.field rfl (Sx.ev 1 (Vp w.heap.size)) (X.fld Try.underlying27 rfl (Try.siz23 _) rfl rfl)) (Y.RT.of hs rfl hR.st0)
 ·intro ac done u W Sx hT
  have hs := Sx.no 17 (by kernel_rfl)
  have hR := hT.1 hs
  have g : Gr w7 W := hR.1
  exact X.vl (X.load rfl (Sx.ev 8 (.pointer (some ⟨w.heap.size, 1, none⟩))) (X.ld1 (Try.agg23 _) ((hC.gr g).at 1 rfl))) (Y.RT.of hs rfl hR.st0)
 ·intro ac done u W Sx hT
  have hs := Sx.no 17 (by kernel_rfl)
  have hR := hT.1 hs
  have g : Gr w7 W := hR.1
  obtain ⟨ra4, e4, hI4⟩ := hR.get (i := 4) (Y.MP.row0 w7.heap.size 53 6) rfl (Sx.an 4 (by kernel_rfl))
  obtain ⟨a9, c9, W2, hrun, hO2, g2⟩ := run_copyN (P := Try.prog) (ts := 23) Try.underlying23 Try.info53 rfl (by decide) hI4 (hph.gr g).none0 tbL_len ((hph.gr g).src (by decide)) (hv_one p _) (by omega) (by decide) g.size
  exact X.valN (X.w0 rfl) rfl (Y.apz rfl ((Sx.own 4 7 rfl).trans e4) (Sx.ev 9 (.slice ha p.nh hc)) hrun) (Y.RT.of hs rfl (hR.new (q := Y.MP.row w7.heap.size 53 6 p.nh (tbL (hvV p) p.nh 6)) g2 rfl ⟨_, _, rfl, hO2⟩))
 ·intro ac done u W Sx hT
  have hs := Sx.no 17 (by kernel_rfl)
  have hR := hT.1 hs
  have g : Gr w7 W := hR.1
  exact X.valN (X.w0 rfl) rfl (X.bs rfl X.bs0 (Try.bs24_0 _)) (Y.RT.of hs rfl (hR.new (q := Y.MP.row0 w7.heap.size 65 3) (Gr.alloc _ _) rfl ⟨_, rfl, ownR_new (heap_alloc_new _ _) g.size⟩))
 ·intro ac done u W Sx hT
  have hs := Sx.no 17 (by kernel_rfl)
  have hR := hT.1 hs
  have g : Gr w7 W := hR.1
  exact X.vl (X.field rfl (Sx.ev 1 (Vp w.heap.size)) (X.fld Try.underlying27 rfl (Try.siz24 _) rfl rfl)) (Y.RT.of hs rfl hR.st0)
 ·intro ac done u W Sx hT
  have hs := Sx.no 17 (by kernel_rfl)
  have hR := hT.1 hs
  have g : Gr w7 W := hR.1
  exact X.vl (X.load rfl (Sx.ev 12 (.pointer (some ⟨w.heap.size, 2, none⟩))) (X.ld1 (Try.agg24 _) ((hC.gr g).at 2 rfl))) (Y.RT.of hs rfl hR.st0)
 ·intro ac done u W Sx hT
  have hs := Sx.no 17 (by kernel_rfl)
  have hR := hT.1 hs
  have g : Gr w7 W := hR.1
  obtain ⟨ra8, e8, hI8⟩ := hR.get (i := 8) (Y.MP.row0 w7.heap.size 65 3) rfl (Sx.an 8 (by kernel_rfl))
  obtain ⟨a9, c9, W2, hrun, hO2, g2⟩ := run_copyN (P := Try.prog) (ts := 24) Try.underlying24 Try.info65 rfl (by decide) hI8 (hpb.gr g).none0 tbL_len ((hpb.gr g).src (by decide)) (bv_one p _) (by omega) (by decide) g.size
  exact X.valN (X.w0 rfl) rfl (Y.apz rfl ((Sx.own 8 11 rfl).trans e8) (Sx.ev 13 (.slice ba p.nb bc)) hrun) (Y.RT.of hs rfl (hR.new (q := Y.MP.row w7.heap.size 65 3 p.nb (tbL (bvV p) p.nb 3)) g2 rfl ⟨_, _, rfl, hO2⟩))
 ·intro ac done u W Sx hT
  have hs := Sx.no 17 (by kernel_rfl)
  have hR := hT.1 hs
  have g : Gr w7 W := hR.1
  exact X.valN (X.w0 rfl) rfl (X.bs rfl X.bs0 (Try.bs25_0 _)) (Y.RT.of hs rfl (hR.new (q := Y.MP.row0 w7.heap.size 84 3) (Gr.alloc _ _) rfl ⟨_, rfl, ownR_new (heap_alloc_new _ _) g.size⟩))
 ·intro ac done u W Sx hT
  have hs := Sx.no 17 (by kernel_rfl)
  have hR := hT.1 hs
  have g : Gr w7 W := hR.1
  exact X.vl (X.field rfl (Sx.ev 1 (Vp w.heap.size)) (X.fld Try.underlying27 rfl (Try.siz25 _) rfl rfl)) (Y.RT.of hs rfl hR.st0)
 ·intro ac done u W Sx hT
  have hs := Sx.no 17 (by kernel_rfl)
  have hR := hT.1 hs
  have g : Gr w7 W := hR.1
  exact X.vl (X.load rfl (Sx.ev 16 (.pointer (some ⟨w.heap.size, 3, none⟩))) (X.ld1 (Try.agg25 _) ((hC.gr g).at 3 rfl))) (Y.RT.of hs rfl hR.st0)
 ·intro ac done u W Sx hT
  have hs := Sx.no 17 (by kernel_rfl)
  have hR := hT.1 hs
  have g : Gr w7 W := hR.1
  obtain ⟨ra12, e12, hI12⟩ := hR.get (i := 12) (Y.MP.row0 w7.heap.size 84 3) rfl (Sx.an 12 (by kernel_rfl))
  obtain ⟨a9, c9, W2, hrun, hO2, g2⟩ := run_copyN (P := Try.prog) (ts := 25) Try.underlying25 Try.info84 rfl (by decide) hI12 (hpl.gr g).none0 tbL_len ((hpl.gr g).src (by decide)) (lv_one p _) (by omega) (by decide) g.size
  exact X.valN (X.w0 rfl) rfl (Y.apz rfl ((Sx.own 12 15 rfl).trans e12) (Sx.ev 17 (.slice la p.nl lc)) hrun) (Y.RT.of hs rfl (hR.new (q := Y.MP.row w7.heap.size 84 3 p.nl (tbL (lvV p) p.nl 3)) g2 rfl ⟨_, _, rfl, hO2⟩))
 ·intro ac done u W Sx hT
  have hs := Sx.no 17 (by kernel_rfl)
  have hR := hT.1 hs
  have g : Gr w7 W := hR.1
  obtain ⟨ra3, rc3, e3, hI3⟩ := hR.get (i := 3) (Y.MP.row w7.heap.size 74 4 p.nt (tbL (tvV p) p.nt 4)) rfl (Sx.an 3 (by kernel_rfl))
  obtain ⟨ra7, rc7, e7, hI7⟩ := hR.get (i := 7) (Y.MP.row w7.heap.size 53 6 p.nh (tbL (hvV p) p.nh 6)) rfl (Sx.an 7 (by kernel_rfl))
  obtain ⟨ra11, rc11, e11, hI11⟩ := hR.get (i := 11) (Y.MP.row w7.heap.size 65 3 p.nb (tbL (bvV p) p.nb 3)) rfl (Sx.an 11 (by kernel_rfl))
  obtain ⟨ra15, rc15, e15, hI15⟩ := hR.get (i := 15) (Y.MP.row w7.heap.size 84 3 p.nl (tbL (lvV p) p.nl 3)) rfl (Sx.an 15 (by kernel_rfl))
  exact X.valN (X.w0 rfl) rfl (Y.bd rfl (X.b4 ((Sx.own 3 6 rfl).trans e3) ((Sx.own 7 10 rfl).trans e7) ((Sx.own 11 14 rfl).trans e11) ((Sx.own 15 18 rfl).trans e15)) (Try.bd27f _ _ _ _ _ _ _ _ _ _ _ _ _)) (Y.RT.of hs rfl (hR.new (q := Y.MP.pbv w7.heap.size p) (Gr.refl _) rfl ⟨_, _, _, _, _, _, _, _, rfl, hI3, hI7, hI11, hI15⟩))
 ·intro ac done u W Sx hT
  have hR := hT.1 Sx.nd
  have g : Gr w7 W := hR.1
  obtain ⟨t0, c0, t1, c1, t2, c2, t3, c3, e16, hO0, hO1, hO2, hO3⟩ := hR.get (i := 16) (Y.MP.pbv w7.heap.size p) rfl (Sx.an 16 (by kernel_rfl))
  obtain ⟨W2, hrun, hV2, hon⟩ := ownP_store (P := Try.prog) (vs := [.slice t0 p.nt c0, .slice t1 p.nh c1, .slice t2 p.nb c2, .slice t3 p.nl c3]) (t := 27) (hVw7.gr g) rfl (fun W => Try.siz27 W) rfl
  exact X.unit (X.w0 rfl) rfl (X.store rfl (Sx.ev 2 (Vp w6.heap.size)) ((Sx.own 16 19 rfl).trans e16) hrun) (Y.RT.fin (by subst hTT; exact ⟨t0, c0, t1, c1, t2, c2, t3, c3, hV2, (g.only _).trans hon, hO0.after hon hbB, hO1.after hon hbB, hO2.after hon hbB, hO3.after hon hbB⟩))
 rintro ac u w8 hs hd hl_ ho hT
 rw [hTT] at hT
 obtain ⟨t0, c0, t1, c1, t2, c2, t3, c3, hV2, hon, hO0, hO1, hO2, hO3⟩ := hT
 clear hTT
 replace F : Fr ac 20 [(2, Vp w6.heap.size)] := X.fr hs hd hl_ _ (by kernel_rfl)
 clear hs hd hl_ ho
 replace G := Y.Only.up G hon (by omega)
 refine X.thenN ?_
 refine Y.ret ?_
 exact Y.ret0 (v := .agg #[.slice t0 p.nt c0, .slice t1 p.nh c1, .slice t2 p.nb c2, .slice t3 p.nl c3]) F (Y.rcl F rfl (by kernel_rfl) (ownP_load hV2 (Try.agg27 _) (Try.siz27 _) rfl)) ⟨t0, t1, t2, t3, c0, c1, c2, c3, rfl, ⟨hO0.lower hgL, hO1.lower hgL, hO2.lower hgL, hO3.lower hgL, hP.s1, hP.s2⟩, G⟩
end
section
set_option linter.unusedVariables false
open Go.RowKit
section
variable {p : Pb} {b m0 m1 m2 : Int}
end
end
section
set_option linter.unusedVariables false
open Go.RowKit
/-- the search for any allowed plan -/
def posT (p : Pb) (_ : Unit) (xs : List Int) : Unit × Bool × Bool := ((), true, !(!hopeB p (tim p) xs && decide (xs.length = p.nt)))
def posB (p : Pb) : Bool := !(allP p).isEmpty
theorem visN_emp {f : Nat → Unit → Unit × Bool} {g : Nat → List (List Int)} {n : Nat} (h : ∀ k, k < n → (f k ()).2 = (g k).isEmpty) : (visN f n ()).2 = (flatN g n).isEmpty := by
  induction n with
  | zero => rfl
  | succ n ih =>
    have h1 := ih (fun k hk => h k (by omega))
    simp only [visN, flatN]
    have h9 : ∀ (a b : List (List Int)), (a ++ b).isEmpty = (a.isEmpty && b.isEmpty) := fun a b => by cases a <;> rfl
    rw [h9]
    cases e : (flatN g n).isEmpty with
    | true => rw [e] at h1; rw [if_pos h1, Bool.true_and]; exact h n (by omega)
    | false => rw [e] at h1; rw [if_neg (by rw [h1]; decide), Bool.false_and]; exact h1
theorem vis_emp {p : Pb} : ∀ (m : Nat) (xs : List Int), xs.length + m = p.nt → (visF p.nh (hopeB p (tim p)) (posT p) m xs ()).2 = (allF p.nh (hopeB p (tim p)) m xs).isEmpty := by
  intro m
  induction m with
  | zero =>
    intro xs h
    have e : xs.length = p.nt := by omega
    simp only [visF, allF, posT, e, decide_true, Bool.and_true, Bool.not_not]
    cases hopeB p (tim p) xs <;> rfl
  | succ m ih =>
    intro xs h
    have e : ¬ xs.length = p.nt := by omega
    have e2 : (posT p () xs).2.2 = true := by simp [posT, e]
    cases hh : hopeB p (tim p) xs with
    | true => rw [vis_leaf e2 (.inl hh)]; simp [allF, hh]
    | false =>
      rw [vis_in e2 hh rfl]
      simp only [allF, hh]
      exact visN_emp fun k hk => ih _ (by simp; omega)
theorem vis_pos {p : Pb} : (visF p.nh (hopeB p (tim p)) (posT p) p.nt [] ()).2 = !posB p := by
  rw [vis_emp p.nt [] (by simp)]; simp [posB, allP]
/-- some of the bonds -/
def selP (p : Pb) (S : List Nat) : Pb := { p with nb := S.length, bv := fun j r => p.bv (S[j]?.getD 0) r }
def nin (n : Nat) (r : List Nat) : List Nat := (List.range n).filter fun j => !r.contains j
section
variable {p : Pb} {S T : List Nat}
theorem sel_ex {j : Nat} (hj : j < S.length) : ∃ k, k ∈ S ∧ ∀ r, (selP p S).bv j r = p.bv k r :=
  ⟨S[j], List.getElem_mem hj, fun r => by simp [selP, List.getElem?_eq_getElem hj]⟩
theorem sel_chk (h : chkE p = 0) (hS : ∀ k ∈ S, k < p.nb) (hl : S.length ≤ p.nb) : chkE (selP p S) = 0 := by
  unfold chkE at h
  split at h
  · cases h
  rename_i h0
  split at h
  · cases h
  rename_i h1
  split at h
  · cases h
  rename_i h2
  split at h
  · cases h
  rename_i h3
  split at h
  · cases h
  rename_i h4
  unfold chkE
  have e1 : allN (taskB (selP p S)) (selP p S).nt = true := (by simpa using h1 : allN (taskB p) p.nt = true)
  have e2 : allN (hostB (selP p S)) (selP p S).nh = true := (by simpa using h2 : allN (hostB p) p.nh = true)
  have e3 : allN (bondB (selP p S)) (selP p S).nb = true := by
    refine allN_iff.2 fun j hj => ?_
    obtain ⟨k, hk, hv⟩ := sel_ex (p := p) hj
    have := allN_iff.1 (by simpa using h3 : allN (bondB p) p.nb = true) k (hS k hk)
    simp only [bondB, isT, isH, hv] at this ⊢
    exact this
  have e4 : allN (talkB (selP p S)) (selP p S).nl = true := (by simpa using h4 : allN (talkB p) p.nl = true)
  rw [if_neg (by show ¬ (10 < p.nt ∨ 6 < p.nh ∨ 30 < S.length ∨ 30 < p.nl); omega), if_neg (by rw [e1]; decide), if_neg (by rw [e2]; decide), if_neg (by rw [e3]; decide), if_neg (by rw [e4]; decide)]
/-- fewer bonds leave more -/
theorem sel_hope {xs : List Int} (hT : ∀ k ∈ T, k ∈ S) (h : hopeB (selP p S) (tim (selP p S)) xs = false) : hopeB (selP p T) (tim (selP p T)) xs = false := by
  unfold hopeB at h ⊢
  rw [Bool.not_eq_false', Bool.and_eq_true, Bool.and_eq_true] at h ⊢
  obtain ⟨⟨h1, h2⟩, h3⟩ := h
  refine ⟨⟨h1, h2⟩, allN_iff.2 fun j hj => ?_⟩
  obtain ⟨k, hk, hv⟩ := sel_ex (p := p) (S := T) hj
  obtain ⟨i, hi, e⟩ := List.getElem_of_mem (hT k hk)
  have := allN_iff.1 h3 i hi
  have hv2 : ∀ r, (selP p S).bv i r = p.bv k r := fun r => by simp [selP, List.getElem?_eq_getElem hi, e]
  have hz : ∀ i, (selP p S).hv i 4 = p.hv i 4 := fun i => rfl
  have hz2 : ∀ i, (selP p T).hv i 4 = p.hv i 4 := fun i => rfl
  unfold keptB at this ⊢
  simp only [hv, hv2, hz, hz2] at this ⊢
  exact this
theorem posB_iff (hp : PbOk p) : posB p = true ↔ ∃ x, HosOk p x ∧ x.length = p.nt ∧ hopeB p (tim p) x = false := by
  unfold posB
  rw [Bool.not_eq_true']
  constructor
  · intro h
    cases e : allP p with
    | nil => rw [e] at h; cases h
    | cons x t => exact ⟨x, (allP_iff hp).1 (by rw [e]; simp)⟩
  · rintro ⟨x, hx⟩
    have := (allP_iff hp).2 hx
    cases e : allP p with
    | nil => rw [e] at this; simp at this
    | cons y t => rfl
theorem sel_pos (h : chkE p = 0) (hS : ∀ k ∈ S, k < p.nb) (hl : S.length ≤ p.nb) (hT : ∀ k ∈ T, k ∈ S) (hl2 : T.length ≤ p.nb) (k : posB (selP p S) = true) : posB (selP p T) = true := by
  obtain ⟨x, h1, h2, h3⟩ := (posB_iff (chk_ok (sel_chk h hS hl))).1 k
  exact (posB_iff (chk_ok (sel_chk h (fun k hk => hS k (hT k hk)) hl2))).2 ⟨x, h1, h2, sel_hope hT h3⟩
end
/-- the bonds that were taken out, and those that were not, of the first j -/
def conS (p : Pb) : Nat → List Nat × List Nat
  | 0 => ([], [])
  | j + 1 => if posB (selP p (nin p.nb ((conS p j).1 ++ [j]))) then ((conS p j).1, (conS p j).2 ++ [j]) else ((conS p j).1 ++ [j], (conS p j).2)
/-- those but one, of the first n -/
def skp (K : List Nat) (s : Int) : Nat → List Nat
  | 0 => []
  | n + 1 => if (n : Int) = s then skp K s n else skp K s n ++ [K[n]?.getD 0]
section
variable {p : Pb} {K : List Nat} {s : Int}
theorem nin_mem {n x : Nat} {r : List Nat} : x ∈ nin n r ↔ x < n ∧ x ∉ r := by simp [nin]
theorem nin_len {n : Nat} {r : List Nat} : (nin n r).length ≤ n := by
  have := List.length_filter_le (fun j => !r.contains j) (List.range n)
  simpa [nin] using this
theorem skp_mem {x : Nat} : ∀ {n : Nat}, x ∈ skp K s n ↔ ∃ i, i < n ∧ ¬ (i : Int) = s ∧ x = K[i]?.getD 0 := by
  intro n
  induction n with
  | zero => simp [skp]
  | succ n ih =>
    unfold skp
    by_cases e : (n : Int) = s
    · rw [if_pos e, ih]
      exact ⟨fun ⟨i, h1, h2⟩ => ⟨i, by omega, h2⟩, fun ⟨i, h1, h2, h3⟩ => ⟨i, by have : i ≠ n := fun z => h2 (by rw [z]; exact e); omega, h2, h3⟩⟩
    · rw [if_neg e, List.mem_append, ih]
      constructor
      · rintro (⟨i, h1, h2⟩ | h)
        · exact ⟨i, by omega, h2⟩
        · exact ⟨n, by omega, e, by simpa using h⟩
      · rintro ⟨i, h1, h2, h3⟩
        by_cases z : i = n
        · subst z; exact .inr (by simpa using h3)
        · exact .inl ⟨i, by omega, h2, h3⟩
theorem skp_len : ∀ {n : Nat}, (skp K s n).length ≤ n := by
  intro n
  induction n with
  | zero => exact Nat.le_refl _
  | succ n ih =>
    unfold skp
    split
    · omega
    · rw [List.length_append, List.length_singleton]; omega
theorem con_len : ∀ j, (conS p j).1.length + (conS p j).2.length = j := by
  intro j
  induction j with
  | zero => rfl
  | succ j ih => unfold conS; split <;> simp only [List.length_append, List.length_singleton] <;> omega
theorem con_mem : ∀ j x, (x ∈ (conS p j).1 ∨ x ∈ (conS p j).2 ↔ x < j) ∧ (x ∈ (conS p j).1 → x ∉ (conS p j).2) := by
  intro j
  induction j with
  | zero => intro x; simp [conS]
  | succ j ih =>
    intro x
    obtain ⟨h1, h2⟩ := ih x
    unfold conS
    split
    · simp only [List.mem_append, List.mem_singleton]
      refine ⟨⟨fun h => ?_, fun h => ?_⟩, fun h h9 => ?_⟩
      · rcases h with h | h | h
        · have := h1.1 (.inl h); omega
        · have := h1.1 (.inr h); omega
        · omega
      · by_cases e : x = j
        · exact .inr (.inr e)
        · rcases h1.2 (by omega) with h | h
          · exact .inl h
          · exact .inr (.inl h)
      · have := h1.1 (.inl h)
        rcases h9 with h9 | h9
        · exact h2 h h9
        · omega
    · simp only [List.mem_append, List.mem_singleton]
      refine ⟨⟨fun h => ?_, fun h => ?_⟩, fun h h9 => ?_⟩
      · rcases h with (h | h) | h
        · have := h1.1 (.inl h); omega
        · omega
        · have := h1.1 (.inr h); omega
      · by_cases e : x = j
        · exact .inl (.inr e)
        · rcases h1.2 (by omega) with h | h
          · exact .inl (.inl h)
          · exact .inr h
      · have := h1.1 (.inr h9)
        rcases h with h | h
        · exact h2 h h9
        · omega
theorem con_nod : ∀ j, (conS p j).2.Pairwise (· < ·) := by
  intro j
  induction j with
  | zero => simp [conS]
  | succ j ih =>
    unfold conS
    split
    · rw [List.pairwise_append]
      exact ⟨ih, by simp, fun a ha b hb => by have := (con_mem j a).1.1 (.inr ha); simp at hb; omega⟩
    · exact ih
/-- what is taken out stays so -/
theorem con_mono : ∀ j x, x ∈ (conS p j).1 → x ∈ (conS p (j + 1)).1 := by
  intro j x h
  rw [conS]; split
  · exact h
  · exact List.mem_append.2 (.inl h)
theorem con_one (h : chkE p = 0) : ∀ j, j ≤ p.nb → ∀ x ∈ (conS p j).2, posB (selP p (nin p.nb ((conS p j).1 ++ [x]))) = true := by
  intro j
  induction j with
  | zero => intro _ x hx; simp [conS] at hx
  | succ j ih =>
    intro hj x hx
    have hup : ∀ x, posB (selP p (nin p.nb ((conS p j).1 ++ [x]))) = true → posB (selP p (nin p.nb ((conS p (j + 1)).1 ++ [x]))) = true := fun x hk =>
      sel_pos h (fun k hk => (nin_mem.1 hk).1) nin_len (fun k hk => by
        rw [nin_mem] at hk ⊢
        refine ⟨hk.1, fun h9 => hk.2 ?_⟩
        rcases List.mem_append.1 h9 with h9 | h9
        · exact List.mem_append.2 (.inl (con_mono j k h9))
        · exact List.mem_append.2 (.inr h9)) nin_len hk
    rw [conS] at hx
    split at hx
    · rename_i hp
      rcases List.mem_append.1 hx with hx | hx
      · exact hup x (ih (by omega) x hx)
      · simp at hx; subst hx; exact hup x hp
    · exact hup x (ih (by omega) x hx)
theorem con_no (h0 : posB (selP p (nin p.nb [])) = false) : ∀ j, posB (selP p (nin p.nb (conS p j).1)) = false := by
  intro j
  induction j with
  | zero => exact h0
  | succ j ih =>
    rw [conS]; split
    · exact ih
    · rename_i h; simpa using h
theorem sel_all (h : chkE p = 0) : posB (selP p (nin p.nb [])) = true → posB p = true := by
  intro k
  obtain ⟨x, h1, h2, h3⟩ := (posB_iff (chk_ok (sel_chk h (fun k hk => (nin_mem.1 hk).1) nin_len))).1 k
  refine (posB_iff (chk_ok h)).2 ⟨x, h1, h2, ?_⟩
  unfold hopeB at h3 ⊢
  rw [Bool.not_eq_false', Bool.and_eq_true, Bool.and_eq_true] at h3 ⊢
  obtain ⟨⟨a1, a2⟩, a3⟩ := h3
  refine ⟨⟨a1, a2⟩, allN_iff.2 fun j hj => ?_⟩
  obtain ⟨i, hi, e⟩ := List.getElem_of_mem (nin_mem.2 ⟨hj, by simp⟩ : j ∈ nin p.nb [])
  have := allN_iff.1 a3 i hi
  have hv2 : ∀ r, (selP p (nin p.nb [])).bv i r = p.bv j r := fun r => by simp [selP, List.getElem?_eq_getElem hi, e]
  have hz : ∀ i, (selP p (nin p.nb [])).hv i 4 = p.hv i 4 := fun i => rfl
  unfold keptB at this ⊢
  simp only [hv2, hz] at this
  exact this
/-- what is in conflict cannot be kept together, and all but one can -/
theorem con_law (h : chkE p = 0) (h0 : posB p = false) : posB (selP p (skp (conS p p.nb).2 (-1) (conS p p.nb).2.length)) = false ∧
    ∀ i : Nat, i < (conS p p.nb).2.length → posB (selP p (skp (conS p p.nb).2 i (conS p p.nb).2.length)) = true := by
  have hl := con_len (p := p) p.nb
  have hK : ∀ i, i < (conS p p.nb).2.length → (conS p p.nb).2[i]?.getD 0 ∈ (conS p p.nb).2 := fun i hi => by rw [List.getElem?_eq_getElem hi]; exact List.getElem_mem hi
  have hlt : ∀ x, x ∈ (conS p p.nb).2 → x < p.nb := fun x hx => (con_mem p.nb x).1.1 (.inr hx)
  have hsk : ∀ s, (skp (conS p p.nb).2 s (conS p p.nb).2.length).length ≤ p.nb := fun s => by have := skp_len (K := (conS p p.nb).2) (s := s) (n := (conS p p.nb).2.length); omega
  constructor
  · cases e : posB (selP p (skp (conS p p.nb).2 (-1) (conS p p.nb).2.length)) with
    | false => rfl
    | true =>
      have hn : posB (selP p (nin p.nb [])) = false := by
        cases k : posB (selP p (nin p.nb [])) with
        | false => rfl
        | true => rw [sel_all h k] at h0; cases h0
      have := sel_pos h (fun k hk => by obtain ⟨i, h1, _, rfl⟩ := skp_mem.1 hk; exact hlt _ (hK i h1)) (hsk _) (T := nin p.nb (conS p p.nb).1) (fun k hk => by
        rw [nin_mem] at hk
        rcases (con_mem p.nb k).1.2 hk.1 with h9 | h9
        · exact absurd h9 hk.2
        · obtain ⟨i, hi, e9⟩ := List.getElem_of_mem h9
          exact skp_mem.2 ⟨i, hi, by omega, by rw [List.getElem?_eq_getElem hi, e9]; rfl⟩) nin_len e
      rw [con_no hn] at this; cases this
  · intro i hi
    refine sel_pos h (fun k hk => (nin_mem.1 hk).1) nin_len (fun k hk => ?_) (hsk _) (con_one h p.nb (Nat.le_refl _) _ (hK i hi))
    obtain ⟨i2, h1, h2, rfl⟩ := skp_mem.1 hk
    have hm := hK i2 h1
    refine nin_mem.2 ⟨hlt _ hm, fun h9 => ?_⟩
    rcases List.mem_append.1 h9 with h9 | h9
    · exact (con_mem p.nb _).2 h9 hm
    · simp only [List.mem_singleton] at h9
      have hpw := List.pairwise_iff_getElem.1 (con_nod (p := p) p.nb)
      rw [List.getElem?_eq_getElem h1, List.getElem?_eq_getElem hi] at h9
      simp only [Option.getD_some] at h9
      rcases Nat.lt_or_gt_of_ne (show i2 ≠ i by omega) with h8 | h8
      · have := hpw i2 i h1 hi h8; omega
      · have := hpw i i2 hi h1 h8; omega
end
end
section
set_option linter.unusedVariables false
open Go.RowKit
section
variable {nh m : Nat} {hope dear : List Int → Bool} {xs : List Int} {s : List (List Int × Int)}
end

/-- a leaf and where it lies -/
structure LfE where
  b : BegE
  why : Int
end
section
set_option linter.unusedVariables false
open Go.RowKit
theorem ownP_1 {W : World} {b : Nat} {t : TypeId} {v : Value} (h : W.heap[b]? = some (.cells #[v] t)) : OwnP W b 1 (fun _ => v) := (ownP_bx (vs := [v]) h).congr (fun k hk => by
  have hk1 : k < 1 := hk
  obtain rfl : k = 0 := by omega
  rfl)
section
variable {W W' : World} {ob r2 r3 B : Nat} {v : Value} {E : List LfE}
end
section
variable {W W' : World} {ob r2 r3 B : Nat} {s : List (List Int × Int)} {O Kp : Nat → Prop}
end
end
section
set_option linter.unusedVariables false
open Go.RowKit
def PosK (r : Nat) (s : Unit) (O Kp : Nat → Prop) (W : World) : Prop := OwnP W r 1 (fun _ => .bool false) ∧ O = (fun b => b = r) ∧ Kp = fun _ => False
section
variable {r : Nat} {s : Unit} {O Kp : Nat → Prop} {W W' : World}
theorem PosK.lt (h : PosK r s O Kp W) : ∀ b, O b ∨ Kp b → b < W.heap.size := by
  obtain ⟨h1, rfl, rfl⟩ := h
  rintro b (rfl | e)
  · exact h1.lt
  · exact e.elim
theorem PosK.gr (h : PosK r s O Kp W) (g : Gr W W') : PosK r s O Kp W' := ⟨h.1.gr g, h.2⟩
theorem PosK.only {Yb : Nat → Prop} {B : Nat} (h : PosK r s O Kp W) (hY : ∀ b, Yb b → b < B) (hO : ∀ b, O b → Yb b ∨ B + 2 ≤ b) (g : Only (fun b => b = B + 1) W W') : PosK r s O Kp W' := by
  obtain ⟨h1, h2, h3⟩ := h
  refine ⟨h1.only g (fun e => ?_), h2, h3⟩
  rcases hO r (by rw [h2]) with k | k
  · have := hY _ k; omega
  · omega
end
/-- what holds where the search stops for good -/
def PosX (r : Nat) (w : World) (c : Code) (W : World) : Prop := c = .ret ∧ Only (fun b => b = r) w W ∧ OwnP W r 1 (fun _ => .bool true)
theorem PosX.put {r : Nat} {w W : World} {c : Code} {o : Loop} (h : PosX r w c W) (hr : r < w.heap.size) : PosX r w c (W.putObj (w.heap.size + 1) (.loop o)) :=
  ⟨h.1, h.2.1.step2 (putObj_only _ _ _) (fun r e => .inr (by omega)), h.2.2.only (putObj_only _ _ _) (by omega)⟩
theorem posT_y {p : Pb} {s : Unit} {xs : List Int} (h : hopeB p (tim p) xs = false) (k : xs.length = p.nt) : posT p s xs = ((), true, false) := by simp [posT, h, k]
theorem posT_h {p : Pb} {s : Unit} {xs : List Int} (h : hopeB p (tim p) xs = true) : posT p s xs = ((), true, true) := by simp [posT, h]
theorem posT_n {p : Pb} {s : Unit} {xs : List Int} (k : ¬ xs.length = p.nt) : posT p s xs = ((), true, true) := by simp [posT, k]
end
section
set_option linter.unusedVariables false
open Go.RowKit
theorem Try.bs24_1 (x y z : Int) (w : World) : (Instr.buildSlice 24 1 #[(0, .agg #[.int .i64 x, .int .i64 y, .int .i64 z])]).run Try.prog w = .ok (.slice (some ⟨w.heap.size, 0, none⟩) 1 1) (w.alloc (.cells #[.int .i64 x, .int .i64 y, .int .i64 z] 65)) := by kernel_rfl
/-- numbers of bonds -/
def intsN (G : List Nat) : List Int := G.map fun n : Nat => (n : Int)
theorem intsN_len (G : List Nat) : (intsN G).length = G.length := by simp [intsN]
theorem intsN_app (G H : List Nat) : intsN (G ++ H) = intsN G ++ intsN H := by simp [intsN]
theorem intsN_get {G : List Nat} {i : Nat} : (intsN G)[i]?.getD 0 = ((G[i]?.getD 0 : Nat) : Int) := by
  simp only [intsN, List.getElem?_map]
  cases G[i]? <;> rfl
theorem uses_c {G : List Nat} {n : Nat} : usesB (intsN G) (n : Int) = G.contains n := by
  have h : usesB (intsN G) (n : Int) = true ↔ G.contains n = true := by
    unfold usesB
    rw [usedN_iff, List.contains_iff_mem]
    constructor
    · rintro ⟨i, hi, e⟩
      rw [intsN_len] at hi
      have e1 : xg (intsN G) i = ((G[i] : Nat) : Int) := by
        show (intsN G)[i]?.getD 0 = _
        rw [intsN_get, List.getElem?_eq_getElem hi]; rfl
      rw [e1] at e
      have : G[i] = n := by omega
      rw [← this]; exact List.getElem_mem hi
    · intro h
      obtain ⟨i, hi, e⟩ := List.getElem_of_mem h
      refine ⟨i, by rw [intsN_len]; exact hi, ?_⟩
      show (intsN G)[i]?.getD 0 = _
      rw [intsN_get, List.getElem?_eq_getElem hi, e]; rfl
  cases e : usesB (intsN G) (n : Int) <;> cases e2 : G.contains n
  · rfl
  · rw [h.2 e2] at e; cases e
  · rw [h.1 e] at e2; cases e2
  · rfl
def selV (p : Pb) (S : List Nat) : List Value := tbL (bvV (selP p S)) S.length 3
section
variable {p : Pb} {S G : List Nat} {k n : Nat}
theorem selV_snoc : selV p (S ++ [k]) = selV p S ++ [.int .i64 (p.bv k 0), .int .i64 (p.bv k 1), .int .i64 (p.bv k 2)] := by
  unfold selV tbL
  rw [List.length_append, List.length_singleton, Nat.add_mul, Nat.one_mul, List.range_succ, List.range_succ, List.range_succ]
  simp only [List.map_append, List.append_assoc, List.map_cons, List.map_nil]
  congr 1
  · refine List.map_congr_left fun j hj => ?_
    rw [List.mem_range] at hj
    have h3 : j / 3 < S.length := (Nat.div_lt_iff_lt_mul (by decide)).2 hj
    simp only [bvV, selP, List.getElem?_append_left h3]
  · have e0 : (S.length * 3) / 3 = S.length := by omega
    have e1 : (S.length * 3 + 1) / 3 = S.length := by omega
    have e2 : (S.length * 3 + 2) / 3 = S.length := by omega
    have f0 : (S.length * 3) % 3 = 0 := by omega
    have f1 : (S.length * 3 + 1) % 3 = 1 := by omega
    have f2 : (S.length * 3 + 1 + 1) % 3 = 2 := by omega
    have f3 : (S.length * 3 + 1 + 1) / 3 = S.length := by omega
    simp only [bvV, selP, e0, e1, f0, f1, f2, f3, List.getElem?_concat_length, Option.getD_some, List.cons_append, List.nil_append]
theorem nin_s : nin (n + 1) G = nin n G ++ (if G.contains n then [] else [n]) := by
  unfold nin
  rw [List.range_succ, List.filter_append]
  congr 1
  rw [List.filter_cons, List.filter_nil]
  cases h : G.contains n <;> rfl
theorem nin_y (h : G.contains n = true) : nin (n + 1) G = nin n G := by rw [nin_s, if_pos h, List.append_nil]
theorem nin_n (h : G.contains n = false) : nin (n + 1) G = nin n G ++ [n] := by rw [nin_s, if_neg (by rw [h]; decide)]
end
/-- a problem with some of the bonds, as it lies in memory -/
theorem sel_at {W : World} {p : Pb} {ta ha ba la a : Option Addr} {tc hc bc lc c B : Nat} {S : List Nat} (h : PbAt W p ta ha ba la tc hc bc lc) (hO : OwnR W B 65 3 (.slice a S.length c) S.length (selV p S)) (hn : S.length ≤ 1000000) : PbAt W (selP p S) ta ha a la tc hc c lc :=
  ⟨h.t, h.h, hO.tb (by omega), h.l, h.s1, h.s2⟩
theorem VL4_2 (x0 x1 x2 x3 y : Value) : ∀ k, k < 4 → (if k = 2 then y else VL [x0, x1, x2, x3] k) = VL [x0, x1, y, x3] k := by
  intro k hk
  match k, hk with
  | 0, _ => rfl
  | 1, _ => rfl
  | 2, _ => rfl
  | 3, _ => rfl
end
section
open Go.RowKit

set_option maxRecDepth 100000 in
set_option maxHeartbeats 2000000 in
theorem but_any (p : Pb) (ta ha ba la : Option Addr) (tc hc bc lc : Nat) (ga : Option Addr) (gc : Nat) (Gn : List Nat) (w : World) (hP : PbAt w p ta ha ba la tc hc bc lc) (hG0 : Ints w ga (intsN Gn).length (intsN Gn)) (hb : p.nb ≤ 30) :
  Calls Try.prog 85 #[.agg #[.slice ta p.nt tc, .slice ha p.nh hc, .slice ba p.nb bc, .slice la p.nl lc], .slice ga ((intsN Gn).length) gc] w fun e w' => ∃ a c, e = .returned (.agg #[.slice ta p.nt tc, .slice ha p.nh hc, .slice a (nin p.nb Gn).length c, .slice la p.nl lc]) ∧ PbAt w' (selP p (nin p.nb Gn)) ta ha a la tc hc c lc ∧ Gr w w' := by
 have G := Gr.refl w
 have hpt := hP.t
 have hph := hP.h
 have hpb := hP.b
 have hpl := hP.l
 have hplen := hP.len
 obtain ⟨hn1, hn2, hn3, hn4⟩ := hplen
 have hcp1 := hpt.cap
 have hcp2 := hph.cap
 have hcp3 := hpb.cap
 have hcp4 := hpl.cap
 have hgs := hG0
 refine Y.calls 28 Try.func85 rfl rfl ?_
 intro ac F0
 have F : Fr ac 28 [(0, .agg #[.slice ta p.nt tc, .slice ha p.nh hc, .slice ba p.nb bc, .slice la p.nl lc]), (1, .slice ga ((intsN Gn).length) gc)] := F0.sub _
 clear F0
 refine Y.sl ?_
 refine Y.pv F (X.box rfl (F.ev 0 (.agg #[.slice ta p.nt tc, .slice ha p.nh hc, .slice ba p.nb bc, .slice la p.nl lc])) X.bx) ?_;clear F ac;intro ac F
 have g := Gr.alloc w (.cells #[.slice ta p.nt tc, .slice ha p.nh hc, .slice ba p.nb bc, .slice la p.nl lc] 27)
 have hb := heap_alloc_new w (.cells #[.slice ta p.nt tc, .slice ha p.nh hc, .slice ba p.nb bc, .slice la p.nl lc] 27)
 have hszw3 : w.heap.size < (w.alloc (.cells #[.slice ta p.nt tc, .slice ha p.nh hc, .slice ba p.nb bc, .slice la p.nl lc] 27)).heap.size := by simp
 have hgsw3 : w.heap.size ≤ w.heap.size := G.size
 generalize w.alloc (.cells #[.slice ta p.nt tc, .slice ha p.nh hc, .slice ba p.nb bc, .slice la p.nl lc] 27) = w3 at *
 replace G := G.trans g
 replace hpt := hpt.gr g
 replace hph := hph.gr g
 replace hpb := hpb.gr g
 replace hpl := hpl.gr g
 replace hgs := hgs.gr g
 have hVw3 : OwnP w3 w.heap.size 4 (VL [.slice ta p.nt tc, .slice ha p.nh hc, .slice ba p.nb bc, .slice la p.nl lc]) := ownP_bx (vs := [.slice ta p.nt tc, .slice ha p.nh hc, .slice ba p.nb bc, .slice la p.nl lc]) hb
 clear g hb
 have h2l := hVw3.lt
 refine Y.pv F (Y.al rfl (Try.new27 _)) ?_;clear F ac;intro ac F
 have g := Gr.alloc w3 (.cells #[.slice none 0 0, .slice none 0 0, .slice none 0 0, .slice none 0 0] 27)
 have hb := heap_alloc_new w3 (.cells #[.slice none 0 0, .slice none 0 0, .slice none 0 0, .slice none 0 0] 27)
 have hszw4 : w3.heap.size < (w3.alloc (.cells #[.slice none 0 0, .slice none 0 0, .slice none 0 0, .slice none 0 0] 27)).heap.size := by simp
 have hgsw4 : w.heap.size ≤ w3.heap.size := G.size
 generalize w3.alloc (.cells #[.slice none 0 0, .slice none 0 0, .slice none 0 0, .slice none 0 0] 27) = w4 at *
 replace G := G.trans g
 replace hpt := hpt.gr g
 replace hph := hph.gr g
 replace hpb := hpb.gr g
 replace hpl := hpl.gr g
 replace hgs := hgs.gr g
 replace hVw3 := hVw3.gr g
 have hVw4 : OwnP w4 w3.heap.size 4 (VL [.slice none 0 0, .slice none 0 0, .slice none 0 0, .slice none 0 0]) := ownP_bx (vs := [.slice none 0 0, .slice none 0 0, .slice none 0 0, .slice none 0 0]) hb
 clear g hb
 refine Y.nt F [(1, .slice ga ((intsN Gn).length) gc), (2, Vp w.heap.size), (4, Vp w3.heap.size)] ?_;clear F ac;intro ac F
 refine Y.sg F [(1, .slice ga ((intsN Gn).length) gc), (2, Vp w.heap.size), (4, Vp w3.heap.size), (5, .slice none 0 0)] (Y.pv F (X.assign rfl (X.kc (.slice none 0 0) rfl)) fun ac F=>Y.fin F) ?_;clear F ac;intro ac F
 refine Y.seq ?_
 refine Y.sl ?_
 refine Y.pv F (X.field rfl (F.ev 2 (Vp w.heap.size)) (X.fld Try.underlying27 rfl (Try.siz24 _) rfl rfl)) ?_;clear F ac;intro ac F
 have hC : RCells w4 [(Ad w.heap.size 2, .slice ba p.nb bc)] := (RCells.cons (hVw3.cell (k := 2) (by omega)) (RCells.nil _))
 refine Y.pv3 F (X.load rfl (F.ev 8 (.pointer (some ⟨w.heap.size, 2, none⟩))) (X.ld1 (Try.agg24 _) (hC.at 0 rfl))) (fun _ F=>X.len1 Try.underlying24 rfl (F.ev 9 (.slice ba p.nb bc))) (fun _ F=>X.move rfl (X.kc (Vi 0) rfl)) ?_;clear F ac;intro ac F
 refine Y.nt F [(1, .slice ga ((intsN Gn).length) gc), (2, Vp w.heap.size), (4, Vp w3.heap.size), (5, .slice none 0 0), (9, .slice ba p.nb bc), (10, Vi p.nb), (11, Vi 0)] ?_;clear F ac;intro ac F
 refine Y.block ?_
 have hW1 : w.heap.size ≤ w4.heap.size := G.size
 refine Y.loop (fun me_ ac wr => ∃ (i : Nat) (la9 : Option Addr) (lc9 : Nat), me_ = p.nb - i ∧ Only (fun b => False) w4 wr ∧ i ≤ p.nb ∧ OwnR wr w4.heap.size 65 3 (.slice la9 (nin i Gn).length lc9) (nin i Gn).length (selV p (nin i Gn)) ∧ Fr ac 28 [(1, .slice ga ((intsN Gn).length) gc), (2, Vp w.heap.size), (4, Vp w3.heap.size), (5, .slice la9 ((nin i Gn).length) lc9), (9, .slice ba p.nb bc), (10, Vi p.nb), (11, Vi i)]) _ ⟨0, none, 0, rfl, Only.refl _ _, Nat.zero_le _, OwnR.nil _ _ _ _, F.sub _⟩ ?_
 have hptB1 := hpt
 have hphB1 := hph
 have hpbB1 := hpb
 have hplB1 := hpl
 have hgsB1 := hgs
 have hVw3B1 := hVw3
 have hVw4B1 := hVw4
 have GB1 := G
 have hCB1 := hC
 clear F ac
 intro me_ ac w5 hI
 obtain ⟨i, la9, lc9, rfl, hO1, hi, hRo, F⟩ := hI
 replace G := GB1.trans (hO1.gr (fun _ _ h => h))
 replace hpt := (hP.t).gr G
 replace hph := (hP.h).gr G
 replace hpb := (hP.b).gr G
 replace hpl := (hP.l).gr G
 replace hgs := (hG0).gr G
 replace hVw3 := hVw3B1.only hO1 (fun h => h)
 replace hVw4 := hVw4B1.only hO1 (fun h => h)
 replace hC := (RCells.cons (hO1.cell (hCB1.at 0 rfl) (fun h => h)) (RCells.nil _))
 have hBw := hO1.size
 refine Y.sg F [(1, .slice ga ((intsN Gn).length) gc), (2, Vp w.heap.size), (4, Vp w3.heap.size), (5, .slice la9 ((nin i Gn).length) lc9), (9, .slice ba p.nb bc), (10, Vi p.nb), (11, Vi i), (12, .bool (decide ((i : Int) < p.nb)))] (Y.pv F (X.binop rfl (F.ev 11 (Vi i)) (F.ev 10 (Vi p.nb)) (X.lssI Try.underlying3 rfl)) fun ac F=>Y.fin F) ?_;clear F ac;intro ac F
 refine Y.seq ?_
 cases h6 : decide ((i : Int) < p.nb) with
 | false =>
  try rw [h6] at F
  have h6p : ¬ ((i : Int) < p.nb) := of_decide_eq_false h6
  obtain rfl : i = p.nb := by omega
  have hnl := nin_len (n := p.nb) (r := Gn)
  refine Y.condF (F.ev 12 (.bool false)) ?_
  refine Y.exit ?_
  refine X.thenX (X.thenX (X.blockX (X.thenN ?_)))
  refine Y.sl ?_
  refine Y.pv2 F (X.move rfl (F.ev 5 (.slice la9 ((nin p.nb Gn).length) lc9))) (fun _ F=>X.field rfl (F.ev 2 (Vp w.heap.size)) (X.fld Try.underlying27 rfl (Try.siz24 _) rfl rfl)) ?_;clear F ac;intro ac F
  refine Y.punit F (X.w0 rfl) rfl (X.store rfl (F.ev 26 (.pointer (some ⟨w.heap.size, 2, none⟩))) (F.ev 25 (.slice la9 ((nin p.nb Gn).length) lc9)) (hVw3.st1 (Try.siz24 _) rfl rfl (by decide))) ?_;clear F ac;intro ac F
  have hon := Y.set_only w5 w.heap.size 2 (.slice la9 ((nin p.nb Gn).length) lc9)
  have hV2 := (hVw3.set (k := 2) (.slice la9 ((nin p.nb Gn).length) lc9)).congr (VL4_2 _ _ _ _ _)
  generalize w5.setCell ⟨w.heap.size, 2, none⟩ (.slice la9 ((nin p.nb Gn).length) lc9) = w7 at *
  replace hVw3 : OwnP w7 w.heap.size 4 (VL [.slice ta p.nt tc, .slice ha p.nh hc, .slice la9 ((nin p.nb Gn).length) lc9, .slice la p.nl lc]) := hV2
  clear hV2
  replace G := Y.Only.up G hon (by omega)
  replace hpt := (hP.t).gr G
  replace hph := (hP.h).gr G
  replace hpb := (hP.b).gr G
  replace hpl := (hP.l).gr G
  replace hgs := (hG0).gr G
  replace hVw4 := hVw4.only hon (by show ¬ _ = _; omega)
  replace hRo := hRo.only hon (fun x e h => by have h1 := (hRo.ge e).1; have h2 : x = w.heap.size := h; omega)
  clear hC
  clear hon
  refine Y.nt F [(2, Vp w.heap.size), (4, Vp w3.heap.size)] ?_;clear F ac;intro ac F
  refine Y.sl ?_
  refine Y.pv F (X.load rfl (F.ev 2 (Vp w.heap.size)) (ownP_load hVw3 (Try.agg27 _) (Try.siz27 _) rfl)) ?_;clear F ac;intro ac F
  obtain ⟨w8, hrun, hV2, hon⟩ := ownP_store (P := Try.prog) (vs := [.slice ta p.nt tc, .slice ha p.nh hc, .slice la9 ((nin p.nb Gn).length) lc9, .slice la p.nl lc]) (t := 27) hVw4 rfl (fun W => Try.siz27 W) rfl
  refine Y.punit F (X.w0 rfl) rfl (X.store rfl (F.ev 4 (Vp w3.heap.size)) (F.ev 27 (.agg #[.slice ta p.nt tc, .slice ha p.nh hc, .slice la9 ((nin p.nb Gn).length) lc9, .slice la p.nl lc])) hrun) ?_
  clear F ac hrun
  intro ac F
  replace hVw4 : OwnP w8 w3.heap.size 4 (VL [.slice ta p.nt tc, .slice ha p.nh hc, .slice la9 ((nin p.nb Gn).length) lc9, .slice la p.nl lc]) := hV2
  clear hV2
  replace G := Y.Only.up G hon (by omega)
  replace hpt := (hP.t).gr G
  replace hph := (hP.h).gr G
  replace hpb := (hP.b).gr G
  replace hpl := (hP.l).gr G
  replace hgs := (hG0).gr G
  replace hVw3 := hVw3.only hon (by show ¬ _ = _; omega)
  replace hRo := hRo.only hon (fun x e h => by have h1 := (hRo.ge e).1; have h2 : x = w3.heap.size := h; omega)
  clear hon
  refine Y.nt F [(4, Vp w3.heap.size)] ?_;clear F ac;intro ac F
  refine Y.ret ?_
  exact Y.ret0 F (Y.rcl F rfl (by kernel_rfl) (ownP_load hVw4 (Try.agg27 _) (Try.siz27 _) rfl)) ⟨la9, lc9, rfl, sel_at (hP.gr G) hRo (by omega), G⟩
 | true =>
  try rw [h6] at F
  have h6p : ((i : Int) < p.nb) := of_decide_eq_true h6
  have hi2 : i < p.nb := by omega
  have hnl := nin_len (n := i) (r := Gn)
  refine Y.condT (F.ev 12 (.bool true)) ?_
  refine Y.skip ?_
  refine X.thenN ?_
  refine Y.seq ?_
  refine Y.block ?_
  refine Y.sl ?_
  refine Y.pv F (X.move rfl (F.ev 11 (Vi i))) ?_;clear F ac;intro ac F
  obtain ⟨pd9, pe9, -, pc9⟩ := hpb.at (j := i) (by omega)
  subst pe9
  replace hC := hC.append (show RCells w5 (Y.cs (pd9.add (i * 3)) [Vi (p.bv i 0), Vi (p.bv i 1), Vi (p.bv i 2)]) from (RCells.cons (pc9 0 (by decide)) (RCells.cons (pc9 1 (by decide)) (RCells.cons (pc9 2 (by decide)) (RCells.nil _)))))
  clear pc9
  refine Y.pv4 F (X.index rfl (F.ev 9 (.slice (some pd9) p.nb bc)) (F.ev 11 (Vi i)) (X.idx (k := i) Try.underlying24 (Try.siz65 _) (by omega) (by omega) rfl)) (fun _ F=>X.load rfl (F.ev 14 (.pointer (some (pd9.add (i * 3))))) (X.ldN (Try.agg65 _) (Try.siz65 _) (Y.atz (pd9.add (i * 3)) (Y.AtFrom.cons (hC.at 1 rfl) (Y.AtFrom.cons (hC.at 2 rfl) (Y.AtFrom.cons (hC.at 3 rfl) (Y.AtFrom.nil _ _ _))))))) (fun _ F=>Y.al rfl (Try.new65 _)) (fun _ F=>X.assign rfl (F.ev 13 (Vi i))) ?_;clear F ac;intro ac F
  refine Y.punit F (X.w0 rfl) rfl (X.store rfl (F.ev 7 (Vp w5.heap.size)) (F.ev 15 (.agg #[Vi (p.bv i 0), Vi (p.bv i 1), Vi (p.bv i 2)])) (Y.stNew [Vi (p.bv i 0), Vi (p.bv i 1), Vi (p.bv i 2)] [Vi 0, Vi 0, Vi 0] (Try.siz65 _) rfl rfl)) ?_;clear F ac;intro ac F
  have hgs10 : w.heap.size ≤ w5.heap.size := G.size
  obtain ⟨w11, hw_, g, hb, hbl, hC2⟩ := Y.bxd hC #[Vi (p.bv i 0), Vi (p.bv i 1), Vi (p.bv i 2)] 65;rw [hw_];clear hw_
  replace G := G.trans g
  replace hC := hC2
  clear hC2
  replace hO1 := hO1.thenGr g
  replace hpt := hpt.gr g
  replace hph := hph.gr g
  replace hpb := hpb.gr g
  replace hpl := hpl.gr g
  replace hgs := hgs.gr g
  replace hVw3 := hVw3.gr g
  replace hVw4 := hVw4.gr g
  replace hRo := hRo.gr g
  clear g hb hbl
  refine Y.nt F [(1, .slice ga ((intsN Gn).length) gc), (2, Vp w.heap.size), (4, Vp w3.heap.size), (5, .slice la9 ((nin i Gn).length) lc9), (6, Vi i), (7, Vp w5.heap.size), (9, .slice (some pd9) p.nb bc), (10, Vi p.nb), (11, Vi i)] ?_;clear F ac;intro ac F
  refine Y.sl ?_
  refine Y.pv2 F (X.move rfl (F.ev 1 (.slice ga ((intsN Gn).length) gc))) (fun _ F=>X.move rfl (F.ev 6 (Vi i))) ?_;clear F ac;intro ac F
  refine Y.pc F 80 (X.a2 (F.ev 16 (.slice ga ((intsN Gn).length) gc)) (F.ev 17 (Vi i))) Try.func80 (by have hq := contains_any ga gc (intsN Gn) (i : Int) w11 hgs; rw [uses_c] at hq; exact hq) ?_
  clear F ac
  rintro e w12 ⟨rfl, g⟩
  refine ⟨_, rfl, ?_⟩
  intro ac F
  replace G := G.trans g
  replace hC := hC.gr g
  replace hO1 := hO1.thenGr g
  replace hpt := hpt.gr g
  replace hph := hph.gr g
  replace hpb := hpb.gr g
  replace hpl := hpl.gr g
  replace hgs := hgs.gr g
  replace hVw3 := hVw3.gr g
  replace hVw4 := hVw4.gr g
  replace hRo := hRo.gr g
  clear g
  refine Y.pv F (X.notB rfl (F.ev 18 (.bool (Gn.contains i))) rfl) ?_;clear F ac;intro ac F
  refine Y.nt F [(1, .slice ga ((intsN Gn).length) gc), (2, Vp w.heap.size), (4, Vp w3.heap.size), (5, .slice la9 ((nin i Gn).length) lc9), (7, Vp w5.heap.size), (9, .slice (some pd9) p.nb bc), (10, Vi p.nb), (11, Vi i), (19, .bool (!(Gn.contains i)))] ?_;clear F ac;intro ac F
  cases h13 : Gn.contains i with
  | false =>
   try rw [h13] at F
   refine Y.condT (F.ev 19 (.bool true)) ?_
   refine Y.lit (by kernel_rfl) ?_
   refine Y.pv3 F (X.move rfl (F.ev 5 (.slice la9 ((nin i Gn).length) lc9))) (fun _ F=>X.load rfl (F.ev 7 (Vp w5.heap.size)) (X.ldN (Try.agg65 _) (Try.siz65 _) (Y.atz (⟨w5.heap.size, 0, none⟩) (Y.AtFrom.cons (hC.at 4 rfl) (Y.AtFrom.cons (hC.at 5 rfl) (Y.AtFrom.cons (hC.at 6 rfl) (Y.AtFrom.nil _ _ _))))))) (fun _ F=>X.bs rfl (X.b1 (F.ev 21 (.agg #[Vi (p.bv i 0), Vi (p.bv i 1), Vi (p.bv i 2)]))) (Try.bs24_1 _ _ _ _)) ?_;clear F ac;intro ac F
   have g := Gr.alloc w12 (.cells #[Vi (p.bv i 0), Vi (p.bv i 1), Vi (p.bv i 2)] 65)
   have hg9 := heap_alloc_new w12 (.cells #[Vi (p.bv i 0), Vi (p.bv i 1), Vi (p.bv i 2)] 65)
   generalize w12.alloc (.cells #[Vi (p.bv i 0), Vi (p.bv i 1), Vi (p.bv i 2)] 65) = w14 at *
   replace G := G.trans g
   replace hC := hC.gr g
   replace hO1 := hO1.thenGr g
   replace hpt := hpt.gr g
   replace hph := hph.gr g
   replace hpb := hpb.gr g
   replace hpl := hpl.gr g
   replace hgs := hgs.gr g
   replace hVw3 := hVw3.gr g
   replace hVw4 := hVw4.gr g
   replace hRo := hRo.gr g
   clear g
   refine Y.wpL_plain rfl fun _ hK => wp_pushV Try.underlying24 Try.info65 rfl (by decide) rfl (F.ev 20 (.slice la9 ((nin i Gn).length) lc9)) (F.ev 22 (.slice (some ⟨w12.heap.size, 0, none⟩) 1 1)) hRo (m := 1) (news := [Vi (p.bv i 0), Vi (p.bv i 1), Vi (p.bv i 2)]) rfl (cells_at (vs := [Vi (p.bv i 0), Vi (p.bv i 1), Vi (p.bv i 2)]) hg9) rfl (by omega) (by decide) hO1.size (fun v2 w15 hO3 hon hat => hK _ _ ?_)
   refine Y.pput F rfl ?_;clear F ac;intro ac F
   clear hK hg9
   obtain ⟨la3, lc3, rfl⟩ := hO3.form
   have hRo3 := hO3
   have hgR : ∀ b, (Value.slice la9 (nin i Gn).length lc9).ownBlock = some b → w4.heap.size ≤ b := fun b e => (hRo.ge e).1
   replace G := OnlyG G hon (fun b e => Nat.le_trans hW1 (hgR b e))
   replace hO1 := hO1.step2 hon (fun r e => .inr (hgR r e))
   replace hVw3 := hVw3.only hon (fun e => by have := hgR _ e; omega)
   replace hVw4 := hVw4.only hon (fun e => by have := hgR _ e; omega)
   clear hRo hon hC hgR
   refine Y.pv F (X.assign rfl (F.ev 23 (.slice la3 ((nin i Gn).length + 1) lc3))) ?_;clear F ac;intro ac F
   refine Y.nil ?_
   replace F : Fr ac 28 [(1, .slice ga ((intsN Gn).length) gc), (2, Vp w.heap.size), (4, Vp w3.heap.size), (5, .slice la3 ((nin i Gn).length + 1) lc3), (9, .slice (some pd9) p.nb bc), (10, Vi p.nb), (11, Vi i)] := F.sub _
   refine X.blockN (X.thenN ?_)
   refine Y.lg F [(1, .slice ga ((intsN Gn).length) gc), (2, Vp w.heap.size), (4, Vp w3.heap.size), (5, .slice la3 ((nin i Gn).length + 1) lc3), (9, .slice (some pd9) p.nb bc), (10, Vi p.nb), (11, Vi ((i : Int) + 1))] (by
    refine Y.pv F (X.binop rfl (F.ev 11 (Vi i)) (X.kc (Vi 1) rfl) (X.addI Try.underlying3 rfl (by omega) (by omega))) fun ac F=>?_
    refine Y.pv F (X.move rfl (F.ev 24 (Vi ((i : Int) + 1)))) fun ac F=>?_
    exact Y.fin F) ?_;clear F ac;intro ac F
   refine ⟨_, ?_, i + 1, la3, lc3, rfl, hO1, by omega, by rw [nin_n h13, List.length_append, selV_snoc]; exact hRo3, (by rw [nin_n h13, List.length_append]; exact F.sub _)⟩
   omega
  | true =>
   try rw [h13] at F
   refine Y.condF (F.ev 19 (.bool false)) ?_
   refine Y.skip ?_
   refine X.blockN (X.thenN ?_)
   refine Y.lg F [(1, .slice ga ((intsN Gn).length) gc), (2, Vp w.heap.size), (4, Vp w3.heap.size), (5, .slice la9 ((nin i Gn).length) lc9), (9, .slice (some pd9) p.nb bc), (10, Vi p.nb), (11, Vi ((i : Int) + 1))] (by
    refine Y.pv F (X.binop rfl (F.ev 11 (Vi i)) (X.kc (Vi 1) rfl) (X.addI Try.underlying3 rfl (by omega) (by omega))) fun ac F=>?_
    refine Y.pv F (X.move rfl (F.ev 24 (Vi ((i : Int) + 1)))) fun ac F=>?_
    exact Y.fin F) ?_;clear F ac;intro ac F
   refine ⟨_, ?_, i + 1, la9, lc9, rfl, hO1, by omega, by rw [nin_y h13]; exact hRo, (by rw [nin_y h13]; exact F.sub _)⟩
   omega
end
section
open Go.RowKit

set_option maxRecDepth 100000 in
set_option maxHeartbeats 2000000 in
theorem possible_any (p : Pb) (ta ha ba la : Option Addr) (tc hc bc lc : Nat) (hp : PbOk p) (w : World) (hP : PbAt w p ta ha ba la tc hc bc lc) :
  Calls Try.prog 84 #[.agg #[.slice ta p.nt tc, .slice ha p.nh hc, .slice ba p.nb bc, .slice la p.nl lc]] w fun e w' => e = .returned (.bool (posB p)) ∧ Gr w w' := by
 have G := Gr.refl w
 have hpt := hP.t
 have hph := hP.h
 have hpb := hP.b
 have hpl := hP.l
 have hplen := hP.len
 obtain ⟨hn1, hn2, hn3, hn4⟩ := hplen
 have hcp1 := hpt.cap
 have hcp2 := hph.cap
 have hcp3 := hpb.cap
 have hcp4 := hpl.cap
 refine Y.calls 19 Try.func84 rfl rfl ?_
 intro ac F0
 have F : Fr ac 19 [(0, .agg #[.slice ta p.nt tc, .slice ha p.nh hc, .slice ba p.nb bc, .slice la p.nl lc])] := F0.sub _
 clear F0
 refine Y.sl ?_
 have hgs3 : w.heap.size ≤ w.heap.size := G.size
 refine Y.pv F (X.box rfl (F.ev 0 (.agg #[.slice ta p.nt tc, .slice ha p.nh hc, .slice ba p.nb bc, .slice la p.nl lc])) X.bx) ?_;clear F ac;intro ac F
 have hgs5 : w.heap.size ≤ w.heap.size := G.size
 obtain ⟨w6, hw_, g, hb, hbl, hC2⟩ := Y.bxd (RCells.nil w) #[.slice ta p.nt tc, .slice ha p.nh hc, .slice ba p.nb bc, .slice la p.nl lc] 27;rw [hw_];clear hw_
 replace G := G.trans g
 have hC := hC2
 clear hC2
 replace hpt := hpt.gr g
 replace hph := hph.gr g
 replace hpb := hpb.gr g
 replace hpl := hpl.gr g
 have hsz4 := hbl
 clear g hb hbl
 refine Y.pv F (Y.al rfl (Try.new4 _)) ?_;clear F ac;intro ac F
 have hbl7 : w.heap.size < w6.heap.size := lt_cell (hC.at 0 rfl)
 have g := Gr.alloc w6 (.cells #[.bool false] 4)
 have hb := heap_alloc_new w6 (.cells #[.bool false] 4)
 have hszw8 : w6.heap.size < (w6.alloc (.cells #[.bool false] 4)).heap.size := by simp
 have hgsw8 : w.heap.size ≤ w6.heap.size := G.size
 generalize w6.alloc (.cells #[.bool false] 4) = w8 at *
 replace G := G.trans g
 replace hC := hC.gr g
 replace hpt := hpt.gr g
 replace hph := hph.gr g
 replace hpb := hpb.gr g
 replace hpl := hpl.gr g
 have hVw8 : OwnP w8 w6.heap.size 1 (fun _ => .bool false) := ownP_1 hb
 clear g hb
 refine Y.nt F [(1, Vp w.heap.size), (2, Vp w6.heap.size)] ?_;clear F ac;intro ac F
 refine Y.seq ?_
 refine Y.sl ?_
 refine Y.pv F (X.load rfl (F.ev 1 (Vp w.heap.size)) (X.ldN (Try.agg27 _) (Try.siz27 _) (Y.atz (⟨w.heap.size, 0, none⟩) (Y.AtFrom.cons (hC.at 0 rfl) (Y.AtFrom.cons (hC.at 1 rfl) (Y.AtFrom.cons (hC.at 2 rfl) (Y.AtFrom.cons (hC.at 3 rfl) (Y.AtFrom.nil _ _ _)))))))) ?_;clear F ac;intro ac F
 refine Y.pc F 69 (X.a1 (F.ev 4 (.agg #[.slice ta p.nt tc, .slice ha p.nh hc, .slice ba p.nb bc, .slice la p.nl lc]))) Try.func69 (nodes_any p ta ha ba la tc hc bc lc w8) ?_
 clear F ac
 have hpre9 := G.size
 rintro e w9 ⟨bn10, rfl, hbn9, hcn, g⟩
 refine ⟨_, rfl, ?_⟩
 intro ac F
 replace G := G.trans g
 replace hC := hC.gr g
 replace hpt := hpt.gr g
 replace hph := hph.gr g
 replace hpb := hpb.gr g
 replace hpl := hpl.gr g
 replace hVw8 := hVw8.gr g
 clear g
 replace hC := hC.append (show RCells w9 (bcells bn10 [.slice ta p.nt tc, .slice ha p.nh hc, .slice ba p.nb bc, .slice la p.nl lc] 0) from (RCells.cons (hcn.at 0 rfl) (RCells.cons (hcn.at 1 rfl) (RCells.cons (hcn.at 2 rfl) (RCells.cons (hcn.at 3 rfl) (RCells.nil _))))))
 refine Y.nt F [(1, Vp w.heap.size), (2, Vp w6.heap.size), (5, .func (.func 102) #[] #[Vp bn10])] ?_;clear F ac;intro ac F
 refine Y.block ?_
 obtain ⟨r2, hr2e⟩ : ∃ x, x = w6.heap.size := ⟨_, rfl⟩
 rw [← hr2e] at F hVw8
 replace F : Fr ac 19 [(1, Vp w.heap.size), (2, Vp r2), (5, .func (.func 102) #[] #[Vp bn10])] := F.sub _
 have hgw := G.size
 have hCn : RCells w9 (PbC p ta ha ba la tc hc bc lc bn10) := (RCells.cons (hC.at 4 rfl) (RCells.cons (hC.at 5 rfl) (RCells.cons (hC.at 6 rfl) (RCells.cons (hC.at 7 rfl) (RCells.nil _)))))
 have hzl11 : bn10 < w9.heap.size := lt_cell (hC.at 4 rfl)
 have hzl12 : w.heap.size < w9.heap.size := lt_cell (hC.at 0 rfl)
 have hzy13 : r2 < w9.heap.size := hVw8.lt
 have hPb : ∀ W, Only (fun b => b = r2) w9 W → PbAt W p ta ha ba la tc hc bc lc ∧ RCells W (PbC p ta ha ba la tc hc bc lc bn10) := fun W h => ⟨hP.gr (Y.Only.up G h (by omega)), hCn.only h (fun q hq e => by
  simp [PbC] at hq
  rcases hq with rfl | rfl | rfl | rfl <;> (first | omega | (simp only at e; omega)))⟩
 have hK0 : PosK r2 () (fun b => b = r2) (fun _ => False) w9 := ⟨hVw8, rfl, rfl⟩
 have hr2l := hVw8.lt
 have hCl := hC
 have Gl := G
 refine Y.ndRange (D := []) (p := p) (ta := ta) (ha := ha) (ba := ba) (la := la) (tc := tc) (hc := hc) (bc := bc) (lc := lc) (bp := bn10) F (by decide) (by decide) rfl rfl rfl rfl rfl rfl rfl (F.ev 5 _) hp (fun b => b = r2) (fun b e => by first | omega | (first | omega | (simp only at e; omega))) hPb (posT p) (()) (PosK r2) (fun b => b = r2) (fun _ => False) hK0 (fun b e => by exact e) (fun s O Kp W h => h.lt) (fun s O Kp W W2 h g => h.gr g) (fun s O Kp W W2 h h2 g => h.only (fun b e => by first | omega | (simp only at e; omega)) h2 g) (PosX r2 w9) (fun _ _ _ h => h.put hr2l) ?_ ?_ ?_
 ·intro ss O Kp xs a c d b w14 ac hQ hK hOs hlen hx hBeg hdg hdO hdK haO had hD hbg hbd hbO hbK hab hN F
  clear G hC
  have hPW := (hPb w14 hQ).1
  have G := Gr.refl w14
  have hsw := hQ.size
  have hC : RCells w14 [(Ad w.heap.size 0, .slice ta p.nt tc), (Ad w.heap.size 1, .slice ha p.nh hc), (Ad w.heap.size 2, .slice ba p.nb bc), (Ad w.heap.size 3, .slice la p.nl lc), (Ad bn10 0, .slice ta p.nt tc), (Ad bn10 1, .slice ha p.nh hc), (Ad bn10 2, .slice ba p.nb bc), (Ad bn10 3, .slice la p.nl lc), (Ad b 0, .slice a xs.length c), (Ad b 1, .bool (hopeB p (tim p) xs)), (Ad b 2, Vi (bndV p xs)), (Ad b 3, Vp d)] := (RCells.cons (hQ.cell (hCl.at 0 rfl) (by simp only; omega)) (RCells.cons (hQ.cell (hCl.at 1 rfl) (by simp only; omega)) (RCells.cons (hQ.cell (hCl.at 2 rfl) (by simp only; omega)) (RCells.cons (hQ.cell (hCl.at 3 rfl) (by simp only; omega)) (RCells.cons (hQ.cell (hCl.at 4 rfl) (by simp only; omega)) (RCells.cons (hQ.cell (hCl.at 5 rfl) (by simp only; omega)) (RCells.cons (hQ.cell (hCl.at 6 rfl) (by simp only; omega)) (RCells.cons (hQ.cell (hCl.at 7 rfl) (by simp only; omega)) hN))))))))
  replace hpt := hPW.t
  replace hph := hPW.h
  replace hpb := hPW.b
  replace hpl := hPW.l
  replace F : Fr ac 19 [(1, Vp w.heap.size), (2, Vp r2), (3, Vp b), (5, .func (.func 102) #[] #[Vp bn10]), (6, .agg #[.slice a xs.length c, .bool (hopeB p (tim p) xs), Vi (bndV p xs), Vp d])] := F.sub _
  obtain ⟨hPr, rfl, rfl⟩ := hK
  refine Y.block ?_
  refine Y.sl ?_
  refine Y.pv4 F (X.field rfl (F.ev 3 (Vp b)) (X.fld Try.underlying102 rfl (Try.siz4 _) rfl rfl)) (fun _ F=>X.load rfl (F.ev 7 (.pointer (some ⟨b, 1, none⟩))) (X.ld1 (Try.agg4 _) (hC.at 9 rfl))) (fun _ F=>X.notB rfl (F.ev 8 (.bool (hopeB p (tim p) xs))) rfl) (fun _ F=>X.move rfl (F.ev 9 (.bool (!(hopeB p (tim p) xs))))) ?_;clear F ac;intro ac F
  cases h15 : hopeB p (tim p) xs with
  | false =>
   try rw [h15] at F
   refine Y.pg F 3 10 true (X.field rfl (F.ev 3 (Vp b)) (X.fld Try.underlying102 rfl (Try.siz34 _) rfl rfl)) ?_;clear F ac;intro ac F
   refine Y.pg F 3 10 true (X.load rfl (F.ev 11 (Vp b)) (X.ld1 (Try.agg34 _) (hC.at 8 rfl))) ?_;clear F ac;intro ac F
   refine Y.pg F 3 10 true (X.len1 Try.underlying34 rfl (F.ev 12 (.slice a xs.length c))) ?_;clear F ac;intro ac F
   refine Y.pg F 3 10 true (X.field rfl (F.ev 1 (Vp w.heap.size)) (X.fld Try.underlying27 rfl (Try.siz22 _) rfl rfl)) ?_;clear F ac;intro ac F
   refine Y.pg F 3 10 true (X.load rfl (F.ev 14 (Vp w.heap.size)) (X.ld1 (Try.agg22 _) (hC.at 0 rfl))) ?_;clear F ac;intro ac F
   refine Y.pg F 3 10 true (X.len1 Try.underlying22 rfl (F.ev 15 (.slice ta p.nt tc))) ?_;clear F ac;intro ac F
   refine Y.pg F 3 10 true (X.binop rfl (F.ev 13 (Vi xs.length)) (F.ev 16 (Vi p.nt)) (X.eqlI Try.underlying3 rfl)) ?_;clear F ac;intro ac F
   refine Y.pv F (X.pickT rfl (F.ev 10 (.bool true)) (F.ev 17 (.bool ((xs.length : Int) == p.nt)))) ?_;clear F ac;intro ac F
   refine Y.nt F [(1, Vp w.heap.size), (2, Vp r2), (18, .bool ((xs.length : Int) == p.nt))] ?_;clear F ac;intro ac F
   cases h16 : ((xs.length : Int) == p.nt) with
   | false =>
    try rw [h16] at F
    have h16p : ¬ (xs.length : Int) = p.nt := by simpa using h16
    refine Y.condF (F.ev 18 (.bool false)) ?_
    refine Y.skip ?_
    refine X.blockN ?_
    have est : posT p ss xs = _ := posT_n (by omega)
    refine ⟨G.only _, ?_, ?_, ?_⟩
    ·exact ⟨_, _, ⟨hPr, rfl, rfl⟩, fun b e => .inl e⟩
    ·rw [est]; exact hD
    ·rw [est]
   | true =>
    try rw [h16] at F
    have h16p : (xs.length : Int) = p.nt := by simpa using h16
    refine Y.condT (F.ev 18 (.bool true)) ?_
    refine Y.sl ?_
    refine Y.punit F (X.w0 rfl) rfl (X.store rfl (F.ev 2 (Vp r2)) (X.kc (.bool true) rfl) (hPr.st1 (Try.siz4 _) rfl rfl (by decide))) ?_;clear F ac;intro ac F
    have hon := Y.set_only w14 r2 0 (.bool true)
    have hPr2 := (hPr.set (k := 0) (.bool true)).congr (val' := fun _ => .bool true) (fun k hk => if_pos (by omega))
    have hOn2 := (G.only (fun x => x = r2 ∨ x = d)).trans (hon.mono' (fun i e => .inl e))
    have hOn4 := hQ.step2 ((G.only (fun x => x = r2)).trans hon) (fun r e => .inl e)
    generalize w14.setCell ⟨r2, 0, none⟩ (.bool true) = w17 at *
    clear G hC
    refine Y.nt F [(2, Vp r2)] ?_;clear F ac;intro ac F
    refine Y.ret ?_
    refine X.blockR ?_
    have est : posT p ss xs = _ := posT_y h15 (by omega)
    exact ⟨hOn2, ⟨rfl, hOn4, hPr2⟩, by rw [est]⟩
  | true =>
   try rw [h15] at F
   refine Y.ps F 3 10 false ?_;clear F ac;intro ac F
   refine Y.ps F 3 10 false ?_;clear F ac;intro ac F
   refine Y.ps F 3 10 false ?_;clear F ac;intro ac F
   refine Y.ps F 3 10 false ?_;clear F ac;intro ac F
   refine Y.ps F 3 10 false ?_;clear F ac;intro ac F
   refine Y.ps F 3 10 false ?_;clear F ac;intro ac F
   refine Y.ps F 3 10 false ?_;clear F ac;intro ac F
   refine Y.pv F (X.pickF rfl (F.ev 10 (.bool false)) (X.kc (.bool false) rfl)) ?_;clear F ac;intro ac F
   refine Y.nt F [(1, Vp w.heap.size), (2, Vp r2), (18, .bool false)] ?_;clear F ac;intro ac F
   refine Y.condF (F.ev 18 (.bool false)) ?_
   refine Y.skip ?_
   refine X.blockN ?_
   have est : posT p ss xs = _ := posT_h h15
   refine ⟨G.only _, ?_, ?_, ?_⟩
   ·exact ⟨_, _, ⟨hPr, rfl, rfl⟩, fun b e => .inl e⟩
   ·rw [est]; exact hD
   ·rw [est]
 ·intro ss O Kp w18 ac hV hQ hK hOs hmk F
  clear G hC
  have hmk := hmk
  have hsw := hQ.size
  have G : Gr w w18 := (Y.Only.up Gl hQ (by omega))
  have hC := (RCells.cons (hQ.cell (hCl.at 0 rfl) (by simp only; omega)) (RCells.cons (hQ.cell (hCl.at 1 rfl) (by simp only; omega)) (RCells.cons (hQ.cell (hCl.at 2 rfl) (by simp only; omega)) (RCells.cons (hQ.cell (hCl.at 3 rfl) (by simp only; omega)) (RCells.cons (hQ.cell (hCl.at 4 rfl) (by simp only; omega)) (RCells.cons (hQ.cell (hCl.at 5 rfl) (by simp only; omega)) (RCells.cons (hQ.cell (hCl.at 6 rfl) (by simp only; omega)) (RCells.cons (hQ.cell (hCl.at 7 rfl) (by simp only; omega)) (RCells.nil _)))))))))
  replace hpt := (hP.t).gr G
  replace hph := (hP.h).gr G
  replace hpb := (hP.b).gr G
  replace hpl := (hP.l).gr G
  obtain ⟨hr2, -, -⟩ := hK
  have hpos : posB p = false := by have h9 := vis_pos (p := p); rw [hV] at h9; simpa using h9
  have hfin := Only.refl (fun b => b = r2) w18
  refine X.blockN (X.thenN ?_)
  refine Y.sl ?_
  refine Y.punit F (X.w0 rfl) rfl (X.store rfl (F.ev 2 (Vp r2)) (X.kc (.bool false) rfl) (hr2.st1 (Try.siz4 _) rfl rfl (by omega))) ?_;clear F ac;intro ac F
  have hon := Y.set_only w18 r2 0 (.bool false)
  have hV2 := hr2.set (k := 0) (.bool false)
  replace hV2 := hV2.congr (val' := fun _ => .bool false) (fun k hk => if_pos (by omega))
  generalize w18.setCell ⟨r2, 0, none⟩ (.bool false) = w19 at *
  replace hr2 : OwnP w19 r2 1 (fun _ => .bool false) := hV2
  clear hV2
  replace hmk := (hon.block _ (Array.getElem?_eq_some_iff.1 hmk).1 (by first | omega | (simp only; omega))).trans hmk
  replace G := Y.Only.up G hon (by omega)
  replace hpt := (hP.t).gr G
  replace hph := (hP.h).gr G
  replace hpb := (hP.b).gr G
  replace hpl := (hP.l).gr G
  replace hC := (hC.kc hon 0 rfl (hC.kc hon 1 rfl (hC.kc hon 2 rfl (hC.kc hon 3 rfl (hC.kc hon 4 rfl (hC.kc hon 5 rfl (hC.kc hon 6 rfl (hC.kc hon 7 rfl (RCells.nil _)))))))))
  clear hon
  refine Y.nt F [(2, Vp r2)] ?_;clear F ac;intro ac F
  refine Y.ret ?_
  refine ret_mark F hmk (Y.rcl F rfl (by kernel_rfl) (X.ld1 (Try.agg4 _) ((hr2.only (putObj_only _ _ _) (by omega)).cell (k := 0) (by decide)))) (fun W2 hW2 => ?_)
  exact ⟨by rw [hpos], Y.Only.up G hW2 (by omega)⟩
 ·rintro c W A9 hv ⟨rfl, hon9, hr9⟩ hmk F
  have hpos : posB p = true := by have h9 := vis_pos (p := p); rw [hv] at h9; simpa using h9.symm
  refine Y.ret ?_
  refine X.blockR (X.thenR ?_)
  refine ret_mark F hmk (Y.rcl F rfl (by kernel_rfl) (X.ld1 (Try.agg4 _) ((hr9.only (putObj_only _ _ _) (by omega)).cell (k := 0) (by decide)))) (fun W2 hW2 => ?_)
  exact ⟨by rw [hpos], Y.Only.up (Y.Only.up Gl hon9 (by omega)) hW2 (by have := Gl.size; omega)⟩
end
section
open Go.RowKit

theorem OwnR.intsS {W : World} {B c : Nat} {a : Option Addr} {xs : List Int} (h : OwnR W B 3 1 (.slice a xs.length c) xs.length (xs.map (Value.int .i64))) (hl : xs.length < 1152921504606846976) : Ints W a xs.length xs := by
  obtain ⟨a', c', e, h'⟩ := h.ints hl
  injection e with e
  subst e; exact h'
theorem large_far {p : Pb} (h : largeB p = false) : farB p = false := by
  cases e : farB p with
  | false => rfl
  | true => unfold largeB at h; rw [e] at h; cases h
theorem large_sz {p : Pb} (h : largeB p = false) : SmlP p := far_sz (large_far h)
theorem large_pl {p : Pb} (h : largeB p = false) : chkE p = 0 → p.nt ≤ 5 ∧ p.nh ≤ 4 := fun hc => by
  simp [largeB, hc] at h
  omega
end
section
set_option linter.unusedVariables false
open Go.RowKit
def confE (p : Pb) : Int := if ¬ chkE p = 0 then chkE p else if posB p then 3 else 0
def confK (p : Pb) : List Nat := if confE p = 0 then (conS p p.nb).2 else []
section
variable {p : Pb} {i : Nat} {Gn Ho : List Nat}
theorem conf_1 (h : ¬ chkE p = 0) : confE p = chkE p ∧ confK p = [] := by
  have e : confE p = chkE p := if_pos h
  exact ⟨e, by unfold confK; rw [e, if_neg h]⟩
theorem conf_2 (h : chkE p = 0) (k : posB p = true) : confE p = 3 ∧ confK p = [] := by
  have e : confE p = 3 := by unfold confE; rw [if_neg (by rw [h]; decide), if_pos k]
  exact ⟨e, by unfold confK; rw [e]; rfl⟩
theorem conf_3 (h : chkE p = 0) (k : posB p = false) : confE p = 0 ∧ confK p = (conS p p.nb).2 := by
  have e : confE p = 0 := by unfold confE; rw [if_neg (by rw [h]; decide), if_neg (by rw [k]; decide)]
  exact ⟨e, by unfold confK; rw [e]; rfl⟩
theorem con_y (h : conS p i = (Gn, Ho)) (k : posB (selP p (nin p.nb (Gn ++ [i]))) = true) : conS p (i + 1) = (Gn, Ho ++ [i]) := by
  rw [conS, h]; exact if_pos k
theorem con_n (h : conS p i = (Gn, Ho)) (k : posB (selP p (nin p.nb (Gn ++ [i]))) = false) : conS p (i + 1) = (Gn ++ [i], Ho) := by
  rw [conS, h]; exact if_neg (by rw [k]; decide)
theorem con_lt (h : conS p i = (Gn, Ho)) : Gn.length + Ho.length = i := by have := con_len (p := p) i; rw [h] at this; exact this
end
/-- a row of numbers of bonds, of the call's own -/
def NrR (W : World) (B : Nat) (a : Option Addr) (c : Nat) (G : List Nat) : Prop := OwnR W B 3 1 (.slice a (intsN G).length c) (intsN G).length ((intsN G).map (Value.int .i64))
section
variable {W W' : World} {B c i : Nat} {a : Option Addr} {G : List Nat}
theorem NrR.gr (h : NrR W B a c G) (g : Gr W W') : NrR W' B a c G := OwnR.gr h g
theorem NrR.nil (W : World) (B : Nat) : NrR W B none 0 [] := OwnR.nil W B 3 1
theorem NrR.ints (h : NrR W B a c G) (hl : G.length ≤ 100000) : Ints W a (intsN G).length (intsN G) := OwnR.intsS h (by rw [intsN_len]; omega)
theorem NrR.lt (h : NrR W B a c G) : ∀ ad, a = some ad → ad.block < W.heap.size := fun ad e => (OwnR.ge h (b := ad.block) (by rw [e]; rfl)).2
theorem NrR.nul (h : NrR W B a c G) : a = none → (intsN G).length = 0 ∧ c = 0 := fun e => by
  rcases OwnR.shape h with ⟨h1, h2⟩ | ⟨g, c2, h1, _⟩
  · injection h1 with _ _ h3; exact ⟨h2, h3⟩
  · injection h1 with h1; rw [e] at h1; cases h1
theorem NrR.snoc {a2 : Option Addr} {c2 : Nat} (h : OwnR W B 3 1 (.slice a2 ((intsN G).length + 1) c2) ((intsN G).length + 1) ((intsN G).map (Value.int .i64) ++ [.int .i64 i])) : NrR W B a2 c2 (G ++ [i]) := by
  unfold NrR
  rw [intsN_app, List.length_append, List.map_append]
  exact h
end
/-- a region that copies a row (b), makes a row of one (c), appends it (d), and calls with what it has (e) -/
structure RC4 (w : World) (b c d e : Nat) (Tb Tc Td Te : Value → World → Prop) (done : Nat → Bool) (u : Nat → Value) (W : World) : Prop where
  g : Gr w W
  gb : done b = true → done d = false → Tb (u b) W
  gc : done c = true → done d = false → Tc (u c) W
  gd : done d = true → done e = false → Td (u d) W
  ge : done e = true → Te (u e) W
section
variable {w W W' : World} {b c d e i : Nat} {Tb Tc Td Te : Value → World → Prop} {done : Nat → Bool} {u : Nat → Value} {v : Value}
theorem ne4b (h : ne4 b c d e = true) : b ≠ c ∧ b ≠ d ∧ b ≠ e ∧ c ≠ d ∧ c ≠ e ∧ d ≠ e := ne4_all h
theorem RC4.start {u : Nat → Value} (g : Gr w W) : RC4 w b c d e Tb Tc Td Te (fun _ => false) u W := ⟨g, fun h => by simp at h, fun h => by simp at h, fun h => by simp at h, fun h => by simp at h⟩
theorem RC4.step (h : RC4 w b c d e Tb Tc Td Te done u W) (hu : UpV Tb ∧ UpV Tc ∧ UpV Td ∧ UpV Te) (g : Gr W W') (hd : i ≠ d) (he : i ≠ e)
    (hb : i = b → Tb v W') (hc : i = c → Tc v W') : RC4 w b c d e Tb Tc Td Te (upd done i) (fun j => if j = i then v else u j) W' := by
  obtain ⟨ub, uc, ud, ue⟩ := hu
  have ed := upd_ne (done := done) (Ne.symm hd)
  have ee := upd_ne (done := done) (Ne.symm he)
  have eu : ∀ j, j ≠ i → (upd done i j = done j ∧ (if j = i then v else u j) = u j) := fun j hj => ⟨upd_ne hj, if_neg hj⟩
  refine ⟨h.g.trans g, fun k0 k1 => ?_, fun k0 k1 => ?_, fun k0 k1 => ?_, fun k0 => ?_⟩
  · rw [ed] at k1
    by_cases x : b = i
    · simp only [x, if_true]; exact hb x.symm
    · obtain ⟨x1, x2⟩ := eu b x
      rw [x1] at k0; simp only [x2]
      exact ub _ _ _ (h.gb k0 k1) g
  · rw [ed] at k1
    by_cases x : c = i
    · simp only [x, if_true]; exact hc x.symm
    · obtain ⟨x1, x2⟩ := eu c x
      rw [x1] at k0; simp only [x2]
      exact uc _ _ _ (h.gc k0 k1) g
  · rw [ed] at k0; rw [ee] at k1
    simp only [if_neg (Ne.symm hd)]
    exact ud _ _ _ (h.gd k0 k1) g
  · rw [ee] at k0
    simp only [if_neg (Ne.symm he)]
    exact ue _ _ _ (h.ge k0) g
theorem RC4.quiet (h : RC4 w b c d e Tb Tc Td Te done u W) (hu : UpV Tb ∧ UpV Tc ∧ UpV Td ∧ UpV Te) (g : Gr W W') (hi : (i == b || i == c || i == d || i == e) = false) : RC4 w b c d e Tb Tc Td Te (upd done i) (fun j => if j = i then v else u j) W' := by
  simp only [Bool.or_eq_false_iff, beq_eq_false_iff_ne] at hi
  obtain ⟨⟨⟨h2, h3⟩, h4⟩, h5⟩ := hi
  exact h.step hu g h4 h5 (fun e => absurd e h2) (fun e => absurd e h3)
theorem RC4.sb (h : RC4 w b c d e Tb Tc Td Te done u W) (hn : ne4 b c d e = true) (hu : UpV Tb ∧ UpV Tc ∧ UpV Td ∧ UpV Te) (g : Gr W W') (ht : Tb v W') : RC4 w b c d e Tb Tc Td Te (upd done b) (fun j => if j = b then v else u j) W' := by
  obtain ⟨h1, h2, h3, h4, h5, h6⟩ := ne4b hn
  exact h.step hu g h2 h3 (fun _ => ht) (fun e => absurd e h1)
theorem RC4.sc (h : RC4 w b c d e Tb Tc Td Te done u W) (hn : ne4 b c d e = true) (hu : UpV Tb ∧ UpV Tc ∧ UpV Td ∧ UpV Te) (g : Gr W W') (ht : Tc v W') : RC4 w b c d e Tb Tc Td Te (upd done c) (fun j => if j = c then v else u j) W' := by
  obtain ⟨h1, h2, h3, h4, h5, h6⟩ := ne4b hn
  exact h.step hu g h4 h5 (fun e => absurd e.symm h1) (fun _ => ht)
theorem RC4.sd (h : RC4 w b c d e Tb Tc Td Te done u W) (hn : ne4 b c d e = true) (he : done e = false) (g : Gr w W') (ht : Td v W') : RC4 w b c d e Tb Tc Td Te (upd done d) (fun j => if j = d then v else u j) W' := by
  obtain ⟨h1, h2, h3, h4, h5, h6⟩ := ne4b hn
  refine ⟨g, fun _ k => ?_, fun _ k => ?_, fun _ _ => by simpa using ht, fun k => ?_⟩
  · rw [upd_self] at k; cases k
  · rw [upd_self] at k; cases k
  · rw [upd_ne (Ne.symm h6), he] at k; cases k
theorem RC4.se (h : RC4 w b c d e Tb Tc Td Te done u W) (hn : ne4 b c d e = true) (hd : done d = true) (g : Gr w W') (ht : Te v W') : RC4 w b c d e Tb Tc Td Te (upd done e) (fun j => if j = e then v else u j) W' := by
  obtain ⟨h1, h2, h3, h4, h5, h6⟩ := ne4b hn
  refine ⟨g, fun _ k => ?_, fun _ k => ?_, fun _ k => ?_, fun _ => by simpa using ht⟩
  · rw [upd_ne h6, hd] at k; cases k
  · rw [upd_ne h6, hd] at k; cases k
  · rw [upd_self] at k; cases k
end
end
section
set_option linter.unusedVariables false
open Go.RowKit
section
variable {W W' : World} {B : Nat} {v : Value} {E : List LfE}
/-- where a slice is behind an append -/
def Moved (W : World) (v v2 : Value) : Prop := v2.ownBlock = v.ownBlock ∨ ∃ b, v2.ownBlock = some b ∧ W.heap.size ≤ b
end
end
end Go.Proofs.Ytodedneanlekdaa
