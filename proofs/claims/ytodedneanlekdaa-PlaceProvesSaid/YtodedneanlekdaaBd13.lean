/- Several texts of this claim in one file. (1) Contract: Prove. (2) The leaves as the reference gathers them: a slice that is passed on. Nothing of the program is proved here. (3) Contracts: hosted and begun. (4) Contracts: Allowed, Cost, Hopeless, Bound. (5) Contracts: the reference's Allowed, Cost, Hopeless, Bound. (6) Contracts: with, all (reference). (7) Contracts: the reference's first, Best. -/
import Derived.Test.YtodedneanlekdaaBd12
import Derived.Test.YtodedneanlekdaaBd9
import Derived.Test.YtodedneanlekdaaBd8
namespace Go.Proofs.Ytodedneanlekdaa
set_option linter.unusedSimpArgs false
set_option linter.unusedVariables false
section
open Go.RowKit

set_option maxRecDepth 100000 in
set_option maxHeartbeats 4000000 in
theorem prove_any (p : Pb) (ta ha ba la : Option Addr) (tc hc bc lc : Nat) (hsm0 : chkE p = 0 → p.nt ≤ 5 ∧ p.nh ≤ 4) (w : World) (hP : PbAt w p ta ha ba la tc hc bc lc) :
  Calls Try.prog 30 #[.agg #[.slice ta p.nt tc, .slice ha p.nh hc, .slice ba p.nb bc, .slice la p.nl lc]] w fun e w' => ∃ a c E, e = .returned (.tuple #[.slice a (List.length E) c, Vi (chkE p)]) ∧ LfAt w' a E ∧ stripL E = prvL p ∧ E.length ≤ 1024 ∧ Gr w w' := by
 have G := Gr.refl w
 have hpt := hP.t
 have hph := hP.h
 have hpb := hP.b
 have hpl := hP.l
 have hplen := hP.len
 obtain ⟨hn1, hn2, hn3, hn4⟩ := hplen
 have hcp1 := hpt.cap
 have hcp2 := hph.cap
 have hcp3 := hpb.cap
 have hcp4 := hpl.cap
 refine Y.calls 53 Try.func30 rfl rfl ?_
 intro ac F0
 have F : Fr ac 53 [(0, .agg #[.slice ta p.nt tc, .slice ha p.nh hc, .slice ba p.nb bc, .slice la p.nl lc])] := F0.sub _
 clear F0
 refine Y.sl ?_
 have hgs3 : w.heap.size ≤ w.heap.size := G.size
 refine Y.pv F (X.box rfl (F.ev 0 (.agg #[.slice ta p.nt tc, .slice ha p.nh hc, .slice ba p.nb bc, .slice la p.nl lc])) X.bx) ?_;clear F ac;intro ac F
 have hgs5 : w.heap.size ≤ w.heap.size := G.size
 obtain ⟨w6, hw_, g, hb, hbl, hC2⟩ := Y.bxd (RCells.nil w) #[.slice ta p.nt tc, .slice ha p.nh hc, .slice ba p.nb bc, .slice la p.nl lc] 27;rw [hw_];clear hw_
 replace G := G.trans g
 have hC := hC2
 clear hC2
 replace hpt := hpt.gr g
 replace hph := hph.gr g
 replace hpb := hpb.gr g
 replace hpl := hpl.gr g
 have hsz4 := hbl
 clear g hb hbl
 refine Y.pv F (Y.al rfl (Try.new45 _)) ?_;clear F ac;intro ac F
 have hbl7 : w.heap.size < w6.heap.size := lt_cell (hC.at 0 rfl)
 have g := Gr.alloc w6 (.cells #[.slice none 0 0] 45)
 have hb := heap_alloc_new w6 (.cells #[.slice none 0 0] 45)
 have hszw8 : w6.heap.size < (w6.alloc (.cells #[.slice none 0 0] 45)).heap.size := by simp
 have hgsw8 : w.heap.size ≤ w6.heap.size := G.size
 generalize w6.alloc (.cells #[.slice none 0 0] 45) = w8 at *
 replace G := G.trans g
 replace hC := hC.gr g
 replace hpt := hpt.gr g
 replace hph := hph.gr g
 replace hpb := hpb.gr g
 replace hpl := hpl.gr g
 have hVw8 : OwnP w8 w6.heap.size 1 (fun _ => .slice none 0 0) := ownP_1 hb
 clear g hb
 refine Y.pv F (Y.al rfl (Try.new31 _)) ?_;clear F ac;intro ac F
 have hbl9 : w.heap.size < w8.heap.size := lt_cell (hC.at 0 rfl)
 have hbo10 := hVw8.lt
 have g := Gr.alloc w8 (.cells #[Vi 0] 31)
 have hb := heap_alloc_new w8 (.cells #[Vi 0] 31)
 have hszw11 : w8.heap.size < (w8.alloc (.cells #[Vi 0] 31)).heap.size := by simp
 have hgsw11 : w.heap.size ≤ w8.heap.size := G.size
 generalize w8.alloc (.cells #[Vi 0] 31) = w11 at *
 replace G := G.trans g
 replace hC := hC.gr g
 replace hpt := hpt.gr g
 replace hph := hph.gr g
 replace hpb := hpb.gr g
 replace hpl := hpl.gr g
 replace hVw8 := hVw8.gr g
 have hVw11 : OwnP w11 w8.heap.size 1 (fun _ => Vi 0) := ownP_1 hb
 clear g hb
 refine Y.nt F [(1, Vp w.heap.size), (2, Vp w6.heap.size), (3, Vp w8.heap.size)] ?_;clear F ac;intro ac F
 refine Y.seq ?_
 refine Y.sl ?_
 refine Y.pv F (X.load rfl (F.ev 1 (Vp w.heap.size)) (X.ldN (Try.agg27 _) (Try.siz27 _) (Y.atz (⟨w.heap.size, 0, none⟩) (Y.AtFrom.cons (hC.at 0 rfl) (Y.AtFrom.cons (hC.at 1 rfl) (Y.AtFrom.cons (hC.at 2 rfl) (Y.AtFrom.cons (hC.at 3 rfl) (Y.AtFrom.nil _ _ _)))))))) ?_;clear F ac;intro ac F
 refine Y.pc F 18 (X.a1 (F.ev 11 (.agg #[.slice ta p.nt tc, .slice ha p.nh hc, .slice ba p.nb bc, .slice la p.nl lc]))) Try.func18 (check_any p ta ha ba la tc hc bc lc w11 (hP.gr G)) ?_
 clear F ac
 rintro e w12 ⟨rfl, g⟩
 refine ⟨_, rfl, ?_⟩
 intro ac F
 replace G := G.trans g
 replace hC := hC.gr g
 replace hpt := hpt.gr g
 replace hph := hph.gr g
 replace hpb := hpb.gr g
 replace hpl := hpl.gr g
 replace hVw8 := hVw8.gr g
 replace hVw11 := hVw11.gr g
 clear g
 refine Y.pv F (X.assign rfl (F.ev 12 (Vi (chkE p)))) ?_;clear F ac;intro ac F
 refine Y.nt F [(1, Vp w.heap.size), (2, Vp w6.heap.size), (3, Vp w8.heap.size), (4, Vi (chkE p))] ?_;clear F ac;intro ac F
 refine Y.sg F [(1, Vp w.heap.size), (2, Vp w6.heap.size), (3, Vp w8.heap.size), (4, Vi (chkE p)), (14, .bool ((chkE p : Int) != 0))] (Y.pv F (X.move rfl (F.ev 4 (Vi (chkE p)))) fun ac F=>Y.pv F (X.binop rfl (F.ev 13 (Vi (chkE p))) (X.kc (Vi 0) rfl) (X.neqI Try.underlying31 rfl)) fun ac F=>Y.fin F) ?_;clear F ac;intro ac F
 cases h13 : ((chkE p : Int) != 0) with
 | false =>
  try rw [h13] at F
  have h13p : (chkE p : Int) = 0 := by simpa using h13
  have hck : chkE p = 0 := by omega
  have hp := chk_ok hck
  have hsm := hsm0 hck
  refine Y.condF (F.ev 14 (.bool false)) ?_
  refine Y.skip ?_
  refine X.thenN ?_
  refine Y.sl ?_
  refine Y.pv F (X.load rfl (F.ev 1 (Vp w.heap.size)) (X.ldN (Try.agg27 _) (Try.siz27 _) (Y.atz (⟨w.heap.size, 0, none⟩) (Y.AtFrom.cons (hC.at 0 rfl) (Y.AtFrom.cons (hC.at 1 rfl) (Y.AtFrom.cons (hC.at 2 rfl) (Y.AtFrom.cons (hC.at 3 rfl) (Y.AtFrom.nil _ _ _)))))))) ?_;clear F ac;intro ac F
  refine Y.pc F 22 (X.a1 (F.ev 17 (.agg #[.slice ta p.nt tc, .slice ha p.nh hc, .slice ba p.nb bc, .slice la p.nl lc]))) Try.func22 (best_any p ta ha ba la tc hc bc lc w12 (hP.gr G)) ?_
  clear F ac
  rintro e w14 ⟨ba9, bc9, rfl, -, -, g⟩
  refine ⟨_, rfl, ?_⟩
  intro ac F
  replace G := G.trans g
  replace hC := hC.gr g
  replace hpt := hpt.gr g
  replace hph := hph.gr g
  replace hpb := hpb.gr g
  replace hpl := hpl.gr g
  replace hVw8 := hVw8.gr g
  replace hVw11 := hVw11.gr g
  clear g
  refine Y.pv4 F (X.move rfl (F.ev 18 (.tuple #[.slice ba9 ((bestR p).1.length) bc9, Vi ((bestR p).2.1), Vi ((bestR p).2.2)]))) (fun _ F=>X.extract rfl (F.ev 16 (.tuple #[.slice ba9 ((bestR p).1.length) bc9, Vi ((bestR p).2.1), Vi ((bestR p).2.2)])) rfl) (fun _ F=>X.extract rfl (F.ev 16 (.tuple #[.slice ba9 ((bestR p).1.length) bc9, Vi ((bestR p).2.1), Vi ((bestR p).2.2)])) rfl) (fun _ F=>X.extract rfl (F.ev 16 (.tuple #[.slice ba9 ((bestR p).1.length) bc9, Vi ((bestR p).2.1), Vi ((bestR p).2.2)])) rfl) ?_;clear F ac;intro ac F
  refine Y.pv F (Y.al rfl (Try.new3 _)) ?_;clear F ac;intro ac F
  have hbl15 : w.heap.size < w14.heap.size := lt_cell (hC.at 0 rfl)
  have hbo16 := hVw8.lt
  have hbo17 := hVw11.lt
  have g := Gr.alloc w14 (.cells #[Vi 0] 3)
  have hb := heap_alloc_new w14 (.cells #[Vi 0] 3)
  have hszw18 : w14.heap.size < (w14.alloc (.cells #[Vi 0] 3)).heap.size := by simp
  have hgsw18 : w.heap.size ≤ w14.heap.size := G.size
  generalize w14.alloc (.cells #[Vi 0] 3) = w18 at *
  replace G := G.trans g
  replace hC := hC.gr g
  replace hpt := hpt.gr g
  replace hph := hph.gr g
  replace hpb := hpb.gr g
  replace hpl := hpl.gr g
  replace hVw8 := hVw8.gr g
  replace hVw11 := hVw11.gr g
  have hVw18 : OwnP w18 w14.heap.size 1 (fun _ => Vi 0) := ownP_1 hb
  clear g hb
  refine Y.pv F (Y.al rfl (Try.new31 _)) ?_;clear F ac;intro ac F
  have hbl19 : w.heap.size < w18.heap.size := lt_cell (hC.at 0 rfl)
  have hbo20 := hVw8.lt
  have hbo21 := hVw11.lt
  have hbo22 := hVw18.lt
  have g := Gr.alloc w18 (.cells #[Vi 0] 31)
  have hb := heap_alloc_new w18 (.cells #[Vi 0] 31)
  have hszw23 : w18.heap.size < (w18.alloc (.cells #[Vi 0] 31)).heap.size := by simp
  have hgsw23 : w.heap.size ≤ w18.heap.size := G.size
  generalize w18.alloc (.cells #[Vi 0] 31) = w23 at *
  replace G := G.trans g
  replace hC := hC.gr g
  replace hpt := hpt.gr g
  replace hph := hph.gr g
  replace hpb := hpb.gr g
  replace hpl := hpl.gr g
  replace hVw8 := hVw8.gr g
  replace hVw11 := hVw11.gr g
  replace hVw18 := hVw18.gr g
  have hVw23 : OwnP w23 w18.heap.size 1 (fun _ => Vi 0) := ownP_1 hb
  clear g hb
  refine Y.pv F (X.assign rfl (F.ev 19 (.slice ba9 ((bestR p).1.length) bc9))) ?_;clear F ac;intro ac F
  refine Y.punit F (X.w0 rfl) rfl (X.store rfl (F.ev 6 (Vp w14.heap.size)) (F.ev 20 (Vi ((bestR p).2.1))) (hVw18.st1 (Try.siz3 _) rfl rfl (by omega))) ?_;clear F ac;intro ac F
  have hon := Y.set_only w23 w14.heap.size 0 (Vi ((bestR p).2.1))
  have hV2 := hVw18.set (k := 0) (Vi ((bestR p).2.1))
  replace hV2 := hV2.congr (val' := fun _ => Vi ((bestR p).2.1)) (fun k hk => if_pos (by omega))
  generalize w23.setCell ⟨w14.heap.size, 0, none⟩ (Vi ((bestR p).2.1)) = w25 at *
  replace hVw18 : OwnP w25 w14.heap.size 1 (fun _ => Vi ((bestR p).2.1)) := hV2
  clear hV2
  replace G := Y.Only.up G hon (by omega)
  replace hpt := (hP.t).gr G
  replace hph := (hP.h).gr G
  replace hpb := (hP.b).gr G
  replace hpl := (hP.l).gr G
  replace hVw8 := hVw8.only hon (by show ¬ _ = _; omega)
  replace hVw11 := hVw11.only hon (by show ¬ _ = _; omega)
  replace hVw23 := hVw23.only hon (by show ¬ _ = _; omega)
  replace hC := (hC.kc hon 0 rfl (hC.kc hon 1 rfl (hC.kc hon 2 rfl (hC.kc hon 3 rfl (RCells.nil _)))))
  clear hon
  refine Y.punit F (X.w0 rfl) rfl (X.store rfl (F.ev 7 (Vp w18.heap.size)) (F.ev 21 (Vi ((bestR p).2.2))) (hVw23.st1 (Try.siz31 _) rfl rfl (by omega))) ?_;clear F ac;intro ac F
  have hon := Y.set_only w25 w18.heap.size 0 (Vi ((bestR p).2.2))
  have hV2 := hVw23.set (k := 0) (Vi ((bestR p).2.2))
  replace hV2 := hV2.congr (val' := fun _ => Vi ((bestR p).2.2)) (fun k hk => if_pos (by omega))
  generalize w25.setCell ⟨w18.heap.size, 0, none⟩ (Vi ((bestR p).2.2)) = w27 at *
  replace hVw23 : OwnP w27 w18.heap.size 1 (fun _ => Vi ((bestR p).2.2)) := hV2
  clear hV2
  replace G := Y.Only.up G hon (by omega)
  replace hpt := (hP.t).gr G
  replace hph := (hP.h).gr G
  replace hpb := (hP.b).gr G
  replace hpl := (hP.l).gr G
  replace hVw8 := hVw8.only hon (by show ¬ _ = _; omega)
  replace hVw11 := hVw11.only hon (by show ¬ _ = _; omega)
  replace hVw18 := hVw18.only hon (by show ¬ _ = _; omega)
  replace hC := (hC.kc hon 0 rfl (hC.kc hon 1 rfl (hC.kc hon 2 rfl (hC.kc hon 3 rfl (RCells.nil _)))))
  clear hon
  refine Y.nt F [(1, Vp w.heap.size), (2, Vp w6.heap.size), (3, Vp w8.heap.size), (6, Vp w14.heap.size), (7, Vp w18.heap.size)] ?_;clear F ac;intro ac F
  refine Y.sl ?_
  refine Y.pv F (Y.al rfl (Try.new45 _)) ?_;clear F ac;intro ac F
  have hbl28 : w.heap.size < w27.heap.size := lt_cell (hC.at 0 rfl)
  have hbo29 := hVw8.lt
  have hbo30 := hVw11.lt
  have hbo31 := hVw18.lt
  have hbo32 := hVw23.lt
  have g := Gr.alloc w27 (.cells #[.slice none 0 0] 45)
  have hb := heap_alloc_new w27 (.cells #[.slice none 0 0] 45)
  have hszw33 : w27.heap.size < (w27.alloc (.cells #[.slice none 0 0] 45)).heap.size := by simp
  have hgsw33 : w.heap.size ≤ w27.heap.size := G.size
  generalize w27.alloc (.cells #[.slice none 0 0] 45) = w33 at *
  replace G := G.trans g
  replace hC := hC.gr g
  replace hpt := hpt.gr g
  replace hph := hph.gr g
  replace hpb := hpb.gr g
  replace hpl := hpl.gr g
  replace hVw8 := hVw8.gr g
  replace hVw11 := hVw11.gr g
  replace hVw18 := hVw18.gr g
  replace hVw23 := hVw23.gr g
  have hVw33 : OwnP w33 w27.heap.size 1 (fun _ => .slice none 0 0) := ownP_1 hb
  clear g hb
  refine Y.nt F [(1, Vp w.heap.size), (2, Vp w6.heap.size), (3, Vp w8.heap.size), (6, Vp w14.heap.size), (7, Vp w18.heap.size), (8, Vp w27.heap.size)] ?_;clear F ac;intro ac F
  refine Y.seq ?_
  refine Y.sl ?_
  refine Y.pv F (X.load rfl (F.ev 1 (Vp w.heap.size)) (X.ldN (Try.agg27 _) (Try.siz27 _) (Y.atz (⟨w.heap.size, 0, none⟩) (Y.AtFrom.cons (hC.at 0 rfl) (Y.AtFrom.cons (hC.at 1 rfl) (Y.AtFrom.cons (hC.at 2 rfl) (Y.AtFrom.cons (hC.at 3 rfl) (Y.AtFrom.nil _ _ _)))))))) ?_;clear F ac;intro ac F
  refine Y.pc F 69 (X.a1 (F.ev 22 (.agg #[.slice ta p.nt tc, .slice ha p.nh hc, .slice ba p.nb bc, .slice la p.nl lc]))) Try.func69 (nodes_any p ta ha ba la tc hc bc lc w33) ?_
  clear F ac
  have hpre9 := G.size
  rintro e w34 ⟨bn35, rfl, hbn9, hcn, g⟩
  refine ⟨_, rfl, ?_⟩
  intro ac F
  replace G := G.trans g
  replace hC := hC.gr g
  replace hpt := hpt.gr g
  replace hph := hph.gr g
  replace hpb := hpb.gr g
  replace hpl := hpl.gr g
  replace hVw8 := hVw8.gr g
  replace hVw11 := hVw11.gr g
  replace hVw18 := hVw18.gr g
  replace hVw23 := hVw23.gr g
  replace hVw33 := hVw33.gr g
  clear g
  replace hC := hC.append (show RCells w34 (bcells bn35 [.slice ta p.nt tc, .slice ha p.nh hc, .slice ba p.nb bc, .slice la p.nl lc] 0) from (RCells.cons (hcn.at 0 rfl) (RCells.cons (hcn.at 1 rfl) (RCells.cons (hcn.at 2 rfl) (RCells.cons (hcn.at 3 rfl) (RCells.nil _))))))
  refine Y.nt F [(2, Vp w6.heap.size), (3, Vp w8.heap.size), (6, Vp w14.heap.size), (7, Vp w18.heap.size), (8, Vp w27.heap.size), (23, .func (.func 102) #[] #[Vp bn35])] ?_;clear F ac;intro ac F
  refine Y.block ?_
  obtain ⟨ob, hobe⟩ : ∃ x, x = w27.heap.size := ⟨_, rfl⟩
  rw [← hobe] at F hVw33
  obtain ⟨r2, hr2e⟩ : ∃ x, x = w6.heap.size := ⟨_, rfl⟩
  rw [← hr2e] at F hVw8
  obtain ⟨r3, hr3e⟩ : ∃ x, x = w8.heap.size := ⟨_, rfl⟩
  rw [← hr3e] at F hVw11
  replace F : Fr ac 53 [(2, Vp r2), (3, Vp r3), (6, Vp w14.heap.size), (7, Vp w18.heap.size), (8, Vp ob), (23, .func (.func 102) #[] #[Vp bn35])] := F.sub _
  have hgw := G.size
  have hCn : RCells w34 (PbC p ta ha ba la tc hc bc lc bn35) := (RCells.cons (hC.at 4 rfl) (RCells.cons (hC.at 5 rfl) (RCells.cons (hC.at 6 rfl) (RCells.cons (hC.at 7 rfl) (RCells.nil _)))))
  have hzl36 : bn35 < w34.heap.size := lt_cell (hC.at 4 rfl)
  have hzl37 : w.heap.size < w34.heap.size := lt_cell (hC.at 0 rfl)
  have hzy38 : ob < w34.heap.size := hVw33.lt
  have hzy39 : r2 < w34.heap.size := hVw8.lt
  have hzy40 : r3 < w34.heap.size := hVw11.lt
  have hPb : ∀ W, Only (fun b => b = ob ∨ b = r2 ∨ b = r3) w34 W → PbAt W p ta ha ba la tc hc bc lc ∧ RCells W (PbC p ta ha ba la tc hc bc lc bn35) := fun W h => ⟨hP.gr ((G.only (fun b => w.heap.size ≤ b)).trans (h.mono' (fun i e => by omega)) |>.gr (fun i hi e => by omega)), hCn.only h (fun q hq e => by
   simp [PbC] at hq
   rcases hq with rfl | rfl | rfl | rfl <;> (first | omega | (simp only at e; omega)))⟩
  have hK0 := PrvK.start hVw33 hVw8 hVw11 ⟨by omega, by omega, by omega⟩
  have hCl := hC
  have Gl := G
  refine Y.ndRange (D := []) (p := p) (ta := ta) (ha := ha) (ba := ba) (la := la) (tc := tc) (hc := hc) (bc := bc) (lc := lc) (bp := bn35) F (by decide) (by decide) rfl rfl rfl rfl rfl rfl rfl (F.ev 23 _) hp (fun b => b = ob ∨ b = r2 ∨ b = r3) (fun b e => by first | omega | (first | omega | (simp only at e; omega))) hPb (prvF (hopeB p (tim p)) (dearP p)) ([]) (PrvK ob r2 r3 w34.heap.size) (fun b => b = ob ∨ b = r2 ∨ b = r3) (fun _ => False) hK0 (fun b e => by exact e) (fun s O Kp W h => h.lt) (fun s O Kp W W2 h g => h.gr g) (fun s O Kp W W2 h h2 g => h.only (fun b e => by first | omega | (simp only at e; omega)) h2 g) (fun _ _ => True) (fun _ _ _ h => h) ?_ ?_ ?_
  ·intro ss O Kp xs a c d b w41 ac hQ hK hOs hlen hx hBeg hdg hdO hdK haO had hD hbg hbd hbO hbK hab hN F
   clear G hC
   have hPW := (hPb w41 hQ).1
   have G := Gr.refl w41
   have hsw := hQ.size
   have hVw18R := hVw18.only hQ (by first | omega | (simp only; omega))
   clear hVw18
   have hVw18 := hVw18R
   have hVw23R := hVw23.only hQ (by first | omega | (simp only; omega))
   clear hVw23
   have hVw23 := hVw23R
   have hC : RCells w41 [(Ad w.heap.size 0, .slice ta p.nt tc), (Ad w.heap.size 1, .slice ha p.nh hc), (Ad w.heap.size 2, .slice ba p.nb bc), (Ad w.heap.size 3, .slice la p.nl lc), (Ad bn35 0, .slice ta p.nt tc), (Ad bn35 1, .slice ha p.nh hc), (Ad bn35 2, .slice ba p.nb bc), (Ad bn35 3, .slice la p.nl lc), (Ad b 0, .slice a xs.length c), (Ad b 1, .bool (hopeB p (tim p) xs)), (Ad b 2, Vi (bndV p xs)), (Ad b 3, Vp d)] := (RCells.cons (hQ.cell (hCl.at 0 rfl) (by simp only; omega)) (RCells.cons (hQ.cell (hCl.at 1 rfl) (by simp only; omega)) (RCells.cons (hQ.cell (hCl.at 2 rfl) (by simp only; omega)) (RCells.cons (hQ.cell (hCl.at 3 rfl) (by simp only; omega)) (RCells.cons (hQ.cell (hCl.at 4 rfl) (by simp only; omega)) (RCells.cons (hQ.cell (hCl.at 5 rfl) (by simp only; omega)) (RCells.cons (hQ.cell (hCl.at 6 rfl) (by simp only; omega)) (RCells.cons (hQ.cell (hCl.at 7 rfl) (by simp only; omega)) hN))))))))
   replace hpt := hPW.t
   replace hph := hPW.h
   replace hpb := hPW.b
   replace hpl := hPW.l
   replace F : Fr ac 53 [(2, Vp r2), (3, Vp r3), (6, Vp w14.heap.size), (7, Vp w18.heap.size), (8, Vp ob), (9, Vp b), (23, .func (.func 102) #[] #[Vp bn35]), (24, .agg #[.slice a xs.length c, .bool (hopeB p (tim p) xs), Vi (bndV p xs), Vp d])] := F.sub _
   obtain ⟨v, Ek, rfl, hPr, rfl, rfl, hEl, hlim⟩ := hK
   obtain ⟨oa, oc, rfl⟩ := hPr.r.form
   have hBeg0 := hBeg.lower (show w34.heap.size ≤ w34.heap.size + 2 by omega)
   have hOn2 := Only.refl (fun x => PrvO ob r2 r3 (.slice oa Ek.length oc) x ∨ x = d) w41
   have hsl := stripL_len Ek
   refine Y.block ?_
   refine Y.sg F [(2, Vp r2), (3, Vp r3), (6, Vp w14.heap.size), (7, Vp w18.heap.size), (8, Vp ob), (9, Vp b), (10, Vi 0)] (Y.pv F (X.assign rfl (X.kc (Vi 0) rfl)) fun ac F=>Y.fin F) ?_;clear F ac;intro ac F
   refine Y.seq ?_
   refine Y.block ?_
   refine Y.sg F [(2, Vp r2), (3, Vp r3), (6, Vp w14.heap.size), (7, Vp w18.heap.size), (8, Vp ob), (9, Vp b), (10, Vi 0), (25, .bool (hopeB p (tim p) xs))] (by
    refine Y.pv F (X.field rfl (F.ev 9 (Vp b)) (X.fld Try.underlying102 rfl (Try.siz4 _) rfl rfl)) fun ac F=>?_
    refine Y.pv F (X.load rfl (F.ev 26 (.pointer (some ⟨b, 1, none⟩))) (X.ld1 (Try.agg4 _) (hC.at 9 rfl))) fun ac F=>?_
    refine Y.pv F (X.assign rfl (F.ev 27 (.bool (hopeB p (tim p) xs)))) fun ac F=>?_
    exact Y.fin F) ?_;clear F ac;intro ac F
   cases h42 : hopeB p (tim p) xs with
   | false =>
    try rw [h42] at F
    refine Y.condF (F.ev 25 (.bool false)) ?_
    refine Y.sl ?_
    replace hC := hC.append (show RCells w41 ([(Ad w18.heap.size 0, Vi ((bestR p).2.2))]) from (RCells.cons (hVw23.cell (k := 0) (by omega)) (RCells.nil _)))
    refine Y.pv3 F (X.load rfl (F.ev 7 (Vp w18.heap.size)) (X.ld1 (Try.agg31 _) (hC.at 12 rfl))) (fun _ F=>X.binop rfl (F.ev 29 (Vi ((bestR p).2.2))) (X.kc (Vi 0) rfl) (X.eqlI Try.underlying31 rfl)) (fun _ F=>X.move rfl (F.ev 30 (.bool ((((bestR p).2.2) : Int) == 0)))) ?_;clear F ac;intro ac F
    cases h43 : ((((bestR p).2.2) : Int) == 0) with
    | false =>
     try rw [h43] at F
     have h43p : ¬ (((bestR p).2.2) : Int) = 0 := by simpa using h43
     refine Y.ps F 2 31 false ?_;clear F ac;intro ac F
     refine Y.ps F 2 31 false ?_;clear F ac;intro ac F
     refine Y.ps F 2 31 false ?_;clear F ac;intro ac F
     refine Y.ps F 2 31 false ?_;clear F ac;intro ac F
     refine Y.pv2 F (X.pickF rfl (F.ev 31 (.bool false)) (X.kc (.bool false) rfl)) (fun _ F=>X.assign rfl (F.ev 36 (.bool false))) ?_;clear F ac;intro ac F
     refine Y.nt F [(2, Vp r2), (3, Vp r3), (6, Vp w14.heap.size), (7, Vp w18.heap.size), (8, Vp ob), (9, Vp b), (10, Vi 0), (28, .bool false)] ?_;clear F ac;intro ac F
     refine Y.condF (F.ev 28 (.bool false)) ?_
     refine Y.skip ?_
     refine X.blockN (X.thenN ?_)
     refine Y.seq ?_
     refine Y.sg F [(2, Vp r2), (3, Vp r3), (6, Vp w14.heap.size), (7, Vp w18.heap.size), (8, Vp ob), (9, Vp b), (10, Vi 0), (41, .bool false)] (Y.pv F (X.move rfl (F.ev 10 (Vi 0))) fun ac F=>Y.pval F (X.w0 rfl) rfl (X.binop rfl (F.ev 40 (Vi 0)) (X.kc (Vi 0) rfl) (X.gtrI Try.underlying3 (show decide ((0 : Int) < 0) = false by simp))) fun ac F=>Y.fin F) ?_;clear F ac;intro ac F
     refine Y.condF (F.ev 41 (.bool false)) ?_
     refine Y.skip ?_
     refine X.thenN ?_
     refine Y.sl ?_
     replace hC := hC.append (show RCells w41 ([(Ad ob 0, .slice oa Ek.length oc)]) from (RCells.cons (hPr.o.cell (k := 0) (by decide)) (RCells.nil _)))
     refine Y.pv3 F (X.load rfl (F.ev 8 (Vp ob)) (X.ld1 (Try.agg45 _) (hC.at 13 rfl))) (fun _ F=>X.len1 Try.underlying45 rfl (F.ev 49 (.slice oa Ek.length oc))) (fun _ F=>X.binop rfl (F.ev 50 (Vi Ek.length)) (X.kc (Vi 5000) rfl) (X.gtrI Try.underlying3 rfl)) ?_;clear F ac;intro ac F
     refine Y.nt F [(2, Vp r2), (3, Vp r3), (6, Vp w14.heap.size), (7, Vp w18.heap.size), (8, Vp ob), (51, .bool (decide ((5000 : Int) < Ek.length)))] ?_;clear F ac;intro ac F
     cases h44 : decide ((5000 : Int) < Ek.length) with
     | false =>
      try rw [h44] at F
      have h44p : ¬ ((5000 : Int) < Ek.length) := of_decide_eq_false h44
      refine Y.condF (F.ev 51 (.bool false)) ?_
      refine Y.skip ?_
      refine X.blockN ?_
      have est : prvF (hopeB p (tim p)) (dearP p) (stripL Ek) xs = _ := prv_n h42 (dear_2 h43p)
      refine ⟨?_, ?_, ?_, ?_⟩
      ·exact (G.only _)
      ·rw [est]; exact ⟨_, _, ⟨_, Ek, rfl, hPr, rfl, rfl, hEl, hlim⟩, fun b e => .inl e⟩
      ·rw [est]; exact hD
      ·rw [est]; exact decide_eq_true (by omega)
     | true =>
      try rw [h44] at F
      have h44p : ((5000 : Int) < Ek.length) := of_decide_eq_true h44
      refine Y.condT (F.ev 51 (.bool true)) ?_
      refine Y.sl ?_
      have hr2 := hPr.c2
      have hr3 := hPr.c3
      refine Y.punit F (X.w0 rfl) rfl (X.store rfl (F.ev 2 (Vp r2)) (X.kc (.slice none 0 0) rfl) (hr2.st1 (Try.siz45 _) rfl rfl (by decide))) ?_;clear F ac;intro ac F
      have hon := Y.set_only w41 r2 0 (.slice none 0 0)
      replace hOn2 := hOn2.step2 ((G.only _).trans hon) (fun r e => .inl (.inl (.inr (.inl e))))
      replace hr3 := hr3.only hon (fun e => hPr.ne.2.2 e.symm)
      clear G
      generalize w41.setCell ⟨r2, 0, none⟩ (.slice none 0 0) = w45 at *
      have G := Gr.refl w45
      clear hon
      refine Y.punit F (X.w0 rfl) rfl (X.store rfl (F.ev 3 (Vp r3)) (X.kc (Vi 2) rfl) (hr3.st1 (Try.siz31 _) rfl rfl (by decide))) ?_;clear F ac;intro ac F
      have hon := Y.set_only w45 r3 0 (Vi 2)
      replace hOn2 := hOn2.step2 ((G.only _).trans hon) (fun r e => .inl (.inl (.inr (.inr (.inl e)))))
      clear G
      generalize w45.setCell ⟨r3, 0, none⟩ (Vi 2) = w46 at *
      have G := Gr.refl w46
      clear hon
      refine Y.nt F [(2, Vp r2), (3, Vp r3)] ?_;clear F ac;intro ac F
      refine Y.ret ?_
      refine X.blockR ?_
      have est : prvF (hopeB p (tim p)) (dearP p) (stripL Ek) xs = _ := prv_n h42 (dear_2 h43p)
      exact ⟨hOn2, trivial, by rw [est]; exact decide_eq_false (by omega)⟩
    | true =>
     try rw [h43] at F
     have h43p : (((bestR p).2.2) : Int) = 0 := by simpa using h43
     refine Y.pg F 2 31 true (X.field rfl (F.ev 9 (Vp b)) (X.fld Try.underlying102 rfl (Try.siz3 _) rfl rfl)) ?_;clear F ac;intro ac F
     refine Y.pg F 2 31 true (X.load rfl (F.ev 32 (.pointer (some ⟨b, 2, none⟩))) (X.ld1 (Try.agg3 _) (hC.at 10 rfl))) ?_;clear F ac;intro ac F
     replace hC := hC.append (show RCells w41 ([(Ad w14.heap.size 0, Vi ((bestR p).2.1))]) from (RCells.cons (hVw18.cell (k := 0) (by omega)) (RCells.nil _)))
     refine Y.pg F 2 31 true (X.load rfl (F.ev 6 (Vp w14.heap.size)) (X.ld1 (Try.agg3 _) (hC.at 13 rfl))) ?_;clear F ac;intro ac F
     refine Y.pg F 2 31 true (X.binop rfl (F.ev 33 (Vi (bndV p xs))) (F.ev 34 (Vi ((bestR p).2.1))) (X.geqI Try.underlying3 rfl)) ?_;clear F ac;intro ac F
     refine Y.pv2 F (X.pickT rfl (F.ev 31 (.bool true)) (F.ev 35 (.bool (decide ((((bestR p).2.1) : Int) ≤ (bndV p xs)))))) (fun _ F=>X.assign rfl (F.ev 36 (.bool (decide ((((bestR p).2.1) : Int) ≤ (bndV p xs)))))) ?_;clear F ac;intro ac F
     refine Y.nt F [(2, Vp r2), (3, Vp r3), (6, Vp w14.heap.size), (7, Vp w18.heap.size), (8, Vp ob), (9, Vp b), (10, Vi 0), (28, .bool (decide ((((bestR p).2.1) : Int) ≤ (bndV p xs))))] ?_;clear F ac;intro ac F
     cases h47 : decide ((((bestR p).2.1) : Int) ≤ (bndV p xs)) with
     | false =>
      try rw [h47] at F
      have h47p : ¬ ((((bestR p).2.1) : Int) ≤ (bndV p xs)) := of_decide_eq_false h47
      refine Y.condF (F.ev 28 (.bool false)) ?_
      refine Y.skip ?_
      refine X.blockN (X.thenN ?_)
      refine Y.seq ?_
      refine Y.sg F [(2, Vp r2), (3, Vp r3), (6, Vp w14.heap.size), (7, Vp w18.heap.size), (8, Vp ob), (9, Vp b), (10, Vi 0), (41, .bool false)] (Y.pv F (X.move rfl (F.ev 10 (Vi 0))) fun ac F=>Y.pval F (X.w0 rfl) rfl (X.binop rfl (F.ev 40 (Vi 0)) (X.kc (Vi 0) rfl) (X.gtrI Try.underlying3 (show decide ((0 : Int) < 0) = false by simp))) fun ac F=>Y.fin F) ?_;clear F ac;intro ac F
      refine Y.condF (F.ev 41 (.bool false)) ?_
      refine Y.skip ?_
      refine X.thenN ?_
      refine Y.sl ?_
      replace hC := hC.append (show RCells w41 ([(Ad ob 0, .slice oa Ek.length oc)]) from (RCells.cons (hPr.o.cell (k := 0) (by decide)) (RCells.nil _)))
      refine Y.pv3 F (X.load rfl (F.ev 8 (Vp ob)) (X.ld1 (Try.agg45 _) (hC.at 14 rfl))) (fun _ F=>X.len1 Try.underlying45 rfl (F.ev 49 (.slice oa Ek.length oc))) (fun _ F=>X.binop rfl (F.ev 50 (Vi Ek.length)) (X.kc (Vi 5000) rfl) (X.gtrI Try.underlying3 rfl)) ?_;clear F ac;intro ac F
      refine Y.nt F [(2, Vp r2), (3, Vp r3), (6, Vp w14.heap.size), (7, Vp w18.heap.size), (8, Vp ob), (51, .bool (decide ((5000 : Int) < Ek.length)))] ?_;clear F ac;intro ac F
      cases h48 : decide ((5000 : Int) < Ek.length) with
      | false =>
       try rw [h48] at F
       have h48p : ¬ ((5000 : Int) < Ek.length) := of_decide_eq_false h48
       refine Y.condF (F.ev 51 (.bool false)) ?_
       refine Y.skip ?_
       refine X.blockN ?_
       have est : prvF (hopeB p (tim p)) (dearP p) (stripL Ek) xs = _ := prv_n h42 (dear_3 h47p)
       refine ⟨?_, ?_, ?_, ?_⟩
       ·exact (G.only _)
       ·rw [est]; exact ⟨_, _, ⟨_, Ek, rfl, hPr, rfl, rfl, hEl, hlim⟩, fun b e => .inl e⟩
       ·rw [est]; exact hD
       ·rw [est]; exact decide_eq_true (by omega)
      | true =>
       try rw [h48] at F
       have h48p : ((5000 : Int) < Ek.length) := of_decide_eq_true h48
       refine Y.condT (F.ev 51 (.bool true)) ?_
       refine Y.sl ?_
       have hr2 := hPr.c2
       have hr3 := hPr.c3
       refine Y.punit F (X.w0 rfl) rfl (X.store rfl (F.ev 2 (Vp r2)) (X.kc (.slice none 0 0) rfl) (hr2.st1 (Try.siz45 _) rfl rfl (by decide))) ?_;clear F ac;intro ac F
       have hon := Y.set_only w41 r2 0 (.slice none 0 0)
       replace hOn2 := hOn2.step2 ((G.only _).trans hon) (fun r e => .inl (.inl (.inr (.inl e))))
       replace hr3 := hr3.only hon (fun e => hPr.ne.2.2 e.symm)
       clear G
       generalize w41.setCell ⟨r2, 0, none⟩ (.slice none 0 0) = w49 at *
       have G := Gr.refl w49
       clear hon
       refine Y.punit F (X.w0 rfl) rfl (X.store rfl (F.ev 3 (Vp r3)) (X.kc (Vi 2) rfl) (hr3.st1 (Try.siz31 _) rfl rfl (by decide))) ?_;clear F ac;intro ac F
       have hon := Y.set_only w49 r3 0 (Vi 2)
       replace hOn2 := hOn2.step2 ((G.only _).trans hon) (fun r e => .inl (.inl (.inr (.inr (.inl e)))))
       clear G
       generalize w49.setCell ⟨r3, 0, none⟩ (Vi 2) = w50 at *
       have G := Gr.refl w50
       clear hon
       refine Y.nt F [(2, Vp r2), (3, Vp r3)] ?_;clear F ac;intro ac F
       refine Y.ret ?_
       refine X.blockR ?_
       have est : prvF (hopeB p (tim p)) (dearP p) (stripL Ek) xs = _ := prv_n h42 (dear_3 h47p)
       exact ⟨hOn2, trivial, by rw [est]; exact decide_eq_false (by omega)⟩
     | true =>
      try rw [h47] at F
      have h47p : ((((bestR p).2.1) : Int) ≤ (bndV p xs)) := of_decide_eq_true h47
      refine Y.condT (F.ev 28 (.bool true)) ?_
      refine Y.sg F [(2, Vp r2), (3, Vp r3), (6, Vp w14.heap.size), (7, Vp w18.heap.size), (8, Vp ob), (9, Vp b), (10, Vi 2)] (Y.pv F (X.assign rfl (X.kc (Vi 2) rfl)) fun ac F=>Y.fin F) ?_;clear F ac;intro ac F
      refine Y.lit (by kernel_rfl) ?_
      refine Y.pv3 F (X.field rfl (F.ev 9 (Vp b)) (X.fld Try.underlying102 rfl (Try.siz100 _) rfl rfl)) (fun _ F=>X.load rfl (F.ev 37 (.pointer (some ⟨b, 3, none⟩))) (X.ld1 (Try.agg100 _) (hC.at 11 rfl))) (fun _ F=>Y.nilC rfl (F.ev 38 (Vp d))) ?_;clear F ac;intro ac F
      refine Y.punit F (X.w0 rfl) rfl (X.store rfl (F.ev 39 (Vp d)) (X.kc (.bool false) rfl) (hD.st1 (Try.siz4 _) rfl rfl (by decide))) ?_;clear F ac;intro ac F
      have hon := Y.set_only w41 d 0 (.bool false)
      have hD2 := (hD.set (k := 0) (.bool false)).congr (val' := fun _ => .bool false) (fun k hk => if_pos (by omega))
      generalize w41.setCell ⟨d, 0, none⟩ (.bool false) = w51 at *
      have hQ0 := (hQ.trans (G.only _))
      clear hQ
      have hQ := hQ0.step2 hon (fun r e => .inr (by have e2 : r = d := e; omega))
      clear hQ0
      replace hPr := hPr.only hon (fun b e h => by have h8 : b = d := h; subst h8; exact hdO e) (fun b e h => by have h8 : b = d := h; subst h8; exact hdK e)
      replace hBeg0 := (hBeg0.gr G).only hon (fun ad e h => had ad e h)
      replace hOn2 := hOn2.step2 ((G.only _).trans hon) (fun r e => .inl (.inr e))
      replace hC := (RCells.cons (hon.cell (hC.at 0 rfl) (by simp only; omega)) (RCells.cons (hon.cell (hC.at 1 rfl) (by simp only; omega)) (RCells.cons (hon.cell (hC.at 2 rfl) (by simp only; omega)) (RCells.cons (hon.cell (hC.at 3 rfl) (by simp only; omega)) (RCells.cons (hon.cell (hC.at 4 rfl) (by simp only; omega)) (RCells.cons (hon.cell (hC.at 5 rfl) (by simp only; omega)) (RCells.cons (hon.cell (hC.at 6 rfl) (by simp only; omega)) (RCells.cons (hon.cell (hC.at 7 rfl) (by simp only; omega)) (RCells.cons (hon.cell (hC.at 8 rfl) (by simp only; omega)) (RCells.cons (hon.cell (hC.at 9 rfl) (by simp only; omega)) (RCells.cons (hon.cell (hC.at 10 rfl) (by simp only; omega)) (RCells.cons (hon.cell (hC.at 11 rfl) (by simp only; omega)) (RCells.cons (hon.cell (hC.at 12 rfl) (by simp only; omega)) (RCells.cons (hon.cell (hC.at 13 rfl) (by simp only; omega)) (RCells.nil _)))))))))))))))
      replace hPW := (hPb w51 hQ).1
      clear G hD
      have G := Gr.refl w51
      have hD := hD2
      clear hD2
      replace hpt := hPW.t
      replace hph := hPW.h
      replace hpb := hPW.b
      replace hpl := hPW.l
      replace hVw18 := hVw18.only hon (by first | omega | (simp only; omega))
      replace hVw23 := hVw23.only hon (by first | omega | (simp only; omega))
      clear hon
      refine Y.nil ?_
      replace F : Fr ac 53 [(2, Vp r2), (3, Vp r3), (6, Vp w14.heap.size), (7, Vp w18.heap.size), (8, Vp ob), (9, Vp b), (10, Vi 2)] := F.sub _
      refine X.blockN (X.thenN ?_)
      refine Y.seq ?_
      refine Y.sg F [(2, Vp r2), (3, Vp r3), (6, Vp w14.heap.size), (7, Vp w18.heap.size), (8, Vp ob), (9, Vp b), (10, Vi 2), (41, .bool true)] (Y.pv F (X.move rfl (F.ev 10 (Vi 2))) fun ac F=>Y.pval F (X.w0 rfl) rfl (X.binop rfl (F.ev 40 (Vi 2)) (X.kc (Vi 0) rfl) (X.gtrI Try.underlying3 (show decide ((0 : Int) < 2) = true by simp))) fun ac F=>Y.fin F) ?_;clear F ac;intro ac F
      refine Y.condT (F.ev 41 (.bool true)) ?_
      refine Y.lit (by kernel_rfl) ?_
      replace hC := hC.append (show RCells w51 ([(Ad ob 0, .slice oa Ek.length oc)]) from (RCells.cons (hPr.o.cell (k := 0) (by decide)) (RCells.nil _)))
      refine Y.pv4 F (X.load rfl (F.ev 8 (Vp ob)) (X.ld1 (Try.agg45 _) (hC.at 14 rfl))) (fun _ F=>X.field rfl (F.ev 9 (Vp b)) (X.fld Try.underlying102 rfl (Try.siz34 _) rfl rfl)) (fun _ F=>X.load rfl (F.ev 43 (Vp b)) (X.ld1 (Try.agg34 _) (hC.at 8 rfl))) (fun _ F=>X.move rfl (F.ev 10 (Vi 2))) ?_;clear F ac;intro ac F
      refine Y.pv2 F (Y.bd rfl (X.b2 (F.ev 44 (.slice a xs.length c)) (F.ev 45 (Vi 2))) (Try.bd49 _ _ _ _ _)) (fun _ F=>X.bs rfl (X.b1 (F.ev 46 (.agg #[.slice a xs.length c, Vi 2]))) (Try.bs45_1 _ _ _ _ _)) ?_;clear F ac;intro ac F
      have g := Gr.alloc w51 (.cells #[.slice a xs.length c, Vi 2] 49)
      have hg9 := heap_alloc_new w51 (.cells #[.slice a xs.length c, Vi 2] 49)
      generalize w51.alloc (.cells #[.slice a xs.length c, Vi 2] 49) = w52 at *
      replace G := G.trans g
      replace hC := hC.gr g
      replace hpt := hpt.gr g
      replace hph := hph.gr g
      replace hpb := hpb.gr g
      replace hpl := hpl.gr g
      replace hVw18 := hVw18.gr g
      replace hVw23 := hVw23.gr g
      replace hD := hD.gr g
      replace hPr := hPr.gr g
      clear g
      refine Y.wpL_plain rfl fun _ hK => wp_pushV Try.underlying45 Try.info49 rfl (by decide) rfl (F.ev 42 (.slice oa Ek.length oc)) (F.ev 47 (.slice (some ⟨w51.heap.size, 0, none⟩) 1 1)) hPr.r (m := 1) (news := [.slice a xs.length c, Vi 2]) rfl (cells_at (vs := [.slice a xs.length c, Vi 2]) hg9) rfl (by omega) (by decide) hPr.BW (fun v2 w53 hO3 hon hat => hK _ _ ?_)
      refine Y.pput F rfl ?_;clear F ac;intro ac F
      have hPr2 := hPr.push (x := ⟨⟨xs, a, c⟩, 2⟩) (hBeg0.gr G) (fun ad e h => haO ad e (.inr (.inr (.inr h)))) hO3 hon hat
      have hObw := hPr.o.only hon (fun e => by have h1 := (hPr.r.ge e).1; have h2 := hPr.lt.1; omega)
      have hD3 := (hD.only hon (fun h => hdO (.inr (.inr (.inr h)))))
      obtain ⟨oa2, oc2, rfl⟩ := hO3.form
      clear hK hg9
      have hOn3 := hOn2.step2 ((G.only _).trans hon) (fun r e => .inl (.inl (.inr (.inr (.inr e)))))
      have hat3 : ∀ b, (Value.slice oa2 (Ek.length + 1) oc2).ownBlock = some b → (Value.slice oa Ek.length oc).ownBlock = some b ∨ w41.heap.size ≤ b := fun b e => by
       rcases hat with h | h
       ·exact .inl (h ▸ e)
       ·rw [h] at e; injection e with e; have := G.size; have := hOn2.size; exact .inr (by omega)
      clear hPr hD hon hat hO3 G hC
      refine Y.punit F (X.w0 rfl) rfl (X.store rfl (F.ev 8 (Vp ob)) (F.ev 48 (.slice oa2 (Ek.length + 1) oc2)) (hObw.st1 (Try.siz45 _) rfl rfl (by decide))) ?_;clear F ac;intro ac F
      have hon := Y.set_only w53 ob 0 (.slice oa2 (Ek.length + 1) oc2)
      have hD := hD3.only hon (fun h => hdO (.inl h))
      replace hOn2 := hOn3.step2 hon (fun r e => .inl (.inl (.inl e)))
      clear hOn3 hD3
      generalize w53.setCell ⟨ob, 0, none⟩ (.slice oa2 (Ek.length + 1) oc2) = w54 at *
      have G := Gr.refl w54
      clear hon
      have hC : RCells w54 [(Ad ob 0, .slice oa2 (Ek.length + 1) oc2)] := RCells.cons (hPr2.o.cell (k := 0) (by decide)) (RCells.nil _)
      refine Y.nt F [(2, Vp r2), (3, Vp r3), (6, Vp w14.heap.size), (7, Vp w18.heap.size), (8, Vp ob)] ?_;clear F ac;intro ac F
      refine Y.sg F [(2, Vp r2), (3, Vp r3), (6, Vp w14.heap.size), (7, Vp w18.heap.size), (8, Vp ob), (51, .bool (decide ((5000 : Int) < (Ek.length + 1))))] (Y.pv F (X.load rfl (F.ev 8 (Vp ob)) (X.ld1 (Try.agg45 _) (hC.at 0 rfl))) fun ac F=>Y.pv F (X.len1 Try.underlying45 rfl (F.ev 49 (.slice oa2 (Ek.length + 1) oc2))) fun ac F=>Y.pv F (X.binop rfl (F.ev 50 (Vi (Ek.length + 1))) (X.kc (Vi 5000) rfl) (X.gtrI Try.underlying3 rfl)) fun ac F=>Y.fin F) ?_;clear F ac;intro ac F
      cases h55 : decide ((5000 : Int) < (Ek.length + 1)) with
      | false =>
       try rw [h55] at F
       have h55p : ¬ ((5000 : Int) < (Ek.length + 1)) := of_decide_eq_false h55
       refine Y.condF (F.ev 51 (.bool false)) ?_
       refine Y.skip ?_
       refine X.blockN ?_
       have est : prvF (hopeB p (tim p)) (dearP p) (stripL Ek) xs = _ := prv_d h42 (dear_1 h43p h47p)
       refine ⟨?_, ?_, ?_, ?_⟩
       ·exact hOn2
       ·rw [est]
        refine ⟨_, _, ⟨_, _, stripL_app _ _, hPr2, rfl, rfl, by simp; omega, fun b hb => ?_⟩, fun b e => ?_⟩
        ·obtain ⟨x, hx2, ad, e, rfl⟩ := hb
         rcases List.mem_append.1 hx2 with hx2 | hx2
         ·exact hlim _ ⟨x, hx2, ad, e, rfl⟩
         ·simp at hx2; subst hx2; exact (hBeg.ge ad e).1
        ·rcases e with e | e | e | e
         ·exact .inl (.inl e)
         ·exact .inl (.inr (.inl e))
         ·exact .inl (.inr (.inr (.inl e)))
         ·exact (hat3 b e).imp (fun h => .inr (.inr (.inr h))) (fun h => h)
       ·rw [est]; exact hD
       ·rw [est]; exact decide_eq_true (by omega)
      | true =>
       try rw [h55] at F
       have h55p : ((5000 : Int) < (Ek.length + 1)) := of_decide_eq_true h55
       refine Y.condT (F.ev 51 (.bool true)) ?_
       refine Y.sl ?_
       have hr2 := hPr2.c2
       have hr3 := hPr2.c3
       refine Y.punit F (X.w0 rfl) rfl (X.store rfl (F.ev 2 (Vp r2)) (X.kc (.slice none 0 0) rfl) (hr2.st1 (Try.siz45 _) rfl rfl (by decide))) ?_;clear F ac;intro ac F
       have hon := Y.set_only w54 r2 0 (.slice none 0 0)
       replace hOn2 := hOn2.step2 ((G.only _).trans hon) (fun r e => .inl (.inl (.inr (.inl e))))
       replace hr3 := hr3.only hon (fun e => hPr2.ne.2.2 e.symm)
       clear G
       generalize w54.setCell ⟨r2, 0, none⟩ (.slice none 0 0) = w56 at *
       have G := Gr.refl w56
       clear hon
       refine Y.punit F (X.w0 rfl) rfl (X.store rfl (F.ev 3 (Vp r3)) (X.kc (Vi 2) rfl) (hr3.st1 (Try.siz31 _) rfl rfl (by decide))) ?_;clear F ac;intro ac F
       have hon := Y.set_only w56 r3 0 (Vi 2)
       replace hOn2 := hOn2.step2 ((G.only _).trans hon) (fun r e => .inl (.inl (.inr (.inr (.inl e)))))
       clear G
       generalize w56.setCell ⟨r3, 0, none⟩ (Vi 2) = w57 at *
       have G := Gr.refl w57
       clear hon
       refine Y.nt F [(2, Vp r2), (3, Vp r3)] ?_;clear F ac;intro ac F
       refine Y.ret ?_
       refine X.blockR ?_
       have est : prvF (hopeB p (tim p)) (dearP p) (stripL Ek) xs = _ := prv_d h42 (dear_1 h43p h47p)
       exact ⟨hOn2, trivial, by rw [est]; exact decide_eq_false (by omega)⟩
   | true =>
    try rw [h42] at F
    refine Y.condT (F.ev 25 (.bool true)) ?_
    refine Y.lit (by kernel_rfl) ?_
    refine Y.pv F (X.assign rfl (X.kc (Vi 1) rfl)) ?_;clear F ac;intro ac F
    refine Y.nil ?_
    replace F : Fr ac 53 [(2, Vp r2), (3, Vp r3), (6, Vp w14.heap.size), (7, Vp w18.heap.size), (8, Vp ob), (9, Vp b), (10, Vi 1)] := F.sub _
    refine X.blockN (X.thenN ?_)
    refine Y.seq ?_
    refine Y.sg F [(2, Vp r2), (3, Vp r3), (6, Vp w14.heap.size), (7, Vp w18.heap.size), (8, Vp ob), (9, Vp b), (10, Vi 1), (41, .bool true)] (Y.pv F (X.move rfl (F.ev 10 (Vi 1))) fun ac F=>Y.pval F (X.w0 rfl) rfl (X.binop rfl (F.ev 40 (Vi 1)) (X.kc (Vi 0) rfl) (X.gtrI Try.underlying3 (show decide ((0 : Int) < 1) = true by simp))) fun ac F=>Y.fin F) ?_;clear F ac;intro ac F
    refine Y.condT (F.ev 41 (.bool true)) ?_
    refine Y.lit (by kernel_rfl) ?_
    replace hC := hC.append (show RCells w41 ([(Ad ob 0, .slice oa Ek.length oc)]) from (RCells.cons (hPr.o.cell (k := 0) (by decide)) (RCells.nil _)))
    refine Y.pv4 F (X.load rfl (F.ev 8 (Vp ob)) (X.ld1 (Try.agg45 _) (hC.at 12 rfl))) (fun _ F=>X.field rfl (F.ev 9 (Vp b)) (X.fld Try.underlying102 rfl (Try.siz34 _) rfl rfl)) (fun _ F=>X.load rfl (F.ev 43 (Vp b)) (X.ld1 (Try.agg34 _) (hC.at 8 rfl))) (fun _ F=>X.move rfl (F.ev 10 (Vi 1))) ?_;clear F ac;intro ac F
    refine Y.pv2 F (Y.bd rfl (X.b2 (F.ev 44 (.slice a xs.length c)) (F.ev 45 (Vi 1))) (Try.bd49 _ _ _ _ _)) (fun _ F=>X.bs rfl (X.b1 (F.ev 46 (.agg #[.slice a xs.length c, Vi 1]))) (Try.bs45_1 _ _ _ _ _)) ?_;clear F ac;intro ac F
    have g := Gr.alloc w41 (.cells #[.slice a xs.length c, Vi 1] 49)
    have hg9 := heap_alloc_new w41 (.cells #[.slice a xs.length c, Vi 1] 49)
    generalize w41.alloc (.cells #[.slice a xs.length c, Vi 1] 49) = w58 at *
    replace G := G.trans g
    replace hC := hC.gr g
    replace hpt := hpt.gr g
    replace hph := hph.gr g
    replace hpb := hpb.gr g
    replace hpl := hpl.gr g
    replace hVw18 := hVw18.gr g
    replace hVw23 := hVw23.gr g
    replace hD := hD.gr g
    replace hPr := hPr.gr g
    clear g
    refine Y.wpL_plain rfl fun _ hK => wp_pushV Try.underlying45 Try.info49 rfl (by decide) rfl (F.ev 42 (.slice oa Ek.length oc)) (F.ev 47 (.slice (some ⟨w41.heap.size, 0, none⟩) 1 1)) hPr.r (m := 1) (news := [.slice a xs.length c, Vi 1]) rfl (cells_at (vs := [.slice a xs.length c, Vi 1]) hg9) rfl (by omega) (by decide) hPr.BW (fun v2 w59 hO3 hon hat => hK _ _ ?_)
    refine Y.pput F rfl ?_;clear F ac;intro ac F
    have hPr2 := hPr.push (x := ⟨⟨xs, a, c⟩, 1⟩) (hBeg0.gr G) (fun ad e h => haO ad e (.inr (.inr (.inr h)))) hO3 hon hat
    have hObw := hPr.o.only hon (fun e => by have h1 := (hPr.r.ge e).1; have h2 := hPr.lt.1; omega)
    have hD3 := (hD.only hon (fun h => hdO (.inr (.inr (.inr h)))))
    obtain ⟨oa2, oc2, rfl⟩ := hO3.form
    clear hK hg9
    have hOn3 := hOn2.step2 ((G.only _).trans hon) (fun r e => .inl (.inl (.inr (.inr (.inr e)))))
    have hat3 : ∀ b, (Value.slice oa2 (Ek.length + 1) oc2).ownBlock = some b → (Value.slice oa Ek.length oc).ownBlock = some b ∨ w41.heap.size ≤ b := fun b e => by
     rcases hat with h | h
     ·exact .inl (h ▸ e)
     ·rw [h] at e; injection e with e; have := G.size; have := hOn2.size; exact .inr (by omega)
    clear hPr hD hon hat hO3 G hC
    refine Y.punit F (X.w0 rfl) rfl (X.store rfl (F.ev 8 (Vp ob)) (F.ev 48 (.slice oa2 (Ek.length + 1) oc2)) (hObw.st1 (Try.siz45 _) rfl rfl (by decide))) ?_;clear F ac;intro ac F
    have hon := Y.set_only w59 ob 0 (.slice oa2 (Ek.length + 1) oc2)
    have hD := hD3.only hon (fun h => hdO (.inl h))
    replace hOn2 := hOn3.step2 hon (fun r e => .inl (.inl (.inl e)))
    clear hOn3 hD3
    generalize w59.setCell ⟨ob, 0, none⟩ (.slice oa2 (Ek.length + 1) oc2) = w60 at *
    have G := Gr.refl w60
    clear hon
    have hC : RCells w60 [(Ad ob 0, .slice oa2 (Ek.length + 1) oc2)] := RCells.cons (hPr2.o.cell (k := 0) (by decide)) (RCells.nil _)
    refine Y.nt F [(2, Vp r2), (3, Vp r3), (6, Vp w14.heap.size), (7, Vp w18.heap.size), (8, Vp ob)] ?_;clear F ac;intro ac F
    refine Y.sg F [(2, Vp r2), (3, Vp r3), (6, Vp w14.heap.size), (7, Vp w18.heap.size), (8, Vp ob), (51, .bool (decide ((5000 : Int) < (Ek.length + 1))))] (Y.pv F (X.load rfl (F.ev 8 (Vp ob)) (X.ld1 (Try.agg45 _) (hC.at 0 rfl))) fun ac F=>Y.pv F (X.len1 Try.underlying45 rfl (F.ev 49 (.slice oa2 (Ek.length + 1) oc2))) fun ac F=>Y.pv F (X.binop rfl (F.ev 50 (Vi (Ek.length + 1))) (X.kc (Vi 5000) rfl) (X.gtrI Try.underlying3 rfl)) fun ac F=>Y.fin F) ?_;clear F ac;intro ac F
    cases h61 : decide ((5000 : Int) < (Ek.length + 1)) with
    | false =>
     try rw [h61] at F
     have h61p : ¬ ((5000 : Int) < (Ek.length + 1)) := of_decide_eq_false h61
     refine Y.condF (F.ev 51 (.bool false)) ?_
     refine Y.skip ?_
     refine X.blockN ?_
     have est : prvF (hopeB p (tim p)) (dearP p) (stripL Ek) xs = _ := prv_h h42
     refine ⟨?_, ?_, ?_, ?_⟩
     ·exact hOn2
     ·rw [est]
      refine ⟨_, _, ⟨_, _, stripL_app _ _, hPr2, rfl, rfl, by simp; omega, fun b hb => ?_⟩, fun b e => ?_⟩
      ·obtain ⟨x, hx2, ad, e, rfl⟩ := hb
       rcases List.mem_append.1 hx2 with hx2 | hx2
       ·exact hlim _ ⟨x, hx2, ad, e, rfl⟩
       ·simp at hx2; subst hx2; exact (hBeg.ge ad e).1
      ·rcases e with e | e | e | e
       ·exact .inl (.inl e)
       ·exact .inl (.inr (.inl e))
       ·exact .inl (.inr (.inr (.inl e)))
       ·exact (hat3 b e).imp (fun h => .inr (.inr (.inr h))) (fun h => h)
     ·rw [est]; exact hD
     ·rw [est]; exact decide_eq_true (by omega)
    | true =>
     try rw [h61] at F
     have h61p : ((5000 : Int) < (Ek.length + 1)) := of_decide_eq_true h61
     refine Y.condT (F.ev 51 (.bool true)) ?_
     refine Y.sl ?_
     have hr2 := hPr2.c2
     have hr3 := hPr2.c3
     refine Y.punit F (X.w0 rfl) rfl (X.store rfl (F.ev 2 (Vp r2)) (X.kc (.slice none 0 0) rfl) (hr2.st1 (Try.siz45 _) rfl rfl (by decide))) ?_;clear F ac;intro ac F
     have hon := Y.set_only w60 r2 0 (.slice none 0 0)
     replace hOn2 := hOn2.step2 ((G.only _).trans hon) (fun r e => .inl (.inl (.inr (.inl e))))
     replace hr3 := hr3.only hon (fun e => hPr2.ne.2.2 e.symm)
     clear G
     generalize w60.setCell ⟨r2, 0, none⟩ (.slice none 0 0) = w62 at *
     have G := Gr.refl w62
     clear hon
     refine Y.punit F (X.w0 rfl) rfl (X.store rfl (F.ev 3 (Vp r3)) (X.kc (Vi 2) rfl) (hr3.st1 (Try.siz31 _) rfl rfl (by decide))) ?_;clear F ac;intro ac F
     have hon := Y.set_only w62 r3 0 (Vi 2)
     replace hOn2 := hOn2.step2 ((G.only _).trans hon) (fun r e => .inl (.inl (.inr (.inr (.inl e)))))
     clear G
     generalize w62.setCell ⟨r3, 0, none⟩ (Vi 2) = w63 at *
     have G := Gr.refl w63
     clear hon
     refine Y.nt F [(2, Vp r2), (3, Vp r3)] ?_;clear F ac;intro ac F
     refine Y.ret ?_
     refine X.blockR ?_
     have est : prvF (hopeB p (tim p)) (dearP p) (stripL Ek) xs = _ := prv_h h42
     exact ⟨hOn2, trivial, by rw [est]; exact decide_eq_false (by omega)⟩
  ·intro ss O Kp w64 ac hV hQ hK hOs hmk F
   clear G hC
   have hmk := hmk
   have hsw := hQ.size
   have G : Gr w w64 := ((Gl.only (fun b => w.heap.size ≤ b)).trans (hQ.mono' (fun i e => by omega)) |>.gr (fun i hi e => by omega))
   have hC := (RCells.cons (hQ.cell (hCl.at 0 rfl) (by simp only; omega)) (RCells.cons (hQ.cell (hCl.at 1 rfl) (by simp only; omega)) (RCells.cons (hQ.cell (hCl.at 2 rfl) (by simp only; omega)) (RCells.cons (hQ.cell (hCl.at 3 rfl) (by simp only; omega)) (RCells.cons (hQ.cell (hCl.at 4 rfl) (by simp only; omega)) (RCells.cons (hQ.cell (hCl.at 5 rfl) (by simp only; omega)) (RCells.cons (hQ.cell (hCl.at 6 rfl) (by simp only; omega)) (RCells.cons (hQ.cell (hCl.at 7 rfl) (by simp only; omega)) (RCells.nil _)))))))))
   replace hpt := (hP.t).gr G
   replace hph := (hP.h).gr G
   replace hpb := (hP.b).gr G
   replace hpl := (hP.l).gr G
   replace hVw18 := hVw18.only hQ (by first | omega | (simp only; omega))
   replace hVw23 := hVw23.only hQ (by first | omega | (simp only; omega))
   rw [prv_vis hsm] at hV
   injection hV with hV
   obtain ⟨v, Ek, hst, hPr, rfl, rfl, hEl, hlim⟩ := hK
   obtain ⟨oa, oc, rfl⟩ := hPr.r.form
   have hob := hPr.o
   have hr2 := hPr.c2
   have hr3 := hPr.c3
   obtain ⟨hl1, hl2, hl3⟩ := hPr.lt
   obtain ⟨hn1, hn2, hn3⟩ := hPr.ne
   have hfin := Only.refl (fun b => b = r2 ∨ b = r3) w64

   refine X.blockN (X.thenN ?_)
   refine Y.sl ?_
   replace hC := hC.append (show RCells w64 ([(Ad ob 0, .slice oa Ek.length oc)]) from (RCells.cons (hob.cell (k := 0) (by omega)) (RCells.nil _)))
   refine Y.pv F (X.load rfl (F.ev 8 (Vp ob)) (X.ld1 (Try.agg45 _) (hC.at 8 rfl))) ?_;clear F ac;intro ac F
   refine Y.punit F (X.w0 rfl) rfl (X.store rfl (F.ev 2 (Vp r2)) (F.ev 52 (.slice oa Ek.length oc)) (hr2.st1 (Try.siz45 _) rfl rfl (by omega))) ?_;clear F ac;intro ac F
   have hon := Y.set_only w64 r2 0 (.slice oa Ek.length oc)
   have hV2 := hr2.set (k := 0) (.slice oa Ek.length oc)
   replace hV2 := hV2.congr (val' := fun _ => .slice oa Ek.length oc) (fun k hk => if_pos (by omega))
   generalize w64.setCell ⟨r2, 0, none⟩ (.slice oa Ek.length oc) = w66 at *
   replace hr2 : OwnP w66 r2 1 (fun _ => .slice oa Ek.length oc) := hV2
   clear hV2
   replace hmk := (hon.block _ (Array.getElem?_eq_some_iff.1 hmk).1 (by first | omega | (simp only; omega))).trans hmk
   replace hfin := hfin.step2 hon (fun r e => by first | exact .inl (.inl e) | exact .inl (.inr e))
   replace G := Y.Only.up G hon (by omega)
   replace hpt := (hP.t).gr G
   replace hph := (hP.h).gr G
   replace hpb := (hP.b).gr G
   replace hpl := (hP.l).gr G
   replace hVw18 := hVw18.only hon (by show ¬ _ = _; omega)
   replace hVw23 := hVw23.only hon (by show ¬ _ = _; omega)
   replace hob := hob.only hon (by show ¬ _ = _; omega)
   replace hr3 := hr3.only hon (by show ¬ _ = _; omega)
   replace hC := (hC.kc hon 0 rfl (hC.kc hon 1 rfl (hC.kc hon 2 rfl (hC.kc hon 3 rfl (hC.kc hon 4 rfl (hC.kc hon 5 rfl (hC.kc hon 6 rfl (hC.kc hon 7 rfl (RCells.nil _)))))))))
   clear hon
   refine Y.punit F (X.w0 rfl) rfl (X.store rfl (F.ev 3 (Vp r3)) (X.kc (Vi 0) rfl) (hr3.st1 (Try.siz31 _) rfl rfl (by omega))) ?_;clear F ac;intro ac F
   have hon := Y.set_only w66 r3 0 (Vi 0)
   have hV2 := hr3.set (k := 0) (Vi 0)
   replace hV2 := hV2.congr (val' := fun _ => Vi 0) (fun k hk => if_pos (by omega))
   generalize w66.setCell ⟨r3, 0, none⟩ (Vi 0) = w68 at *
   replace hr3 : OwnP w68 r3 1 (fun _ => Vi 0) := hV2
   clear hV2
   replace hmk := (hon.block _ (Array.getElem?_eq_some_iff.1 hmk).1 (by first | omega | (simp only; omega))).trans hmk
   replace hfin := hfin.step2 hon (fun r e => by first | exact .inl (.inl e) | exact .inl (.inr e))
   replace G := Y.Only.up G hon (by omega)
   replace hpt := (hP.t).gr G
   replace hph := (hP.h).gr G
   replace hpb := (hP.b).gr G
   replace hpl := (hP.l).gr G
   replace hVw18 := hVw18.only hon (by show ¬ _ = _; omega)
   replace hVw23 := hVw23.only hon (by show ¬ _ = _; omega)
   replace hob := hob.only hon (by show ¬ _ = _; omega)
   replace hr2 := hr2.only hon (by show ¬ _ = _; omega)
   replace hC := (hC.kc hon 0 rfl (hC.kc hon 1 rfl (hC.kc hon 2 rfl (hC.kc hon 3 rfl (hC.kc hon 4 rfl (hC.kc hon 5 rfl (hC.kc hon 6 rfl (hC.kc hon 7 rfl (RCells.nil _)))))))))
   clear hon
   refine Y.nt F [(2, Vp r2), (3, Vp r3)] ?_;clear F ac;intro ac F
   refine Y.ret ?_
   have hpn : ∀ (x : Nat), x < w34.heap.size → ¬ x = w34.heap.size := fun x h => by omega
   refine ret_mark F hmk (Y.rcc2 F rfl (Try.agg45 _) (Try.agg31 _) (by kernel_rfl) (by kernel_rfl) ((hr2.only (putObj_only _ _ _) (hpn _ hl2)).cell (k := 0) (by decide)) ((hr3.only (putObj_only _ _ _) (hpn _ hl3)).cell (k := 0) (by decide))) (fun W2 hW2 => ?_)
   refine ⟨oa, oc, Ek, by rw [hck], ?_, ?_, ?_, Y.Only.up G hW2 (by omega)⟩
   ·have hRo := hPr.r.only hfin (fun b e h => ?_)
    ·refine lf_own (hRo.only hW2 (fun b e h => ?_)) (fun x hx => (((hPr.b x hx).only hfin (fun ad e h => ?_)).only hW2 (fun ad e h => ?_)).i)
     ·rcases hOs b (.inr (.inr (.inr e))) with h9 | h9 <;> (first | omega | (simp only at h9 h; omega))
     ·have := ((hPr.b x hx).ge ad e).1; first | omega | (simp only at h; omega)
     ·have := hlim _ ⟨x, hx, ad, e, rfl⟩; first | omega | (simp only at h; omega)
    ·have := (hPr.r.ge e).1; first | omega | (simp only at h; omega)
   ·rw [hst, ← hV, prv_1 hck]
   ·have h9 := prv_len hsm (dear := dearP p); rw [hV, ← hst, stripL_len] at h9; exact h9
  ·exact fun c W A h _ _ _ => by rw [prv_vis hsm] at h; cases h
 | true =>
  try rw [h13] at F
  have h13p : ¬ (chkE p : Int) = 0 := by simpa using h13
  refine Y.condT (F.ev 14 (.bool true)) ?_
  refine Y.sl ?_
  refine Y.pv F (X.move rfl (F.ev 4 (Vi (chkE p)))) ?_;clear F ac;intro ac F
  refine Y.punit F (X.w0 rfl) rfl (X.store rfl (F.ev 2 (Vp w6.heap.size)) (X.kc (.slice none 0 0) rfl) (hVw8.st1 (Try.siz45 _) rfl rfl (by omega))) ?_;clear F ac;intro ac F
  have hon := Y.set_only w12 w6.heap.size 0 (.slice none 0 0)
  have hV2 := hVw8.set (k := 0) (.slice none 0 0)
  replace hV2 := hV2.congr (val' := fun _ => .slice none 0 0) (fun k hk => if_pos (by omega))
  generalize w12.setCell ⟨w6.heap.size, 0, none⟩ (.slice none 0 0) = w70 at *
  replace hVw8 : OwnP w70 w6.heap.size 1 (fun _ => .slice none 0 0) := hV2
  clear hV2
  replace G := Y.Only.up G hon (by omega)
  replace hpt := (hP.t).gr G
  replace hph := (hP.h).gr G
  replace hpb := (hP.b).gr G
  replace hpl := (hP.l).gr G
  replace hVw11 := hVw11.only hon (by show ¬ _ = _; omega)
  replace hC := (hC.kc hon 0 rfl (hC.kc hon 1 rfl (hC.kc hon 2 rfl (hC.kc hon 3 rfl (RCells.nil _)))))
  clear hon
  refine Y.punit F (X.w0 rfl) rfl (X.store rfl (F.ev 3 (Vp w8.heap.size)) (F.ev 15 (Vi (chkE p))) (hVw11.st1 (Try.siz31 _) rfl rfl (by omega))) ?_;clear F ac;intro ac F
  have hon := Y.set_only w70 w8.heap.size 0 (Vi (chkE p))
  have hV2 := hVw11.set (k := 0) (Vi (chkE p))
  replace hV2 := hV2.congr (val' := fun _ => Vi (chkE p)) (fun k hk => if_pos (by omega))
  generalize w70.setCell ⟨w8.heap.size, 0, none⟩ (Vi (chkE p)) = w72 at *
  replace hVw11 : OwnP w72 w8.heap.size 1 (fun _ => Vi (chkE p)) := hV2
  clear hV2
  replace G := Y.Only.up G hon (by omega)
  replace hpt := (hP.t).gr G
  replace hph := (hP.h).gr G
  replace hpb := (hP.b).gr G
  replace hpl := (hP.l).gr G
  replace hVw8 := hVw8.only hon (by show ¬ _ = _; omega)
  replace hC := (hC.kc hon 0 rfl (hC.kc hon 1 rfl (hC.kc hon 2 rfl (hC.kc hon 3 rfl (RCells.nil _)))))
  clear hon
  refine Y.nt F [(2, Vp w6.heap.size), (3, Vp w8.heap.size)] ?_;clear F ac;intro ac F
  refine Y.ret ?_
  refine X.thenR ?_
  exact Y.ret0 F (Y.rcc2 F rfl (Try.agg45 _) (Try.agg31 _) (by kernel_rfl) (by kernel_rfl) (hVw8.cell (k := 0) (by decide)) (hVw11.cell (k := 0) (by decide))) ⟨none, 0, [], rfl, LfAt.nil _ _, by rw [prv_0 (by omega)]; rfl, by decide, G⟩
end
section
set_option linter.unusedVariables false
open Go.RowKit
/-- leaves in a slice of the call's own -/
structure LvAt (W : World) (B : Nat) (v : Value) (E : List LfE) : Prop where
  o : OwnR W B 49 2 v E.length (lfsV E)
  i : ∀ x ∈ E, Ints W x.b.a x.b.xs.length x.b.xs
  n : ∀ x ∈ E, ∀ ad, x.b.a = some ad → v.ownBlock ≠ some ad.block ∧ ad.block < W.heap.size
section
variable {W W' : World} {B : Nat} {v : Value} {E : List LfE}
theorem LvAt.gr (h : LvAt W B v E) (g : Gr W W') : LvAt W' B v E :=
  ⟨h.o.gr g, fun x hx => (h.i x hx).gr g, fun x hx ad e => ⟨(h.n x hx ad e).1, Nat.lt_of_lt_of_le (h.n x hx ad e).2 g.size⟩⟩
theorem LvAt.nil (W : World) (B : Nat) : LvAt W B (.slice none 0 0) [] := ⟨OwnR.nil _ _ _ _, fun x hx => (by simp at hx), fun x hx => (by simp at hx)⟩
theorem LvAt.form (h : LvAt W B v E) : ∃ a c, v = .slice a E.length c := h.o.form
theorem LvAt.lf {a : Option Addr} {c : Nat} (h : LvAt W B (.slice a E.length c) E) : LfAt W a E := lf_own h.o h.i
/-- where a slice is behind an append -/
def Moved (W : World) (v v2 : Value) : Prop := v2.ownBlock = v.ownBlock ∨ ∃ b, v2.ownBlock = some b ∧ W.heap.size ≤ b
theorem Moved.refl (W : World) (v : Value) : Moved W v v := .inl rfl
theorem Moved.trans {v v2 v3 : Value} (h : Moved W v v2) (k : Moved W' v2 v3) (hs : W.heap.size ≤ W'.heap.size) : Moved W v v3 := by
  rcases k with k | ⟨b, k1, k2⟩
  · unfold Moved; rw [k]; exact h
  · exact .inr ⟨b, k1, Nat.le_trans hs k2⟩
theorem Moved.of {v v2 : Value} {b : Nat} (h : Moved W v v2) (e : v2.ownBlock = some b) : v.ownBlock = some b ∨ W.heap.size ≤ b := by
  rcases h with h | ⟨c, h1, h2⟩
  · exact .inl (h ▸ e)
  · rw [h1] at e; injection e with e; subst e; exact .inr h2
theorem Moved.ne {v v2 : Value} {b : Nat} (h : Moved W v v2) (k : v.ownBlock ≠ some b) (hb : b < W.heap.size) : v2.ownBlock ≠ some b := fun e => by
  rcases h.of e with h | h
  · exact k h
  · omega
/-- one more leaf -/
theorem LvAt.push {v2 : Value} {x : LfE} (h : LvAt W B v E) (hi : Ints W x.b.a x.b.xs.length x.b.xs) (hn : ∀ ad, x.b.a = some ad → ad.block < W.heap.size ∧ v.ownBlock ≠ some ad.block) (hO : OwnR W' B 49 2 v2 (E.length + 1) (lfsV E ++ [.slice x.b.a x.b.xs.length x.b.c, .int .i64 x.why]))
    (hon : Only (fun b => v.ownBlock = some b) W W') (hat : v2.ownBlock = v.ownBlock ∨ v2.ownBlock = some W.heap.size) : LvAt W' B v2 (E ++ [x]) ∧ Moved W v v2 := by
  have hx : ∀ y ∈ E ++ [x], Ints W y.b.a y.b.xs.length y.b.xs ∧ ∀ ad, y.b.a = some ad → v.ownBlock ≠ some ad.block ∧ ad.block < W.heap.size := fun y hy => by
    rcases List.mem_append.1 hy with hy | hy
    · exact ⟨h.i y hy, h.n y hy⟩
    · simp at hy; subst hy; exact ⟨hi, fun ad e => ⟨(hn ad e).2, (hn ad e).1⟩⟩
  have hM : Moved W v v2 := hat.imp (fun h => h) (fun h => ⟨_, h, Nat.le_refl _⟩)
  refine ⟨⟨by rw [List.length_append, lfs_app]; exact hO, fun y hy => (hx y hy).1.onlyAt hon (fun ad e => ((hx y hy).2 ad e).1), fun y hy ad e => ?_⟩, hM⟩
  obtain ⟨k1, k2⟩ := (hx y hy).2 ad e
  exact ⟨hM.ne k1 k2, Nat.lt_of_lt_of_le k2 hon.size⟩
end
/-- the same search, with leaves that are passed on -/
theorem lvs_s {nh k : Nat} {hope dear : List Int → Bool} {xs : List Int} {n : Nat} : flatN (fun h => lvsF nh hope dear k (xs ++ [(h : Int)])) (n + 1) = flatN (fun h => lvsF nh hope dear k (xs ++ [(h : Int)])) n ++ lvsF nh hope dear k (xs ++ [(n : Int)]) := rfl
theorem lvs_room {nh k : Nat} {hope dear : List Int → Bool} {xs : List Int} {n e : Nat} (h4 : nh ≤ 4) (hn : n < nh) (he : e + 4 ^ (k + 1) ≤ 5000) : e + (flatN (fun h => lvsF nh hope dear k (xs ++ [(h : Int)])) n).length + 4 ^ k ≤ 5000 := by
  have hf := flatN_len (f := fun h : Nat => lvsF nh hope dear k (xs ++ [(h : Int)])) (k := 4 ^ k) (n := n) (fun h _ => lvs_len h4)
  have hm : (n + 1) * 4 ^ k ≤ 4 * 4 ^ k := Nat.mul_le_mul_right _ (by omega)
  rw [Nat.add_mul] at hm
  rw [Nat.pow_succ] at he
  omega
end
section
open Go.RowKit

section
variable {p : Pb} {xs : List Int} {wh : Bool}
end
section
variable {p : Pb} {xs : List Int}
theorem hund_100 (p : Pb) : hund p 100 = tim p := by
  funext i; unfold hund tim; omega
end
end
section
open Go.RowKit
end
section
open Go.RowKit
end
section
open Go.RowKit

set_option maxRecDepth 100000 in
set_option maxHeartbeats 400000 in
theorem withL_any (a : Option Addr) (c : Nat) (xs : List Int) (x : Int) (w : World) (hX : Ints w a xs.length xs) (hl : xs.length ≤ 1000) :
  Calls Try.prog 101 #[.slice a xs.length c, Vi x] w fun e w' => ∃ g c', e = .returned (.slice (some ⟨g, 0, none⟩) (xs ++ [x]).length c') ∧ BegAt w' w.heap.size (some ⟨g, 0, none⟩) c' (xs ++ [x]) ∧ Gr w w' := by
 have G := Gr.refl w
 have hxs := hX
 have hgz := Nat.le_refl w.heap.size
 refine Y.calls 11 Try.func101 rfl rfl ?_
 intro ac F0
 have F : Fr ac 11 [(0, .slice a xs.length c), (1, Vi x)] := F0.sub _
 clear F0
 refine Y.sg F [(0, .slice a xs.length c), (1, Vi x)] (Y.pv F (X.assign rfl (X.kc (.slice none 0 0) rfl)) fun ac F=>Y.fin F) ?_;clear F ac;intro ac F
 refine Y.sl ?_
 refine Y.pv F (X.bs rfl X.bs0 (Try.bs34_0 _)) ?_;clear F ac;intro ac F
 have g := Gr.alloc w (.cells #[] 3)
 have hO := ownR_new (k := 1) (heap_alloc_new w (.cells #[] 3)) (Nat.le_refl _)
 generalize w.alloc (.cells #[] 3) = w3 at *
 replace G := G.trans g
 replace hxs := hxs.gr g
 clear g
 refine Y.pv F (X.move rfl (F.ev 0 (.slice a xs.length c))) ?_;clear F ac;intro ac F
 obtain ⟨ra, rc, w4, hrun, hO2, g⟩ := run_copyN (P := Try.prog) (ts := 34) Try.underlying34 Try.info3 rfl (by decide) hO (ints_tb hxs).2 (by rw [List.length_map, Nat.mul_one]) (ints_tb hxs).1 (ints_all xs) (by omega) (by decide) G.size
 refine Y.pv F (Y.apz rfl (F.ev 5 (.slice (some ⟨w.heap.size, 0, none⟩) 0 0)) (F.ev 6 (.slice a xs.length c)) hrun) ?_
 clear F ac hrun
 intro ac F
 replace G := G.trans g
 replace hxs := hxs.gr g
 refine Y.pv2 F (X.move rfl (F.ev 1 (Vi x))) (fun _ F=>X.bs rfl (X.b1 (F.ev 8 (Vi x))) (Try.bs34_1 _ _)) ?_;clear F ac;intro ac F
 have g := Gr.alloc w4 (.cells #[Vi x] 3)
 have hg9 := heap_alloc_new w4 (.cells #[Vi x] 3)
 replace hO2 := hO2.gr g
 generalize w4.alloc (.cells #[Vi x] 3) = w5 at *
 replace G := G.trans g
 replace hxs := hxs.gr g
 clear g
 refine Y.wpL_plain rfl fun _ hK => wp_pushV Try.underlying34 Try.info3 rfl (by decide) rfl (F.ev 7 (.slice ra xs.length rc)) (F.ev 9 (.slice (some ⟨w4.heap.size, 0, none⟩) 1 1)) hO2 (m := 1) (news := [Vi x]) rfl (cells_at (vs := [Vi x]) hg9) rfl (by omega) (by decide) (Nat.le_trans hgz G.size) (fun v2 w6 hO3 hon hat => hK _ _ ?_)
 refine Y.pput F rfl ?_
 clear F ac hat
 intro ac F
 obtain ⟨g5, c5, rfl, hb5⟩ := OwnR.beg (xs := xs ++ [x]) (by rw [List.map_append, List.length_append]; exact hO3) (by simp; omega) (by simp)
 replace G := OnlyG G hon (fun b e => Nat.le_trans hgz (hO2.ge e).1)
 refine Y.pv F (X.assign rfl (F.ev 10 (.slice (some ⟨g5, 0, none⟩) ((xs ++ [x]).length) c5))) ?_;clear F ac;intro ac F
 refine Y.nt F [(4, .slice (some ⟨g5, 0, none⟩) ((xs ++ [x]).length) c5)] ?_;clear F ac;intro ac F
 refine Y.ret ?_
 exact Y.ret0 (v := .slice (some ⟨g5, 0, none⟩) ((xs ++ [x]).length) c5) F (Y.r1 F) ⟨g5, c5, rfl, hb5.lower hgz, G⟩
/-- what the reference's search returns from a beginning on, with m tasks to come -/
def AllC (p : Pb) (ta ha ba la : Option Addr) (tc hc bc lc m : Nat) : Prop :=
 ∀ (xs : List Int) (a : Option Addr) (c : Nat) (w : World), PbAt w p ta ha ba la tc hc bc lc → xs.length + m = p.nt → HosOk p xs → Ints w a xs.length xs → (∀ ad, a = some ad → ad.block < w.heap.size) →
  Calls Try.prog 68 #[.agg #[.slice ta p.nt tc, .slice ha p.nh hc, .slice ba p.nb bc, .slice la p.nl lc], .slice a xs.length c] w fun e w' =>
   ∃ v E, e = .returned v ∧ RwAt w' w.heap.size v E ∧ E.map BegE.xs = allF p.nh (hopeB p (tim p)) m xs ∧ (∀ x ∈ E, x.a = a ∨ ∀ ad, x.a = some ad → w.heap.size ≤ ad.block) ∧ Gr w w'
set_option maxRecDepth 100000 in
set_option maxHeartbeats 2000000 in
theorem all_step (p : Pb) (ta ha ba la : Option Addr) (tc hc bc lc : Nat) (m : Nat) (hp : PbOk p) (hsm : p.nt ≤ 5 ∧ p.nh ≤ 4) (ih : ∀ k, m = k + 1 → AllC p ta ha ba la tc hc bc lc k)
  (xs : List Int) (a : Option Addr) (c : Nat) (w : World) (hP : PbAt w p ta ha ba la tc hc bc lc) (hm : xs.length + m = p.nt) (hx : HosOk p xs) (hX : Ints w a xs.length xs) (hXb : ∀ ad, a = some ad → ad.block < w.heap.size) :
  Calls Try.prog 68 #[.agg #[.slice ta p.nt tc, .slice ha p.nh hc, .slice ba p.nb bc, .slice la p.nl lc], .slice a xs.length c] w fun e w' => ∃ v E, e = .returned v ∧ RwAt w' w.heap.size v E ∧ E.map BegE.xs = allF p.nh (hopeB p (tim p)) m xs ∧ (∀ x ∈ E, x.a = a ∨ ∀ ad, x.a = some ad → w.heap.size ≤ ad.block) ∧ Gr w w' := by
 have G := Gr.refl w
 have hpt := hP.t
 have hph := hP.h
 have hpb := hP.b
 have hpl := hP.l
 have hplen := hP.len
 obtain ⟨hn1, hn2, hn3, hn4⟩ := hplen
 have hcp1 := hpt.cap
 have hcp2 := hph.cap
 have hcp3 := hpb.cap
 have hcp4 := hpl.cap
 have hxs := hX
 have hlen : xs.length ≤ p.nt := by omega
 have hs1 := hsm.1
 have hs2 := hsm.2
 refine Y.calls 33 Try.func68 rfl rfl ?_
 intro ac F0
 have F : Fr ac 33 [(0, .agg #[.slice ta p.nt tc, .slice ha p.nh hc, .slice ba p.nb bc, .slice la p.nl lc]), (1, .slice a xs.length c)] := F0.sub _
 clear F0
 refine Y.sl ?_
 have hgs3 : w.heap.size ≤ w.heap.size := G.size
 refine Y.pv F (X.box rfl (F.ev 0 (.agg #[.slice ta p.nt tc, .slice ha p.nh hc, .slice ba p.nb bc, .slice la p.nl lc])) X.bx) ?_;clear F ac;intro ac F
 have hgs5 : w.heap.size ≤ w.heap.size := G.size
 obtain ⟨w6, hw_, g, hb, hbl, hC2⟩ := Y.bxd (RCells.nil w) #[.slice ta p.nt tc, .slice ha p.nh hc, .slice ba p.nb bc, .slice la p.nl lc] 27;rw [hw_];clear hw_
 replace G := G.trans g
 have hC := hC2
 clear hC2
 replace hpt := hpt.gr g
 replace hph := hph.gr g
 replace hpb := hpb.gr g
 replace hpl := hpl.gr g
 replace hxs := hxs.gr g
 have hsz4 := hbl
 clear g hb hbl
 refine Y.pv F (X.assign rfl (X.kc (.slice none 0 0) rfl)) ?_;clear F ac;intro ac F
 refine Y.nt F [(1, .slice a xs.length c), (2, Vp w.heap.size)] ?_;clear F ac;intro ac F
 refine Y.seq ?_
 refine Y.sl ?_
 refine Y.pv2 F (X.load rfl (F.ev 2 (Vp w.heap.size)) (X.ldN (Try.agg27 _) (Try.siz27 _) (Y.atz (⟨w.heap.size, 0, none⟩) (Y.AtFrom.cons (hC.at 0 rfl) (Y.AtFrom.cons (hC.at 1 rfl) (Y.AtFrom.cons (hC.at 2 rfl) (Y.AtFrom.cons (hC.at 3 rfl) (Y.AtFrom.nil _ _ _)))))))) (fun _ F=>X.move rfl (F.ev 1 (.slice a xs.length c))) ?_;clear F ac;intro ac F
 refine Y.pc F 75 (X.a3 (F.ev 7 (.agg #[.slice ta p.nt tc, .slice ha p.nh hc, .slice ba p.nb bc, .slice la p.nl lc])) (F.ev 8 (.slice a xs.length c)) (X.kc (Vi 100) rfl)) Try.func75 (by have hq := hop2_any p ta ha ba la tc hc bc lc a c xs 100 w6 (hP.gr G) (hX.gr G) hp hx hlen (by decide); rw [hund_100] at hq; exact hq) ?_
 clear F ac
 rintro e w7 ⟨rfl, g⟩
 refine ⟨_, rfl, ?_⟩
 intro ac F
 replace G := G.trans g
 replace hC := hC.gr g
 replace hpt := hpt.gr g
 replace hph := hph.gr g
 replace hpb := hpb.gr g
 replace hpl := hpl.gr g
 replace hxs := hxs.gr g
 clear g
 refine Y.nt F [(1, .slice a xs.length c), (2, Vp w.heap.size), (9, .bool (hopeB p (tim p) xs))] ?_;clear F ac;intro ac F
 cases h8 : hopeB p (tim p) xs with
 | false =>
  try rw [h8] at F
  refine Y.condF (F.ev 9 (.bool false)) ?_
  refine Y.skip ?_
  refine X.thenN ?_
  refine Y.seq ?_
  refine Y.sg F [(1, .slice a xs.length c), (2, Vp w.heap.size), (15, .bool ((xs.length : Int) == p.nt))] (by
   refine Y.pv F (X.move rfl (F.ev 1 (.slice a xs.length c))) fun ac F=>?_
   refine Y.pv F (X.len1 Try.underlying34 rfl (F.ev 10 (.slice a xs.length c))) fun ac F=>?_
   refine Y.pv F (X.field rfl (F.ev 2 (Vp w.heap.size)) (X.fld Try.underlying27 rfl (Try.siz22 _) rfl rfl)) fun ac F=>?_
   refine Y.pv F (X.load rfl (F.ev 12 (Vp w.heap.size)) (X.ld1 (Try.agg22 _) (hC.at 0 rfl))) fun ac F=>?_
   refine Y.pv F (X.len1 Try.underlying22 rfl (F.ev 13 (.slice ta p.nt tc))) fun ac F=>?_
   refine Y.pv F (X.binop rfl (F.ev 11 (Vi xs.length)) (F.ev 14 (Vi p.nt)) (X.eqlI Try.underlying3 rfl)) fun ac F=>?_
   exact Y.fin F) ?_;clear F ac;intro ac F
  cases h9 : ((xs.length : Int) == p.nt) with
  | false =>
   try rw [h9] at F
   have h9p : ¬ (xs.length : Int) = p.nt := by simpa using h9
   obtain ⟨k, rfl⟩ : ∃ k, m = k + 1 := ⟨m - 1, by omega⟩
   refine Y.condF (F.ev 15 (.bool false)) ?_
   refine Y.skip ?_
   refine X.thenN ?_
   refine Y.sg F [(1, .slice a xs.length c), (2, Vp w.heap.size), (5, .slice none 0 0)] (Y.pv F (X.assign rfl (X.kc (.slice none 0 0) rfl)) fun ac F=>Y.fin F) ?_;clear F ac;intro ac F
   refine Y.seq ?_
   refine Y.sg F [(1, .slice a xs.length c), (2, Vp w.heap.size), (5, .slice none 0 0), (6, Vi 0)] (Y.pv F (X.assign rfl (X.kc (Vi 0) rfl)) fun ac F=>Y.fin F) ?_;clear F ac;intro ac F
   refine Y.block ?_
   have hwl0 : w.heap.size ≤ w7.heap.size := G.size
   have hbp7 : w.heap.size < w7.heap.size := lt_cell (hC.at 0 rfl)
   refine Y.loop (fun me_ ac wr => ∃ (h : Nat) (E : List BegE) (oa : Option Addr) (oc : Nat), me_ = p.nh - h ∧ Only (fun b => False) w7 wr ∧ h ≤ p.nh ∧ RwAt wr w7.heap.size (.slice oa E.length oc) E ∧ E.map BegE.xs = flatN (fun h : Nat => allF p.nh (hopeB p (tim p)) k (xs ++ [(h : Int)])) h ∧ (∀ x ∈ E, ∀ ad, x.a = some ad → w.heap.size ≤ ad.block) ∧ Fr ac 33 [(1, .slice a xs.length c), (2, Vp w.heap.size), (5, .slice oa E.length oc), (6, Vi h)]) _ ⟨0, [], none, 0, rfl, Only.refl _ _, Nat.zero_le _, RwAt.nil _ _, rfl, fun x hx => (by simp at hx), F.sub _⟩ ?_
   have hptB1 := hpt
   have hphB1 := hph
   have hpbB1 := hpb
   have hplB1 := hpl
   have hxsB1 := hxs
   have GB1 := G
   have hCB1 := hC
   clear F ac
   intro me_ ac w10 hI
   obtain ⟨h, E, oa, oc, rfl, hO1, hh, hRw, hmap, hbk, F⟩ := hI
   replace G := GB1.trans (hO1.gr (fun _ _ h => h))
   replace hpt := (hP.t).gr G
   replace hph := (hP.h).gr G
   replace hpb := (hP.b).gr G
   replace hpl := (hP.l).gr G
   replace hxs := (hX).gr G
   replace hC := (RCells.cons (hO1.cell (hCB1.at 0 rfl) (fun h => h)) (RCells.cons (hO1.cell (hCB1.at 1 rfl) (fun h => h)) (RCells.cons (hO1.cell (hCB1.at 2 rfl) (fun h => h)) (RCells.cons (hO1.cell (hCB1.at 3 rfl) (fun h => h)) (RCells.nil _)))))
   refine Y.seq ?_
   refine Y.sg F [(1, .slice a xs.length c), (2, Vp w.heap.size), (5, .slice oa E.length oc), (6, Vi h), (22, .bool (decide ((h : Int) < p.nh)))] (by
    refine Y.pv F (X.move rfl (F.ev 6 (Vi h))) fun ac F=>?_
    refine Y.pv F (X.field rfl (F.ev 2 (Vp w.heap.size)) (X.fld Try.underlying27 rfl (Try.siz23 _) rfl rfl)) fun ac F=>?_
    refine Y.pv F (X.load rfl (F.ev 19 (.pointer (some ⟨w.heap.size, 1, none⟩))) (X.ld1 (Try.agg23 _) (hC.at 1 rfl))) fun ac F=>?_
    refine Y.pv F (X.len1 Try.underlying23 rfl (F.ev 20 (.slice ha p.nh hc))) fun ac F=>?_
    refine Y.pv F (X.binop rfl (F.ev 18 (Vi h)) (F.ev 21 (Vi p.nh)) (X.lssI Try.underlying3 rfl)) fun ac F=>?_
    exact Y.fin F) ?_;clear F ac;intro ac F
   cases h11 : decide ((h : Int) < p.nh) with
   | false =>
    try rw [h11] at F
    have h11p : ¬ ((h : Int) < p.nh) := of_decide_eq_false h11
    obtain rfl : h = p.nh := by omega
    refine Y.condF (F.ev 22 (.bool false)) ?_
    refine Y.exit ?_
    refine X.thenX (X.thenX (X.blockX (X.thenN ?_)))
    refine Y.sg F [(4, .slice oa E.length oc)] (Y.pv F (X.move rfl (F.ev 5 (.slice oa E.length oc))) fun ac F=>Y.pv F (X.assign rfl (F.ev 32 (.slice oa E.length oc))) fun ac F=>Y.fin F) ?_;clear F ac;intro ac F
    refine Y.ret ?_
    exact Y.ret0 (v := .slice oa E.length oc) F (Y.r1 F) ⟨_, E, rfl, hRw.lower hwl0, by rw [all_in h8]; exact hmap, fun x hx => .inr (hbk x hx), G⟩
   | true =>
    try rw [h11] at F
    have h11p : ((h : Int) < p.nh) := of_decide_eq_true h11
    have hi2 : h < p.nh := by omega
    refine Y.condT (F.ev 22 (.bool true)) ?_
    refine Y.skip ?_
    refine X.thenN ?_
    refine Y.seq ?_
    refine Y.block ?_
    have hOs := hO1.size
    have hwq : w.heap.size ≤ w10.heap.size := G.size
    have hE1 : E.length ≤ 4096 := by
     have h1 := congrArg List.length hmap
     rw [List.length_map] at h1
     have h2 := flatN_len (f := (fun h : Nat => allF p.nh (hopeB p (tim p)) k (xs ++ [(h : Int)]))) (k := 4 ^ k) (n := h) (fun h _ => allF_len hsm.2 k _)
     have h3 := pow_le (m := k) (by omega)
     have h4 := Nat.mul_le_mul (show h ≤ 4 by omega) h3
     omega
    obtain ⟨Ta, hTa⟩ : ∃ T : Value → World → Prop, T = fun v W => ∃ g4 c4, v = .slice (some ⟨g4, 0, none⟩) (xs ++ [(h : Int)]).length c4 ∧ BegAt W w10.heap.size (some ⟨g4, 0, none⟩) c4 (xs ++ [(h : Int)]) := ⟨_, rfl⟩
    obtain ⟨Tb, hTb⟩ : ∃ T : Value → World → Prop, T = fun v W => ∃ E2 : List BegE, RwAt W w10.heap.size v E2 ∧ E2.map BegE.xs = allF p.nh (hopeB p (tim p)) k (xs ++ [(h : Int)]) ∧ ∀ x ∈ E2, ∀ ad, x.a = some ad → w10.heap.size ≤ ad.block := ⟨_, rfl⟩
    obtain ⟨Tc, hTc⟩ : ∃ T : Value → World → Prop, T = fun v W => ∃ E2 : List BegE, E2.map BegE.xs = allF p.nh (hopeB p (tim p)) k (xs ++ [(h : Int)]) ∧ (∀ x ∈ E2, ∀ ad, x.a = some ad → w10.heap.size ≤ ad.block) ∧ RwAt W w7.heap.size v (E ++ E2) ∧ Only (fun b => (Value.slice oa E.length oc).ownBlock = some b) w10 W := ⟨_, rfl⟩
    have uTa : UpV Ta := by subst hTa; exact fun v W W2 ⟨g4, c4, e, h⟩ g => ⟨g4, c4, e, h.gr g⟩
    have uTb : UpV Tb := by subst hTb; exact fun v W W2 ⟨E2, h1, h2, h3⟩ g => ⟨E2, h1.gr g, h2, h3⟩
    refine region_xi F [some (.slice oa E.length oc), some (.agg #[.slice ta p.nt tc, .slice ha p.nh hc, .slice ba p.nb bc, .slice la p.nl lc]), some (.slice a xs.length c), some (Vi h), none, none, none, none] (RA4 w10 4 5 6 7 Ta Tb Tc) rfl ⟨by kernel_rfl, of_decide_eq_true (by kernel_rfl), by kernel_rfl, by kernel_rfl, by kernel_rfl⟩ (fun _ => ⟨RA4.start (Gr.refl _), RA4.start (Gr.drew _)⟩) ⟨?_, ?_, ?_, ?_, ?_, ?_, ?_, ?_, trivial⟩ ?_
    ·intro ac done u W Sx hR
     have g : Gr w10 W := hR.g (Sx.no 6 (by kernel_rfl))
     exact X.vl (X.move rfl (Sx.ev 5 (.slice oa E.length oc))) (hR.quiet uTa uTb (Sx.no 6 (by kernel_rfl)) (Sx.no 7 (by kernel_rfl)) (Gr.refl _) (by decide))
    ·intro ac done u W Sx hR
     have g : Gr w10 W := hR.g (Sx.no 6 (by kernel_rfl))
     exact X.vl (X.load rfl (Sx.ev 2 (Vp w.heap.size)) (X.ldN (Try.agg27 _) (Try.siz27 _) (Y.atz (⟨w.heap.size, 0, none⟩) (Y.AtFrom.cons ((hC.gr g).at 0 rfl) (Y.AtFrom.cons ((hC.gr g).at 1 rfl) (Y.AtFrom.cons ((hC.gr g).at 2 rfl) (Y.AtFrom.cons ((hC.gr g).at 3 rfl) (Y.AtFrom.nil _ _ _)))))))) (hR.quiet uTa uTb (Sx.no 6 (by kernel_rfl)) (Sx.no 7 (by kernel_rfl)) (Gr.refl _) (by decide))
    ·intro ac done u W Sx hR
     have g : Gr w10 W := hR.g (Sx.no 6 (by kernel_rfl))
     exact X.vl (X.move rfl (Sx.ev 1 (.slice a xs.length c))) (hR.quiet uTa uTb (Sx.no 6 (by kernel_rfl)) (Sx.no 7 (by kernel_rfl)) (Gr.refl _) (by decide))
    ·intro ac done u W Sx hR
     have g : Gr w10 W := hR.g (Sx.no 6 (by kernel_rfl))
     exact X.vl (X.move rfl (Sx.ev 6 (Vi h))) (hR.quiet uTa uTb (Sx.no 6 (by kernel_rfl)) (Sx.no 7 (by kernel_rfl)) (Gr.refl _) (by decide))
    ·intro ac done u W Sx hR
     have g : Gr w10 W := hR.g (Sx.no 6 (by kernel_rfl))
     refine X.call (X.w0 rfl) (X.enter (F := 101) rfl (X.kc (.func (.func 101) #[] #[]) rfl) (X.a2 (Sx.ev 27 (.slice a xs.length c)) (Sx.ev 28 (Vi h))) (enters_of Try.func101 (by kernel_rfl) rfl _)) (withL_any a c xs (h : Int) W (hX.gr (G.trans g)) (by omega)) ?_
     rintro e W2 ⟨g4, c4, rfl, hb4, g2⟩
     exact ⟨_, rfl, X.un rfl, hR.sa (by decide) uTb (Sx.no 6 (by kernel_rfl)) (Sx.no 7 (by kernel_rfl)) g2 (by subst hTa; exact ⟨g4, c4, rfl, hb4.lower g.size⟩)⟩
    ·intro ac done u W Sx hR
     have g : Gr w10 W := hR.g (Sx.no 6 (by kernel_rfl))
     have hA := hR.ga (Sx.an 4 (by kernel_rfl)) (Sx.no 6 (by kernel_rfl))
     rw [hTa] at hA
     obtain ⟨g4, c4, e4, hb4⟩ := hA
     have hq := ih k rfl (xs ++ [(h : Int)]) (some ⟨g4, 0, none⟩) c4 W (hP.gr (G.trans g)) (by simp; omega) (hx.app hi2) hb4.i (fun ad e => (hb4.ge ad e).2)
     refine X.call (X.w0 rfl) (X.enter (F := 68) rfl (X.kc (.func (.func 68) #[] #[]) rfl) (X.a2 (Sx.ev 26 (.agg #[.slice ta p.nt tc, .slice ha p.nh hc, .slice ba p.nb bc, .slice la p.nl lc])) ((Sx.own 4 29 rfl).trans e4)) (enters_of Try.func68 (by kernel_rfl) rfl _)) hq ?_
     rintro e W2 ⟨v2, E2, rfl, hRw2, hm2, hb2, g2⟩
     exact ⟨_, rfl, X.un rfl, hR.sb (by decide) uTa (Sx.no 6 (by kernel_rfl)) (Sx.no 7 (by kernel_rfl)) g2 (by subst hTb; exact ⟨E2, hRw2.lower g.size, hm2, fun x hx ad e => (hb2 x hx).elim (fun h9 => by rw [h9] at e; injection e with e; subst e; exact (hb4.ge _ rfl).1) (fun h9 => Nat.le_trans g.size (h9 ad e))⟩)⟩
    ·intro ac done u W Sx hR
     have g : Gr w10 W := hR.g Sx.nd
     have hBb := hR.gb (Sx.an 5 (by kernel_rfl)) Sx.nd
     rw [hTb] at hBb
     obtain ⟨E2, hRw2, hm2, hb2⟩ := hBb
     obtain ⟨sa, sc, e5⟩ := hRw2.form
     rw [e5] at hRw2
     have hE2 : E2.length ≤ 1024 := by
      have h1 := congrArg List.length hm2
      rw [List.length_map] at h1
      have h2 := allF_len (hope := (hopeB p (tim p))) hsm.2 k (xs ++ [(h : Int)])
      have h3 := pow_le (m := k) (by omega)
      omega
     refine X.law (X.w0 rfl) (fun K_ hK => wp_pushG Try.underlying38 Try.info34 rfl (by decide) rfl (Sx.ev 25 (.slice oa E.length oc)) ((Sx.own 5 30 rfl).trans e5) (hRw.o.gr g) hRw2.none0 (by rw [rowsV_len, Nat.mul_one]) hRw2.src (rowsV_all E2) (by omega) (by decide) (Nat.le_trans (by omega) g.size) (fun v2 W2 hO2 hon hat => hK v2 W2 (fun x hx => by cases hx) (RA4.sc (by decide) (Sx.no 7 (by kernel_rfl)) ?_)))
     subst hTc
     exact ⟨E2, hm2, hb2, (hRw.gr g).push hRw2 hO2 hon hat (fun x hx ad e h9 => by have h8 := (hRw.o.ge h9).2; have h7 := hb2 x hx ad e; omega), (g.only _).trans hon⟩
    ·intro ac done u W Sx hR
     exact X.valN (X.w0 rfl) rfl (X.assign rfl (Sx.own 6 31 rfl)) (hR.sd (by decide) (Sx.an 6 (by kernel_rfl)))
    rintro ac u w12 hs hd hl_ ho hR
    have hcc := hR.gc rfl
    have e7 := hR.gd rfl
    rw [hTc] at hcc
    obtain ⟨E2, hm2, hb2, hRw2, hon⟩ := hcc
    obtain ⟨oa2, oc2, e6⟩ := hRw2.form
    rw [e6] at hRw2 e7
    clear hTa hTb hTc uTa uTb e6
    replace F : Fr ac 33 [(1, .slice a xs.length c), (2, Vp w.heap.size), (6, Vi h)] := X.fr hs hd hl_ _ (by kernel_rfl)
    replace F := F.add (ho 7 5 rfl) e7
    clear hs hd hl_ ho hR e7
    replace F : Fr ac 33 [(1, .slice a xs.length c), (2, Vp w.heap.size), (5, .slice oa2 ((E ++ E2).length) oc2), (6, Vi h)] := F.sub _
    have hlo : ∀ b, (Value.slice oa E.length oc).ownBlock = some b → w7.heap.size ≤ b := fun b e => (hRw.o.ge e).1
    replace hO1 := hO1.step2 hon (fun r e => .inr (hlo r e))
    replace G := ((G.only (fun b => w7.heap.size ≤ b)).trans (hon.mono' (fun i e => hlo i e))).gr (fun i hi e => by omega)
    replace hpt := (hP.t).gr G
    replace hph := (hP.h).gr G
    replace hpb := (hP.b).gr G
    replace hpl := (hP.l).gr G
    replace hxs := (hX).gr G
    replace hC := (RCells.cons (hon.cell (hC.at 0 rfl) (fun e => by have h9 := hlo _ e; simp only at h9; omega)) (RCells.cons (hon.cell (hC.at 1 rfl) (fun e => by have h9 := hlo _ e; simp only at h9; omega)) (RCells.cons (hon.cell (hC.at 2 rfl) (fun e => by have h9 := hlo _ e; simp only at h9; omega)) (RCells.cons (hon.cell (hC.at 3 rfl) (fun e => by have h9 := hlo _ e; simp only at h9; omega)) (RCells.nil _)))))
    clear hon hlo
    refine X.blockN (X.thenN ?_)
    refine Y.lg F [(1, .slice a xs.length c), (2, Vp w.heap.size), (5, .slice oa2 ((E ++ E2).length) oc2), (6, Vi ((h : Int) + 1))] (by
     refine Y.pv F (X.move rfl (F.ev 6 (Vi h))) fun ac F=>?_
     refine Y.pv F (X.binop rfl (F.ev 23 (Vi h)) (X.kc (Vi 1) rfl) (X.addI Try.underlying3 rfl (by omega) (by omega))) fun ac F=>?_
     refine Y.pv F (X.assign rfl (F.ev 24 (Vi ((h : Int) + 1)))) fun ac F=>?_
     exact Y.fin F) ?_;clear F ac;intro ac F
    refine ⟨_, ?_, h + 1, E ++ E2, oa2, oc2, rfl, hO1, by omega, hRw2, by rw [List.map_append, hmap, hm2]; rfl, fun x hx ad e => (List.mem_append.1 hx).elim (fun hx => hbk x hx ad e) (fun hx => Nat.le_trans hwq (hb2 x hx ad e)), F.sub _⟩
    omega
  | true =>
   try rw [h9] at F
   have h9p : (xs.length : Int) = p.nt := by simpa using h9
   obtain rfl : m = 0 := by omega
   refine Y.condT (F.ev 15 (.bool true)) ?_
   refine Y.sl ?_
   refine Y.pv2 F (X.move rfl (F.ev 1 (.slice a xs.length c))) (fun _ F=>X.bs rfl (X.b1 (F.ev 16 (.slice a xs.length c))) (Try.bs38_1 _ _ _ _)) ?_;clear F ac;intro ac F
   have g := Gr.alloc w7 (.cells #[.slice a xs.length c] 34)
   have hR1 := rw_one (heap_alloc_new w7 (.cells #[.slice a xs.length c] 34)) G.size ((hX.gr G).gr g) (fun ad e => Nat.lt_of_lt_of_le (hXb ad e) G.size)
   generalize w7.alloc (.cells #[.slice a xs.length c] 34) = w13 at *
   replace G := G.trans g
   replace hC := hC.gr g
   replace hpt := hpt.gr g
   replace hph := hph.gr g
   replace hpb := hpb.gr g
   replace hpl := hpl.gr g
   replace hxs := hxs.gr g
   clear g
   refine Y.pv F (X.assign rfl (F.ev 17 (.slice (some ⟨w7.heap.size, 0, none⟩) 1 1))) ?_;clear F ac;intro ac F
   refine Y.nt F [(4, .slice (some ⟨w7.heap.size, 0, none⟩) 1 1)] ?_;clear F ac;intro ac F
   refine Y.ret ?_
   refine X.thenR ?_
   exact Y.ret0 (v := .slice (some ⟨w7.heap.size, 0, none⟩) 1 1) F (Y.r1 F) ⟨_, [⟨xs, a, c⟩], rfl, hR1, by rw [all_leaf h8]; rfl, fun x hx => (by simp at hx; subst hx; exact .inl rfl), G⟩
 | true =>
  try rw [h8] at F
  refine Y.condT (F.ev 9 (.bool true)) ?_
  refine Y.sg F [(4, .slice none 0 0)] (Y.pv F (X.assign rfl (X.kc (.slice none 0 0) rfl)) fun ac F=>Y.fin F) ?_;clear F ac;intro ac F
  refine Y.ret ?_
  refine X.thenR ?_
  exact Y.ret0 (v := .slice none 0 0) F (Y.r1 F) ⟨_, [], rfl, RwAt.nil _ _, by rw [all_hope h8]; rfl, fun x hx => (by simp at hx), G⟩
theorem all_any (p : Pb) (ta ha ba la : Option Addr) (tc hc bc lc : Nat) (hp : PbOk p) (hsm : p.nt ≤ 5 ∧ p.nh ≤ 4) : ∀ m, AllC p ta ha ba la tc hc bc lc m := by
 intro m
 induction m with
 | zero => exact fun xs a c w h1 h2 h3 h4 h5 => all_step p ta ha ba la tc hc bc lc 0 hp hsm (fun k e => by cases e) xs a c w h1 h2 h3 h4 h5
 | succ m ih => exact fun xs a c w h1 h2 h3 h4 h5 => all_step p ta ha ba la tc hc bc lc (m + 1) hp hsm (fun k e => by cases e; exact ih) xs a c w h1 h2 h3 h4 h5
end
section
open Go.RowKit

set_option maxRecDepth 100000 in
set_option maxHeartbeats 2000000 in
theorem first2_any (p : Pb) (ta ha ba la : Option Addr) (tc hc bc lc : Nat) (hp : PbOk p) (hsm : p.nt ≤ 5 ∧ p.nh ≤ 4) (w : World) (hP : PbAt w p ta ha ba la tc hc bc lc) :
  Calls Try.prog 66 #[.agg #[.slice ta p.nt tc, .slice ha p.nh hc, .slice ba p.nb bc, .slice la p.nl lc]] w fun e w' => ∃ a c, e = .returned (.tuple #[.slice a (firR p).1.length c, Vi (firR p).2.1, .bool (firR p).2.2]) ∧ Ints w' a (firR p).1.length (firR p).1 ∧ Gr w w' := by
 have G := Gr.refl w
 have hpt := hP.t
 have hph := hP.h
 have hpb := hP.b
 have hpl := hP.l
 have hplen := hP.len
 obtain ⟨hn1, hn2, hn3, hn4⟩ := hplen
 have hcp1 := hpt.cap
 have hcp2 := hph.cap
 have hcp3 := hpb.cap
 have hcp4 := hpl.cap
 refine Y.calls 43 Try.func66 rfl rfl ?_
 intro ac F0
 have F : Fr ac 43 [(0, .agg #[.slice ta p.nt tc, .slice ha p.nh hc, .slice ba p.nb bc, .slice la p.nl lc])] := F0.sub _
 clear F0
 refine Y.sl ?_
 have hgs3 : w.heap.size ≤ w.heap.size := G.size
 refine Y.pv F (X.box rfl (F.ev 0 (.agg #[.slice ta p.nt tc, .slice ha p.nh hc, .slice ba p.nb bc, .slice la p.nl lc])) X.bx) ?_;clear F ac;intro ac F
 have hgs5 : w.heap.size ≤ w.heap.size := G.size
 obtain ⟨w6, hw_, g, hb, hbl, hC2⟩ := Y.bxd (RCells.nil w) #[.slice ta p.nt tc, .slice ha p.nh hc, .slice ba p.nb bc, .slice la p.nl lc] 27;rw [hw_];clear hw_
 replace G := G.trans g
 have hC := hC2
 clear hC2
 replace hpt := hpt.gr g
 replace hph := hph.gr g
 replace hpb := hpb.gr g
 replace hpl := hpl.gr g
 have hsz4 := hbl
 clear g hb hbl
 refine Y.pv3 F (X.assign rfl (X.kc (.slice none 0 0) rfl)) (fun _ F=>X.assign rfl (X.kc (Vi 0) rfl)) (fun _ F=>X.assign rfl (X.kc (.bool false) rfl)) ?_;clear F ac;intro ac F
 refine Y.nt F [(1, Vp w.heap.size)] ?_;clear F ac;intro ac F
 refine Y.sl ?_
 refine Y.pv F (X.load rfl (F.ev 1 (Vp w.heap.size)) (X.ldN (Try.agg27 _) (Try.siz27 _) (Y.atz (⟨w.heap.size, 0, none⟩) (Y.AtFrom.cons (hC.at 0 rfl) (Y.AtFrom.cons (hC.at 1 rfl) (Y.AtFrom.cons (hC.at 2 rfl) (Y.AtFrom.cons (hC.at 3 rfl) (Y.AtFrom.nil _ _ _)))))))) ?_;clear F ac;intro ac F
 refine Y.pc F 68 (X.a2 (F.ev 8 (.agg #[.slice ta p.nt tc, .slice ha p.nh hc, .slice ba p.nb bc, .slice la p.nl lc])) (X.kc (.slice none 0 0) rfl)) Try.func68 (all_any p ta ha ba la tc hc bc lc hp hsm p.nt [] none 0 w6 (hP.gr G) (by simp) HosOk.nil (Ints.nilZ _) (fun ad e => by cases e)) ?_
 clear F ac
 rintro e w7 ⟨v, E, rfl, hRw, hmap, -, g⟩
 obtain ⟨oa, oc, rfl⟩ := hRw.form
 refine ⟨_, rfl, ?_⟩
 intro ac F
 replace G := G.trans g
 replace hC := hC.gr g
 replace hpt := hpt.gr g
 replace hph := hph.gr g
 replace hpb := hpb.gr g
 replace hpl := hpl.gr g
 clear g
 have hmE : ∀ x ∈ E, HosOk p x.xs ∧ x.xs.length = p.nt := fun x hx => by
  have h1 := mem_allP (p := p) (x := x.xs) (by show _ ∈ allF _ _ _ _; rw [← hmap]; exact List.mem_map_of_mem hx)
  exact ⟨h1.1, h1.2.1⟩
 have hEl : E.length ≤ 1024 := by
  have h1 := congrArg List.length hmap
  rw [List.length_map] at h1
  have h2 := allF_len (hope := hopeB p (tim p)) hsm.2 p.nt []
  have h3 := pow_le hsm.1
  omega
 refine Y.pv F (X.assign rfl (F.ev 9 (.slice oa E.length oc))) ?_;clear F ac;intro ac F
 refine Y.nt F [(1, Vp w.heap.size), (5, .slice oa E.length oc)] ?_;clear F ac;intro ac F
 refine Y.seq ?_
 refine Y.sg F [(1, Vp w.heap.size), (5, .slice oa E.length oc), (12, .bool ((E.length : Int) == 0))] (Y.pv F (X.move rfl (F.ev 5 (.slice oa E.length oc))) fun ac F=>Y.pv F (X.len1 Try.underlying38 rfl (F.ev 10 (.slice oa E.length oc))) fun ac F=>Y.pv F (X.binop rfl (F.ev 11 (Vi E.length)) (X.kc (Vi 0) rfl) (X.eqlI Try.underlying3 rfl)) fun ac F=>Y.fin F) ?_;clear F ac;intro ac F
 cases h8 : ((E.length : Int) == 0) with
 | false =>
  try rw [h8] at F
  have h8p : ¬ (E.length : Int) = 0 := by simpa using h8
  have hE0 : 0 < E.length := by omega
  obtain ⟨g7, rfl, -, -⟩ := hRw.ex hE0
  refine Y.condF (F.ev 12 (.bool false)) ?_
  refine Y.skip ?_
  refine X.thenN ?_
  refine Y.sg F [(1, Vp w.heap.size), (5, .slice (some ⟨g7, 0, none⟩) E.length oc), (6, Vi 0)] (Y.pv F (X.assign rfl (X.kc (Vi 0) rfl)) fun ac F=>Y.fin F) ?_;clear F ac;intro ac F
  refine Y.seq ?_
  refine Y.sg F [(1, Vp w.heap.size), (5, .slice (some ⟨g7, 0, none⟩) E.length oc), (6, Vi 0), (7, Vi 0)] (Y.pv F (X.assign rfl (X.kc (Vi 0) rfl)) fun ac F=>Y.fin F) ?_;clear F ac;intro ac F
  refine Y.block ?_
  refine Y.loop (fun me_ ac wr => ∃ (b i : Nat), me_ = E.length - i ∧ Only (fun b => False) w7 wr ∧ i ≤ E.length ∧ b < E.length ∧ hdC p E i b ∧ Fr ac 43 [(1, Vp w.heap.size), (5, .slice (some ⟨g7, 0, none⟩) E.length oc), (6, Vi b), (7, Vi i)]) _ ⟨0, 0, rfl, Only.refl _ _, Nat.zero_le _, hE0, .inl ⟨rfl, rfl⟩, F.sub _⟩ ?_
  have hptB1 := hpt
  have hphB1 := hph
  have hpbB1 := hpb
  have hplB1 := hpl
  have hRwB1 := hRw
  have GB1 := G
  have hCB1 := hC
  clear F ac
  intro me_ ac w9 hI
  obtain ⟨b, i, rfl, hO1, hi, hb, hhd, F⟩ := hI
  replace G := GB1.trans (hO1.gr (fun _ _ h => h))
  replace hpt := (hP.t).gr G
  replace hph := (hP.h).gr G
  replace hpb := (hP.b).gr G
  replace hpl := (hP.l).gr G
  replace hRw := hRwB1.gr (hO1.gr (fun _ _ h => h))
  replace hC := (RCells.cons (hO1.cell (hCB1.at 0 rfl) (fun h => h)) (RCells.cons (hO1.cell (hCB1.at 1 rfl) (fun h => h)) (RCells.cons (hO1.cell (hCB1.at 2 rfl) (fun h => h)) (RCells.cons (hO1.cell (hCB1.at 3 rfl) (fun h => h)) (RCells.nil _)))))
  refine Y.seq ?_
  refine Y.sg F [(1, Vp w.heap.size), (5, .slice (some ⟨g7, 0, none⟩) E.length oc), (6, Vi b), (7, Vi i), (16, .bool (decide ((i : Int) < E.length)))] (Y.pv F (X.move rfl (F.ev 7 (Vi i))) fun ac F=>Y.pv F (X.move rfl (F.ev 5 (.slice (some ⟨g7, 0, none⟩) E.length oc))) fun ac F=>Y.pv F (X.len1 Try.underlying38 rfl (F.ev 14 (.slice (some ⟨g7, 0, none⟩) E.length oc))) fun ac F=>Y.pv F (X.binop rfl (F.ev 13 (Vi i)) (F.ev 15 (Vi E.length)) (X.lssI Try.underlying3 rfl)) fun ac F=>Y.fin F) ?_;clear F ac;intro ac F
  cases h10 : decide ((i : Int) < E.length) with
  | false =>
   try rw [h10] at F
   have h10p : ¬ ((i : Int) < E.length) := of_decide_eq_false h10
   obtain rfl : i = E.length := by omega
   obtain ⟨xb, hxb⟩ : ∃ x, E[b]? = some x := ⟨_, List.getElem?_eq_getElem (by omega)⟩
   have hIxb := hRw.i xb (List.mem_of_getElem? hxb)
   have hmxb := hmE xb (List.mem_of_getElem? hxb)
   replace hC := hC.append (show RCells w9 ([(⟨g7, b, none⟩, .slice xb.a xb.xs.length xb.c)]) from (RCells.cons (hRw.cell hxb) (RCells.nil _)))
   refine Y.condF (F.ev 16 (.bool false)) ?_
   refine Y.exit ?_
   refine X.thenX (X.thenX (X.blockX (X.thenN ?_)))
   refine Y.seq ?_
   refine Y.region F [some (.slice (some ⟨g7, 0, none⟩) E.length oc), some (Vi b), some (.pointer (some ⟨g7, b, none⟩)), some (.slice xb.a xb.xs.length xb.c), some (.agg #[.slice ta p.nt tc, .slice ha p.nh hc, .slice ba p.nb bc, .slice la p.nl lc]), some (.slice (some ⟨g7, 0, none⟩) E.length oc), some (Vi b), some (.pointer (some ⟨g7, b, none⟩)), some (.slice xb.a xb.xs.length xb.c), some (Vi (bndV p xb.xs)), some (.slice xb.a xb.xs.length xb.c), some (Vi (bndV p xb.xs)), some (.bool true)] [] rfl ⟨by kernel_rfl, of_decide_eq_true (by kernel_rfl), by kernel_rfl, by kernel_rfl, by kernel_rfl⟩ ⟨?_, ?_, ?_, ?_, ?_, ?_, ?_, ?_, ?_, ?_, ?_, ?_, ?_, trivial⟩ ?_
   ·intro ac done u W Sx hR
    exact X.vl (X.move rfl (Sx.ev 5 (.slice (some ⟨g7, 0, none⟩) E.length oc))) hR.st0
   ·intro ac done u W Sx hR
    exact X.vl (X.move rfl (Sx.ev 6 (Vi b))) hR.st0
   ·intro ac done u W Sx hR
    exact X.val (X.w0 rfl) rfl (X.index rfl (Sx.ev 33 (.slice (some ⟨g7, 0, none⟩) E.length oc)) (Sx.ev 34 (Vi b)) (X.idx (k := b) Try.underlying38 (Try.siz34 _) (by omega) (by omega) ((addr_add0 _ _).trans (by rw [Nat.mul_one])))) hR.st0
   ·intro ac done u W Sx hR
    have g : Gr w9 W := hR.1
    exact X.vl (X.load rfl (Sx.ev 35 (.pointer (some ⟨g7, b, none⟩))) (X.ld1 (Try.agg34 _) ((hC.gr g).at 4 rfl))) hR.st0
   ·intro ac done u W Sx hR
    have g : Gr w9 W := hR.1
    exact X.vl (X.load rfl (Sx.ev 1 (Vp w.heap.size)) (X.ldN (Try.agg27 _) (Try.siz27 _) (Y.atz (⟨w.heap.size, 0, none⟩) (Y.AtFrom.cons ((hC.gr g).at 0 rfl) (Y.AtFrom.cons ((hC.gr g).at 1 rfl) (Y.AtFrom.cons ((hC.gr g).at 2 rfl) (Y.AtFrom.cons ((hC.gr g).at 3 rfl) (Y.AtFrom.nil _ _ _)))))))) hR.st0
   ·intro ac done u W Sx hR
    exact X.vl (X.move rfl (Sx.ev 5 (.slice (some ⟨g7, 0, none⟩) E.length oc))) hR.st0
   ·intro ac done u W Sx hR
    exact X.vl (X.move rfl (Sx.ev 6 (Vi b))) hR.st0
   ·intro ac done u W Sx hR
    exact X.val (X.w0 rfl) rfl (X.index rfl (Sx.ev 38 (.slice (some ⟨g7, 0, none⟩) E.length oc)) (Sx.ev 39 (Vi b)) (X.idx (k := b) Try.underlying38 (Try.siz34 _) (by omega) (by omega) ((addr_add0 _ _).trans (by rw [Nat.mul_one])))) hR.st0
   ·intro ac done u W Sx hR
    have g : Gr w9 W := hR.1
    exact X.vl (X.load rfl (Sx.ev 40 (.pointer (some ⟨g7, b, none⟩))) (X.ld1 (Try.agg34 _) ((hC.gr g).at 4 rfl))) hR.st0
   ·intro ac done u W Sx hR
    have g : Gr w9 W := hR.1
    refine X.call (X.w0 rfl) (X.enter (F := 77) rfl (X.kc (.func (.func 77) #[] #[]) rfl) (X.a2 (Sx.ev 37 (.agg #[.slice ta p.nt tc, .slice ha p.nh hc, .slice ba p.nb bc, .slice la p.nl lc])) (Sx.ev 41 (.slice xb.a xb.xs.length xb.c))) (enters_of Try.func77 (by kernel_rfl) rfl _)) (bnd2_any p ta ha ba la tc hc bc lc xb.a xb.c xb.xs W (hP.gr (G.trans g)) (hIxb.gr g) hp hmxb.1 (Nat.le_of_eq hmxb.2)) ?_
    rintro e W2 ⟨rfl, g2⟩
    exact ⟨_, rfl, X.kn rfl, hR.step g2 rfl⟩
   ·intro ac done u W Sx hR
    exact X.vl (X.assign rfl (Sx.ev 36 (.slice xb.a xb.xs.length xb.c))) hR.st0
   ·intro ac done u W Sx hR
    exact X.vl (X.assign rfl (Sx.ev 42 (Vi (bndV p xb.xs)))) hR.st0
   ·intro ac done u W Sx hR
    exact X.vl (X.assign rfl (X.kc (.bool true) rfl)) hR.st0
   intro ac u w11 hs hd hl ho hR
   have g : Gr w9 w11 := hR.1
   replace F : Fr ac 43 [(2, .slice xb.a xb.xs.length xb.c), (3, Vi (bndV p xb.xs)), (4, .bool true)] := X.fr hs hd hl _ (by kernel_rfl)
   clear hs hd hl ho hR
   replace G := G.trans g
   replace hC := hC.gr g
   replace hpt := hpt.gr g
   replace hph := hph.gr g
   replace hpb := hpb.gr g
   replace hpl := hpl.gr g
   replace hRw := hRw.gr g
   replace hIxb := hIxb.gr g
   clear g
   refine X.thenN ?_
   refine Y.ret ?_
   have hf := fir_1 (p := p) hmap (hd_end hhd hE0 hxb)
   exact Y.ret0 (v := .tuple #[.slice xb.a xb.xs.length xb.c, Vi (bndV p xb.xs), .bool true]) F (Y.rs3 F rfl (by kernel_rfl) (by kernel_rfl) (by kernel_rfl)) ⟨xb.a, xb.c, by rw [hf], by rw [hf]; exact hIxb, G⟩
  | true =>
   try rw [h10] at F
   have h10p : ((i : Int) < E.length) := of_decide_eq_true h10
   obtain ⟨xi, hxi⟩ : ∃ x, E[i]? = some x := ⟨_, List.getElem?_eq_getElem (by omega)⟩
   have hIxi := hRw.i xi (List.mem_of_getElem? hxi)
   have hmxi := hmE xi (List.mem_of_getElem? hxi)
   replace hC := hC.append (show RCells w9 ([(⟨g7, i, none⟩, .slice xi.a xi.xs.length xi.c)]) from (RCells.cons (hRw.cell hxi) (RCells.nil _)))
   obtain ⟨xb, hxb⟩ : ∃ x, E[b]? = some x := ⟨_, List.getElem?_eq_getElem (by omega)⟩
   have hIxb := hRw.i xb (List.mem_of_getElem? hxb)
   have hmxb := hmE xb (List.mem_of_getElem? hxb)
   replace hC := hC.append (show RCells w9 ([(⟨g7, b, none⟩, .slice xb.a xb.xs.length xb.c)]) from (RCells.cons (hRw.cell hxb) (RCells.nil _)))
   refine Y.condT (F.ev 16 (.bool true)) ?_
   refine Y.skip ?_
   refine X.thenN ?_
   refine Y.seq ?_
   refine Y.block ?_
   refine Y.seq ?_
   refine Y.region F [some (.agg #[.slice ta p.nt tc, .slice ha p.nh hc, .slice ba p.nb bc, .slice la p.nl lc]), some (.slice (some ⟨g7, 0, none⟩) E.length oc), some (Vi i), some (.pointer (some ⟨g7, i, none⟩)), some (.slice xi.a xi.xs.length xi.c), some (Vi (bndV p xi.xs)), some (.agg #[.slice ta p.nt tc, .slice ha p.nh hc, .slice ba p.nb bc, .slice la p.nl lc]), some (.slice (some ⟨g7, 0, none⟩) E.length oc), some (Vi b), some (.pointer (some ⟨g7, b, none⟩)), some (.slice xb.a xb.xs.length xb.c), some (Vi (bndV p xb.xs)), some (.bool (decide ((bndV p xi.xs : Int) < (bndV p xb.xs))))] [] rfl ⟨by kernel_rfl, of_decide_eq_true (by kernel_rfl), by kernel_rfl, by kernel_rfl, by kernel_rfl⟩ ⟨?_, ?_, ?_, ?_, ?_, ?_, ?_, ?_, ?_, ?_, ?_, ?_, ?_, trivial⟩ ?_
   ·intro ac done u W Sx hR
    have g : Gr w9 W := hR.1
    exact X.vl (X.load rfl (Sx.ev 1 (Vp w.heap.size)) (X.ldN (Try.agg27 _) (Try.siz27 _) (Y.atz (⟨w.heap.size, 0, none⟩) (Y.AtFrom.cons ((hC.gr g).at 0 rfl) (Y.AtFrom.cons ((hC.gr g).at 1 rfl) (Y.AtFrom.cons ((hC.gr g).at 2 rfl) (Y.AtFrom.cons ((hC.gr g).at 3 rfl) (Y.AtFrom.nil _ _ _)))))))) hR.st0
   ·intro ac done u W Sx hR
    exact X.vl (X.move rfl (Sx.ev 5 (.slice (some ⟨g7, 0, none⟩) E.length oc))) hR.st0
   ·intro ac done u W Sx hR
    exact X.vl (X.move rfl (Sx.ev 7 (Vi i))) hR.st0
   ·intro ac done u W Sx hR
    exact X.val (X.w0 rfl) rfl (X.index rfl (Sx.ev 20 (.slice (some ⟨g7, 0, none⟩) E.length oc)) (Sx.ev 21 (Vi i)) (X.idx (k := i) Try.underlying38 (Try.siz34 _) (by omega) (by omega) ((addr_add0 _ _).trans (by rw [Nat.mul_one])))) hR.st0
   ·intro ac done u W Sx hR
    have g : Gr w9 W := hR.1
    exact X.vl (X.load rfl (Sx.ev 22 (.pointer (some ⟨g7, i, none⟩))) (X.ld1 (Try.agg34 _) ((hC.gr g).at 4 rfl))) hR.st0
   ·intro ac done u W Sx hR
    have g : Gr w9 W := hR.1
    refine X.call (X.w0 rfl) (X.enter (F := 77) rfl (X.kc (.func (.func 77) #[] #[]) rfl) (X.a2 (Sx.ev 19 (.agg #[.slice ta p.nt tc, .slice ha p.nh hc, .slice ba p.nb bc, .slice la p.nl lc])) (Sx.ev 23 (.slice xi.a xi.xs.length xi.c))) (enters_of Try.func77 (by kernel_rfl) rfl _)) (bnd2_any p ta ha ba la tc hc bc lc xi.a xi.c xi.xs W (hP.gr (G.trans g)) (hIxi.gr g) hp hmxi.1 (Nat.le_of_eq hmxi.2)) ?_
    rintro e W2 ⟨rfl, g2⟩
    exact ⟨_, rfl, X.kn rfl, hR.step g2 rfl⟩
   ·intro ac done u W Sx hR
    have g : Gr w9 W := hR.1
    exact X.vl (X.load rfl (Sx.ev 1 (Vp w.heap.size)) (X.ldN (Try.agg27 _) (Try.siz27 _) (Y.atz (⟨w.heap.size, 0, none⟩) (Y.AtFrom.cons ((hC.gr g).at 0 rfl) (Y.AtFrom.cons ((hC.gr g).at 1 rfl) (Y.AtFrom.cons ((hC.gr g).at 2 rfl) (Y.AtFrom.cons ((hC.gr g).at 3 rfl) (Y.AtFrom.nil _ _ _)))))))) hR.st0
   ·intro ac done u W Sx hR
    exact X.vl (X.move rfl (Sx.ev 5 (.slice (some ⟨g7, 0, none⟩) E.length oc))) hR.st0
   ·intro ac done u W Sx hR
    exact X.vl (X.move rfl (Sx.ev 6 (Vi b))) hR.st0
   ·intro ac done u W Sx hR
    exact X.val (X.w0 rfl) rfl (X.index rfl (Sx.ev 26 (.slice (some ⟨g7, 0, none⟩) E.length oc)) (Sx.ev 27 (Vi b)) (X.idx (k := b) Try.underlying38 (Try.siz34 _) (by omega) (by omega) ((addr_add0 _ _).trans (by rw [Nat.mul_one])))) hR.st0
   ·intro ac done u W Sx hR
    have g : Gr w9 W := hR.1
    exact X.vl (X.load rfl (Sx.ev 28 (.pointer (some ⟨g7, b, none⟩))) (X.ld1 (Try.agg34 _) ((hC.gr g).at 5 rfl))) hR.st0
   ·intro ac done u W Sx hR
    have g : Gr w9 W := hR.1
    refine X.call (X.w0 rfl) (X.enter (F := 77) rfl (X.kc (.func (.func 77) #[] #[]) rfl) (X.a2 (Sx.ev 25 (.agg #[.slice ta p.nt tc, .slice ha p.nh hc, .slice ba p.nb bc, .slice la p.nl lc])) (Sx.ev 29 (.slice xb.a xb.xs.length xb.c))) (enters_of Try.func77 (by kernel_rfl) rfl _)) (bnd2_any p ta ha ba la tc hc bc lc xb.a xb.c xb.xs W (hP.gr (G.trans g)) (hIxb.gr g) hp hmxb.1 (Nat.le_of_eq hmxb.2)) ?_
    rintro e W2 ⟨rfl, g2⟩
    exact ⟨_, rfl, X.kn rfl, hR.step g2 rfl⟩
   ·intro ac done u W Sx hR
    exact X.vl (X.binop rfl (Sx.ev 24 (Vi (bndV p xi.xs))) (Sx.ev 30 (Vi (bndV p xb.xs))) (X.lssI Try.underlying3 rfl)) hR.st0
   intro ac u w12 hs hd hl ho hR
   have g : Gr w9 w12 := hR.1
   replace F : Fr ac 43 [(1, Vp w.heap.size), (5, .slice (some ⟨g7, 0, none⟩) E.length oc), (6, Vi b), (7, Vi i), (31, .bool (decide ((bndV p xi.xs : Int) < (bndV p xb.xs))))] := X.fr hs hd hl _ (by kernel_rfl)
   clear hs hd hl ho hR
   replace G := G.trans g
   replace hC := hC.gr g
   replace hO1 := hO1.thenGr g
   replace hpt := hpt.gr g
   replace hph := hph.gr g
   replace hpb := hpb.gr g
   replace hpl := hpl.gr g
   replace hRw := hRw.gr g
   replace hIxi := hIxi.gr g
   replace hIxb := hIxb.gr g
   clear g
   refine X.thenN ?_
   cases h13 : decide ((bndV p xi.xs : Int) < (bndV p xb.xs)) with
   | false =>
    try rw [h13] at F
    have h13p : ¬ ((bndV p xi.xs : Int) < (bndV p xb.xs)) := of_decide_eq_false h13
    refine Y.condF (F.ev 31 (.bool false)) ?_
    refine Y.skip ?_
    refine X.blockN (X.thenN ?_)
    refine Y.lg F [(1, Vp w.heap.size), (5, .slice (some ⟨g7, 0, none⟩) E.length oc), (6, Vi b), (7, Vi ((i : Int) + 1))] (by
     refine Y.pv F (X.move rfl (F.ev 7 (Vi i))) fun ac F=>?_
     refine Y.pv F (X.binop rfl (F.ev 17 (Vi i)) (X.kc (Vi 1) rfl) (X.addI Try.underlying3 rfl (by omega) (by omega))) fun ac F=>?_
     refine Y.pv F (X.assign rfl (F.ev 18 (Vi ((i : Int) + 1)))) fun ac F=>?_
     exact Y.fin F) ?_;clear F ac;intro ac F
    refine ⟨_, ?_, b, i + 1, rfl, hO1, by omega, by omega, hd_ge hhd hxi hxb (by omega), F.sub _⟩
    omega
   | true =>
    try rw [h13] at F
    have h13p : ((bndV p xi.xs : Int) < (bndV p xb.xs)) := of_decide_eq_true h13
    refine Y.condT (F.ev 31 (.bool true)) ?_
    refine Y.lit (by kernel_rfl) ?_
    refine Y.pv2 F (X.move rfl (F.ev 7 (Vi i))) (fun _ F=>X.assign rfl (F.ev 32 (Vi i))) ?_;clear F ac;intro ac F
    refine Y.nil ?_
    replace F : Fr ac 43 [(1, Vp w.heap.size), (5, .slice (some ⟨g7, 0, none⟩) E.length oc), (6, Vi i), (7, Vi i)] := F.sub _
    refine X.blockN (X.thenN ?_)
    refine Y.lg F [(1, Vp w.heap.size), (5, .slice (some ⟨g7, 0, none⟩) E.length oc), (6, Vi i), (7, Vi ((i : Int) + 1))] (by
     refine Y.pv F (X.move rfl (F.ev 7 (Vi i))) fun ac F=>?_
     refine Y.pv F (X.binop rfl (F.ev 17 (Vi i)) (X.kc (Vi 1) rfl) (X.addI Try.underlying3 rfl (by omega) (by omega))) fun ac F=>?_
     refine Y.pv F (X.assign rfl (F.ev 18 (Vi ((i : Int) + 1)))) fun ac F=>?_
     exact Y.fin F) ?_;clear F ac;intro ac F
    refine ⟨_, ?_, i, i + 1, rfl, hO1, by omega, by omega, hd_lt hhd hxi hxb (by omega), F.sub _⟩
    omega
 | true =>
  try rw [h8] at F
  have h8p : (E.length : Int) = 0 := by simpa using h8
  have hE0 : E.length = 0 := by omega
  refine Y.condT (F.ev 12 (.bool true)) ?_
  refine Y.sg F [(2, .slice none 0 0), (3, Vi 0), (4, .bool false)] (Y.pv F (X.assign rfl (X.kc (.slice none 0 0) rfl)) fun ac F=>Y.pv F (X.assign rfl (X.kc (Vi 0) rfl)) fun ac F=>Y.pv F (X.assign rfl (X.kc (.bool false) rfl)) fun ac F=>Y.fin F) ?_;clear F ac;intro ac F
  refine Y.ret ?_
  refine X.thenR ?_
  have hf := fir_0 (p := p) hmap hE0
  exact Y.ret0 (v := .tuple #[.slice none 0 0, Vi 0, .bool false]) F (Y.rs3 F rfl (by kernel_rfl) (by kernel_rfl) (by kernel_rfl)) ⟨none, 0, by rw [hf]; rfl, by rw [hf]; exact Ints.nilZ _, G⟩
end
end Go.Proofs.Ytodedneanlekdaa
