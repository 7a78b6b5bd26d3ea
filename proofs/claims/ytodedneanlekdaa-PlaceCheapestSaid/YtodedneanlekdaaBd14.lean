/- Several texts of this claim in one file. (1) Contract: the first allowed plans. (2) The first allowed plans, without addresses: what the search finds. Nothing of the program is proved here. (3) All allowed plans, as rows in memory; regions that call twice and append. Nothing of the program is proved here. (4) The first allowed plan, by the reference. Nothing of the program is proved here. (5) Sorting by insertion into new rows: regions that make a row of three parts. Nothing of the program is proved here. (6) Counting the allowed plans. Nothing of the program is proved here. (7) The leaves of the search that shows that no plan is cheaper. Nothing of the program is proved here. (8) Contracts: hosted and begun. (9) The plan that differs the least. Nothing of the program is proved here. (10) Contract: Best. (11) Contract: the look at the example. -/
import Derived.Test.YtodedneanlekdaaBd13
import Derived.Test.YtodedneanlekdaaBd3
import Derived.Test.YtodedneanlekdaaBd11
import Derived.Test.YtodedneanlekdaaBd8
import Derived.Test.YtodedneanlekdaaBd4
namespace Go.Proofs.Ytodedneanlekdaa
set_option linter.unusedSimpArgs false
set_option linter.unusedVariables false
section
open Go.RowKit

set_option maxRecDepth 100000 in
set_option maxHeartbeats 400000 in
theorem still_any (a : Option Addr) (n c : Nat) (w : World) :
  Calls Try.prog 65 #[.slice a n c] w fun e w' => e = .returned (.tuple #[Vi 0, .bool true]) ∧ Gr w w' := by
 have G := Gr.refl w
 refine Y.calls 4 Try.func65 rfl rfl ?_
 intro ac F0
 have F : Fr ac 4 [(0, .slice a n c)] := F0.sub _
 clear F0
 refine Y.sg F [] (Y.pv F (X.assign rfl (X.kc (Vi 0) rfl)) fun ac F=>Y.pv F (X.assign rfl (X.kc (.bool false) rfl)) fun ac F=>Y.fin F) ?_;clear F ac;intro ac F
 refine Y.sg F [(2, Vi 0), (3, .bool true)] (Y.pv F (X.assign rfl (X.kc (Vi 0) rfl)) fun ac F=>Y.pv F (X.assign rfl (X.kc (.bool true) rfl)) fun ac F=>Y.fin F) ?_;clear F ac;intro ac F
 refine Y.ret ?_
 exact Y.ret0 (v := .tuple #[Vi 0, .bool true]) F (Y.rs2 F rfl (by kernel_rfl) (by kernel_rfl)) ⟨rfl, G⟩
set_option maxRecDepth 100000 in
set_option maxHeartbeats 4000000 in
theorem first_any (p : Pb) (ta ha ba la : Option Addr) (tc hc bc lc : Nat) (most : Nat) (gf : FuncId) (caps : Array Value) (mv : List Int → Int × Bool) (w : World) (hP : PbAt w p ta ha ba la tc hc bc lc) (hp : PbOk p) (hm : 1 ≤ most ∧ most ≤ 100000) (eg : ∀ args w, (callFunc gf args).run Try.prog w = .ok (.enter gf args) w)
  (hmv : ∀ (W : World) (xs : List Int) (a : Option Addr) (c : Nat), Gr w W → Ints W a xs.length xs → xs.length ≤ p.nt → HosOk p xs → Calls Try.prog gf (#[.slice a xs.length c] ++ caps) W fun e W' => e = .returned (.tuple #[Vi (mv xs).1, .bool (mv xs).2]) ∧ Gr W W') :
  Calls Try.prog 64 #[.agg #[.slice ta p.nt tc, .slice ha p.nh hc, .slice ba p.nb bc, .slice la p.nl lc], Vi most, .func (.func gf) #[] caps] w fun e w' => ∃ rb kv lv L B, e = .returned (Vp rb) ∧ RkAt w' rb B most kv lv L ∧ visF p.nh (hopeB p (tim p)) (stF p most mv) p.nt [] [] = (strip L, true) ∧ w.heap.size ≤ rb ∧ w.heap.size ≤ B ∧ L.length ≤ most ∧ Gr w w' := by
 have G := Gr.refl w
 have hpt := hP.t
 have hph := hP.h
 have hpb := hP.b
 have hpl := hP.l
 have hplen := hP.len
 obtain ⟨hn1, hn2, hn3, hn4⟩ := hplen
 have hcp1 := hpt.cap
 have hcp2 := hph.cap
 have hcp3 := hpb.cap
 have hcp4 := hpl.cap
 refine Y.calls 57 Try.func64 rfl rfl ?_
 intro ac F0
 have F : Fr ac 57 [(0, .agg #[.slice ta p.nt tc, .slice ha p.nh hc, .slice ba p.nb bc, .slice la p.nl lc]), (1, Vi most), (2, .func (.func gf) #[] caps)] := F0.sub _
 clear F0
 refine Y.sl ?_
 have hgs3 : w.heap.size ≤ w.heap.size := G.size
 refine Y.pv F (X.box rfl (F.ev 0 (.agg #[.slice ta p.nt tc, .slice ha p.nh hc, .slice ba p.nb bc, .slice la p.nl lc])) X.bx) ?_;clear F ac;intro ac F
 have hgs5 : w.heap.size ≤ w.heap.size := G.size
 obtain ⟨w6, hw_, g, hb, hbl, hC2⟩ := Y.bxd (RCells.nil w) #[.slice ta p.nt tc, .slice ha p.nh hc, .slice ba p.nb bc, .slice la p.nl lc] 27;rw [hw_];clear hw_
 replace G := G.trans g
 have hC := hC2
 clear hC2
 replace hpt := hpt.gr g
 replace hph := hph.gr g
 replace hpb := hpb.gr g
 replace hpl := hpl.gr g
 have hsz4 := hbl
 clear g hb hbl
 have hgs7 : w.heap.size ≤ w6.heap.size := G.size
 refine Y.pv F (X.box rfl (F.ev 2 (.func (.func gf) #[] caps)) (Y.bx1 rfl)) ?_;clear F ac;intro ac F
 have hgs9 : w.heap.size ≤ w6.heap.size := G.size
 obtain ⟨w10, hw_, g, hb, hbl, hC2⟩ := Y.bxd hC #[.func (.func gf) #[] caps] 88;rw [hw_];clear hw_
 replace G := G.trans g
 replace hC := hC2
 clear hC2
 replace hpt := hpt.gr g
 replace hph := hph.gr g
 replace hpb := hpb.gr g
 replace hpl := hpl.gr g
 have hsz8 := hbl
 clear g hb hbl
 refine Y.pv F (X.assign rfl (X.kc (.pointer none) rfl)) ?_;clear F ac;intro ac F
 refine Y.nt F [(1, Vi most), (3, Vp w.heap.size), (5, Vp w6.heap.size)] ?_;clear F ac;intro ac F
 refine Y.sl ?_
 refine Y.pv3 F (X.move rfl (F.ev 1 (Vi most))) (fun _ F=>Y.bd rfl (X.b1 (F.ev 12 (Vi most))) (Try.bd91 _ _)) (fun _ F=>X.box rfl (F.ev 13 (.agg #[Vi most, .slice none 0 0, .slice none 0 0])) X.bx) ?_;clear F ac;intro ac F
 have g := Gr.alloc w10 (.cells #[Vi most, .slice none 0 0, .slice none 0 0] 91)
 have hb := heap_alloc_new w10 (.cells #[Vi most, .slice none 0 0, .slice none 0 0] 91)
 have hszw11 : w10.heap.size < (w10.alloc (.cells #[Vi most, .slice none 0 0, .slice none 0 0] 91)).heap.size := by simp
 have hgsw11 : w.heap.size ≤ w10.heap.size := G.size
 generalize w10.alloc (.cells #[Vi most, .slice none 0 0, .slice none 0 0] 91) = w11 at *
 replace G := G.trans g
 replace hC := hC.gr g
 replace hpt := hpt.gr g
 replace hph := hph.gr g
 replace hpb := hpb.gr g
 replace hpl := hpl.gr g
 have hVw11 : OwnP w11 w10.heap.size 3 (VL [Vi most, .slice none 0 0, .slice none 0 0]) := ownP_bx (vs := [Vi most, .slice none 0 0, .slice none 0 0]) hb
 clear g hb
 refine Y.pv F (Y.al rfl (Try.new86 _)) fun ac F=>Y.punit F (X.w0 rfl) rfl (X.store rfl (F.ev 7 (Vp w11.heap.size)) (F.ev 14 (Vp w10.heap.size)) (Y.stNew1 (Vp w10.heap.size) ((.pointer none)) (Try.siz86 _) rfl rfl)) ?_;clear F ac;intro ac F
 have hgs13 : w.heap.size ≤ w11.heap.size := G.size
 obtain ⟨w14, hw_, g, hb, hbl, hC2⟩ := Y.bxd hC #[Vp w10.heap.size] 86;rw [hw_];clear hw_
 replace G := G.trans g
 replace hC := hC2
 clear hC2
 replace hpt := hpt.gr g
 replace hph := hph.gr g
 replace hpb := hpb.gr g
 replace hpl := hpl.gr g
 replace hVw11 := hVw11.gr g
 have hsz12 := hbl
 clear g hb hbl
 refine Y.nt F [(3, Vp w.heap.size), (5, Vp w6.heap.size), (7, Vp w11.heap.size)] ?_;clear F ac;intro ac F
 refine Y.seq ?_
 refine Y.sl ?_
 refine Y.pv F (X.load rfl (F.ev 3 (Vp w.heap.size)) (X.ldN (Try.agg27 _) (Try.siz27 _) (Y.atz (⟨w.heap.size, 0, none⟩) (Y.AtFrom.cons (hC.at 0 rfl) (Y.AtFrom.cons (hC.at 1 rfl) (Y.AtFrom.cons (hC.at 2 rfl) (Y.AtFrom.cons (hC.at 3 rfl) (Y.AtFrom.nil _ _ _)))))))) fun ac F=>Y.pc F 69 (X.a1 (F.ev 15 (.agg #[.slice ta p.nt tc, .slice ha p.nh hc, .slice ba p.nb bc, .slice la p.nl lc]))) Try.func69 (nodes_any p ta ha ba la tc hc bc lc w14) ?_
 clear F ac
 have hpre9 := G.size
 rintro e w15 ⟨bn16, rfl, hbn9, hcn, g⟩
 refine ⟨_, rfl, ?_⟩
 intro ac F
 replace G := G.trans g
 replace hC := hC.gr g
 replace hpt := hpt.gr g
 replace hph := hph.gr g
 replace hpb := hpb.gr g
 replace hpl := hpl.gr g
 replace hVw11 := hVw11.gr g
 clear g
 replace hC := hC.append (show RCells w15 (bcells bn16 [.slice ta p.nt tc, .slice ha p.nh hc, .slice ba p.nb bc, .slice la p.nl lc] 0) from (RCells.cons (hcn.at 0 rfl) (RCells.cons (hcn.at 1 rfl) (RCells.cons (hcn.at 2 rfl) (RCells.cons (hcn.at 3 rfl) (RCells.nil _))))))
 refine Y.nt F [(3, Vp w.heap.size), (5, Vp w6.heap.size), (7, Vp w11.heap.size), (16, .func (.func 102) #[] #[Vp bn16])] ?_;clear F ac;intro ac F
 refine Y.block ?_
 have Gf0 := G
 replace F : Fr ac 57 [(3, Vp w.heap.size), (5, Vp w6.heap.size), (7, Vp w11.heap.size), (16, .func (.func 102) #[] #[Vp bn16])] := F.sub _
 have hgw := G.size
 have hCn : RCells w15 (PbC p ta ha ba la tc hc bc lc bn16) := (RCells.cons (hC.at 6 rfl) (RCells.cons (hC.at 7 rfl) (RCells.cons (hC.at 8 rfl) (RCells.cons (hC.at 9 rfl) (RCells.nil _)))))
 have hzl17 : bn16 < w15.heap.size := lt_cell (hC.at 6 rfl)
 have hzl18 : w.heap.size < w15.heap.size := lt_cell (hC.at 0 rfl)
 have hzl19 : w11.heap.size < w15.heap.size := lt_cell (hC.at 5 rfl)
 have hzl20 : w6.heap.size < w15.heap.size := lt_cell (hC.at 4 rfl)
 have hzy21 : w10.heap.size < w15.heap.size := hVw11.lt
 have hPb : ∀ W, Only (fun b => b = w10.heap.size) w15 W → PbAt W p ta ha ba la tc hc bc lc ∧ RCells W (PbC p ta ha ba la tc hc bc lc bn16) := fun W h => ⟨hP.gr (Y.Only.up G h (by omega)), hCn.only h (fun q hq e => by
  simp [PbC] at hq
  rcases hq with rfl | rfl | rfl | rfl <;> (first | omega | (simp only at e; omega)))⟩
 have hK0 := RkK.start (B := w15.heap.size) hVw11 (Nat.le_refl _) (by omega)
 have hCl := hC
 have Gl := G
 refine Y.ndRange (D := []) (p := p) (ta := ta) (ha := ha) (ba := ba) (la := la) (tc := tc) (hc := hc) (bc := bc) (lc := lc) (bp := bn16) F (by decide) (by decide) rfl rfl rfl rfl rfl rfl rfl (F.ev 16 _) hp (fun b => b = w10.heap.size) (fun b e => by first | omega | (first | omega | (simp only at e; omega))) hPb (stF p most mv) ([]) (RkK w10.heap.size w15.heap.size most) (fun b => b = w10.heap.size) (fun _ => False) hK0 (fun b e => by exact e) (fun s O Kp W h => h.lt) (fun s O Kp W W2 h g => h.gr g) (fun s O Kp W W2 h h2 g => h.only (fun b e => by first | omega | (first | omega | (simp only at e; omega))) h2 g) (fun _ _ => False) (fun _ _ _ h => h) ?_ ?_ ?_
 ·intro ss O Kp xs a c d b w22 ac hQ hK hOs hlen hx hBeg hdg hdO hdK haO had hD hbg hbd hbO hbK hab hN F
  clear G hC
  have hPW := (hPb w22 hQ).1
  have G := Gr.refl w22
  have hsw := hQ.size
  have hC : RCells w22 [(Ad w.heap.size 0, .slice ta p.nt tc), (Ad w.heap.size 1, .slice ha p.nh hc), (Ad w.heap.size 2, .slice ba p.nb bc), (Ad w.heap.size 3, .slice la p.nl lc), (Ad w6.heap.size 0, .func (.func gf) #[] caps), (Ad w11.heap.size 0, Vp w10.heap.size), (Ad bn16 0, .slice ta p.nt tc), (Ad bn16 1, .slice ha p.nh hc), (Ad bn16 2, .slice ba p.nb bc), (Ad bn16 3, .slice la p.nl lc), (Ad b 0, .slice a xs.length c), (Ad b 1, .bool (hopeB p (tim p) xs)), (Ad b 2, Vi (bndV p xs)), (Ad b 3, Vp d)] := (RCells.cons (hQ.cell (hCl.at 0 rfl) (by simp only; omega)) (RCells.cons (hQ.cell (hCl.at 1 rfl) (by simp only; omega)) (RCells.cons (hQ.cell (hCl.at 2 rfl) (by simp only; omega)) (RCells.cons (hQ.cell (hCl.at 3 rfl) (by simp only; omega)) (RCells.cons (hQ.cell (hCl.at 4 rfl) (by simp only; omega)) (RCells.cons (hQ.cell (hCl.at 5 rfl) (by simp only; omega)) (RCells.cons (hQ.cell (hCl.at 6 rfl) (by simp only; omega)) (RCells.cons (hQ.cell (hCl.at 7 rfl) (by simp only; omega)) (RCells.cons (hQ.cell (hCl.at 8 rfl) (by simp only; omega)) (RCells.cons (hQ.cell (hCl.at 9 rfl) (by simp only; omega)) hN))))))))))
  replace hpt := hPW.t
  replace hph := hPW.h
  replace hpb := hPW.b
  replace hpl := hPW.l
  replace F : Fr ac 57 [(3, Vp w.heap.size), (5, Vp w6.heap.size), (7, Vp w11.heap.size), (8, Vp b), (16, .func (.func 102) #[] #[Vp bn16]), (17, .agg #[.slice a xs.length c, .bool (hopeB p (tim p) xs), Vi (bndV p xs), Vp d])] := F.sub _
  obtain ⟨kv, lv, Lk, rfl, hRk, rfl, rfl, hLm, hlim⟩ := hK
  obtain ⟨ka, kc, rfl⟩ := hRk.k.form
  obtain ⟨la9, lc9, rfl⟩ := hRk.l.form
  have hR9 := hRk
  have Gf : Gr w w22 := Y.Only.up Gf0 hQ (by omega)
  refine Y.block ?_
  refine Y.sl ?_
  refine Y.pv3 F (X.load rfl (F.ev 5 (Vp w6.heap.size)) (X.ld1 (Try.agg88 _) (hC.at 4 rfl))) (fun _ F=>X.field rfl (F.ev 8 (Vp b)) (X.fld Try.underlying102 rfl (Try.siz34 _) rfl rfl)) (fun _ F=>X.load rfl (F.ev 20 (Vp b)) (X.ld1 (Try.agg34 _) (hC.at 10 rfl))) ?_;clear F ac;intro ac F
  refine Y.pcall F (X.w0 rfl) rfl (X.enter (F := gf) rfl (F.ev 19 (.func (.func gf) #[] caps)) (X.a1 (F.ev 21 (.slice a xs.length c))) (fun W => eg _ W)) (hmv w22 xs a c (Gf.trans G) (hBeg.gr G).i hlen hx) ?_
  clear F ac
  rintro e w23 ⟨rfl, g⟩
  refine ⟨_, rfl, ?_⟩
  intro ac F
  replace G := G.trans g
  replace hC := hC.gr g
  replace hpt := hpt.gr g
  replace hph := hph.gr g
  replace hpb := hpb.gr g
  replace hpl := hpl.gr g
  replace hD := hD.gr g
  replace hRk := hRk.gr g
  clear g
  refine Y.pv4 F (X.move rfl (F.ev 22 (.tuple #[Vi ((mv xs).1), .bool ((mv xs).2)]))) (fun _ F=>X.extract rfl (F.ev 18 (.tuple #[Vi ((mv xs).1), .bool ((mv xs).2)])) rfl) (fun _ F=>X.extract rfl (F.ev 18 (.tuple #[Vi ((mv xs).1), .bool ((mv xs).2)])) rfl) (fun _ F=>X.assign rfl (F.ev 23 (Vi ((mv xs).1)))) fun ac F=>Y.pv F (X.assign rfl (F.ev 24 (.bool ((mv xs).2)))) ?_;clear F ac;intro ac F
  refine Y.nt F [(3, Vp w.heap.size), (5, Vp w6.heap.size), (7, Vp w11.heap.size), (8, Vp b), (9, Vi ((mv xs).1)), (10, .bool ((mv xs).2))] ?_;clear F ac;intro ac F
  refine Y.sl ?_
  refine Y.pv4 F (X.move rfl (F.ev 9 (Vi ((mv xs).1)))) (fun _ F=>X.field rfl (F.ev 8 (Vp b)) (X.fld Try.underlying102 rfl (Try.siz3 _) rfl rfl)) (fun _ F=>X.load rfl (F.ev 26 (.pointer (some ⟨b, 2, none⟩))) (X.ld1 (Try.agg3 _) (hC.at 12 rfl))) (fun _ F=>Y.bd rfl (X.b2 (F.ev 25 (Vi ((mv xs).1))) (F.ev 27 (Vi (bndV p xs)))) (Try.bd92 _ _ _)) fun ac F=>Y.pv F (Y.al rfl (Try.new92 _)) fun ac F=>Y.punit F (X.w0 rfl) rfl (X.store rfl (F.ev 11 (Vp w23.heap.size)) (F.ev 28 (.agg #[Vi ((mv xs).1), Vi (bndV p xs)])) (Y.stNew [Vi ((mv xs).1), Vi (bndV p xs)] [Vi 0, Vi 0] (Try.siz92 _) rfl rfl)) ?_;clear F ac;intro ac F
  have hgs24 : w22.heap.size ≤ w23.heap.size := G.size
  obtain ⟨w25, hw_, g, hb, hbl, hC2⟩ := Y.bxd hC #[Vi ((mv xs).1), Vi (bndV p xs)] 92;rw [hw_];clear hw_
  replace G := G.trans g
  replace hC := hC2
  clear hC2
  replace hpt := hpt.gr g
  replace hph := hph.gr g
  replace hpb := hpb.gr g
  replace hpl := hpl.gr g
  replace hD := hD.gr g
  replace hRk := hRk.gr g
  clear g hb hbl
  refine Y.nt F [(3, Vp w.heap.size), (5, Vp w6.heap.size), (7, Vp w11.heap.size), (8, Vp b), (10, .bool ((mv xs).2)), (11, Vp w23.heap.size)] ?_;clear F ac;intro ac F
  refine Y.block ?_
  refine Y.sg F [(3, Vp w.heap.size), (5, Vp w6.heap.size), (7, Vp w11.heap.size), (8, Vp b), (10, .bool ((mv xs).2)), (11, Vp w23.heap.size), (29, .bool (hopeB p (tim p) xs))] (by
   refine Y.pv F (X.field rfl (F.ev 8 (Vp b)) (X.fld Try.underlying102 rfl (Try.siz4 _) rfl rfl)) fun ac F=>?_
   refine Y.pv F (X.load rfl (F.ev 30 (.pointer (some ⟨b, 1, none⟩))) (X.ld1 (Try.agg4 _) (hC.at 11 rfl))) fun ac F=>?_
   refine Y.pv F (X.assign rfl (F.ev 31 (.bool (hopeB p (tim p) xs)))) fun ac F=>?_
   exact Y.fin F) ?_;clear F ac;intro ac F
  cases h26 : hopeB p (tim p) xs with
  | false =>
   try rw [h26] at F
   refine Y.cF F 29 ?_
   refine Y.sl ?_
   refine Y.pv3 F (X.move rfl (F.ev 10 (.bool ((mv xs).2)))) (fun _ F=>X.notB rfl (F.ev 33 (.bool ((mv xs).2))) rfl) (fun _ F=>X.move rfl (F.ev 34 (.bool (!((mv xs).2))))) ?_;clear F ac;intro ac F
   cases h27 : (mv xs).2 with
   | false =>
    try rw [h27] at F
    refine Y.p3 F 2 35 true fun ac F=>Y.pv2 F (X.pickT rfl (F.ev 35 (.bool true)) (X.kc (.bool true) rfl)) (fun _ F=>X.assign rfl (F.ev 39 (.bool true))) ?_;clear F ac;intro ac F
    refine Y.nt F [(3, Vp w.heap.size), (5, Vp w6.heap.size), (7, Vp w11.heap.size), (8, Vp b), (11, Vp w23.heap.size), (32, .bool true)] ?_;clear F ac;intro ac F
    refine Y.cT F 32 ?_
    refine Y.lit (by kernel_rfl) ?_
    refine Y.pv3 F (X.field rfl (F.ev 8 (Vp b)) (X.fld Try.underlying102 rfl (Try.siz100 _) rfl rfl)) (fun _ F=>X.load rfl (F.ev 40 (.pointer (some ⟨b, 3, none⟩))) (X.ld1 (Try.agg100 _) (hC.at 13 rfl))) (fun _ F=>Y.nilC rfl (F.ev 41 (Vp d))) fun ac F=>Y.punit F (X.w0 rfl) rfl (X.store rfl (F.ev 42 (Vp d)) (X.kc (.bool false) rfl) (hD.st1 (Try.siz4 _) rfl rfl (by decide))) ?_;clear F ac;intro ac F
    have hon := Y.set_only w25 d 0 (.bool false)
    have hD2 := (hD.set (k := 0) (.bool false)).congr (val' := fun _ => .bool false) (fun k hk => if_pos (by omega))
    generalize w25.setCell ⟨d, 0, none⟩ (.bool false) = w28 at *
    have hRk2 := hRk.only hon (fun b e h => by have h8 : b = d := h; subst h8; exact hdO e) (fun x hx2 ad e h => hdK ⟨x, hx2, ad, e, h⟩)
    have hO2 := ((G.only (fun x => RkO w10.heap.size (.slice ka Lk.length kc) (.slice la9 Lk.length lc9) x ∨ x = d)).trans (hon.mono' (fun i e => .inr e)))
    clear hRk hD G hC
    refine Y.nil ?_
    replace F : Fr ac 57 [(3, Vp w.heap.size), (5, Vp w6.heap.size), (7, Vp w11.heap.size)] := F.sub _
    refine X.blockN (X.blockN ?_)
    have est : stF p most mv (strip Lk) xs = _ := stF_c h26 (.inl h27)
    refine ⟨?_, ?_, ?_, ?_⟩
    ·exact hO2
    ·rw [est]; exact ⟨_, _, ⟨_, _, Lk, rfl, hRk2, rfl, rfl, hLm, hlim⟩, fun b e => .inl e⟩
    ·rw [est]; exact hD2
    ·rw [est]
   | true =>
    try rw [h27] at F
    refine Y.pg F 2 35 false (X.load rfl (F.ev 7 (Vp w11.heap.size)) (X.ld1 (Try.agg86 _) (hC.at 5 rfl))) fun ac F=>Y.pg F 2 35 false (X.load rfl (F.ev 11 (Vp w23.heap.size)) (X.ldN (Try.agg92 _) (Try.siz92 _) (Y.atz (⟨w23.heap.size, 0, none⟩) (Y.AtFrom.cons (hC.at 14 rfl) (Y.AtFrom.cons (hC.at 15 rfl) (Y.AtFrom.nil _ _ _)))))) ?_;clear F ac;intro ac F
    refine Y.pcall F (X.w1 rfl (F.yl (j := 2) (d := 35) (b := false) rfl (by kernel_rfl))) rfl (X.enter (F := 99) rfl (X.kc (.func (.func 99) #[] #[]) rfl) (X.a2 (F.ev 36 (Vp w10.heap.size)) (F.ev 37 (.agg #[Vi ((mv xs).1), Vi (bndV p xs)]))) (enters_of Try.func99 (by kernel_rfl) rfl _)) (full_any w10.heap.size w15.heap.size most ka la9 kc lc9 (mv xs).1 (bndV p xs) Lk w25 hRk hm (by omega)) ?_
    clear F ac
    rintro e w29 ⟨rfl, g⟩
    refine ⟨_, rfl, ?_⟩
    intro ac F
    replace G := G.trans g
    replace hC := hC.gr g
    replace hpt := hpt.gr g
    replace hph := hph.gr g
    replace hpb := hpb.gr g
    replace hpl := hpl.gr g
    replace hD := hD.gr g
    replace hRk := hRk.gr g
    clear g
    refine Y.pv2 F (X.pickF rfl (F.ev 35 (.bool false)) (F.ev 38 (.bool (fullR most Lk ((mv xs).1, bndV p xs))))) (fun _ F=>X.assign rfl (F.ev 39 (.bool (fullR most Lk ((mv xs).1, bndV p xs))))) ?_;clear F ac;intro ac F
    refine Y.nt F [(3, Vp w.heap.size), (5, Vp w6.heap.size), (7, Vp w11.heap.size), (8, Vp b), (11, Vp w23.heap.size), (32, .bool (fullR most Lk ((mv xs).1, bndV p xs)))] ?_;clear F ac;intro ac F
    cases h30 : fullR most Lk ((mv xs).1, bndV p xs) with
    | false =>
     try rw [h30] at F
     refine Y.cF F 32 ?_
     refine Y.sg F [(3, Vp w.heap.size), (5, Vp w6.heap.size), (7, Vp w11.heap.size), (8, Vp b), (11, Vp w23.heap.size), (43, .bool ((xs.length : Int) == p.nt))] (by
      refine Y.pv F (X.field rfl (F.ev 8 (Vp b)) (X.fld Try.underlying102 rfl (Try.siz34 _) rfl rfl)) fun ac F=>?_
      refine Y.pv F (X.load rfl (F.ev 44 (Vp b)) (X.ld1 (Try.agg34 _) (hC.at 10 rfl))) fun ac F=>?_
      refine Y.pv F (X.len1 Try.underlying34 rfl (F.ev 45 (.slice a xs.length c))) fun ac F=>?_
      refine Y.pv F (X.field rfl (F.ev 3 (Vp w.heap.size)) (X.fld Try.underlying27 rfl (Try.siz22 _) rfl rfl)) fun ac F=>?_
      refine Y.pv F (X.load rfl (F.ev 47 (Vp w.heap.size)) (X.ld1 (Try.agg22 _) (hC.at 0 rfl))) fun ac F=>?_
      refine Y.pv F (X.len1 Try.underlying22 rfl (F.ev 48 (.slice ta p.nt tc))) fun ac F=>?_
      refine Y.pv F (X.binop rfl (F.ev 46 (Vi xs.length)) (F.ev 49 (Vi p.nt)) (X.eqlI Try.underlying3 rfl)) fun ac F=>?_
      refine Y.pv F (X.assign rfl (F.ev 50 (.bool ((xs.length : Int) == p.nt)))) fun ac F=>?_
      exact Y.fin F) ?_;clear F ac;intro ac F
     cases h31 : ((xs.length : Int) == p.nt) with
     | false =>
      try rw [h31] at F
      have h31p : ¬ (xs.length : Int) = p.nt := by simpa using h31
      refine Y.cF F 43 ?_
      refine Y.skip ?_
      refine X.blockN (X.blockN ?_)
      have est : stF p most mv (strip Lk) xs = _ := stF_n h26 h27 ((strip_full _ _ _).trans h30) (by omega)
      refine ⟨?_, ?_, ?_, ?_⟩
      ·exact G.only _
      ·rw [est]; exact ⟨_, _, ⟨_, _, Lk, rfl, hRk, rfl, rfl, hLm, hlim⟩, fun b e => .inl e⟩
      ·rw [est]; exact hD
      ·rw [est]
     | true =>
      try rw [h31] at F
      have h31p : (xs.length : Int) = p.nt := by simpa using h31
      refine Y.cT F 43 ?_
      refine Y.lit (by kernel_rfl) ?_
      refine Y.pv4 F (X.load rfl (F.ev 7 (Vp w11.heap.size)) (X.ld1 (Try.agg86 _) (hC.at 5 rfl))) (fun _ F=>X.load rfl (F.ev 11 (Vp w23.heap.size)) (X.ldN (Try.agg92 _) (Try.siz92 _) (Y.atz (⟨w23.heap.size, 0, none⟩) (Y.AtFrom.cons (hC.at 14 rfl) (Y.AtFrom.cons (hC.at 15 rfl) (Y.AtFrom.nil _ _ _)))))) (fun _ F=>X.field rfl (F.ev 8 (Vp b)) (X.fld Try.underlying102 rfl (Try.siz34 _) rfl rfl)) (fun _ F=>X.load rfl (F.ev 53 (Vp b)) (X.ld1 (Try.agg34 _) (hC.at 10 rfl))) fun ac F=>Y.pc F 100 (X.a3 (F.ev 51 (Vp w10.heap.size)) (F.ev 52 (.agg #[Vi ((mv xs).1), Vi (bndV p xs)])) (F.ev 54 (.slice a xs.length c))) Try.func100 (put_s w10.heap.size w15.heap.size most ka la9 kc lc9 (mv xs).1 (bndV p xs) Lk xs a c w29 hRk hm (by omega) hLm ((hBeg.lower (by omega)).gr G) haO) ?_
      clear F ac
      rintro e w32 ⟨rfl, kv2, lv2, hRk2, hOn, hOo⟩
      refine ⟨_, rfl, ?_⟩
      intro ac F
      have hO2 : Only (fun x => RkO w10.heap.size (.slice ka Lk.length kc) (.slice la9 Lk.length lc9) x ∨ x = d) w22 w32 := (G.only _).trans (hOn.mono' (fun i e => .inl e))
      have hD2 := hD.only hOn hdO
      have hSz := G.size
      clear hRk G
      refine Y.nil ?_
      replace F : Fr ac 57 [(3, Vp w.heap.size), (5, Vp w6.heap.size), (7, Vp w11.heap.size)] := F.sub _
      refine X.blockN (X.blockN ?_)
      have est : stF p most mv (strip Lk) xs = _ := stF_p h26 h27 ((strip_full _ _ _).trans h30) (by omega)
      refine ⟨?_, ?_, ?_, ?_⟩
      ·exact hO2
      ·rw [est]
       refine ⟨_, _, ⟨kv2, lv2, _, strip_put _ _ _, hRk2, rfl, rfl, put_len hLm, fun b hb => ?_⟩, fun b e => (hOo b e).imp (fun z => z) (fun e => Nat.le_trans hSz e)⟩
       obtain ⟨x, hx2, ad, e, rfl⟩ := hb
       rcases put_mem hx2 with rfl | hx2
       ·exact (hBeg.ge ad e).1
       ·exact hlim _ ⟨x, hx2, ad, e, rfl⟩
      ·rw [est]; exact hD2
      ·rw [est]
    | true =>
     try rw [h30] at F
     refine Y.cT F 32 ?_
     refine Y.lit (by kernel_rfl) ?_
     refine Y.pv3 F (X.field rfl (F.ev 8 (Vp b)) (X.fld Try.underlying102 rfl (Try.siz100 _) rfl rfl)) (fun _ F=>X.load rfl (F.ev 40 (.pointer (some ⟨b, 3, none⟩))) (X.ld1 (Try.agg100 _) (hC.at 13 rfl))) (fun _ F=>Y.nilC rfl (F.ev 41 (Vp d))) fun ac F=>Y.punit F (X.w0 rfl) rfl (X.store rfl (F.ev 42 (Vp d)) (X.kc (.bool false) rfl) (hD.st1 (Try.siz4 _) rfl rfl (by decide))) ?_;clear F ac;intro ac F
     have hon := Y.set_only w29 d 0 (.bool false)
     have hD2 := (hD.set (k := 0) (.bool false)).congr (val' := fun _ => .bool false) (fun k hk => if_pos (by omega))
     generalize w29.setCell ⟨d, 0, none⟩ (.bool false) = w33 at *
     have hRk2 := hRk.only hon (fun b e h => by have h8 : b = d := h; subst h8; exact hdO e) (fun x hx2 ad e h => hdK ⟨x, hx2, ad, e, h⟩)
     have hO2 := ((G.only (fun x => RkO w10.heap.size (.slice ka Lk.length kc) (.slice la9 Lk.length lc9) x ∨ x = d)).trans (hon.mono' (fun i e => .inr e)))
     clear hRk hD G hC
     refine Y.nil ?_
     replace F : Fr ac 57 [(3, Vp w.heap.size), (5, Vp w6.heap.size), (7, Vp w11.heap.size)] := F.sub _
     refine X.blockN (X.blockN ?_)
     have est : stF p most mv (strip Lk) xs = _ := stF_c h26 (.inr ((strip_full _ _ _).trans h30))
     refine ⟨?_, ?_, ?_, ?_⟩
     ·exact hO2
     ·rw [est]; exact ⟨_, _, ⟨_, _, Lk, rfl, hRk2, rfl, rfl, hLm, hlim⟩, fun b e => .inl e⟩
     ·rw [est]; exact hD2
     ·rw [est]
  | true =>
   try rw [h26] at F
   refine Y.cT F 29 ?_
   refine Y.skip ?_
   refine X.blockN (X.blockN ?_)
   have est : stF p most mv (strip Lk) xs = _ := stF_h h26
   refine ⟨?_, ?_, ?_, ?_⟩
   ·exact G.only _
   ·rw [est]; exact ⟨_, _, ⟨_, _, Lk, rfl, hRk, rfl, rfl, hLm, hlim⟩, fun b e => .inl e⟩
   ·rw [est]; exact hD
   ·rw [est]
 ·intro ss O Kp w34 ac hV hQ hK hOs hmk F
  clear G hC
  have hmk := hmk
  have hsw := hQ.size
  have G : Gr w w34 := (Y.Only.up Gl hQ (by omega))
  have hC := (RCells.cons (hQ.cell (hCl.at 0 rfl) (by simp only; omega)) (RCells.cons (hQ.cell (hCl.at 1 rfl) (by simp only; omega)) (RCells.cons (hQ.cell (hCl.at 2 rfl) (by simp only; omega)) (RCells.cons (hQ.cell (hCl.at 3 rfl) (by simp only; omega)) (RCells.cons (hQ.cell (hCl.at 4 rfl) (by simp only; omega)) (RCells.cons (hQ.cell (hCl.at 5 rfl) (by simp only; omega)) (RCells.cons (hQ.cell (hCl.at 6 rfl) (by simp only; omega)) (RCells.cons (hQ.cell (hCl.at 7 rfl) (by simp only; omega)) (RCells.cons (hQ.cell (hCl.at 8 rfl) (by simp only; omega)) (RCells.cons (hQ.cell (hCl.at 9 rfl) (by simp only; omega)) (RCells.nil _)))))))))))
  replace hpt := (hP.t).gr G
  replace hph := (hP.h).gr G
  replace hpb := (hP.b).gr G
  replace hpl := (hP.l).gr G
  obtain ⟨kv, lv, Lk, hst, hRk, hOe, hKe, hLm, hlim⟩ := hK
  refine X.blockN (X.thenN ?_)
  refine Y.sg F [(6, Vp w10.heap.size)] (Y.pv F (X.load rfl (F.ev 7 (Vp w11.heap.size)) (X.ld1 (Try.agg86 _) (hC.at 5 rfl))) fun ac F=>Y.pv F (X.assign rfl (F.ev 56 (Vp w10.heap.size))) fun ac F=>Y.fin F) ?_;clear F ac;intro ac F
  refine Y.ret ?_
  refine ret_mark (v := Vp w10.heap.size) F hmk (Y.r1 F) (fun W2 hW2 => ?_)
  refine ⟨w10.heap.size, kv, lv, Lk, w15.heap.size, rfl, ?_, by rw [hst]; exact hV, by omega, by omega, hLm, ?_⟩
  ·refine hRk.only hW2 (fun b e h => ?_) (fun x hx2 ad e h => ?_)
   ·rcases hOs b (hOe ▸ e) with h9 | h9 <;> first | omega | (simp only at h9 h; omega)
   ·have h9 := hlim ad.block (hKe ▸ ⟨x, hx2, ad, e, rfl⟩)
    try simp only at h
    omega
  ·exact Y.Only.up G hW2 (by omega)
 ·exact fun _ _ _ _ h => h.elim
end
section
set_option linter.unusedVariables false
open Go.RowKit
/-- the allowed plans, by their hosts -/
def allP (p : Pb) : List (List Int) := allF p.nh (hopeB p (tim p)) p.nt []
/-- them in order of the keys; of equal ones what comes first is first -/
def srtK (key : List Int → Int × Int) (l : List (List Int)) : List ((Int × Int) × List Int) := l.foldl (fun s x => insR s (key x, x)) []
def keyC (p : Pb) (xs : List Int) : Int × Int := (0, bndV p xs)
/-- the search finds the first ones -/
theorem first_law {p : Pb} (hp : PbOk p) {most : Nat} (h0 : 0 < most) (mv : List Int → Int × Bool)
    (hok : ∀ (xs : List Int) (h : Nat), xs.length < p.nt → HosOk p xs → h < p.nh → (mv (xs ++ [(h : Int)])).2 = true → (mv xs).2 = true)
    (hmo : ∀ (xs : List Int) (h : Nat), xs.length < p.nt → HosOk p xs → h < p.nh → (mv xs).1 ≤ (mv (xs ++ [(h : Int)])).1) :
    visF p.nh (hopeB p (tim p)) (stF p most mv) p.nt [] [] = ((srtK (fun xs => ((mv xs).1, bndV p xs)) ((allP p).filter fun xs => (mv xs).2)).take most, true) := by
  have h := vis_first (nh := p.nh) (most := most) (hope := hopeB p (tim p)) (fun m xs => xs.length + m = p.nt ∧ HosOk p xs) (fun xs => (mv xs).2) (fun xs => ((mv xs).1, bndV p xs)) (stF p most mv)
    (fun m xs h hv hh _ => ⟨by have := hv.1; simp; omega, hv.2.app hh⟩) (fun m xs h hv hh hk => hok xs h (by have := hv.1; omega) hv.2 hh hk)
    (fun m xs h hv hh _ => by
      have h1 := hmo xs h (by have := hv.1; omega) hv.2 hh
      have h2 := bnd_mono hp (xs := xs) (h := (h : Int))
      rw [ltK_false]; simp only; omega)
    (fun m s xs hv hh => stF_h hh) (fun m s xs hv hh hk => stF_c hh hk) (fun s xs hv hh hk hf => stF_p hh hk hf (by have := hv.1; omega))
    (fun m s xs hv hh hk hf => stF_n hh hk hf (by have := hv.1; omega)) (m := p.nt) (xs := []) ⟨by simp, HosOk.nil⟩ []
  rw [h]
  have h2 := (fold_put h0 (fun xs : List Int => (((mv xs).1, bndV p xs), xs)) ((allP p).filter fun xs => (mv xs).2) [] nil_sorted).1
  rw [List.take_nil] at h2
  unfold allP at h2 ⊢
  unfold srtK
  rw [h2]
def stillF : List Int → Int × Bool := fun _ => (0, true)
theorem still_law {p : Pb} (hp : PbOk p) {most : Nat} (h0 : 0 < most) : visF p.nh (hopeB p (tim p)) (stF p most stillF) p.nt [] [] = ((srtK (keyC p) (allP p)).take most, true) := by
  have h := first_law hp h0 stillF (fun _ _ _ _ _ _ => rfl) (fun _ _ _ _ _ => Int.le_refl _)
  rw [h]
  congr 2
  rw [show (allP p).filter (fun xs => (stillF xs).2) = allP p from List.filter_eq_self.2 (fun _ _ => rfl)]
  rfl
/-- the plan, its cost and the error -/
def bestR (p : Pb) : List Int × Int × Int :=
  if chkE p ≠ 0 then ([], 0, chkE p) else match srtK (keyC p) (allP p) with
    | [] => ([], 0, 3)
    | y :: _ => (y.2, y.1.2, 0)
theorem best_1 {p : Pb} (h : ¬ chkE p = 0) : bestR p = ([], 0, chkE p) := if_pos h
theorem best_2 {p : Pb} (h : chkE p = 0) {L : RkL} (hL : strip L = (srtK (keyC p) (allP p)).take 1) (hn : L.length = 0) : bestR p = ([], 0, 3) := by
  have hn2 : L = [] := List.eq_nil_of_length_eq_zero hn
  subst hn2
  unfold bestR
  rw [if_neg (by rw [h]; decide)]
  cases hs : srtK (keyC p) (allP p) with
  | nil => rfl
  | cons y t => rw [hs] at hL; simp [strip] at hL
theorem best_3 {p : Pb} (h : chkE p = 0) {L : RkL} {y : (Int × Int) × BegE} (hL : strip L = (srtK (keyC p) (allP p)).take 1) (hy : L[0]? = some y) : bestR p = (y.2.xs, y.1.2, 0) := by
  unfold bestR
  rw [if_neg (by rw [h]; decide)]
  cases hs : srtK (keyC p) (allP p) with
  | nil => rw [hs] at hL; cases L with
    | nil => simp at hy
    | cons a t => simp [strip] at hL
  | cons z t =>
    rw [hs] at hL
    cases L with
    | nil => simp at hy
    | cons a u =>
      simp at hy
      subst hy
      simp [strip] at hL
      show (z.2, z.1.2, 0) = _
      rw [← hL.1]
/-- the entries of the first ones, in memory -/
theorem begs_cell {W : World} {B g n c i : Nat} {L : RkL} {y : (Int × Int) × BegE} (h : OwnR W B 34 1 (.slice (some ⟨g, 0, none⟩) n c) n (begsV L)) (hn : L.length = n) (hy : L[i]? = some y) : W.cell? ⟨g, i, none⟩ = some (.slice y.2.a y.2.xs.length y.2.c) := by
  have hi : i < L.length := (List.getElem?_eq_some_iff.1 hy).1
  have hO := h.ownP (val := fun j => (begsV L)[j]?.getD undef) (fun j u hu => by rw [hu]; rfl)
  have c1 := hO.cell (k := i) (by omega)
  rw [c1]
  simp [begsV, hy]
theorem keys_cell {W : World} {B g n c i : Nat} {L : RkL} {y : (Int × Int) × BegE} (h : OwnR W B 92 2 (.slice (some ⟨g, 0, none⟩) n c) n (keysV L)) (hn : L.length = n) (hy : L[i]? = some y) : W.cell? ⟨g, i * 2, none⟩ = some (.int .i64 y.1.1) ∧ W.cell? ⟨g, i * 2 + 1, none⟩ = some (.int .i64 y.1.2) := by
  have hi : i < L.length := (List.getElem?_eq_some_iff.1 hy).1
  have hO := h.ownP (val := fun j => (keysV L)[j]?.getD undef) (fun j u hu => by rw [hu]; rfl)
  obtain ⟨k1, k2⟩ := keys_get L i y hy
  have c1 := hO.cell (k := i * 2) (by omega)
  have c2 := hO.cell (k := i * 2 + 1) (by omega)
  simp only [k1, k2, Option.getD_some] at c1 c2
  exact ⟨c1, c2⟩
end
section
set_option linter.unusedVariables false
open Go.RowKit
/-- rows as values -/
def rowsV (E : List BegE) : List Value := E.map fun x => .slice x.a x.xs.length x.c
section
variable {w W W' : World} {a b c d i : Nat} {Ta Tb Tc : Value → World → Prop} {done : Nat → Bool} {u : Nat → Value} {v : Value}
end
/-- how many there are -/
theorem flatN_len {α : Type} {f : Nat → List α} {k : Nat} : ∀ {n : Nat}, (∀ h, h < n → (f h).length ≤ k) → (flatN f n).length ≤ n * k := by
  intro n
  induction n with
  | zero => intro _; simp [flatN]
  | succ n ih =>
    intro h
    have h1 := ih (fun i hi => h i (by omega))
    have h2 := h n (by omega)
    simp only [flatN, List.length_append]
    rw [Nat.add_mul]; omega
theorem pow_le {m : Nat} (h : m ≤ 5) : 4 ^ m ≤ 1024 := by
  have : m = 0 ∨ m = 1 ∨ m = 2 ∨ m = 3 ∨ m = 4 ∨ m = 5 := by omega
  rcases this with rfl | rfl | rfl | rfl | rfl | rfl <;> decide
theorem Try.bs38_1 (a : Option Addr) (n c : Nat) (w : World) : (Instr.buildSlice 38 1 #[(0, .slice a n c)]).run Try.prog w = .ok (.slice (some ⟨w.heap.size, 0, none⟩) 1 1) (w.alloc (.cells #[.slice a n c] 34)) := by kernel_rfl
end
section
set_option linter.unusedVariables false
open Go.RowKit
section
variable {α : Type}
theorem foldR_sorted {β : Type} (f : β → (Int × Int) × α) : ∀ (A : List β) (s : List ((Int × Int) × α)), Sorted s → Sorted (A.foldl (fun s x => insR s (f x)) s) := by
  intro A
  induction A with
  | nil => intro s h; exact h
  | cons a A ih => intro s h; exact ih _ (insR_sorted h _)
end
theorem srtK_sorted (key : List Int → Int × Int) (l : List (List Int)) : Sorted (srtK key l) := foldR_sorted (fun x => (key x, x)) l [] nil_sorted
theorem srtK_len (key : List Int → Int × Int) (l : List (List Int)) : (srtK key l).length = l.length := by
  have h : ∀ (l : List (List Int)) (s : List ((Int × Int) × List Int)), (l.foldl (fun s x => insR s (key x, x)) s).length = s.length + l.length := by
    intro l
    induction l with
    | nil => intro s; simp
    | cons a l ih => intro s; simp only [List.foldl_cons, List.length_cons]; rw [ih, insR_len]; omega
  unfold srtK; rw [h]; simp
section
variable {p : Pb} {E : List BegE} {i b : Nat} {x y : BegE}
theorem keyC_lt {a c : List Int} : ltK (keyC p a) (keyC p c) = decide (bndV p a < bndV p c) := by
  unfold ltK keyC; simp
end
/-- what is in the search's list -/
theorem mem_all {p : Pb} {hope : List Int → Bool} : ∀ (m : Nat) (xs : List Int), HosOk p xs → ∀ x ∈ allF p.nh hope m xs, HosOk p x ∧ x.length = xs.length + m ∧ hope x = false := by
  intro m
  induction m with
  | zero =>
    intro xs h x hx
    unfold allF at hx
    split at hx
    · simp at hx
    · simp at hx; subst hx; rename_i hh; exact ⟨h, rfl, by cases e : hope x with | true => exact absurd e hh | false => rfl⟩
  | succ m ih =>
    intro xs h x hx
    unfold allF at hx
    split at hx
    · simp at hx
    · obtain ⟨k, hk, hx⟩ := flatN_mem.1 hx
      obtain ⟨h1, h2, h3⟩ := ih _ (h.app hk) x hx
      exact ⟨h1, by simp at h2; omega, h3⟩
theorem mem_allP {p : Pb} {x : List Int} (h : x ∈ allP p) : HosOk p x ∧ x.length = p.nt ∧ hopeB p (tim p) x = false := by
  obtain ⟨h1, h2, h3⟩ := mem_all p.nt [] HosOk.nil x h
  exact ⟨h1, by simpa using h2, h3⟩
/-- the first plan, its cost, and whether there is one -/
def firR (p : Pb) : List Int × Int × Bool := match srtK (keyC p) (allP p) with
  | [] => ([], 0, false)
  | y :: _ => (y.2, y.1.2, true)
theorem best_no {p : Pb} (h : chkE p = 0) (k : (firR p).2.2 = false) : bestR p = ([], 0, 3) := by
  unfold bestR; rw [if_neg (by rw [h]; decide)]
  unfold firR at k
  cases hs : srtK (keyC p) (allP p) with
  | nil => rfl
  | cons y t => rw [hs] at k; cases k
theorem best_yes {p : Pb} (h : chkE p = 0) (k : (firR p).2.2 = true) : bestR p = ((firR p).1, (firR p).2.1, 0) := by
  unfold bestR; rw [if_neg (by rw [h]; decide)]
  unfold firR at k ⊢
  cases hs : srtK (keyC p) (allP p) with
  | nil => rw [hs] at k; cases k
  | cons y t => rfl
theorem Ints.nilZ (w : World) : Ints w none ([] : List Int).length [] := ⟨rfl, by decide, fun j hj => by simp at hj⟩
end
section
set_option linter.unusedVariables false
open Go.RowKit
theorem own_cell {W : World} {B e g n c i : Nat} {xs : List Value} {u : Value} (h : OwnR W B e 1 (.slice (some ⟨g, 0, none⟩) n c) n xs) (hu : xs[i]? = some u) : W.cell? ⟨g, i, none⟩ = some u := by
  have := World.ownsRow.cells h (g := g) rfl i u hu
  rwa [addr_add0] at this
section
variable {w W W' : World} {a b c d e f i : Nat} {Ta Tb Tc Td Te : Value → World → Prop} {done : Nat → Bool} {u : Nat → Value} {v : Value}
end
/-- rows, to be read -/
def RrAt (W : World) (a : Option Addr) (E : List BegE) : Prop := ∀ i x, E[i]? = some x → ∃ ad, a = some ad ∧ W.cell? (ad.add i) = some (.slice x.a x.xs.length x.c) ∧ Ints W x.a x.xs.length x.xs
theorem RrAt.gr {W W' : World} {a : Option Addr} {E : List BegE} (h : RrAt W a E) (g : Gr W W') : RrAt W' a E := fun i x hx => by
  obtain ⟨ad, h1, h2, h3⟩ := h i x hx
  exact ⟨ad, h1, (g.cell (lt_cell h2)).trans h2, h3.gr g⟩
end
section
set_option linter.unusedVariables false
open Go.RowKit
section
variable {cb : Nat} {s : Int} {O Kp : Nat → Prop} {W W' : World}
end
end
section
set_option linter.unusedVariables false
open Go.RowKit
/-- the leaves from a beginning on: 1: hopeless; 2: too dear -/
def lvsF (nh : Nat) (hope dear : List Int → Bool) : Nat → List Int → List (List Int × Int)
  | 0, xs => if hope xs then [(xs, 1)] else if dear xs then [(xs, 2)] else []
  | m + 1, xs => if hope xs then [(xs, 1)] else if dear xs then [(xs, 2)] else flatN (fun h => lvsF nh hope dear m (xs ++ [(h : Int)])) nh
section
variable {nh m : Nat} {hope dear : List Int → Bool} {xs : List Int} {s : List (List Int × Int)}
theorem lvs_h (h : hope xs = true) : lvsF nh hope dear m xs = [(xs, 1)] := by cases m <;> simp [lvsF, h]
theorem lvs_d (h : hope xs = false) (k : dear xs = true) : lvsF nh hope dear m xs = [(xs, 2)] := by cases m <;> simp [lvsF, h, k]
theorem lvs_0 (h : hope xs = false) (k : dear xs = false) : lvsF nh hope dear 0 xs = [] := by simp [lvsF, h, k]
theorem lvs_n (h : hope xs = false) (k : dear xs = false) : lvsF nh hope dear (m + 1) xs = flatN (fun h => lvsF nh hope dear m (xs ++ [(h : Int)])) nh := by simp [lvsF, h, k]
theorem pow4_pos : 1 ≤ 4 ^ m := Nat.pow_pos (by decide)
theorem lvs_len (h4 : nh ≤ 4) : (lvsF nh hope dear m xs).length ≤ 4 ^ m := by
  induction m generalizing xs with
  | zero =>
    unfold lvsF
    split
    · simp
    · split <;> simp
  | succ m ih =>
    have hp := pow4_pos (m := m + 1)
    unfold lvsF
    split
    · simpa using hp
    · split
      · simpa using hp
      · have h1 := flatN_len (f := fun h : Nat => lvsF nh hope dear m (xs ++ [(h : Int)])) (k := 4 ^ m) (n := nh) (fun h _ => ih)
        have h2 := Nat.mul_le_mul_right (4 ^ m) h4
        rw [Nat.pow_succ]; omega
/-- a round of the search -/
def prvF (hope dear : List Int → Bool) (s : List (List Int × Int)) (xs : List Int) : List (List Int × Int) × Bool × Bool :=
  if hope xs then (s ++ [(xs, 1)], true, decide (s.length + 1 ≤ 5000)) else if dear xs then (s ++ [(xs, 2)], false, decide (s.length + 1 ≤ 5000)) else (s, true, decide (s.length ≤ 5000))
theorem prv_h (h : hope xs = true) : prvF hope dear s xs = (s ++ [(xs, 1)], true, decide (s.length + 1 ≤ 5000)) := by simp [prvF, h]
theorem prv_d (h : hope xs = false) (k : dear xs = true) : prvF hope dear s xs = (s ++ [(xs, 2)], false, decide (s.length + 1 ≤ 5000)) := by simp [prvF, h, k]
theorem prv_n (h : hope xs = false) (k : dear xs = false) : prvF hope dear s xs = (s, true, decide (s.length ≤ 5000)) := by simp [prvF, h, k]
theorem prv_law (h4 : nh ≤ 4) : ∀ (m : Nat) (xs : List Int) (s : List (List Int × Int)), s.length + 4 ^ m ≤ 5000 → visF nh hope (prvF hope dear) m xs s = (s ++ lvsF nh hope dear m xs, true) := by
  intro m
  induction m with
  | zero =>
    intro xs s hs
    rw [show (4 : Nat) ^ 0 = 1 from rfl] at hs
    unfold visF
    cases h : hope xs with
    | true => rw [prv_h h, lvs_h h]; simp; omega
    | false =>
      cases k : dear xs with
      | true => rw [prv_d h k, lvs_d h k]; simp; omega
      | false => rw [prv_n h k, lvs_0 h k]; simp; omega
  | succ m ih =>
    intro xs s hs
    have hp := pow4_pos (m := m)
    rw [Nat.pow_succ] at hs
    unfold visF
    cases h : hope xs with
    | true => rw [prv_h h, lvs_h h]; simp; omega
    | false =>
      cases k : dear xs with
      | true => rw [prv_d h k, lvs_d h k]; simp; omega
      | false =>
        rw [prv_n h k, lvs_n h k]
        simp only [decide_eq_true (show s.length ≤ 5000 by omega), if_true, Bool.false_or, Bool.not_true, Bool.false_eq_true, if_false]
        have key : ∀ n, n ≤ nh → visN (fun h s => visF nh hope (prvF hope dear) m (xs ++ [(h : Int)]) s) n s = (s ++ flatN (fun h => lvsF nh hope dear m (xs ++ [(h : Int)])) n, true) := by
          intro n
          induction n with
          | zero => intro _; simp [visN, flatN]
          | succ n ihn =>
            intro hn
            have hf := flatN_len (f := fun h : Nat => lvsF nh hope dear m (xs ++ [(h : Int)])) (k := 4 ^ m) (n := n) (fun h _ => lvs_len h4)
            have hm : (n + 1) * 4 ^ m ≤ 4 * 4 ^ m := Nat.mul_le_mul_right _ (by omega)
            rw [Nat.add_mul] at hm
            unfold visN
            rw [ihn (by omega)]
            simp only [if_true]
            rw [ih _ _ (by rw [List.length_append]; omega), List.append_assoc]
            rfl
        exact key nh (Nat.le_refl _)
end
/-- what no plan of the search needs to be looked at -/
def dearP (p : Pb) (xs : List Int) : Bool := decide ((bestR p).2.2 = 0) && decide ((bestR p).2.1 ≤ bndV p xs)
/-- the leaves -/
def prvL (p : Pb) : List (List Int × Int) := if chkE p = 0 then lvsF p.nh (hopeB p (tim p)) (dearP p) p.nt [] else []
theorem prv_0 {p : Pb} (h : ¬ chkE p = 0) : prvL p = [] := if_neg h
theorem prv_1 {p : Pb} (h : chkE p = 0) : prvL p = lvsF p.nh (hopeB p (tim p)) (dearP p) p.nt [] := if_pos h
theorem prv_vis {p : Pb} (hsm : p.nt ≤ 5 ∧ p.nh ≤ 4) : visF p.nh (hopeB p (tim p)) (prvF (hopeB p (tim p)) (dearP p)) p.nt [] [] = (lvsF p.nh (hopeB p (tim p)) (dearP p) p.nt [], true) := by
  have h := pow_le hsm.1
  rw [prv_law hsm.2 p.nt [] [] (by simp; omega)]; rfl
theorem prv_len {p : Pb} (hsm : p.nt ≤ 5 ∧ p.nh ≤ 4) {dear : List Int → Bool} : (lvsF p.nh (hopeB p (tim p)) dear p.nt []).length ≤ 1024 :=
  Nat.le_trans (lvs_len hsm.2) (pow_le hsm.1)

/-- a leaf and where it lies -/
structure LfE where
  b : BegE
  why : Int
def stripL (E : List LfE) : List (List Int × Int) := E.map fun x => (x.b.xs, x.why)
def lfsV (E : List LfE) : List Value := E.flatMap fun x => [.slice x.b.a x.b.xs.length x.b.c, .int .i64 x.why]
theorem stripL_len (E : List LfE) : (stripL E).length = E.length := by simp [stripL]
theorem stripL_app (E F : List LfE) : stripL (E ++ F) = stripL E ++ stripL F := by simp [stripL]
theorem lfs_len (E : List LfE) : (lfsV E).length = E.length * 2 := by
  unfold lfsV
  induction E with
  | nil => rfl
  | cons x L ih => simp only [List.flatMap_cons, List.length_append, ih, List.length_cons, List.length_nil]; omega
theorem lfs_app (L M : List LfE) : lfsV (L ++ M) = lfsV L ++ lfsV M := by unfold lfsV; rw [List.flatMap_append]
theorem lfs_get {L : List LfE} {i : Nat} {x : LfE} (h : L[i]? = some x) : (lfsV L)[i * 2]? = some (.slice x.b.a x.b.xs.length x.b.c) ∧ (lfsV L)[i * 2 + 1]? = some (.int .i64 x.why) := by
  have hi : i < L.length := (List.getElem?_eq_some_iff.1 h).1
  have h1 : lfsV L = lfsV (L.take i) ++ lfsV (L.drop i) := by rw [← lfs_app, List.take_append_drop]
  have hl : (lfsV (L.take i)).length = i * 2 := by rw [lfs_len, List.length_take, Nat.min_eq_left (by omega)]
  have h2 : L.drop i = x :: L.drop (i + 1) := by
    rw [List.drop_eq_getElem_cons hi]
    rw [(List.getElem?_eq_some_iff.1 h).2]
  rw [h1, h2]
  constructor
  · rw [List.getElem?_append_right (by omega), hl]; simp [lfsV]
  · rw [List.getElem?_append_right (by omega), hl]; simp [lfsV]
/-- leaves, to be read -/
def LfAt (W : World) (a : Option Addr) (E : List LfE) : Prop := ∀ i x, E[i]? = some x → ∃ ad, a = some ad ∧ W.cell? (ad.add (i * 2)) = some (.slice x.b.a x.b.xs.length x.b.c) ∧ W.cell? ((ad.add (i * 2)).add 1) = some (.int .i64 x.why) ∧ Ints W x.b.a x.b.xs.length x.b.xs ∧ x.b.xs.length ≤ x.b.c
theorem LfAt.gr {W W' : World} {a : Option Addr} {E : List LfE} (h : LfAt W a E) (g : Gr W W') : LfAt W' a E := fun i x hx => by
  obtain ⟨ad, h1, h2, h4, h3, h5⟩ := h i x hx
  exact ⟨ad, h1, (g.cell (lt_cell h2)).trans h2, (g.cell (lt_cell h4)).trans h4, h3.gr g, h5⟩
theorem LfAt.nil (W : World) (a : Option Addr) : LfAt W a [] := fun i x hx => by simp at hx
theorem lf_own {W : World} {B e c : Nat} {a : Option Addr} {E : List LfE} (h : OwnR W B e 2 (.slice a E.length c) E.length (lfsV E)) (hi : ∀ y ∈ E, Ints W y.b.a y.b.xs.length y.b.xs ∧ y.b.xs.length ≤ y.b.c) : LfAt W a E := fun i x hx => by
  have hl : i < E.length := (List.getElem?_eq_some_iff.1 hx).1
  obtain ⟨g, L, rfl, _⟩ := h.row (by omega)
  have hO := h.ownP (val := fun j => (lfsV E)[j]?.getD undef) (fun j u hu => by rw [hu]; rfl)
  obtain ⟨k1, k2⟩ := lfs_get hx
  have c1 := hO.cell (k := i * 2) (by omega)
  have c2 := hO.cell (k := i * 2 + 1) (by omega)
  simp only [k1, k2, Option.getD_some] at c1 c2
  refine ⟨_, rfl, ?_, ?_, hi x (List.mem_of_getElem? hx)⟩
  · rw [addr_add0]; exact c1
  · rw [addr_add0, Y.addr_add]; exact c2
end
section
open Go.RowKit

theorem within_isH (p : Pb) (x : Int) : withinB x 0 ((p.nh : Int) - 1) = isH p x := by
  unfold withinB isH
  congr 1
  rw [decide_eq_decide]; omega
section
variable {p : Pb} {xs : List Int} {wh : Bool}
theorem beg_2 (h : chkE p = 0) (k : p.nt < xs.length ∨ hosB p xs = false) : begE p xs = 33 := by
  unfold begE; rw [if_neg (by rw [h]; decide), if_pos k]
theorem beg_3 (h : chkE p = 0) (k1 : ¬ p.nt < xs.length) (k2 : hosB p xs = true) : begE p xs = 0 := by
  unfold begE; rw [if_neg (by rw [h]; decide), if_neg (by rintro (e | e); exact k1 e; rw [k2] at e; cases e)]
theorem who_1 (h : ¬ begE p xs = 0) : whoE p xs = begE p xs := by unfold whoE; rw [if_pos h]
theorem who_2 (h : begE p xs = 0) (k : xs.length < p.nt) : whoE p xs = 33 := by unfold whoE; rw [if_neg (by rw [h]; decide), if_pos k]
theorem who_3 (h : begE p xs = 0) (k : ¬ xs.length < p.nt) : whoE p xs = 0 := by unfold whoE; rw [if_neg (by rw [h]; decide), if_neg k]
end
def allowV (p : Pb) (xs : List Int) : Bool := decide (whoE p xs = 0) && !hopeB p (tim p) xs
def costV (p : Pb) (xs : List Int) : Int := if whoE p xs = 0 then bndV p xs else 0
section
variable {p : Pb} {xs : List Int}
theorem allow_0 (h : ¬ whoE p xs = 0) : allowV p xs = false := by unfold allowV; rw [decide_eq_false h]; rfl
theorem allow_1 (h : whoE p xs = 0) : allowV p xs = !hopeB p (tim p) xs := by unfold allowV; rw [decide_eq_true h]; rfl
theorem cost_0 (h : ¬ whoE p xs = 0) : costV p xs = 0 := if_neg h
theorem cost_1 (h : whoE p xs = 0) : costV p xs = bndV p xs := if_pos h
theorem hund_100 (p : Pb) : hund p 100 = tim p := by
  funext i; unfold hund tim; omega
end
set_option maxRecDepth 100000 in
set_option maxHeartbeats 400000 in
theorem hos1_any (p : Pb) (ta ha ba la : Option Addr) (tc hc bc lc : Nat) (bp : Nat) (x : Int) (w : World) (hP : PbAt w p ta ha ba la tc hc bc lc) (hq : RCells w [(⟨bp, 0, none⟩, .slice ta p.nt tc), (⟨bp, 1, none⟩, .slice ha p.nh hc), (⟨bp, 2, none⟩, .slice ba p.nb bc), (⟨bp, 3, none⟩, .slice la p.nl lc)]) :
  Calls Try.prog 110 #[Vi x, Vp bp] w fun e w' => e = .returned (.bool (!isH p x)) ∧ Gr w w' := by
 have G := Gr.refl w
 have hpt := hP.t
 have hph := hP.h
 have hpb := hP.b
 have hpl := hP.l
 have hplen := hP.len
 obtain ⟨hn1, hn2, hn3, hn4⟩ := hplen
 have hcp1 := hpt.cap
 have hcp2 := hph.cap
 have hcp3 := hpb.cap
 have hcp4 := hpl.cap
 have hC := hq
 refine Y.calls 11 Try.func110 rfl rfl ?_
 intro ac F0
 have F : Fr ac 11 [(0, Vi x), (1, Vp bp)] := F0.sub _
 clear F0
 refine Y.sg F [(0, Vi x), (1, Vp bp)] (Y.pv F (X.assign rfl (X.kc (.bool false) rfl)) fun ac F=>Y.fin F) ?_;clear F ac;intro ac F
 refine Y.sl ?_
 refine Y.pv4 F (X.move rfl (F.ev 0 (Vi x))) (fun _ F=>X.field rfl (F.ev 1 (Vp bp)) (X.fld Try.underlying27 rfl (Try.siz23 _) rfl rfl)) (fun _ F=>X.load rfl (F.ev 5 (.pointer (some ⟨bp, 1, none⟩))) (X.ld1 (Try.agg23 _) (hC.at 1 rfl))) (fun _ F=>X.len1 Try.underlying23 rfl (F.ev 6 (.slice ha p.nh hc))) fun ac F=>Y.pv F (X.binop rfl (F.ev 7 (Vi p.nh)) (X.kc (Vi 1) rfl) (X.subI Try.underlying3 rfl (by omega) (by omega))) fun ac F=>Y.pc F 56 (X.a3 (F.ev 4 (Vi x)) (X.kc (Vi 0) rfl) (F.ev 8 (Vi ((p.nh : Int) - 1)))) Try.func56 (within_any x 0 ((p.nh : Int) - 1) w) ?_
 clear F ac
 rintro e w' ⟨rfl, hw_⟩
 obtain rfl : w = w' := hw_.symm
 clear hw_
 refine ⟨_, rfl, ?_⟩
 intro ac F
 refine Y.pv2 F (X.notB rfl (F.ev 9 (.bool (withinB x 0 ((p.nh : Int) - 1)))) rfl) (fun _ F=>X.assign rfl (F.ev 10 (.bool (!(withinB x 0 ((p.nh : Int) - 1)))))) ?_;clear F ac;intro ac F
 refine Y.nt F [(3, .bool (!(withinB x 0 ((p.nh : Int) - 1))))] ?_;clear F ac;intro ac F
 refine Y.ret ?_
 exact Y.ret0 (v := .bool (!(withinB x 0 ((p.nh : Int) - 1)))) F (Y.r1 F) ⟨by rw [within_isH], G⟩
set_option maxRecDepth 100000 in
set_option maxHeartbeats 400000 in
theorem idx115_any (p : Pb) (ta ha ba la : Option Addr) (tc hc bc lc : Nat) (a : Option Addr) (c : Nat) (xs : List Int) (bp : Nat) (w : World) (hP : PbAt w p ta ha ba la tc hc bc lc) (hX : Ints w a xs.length xs) (hq : RCells w [(⟨bp, 0, none⟩, .slice ta p.nt tc), (⟨bp, 1, none⟩, .slice ha p.nh hc), (⟨bp, 2, none⟩, .slice ba p.nb bc), (⟨bp, 3, none⟩, .slice la p.nl lc)]) :
  Calls Try.prog 115 #[.slice a xs.length c, .func (.func 110) #[] #[Vp bp]] w fun e w' => e = .returned (Vi (firI (fun i => !isH p (xs[i]?.getD 0)) xs.length)) ∧ Gr w w' := by
 have G := Gr.refl w
 have hpt := hP.t
 have hph := hP.h
 have hpb := hP.b
 have hpl := hP.l
 have hplen := hP.len
 obtain ⟨hn1, hn2, hn3, hn4⟩ := hplen
 have hcp1 := hpt.cap
 have hcp2 := hph.cap
 have hcp3 := hpb.cap
 have hcp4 := hpl.cap
 have hxs := hX
 have hlt := hxs.lt
 have hC := hq
 refine Y.calls 19 Try.func115 rfl rfl ?_
 intro ac F0
 have F : Fr ac 19 [(0, .slice a xs.length c), (1, .func (.func 110) #[] #[Vp bp])] := F0.sub _
 clear F0
 refine Y.sg F [(0, .slice a xs.length c), (1, .func (.func 110) #[] #[Vp bp])] (Y.pv F (X.assign rfl (X.kc (Vi 0) rfl)) fun ac F=>Y.fin F) ?_;clear F ac;intro ac F
 refine Y.seq ?_
 refine Y.sg F [(0, .slice a xs.length c), (1, .func (.func 110) #[] #[Vp bp]), (7, Vi xs.length), (8, Vi 0)] (Y.pv F (X.move rfl (F.ev 0 (.slice a xs.length c))) fun ac F=>Y.pv F (X.len1 Try.underlying34 rfl (F.ev 6 (.slice a xs.length c))) fun ac F=>Y.pv F (X.move rfl (X.kc (Vi 0) rfl)) fun ac F=>Y.fin F) ?_;clear F ac;intro ac F
 refine Y.block ?_
 have hptB := hpt
 have hphB := hph
 have hpbB := hpb
 have hplB := hpl
 have hxsB := hxs
 have hCB := hC
 have GB := G
 refine Y.loop (fun me_ ac wr => ∃ (i : Nat), me_ = xs.length - i ∧ Gr w wr ∧ i ≤ xs.length ∧ allN (fun i => !(!isH p (xs[i]?.getD 0))) i = true ∧ Fr ac 19 [(0, .slice a xs.length c), (1, .func (.func 110) #[] #[Vp bp]), (7, Vi xs.length), (8, Vi i)]) _ ⟨0, rfl, Gr.refl _, Nat.zero_le _, rfl, F.sub _⟩ ?_
 clear F
 intro me_ ac w3 hI
 obtain ⟨i, rfl, gr, hi0, hok, F⟩ := hI
 replace G := GB.trans gr
 replace hC := hCB.gr gr
 replace hpt := hptB.gr gr
 replace hph := hphB.gr gr
 replace hpb := hpbB.gr gr
 replace hpl := hplB.gr gr
 replace hxs := hxsB.gr gr
 have GB_ := gr
 clear gr
 refine Y.sg F [(0, .slice a xs.length c), (1, .func (.func 110) #[] #[Vp bp]), (7, Vi xs.length), (8, Vi i), (9, .bool (decide ((i : Int) < xs.length)))] (Y.pv F (X.binop rfl (F.ev 8 (Vi i)) (F.ev 7 (Vi xs.length)) (X.lssI Try.underlying3 rfl)) fun ac F=>Y.fin F) ?_;clear F ac;intro ac F
 refine Y.seq ?_
 cases h4 : decide ((i : Int) < xs.length) with
 | false =>
  try rw [h4] at F
  have h4p : ¬ ((i : Int) < xs.length) := of_decide_eq_false h4
  obtain rfl : i = xs.length := by omega
  refine Y.cF F 9 ?_
  refine Y.exit ?_
  refine X.thenX (X.thenX (X.blockX (X.thenN ?_)))
  refine Y.sg F [(4, Vi (-1))] (Y.pv F (X.assign rfl (X.kc (Vi (-1)) rfl)) fun ac F=>Y.fin F) ?_;clear F ac;intro ac F
  refine Y.ret ?_
  exact Y.ret0 (v := Vi (-1)) F (Y.r1 F) ⟨ret_int ((firI_none hok).symm), G⟩
 | true =>
  try rw [h4] at F
  have h4p : ((i : Int) < xs.length) := of_decide_eq_true h4
  have hi : i < xs.length := by omega
  refine Y.cT F 9 ?_
  refine Y.skip ?_
  refine X.thenN ?_
  refine Y.seq ?_
  refine Y.block ?_
  refine Y.sg F [(0, .slice a xs.length c), (1, .func (.func 110) #[] #[Vp bp]), (5, Vi i), (7, Vi xs.length), (8, Vi i)] (Y.pv F (X.move rfl (F.ev 8 (Vi i))) fun ac F=>Y.pv F (X.assign rfl (F.ev 10 (Vi i))) fun ac F=>Y.fin F) ?_;clear F ac;intro ac F
  refine Y.sl ?_
  refine Y.pv3 F (X.move rfl (F.ev 1 (.func (.func 110) #[] #[Vp bp]))) (fun _ F=>X.move rfl (F.ev 0 (.slice a xs.length c))) (fun _ F=>X.move rfl (F.ev 5 (Vi i))) ?_;clear F ac;intro ac F
  obtain ⟨pd5, pe5, -, pc5⟩ := hxs.at (j := i) (by omega)
  subst pe5
  replace hC := hC.append (show RCells w3 ([(pd5.add i, Vi (xs[i]?.getD 0))]) from (RCells.cons pc5 (RCells.nil _)))
  clear pc5
  refine Y.pval F (X.w0 rfl) rfl (X.index rfl (F.ev 12 (.slice (some pd5) xs.length c)) (F.ev 13 (Vi i)) (X.idx (k := i) Try.underlying34 (Try.siz3 _) (by omega) (by omega) (by rw [Nat.mul_one]))) fun ac F=>Y.pv F (X.load rfl (F.ev 14 (.pointer (some (pd5.add i)))) (X.ld1 (Try.agg3 _) (hC.at 4 rfl))) ?_;clear F ac;intro ac F
  refine Y.pcall F (X.w0 rfl) rfl (X.enter (F := 110) rfl (F.ev 11 (.func (.func 110) #[] #[Vp bp])) (X.a1 (F.ev 15 (Vi (xs[i]?.getD 0)))) (enters_of Try.func110 (by kernel_rfl) rfl _)) (hos1_any p ta ha ba la tc hc bc lc bp (xs[i]?.getD 0) w3 (hP.gr G) (hq.gr G)) ?_
  clear F ac
  rintro e w6 ⟨rfl, g⟩
  refine ⟨_, rfl, ?_⟩
  intro ac F
  replace G := G.trans g
  replace hC := hC.gr g
  replace GB_ := GB_.trans g
  replace hpt := hpt.gr g
  replace hph := hph.gr g
  replace hpb := hpb.gr g
  replace hpl := hpl.gr g
  replace hxs := hxs.gr g
  clear g
  refine Y.nt F [(0, .slice (some pd5) xs.length c), (1, .func (.func 110) #[] #[Vp bp]), (5, Vi i), (7, Vi xs.length), (8, Vi i), (16, .bool (!isH p (xs[i]?.getD 0)))] ?_;clear F ac;intro ac F
  cases h7 : isH p (xs[i]?.getD 0) with
  | false =>
   try rw [h7] at F
   refine Y.cT F 16 ?_
   refine Y.sg F [(4, Vi i)] (Y.pv F (X.move rfl (F.ev 5 (Vi i))) fun ac F=>Y.pv F (X.assign rfl (F.ev 17 (Vi i))) fun ac F=>Y.fin F) ?_;clear F ac;intro ac F
   refine Y.ret ?_
   refine X.blockR (X.thenR (X.thenR (X.blockR (X.thenR ?_))))
   exact Y.ret0 (v := Vi i) F (Y.r1 F) ⟨ret_int ((firI_some (f := fun i => !isH p (xs[i]?.getD 0)) hi hok (by simp [h7])).symm), G⟩
  | true =>
   try rw [h7] at F
   refine Y.cF F 16 ?_
   refine Y.skip ?_
   refine X.blockN (X.thenN ?_)
   refine Y.lg F [(0, .slice (some pd5) xs.length c), (1, .func (.func 110) #[] #[Vp bp]), (7, Vi xs.length), (8, Vi ((i : Int) + 1))] (by
    refine Y.pv F (X.binop rfl (F.ev 8 (Vi i)) (X.kc (Vi 1) rfl) (X.addI Try.underlying3 rfl (by omega) (by omega))) fun ac F=>?_
    refine Y.pv F (X.move rfl (F.ev 18 (Vi ((i : Int) + 1)))) fun ac F=>?_
    exact Y.fin F) ?_;clear F ac;intro ac F
   refine ⟨_, ?_, i + 1, rfl, GB_, by omega, allN_succ hok (by simp [h7]), F.sub _⟩
   omega
set_option maxRecDepth 100000 in
set_option maxHeartbeats 400000 in
theorem con94_any (p : Pb) (ta ha ba la : Option Addr) (tc hc bc lc : Nat) (a : Option Addr) (c : Nat) (xs : List Int) (bp : Nat) (w : World) (hP : PbAt w p ta ha ba la tc hc bc lc) (hX : Ints w a xs.length xs) (hq : RCells w [(⟨bp, 0, none⟩, .slice ta p.nt tc), (⟨bp, 1, none⟩, .slice ha p.nh hc), (⟨bp, 2, none⟩, .slice ba p.nb bc), (⟨bp, 3, none⟩, .slice la p.nl lc)]) :
  Calls Try.prog 94 #[.slice a xs.length c, .func (.func 110) #[] #[Vp bp]] w fun e w' => e = .returned (.bool (!hosB p xs)) ∧ Gr w w' := by
 have G := Gr.refl w
 have hpt := hP.t
 have hph := hP.h
 have hpb := hP.b
 have hpl := hP.l
 have hplen := hP.len
 obtain ⟨hn1, hn2, hn3, hn4⟩ := hplen
 have hcp1 := hpt.cap
 have hcp2 := hph.cap
 have hcp3 := hpb.cap
 have hcp4 := hpl.cap
 have hxs := hX
 have hlt := hxs.lt
 have hC := hq
 refine Y.calls 9 Try.func94 rfl rfl ?_
 intro ac F0
 have F : Fr ac 9 [(0, .slice a xs.length c), (1, .func (.func 110) #[] #[Vp bp])] := F0.sub _
 clear F0
 refine Y.sg F [(0, .slice a xs.length c), (1, .func (.func 110) #[] #[Vp bp])] (Y.pv F (X.assign rfl (X.kc (.bool false) rfl)) fun ac F=>Y.fin F) ?_;clear F ac;intro ac F
 refine Y.sl ?_
 refine Y.pv2 F (X.move rfl (F.ev 0 (.slice a xs.length c))) (fun _ F=>X.move rfl (F.ev 1 (.func (.func 110) #[] #[Vp bp]))) fun ac F=>Y.pc F 115 (X.a2 (F.ev 5 (.slice a xs.length c)) (F.ev 6 (.func (.func 110) #[] #[Vp bp]))) Try.func115 (idx115_any p ta ha ba la tc hc bc lc a c xs bp w (hP.gr G) (hX.gr G) (hq.gr G)) ?_
 clear F ac
 rintro e w3 ⟨rfl, g⟩
 refine ⟨_, rfl, ?_⟩
 intro ac F
 replace G := G.trans g
 replace hC := hC.gr g
 replace hpt := hpt.gr g
 replace hph := hph.gr g
 replace hpb := hpb.gr g
 replace hpl := hpl.gr g
 replace hxs := hxs.gr g
 clear g
 refine Y.pv2 F (X.binop rfl (F.ev 7 (Vi (firI (fun i => !isH p (xs[i]?.getD 0)) xs.length))) (X.kc (Vi 0) rfl) (X.geqI Try.underlying3 rfl)) (fun _ F=>X.assign rfl (F.ev 8 (.bool (decide ((0 : Int) ≤ (firI (fun i => !isH p (xs[i]?.getD 0)) xs.length)))))) ?_;clear F ac;intro ac F
 refine Y.nt F [(4, .bool (decide ((0 : Int) ≤ (firI (fun i => !isH p (xs[i]?.getD 0)) xs.length))))] ?_;clear F ac;intro ac F
 refine Y.ret ?_
 exact Y.ret0 (v := .bool (decide ((0 : Int) ≤ (firI (fun i => !isH p (xs[i]?.getD 0)) xs.length)))) F (Y.r1 F) ⟨by rw [firI_any (f := fun i => !isH p (xs[i]?.getD 0)), not_notB]; rfl, G⟩
set_option maxRecDepth 100000 in
set_option maxHeartbeats 400000 in
theorem hosted_any (p : Pb) (ta ha ba la : Option Addr) (tc hc bc lc : Nat) (a : Option Addr) (c : Nat) (xs : List Int) (w : World) (hP : PbAt w p ta ha ba la tc hc bc lc) (hX : Ints w a xs.length xs) :
  Calls Try.prog 88 #[.agg #[.slice ta p.nt tc, .slice ha p.nh hc, .slice ba p.nb bc, .slice la p.nl lc], .slice a xs.length c] w fun e w' => e = .returned (.bool (hosB p xs)) ∧ Gr w w' := by
 have G := Gr.refl w
 have hpt := hP.t
 have hph := hP.h
 have hpb := hP.b
 have hpl := hP.l
 have hplen := hP.len
 obtain ⟨hn1, hn2, hn3, hn4⟩ := hplen
 have hcp1 := hpt.cap
 have hcp2 := hph.cap
 have hcp3 := hpb.cap
 have hcp4 := hpl.cap
 have hxs := hX
 have hlt := hxs.lt
 refine Y.calls 9 Try.func88 rfl rfl ?_
 intro ac F0
 have F : Fr ac 9 [(0, .agg #[.slice ta p.nt tc, .slice ha p.nh hc, .slice ba p.nb bc, .slice la p.nl lc]), (1, .slice a xs.length c)] := F0.sub _
 clear F0
 refine Y.sl ?_
 have hgs3 : w.heap.size ≤ w.heap.size := G.size
 refine Y.pv F (X.box rfl (F.ev 0 (.agg #[.slice ta p.nt tc, .slice ha p.nh hc, .slice ba p.nb bc, .slice la p.nl lc])) X.bx) ?_;clear F ac;intro ac F
 have hgs5 : w.heap.size ≤ w.heap.size := G.size
 obtain ⟨w6, hw_, g, hb, hbl, hC2⟩ := Y.bxd (RCells.nil w) #[.slice ta p.nt tc, .slice ha p.nh hc, .slice ba p.nb bc, .slice la p.nl lc] 27;rw [hw_];clear hw_
 replace G := G.trans g
 have hC := hC2
 clear hC2
 replace hpt := hpt.gr g
 replace hph := hph.gr g
 replace hpb := hpb.gr g
 replace hpl := hpl.gr g
 replace hxs := hxs.gr g
 have hsz4 := hbl
 clear g hb hbl
 refine Y.pv F (X.assign rfl (X.kc (.bool false) rfl)) ?_;clear F ac;intro ac F
 refine Y.nt F [(1, .slice a xs.length c), (2, Vp w.heap.size)] ?_;clear F ac;intro ac F
 refine Y.sl ?_
 refine Y.pv2 F (X.move rfl (F.ev 1 (.slice a xs.length c))) (fun _ F=>Y.fnc rfl (Y.m1 (F.ev 2 (Vp w.heap.size)))) fun ac F=>Y.pc F 94 (X.a2 (F.ev 5 (.slice a xs.length c)) (F.ev 6 (.func (.func 110) #[] #[Vp w.heap.size]))) Try.func94 (con94_any p ta ha ba la tc hc bc lc a c xs w.heap.size w6 (hP.gr G) (hX.gr G) ((RCells.cons (hC.at 0 rfl) (RCells.cons (hC.at 1 rfl) (RCells.cons (hC.at 2 rfl) (RCells.cons (hC.at 3 rfl) (RCells.nil _))))))) ?_
 clear F ac
 rintro e w7 ⟨rfl, g⟩
 refine ⟨_, rfl, ?_⟩
 intro ac F
 replace G := G.trans g
 replace hC := hC.gr g
 replace hpt := hpt.gr g
 replace hph := hph.gr g
 replace hpb := hpb.gr g
 replace hpl := hpl.gr g
 replace hxs := hxs.gr g
 clear g
 refine Y.pv2 F (X.notB rfl (F.ev 7 (.bool (!hosB p xs))) rfl) (fun _ F=>X.assign rfl (F.ev 8 (.bool (!(!hosB p xs))))) ?_;clear F ac;intro ac F
 refine Y.nt F [(4, .bool (!(!hosB p xs)))] ?_;clear F ac;intro ac F
 refine Y.ret ?_
 exact Y.ret0 (v := .bool (!(!hosB p xs))) F (Y.r1 F) ⟨by rw [Bool.not_not], G⟩
end
section
set_option linter.unusedVariables false
open Go.RowKit
section
variable (ok : List Int → Bool) (dif : List Int → Int)
end
end
section
open Go.RowKit

theorem Ints.nil0 (w : World) : Ints w none 0 [] := ⟨rfl, by decide, fun j hj => by omega⟩
set_option maxRecDepth 100000 in
set_option maxHeartbeats 2000000 in
theorem best_any (p : Pb) (ta ha ba la : Option Addr) (tc hc bc lc : Nat) (w : World) (hP : PbAt w p ta ha ba la tc hc bc lc) :
  Calls Try.prog 22 #[.agg #[.slice ta p.nt tc, .slice ha p.nh hc, .slice ba p.nb bc, .slice la p.nl lc]] w fun e w' => ∃ a c, e = .returned (.tuple #[.slice a (bestR p).1.length c, Vi (bestR p).2.1, Vi (bestR p).2.2]) ∧ Ints w' a (bestR p).1.length (bestR p).1 ∧ ((bestR p).1.length = 0 → a = none ∧ c = 0) ∧ Gr w w' := by
 have G := Gr.refl w
 have hpt := hP.t
 have hph := hP.h
 have hpb := hP.b
 have hpl := hP.l
 have hplen := hP.len
 obtain ⟨hn1, hn2, hn3, hn4⟩ := hplen
 have hcp1 := hpt.cap
 have hcp2 := hph.cap
 have hcp3 := hpb.cap
 have hcp4 := hpl.cap
 refine Y.calls 33 Try.func22 rfl rfl ?_
 intro ac F0
 have F : Fr ac 33 [(0, .agg #[.slice ta p.nt tc, .slice ha p.nh hc, .slice ba p.nb bc, .slice la p.nl lc])] := F0.sub _
 clear F0
 refine Y.sl ?_
 have hgs3 : w.heap.size ≤ w.heap.size := G.size
 refine Y.pv F (X.box rfl (F.ev 0 (.agg #[.slice ta p.nt tc, .slice ha p.nh hc, .slice ba p.nb bc, .slice la p.nl lc])) X.bx) ?_;clear F ac;intro ac F
 have hgs5 : w.heap.size ≤ w.heap.size := G.size
 obtain ⟨w6, hw_, g, hb, hbl, hC2⟩ := Y.bxd (RCells.nil w) #[.slice ta p.nt tc, .slice ha p.nh hc, .slice ba p.nb bc, .slice la p.nl lc] 27;rw [hw_];clear hw_
 replace G := G.trans g
 have hC := hC2
 clear hC2
 replace hpt := hpt.gr g
 replace hph := hph.gr g
 replace hpb := hpb.gr g
 replace hpl := hpl.gr g
 have hsz4 := hbl
 clear g hb hbl
 refine Y.pv3 F (X.assign rfl (X.kc (.slice none 0 0) rfl)) (fun _ F=>X.assign rfl (X.kc (Vi 0) rfl)) (fun _ F=>X.assign rfl (X.kc (Vi 0) rfl)) ?_;clear F ac;intro ac F
 refine Y.nt F [(1, Vp w.heap.size)] ?_;clear F ac;intro ac F
 refine Y.seq ?_
 refine Y.sl ?_
 refine Y.pv F (X.load rfl (F.ev 1 (Vp w.heap.size)) (X.ldN (Try.agg27 _) (Try.siz27 _) (Y.atz (⟨w.heap.size, 0, none⟩) (Y.AtFrom.cons (hC.at 0 rfl) (Y.AtFrom.cons (hC.at 1 rfl) (Y.AtFrom.cons (hC.at 2 rfl) (Y.AtFrom.cons (hC.at 3 rfl) (Y.AtFrom.nil _ _ _)))))))) fun ac F=>Y.pc F 18 (X.a1 (F.ev 7 (.agg #[.slice ta p.nt tc, .slice ha p.nh hc, .slice ba p.nb bc, .slice la p.nl lc]))) Try.func18 (check_any p ta ha ba la tc hc bc lc w6 (hP.gr G)) ?_
 clear F ac
 rintro e w7 ⟨rfl, g⟩
 refine ⟨_, rfl, ?_⟩
 intro ac F
 replace G := G.trans g
 replace hC := hC.gr g
 replace hpt := hpt.gr g
 replace hph := hph.gr g
 replace hpb := hpb.gr g
 replace hpl := hpl.gr g
 clear g
 refine Y.pv F (X.assign rfl (F.ev 8 (Vi (chkE p)))) ?_;clear F ac;intro ac F
 refine Y.nt F [(1, Vp w.heap.size), (5, Vi (chkE p))] ?_;clear F ac;intro ac F
 refine Y.sg F [(1, Vp w.heap.size), (5, Vi (chkE p)), (10, .bool ((chkE p : Int) != 0))] (Y.pv F (X.move rfl (F.ev 5 (Vi (chkE p)))) fun ac F=>Y.pv F (X.binop rfl (F.ev 9 (Vi (chkE p))) (X.kc (Vi 0) rfl) (X.neqI Try.underlying31 rfl)) fun ac F=>Y.fin F) ?_;clear F ac;intro ac F
 cases h8 : ((chkE p : Int) != 0) with
 | false =>
  try rw [h8] at F
  have h8p : (chkE p : Int) = 0 := by simpa using h8
  have hck : chkE p = 0 := by omega
  have hp := chk_ok hck
  refine Y.cF F 10 ?_
  refine Y.skip ?_
  refine X.thenN ?_
  refine Y.sl ?_
  refine Y.pv F (X.load rfl (F.ev 1 (Vp w.heap.size)) (X.ldN (Try.agg27 _) (Try.siz27 _) (Y.atz (⟨w.heap.size, 0, none⟩) (Y.AtFrom.cons (hC.at 0 rfl) (Y.AtFrom.cons (hC.at 1 rfl) (Y.AtFrom.cons (hC.at 2 rfl) (Y.AtFrom.cons (hC.at 3 rfl) (Y.AtFrom.nil _ _ _)))))))) fun ac F=>Y.pc F 64 (X.a3 (F.ev 12 (.agg #[.slice ta p.nt tc, .slice ha p.nh hc, .slice ba p.nb bc, .slice la p.nl lc])) (X.kc (Vi 1) rfl) (X.kc (.func (.func 65) #[] #[]) rfl)) Try.func64 (first_any p ta ha ba la tc hc bc lc 1 65 #[] stillF w7 (hP.gr G) hp (by decide) (enters_of Try.func65 (by kernel_rfl) rfl) (fun W xs a c g hi hl hx => still_any a xs.length c W)) ?_
  clear F ac
  have hfG := G
  rintro e w9 ⟨rb, kv, lv, L, B, rfl, hRk, hV, hrb, hBw, hLm, g⟩
  refine ⟨_, rfl, ?_⟩
  intro ac F
  replace G := G.trans g
  replace hC := hC.gr g
  replace hpt := hpt.gr g
  replace hph := hph.gr g
  replace hpb := hpb.gr g
  replace hpl := hpl.gr g
  clear g
  rw [still_law hp (by decide)] at hV
  injection hV with hV
  replace hV := hV.symm
  obtain ⟨ka, kc, rfl⟩ := hRk.k.form
  obtain ⟨la9, lc9, rfl⟩ := hRk.l.form
  refine Y.pv F (X.assign rfl (F.ev 13 (Vp rb))) ?_;clear F ac;intro ac F
  refine Y.nt F [(6, Vp rb)] ?_;clear F ac;intro ac F
  refine Y.seq ?_
  refine Y.sl ?_
  refine Y.pv3 F (X.move rfl (F.ev 6 (Vp rb))) (fun _ F=>Y.nilC rfl (F.ev 14 (Vp rb))) (fun _ F=>X.field rfl (F.ev 15 (Vp rb)) (X.fld Try.underlying91 rfl (Try.siz38 _) rfl rfl)) ?_;clear F ac;intro ac F
  replace hC := hC.append (show RCells w9 (bcells rb [Vi (1 : Nat), .slice ka L.length kc, .slice la9 L.length lc9] 0) from (RCells.cons (hRk.own.cell (k := 0) (by decide)) (RCells.cons (hRk.own.cell (k := 1) (by decide)) (RCells.cons (hRk.own.cell (k := 2) (by decide)) (RCells.nil _)))))
  refine Y.pv3 F (X.load rfl (F.ev 16 (.pointer (some ⟨rb, 2, none⟩))) (X.ld1 (Try.agg38 _) (hC.at 6 rfl))) (fun _ F=>X.len1 Try.underlying38 rfl (F.ev 17 (.slice la9 L.length lc9))) (fun _ F=>X.binop rfl (F.ev 18 (Vi L.length)) (X.kc (Vi 0) rfl) (X.eqlI Try.underlying3 rfl)) ?_;clear F ac;intro ac F
  refine Y.nt F [(6, Vp rb), (19, .bool ((L.length : Int) == 0))] ?_;clear F ac;intro ac F
  cases h10 : ((L.length : Int) == 0) with
  | false =>
   try rw [h10] at F
   have h10p : ¬ (L.length : Int) = 0 := by simpa using h10
   obtain ⟨y, hy⟩ : ∃ y, L[0]? = some y := ⟨_, List.getElem?_eq_getElem (by omega)⟩
   obtain ⟨g9, Lr, rfl, -⟩ := hRk.k.row (by omega)
   obtain ⟨g8, Lr8, rfl, -⟩ := hRk.l.row (by omega)
   have hkc := keys_cell hRk.k rfl hy
   have hlc := begs_cell hRk.l rfl hy
   have hyb := hRk.b y (List.mem_of_getElem? hy)
   replace hC := hC.append (show RCells w9 ([(⟨g9, 0 * 2, none⟩, Vi y.1.1), (⟨g9, 0 * 2 + 1, none⟩, Vi y.1.2), (Ad g8 0, .slice y.2.a y.2.xs.length y.2.c)]) from (RCells.cons hkc.1 (RCells.cons hkc.2 (RCells.cons hlc (RCells.nil _)))))
   refine Y.cF F 19 ?_
   refine Y.skip ?_
   refine X.thenN ?_
   refine Y.seq ?_
   refine Y.region F [some (Vp rb), some (Vp rb), some (.pointer (some ⟨rb, 2, none⟩)), some (.slice (some ⟨g8, 0, none⟩) L.length lc9), some (Vp g8), some (.slice y.2.a y.2.xs.length y.2.c), some (Vp rb), some (Vp rb), some (.pointer (some ⟨rb, 1, none⟩)), some (.slice (some ⟨g9, 0, none⟩) L.length kc), some (.pointer (some ⟨g9, 0 * 2, none⟩)), some (.pointer (some ⟨g9, 0 * 2 + 1, none⟩)), some (Vi y.1.2), some (.slice y.2.a y.2.xs.length y.2.c), some (Vi y.1.2), some (Vi 0)] [] rfl ⟨by kernel_rfl, of_decide_eq_true (by kernel_rfl), by kernel_rfl, by kernel_rfl, by kernel_rfl⟩ ⟨?_, ?_, ?_, ?_, ?_, ?_, ?_, ?_, ?_, ?_, ?_, ?_, ?_, ?_, ?_, ?_, trivial⟩ ?_
   ·intro ac done u W Sx hR
    exact X.vl (X.move rfl (Sx.ev 6 (Vp rb))) hR.st0
   ·intro ac done u W Sx hR
    exact X.vl (Y.nilC rfl (Sx.ev 20 (Vp rb))) hR.st0
   ·intro ac done u W Sx hR
    exact X.vl (X.field rfl (Sx.ev 21 (Vp rb)) (X.fld Try.underlying91 rfl (Try.siz38 _) rfl rfl)) hR.st0
   ·intro ac done u W Sx hR
    have g : Gr w9 W := hR.1
    exact X.vl (X.load rfl (Sx.ev 22 (.pointer (some ⟨rb, 2, none⟩))) (X.ld1 (Try.agg38 _) ((hC.gr g).at 6 rfl))) hR.st0
   ·intro ac done u W Sx hR
    exact X.vl (X.index rfl (Sx.ev 23 (.slice (some ⟨g8, 0, none⟩) L.length lc9)) (X.kc (Vi 0) rfl) (X.idx (k := 0) Try.underlying38 (Try.siz34 _) (by omega) (by omega) (addr_add0 _ _))) hR.st0
   ·intro ac done u W Sx hR
    have g : Gr w9 W := hR.1
    exact X.vl (X.load rfl (Sx.ev 24 (Vp g8)) (X.ld1 (Try.agg34 _) ((hC.gr g).at 9 rfl))) hR.st0
   ·intro ac done u W Sx hR
    exact X.vl (X.move rfl (Sx.ev 6 (Vp rb))) hR.st0
   ·intro ac done u W Sx hR
    exact X.vl (Y.nilC rfl (Sx.ev 26 (Vp rb))) hR.st0
   ·intro ac done u W Sx hR
    exact X.vl (X.field rfl (Sx.ev 27 (Vp rb)) (X.fld Try.underlying91 rfl (Try.siz89 _) rfl rfl)) hR.st0
   ·intro ac done u W Sx hR
    have g : Gr w9 W := hR.1
    exact X.vl (X.load rfl (Sx.ev 28 (.pointer (some ⟨rb, 1, none⟩))) (X.ld1 (Try.agg89 _) ((hC.gr g).at 5 rfl))) hR.st0
   ·intro ac done u W Sx hR
    exact X.vl (X.index rfl (Sx.ev 29 (.slice (some ⟨g9, 0, none⟩) L.length kc)) (X.kc (Vi 0) rfl) (X.idx (k := 0) Try.underlying89 (Try.siz92 _) (by omega) (by omega) (addr_add0 _ _))) hR.st0
   ·intro ac done u W Sx hR
    exact X.vl (X.index rfl (Sx.ev 30 (.pointer (some ⟨g9, 0 * 2, none⟩))) (X.kc (Vi 1) rfl) (Y.idxA (k := 1) Try.underlying92 (Try.siz3 _) (by decide) (by omega) (by omega) rfl)) hR.st0
   ·intro ac done u W Sx hR
    have g : Gr w9 W := hR.1
    exact X.vl (X.load rfl (Sx.ev 31 (.pointer (some ⟨g9, 0 * 2 + 1, none⟩))) (X.ld1 (Try.agg3 _) ((hC.gr g).at 8 rfl))) hR.st0
   ·intro ac done u W Sx hR
    exact X.vl (X.assign rfl (Sx.ev 25 (.slice y.2.a y.2.xs.length y.2.c))) hR.st0
   ·intro ac done u W Sx hR
    exact X.vl (X.assign rfl (Sx.ev 32 (Vi y.1.2))) hR.st0
   ·intro ac done u W Sx hR
    exact X.vl (X.assign rfl (X.kc (Vi 0) rfl)) hR.st0
   intro ac u w11 hs hd hl ho hR
   have g : Gr w9 w11 := hR.1
   replace F : Fr ac 33 [(2, .slice y.2.a y.2.xs.length y.2.c), (3, Vi y.1.2), (4, Vi 0)] := X.fr hs hd hl _ (by kernel_rfl)
   clear hs hd hl ho hR
   replace G := G.trans g
   replace hC := hC.gr g
   replace hpt := hpt.gr g
   replace hph := hph.gr g
   replace hpb := hpb.gr g
   replace hpl := hpl.gr g
   replace hRk := hRk.gr g
   clear g
   refine X.thenN ?_
   refine Y.ret ?_
   have hb := best_3 hck hV hy
   exact Y.ret0 (v := .tuple #[.slice y.2.a y.2.xs.length y.2.c, Vi y.1.2, Vi 0]) F (Y.rs3 F rfl (by kernel_rfl) (by kernel_rfl) (by kernel_rfl)) ⟨y.2.a, y.2.c, by rw [hb], by rw [hb]; exact (hRk.b y (List.mem_of_getElem? hy)).i, by rw [hb]; exact hyb.nil, G⟩
  | true =>
   try rw [h10] at F
   have h10p : (L.length : Int) = 0 := by simpa using h10
   refine Y.cT F 19 ?_
   refine Y.sg F [(2, .slice none 0 0), (3, Vi 0), (4, Vi 3)] (Y.pv F (X.assign rfl (X.kc (.slice none 0 0) rfl)) fun ac F=>Y.pv F (X.assign rfl (X.kc (Vi 0) rfl)) fun ac F=>Y.pv F (X.assign rfl (X.kc (Vi 3) rfl)) fun ac F=>Y.fin F) ?_;clear F ac;intro ac F
   refine Y.ret ?_
   refine X.thenR ?_
   have hb := best_2 hck hV (by omega)
   exact Y.ret0 (v := .tuple #[.slice none 0 0, Vi 0, Vi 3]) F (Y.rs3 F rfl (by kernel_rfl) (by kernel_rfl) (by kernel_rfl)) ⟨none, 0, by rw [hb]; rfl, by rw [hb]; exact Ints.nil0 _, by rw [hb]; exact fun _ => ⟨rfl, rfl⟩, G⟩
 | true =>
  try rw [h8] at F
  have h8p : ¬ (chkE p : Int) = 0 := by simpa using h8
  refine Y.cT F 10 ?_
  refine Y.sg F [(2, .slice none 0 0), (3, Vi 0), (4, Vi (chkE p))] (Y.pv F (X.move rfl (F.ev 5 (Vi (chkE p)))) fun ac F=>Y.pv F (X.assign rfl (X.kc (.slice none 0 0) rfl)) fun ac F=>Y.pv F (X.assign rfl (X.kc (Vi 0) rfl)) fun ac F=>Y.pv F (X.assign rfl (F.ev 11 (Vi (chkE p)))) fun ac F=>Y.fin F) ?_;clear F ac;intro ac F
  refine Y.ret ?_
  refine X.thenR ?_
  have hb := best_1 (p := p) (by omega)
  exact Y.ret0 (v := .tuple #[.slice none 0 0, Vi 0, Vi (chkE p)]) F (Y.rs3 F rfl (by kernel_rfl) (by kernel_rfl) (by kernel_rfl)) ⟨none, 0, by rw [hb]; rfl, by rw [hb]; exact Ints.nil0 _, by rw [hb]; exact fun _ => ⟨rfl, rfl⟩, G⟩
end
section
open Go.RowKit

/-- the problem of the examples -/
def exP : Pb where
  nt := 2
  nh := 2
  nb := 0
  nl := 1
  tn := fun i => if i = 0 then ⟨#[97]⟩ else ⟨#[98]⟩
  tv := fun i r => (([[0, 2, 3, 0], [0, 1, 3, 2]] : List (List Int))[i]?.getD [])[r]?.getD 0
  hn := fun i => if i = 0 then ⟨#[120]⟩ else ⟨#[121]⟩
  hv := fun i r => (([[0, 4, 5, 2, 0, 10], [0, 2, 5, 0, 1, 4]] : List (List Int))[i]?.getD [])[r]?.getD 0
  bv := fun _ _ => 0
  lv := fun _ r => ([0, 1, 3] : List Int)[r]?.getD 0
theorem ex_best : bestR exP = ([1, 0], 20, 0) := by kernel_rfl
theorem TbAt.only {S : Nat → Prop} {w w' : World} {k : Nat} {a : Option Addr} {n c : Nat} {V : Nat → Nat → Value} (h : TbAt w k a n c V) (g : Only S w w') (hn : ∀ ad, a = some ad → ¬ S ad.block) : TbAt w' k a n c V :=
  ⟨h.1, h.2.1, fun j hj => by
    obtain ⟨ad, e, hb, hc⟩ := h.2.2 j hj
    exact ⟨ad, e, Nat.lt_of_lt_of_le hb g.size, fun r hr => g.cell (hc r hr) (by rw [add_block, add_block]; exact hn ad e)⟩⟩
theorem TbAt.nil (w : World) (k c : Nat) (a : Option Addr) (V : Nat → Nat → Value) : TbAt w k a 0 c V := ⟨Nat.zero_le _, by simp, fun j hj => by omega⟩
theorem tb_new {W : World} {b k n : Nat} {V : Nat → Nat → Value} {cs : List Value} {t : TypeId} (h : W.heap[b]? = some (.cells cs.toArray t)) (hn : n * k * 8 ≤ 140737488351232) (hc : ∀ j r, j < n → r < k → cs[j * k + r]? = some (V j r)) : TbAt W k (some ⟨b, 0, none⟩) n n V :=
  ⟨Nat.le_refl _, hn, fun j hj => ⟨_, rfl, (Array.getElem?_eq_some_iff.1 h).1, fun r hr => by
    rw [addr_add0, show (⟨b, j * k, none⟩ : Addr).add r = ⟨b, j * k + r, none⟩ from Y.addr_add _ _ _]
    exact cell_at h (by simpa using hc j r hj hr)⟩⟩
theorem exT_at {W : World} {b : Nat} (h : W.heap[b]? = some (.cells #[.string ⟨#[97]⟩, .int .i64 2, .int .i64 3, .int .i64 0, .string ⟨#[98]⟩, .int .i64 1, .int .i64 3, .int .i64 2] 74)) : TbAt W 4 (some ⟨b, 0, none⟩) 2 2 (tvV exP) := tb_new (cs := [.string ⟨#[97]⟩, .int .i64 2, .int .i64 3, .int .i64 0, .string ⟨#[98]⟩, .int .i64 1, .int .i64 3, .int .i64 2]) h (by decide) (fun j r hj hr => by
  have h1 : j = 0 ∨ j = 1 := by omega
  have h2 : r = 0 ∨ r = 1 ∨ r = 2 ∨ r = 3 := by omega
  rcases h1 with rfl | rfl <;> rcases h2 with rfl | rfl | rfl | rfl <;> rfl)
theorem exH_at {W : World} {b : Nat} (h : W.heap[b]? = some (.cells #[.string ⟨#[120]⟩, .int .i64 4, .int .i64 5, .int .i64 2, .int .i64 0, .int .i64 10, .string ⟨#[121]⟩, .int .i64 2, .int .i64 5, .int .i64 0, .int .i64 1, .int .i64 4] 53)) : TbAt W 6 (some ⟨b, 0, none⟩) 2 2 (hvV exP) := tb_new (cs := [.string ⟨#[120]⟩, .int .i64 4, .int .i64 5, .int .i64 2, .int .i64 0, .int .i64 10, .string ⟨#[121]⟩, .int .i64 2, .int .i64 5, .int .i64 0, .int .i64 1, .int .i64 4]) h (by decide) (fun j r hj hr => by
  have h1 : j = 0 ∨ j = 1 := by omega
  have h2 : r = 0 ∨ r = 1 ∨ r = 2 ∨ r = 3 ∨ r = 4 ∨ r = 5 := by omega
  rcases h1 with rfl | rfl <;> rcases h2 with rfl | rfl | rfl | rfl | rfl | rfl <;> rfl)
theorem exL_at {W : World} {b : Nat} (h : W.heap[b]? = some (.cells #[.int .i64 0, .int .i64 1, .int .i64 3] 84)) : TbAt W 3 (some ⟨b, 0, none⟩) 1 1 (lvV exP) := tb_new (cs := [.int .i64 0, .int .i64 1, .int .i64 3]) h (by decide) (fun j r hj hr => by
  obtain rfl : j = 0 := by omega
  have h2 : r = 0 ∨ r = 1 ∨ r = 2 := by omega
  rcases h2 with rfl | rfl | rfl <;> rfl)
theorem Try.exT0 (w : World) : (Instr.build 74 #[(0, .string ⟨#[97]⟩), (1, .int .i64 2), (2, .int .i64 3)]).run Try.prog w = .ok (.agg #[.string ⟨#[97]⟩, .int .i64 2, .int .i64 3, .int .i64 0]) w := by kernel_rfl
theorem Try.exT1 (w : World) : (Instr.build 74 #[(0, .string ⟨#[98]⟩), (1, .int .i64 1), (2, .int .i64 3), (3, .int .i64 2)]).run Try.prog w = .ok (.agg #[.string ⟨#[98]⟩, .int .i64 1, .int .i64 3, .int .i64 2]) w := by kernel_rfl
theorem Try.exH0 (w : World) : (Instr.build 53 #[(0, .string ⟨#[120]⟩), (1, .int .i64 4), (2, .int .i64 5), (3, .int .i64 2), (5, .int .i64 10)]).run Try.prog w = .ok (.agg #[.string ⟨#[120]⟩, .int .i64 4, .int .i64 5, .int .i64 2, .int .i64 0, .int .i64 10]) w := by kernel_rfl
theorem Try.exH1 (w : World) : (Instr.build 53 #[(0, .string ⟨#[121]⟩), (1, .int .i64 2), (2, .int .i64 5), (4, .int .i64 1), (5, .int .i64 4)]).run Try.prog w = .ok (.agg #[.string ⟨#[121]⟩, .int .i64 2, .int .i64 5, .int .i64 0, .int .i64 1, .int .i64 4]) w := by kernel_rfl
theorem Try.exL0 (w : World) : (Instr.build 84 #[(0, .int .i64 0), (1, .int .i64 1), (2, .int .i64 3)]).run Try.prog w = .ok (.agg #[.int .i64 0, .int .i64 1, .int .i64 3]) w := by kernel_rfl
theorem Try.exsT (w : World) : (Instr.buildSlice 22 2 #[(0, .agg #[.string ⟨#[97]⟩, .int .i64 2, .int .i64 3, .int .i64 0]), (1, .agg #[.string ⟨#[98]⟩, .int .i64 1, .int .i64 3, .int .i64 2])]).run Try.prog w = .ok (.slice (some ⟨w.heap.size, 0, none⟩) 2 2) (w.alloc (.cells #[.string ⟨#[97]⟩, .int .i64 2, .int .i64 3, .int .i64 0, .string ⟨#[98]⟩, .int .i64 1, .int .i64 3, .int .i64 2] 74)) := by kernel_rfl
theorem Try.exsH (w : World) : (Instr.buildSlice 23 2 #[(0, .agg #[.string ⟨#[120]⟩, .int .i64 4, .int .i64 5, .int .i64 2, .int .i64 0, .int .i64 10]), (1, .agg #[.string ⟨#[121]⟩, .int .i64 2, .int .i64 5, .int .i64 0, .int .i64 1, .int .i64 4])]).run Try.prog w = .ok (.slice (some ⟨w.heap.size, 0, none⟩) 2 2) (w.alloc (.cells #[.string ⟨#[120]⟩, .int .i64 4, .int .i64 5, .int .i64 2, .int .i64 0, .int .i64 10, .string ⟨#[121]⟩, .int .i64 2, .int .i64 5, .int .i64 0, .int .i64 1, .int .i64 4] 53)) := by kernel_rfl
theorem Try.exsL (w : World) : (Instr.buildSlice 25 1 #[(0, .agg #[.int .i64 0, .int .i64 1, .int .i64 3])]).run Try.prog w = .ok (.slice (some ⟨w.heap.size, 0, none⟩) 1 1) (w.alloc (.cells #[.int .i64 0, .int .i64 1, .int .i64 3] 84)) := by kernel_rfl
theorem Try.bd27 (a b c : Option Addr) (n1 c1 n2 c2 n3 c3 : Nat) (w : World) : (Instr.build 27 #[(0, .slice a n1 c1), (1, .slice b n2 c2), (3, .slice c n3 c3)]).run Try.prog w = .ok (.agg #[.slice a n1 c1, .slice b n2 c2, .slice none 0 0, .slice c n3 c3]) w := by kernel_rfl
theorem X.b013 {ρ : Operand → Value} {x y z : Operand} {v1 v2 v3 : Value} (h1 : ρ x = v1) (h2 : ρ y = v2) (h3 : ρ z = v3) : [(0, x), (1, y), (3, z)].map (fun p : Nat × Operand => (p.1, ρ p.2)) = [(0, v1), (1, v2), (3, v3)] := by simp [h1, h2, h3]
theorem exT_sz : ∀ i, i < exP.nt → (exP.tn i).size ≤ 9223372036854775807 := fun i _ => by
  show (if i = 0 then (⟨#[97]⟩ : ByteArray) else ⟨#[98]⟩).size ≤ _
  split <;> decide
theorem exH_sz : ∀ i, i < exP.nh → (exP.hn i).size ≤ 9223372036854775807 := fun i _ => by
  show (if i = 0 then (⟨#[120]⟩ : ByteArray) else ⟨#[121]⟩).size ≤ _
  split <;> decide
set_option maxRecDepth 100000 in
set_option maxHeartbeats 400000 in
theorem example_any (w : World) :
  Calls Try.prog 51 #[] w fun e w' => ∃ ta ha la, e = .returned (.agg #[.slice ta 2 2, .slice ha 2 2, .slice none 0 0, .slice la 1 1]) ∧ PbAt w' exP ta ha none la 2 2 0 1 ∧ Gr w w' := by
 have G := Gr.refl w
 refine Y.calls 10 Try.func51 rfl rfl ?_
 intro ac F0
 have F : Fr ac 10 [] := F0.sub _
 clear F0
 refine Y.sl ?_
 refine Y.pv F (Y.al rfl (Try.new27 _)) ?_;clear F ac;intro ac F
 have g := Gr.alloc w (.cells #[.slice none 0 0, .slice none 0 0, .slice none 0 0, .slice none 0 0] 27)
 have hb := heap_alloc_new w (.cells #[.slice none 0 0, .slice none 0 0, .slice none 0 0, .slice none 0 0] 27)
 have hszw3 : w.heap.size < (w.alloc (.cells #[.slice none 0 0, .slice none 0 0, .slice none 0 0, .slice none 0 0] 27)).heap.size := by simp
 have hgsw3 : w.heap.size ≤ w.heap.size := G.size
 generalize w.alloc (.cells #[.slice none 0 0, .slice none 0 0, .slice none 0 0, .slice none 0 0] 27) = w3 at *
 replace G := G.trans g
 have hVw3 : OwnP w3 w.heap.size 4 (VL [.slice none 0 0, .slice none 0 0, .slice none 0 0, .slice none 0 0]) := ownP_bx (vs := [.slice none 0 0, .slice none 0 0, .slice none 0 0, .slice none 0 0]) hb
 clear g hb
 refine Y.nt F [(0, Vp w.heap.size)] ?_;clear F ac;intro ac F
 refine Y.sl ?_
 refine Y.pv3 F (Y.bd rfl rfl (Try.exT0 _)) (fun _ F=>Y.bd rfl rfl (Try.exT1 _)) (fun _ F=>X.bs rfl (X.b2 (F.ev 1 (.agg #[.string ⟨#[97]⟩, Vi 2, Vi 3, Vi 0])) (F.ev 2 (.agg #[.string ⟨#[98]⟩, Vi 1, Vi 3, Vi 2]))) (Try.exsT _)) ?_;clear F ac;intro ac F
 have g := Gr.alloc w3 (.cells #[.string ⟨#[97]⟩, Vi 2, Vi 3, Vi 0, .string ⟨#[98]⟩, Vi 1, Vi 3, Vi 2] 74)
 have hgsT : w.heap.size ≤ w3.heap.size := G.size
 have hboT : w.heap.size < w3.heap.size := hVw3.lt
 have hxT := exT_at (heap_alloc_new w3 (.cells #[.string ⟨#[97]⟩, Vi 2, Vi 3, Vi 0, .string ⟨#[98]⟩, Vi 1, Vi 3, Vi 2] 74))
 generalize w3.alloc (.cells #[.string ⟨#[97]⟩, Vi 2, Vi 3, Vi 0, .string ⟨#[98]⟩, Vi 1, Vi 3, Vi 2] 74) = w4 at *
 replace G := G.trans g
 replace hVw3 := hVw3.gr g
 clear g
 refine Y.pv3 F (Y.bd rfl rfl (Try.exH0 _)) (fun _ F=>Y.bd rfl rfl (Try.exH1 _)) (fun _ F=>X.bs rfl (X.b2 (F.ev 4 (.agg #[.string ⟨#[120]⟩, Vi 4, Vi 5, Vi 2, Vi 0, Vi 10])) (F.ev 5 (.agg #[.string ⟨#[121]⟩, Vi 2, Vi 5, Vi 0, Vi 1, Vi 4]))) (Try.exsH _)) ?_;clear F ac;intro ac F
 have g := Gr.alloc w4 (.cells #[.string ⟨#[120]⟩, Vi 4, Vi 5, Vi 2, Vi 0, Vi 10, .string ⟨#[121]⟩, Vi 2, Vi 5, Vi 0, Vi 1, Vi 4] 53)
 have hgsH : w.heap.size ≤ w4.heap.size := G.size
 have hboH : w.heap.size < w4.heap.size := hVw3.lt
 have hxH := exH_at (heap_alloc_new w4 (.cells #[.string ⟨#[120]⟩, Vi 4, Vi 5, Vi 2, Vi 0, Vi 10, .string ⟨#[121]⟩, Vi 2, Vi 5, Vi 0, Vi 1, Vi 4] 53))
 generalize w4.alloc (.cells #[.string ⟨#[120]⟩, Vi 4, Vi 5, Vi 2, Vi 0, Vi 10, .string ⟨#[121]⟩, Vi 2, Vi 5, Vi 0, Vi 1, Vi 4] 53) = w5 at *
 replace G := G.trans g
 replace hVw3 := hVw3.gr g
 replace hxT := hxT.gr g
 clear g
 refine Y.pv2 F (Y.bd rfl rfl (Try.exL0 _)) (fun _ F=>X.bs rfl (X.b1 (F.ev 7 (.agg #[Vi 0, Vi 1, Vi 3]))) (Try.exsL _)) ?_;clear F ac;intro ac F
 have g := Gr.alloc w5 (.cells #[Vi 0, Vi 1, Vi 3] 84)
 have hgsL : w.heap.size ≤ w5.heap.size := G.size
 have hboL : w.heap.size < w5.heap.size := hVw3.lt
 have hxL := exL_at (heap_alloc_new w5 (.cells #[Vi 0, Vi 1, Vi 3] 84))
 generalize w5.alloc (.cells #[Vi 0, Vi 1, Vi 3] 84) = w6 at *
 replace G := G.trans g
 replace hVw3 := hVw3.gr g
 replace hxT := hxT.gr g
 replace hxH := hxH.gr g
 clear g
 refine Y.pv F (Y.bd rfl (X.b013 (F.ev 3 (.slice (some ⟨w3.heap.size, 0, none⟩) 2 2)) (F.ev 6 (.slice (some ⟨w4.heap.size, 0, none⟩) 2 2)) (F.ev 8 (.slice (some ⟨w5.heap.size, 0, none⟩) 1 1))) (Try.bd27 _ _ _ _ _ _ _ _ _ _)) ?_;clear F ac;intro ac F
 obtain ⟨w7, hrun, hV2, hon⟩ := ownP_store (P := Try.prog) (vs := [.slice (some ⟨w3.heap.size, 0, none⟩) 2 2, .slice (some ⟨w4.heap.size, 0, none⟩) 2 2, .slice none 0 0, .slice (some ⟨w5.heap.size, 0, none⟩) 1 1]) (t := 27) hVw3 rfl (fun W => Try.siz27 W) rfl
 refine Y.punit F (X.w0 rfl) rfl (X.store rfl (F.ev 0 (Vp w.heap.size)) (F.ev 9 (.agg #[.slice (some ⟨w3.heap.size, 0, none⟩) 2 2, .slice (some ⟨w4.heap.size, 0, none⟩) 2 2, .slice none 0 0, .slice (some ⟨w5.heap.size, 0, none⟩) 1 1])) hrun) ?_
 clear F ac hrun
 intro ac F
 replace hxT := hxT.only hon (fun ad e h => by injection e with e; subst e; have h9 : _ = _ := h; simp only at h9; omega)
 replace hxH := hxH.only hon (fun ad e h => by injection e with e; subst e; have h9 : _ = _ := h; simp only at h9; omega)
 replace hxL := hxL.only hon (fun ad e h => by injection e with e; subst e; have h9 : _ = _ := h; simp only at h9; omega)
 replace G := Y.Only.up G hon (by omega)
 refine Y.nt F [(0, Vp w.heap.size)] ?_;clear F ac;intro ac F
 refine Y.ret ?_
 exact Y.ret0 (v := .agg #[.slice (some ⟨w3.heap.size, 0, none⟩) 2 2, .slice (some ⟨w4.heap.size, 0, none⟩) 2 2, .slice none 0 0, .slice (some ⟨w5.heap.size, 0, none⟩) 1 1]) F (Y.rcl F rfl (by kernel_rfl) (ownP_load hV2 (Try.agg27 _) (Try.siz27 _) rfl)) ⟨_, _, _, rfl, ⟨hxT, hxH, TbAt.nil _ _ _ _ _, hxL, fun i hi => exT_sz i hi, fun i hi => exH_sz i hi⟩, G⟩
set_option maxRecDepth 100000 in
set_option maxHeartbeats 400000 in
theorem works_any (w : World) :
  Calls Try.prog 16 #[] w fun e w' => e = .returned (.bool true) ∧ Gr w w' := by
 have G := Gr.refl w
 refine Y.calls 33 Try.func16 rfl rfl ?_
 intro ac F0
 have F : Fr ac 33 [] := F0.sub _
 clear F0
 refine Y.sg F [] (Y.pv F (X.assign rfl (X.kc (.bool false) rfl)) fun ac F=>Y.fin F) ?_;clear F ac;intro ac F
 refine Y.sl ?_
 refine Y.pcall F (X.w0 rfl) rfl (X.enter (F := 51) rfl (X.kc (.func (.func 51) #[] #[]) rfl) rfl (enters_of Try.func51 (by kernel_rfl) rfl _)) (example_any w) ?_
 clear F ac
 rintro e w3 ⟨ta, ha, la, rfl, hP0, g⟩
 refine ⟨_, rfl, ?_⟩
 intro ac F
 replace G := G.trans g
 clear g
 have hP := hP0
 refine Y.pc F 22 (X.a1 (F.ev 5 (.agg #[.slice ta 2 2, .slice ha 2 2, .slice none 0 0, .slice la 1 1]))) Try.func22 (best_any exP ta ha none la 2 2 0 1 w3 hP) ?_
 clear F ac
 rintro e w4 ⟨a9, c9, rfl, hI, -, g⟩
 rw [ex_best] at hI
 refine ⟨_, rfl, ?_⟩
 rw [ex_best]
 intro ac F
 replace G := G.trans g
 clear g
 obtain ⟨ad, rfl, -, hc0⟩ := hI.at (j := 0) (by decide)
 obtain ⟨ad2, e2, -, hc1⟩ := hI.at (j := 1) (by decide)
 injection e2 with e2
 subst e2
 have hC : RCells w4 [(ad.add 0, Vi 1), (ad.add 1, Vi 0)] := (RCells.cons hc0 (RCells.cons hc1 (RCells.nil _)))
 refine Y.pv4 F (X.move rfl (F.ev 6 (.tuple #[.slice (some ad) 2 c9, Vi 20, Vi 0]))) (fun _ F=>X.extract rfl (F.ev 4 (.tuple #[.slice (some ad) 2 c9, Vi 20, Vi 0])) rfl) (fun _ F=>X.extract rfl (F.ev 4 (.tuple #[.slice (some ad) 2 c9, Vi 20, Vi 0])) rfl) (fun _ F=>X.extract rfl (F.ev 4 (.tuple #[.slice (some ad) 2 c9, Vi 20, Vi 0])) rfl) ?_;clear F ac;intro ac F
 refine Y.pv3 F (X.assign rfl (F.ev 7 (.slice (some ad) 2 c9))) (fun _ F=>X.assign rfl (F.ev 8 (Vi 20))) (fun _ F=>X.assign rfl (F.ev 9 (Vi 0))) ?_;clear F ac;intro ac F
 refine Y.nt F [(1, .slice (some ad) 2 c9), (2, Vi 20), (3, Vi 0)] ?_;clear F ac;intro ac F
 refine Y.sg F [(0, .bool true)] (by
  refine Y.pv F (X.move rfl (F.ev 3 (Vi 0))) fun ac F=>?_
  refine Y.pval F (X.w0 rfl) rfl (X.binop rfl (F.ev 10 (Vi 0)) (X.kc (Vi 0) rfl) (X.eqlI Try.underlying31 (show ((0 : Int) == 0) = true by simp))) fun ac F=>?_
  refine Y.pv F (X.move rfl (F.ev 11 (.bool true))) fun ac F=>?_
  refine Y.pg F 2 12 true (X.move rfl (F.ev 2 (Vi 20))) fun ac F=>?_
  refine Y.pg F 2 12 true (X.binop rfl (F.ev 13 (Vi 20)) (X.kc (Vi 20) rfl) (X.eqlI Try.underlying3 (show ((20 : Int) == 20) = true by simp))) fun ac F=>?_
  refine Y.pv F (X.pickT rfl (F.ev 12 (.bool true)) (F.ev 14 (.bool true))) fun ac F=>?_
  refine Y.pv F (X.move rfl (F.ev 15 (.bool true))) fun ac F=>?_
  refine Y.pg F 6 16 true (X.move rfl (F.ev 1 (.slice (some ad) 2 c9))) fun ac F=>?_
  refine Y.pg F 6 16 true (X.len1 Try.underlying34 rfl (F.ev 17 (.slice (some ad) 2 c9))) fun ac F=>?_
  refine Y.pg F 6 16 true (X.binop rfl (F.ev 18 (Vi 2)) (X.kc (Vi 2) rfl) (X.eqlI Try.underlying3 (show ((2 : Int) == 2) = true by simp))) fun ac F=>?_
  refine Y.pv F (X.pickT rfl (F.ev 16 (.bool true)) (F.ev 19 (.bool true))) fun ac F=>?_
  refine Y.pv F (X.move rfl (F.ev 20 (.bool true))) fun ac F=>?_
  refine Y.pg F 11 21 true (X.move rfl (F.ev 1 (.slice (some ad) 2 c9))) fun ac F=>?_
  refine Y.pg F 11 21 true (X.index rfl (F.ev 22 (.slice (some ad) 2 c9)) (X.kc (Vi 0) rfl) (X.idx (k := 0) Try.underlying34 (Try.siz3 _) (by omega) (by omega) (by rw [Nat.mul_one]))) fun ac F=>?_
  refine Y.pg F 11 21 true (X.load rfl (F.ev 23 (.pointer (some (ad.add 0)))) (X.ld1 (Try.agg3 _) (hC.at 0 rfl))) fun ac F=>?_
  refine Y.pg F 11 21 true (X.binop rfl (F.ev 24 (Vi 1)) (X.kc (Vi 1) rfl) (X.eqlI Try.underlying3 (show ((1 : Int) == 1) = true by simp))) fun ac F=>?_
  refine Y.pv F (X.pickT rfl (F.ev 21 (.bool true)) (F.ev 25 (.bool true))) fun ac F=>?_
  refine Y.pv F (X.move rfl (F.ev 26 (.bool true))) fun ac F=>?_
  refine Y.pg F 17 27 true (X.move rfl (F.ev 1 (.slice (some ad) 2 c9))) fun ac F=>?_
  refine Y.pg F 17 27 true (X.index rfl (F.ev 28 (.slice (some ad) 2 c9)) (X.kc (Vi 1) rfl) (X.idx (k := 1) Try.underlying34 (Try.siz3 _) (by omega) (by omega) (by rw [Nat.mul_one]))) fun ac F=>?_
  refine Y.pg F 17 27 true (X.load rfl (F.ev 29 (.pointer (some (ad.add 1)))) (X.ld1 (Try.agg3 _) (hC.at 1 rfl))) fun ac F=>?_
  refine Y.pg F 17 27 true (X.binop rfl (F.ev 30 (Vi 0)) (X.kc (Vi 0) rfl) (X.eqlI Try.underlying3 (show ((0 : Int) == 0) = true by simp))) fun ac F=>?_
  refine Y.pv F (X.pickT rfl (F.ev 27 (.bool true)) (F.ev 31 (.bool true))) fun ac F=>?_
  refine Y.pv F (X.assign rfl (F.ev 32 (.bool true))) fun ac F=>?_
  exact Y.fin F) ?_;clear F ac;intro ac F
 refine Y.ret ?_
 exact Y.ret0 (v := .bool true) F (Y.r1 F) ⟨rfl, G⟩
end
end Go.Proofs.Ytodedneanlekdaa
