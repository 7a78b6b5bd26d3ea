/- Several texts of this claim in one file. (1) Contract: the first allowed plans. (2) The first allowed plans, without addresses: what the search finds. Nothing of the program is proved here. (3) All allowed plans, as rows in memory; regions that call twice and append. Nothing of the program is proved here. (4) The first allowed plan, by the reference. Nothing of the program is proved here. (5) Sorting by insertion into new rows: regions that make a row of three parts. Nothing of the program is proved here. (6) Counting the allowed plans. Nothing of the program is proved here. (7) The leaves of the search that shows that no plan is cheaper. Nothing of the program is proved here. (8) The leaves as the search gathers them in memory. Nothing of the program is proved here. (9) Contract: Best. -/
import Derived.Test.YtodedneanlekdaaBd11
import Derived.Test.YtodedneanlekdaaBd4
namespace Go.Proofs.Ytodedneanlekdaa
set_option linter.unusedSimpArgs false
set_option linter.unusedVariables false
section
open Go.RowKit

set_option maxRecDepth 100000 in
set_option maxHeartbeats 400000 in
theorem still_any (a : Option Addr) (n c : Nat) (w : World) :
  Calls Try.prog 65 #[.slice a n c] w fun e w' => e = .returned (.tuple #[Vi 0, .bool true]) ∧ Gr w w' := by
 have G := Gr.refl w
 refine Y.calls 4 Try.func65 rfl rfl ?_
 intro ac F0
 have F : Fr ac 4 [(0, .slice a n c)] := F0.sub _
 clear F0
 refine Y.sg F [] (Y.pv F (X.assign rfl (X.kc (Vi 0) rfl)) fun ac F=>Y.pv F (X.assign rfl (X.kc (.bool false) rfl)) fun ac F=>Y.fin F) ?_;clear F ac;intro ac F
 refine Y.sg F [(2, Vi 0), (3, .bool true)] (Y.pv F (X.assign rfl (X.kc (Vi 0) rfl)) fun ac F=>Y.pv F (X.assign rfl (X.kc (.bool true) rfl)) fun ac F=>Y.fin F) ?_;clear F ac;intro ac F
 refine Y.ret ?_
 exact Y.ret0 (v := .tuple #[Vi 0, .bool true]) F (Y.rs2 F rfl (by kernel_rfl) (by kernel_rfl)) ⟨rfl, G⟩
set_option maxRecDepth 100000 in
set_option maxHeartbeats 4000000 in
theorem first_any (p : Pb) (ta ha ba la : Option Addr) (tc hc bc lc : Nat) (most : Nat) (gf : FuncId) (caps : Array Value) (mv : List Int → Int × Bool) (w : World) (hP : PbAt w p ta ha ba la tc hc bc lc) (hp : PbOk p) (hm : 1 ≤ most ∧ most ≤ 100000) (eg : ∀ args w, (callFunc gf args).run Try.prog w = .ok (.enter gf args) w)
  (hmv : ∀ (W : World) (xs : List Int) (a : Option Addr) (c : Nat), Gr w W → Ints W a xs.length xs → xs.length ≤ p.nt → HosOk p xs → Calls Try.prog gf (#[.slice a xs.length c] ++ caps) W fun e W' => e = .returned (.tuple #[Vi (mv xs).1, .bool (mv xs).2]) ∧ Gr W W') :
  Calls Try.prog 64 #[.agg #[.slice ta p.nt tc, .slice ha p.nh hc, .slice ba p.nb bc, .slice la p.nl lc], Vi most, .func (.func gf) #[] caps] w fun e w' => ∃ rb kv lv L B, e = .returned (Vp rb) ∧ RkAt w' rb B most kv lv L ∧ visF p.nh (hopeB p (tim p)) (stF p most mv) p.nt [] [] = (strip L, true) ∧ w.heap.size ≤ rb ∧ w.heap.size ≤ B ∧ L.length ≤ most ∧ Gr w w' := by
 have G := Gr.refl w
 have hpt := hP.t
 have hph := hP.h
 have hpb := hP.b
 have hpl := hP.l
 have hplen := hP.len
 obtain ⟨hn1, hn2, hn3, hn4⟩ := hplen
 have hcp1 := hpt.cap
 have hcp2 := hph.cap
 have hcp3 := hpb.cap
 have hcp4 := hpl.cap
 refine Y.calls 57 Try.func64 rfl rfl ?_
 intro ac F0
 have F : Fr ac 57 [(0, .agg #[.slice ta p.nt tc, .slice ha p.nh hc, .slice ba p.nb bc, .slice la p.nl lc]), (1, Vi most), (2, .func (.func gf) #[] caps)] := F0.sub _
 clear F0
 refine Y.sl ?_
 have hgs3 : w.heap.size ≤ w.heap.size := G.size
 refine Y.pv F (X.box rfl (F.ev 0 (.agg #[.slice ta p.nt tc, .slice ha p.nh hc, .slice ba p.nb bc, .slice la p.nl lc])) X.bx) ?_;clear F ac;intro ac F
 have hgs5 : w.heap.size ≤ w.heap.size := G.size
 obtain ⟨w6, hw_, g, hb, hbl, hC2⟩ := Y.bxd (RCells.nil w) #[.slice ta p.nt tc, .slice ha p.nh hc, .slice ba p.nb bc, .slice la p.nl lc] 27;rw [hw_];clear hw_
 replace G := G.trans g
 have hC := hC2
 clear hC2
 replace hpt := hpt.gr g
 replace hph := hph.gr g
 replace hpb := hpb.gr g
 replace hpl := hpl.gr g
 have hsz4 := hbl
 clear g hb hbl
 have hgs7 : w.heap.size ≤ w6.heap.size := G.size
 refine Y.pv F (X.box rfl (F.ev 2 (.func (.func gf) #[] caps)) (Y.bx1 rfl)) ?_;clear F ac;intro ac F
 have hgs9 : w.heap.size ≤ w6.heap.size := G.size
 obtain ⟨w10, hw_, g, hb, hbl, hC2⟩ := Y.bxd hC #[.func (.func gf) #[] caps] 88;rw [hw_];clear hw_
 replace G := G.trans g
 replace hC := hC2
 clear hC2
 replace hpt := hpt.gr g
 replace hph := hph.gr g
 replace hpb := hpb.gr g
 replace hpl := hpl.gr g
 have hsz8 := hbl
 clear g hb hbl
 refine Y.pv F (X.assign rfl (X.kc (.pointer none) rfl)) ?_;clear F ac;intro ac F
 refine Y.nt F [(1, Vi most), (3, Vp w.heap.size), (5, Vp w6.heap.size)] ?_;clear F ac;intro ac F
 refine Y.sl ?_
 refine Y.pv3 F (X.move rfl (F.ev 1 (Vi most))) (fun _ F=>Y.bd rfl (X.b1 (F.ev 12 (Vi most))) (Try.bd91 _ _)) (fun _ F=>X.box rfl (F.ev 13 (.agg #[Vi most, .slice none 0 0, .slice none 0 0])) X.bx) ?_;clear F ac;intro ac F
 have g := Gr.alloc w10 (.cells #[Vi most, .slice none 0 0, .slice none 0 0] 91)
 have hb := heap_alloc_new w10 (.cells #[Vi most, .slice none 0 0, .slice none 0 0] 91)
 have hszw11 : w10.heap.size < (w10.alloc (.cells #[Vi most, .slice none 0 0, .slice none 0 0] 91)).heap.size := by simp
 have hgsw11 : w.heap.size ≤ w10.heap.size := G.size
 generalize w10.alloc (.cells #[Vi most, .slice none 0 0, .slice none 0 0] 91) = w11 at *
 replace G := G.trans g
 replace hC := hC.gr g
 replace hpt := hpt.gr g
 replace hph := hph.gr g
 replace hpb := hpb.gr g
 replace hpl := hpl.gr g
 have hVw11 : OwnP w11 w10.heap.size 3 (VL [Vi most, .slice none 0 0, .slice none 0 0]) := ownP_bx (vs := [Vi most, .slice none 0 0, .slice none 0 0]) hb
 clear g hb
 refine Y.pv F (Y.al rfl (Try.new86 _)) ?_;clear F ac;intro ac F
 refine Y.punit F (X.w0 rfl) rfl (X.store rfl (F.ev 7 (Vp w11.heap.size)) (F.ev 14 (Vp w10.heap.size)) (Y.stNew1 (Vp w10.heap.size) ((.pointer none)) (Try.siz86 _) rfl rfl)) ?_;clear F ac;intro ac F
 have hgs13 : w.heap.size ≤ w11.heap.size := G.size
 obtain ⟨w14, hw_, g, hb, hbl, hC2⟩ := Y.bxd hC #[Vp w10.heap.size] 86;rw [hw_];clear hw_
 replace G := G.trans g
 replace hC := hC2
 clear hC2
 replace hpt := hpt.gr g
 replace hph := hph.gr g
 replace hpb := hpb.gr g
 replace hpl := hpl.gr g
 replace hVw11 := hVw11.gr g
 have hsz12 := hbl
 clear g hb hbl
 refine Y.nt F [(3, Vp w.heap.size), (5, Vp w6.heap.size), (7, Vp w11.heap.size)] ?_;clear F ac;intro ac F
 refine Y.seq ?_
 refine Y.sl ?_
 refine Y.pv F (X.load rfl (F.ev 3 (Vp w.heap.size)) (X.ldN (Try.agg27 _) (Try.siz27 _) (Y.atz (⟨w.heap.size, 0, none⟩) (Y.AtFrom.cons (hC.at 0 rfl) (Y.AtFrom.cons (hC.at 1 rfl) (Y.AtFrom.cons (hC.at 2 rfl) (Y.AtFrom.cons (hC.at 3 rfl) (Y.AtFrom.nil _ _ _)))))))) ?_;clear F ac;intro ac F
 refine Y.pc F 69 (X.a1 (F.ev 15 (.agg #[.slice ta p.nt tc, .slice ha p.nh hc, .slice ba p.nb bc, .slice la p.nl lc]))) Try.func69 (nodes_any p ta ha ba la tc hc bc lc w14) ?_
 clear F ac
 have hpre9 := G.size
 rintro e w15 ⟨bn16, rfl, hbn9, hcn, g⟩
 refine ⟨_, rfl, ?_⟩
 intro ac F
 replace G := G.trans g
 replace hC := hC.gr g
 replace hpt := hpt.gr g
 replace hph := hph.gr g
 replace hpb := hpb.gr g
 replace hpl := hpl.gr g
 replace hVw11 := hVw11.gr g
 clear g
 replace hC := hC.append (show RCells w15 (bcells bn16 [.slice ta p.nt tc, .slice ha p.nh hc, .slice ba p.nb bc, .slice la p.nl lc] 0) from (RCells.cons (hcn.at 0 rfl) (RCells.cons (hcn.at 1 rfl) (RCells.cons (hcn.at 2 rfl) (RCells.cons (hcn.at 3 rfl) (RCells.nil _))))))
 refine Y.nt F [(3, Vp w.heap.size), (5, Vp w6.heap.size), (7, Vp w11.heap.size), (16, .func (.func 102) #[] #[Vp bn16])] ?_;clear F ac;intro ac F
 refine Y.block ?_
 have Gf0 := G
 replace F : Fr ac 57 [(3, Vp w.heap.size), (5, Vp w6.heap.size), (7, Vp w11.heap.size), (16, .func (.func 102) #[] #[Vp bn16])] := F.sub _
 have hgw := G.size
 have hCn : RCells w15 (PbC p ta ha ba la tc hc bc lc bn16) := (RCells.cons (hC.at 6 rfl) (RCells.cons (hC.at 7 rfl) (RCells.cons (hC.at 8 rfl) (RCells.cons (hC.at 9 rfl) (RCells.nil _)))))
 have hzl17 : bn16 < w15.heap.size := lt_cell (hC.at 6 rfl)
 have hzl18 : w.heap.size < w15.heap.size := lt_cell (hC.at 0 rfl)
 have hzl19 : w11.heap.size < w15.heap.size := lt_cell (hC.at 5 rfl)
 have hzl20 : w6.heap.size < w15.heap.size := lt_cell (hC.at 4 rfl)
 have hzy21 : w10.heap.size < w15.heap.size := hVw11.lt
 have hPb : ∀ W, Only (fun b => b = w10.heap.size) w15 W → PbAt W p ta ha ba la tc hc bc lc ∧ RCells W (PbC p ta ha ba la tc hc bc lc bn16) := fun W h => ⟨hP.gr (Y.Only.up G h (by omega)), hCn.only h (fun q hq e => by
  simp [PbC] at hq
  rcases hq with rfl | rfl | rfl | rfl <;> (first | omega | (simp only at e; omega)))⟩
 have hK0 := RkK.start (B := w15.heap.size) hVw11 (Nat.le_refl _) (by omega)
 have hCl := hC
 have Gl := G
 refine Y.ndRange (D := []) (p := p) (ta := ta) (ha := ha) (ba := ba) (la := la) (tc := tc) (hc := hc) (bc := bc) (lc := lc) (bp := bn16) F (by decide) (by decide) rfl rfl rfl rfl rfl rfl rfl (F.ev 16 _) hp (fun b => b = w10.heap.size) (fun b e => by first | omega | (first | omega | (simp only at e; omega))) hPb (stF p most mv) ([]) (RkK w10.heap.size w15.heap.size most) (fun b => b = w10.heap.size) (fun _ => False) hK0 (fun b e => by exact e) (fun s O Kp W h => h.lt) (fun s O Kp W W2 h g => h.gr g) (fun s O Kp W W2 h h2 g => h.only (fun b e => by first | omega | (first | omega | (simp only at e; omega))) h2 g) (fun _ _ => False) (fun _ _ _ h => h) ?_ ?_ ?_
 ·intro ss O Kp xs a c d b w22 ac hQ hK hOs hlen hx hBeg hdg hdO hdK haO had hD hbg hbd hbO hbK hab hN F
  clear G hC
  have hPW := (hPb w22 hQ).1
  have G := Gr.refl w22
  have hsw := hQ.size
  have hC : RCells w22 [(Ad w.heap.size 0, .slice ta p.nt tc), (Ad w.heap.size 1, .slice ha p.nh hc), (Ad w.heap.size 2, .slice ba p.nb bc), (Ad w.heap.size 3, .slice la p.nl lc), (Ad w6.heap.size 0, .func (.func gf) #[] caps), (Ad w11.heap.size 0, Vp w10.heap.size), (Ad bn16 0, .slice ta p.nt tc), (Ad bn16 1, .slice ha p.nh hc), (Ad bn16 2, .slice ba p.nb bc), (Ad bn16 3, .slice la p.nl lc), (Ad b 0, .slice a xs.length c), (Ad b 1, .bool (hopeB p (tim p) xs)), (Ad b 2, Vi (bndV p xs)), (Ad b 3, Vp d)] := (RCells.cons (hQ.cell (hCl.at 0 rfl) (by simp only; omega)) (RCells.cons (hQ.cell (hCl.at 1 rfl) (by simp only; omega)) (RCells.cons (hQ.cell (hCl.at 2 rfl) (by simp only; omega)) (RCells.cons (hQ.cell (hCl.at 3 rfl) (by simp only; omega)) (RCells.cons (hQ.cell (hCl.at 4 rfl) (by simp only; omega)) (RCells.cons (hQ.cell (hCl.at 5 rfl) (by simp only; omega)) (RCells.cons (hQ.cell (hCl.at 6 rfl) (by simp only; omega)) (RCells.cons (hQ.cell (hCl.at 7 rfl) (by simp only; omega)) (RCells.cons (hQ.cell (hCl.at 8 rfl) (by simp only; omega)) (RCells.cons (hQ.cell (hCl.at 9 rfl) (by simp only; omega)) hN))))))))))
  replace hpt := hPW.t
  replace hph := hPW.h
  replace hpb := hPW.b
  replace hpl := hPW.l
  replace F : Fr ac 57 [(3, Vp w.heap.size), (5, Vp w6.heap.size), (7, Vp w11.heap.size), (8, Vp b), (16, .func (.func 102) #[] #[Vp bn16]), (17, .agg #[.slice a xs.length c, .bool (hopeB p (tim p) xs), Vi (bndV p xs), Vp d])] := F.sub _
  obtain ⟨kv, lv, Lk, rfl, hRk, rfl, rfl, hLm, hlim⟩ := hK
  obtain ⟨ka, kc, rfl⟩ := hRk.k.form
  obtain ⟨la9, lc9, rfl⟩ := hRk.l.form
  have hR9 := hRk
  have Gf : Gr w w22 := Y.Only.up Gf0 hQ (by omega)
  refine Y.block ?_
  refine Y.sl ?_
  refine Y.pv3 F (X.load rfl (F.ev 5 (Vp w6.heap.size)) (X.ld1 (Try.agg88 _) (hC.at 4 rfl))) (fun _ F=>X.field rfl (F.ev 8 (Vp b)) (X.fld Try.underlying102 rfl (Try.siz34 _) rfl rfl)) (fun _ F=>X.load rfl (F.ev 20 (Vp b)) (X.ld1 (Try.agg34 _) (hC.at 10 rfl))) ?_;clear F ac;intro ac F
  refine Y.pcall F (X.w0 rfl) rfl (X.enter (F := gf) rfl (F.ev 19 (.func (.func gf) #[] caps)) (X.a1 (F.ev 21 (.slice a xs.length c))) (fun W => eg _ W)) (hmv w22 xs a c (Gf.trans G) (hBeg.gr G).i hlen hx) ?_
  clear F ac
  rintro e w23 ⟨rfl, g⟩
  refine ⟨_, rfl, ?_⟩
  intro ac F
  replace G := G.trans g
  replace hC := hC.gr g
  replace hpt := hpt.gr g
  replace hph := hph.gr g
  replace hpb := hpb.gr g
  replace hpl := hpl.gr g
  replace hD := hD.gr g
  replace hRk := hRk.gr g
  clear g
  refine Y.pv4 F (X.move rfl (F.ev 22 (.tuple #[Vi ((mv xs).1), .bool ((mv xs).2)]))) (fun _ F=>X.extract rfl (F.ev 18 (.tuple #[Vi ((mv xs).1), .bool ((mv xs).2)])) rfl) (fun _ F=>X.extract rfl (F.ev 18 (.tuple #[Vi ((mv xs).1), .bool ((mv xs).2)])) rfl) (fun _ F=>X.assign rfl (F.ev 23 (Vi ((mv xs).1)))) ?_;clear F ac;intro ac F
  refine Y.pv F (X.assign rfl (F.ev 24 (.bool ((mv xs).2)))) ?_;clear F ac;intro ac F
  refine Y.nt F [(3, Vp w.heap.size), (5, Vp w6.heap.size), (7, Vp w11.heap.size), (8, Vp b), (9, Vi ((mv xs).1)), (10, .bool ((mv xs).2))] ?_;clear F ac;intro ac F
  refine Y.sl ?_
  refine Y.pv4 F (X.move rfl (F.ev 9 (Vi ((mv xs).1)))) (fun _ F=>X.field rfl (F.ev 8 (Vp b)) (X.fld Try.underlying102 rfl (Try.siz3 _) rfl rfl)) (fun _ F=>X.load rfl (F.ev 26 (.pointer (some ⟨b, 2, none⟩))) (X.ld1 (Try.agg3 _) (hC.at 12 rfl))) (fun _ F=>Y.bd rfl (X.b2 (F.ev 25 (Vi ((mv xs).1))) (F.ev 27 (Vi (bndV p xs)))) (Try.bd92 _ _ _)) ?_;clear F ac;intro ac F
  refine Y.pv F (Y.al rfl (Try.new92 _)) ?_;clear F ac;intro ac F
  refine Y.punit F (X.w0 rfl) rfl (X.store rfl (F.ev 11 (Vp w23.heap.size)) (F.ev 28 (.agg #[Vi ((mv xs).1), Vi (bndV p xs)])) (Y.stNew [Vi ((mv xs).1), Vi (bndV p xs)] [Vi 0, Vi 0] (Try.siz92 _) rfl rfl)) ?_;clear F ac;intro ac F
  have hgs24 : w22.heap.size ≤ w23.heap.size := G.size
  obtain ⟨w25, hw_, g, hb, hbl, hC2⟩ := Y.bxd hC #[Vi ((mv xs).1), Vi (bndV p xs)] 92;rw [hw_];clear hw_
  replace G := G.trans g
  replace hC := hC2
  clear hC2
  replace hpt := hpt.gr g
  replace hph := hph.gr g
  replace hpb := hpb.gr g
  replace hpl := hpl.gr g
  replace hD := hD.gr g
  replace hRk := hRk.gr g
  clear g hb hbl
  refine Y.nt F [(3, Vp w.heap.size), (5, Vp w6.heap.size), (7, Vp w11.heap.size), (8, Vp b), (10, .bool ((mv xs).2)), (11, Vp w23.heap.size)] ?_;clear F ac;intro ac F
  refine Y.block ?_
  refine Y.sg F [(3, Vp w.heap.size), (5, Vp w6.heap.size), (7, Vp w11.heap.size), (8, Vp b), (10, .bool ((mv xs).2)), (11, Vp w23.heap.size), (29, .bool (hopeB p (tim p) xs))] (by
   refine Y.pv F (X.field rfl (F.ev 8 (Vp b)) (X.fld Try.underlying102 rfl (Try.siz4 _) rfl rfl)) fun ac F=>?_
   refine Y.pv F (X.load rfl (F.ev 30 (.pointer (some ⟨b, 1, none⟩))) (X.ld1 (Try.agg4 _) (hC.at 11 rfl))) fun ac F=>?_
   refine Y.pv F (X.assign rfl (F.ev 31 (.bool (hopeB p (tim p) xs)))) fun ac F=>?_
   exact Y.fin F) ?_;clear F ac;intro ac F
  cases h26 : hopeB p (tim p) xs with
  | false =>
   try rw [h26] at F
   refine Y.condF (F.ev 29 (.bool false)) ?_
   refine Y.sl ?_
   refine Y.pv3 F (X.move rfl (F.ev 10 (.bool ((mv xs).2)))) (fun _ F=>X.notB rfl (F.ev 33 (.bool ((mv xs).2))) rfl) (fun _ F=>X.move rfl (F.ev 34 (.bool (!((mv xs).2))))) ?_;clear F ac;intro ac F
   cases h27 : (mv xs).2 with
   | false =>
    try rw [h27] at F
    refine Y.ps F 2 35 true ?_;clear F ac;intro ac F
    refine Y.ps F 2 35 true ?_;clear F ac;intro ac F
    refine Y.ps F 2 35 true ?_;clear F ac;intro ac F
    refine Y.pv2 F (X.pickT rfl (F.ev 35 (.bool true)) (X.kc (.bool true) rfl)) (fun _ F=>X.assign rfl (F.ev 39 (.bool true))) ?_;clear F ac;intro ac F
    refine Y.nt F [(3, Vp w.heap.size), (5, Vp w6.heap.size), (7, Vp w11.heap.size), (8, Vp b), (11, Vp w23.heap.size), (32, .bool true)] ?_;clear F ac;intro ac F
    refine Y.condT (F.ev 32 (.bool true)) ?_
    refine Y.lit (by kernel_rfl) ?_
    refine Y.pv3 F (X.field rfl (F.ev 8 (Vp b)) (X.fld Try.underlying102 rfl (Try.siz100 _) rfl rfl)) (fun _ F=>X.load rfl (F.ev 40 (.pointer (some ⟨b, 3, none⟩))) (X.ld1 (Try.agg100 _) (hC.at 13 rfl))) (fun _ F=>Y.nilC rfl (F.ev 41 (Vp d))) ?_;clear F ac;intro ac F
    refine Y.punit F (X.w0 rfl) rfl (X.store rfl (F.ev 42 (Vp d)) (X.kc (.bool false) rfl) (hD.st1 (Try.siz4 _) rfl rfl (by decide))) ?_;clear F ac;intro ac F
    have hon := Y.set_only w25 d 0 (.bool false)
    have hD2 := (hD.set (k := 0) (.bool false)).congr (val' := fun _ => .bool false) (fun k hk => if_pos (by omega))
    generalize w25.setCell ⟨d, 0, none⟩ (.bool false) = w28 at *
    have hRk2 := hRk.only hon (fun b e h => by have h8 : b = d := h; subst h8; exact hdO e) (fun x hx2 ad e h => hdK ⟨x, hx2, ad, e, h⟩)
    have hO2 := ((G.only (fun x => RkO w10.heap.size (.slice ka Lk.length kc) (.slice la9 Lk.length lc9) x ∨ x = d)).trans (hon.mono' (fun i e => .inr e)))
    clear hRk hD G hC
    refine Y.nil ?_
    replace F : Fr ac 57 [(3, Vp w.heap.size), (5, Vp w6.heap.size), (7, Vp w11.heap.size)] := F.sub _
    refine X.blockN (X.blockN ?_)
    have est : stF p most mv (strip Lk) xs = _ := stF_c h26 (.inl h27)
    refine ⟨?_, ?_, ?_, ?_⟩
    ·exact hO2
    ·rw [est]; exact ⟨_, _, ⟨_, _, Lk, rfl, hRk2, rfl, rfl, hLm, hlim⟩, fun b e => .inl e⟩
    ·rw [est]; exact hD2
    ·rw [est]
   | true =>
    try rw [h27] at F
    refine Y.pg F 2 35 false (X.load rfl (F.ev 7 (Vp w11.heap.size)) (X.ld1 (Try.agg86 _) (hC.at 5 rfl))) ?_;clear F ac;intro ac F
    refine Y.pg F 2 35 false (X.load rfl (F.ev 11 (Vp w23.heap.size)) (X.ldN (Try.agg92 _) (Try.siz92 _) (Y.atz (⟨w23.heap.size, 0, none⟩) (Y.AtFrom.cons (hC.at 14 rfl) (Y.AtFrom.cons (hC.at 15 rfl) (Y.AtFrom.nil _ _ _)))))) ?_;clear F ac;intro ac F
    refine Y.pcall F (X.w1 rfl (F.yl (j := 2) (d := 35) (b := false) rfl (by kernel_rfl))) rfl (X.enter (F := 99) rfl (X.kc (.func (.func 99) #[] #[]) rfl) (X.a2 (F.ev 36 (Vp w10.heap.size)) (F.ev 37 (.agg #[Vi ((mv xs).1), Vi (bndV p xs)]))) (enters_of Try.func99 (by kernel_rfl) rfl _)) (full_any w10.heap.size w15.heap.size most ka la9 kc lc9 (mv xs).1 (bndV p xs) Lk w25 hRk hm (by omega)) ?_
    clear F ac
    rintro e w29 ⟨rfl, g⟩
    refine ⟨_, rfl, ?_⟩
    intro ac F
    replace G := G.trans g
    replace hC := hC.gr g
    replace hpt := hpt.gr g
    replace hph := hph.gr g
    replace hpb := hpb.gr g
    replace hpl := hpl.gr g
    replace hD := hD.gr g
    replace hRk := hRk.gr g
    clear g
    refine Y.pv2 F (X.pickF rfl (F.ev 35 (.bool false)) (F.ev 38 (.bool (fullR most Lk ((mv xs).1, bndV p xs))))) (fun _ F=>X.assign rfl (F.ev 39 (.bool (fullR most Lk ((mv xs).1, bndV p xs))))) ?_;clear F ac;intro ac F
    refine Y.nt F [(3, Vp w.heap.size), (5, Vp w6.heap.size), (7, Vp w11.heap.size), (8, Vp b), (11, Vp w23.heap.size), (32, .bool (fullR most Lk ((mv xs).1, bndV p xs)))] ?_;clear F ac;intro ac F
    cases h30 : fullR most Lk ((mv xs).1, bndV p xs) with
    | false =>
     try rw [h30] at F
     refine Y.condF (F.ev 32 (.bool false)) ?_
     refine Y.sg F [(3, Vp w.heap.size), (5, Vp w6.heap.size), (7, Vp w11.heap.size), (8, Vp b), (11, Vp w23.heap.size), (43, .bool ((xs.length : Int) == p.nt))] (by
      refine Y.pv F (X.field rfl (F.ev 8 (Vp b)) (X.fld Try.underlying102 rfl (Try.siz34 _) rfl rfl)) fun ac F=>?_
      refine Y.pv F (X.load rfl (F.ev 44 (Vp b)) (X.ld1 (Try.agg34 _) (hC.at 10 rfl))) fun ac F=>?_
      refine Y.pv F (X.len1 Try.underlying34 rfl (F.ev 45 (.slice a xs.length c))) fun ac F=>?_
      refine Y.pv F (X.field rfl (F.ev 3 (Vp w.heap.size)) (X.fld Try.underlying27 rfl (Try.siz22 _) rfl rfl)) fun ac F=>?_
      refine Y.pv F (X.load rfl (F.ev 47 (Vp w.heap.size)) (X.ld1 (Try.agg22 _) (hC.at 0 rfl))) fun ac F=>?_
      refine Y.pv F (X.len1 Try.underlying22 rfl (F.ev 48 (.slice ta p.nt tc))) fun ac F=>?_
      refine Y.pv F (X.binop rfl (F.ev 46 (Vi xs.length)) (F.ev 49 (Vi p.nt)) (X.eqlI Try.underlying3 rfl)) fun ac F=>?_
      refine Y.pv F (X.assign rfl (F.ev 50 (.bool ((xs.length : Int) == p.nt)))) fun ac F=>?_
      exact Y.fin F) ?_;clear F ac;intro ac F
     cases h31 : ((xs.length : Int) == p.nt) with
     | false =>
      try rw [h31] at F
      have h31p : ¬ (xs.length : Int) = p.nt := by simpa using h31
      refine Y.condF (F.ev 43 (.bool false)) ?_
      refine Y.skip ?_
      refine X.blockN (X.blockN ?_)
      have est : stF p most mv (strip Lk) xs = _ := stF_n h26 h27 ((strip_full _ _ _).trans h30) (by omega)
      refine ⟨?_, ?_, ?_, ?_⟩
      ·exact G.only _
      ·rw [est]; exact ⟨_, _, ⟨_, _, Lk, rfl, hRk, rfl, rfl, hLm, hlim⟩, fun b e => .inl e⟩
      ·rw [est]; exact hD
      ·rw [est]
     | true =>
      try rw [h31] at F
      have h31p : (xs.length : Int) = p.nt := by simpa using h31
      refine Y.condT (F.ev 43 (.bool true)) ?_
      refine Y.lit (by kernel_rfl) ?_
      refine Y.pv4 F (X.load rfl (F.ev 7 (Vp w11.heap.size)) (X.ld1 (Try.agg86 _) (hC.at 5 rfl))) (fun _ F=>X.load rfl (F.ev 11 (Vp w23.heap.size)) (X.ldN (Try.agg92 _) (Try.siz92 _) (Y.atz (⟨w23.heap.size, 0, none⟩) (Y.AtFrom.cons (hC.at 14 rfl) (Y.AtFrom.cons (hC.at 15 rfl) (Y.AtFrom.nil _ _ _)))))) (fun _ F=>X.field rfl (F.ev 8 (Vp b)) (X.fld Try.underlying102 rfl (Try.siz34 _) rfl rfl)) (fun _ F=>X.load rfl (F.ev 53 (Vp b)) (X.ld1 (Try.agg34 _) (hC.at 10 rfl))) ?_;clear F ac;intro ac F
      refine Y.pc F 100 (X.a3 (F.ev 51 (Vp w10.heap.size)) (F.ev 52 (.agg #[Vi ((mv xs).1), Vi (bndV p xs)])) (F.ev 54 (.slice a xs.length c))) Try.func100 (put_s w10.heap.size w15.heap.size most ka la9 kc lc9 (mv xs).1 (bndV p xs) Lk xs a c w29 hRk hm (by omega) hLm ((hBeg.lower (by omega)).gr G) haO) ?_
      clear F ac
      rintro e w32 ⟨rfl, kv2, lv2, hRk2, hOn, hOo⟩
      refine ⟨_, rfl, ?_⟩
      intro ac F
      have hO2 : Only (fun x => RkO w10.heap.size (.slice ka Lk.length kc) (.slice la9 Lk.length lc9) x ∨ x = d) w22 w32 := (G.only _).trans (hOn.mono' (fun i e => .inl e))
      have hD2 := hD.only hOn hdO
      have hSz := G.size
      clear hRk G
      refine Y.nil ?_
      replace F : Fr ac 57 [(3, Vp w.heap.size), (5, Vp w6.heap.size), (7, Vp w11.heap.size)] := F.sub _
      refine X.blockN (X.blockN ?_)
      have est : stF p most mv (strip Lk) xs = _ := stF_p h26 h27 ((strip_full _ _ _).trans h30) (by omega)
      refine ⟨?_, ?_, ?_, ?_⟩
      ·exact hO2
      ·rw [est]
       refine ⟨_, _, ⟨kv2, lv2, _, strip_put _ _ _, hRk2, rfl, rfl, put_len hLm, fun b hb => ?_⟩, fun b e => (hOo b e).imp (fun z => z) (fun e => Nat.le_trans hSz e)⟩
       obtain ⟨x, hx2, ad, e, rfl⟩ := hb
       rcases put_mem hx2 with rfl | hx2
       ·exact (hBeg.ge ad e).1
       ·exact hlim _ ⟨x, hx2, ad, e, rfl⟩
      ·rw [est]; exact hD2
      ·rw [est]
    | true =>
     try rw [h30] at F
     refine Y.condT (F.ev 32 (.bool true)) ?_
     refine Y.lit (by kernel_rfl) ?_
     refine Y.pv3 F (X.field rfl (F.ev 8 (Vp b)) (X.fld Try.underlying102 rfl (Try.siz100 _) rfl rfl)) (fun _ F=>X.load rfl (F.ev 40 (.pointer (some ⟨b, 3, none⟩))) (X.ld1 (Try.agg100 _) (hC.at 13 rfl))) (fun _ F=>Y.nilC rfl (F.ev 41 (Vp d))) ?_;clear F ac;intro ac F
     refine Y.punit F (X.w0 rfl) rfl (X.store rfl (F.ev 42 (Vp d)) (X.kc (.bool false) rfl) (hD.st1 (Try.siz4 _) rfl rfl (by decide))) ?_;clear F ac;intro ac F
     have hon := Y.set_only w29 d 0 (.bool false)
     have hD2 := (hD.set (k := 0) (.bool false)).congr (val' := fun _ => .bool false) (fun k hk => if_pos (by omega))
     generalize w29.setCell ⟨d, 0, none⟩ (.bool false) = w33 at *
     have hRk2 := hRk.only hon (fun b e h => by have h8 : b = d := h; subst h8; exact hdO e) (fun x hx2 ad e h => hdK ⟨x, hx2, ad, e, h⟩)
     have hO2 := ((G.only (fun x => RkO w10.heap.size (.slice ka Lk.length kc) (.slice la9 Lk.length lc9) x ∨ x = d)).trans (hon.mono' (fun i e => .inr e)))
     clear hRk hD G hC
     refine Y.nil ?_
     replace F : Fr ac 57 [(3, Vp w.heap.size), (5, Vp w6.heap.size), (7, Vp w11.heap.size)] := F.sub _
     refine X.blockN (X.blockN ?_)
     have est : stF p most mv (strip Lk) xs = _ := stF_c h26 (.inr ((strip_full _ _ _).trans h30))
     refine ⟨?_, ?_, ?_, ?_⟩
     ·exact hO2
     ·rw [est]; exact ⟨_, _, ⟨_, _, Lk, rfl, hRk2, rfl, rfl, hLm, hlim⟩, fun b e => .inl e⟩
     ·rw [est]; exact hD2
     ·rw [est]
  | true =>
   try rw [h26] at F
   refine Y.condT (F.ev 29 (.bool true)) ?_
   refine Y.skip ?_
   refine X.blockN (X.blockN ?_)
   have est : stF p most mv (strip Lk) xs = _ := stF_h h26
   refine ⟨?_, ?_, ?_, ?_⟩
   ·exact G.only _
   ·rw [est]; exact ⟨_, _, ⟨_, _, Lk, rfl, hRk, rfl, rfl, hLm, hlim⟩, fun b e => .inl e⟩
   ·rw [est]; exact hD
   ·rw [est]
 ·intro ss O Kp w34 ac hV hQ hK hOs hmk F
  clear G hC
  have hmk := hmk
  have hsw := hQ.size
  have G : Gr w w34 := (Y.Only.up Gl hQ (by omega))
  have hC := (RCells.cons (hQ.cell (hCl.at 0 rfl) (by simp only; omega)) (RCells.cons (hQ.cell (hCl.at 1 rfl) (by simp only; omega)) (RCells.cons (hQ.cell (hCl.at 2 rfl) (by simp only; omega)) (RCells.cons (hQ.cell (hCl.at 3 rfl) (by simp only; omega)) (RCells.cons (hQ.cell (hCl.at 4 rfl) (by simp only; omega)) (RCells.cons (hQ.cell (hCl.at 5 rfl) (by simp only; omega)) (RCells.cons (hQ.cell (hCl.at 6 rfl) (by simp only; omega)) (RCells.cons (hQ.cell (hCl.at 7 rfl) (by simp only; omega)) (RCells.cons (hQ.cell (hCl.at 8 rfl) (by simp only; omega)) (RCells.cons (hQ.cell (hCl.at 9 rfl) (by simp only; omega)) (RCells.nil _)))))))))))
  replace hpt := (hP.t).gr G
  replace hph := (hP.h).gr G
  replace hpb := (hP.b).gr G
  replace hpl := (hP.l).gr G
  obtain ⟨kv, lv, Lk, hst, hRk, hOe, hKe, hLm, hlim⟩ := hK
  refine X.blockN (X.thenN ?_)
  refine Y.sg F [(6, Vp w10.heap.size)] (Y.pv F (X.load rfl (F.ev 7 (Vp w11.heap.size)) (X.ld1 (Try.agg86 _) (hC.at 5 rfl))) fun ac F=>Y.pv F (X.assign rfl (F.ev 56 (Vp w10.heap.size))) fun ac F=>Y.fin F) ?_;clear F ac;intro ac F
  refine Y.ret ?_
  refine ret_mark (v := Vp w10.heap.size) F hmk (Y.r1 F) (fun W2 hW2 => ?_)
  refine ⟨w10.heap.size, kv, lv, Lk, w15.heap.size, rfl, ?_, by rw [hst]; exact hV, by omega, by omega, hLm, ?_⟩
  ·refine hRk.only hW2 (fun b e h => ?_) (fun x hx2 ad e h => ?_)
   ·rcases hOs b (hOe ▸ e) with h9 | h9 <;> first | omega | (simp only at h9 h; omega)
   ·have h9 := hlim ad.block (hKe ▸ ⟨x, hx2, ad, e, rfl⟩)
    try simp only at h
    omega
  ·exact Y.Only.up G hW2 (by omega)
 ·exact fun _ _ _ _ h => h.elim
end
section
set_option linter.unusedVariables false
open Go.RowKit
/-- the allowed plans, by their hosts -/
def allP (p : Pb) : List (List Int) := allF p.nh (hopeB p (tim p)) p.nt []
/-- them in order of the keys; of equal ones what comes first is first -/
def srtK (key : List Int → Int × Int) (l : List (List Int)) : List ((Int × Int) × List Int) := l.foldl (fun s x => insR s (key x, x)) []
def keyC (p : Pb) (xs : List Int) : Int × Int := (0, bndV p xs)
/-- the search finds the first ones -/
theorem first_law {p : Pb} (hp : PbOk p) {most : Nat} (h0 : 0 < most) (mv : List Int → Int × Bool)
    (hok : ∀ (xs : List Int) (h : Nat), xs.length < p.nt → HosOk p xs → h < p.nh → (mv (xs ++ [(h : Int)])).2 = true → (mv xs).2 = true)
    (hmo : ∀ (xs : List Int) (h : Nat), xs.length < p.nt → HosOk p xs → h < p.nh → (mv xs).1 ≤ (mv (xs ++ [(h : Int)])).1) :
    visF p.nh (hopeB p (tim p)) (stF p most mv) p.nt [] [] = ((srtK (fun xs => ((mv xs).1, bndV p xs)) ((allP p).filter fun xs => (mv xs).2)).take most, true) := by
  have h := vis_first (nh := p.nh) (most := most) (hope := hopeB p (tim p)) (fun m xs => xs.length + m = p.nt ∧ HosOk p xs) (fun xs => (mv xs).2) (fun xs => ((mv xs).1, bndV p xs)) (stF p most mv)
    (fun m xs h hv hh _ => ⟨by have := hv.1; simp; omega, hv.2.app hh⟩) (fun m xs h hv hh hk => hok xs h (by have := hv.1; omega) hv.2 hh hk)
    (fun m xs h hv hh _ => by
      have h1 := hmo xs h (by have := hv.1; omega) hv.2 hh
      have h2 := bnd_mono hp (xs := xs) (h := (h : Int))
      rw [ltK_false]; simp only; omega)
    (fun m s xs hv hh => stF_h hh) (fun m s xs hv hh hk => stF_c hh hk) (fun s xs hv hh hk hf => stF_p hh hk hf (by have := hv.1; omega))
    (fun m s xs hv hh hk hf => stF_n hh hk hf (by have := hv.1; omega)) (m := p.nt) (xs := []) ⟨by simp, HosOk.nil⟩ []
  rw [h]
  have h2 := (fold_put h0 (fun xs : List Int => (((mv xs).1, bndV p xs), xs)) ((allP p).filter fun xs => (mv xs).2) [] nil_sorted).1
  rw [List.take_nil] at h2
  unfold allP at h2 ⊢
  unfold srtK
  rw [h2]
def stillF : List Int → Int × Bool := fun _ => (0, true)
theorem still_law {p : Pb} (hp : PbOk p) {most : Nat} (h0 : 0 < most) : visF p.nh (hopeB p (tim p)) (stF p most stillF) p.nt [] [] = ((srtK (keyC p) (allP p)).take most, true) := by
  have h := first_law hp h0 stillF (fun _ _ _ _ _ _ => rfl) (fun _ _ _ _ _ => Int.le_refl _)
  rw [h]
  congr 2
  rw [show (allP p).filter (fun xs => (stillF xs).2) = allP p from List.filter_eq_self.2 (fun _ _ => rfl)]
  rfl
/-- the plan, its cost and the error -/
def bestR (p : Pb) : List Int × Int × Int :=
  if chkE p ≠ 0 then ([], 0, chkE p) else match srtK (keyC p) (allP p) with
    | [] => ([], 0, 3)
    | y :: _ => (y.2, y.1.2, 0)
theorem best_1 {p : Pb} (h : ¬ chkE p = 0) : bestR p = ([], 0, chkE p) := if_pos h
theorem best_2 {p : Pb} (h : chkE p = 0) {L : RkL} (hL : strip L = (srtK (keyC p) (allP p)).take 1) (hn : L.length = 0) : bestR p = ([], 0, 3) := by
  have hn2 : L = [] := List.eq_nil_of_length_eq_zero hn
  subst hn2
  unfold bestR
  rw [if_neg (by rw [h]; decide)]
  cases hs : srtK (keyC p) (allP p) with
  | nil => rfl
  | cons y t => rw [hs] at hL; simp [strip] at hL
theorem best_3 {p : Pb} (h : chkE p = 0) {L : RkL} {y : (Int × Int) × BegE} (hL : strip L = (srtK (keyC p) (allP p)).take 1) (hy : L[0]? = some y) : bestR p = (y.2.xs, y.1.2, 0) := by
  unfold bestR
  rw [if_neg (by rw [h]; decide)]
  cases hs : srtK (keyC p) (allP p) with
  | nil => rw [hs] at hL; cases L with
    | nil => simp at hy
    | cons a t => simp [strip] at hL
  | cons z t =>
    rw [hs] at hL
    cases L with
    | nil => simp at hy
    | cons a u =>
      simp at hy
      subst hy
      simp [strip] at hL
      show (z.2, z.1.2, 0) = _
      rw [← hL.1]
/-- the entries of the first ones, in memory -/
theorem begs_cell {W : World} {B g n c i : Nat} {L : RkL} {y : (Int × Int) × BegE} (h : OwnR W B 34 1 (.slice (some ⟨g, 0, none⟩) n c) n (begsV L)) (hn : L.length = n) (hy : L[i]? = some y) : W.cell? ⟨g, i, none⟩ = some (.slice y.2.a y.2.xs.length y.2.c) := by
  have hi : i < L.length := (List.getElem?_eq_some_iff.1 hy).1
  have hO := h.ownP (val := fun j => (begsV L)[j]?.getD undef) (fun j u hu => by rw [hu]; rfl)
  have c1 := hO.cell (k := i) (by omega)
  rw [c1]
  simp [begsV, hy]
theorem keys_cell {W : World} {B g n c i : Nat} {L : RkL} {y : (Int × Int) × BegE} (h : OwnR W B 92 2 (.slice (some ⟨g, 0, none⟩) n c) n (keysV L)) (hn : L.length = n) (hy : L[i]? = some y) : W.cell? ⟨g, i * 2, none⟩ = some (.int .i64 y.1.1) ∧ W.cell? ⟨g, i * 2 + 1, none⟩ = some (.int .i64 y.1.2) := by
  have hi : i < L.length := (List.getElem?_eq_some_iff.1 hy).1
  have hO := h.ownP (val := fun j => (keysV L)[j]?.getD undef) (fun j u hu => by rw [hu]; rfl)
  obtain ⟨k1, k2⟩ := keys_get L i y hy
  have c1 := hO.cell (k := i * 2) (by omega)
  have c2 := hO.cell (k := i * 2 + 1) (by omega)
  simp only [k1, k2, Option.getD_some] at c1 c2
  exact ⟨c1, c2⟩
end
section
set_option linter.unusedVariables false
open Go.RowKit
/-- rows as values -/
def rowsV (E : List BegE) : List Value := E.map fun x => .slice x.a x.xs.length x.c
theorem rowsV_len (E : List BegE) : (rowsV E).length = E.length := by simp [rowsV]
theorem rowsV_all (E : List BegE) : ((rowsV E).all fun v => v.oneCell') = true := by
  rw [List.all_eq_true]; intro v hv
  simp only [rowsV, List.mem_map] at hv
  obtain ⟨x, _, rfl⟩ := hv
  rfl
/-- rows of numbers, in a slice of the call's own -/
structure RwAt (W : World) (B : Nat) (v : Value) (E : List BegE) : Prop where
  o : OwnR W B 34 1 v E.length (rowsV E)
  i : ∀ x ∈ E, Ints W x.a x.xs.length x.xs
  n : ∀ x ∈ E, ∀ ad, x.a = some ad → v.ownBlock ≠ some ad.block ∧ ad.block < W.heap.size
theorem RwAt.gr {W W' : World} {B : Nat} {v : Value} {E : List BegE} (h : RwAt W B v E) (g : Gr W W') : RwAt W' B v E :=
  ⟨h.o.gr g, fun x hx => (h.i x hx).gr g, fun x hx ad e => ⟨(h.n x hx ad e).1, Nat.lt_of_lt_of_le (h.n x hx ad e).2 g.size⟩⟩
theorem RwAt.nil (W : World) (B : Nat) : RwAt W B (.slice none 0 0) [] := ⟨OwnR.nil _ _ _ _, fun x hx => (by simp at hx), fun x hx => (by simp at hx)⟩
theorem RwAt.lower {W : World} {B B' : Nat} {v : Value} {E : List BegE} (h : RwAt W B v E) (hB : B' ≤ B) : RwAt W B' v E := ⟨h.o.lower hB, h.i, h.n⟩
theorem RwAt.form {W : World} {B : Nat} {v : Value} {E : List BegE} (h : RwAt W B v E) : ∃ a c, v = .slice a E.length c := h.o.form
/-- the rows come in behind the others -/
theorem RwAt.push {W W' : World} {B B2 : Nat} {v v2 v' : Value} {E E2 : List BegE} (h : RwAt W B v E) (h2 : RwAt W B2 v2 E2) (hO : OwnR W' B 34 1 v' (E.length + E2.length) (rowsV E ++ rowsV E2)) (hon : Only (fun b => v.ownBlock = some b) W W')
    (hat : v'.ownBlock = v.ownBlock ∨ v'.ownBlock = some W.heap.size) (hne : ∀ x ∈ E2, ∀ ad, x.a = some ad → v.ownBlock ≠ some ad.block) : RwAt W' B v' (E ++ E2) := by
  have hn : ∀ x ∈ E ++ E2, Ints W x.a x.xs.length x.xs ∧ ∀ ad, x.a = some ad → v.ownBlock ≠ some ad.block ∧ ad.block < W.heap.size := fun x hx => by
    rcases List.mem_append.1 hx with hx | hx
    · exact ⟨h.i x hx, h.n x hx⟩
    · exact ⟨h2.i x hx, fun ad e => ⟨hne x hx ad e, (h2.n x hx ad e).2⟩⟩
  refine ⟨by rw [List.length_append]; simpa [rowsV] using hO, fun x hx => (hn x hx).1.onlyAt hon (fun ad e => (hn x hx).2 ad e |>.1), fun x hx ad e => ?_⟩
  obtain ⟨n1, n2⟩ := (hn x hx).2 ad e
  refine ⟨fun e2 => ?_, Nat.lt_of_lt_of_le n2 hon.size⟩
  rcases hat with h3 | h3
  · rw [h3] at e2; exact n1 e2
  · rw [h3] at e2; injection e2 with e2; omega
/-- a row as an element -/
theorem RwAt.cell {W : World} {B g c i : Nat} {E : List BegE} {x : BegE} (h : RwAt W B (.slice (some ⟨g, 0, none⟩) E.length c) E) (hx : E[i]? = some x) : W.cell? ⟨g, i, none⟩ = some (.slice x.a x.xs.length x.c) := by
  have hi : i < E.length := (List.getElem?_eq_some_iff.1 hx).1
  have := World.ownsRow.cells h.o (g := g) rfl i (.slice x.a x.xs.length x.c) (by simp [rowsV, hx])
  rwa [addr_add0] at this
theorem RwAt.ex {W : World} {B c : Nat} {a : Option Addr} {E : List BegE} (h : RwAt W B (.slice a E.length c) E) (h0 : 0 < E.length) : ∃ g, a = some ⟨g, 0, none⟩ ∧ B ≤ g ∧ g < W.heap.size := by
  rcases h.o.shape with ⟨_, h1⟩ | ⟨g, c', e, h1, h2⟩
  · omega
  · injection e with e; exact ⟨g, e, h1, h2⟩
theorem RwAt.src {W : World} {B c : Nat} {a : Option Addr} {E : List BegE} (h : RwAt W B (.slice a E.length c) E) : ∀ ad, a = some ad → ∀ j u, (rowsV E)[j]? = some u → W.cell? (ad.add j) = some u := by
  intro ad e j u hu
  have hj : j < E.length := by have := (List.getElem?_eq_some_iff.1 hu).1; rwa [rowsV_len] at this
  obtain ⟨g, e2, _, _⟩ := h.ex (by omega)
  rw [e] at e2; injection e2 with e2
  subst e2
  subst e
  exact World.ownsRow.cells h.o (g := g) rfl j u hu
theorem RwAt.none0 {W : World} {B c : Nat} {a : Option Addr} {E : List BegE} (h : RwAt W B (.slice a E.length c) E) : a = none → E.length = 0 := fun e => by
  refine Classical.byContradiction fun h0 => ?_
  obtain ⟨g, e2, _⟩ := h.ex (by omega)
  rw [e] at e2; cases e2
/-- append to a slice of the call's own, of any slice -/
theorem wp_pushG {P : Program} {o : Oper} {a : Act} {W : World} {K : Act → World → Prop} {Q : Exit → Act → World → Prop} {s x : Operand} {ts e k bytes B n m c c1 : Nat} {z : Value} {a1 sa : Option Addr} {xs news : List Value}
    (hu : P.underlying ts = some (.slice e)) (hinfo : (P.info? e).map (fun i => (i.zero, i.size, i.bytes)) = some (some z, k, bytes)) (hzs : z.cells.size = k) (h0 : 0 < k)
    (ho : o.op = .call { callee := .builtin .append, args := #[s, x], argTypes := #[ts, ts] }) (hs : a.eval s = .slice a1 n c1) (hx : a.eval x = .slice sa m c) (hO : OwnR W B e k (.slice a1 n c1) n xs) (hsn : sa = none → m = 0)
    (hl : news.length = m * k) (hnews : ∀ ad, sa = some ad → ∀ j u, news[j]? = some u → W.cell? (ad.add j) = some u) (h1 : (news.all fun u => u.oneCell') = true) (hmax : n + m ≤ 1000000) (hbt : bytes ≤ 1000) (hB : B ≤ W.heap.size)
    (h : ∀ v' w', OwnR w' B e k v' (n + m) (xs ++ news) → Only (fun b => (Value.slice a1 n c1).ownBlock = some b) W w' → (v'.ownBlock = (Value.slice a1 n c1).ownBlock ∨ v'.ownBlock = some W.heap.size) → K (a.put o.dst v') w') : o.wp P a W K Q := by
  cases sa with
  | some ad => exact wp_pushV hu hinfo hzs h0 ho hs hx hO hl (hnews ad rfl) h1 hmax hbt hB h
  | none =>
    have hm := hsn rfl
    subst hm
    have hn0 : news = [] := List.eq_nil_of_length_eq_zero (by omega)
    subst hn0
    obtain ⟨i0, hi, hz0, hz1, hz2⟩ := info_parts hinfo
    have hle : n ≤ c1 := by
      rcases hO.2 with ⟨h2, _⟩ | ⟨b, cap, cur, h1, h2, h3, h4, _⟩
      · injection h2 with _ h2; omega
      · injection h1 with _ _ h1; omega
    have hs2 : Src P i0.size ts (.slice none 0 c) 0 [] W := by
      refine ⟨.inl ⟨e, hu⟩, fun w' => ?_, ?_, ?_, by simp, fun u hu => by simp at hu⟩
      · simp [Builtin.lenOf]
      · simp [Builtin.firstCells, loadCells, loadCellsFrom]
      · simp [Builtin.firstCells, loadCells, loadCellsFrom]
    have hr := run_append_nothing W ts ts o.type e i0 hu hi a1 n c1 hle _ hs2
    have hrun : (execOp a.eval o).run P W = .ok (.value (.slice a1 n c1)) W := by
      unfold execOp
      simp only [ho, resolve, invoke, builtin, Sem.run_bind, Sem.run_pure, Result.andThen_ok, List.map_toArray, List.map_cons, List.map_nil, hs, hx, hr]
    unfold Oper.wp
    rw [hrun]
    exact h _ _ (by rw [List.append_nil]; exact hO) (Only.refl _ _) (.inl rfl)
/-- a region with two calls (a, b) and an append (c) that may turn older memory, whose value is moved on (d) -/
structure RA4 (w : World) (a b c d : Nat) (Ta Tb Tc : Value → World → Prop) (done : Nat → Bool) (u : Nat → Value) (W : World) : Prop where
  g : done c = false → Gr w W
  ga : done a = true → done c = false → Ta (u a) W
  gb : done b = true → done c = false → Tb (u b) W
  gc : done c = true → Tc (u c) W
  gd : done d = true → u d = u c
def ne4 (a b c d : Nat) : Bool := !(a == b || a == c || a == d || b == c || b == d || c == d)
section
variable {w W W' : World} {a b c d i : Nat} {Ta Tb Tc : Value → World → Prop} {done : Nat → Bool} {u : Nat → Value} {v : Value}
theorem ne4_all (h : ne4 a b c d = true) : a ≠ b ∧ a ≠ c ∧ a ≠ d ∧ b ≠ c ∧ b ≠ d ∧ c ≠ d := by
  simp only [ne4, Bool.not_eq_true', Bool.or_eq_false_iff, beq_eq_false_iff_ne] at h
  obtain ⟨⟨⟨⟨⟨h1, h2⟩, h3⟩, h4⟩, h5⟩, h6⟩ := h
  exact ⟨h1, h2, h3, h4, h5, h6⟩
theorem RA4.start {u : Nat → Value} (g : Gr w W) : RA4 w a b c d Ta Tb Tc (fun _ => false) u W := ⟨fun _ => g, fun h => by simp at h, fun h => by simp at h, fun h => by simp at h, fun h => by simp at h⟩
theorem RA4.quiet (h : RA4 w a b c d Ta Tb Tc done u W) (ha : UpV Ta) (hb : UpV Tb) (hc : done c = false) (hd : done d = false) (g : Gr W W') (hi : (i == a || i == b || i == c || i == d) = false) : RA4 w a b c d Ta Tb Tc (upd done i) (fun j => if j = i then v else u j) W' := by
  simp only [Bool.or_eq_false_iff, beq_eq_false_iff_ne] at hi
  obtain ⟨⟨⟨h1, h2⟩, h3⟩, h4⟩ := hi
  have e1 := upd_ne (done := done) (Ne.symm h1)
  have e2 := upd_ne (done := done) (Ne.symm h2)
  have e3 := upd_ne (done := done) (Ne.symm h3)
  have e4 := upd_ne (done := done) (Ne.symm h4)
  refine ⟨fun k => (h.g hc).trans g, fun k0 k1 => ?_, fun k0 k1 => ?_, fun k0 => ?_, fun k0 => ?_⟩
  · have := ha _ _ _ (h.ga (e1 ▸ k0) hc) g; simpa [Ne.symm h1] using this
  · have := hb _ _ _ (h.gb (e2 ▸ k0) hc) g; simpa [Ne.symm h2] using this
  · rw [e3, hc] at k0; cases k0
  · rw [e4, hd] at k0; cases k0
theorem RA4.sa (h : RA4 w a b c d Ta Tb Tc done u W) (hn : ne4 a b c d = true) (hb : UpV Tb) (hc : done c = false) (hd : done d = false) (g : Gr W W') (ht : Ta v W') : RA4 w a b c d Ta Tb Tc (upd done a) (fun j => if j = a then v else u j) W' := by
  obtain ⟨n1, n2, n3, _⟩ := ne4_all hn
  have e1 := upd_ne (done := done) (Ne.symm n1)
  have e2 := upd_ne (done := done) (Ne.symm n2)
  have e3 := upd_ne (done := done) (Ne.symm n3)
  refine ⟨fun _ => (h.g hc).trans g, fun _ _ => by simpa using ht, fun k0 k1 => ?_, fun k => ?_, fun k => ?_⟩
  · have := hb _ _ _ (h.gb (e1 ▸ k0) hc) g; simpa [Ne.symm n1] using this
  · rw [e2, hc] at k; cases k
  · rw [e3, hd] at k; cases k
theorem RA4.sb (h : RA4 w a b c d Ta Tb Tc done u W) (hn : ne4 a b c d = true) (ha : UpV Ta) (hc : done c = false) (hd : done d = false) (g : Gr W W') (ht : Tb v W') : RA4 w a b c d Ta Tb Tc (upd done b) (fun j => if j = b then v else u j) W' := by
  obtain ⟨n1, _, _, n4, n5, _⟩ := ne4_all hn
  have e1 := upd_ne (done := done) n1
  have e2 := upd_ne (done := done) (Ne.symm n4)
  have e3 := upd_ne (done := done) (Ne.symm n5)
  refine ⟨fun _ => (h.g hc).trans g, fun k0 k1 => ?_, fun _ _ => by simpa using ht, fun k => ?_, fun k => ?_⟩
  · have := ha _ _ _ (h.ga (e1 ▸ k0) hc) g; simpa [n1] using this
  · rw [e2, hc] at k; cases k
  · rw [e3, hd] at k; cases k
theorem RA4.sc (hn : ne4 a b c d = true) (hd : done d = false) (ht : Tc v W') : RA4 w a b c d Ta Tb Tc (upd done c) (fun j => if j = c then v else u j) W' := by
  obtain ⟨_, _, _, _, _, n6⟩ := ne4_all hn
  have e3 := upd_ne (done := done) (Ne.symm n6)
  refine ⟨fun k => ?_, fun _ k => ?_, fun _ k => ?_, fun _ => by simpa using ht, fun k => ?_⟩
  · rw [upd_self] at k; cases k
  · rw [upd_self] at k; cases k
  · rw [upd_self] at k; cases k
  · rw [e3, hd] at k; cases k
theorem RA4.sd (hn : ne4 a b c d = true) (hc : done c = true) (h : RA4 w a b c d Ta Tb Tc done u W) : RA4 w a b c d Ta Tb Tc (upd done d) (fun j => if j = d then u c else u j) W := by
  obtain ⟨_, _, _, _, _, n6⟩ := ne4_all hn
  have e3 := upd_ne (done := done) n6
  refine ⟨fun k => ?_, fun _ k => ?_, fun _ k => ?_, fun _ => ?_, fun _ => ?_⟩
  · rw [e3, hc] at k; cases k
  · rw [e3, hc] at k; cases k
  · rw [e3, hc] at k; cases k
  · simpa [n6] using h.gc hc
  · simp [n6]
end
/-- how many there are -/
theorem flatN_len {α : Type} {f : Nat → List α} {k : Nat} : ∀ {n : Nat}, (∀ h, h < n → (f h).length ≤ k) → (flatN f n).length ≤ n * k := by
  intro n
  induction n with
  | zero => intro _; simp [flatN]
  | succ n ih =>
    intro h
    have h1 := ih (fun i hi => h i (by omega))
    have h2 := h n (by omega)
    simp only [flatN, List.length_append]
    rw [Nat.add_mul]; omega
theorem allF_len {nh : Nat} {hope : List Int → Bool} (h4 : nh ≤ 4) : ∀ (m : Nat) (xs : List Int), (allF nh hope m xs).length ≤ 4 ^ m := by
  intro m
  induction m with
  | zero =>
    intro xs
    unfold allF
    split <;> simp
  | succ m ih =>
    intro xs
    unfold allF
    split
    · simp
    · have h1 := flatN_len (f := fun h : Nat => allF nh hope m (xs ++ [(h : Int)])) (k := 4 ^ m) (n := nh) (fun h _ => ih _)
      have h2 := Nat.mul_le_mul_right (4 ^ m) h4
      rw [Nat.pow_succ]; omega
theorem pow_le {m : Nat} (h : m ≤ 5) : 4 ^ m ≤ 1024 := by
  have : m = 0 ∨ m = 1 ∨ m = 2 ∨ m = 3 ∨ m = 4 ∨ m = 5 := by omega
  rcases this with rfl | rfl | rfl | rfl | rfl | rfl <;> decide
theorem all_hope {nh : Nat} {hope : List Int → Bool} {m : Nat} {xs : List Int} (h : hope xs = true) : allF nh hope m xs = [] := by
  cases m <;> simp [allF, h]
theorem all_in {nh : Nat} {hope : List Int → Bool} {m : Nat} {xs : List Int} (h : hope xs = false) : allF nh hope (m + 1) xs = flatN (fun h => allF nh hope m (xs ++ [(h : Int)])) nh := by
  simp [allF, h]
theorem all_leaf {nh : Nat} {hope : List Int → Bool} {xs : List Int} (h : hope xs = false) : allF nh hope 0 xs = [xs] := by
  simp [allF, h]
theorem Try.bs38_1 (a : Option Addr) (n c : Nat) (w : World) : (Instr.buildSlice 38 1 #[(0, .slice a n c)]).run Try.prog w = .ok (.slice (some ⟨w.heap.size, 0, none⟩) 1 1) (w.alloc (.cells #[.slice a n c] 34)) := by kernel_rfl
/-- one row that a call makes of a slice -/
theorem rw_one {W : World} {B b c : Nat} {a : Option Addr} {xs : List Int} (h : W.heap[b]? = some (.cells #[.slice a xs.length c] 34)) (hB : B ≤ b) (hi : Ints W a xs.length xs) (hn : ∀ ad, a = some ad → ad.block < b) : RwAt W B (.slice (some ⟨b, 0, none⟩) 1 1) [⟨xs, a, c⟩] :=
  ⟨⟨rfl, .inr ⟨b, 1, #[.slice a xs.length c], rfl, hB, h, Nat.le_refl _, by unfold maxLen; decide, rfl, rfl⟩⟩, fun x hx => by simp at hx; subst hx; exact hi, fun x hx ad e => by
    simp at hx; subst hx
    have h1 := hn ad e
    have h2 := (Array.getElem?_eq_some_iff.1 h).1
    exact ⟨fun e2 => by simp [Value.ownBlock] at e2; omega, by omega⟩⟩
end
section
set_option linter.unusedVariables false
open Go.RowKit
section
variable {α : Type}
theorem foldR_sorted {β : Type} (f : β → (Int × Int) × α) : ∀ (A : List β) (s : List ((Int × Int) × α)), Sorted s → Sorted (A.foldl (fun s x => insR s (f x)) s) := by
  intro A
  induction A with
  | nil => intro s h; exact h
  | cons a A ih => intro s h; exact ih _ (insR_sorted h _)
/-- what stands first behind an insertion -/
theorem insR_head {s : List ((Int × Int) × α)} (hs : Sorted s) (x : (Int × Int) × α) : (insR s x)[0]? = match s[0]? with | none => some x | some y => if ltK x.1 y.1 then some x else some y := by
  unfold insR
  rw [insAt_get posR_le]
  cases hy : s[0]? with
  | none =>
    have h0 : s.length = 0 := by rw [List.getElem?_eq_none_iff] at hy; omega
    have h1 : posR s x.1 s.length = 0 := by have := posR_le (l := s) (k := x.1) (n := s.length); omega
    rw [h1]; simp
  | some y =>
    have h1 := posR_iff hs (k := x.1) hy
    cases e : ltK x.1 y.1 with
    | true =>
      have h2 := h1.1 e
      rw [show posR s x.1 s.length = 0 by omega]; simp [e]
    | false =>
      have h2 : ¬ posR s x.1 s.length ≤ 0 := fun h => by rw [h1.2 h] at e; cases e
      rw [if_pos (by omega)]; simp [e, hy]
end
theorem srtK_snoc (key : List Int → Int × Int) (l : List (List Int)) (x : List Int) : srtK key (l ++ [x]) = insR (srtK key l) (key x, x) := by
  unfold srtK; rw [List.foldl_append]; rfl
theorem srtK_sorted (key : List Int → Int × Int) (l : List (List Int)) : Sorted (srtK key l) := foldR_sorted (fun x => (key x, x)) l [] nil_sorted
/-- the best one so far is b -/
def hdC (p : Pb) (E : List BegE) (i b : Nat) : Prop := (i = 0 ∧ b = 0) ∨ (0 < i ∧ ∃ x, E[b]? = some x ∧ (srtK (keyC p) ((E.take i).map BegE.xs))[0]? = some (keyC p x.xs, x.xs))
section
variable {p : Pb} {E : List BegE} {i b : Nat} {x y : BegE}
theorem hd_next (hx : E[i]? = some x) : (E.take (i + 1)).map BegE.xs = (E.take i).map BegE.xs ++ [x.xs] := by
  have hi : i < E.length := (List.getElem?_eq_some_iff.1 hx).1
  rw [List.take_add_one, hx]; simp
theorem keyC_lt {a c : List Int} : ltK (keyC p a) (keyC p c) = decide (bndV p a < bndV p c) := by
  unfold ltK keyC; simp
theorem hd_lt (h : hdC p E i b) (hx : E[i]? = some x) (hy : E[b]? = some y) (hlt : bndV p x.xs < bndV p y.xs) : hdC p E (i + 1) i := by
  refine .inr ⟨by omega, x, hx, ?_⟩
  rw [hd_next hx, srtK_snoc, insR_head (srtK_sorted _ _)]
  rcases h with ⟨h1, h2⟩ | ⟨h1, z, hz, hs⟩
  · subst h1 h2; rw [hx] at hy; injection hy with hy; subst hy; omega
  · rw [hy] at hz; injection hz with hz; subst hz
    rw [hs]
    simp only [keyC_lt, decide_eq_true hlt, if_true]
theorem hd_ge (h : hdC p E i b) (hx : E[i]? = some x) (hy : E[b]? = some y) (hge : ¬ bndV p x.xs < bndV p y.xs) : hdC p E (i + 1) b := by
  refine .inr ⟨by omega, y, hy, ?_⟩
  rw [hd_next hx, srtK_snoc, insR_head (srtK_sorted _ _)]
  rcases h with ⟨h1, h2⟩ | ⟨h1, z, hz, hs⟩
  · subst h1 h2; rw [hx] at hy; injection hy with hy; subst hy
    simp [srtK]
  · rw [hy] at hz; injection hz with hz; subst hz
    rw [hs]
    simp only [keyC_lt, decide_eq_false hge, Bool.false_eq_true, if_false]
theorem hd_end (h : hdC p E E.length b) (h0 : 0 < E.length) (hy : E[b]? = some y) : (srtK (keyC p) (E.map BegE.xs))[0]? = some (keyC p y.xs, y.xs) := by
  rcases h with ⟨h1, _⟩ | ⟨_, z, hz, hs⟩
  · omega
  · rw [hy] at hz; injection hz with hz; subst hz
    rw [List.take_length] at hs; exact hs
end
/-- what is in the search's list -/
theorem mem_all {p : Pb} {hope : List Int → Bool} : ∀ (m : Nat) (xs : List Int), HosOk p xs → ∀ x ∈ allF p.nh hope m xs, HosOk p x ∧ x.length = xs.length + m ∧ hope x = false := by
  intro m
  induction m with
  | zero =>
    intro xs h x hx
    unfold allF at hx
    split at hx
    · simp at hx
    · simp at hx; subst hx; rename_i hh; exact ⟨h, rfl, by cases e : hope x with | true => exact absurd e hh | false => rfl⟩
  | succ m ih =>
    intro xs h x hx
    unfold allF at hx
    split at hx
    · simp at hx
    · obtain ⟨k, hk, hx⟩ := flatN_mem.1 hx
      obtain ⟨h1, h2, h3⟩ := ih _ (h.app hk) x hx
      exact ⟨h1, by simp at h2; omega, h3⟩
theorem mem_allP {p : Pb} {x : List Int} (h : x ∈ allP p) : HosOk p x ∧ x.length = p.nt ∧ hopeB p (tim p) x = false := by
  obtain ⟨h1, h2, h3⟩ := mem_all p.nt [] HosOk.nil x h
  exact ⟨h1, by simpa using h2, h3⟩
/-- the first plan, its cost, and whether there is one -/
def firR (p : Pb) : List Int × Int × Bool := match srtK (keyC p) (allP p) with
  | [] => ([], 0, false)
  | y :: _ => (y.2, y.1.2, true)
theorem fir_0 {p : Pb} {E : List BegE} (hE : E.map BegE.xs = allP p) (h : E.length = 0) : firR p = ([], 0, false) := by
  have : E = [] := List.eq_nil_of_length_eq_zero h
  subst this
  unfold firR
  rw [← hE]; rfl
theorem fir_1 {p : Pb} {E : List BegE} {x : BegE} (hE : E.map BegE.xs = allP p) (h : (srtK (keyC p) (E.map BegE.xs))[0]? = some (keyC p x.xs, x.xs)) : firR p = (x.xs, bndV p x.xs, true) := by
  unfold firR
  rw [← hE]
  cases hs : srtK (keyC p) (E.map BegE.xs) with
  | nil => rw [hs] at h; simp at h
  | cons y t => rw [hs] at h; simp at h; subst h; rfl
theorem best_no {p : Pb} (h : chkE p = 0) (k : (firR p).2.2 = false) : bestR p = ([], 0, 3) := by
  unfold bestR; rw [if_neg (by rw [h]; decide)]
  unfold firR at k
  cases hs : srtK (keyC p) (allP p) with
  | nil => rfl
  | cons y t => rw [hs] at k; cases k
theorem best_yes {p : Pb} (h : chkE p = 0) (k : (firR p).2.2 = true) : bestR p = ((firR p).1, (firR p).2.1, 0) := by
  unfold bestR; rw [if_neg (by rw [h]; decide)]
  unfold firR at k ⊢
  cases hs : srtK (keyC p) (allP p) with
  | nil => rw [hs] at k; cases k
  | cons y t => rfl
theorem Ints.nilZ (w : World) : Ints w none ([] : List Int).length [] := ⟨rfl, by decide, fun j hj => by simp at hj⟩
end
section
set_option linter.unusedVariables false
open Go.RowKit
section
variable {w W W' : World} {a b c d e f i : Nat} {Ta Tb Tc Td Te : Value → World → Prop} {done : Nat → Bool} {u : Nat → Value} {v : Value}
end
end
section
set_option linter.unusedVariables false
open Go.RowKit
section
variable {cb : Nat} {s : Int} {O Kp : Nat → Prop} {W W' : World}
end
end
section
set_option linter.unusedVariables false
open Go.RowKit
/-- the leaves from a beginning on: 1: hopeless; 2: too dear -/
def lvsF (nh : Nat) (hope dear : List Int → Bool) : Nat → List Int → List (List Int × Int)
  | 0, xs => if hope xs then [(xs, 1)] else if dear xs then [(xs, 2)] else []
  | m + 1, xs => if hope xs then [(xs, 1)] else if dear xs then [(xs, 2)] else flatN (fun h => lvsF nh hope dear m (xs ++ [(h : Int)])) nh
section
variable {nh m : Nat} {hope dear : List Int → Bool} {xs : List Int} {s : List (List Int × Int)}
theorem lvs_h (h : hope xs = true) : lvsF nh hope dear m xs = [(xs, 1)] := by cases m <;> simp [lvsF, h]
theorem lvs_d (h : hope xs = false) (k : dear xs = true) : lvsF nh hope dear m xs = [(xs, 2)] := by cases m <;> simp [lvsF, h, k]
theorem lvs_0 (h : hope xs = false) (k : dear xs = false) : lvsF nh hope dear 0 xs = [] := by simp [lvsF, h, k]
theorem lvs_n (h : hope xs = false) (k : dear xs = false) : lvsF nh hope dear (m + 1) xs = flatN (fun h => lvsF nh hope dear m (xs ++ [(h : Int)])) nh := by simp [lvsF, h, k]
theorem pow4_pos : 1 ≤ 4 ^ m := Nat.pow_pos (by decide)
theorem lvs_len (h4 : nh ≤ 4) : (lvsF nh hope dear m xs).length ≤ 4 ^ m := by
  induction m generalizing xs with
  | zero =>
    unfold lvsF
    split
    · simp
    · split <;> simp
  | succ m ih =>
    have hp := pow4_pos (m := m + 1)
    unfold lvsF
    split
    · simpa using hp
    · split
      · simpa using hp
      · have h1 := flatN_len (f := fun h : Nat => lvsF nh hope dear m (xs ++ [(h : Int)])) (k := 4 ^ m) (n := nh) (fun h _ => ih)
        have h2 := Nat.mul_le_mul_right (4 ^ m) h4
        rw [Nat.pow_succ]; omega
/-- a round of the search -/
def prvF (hope dear : List Int → Bool) (s : List (List Int × Int)) (xs : List Int) : List (List Int × Int) × Bool × Bool :=
  if hope xs then (s ++ [(xs, 1)], true, decide (s.length + 1 ≤ 5000)) else if dear xs then (s ++ [(xs, 2)], false, decide (s.length + 1 ≤ 5000)) else (s, true, decide (s.length ≤ 5000))
theorem prv_h (h : hope xs = true) : prvF hope dear s xs = (s ++ [(xs, 1)], true, decide (s.length + 1 ≤ 5000)) := by simp [prvF, h]
theorem prv_d (h : hope xs = false) (k : dear xs = true) : prvF hope dear s xs = (s ++ [(xs, 2)], false, decide (s.length + 1 ≤ 5000)) := by simp [prvF, h, k]
theorem prv_n (h : hope xs = false) (k : dear xs = false) : prvF hope dear s xs = (s, true, decide (s.length ≤ 5000)) := by simp [prvF, h, k]
theorem prv_law (h4 : nh ≤ 4) : ∀ (m : Nat) (xs : List Int) (s : List (List Int × Int)), s.length + 4 ^ m ≤ 5000 → visF nh hope (prvF hope dear) m xs s = (s ++ lvsF nh hope dear m xs, true) := by
  intro m
  induction m with
  | zero =>
    intro xs s hs
    rw [show (4 : Nat) ^ 0 = 1 from rfl] at hs
    unfold visF
    cases h : hope xs with
    | true => rw [prv_h h, lvs_h h]; simp; omega
    | false =>
      cases k : dear xs with
      | true => rw [prv_d h k, lvs_d h k]; simp; omega
      | false => rw [prv_n h k, lvs_0 h k]; simp; omega
  | succ m ih =>
    intro xs s hs
    have hp := pow4_pos (m := m)
    rw [Nat.pow_succ] at hs
    unfold visF
    cases h : hope xs with
    | true => rw [prv_h h, lvs_h h]; simp; omega
    | false =>
      cases k : dear xs with
      | true => rw [prv_d h k, lvs_d h k]; simp; omega
      | false =>
        rw [prv_n h k, lvs_n h k]
        simp only [decide_eq_true (show s.length ≤ 5000 by omega), if_true, Bool.false_or, Bool.not_true, Bool.false_eq_true, if_false]
        have key : ∀ n, n ≤ nh → visN (fun h s => visF nh hope (prvF hope dear) m (xs ++ [(h : Int)]) s) n s = (s ++ flatN (fun h => lvsF nh hope dear m (xs ++ [(h : Int)])) n, true) := by
          intro n
          induction n with
          | zero => intro _; simp [visN, flatN]
          | succ n ihn =>
            intro hn
            have hf := flatN_len (f := fun h : Nat => lvsF nh hope dear m (xs ++ [(h : Int)])) (k := 4 ^ m) (n := n) (fun h _ => lvs_len h4)
            have hm : (n + 1) * 4 ^ m ≤ 4 * 4 ^ m := Nat.mul_le_mul_right _ (by omega)
            rw [Nat.add_mul] at hm
            unfold visN
            rw [ihn (by omega)]
            simp only [if_true]
            rw [ih _ _ (by rw [List.length_append]; omega), List.append_assoc]
            rfl
        exact key nh (Nat.le_refl _)
end
/-- what no plan of the search needs to be looked at -/
def dearP (p : Pb) (xs : List Int) : Bool := decide ((bestR p).2.2 = 0) && decide ((bestR p).2.1 ≤ bndV p xs)
def cstR (p : Pb) : Int := if (firR p).2.2 then (firR p).2.1 else 1099511627776
theorem dear_eq {p : Pb} (h : chkE p = 0) : (fun xs => decide (cstR p ≤ bndV p xs)) = dearP p := by
  funext xs
  have hb := bnd_bd (chk_ok h) (xs := xs)
  unfold dearP cstR
  cases k : (firR p).2.2 with
  | false => rw [best_no h k]; simp; omega
  | true => rw [best_yes h k]; simp
/-- the leaves -/
def prvL (p : Pb) : List (List Int × Int) := if chkE p = 0 then lvsF p.nh (hopeB p (tim p)) (dearP p) p.nt [] else []
theorem prv_0 {p : Pb} (h : ¬ chkE p = 0) : prvL p = [] := if_neg h
theorem prv_1 {p : Pb} (h : chkE p = 0) : prvL p = lvsF p.nh (hopeB p (tim p)) (dearP p) p.nt [] := if_pos h
theorem prv_vis {p : Pb} (hsm : p.nt ≤ 5 ∧ p.nh ≤ 4) : visF p.nh (hopeB p (tim p)) (prvF (hopeB p (tim p)) (dearP p)) p.nt [] [] = (lvsF p.nh (hopeB p (tim p)) (dearP p) p.nt [], true) := by
  have h := pow_le hsm.1
  rw [prv_law hsm.2 p.nt [] [] (by simp; omega)]; rfl
theorem prv_len {p : Pb} (hsm : p.nt ≤ 5 ∧ p.nh ≤ 4) {dear : List Int → Bool} : (lvsF p.nh (hopeB p (tim p)) dear p.nt []).length ≤ 1024 :=
  Nat.le_trans (lvs_len hsm.2) (pow_le hsm.1)

/-- a leaf and where it lies -/
structure LfE where
  b : BegE
  why : Int
def stripL (E : List LfE) : List (List Int × Int) := E.map fun x => (x.b.xs, x.why)
def lfsV (E : List LfE) : List Value := E.flatMap fun x => [.slice x.b.a x.b.xs.length x.b.c, .int .i64 x.why]
theorem stripL_len (E : List LfE) : (stripL E).length = E.length := by simp [stripL]
theorem stripL_app (E F : List LfE) : stripL (E ++ F) = stripL E ++ stripL F := by simp [stripL]
theorem lfs_len (E : List LfE) : (lfsV E).length = E.length * 2 := by
  unfold lfsV
  induction E with
  | nil => rfl
  | cons x L ih => simp only [List.flatMap_cons, List.length_append, ih, List.length_cons, List.length_nil]; omega
theorem lfs_app (L M : List LfE) : lfsV (L ++ M) = lfsV L ++ lfsV M := by unfold lfsV; rw [List.flatMap_append]
theorem lfs_get {L : List LfE} {i : Nat} {x : LfE} (h : L[i]? = some x) : (lfsV L)[i * 2]? = some (.slice x.b.a x.b.xs.length x.b.c) ∧ (lfsV L)[i * 2 + 1]? = some (.int .i64 x.why) := by
  have hi : i < L.length := (List.getElem?_eq_some_iff.1 h).1
  have h1 : lfsV L = lfsV (L.take i) ++ lfsV (L.drop i) := by rw [← lfs_app, List.take_append_drop]
  have hl : (lfsV (L.take i)).length = i * 2 := by rw [lfs_len, List.length_take, Nat.min_eq_left (by omega)]
  have h2 : L.drop i = x :: L.drop (i + 1) := by
    rw [List.drop_eq_getElem_cons hi]
    rw [(List.getElem?_eq_some_iff.1 h).2]
  rw [h1, h2]
  constructor
  · rw [List.getElem?_append_right (by omega), hl]; simp [lfsV]
  · rw [List.getElem?_append_right (by omega), hl]; simp [lfsV]
/-- leaves, to be read -/
def LfAt (W : World) (a : Option Addr) (E : List LfE) : Prop := ∀ i x, E[i]? = some x → ∃ ad, a = some ad ∧ W.cell? (ad.add (i * 2)) = some (.slice x.b.a x.b.xs.length x.b.c) ∧ W.cell? ((ad.add (i * 2)).add 1) = some (.int .i64 x.why) ∧ Ints W x.b.a x.b.xs.length x.b.xs
theorem LfAt.gr {W W' : World} {a : Option Addr} {E : List LfE} (h : LfAt W a E) (g : Gr W W') : LfAt W' a E := fun i x hx => by
  obtain ⟨ad, h1, h2, h4, h3⟩ := h i x hx
  exact ⟨ad, h1, (g.cell (lt_cell h2)).trans h2, (g.cell (lt_cell h4)).trans h4, h3.gr g⟩
theorem LfAt.nil (W : World) (a : Option Addr) : LfAt W a [] := fun i x hx => by simp at hx
theorem lf_own {W : World} {B e c : Nat} {a : Option Addr} {E : List LfE} (h : OwnR W B e 2 (.slice a E.length c) E.length (lfsV E)) (hi : ∀ y ∈ E, Ints W y.b.a y.b.xs.length y.b.xs) : LfAt W a E := fun i x hx => by
  have hl : i < E.length := (List.getElem?_eq_some_iff.1 hx).1
  obtain ⟨g, L, rfl, _⟩ := h.row (by omega)
  have hO := h.ownP (val := fun j => (lfsV E)[j]?.getD undef) (fun j u hu => by rw [hu]; rfl)
  obtain ⟨k1, k2⟩ := lfs_get hx
  have c1 := hO.cell (k := i * 2) (by omega)
  have c2 := hO.cell (k := i * 2 + 1) (by omega)
  simp only [k1, k2, Option.getD_some] at c1 c2
  refine ⟨_, rfl, ?_, ?_, hi x (List.mem_of_getElem? hx)⟩
  · rw [addr_add0]; exact c1
  · rw [addr_add0, Y.addr_add]; exact c2
end
section
set_option linter.unusedVariables false
open Go.RowKit
theorem Try.new31 (w : World) : (Instr.alloc 31 true (.tuple #[])).run Try.prog w = .ok (.pointer (some ⟨w.heap.size, 0, none⟩)) (w.alloc (.cells #[.int .i64 0] 31)) := by kernel_rfl
theorem Try.agg31 (w : World) : (isAgg 31).run Try.prog w = .ok false w := by kernel_rfl
theorem Try.siz31 (w : World) : (sizeOf 31).run Try.prog w = .ok 1 w := by kernel_rfl
theorem Try.bd49 (a : Option Addr) (n c : Nat) (y : Int) (w : World) : (Instr.build 49 #[(0, .slice a n c), (1, .int .i64 y)]).run Try.prog w = .ok (.agg #[.slice a n c, .int .i64 y]) w := by kernel_rfl
theorem Try.bs45_1 (a : Option Addr) (n c : Nat) (y : Int) (w : World) : (Instr.buildSlice 45 1 #[(0, .agg #[.slice a n c, .int .i64 y])]).run Try.prog w = .ok (.slice (some ⟨w.heap.size, 0, none⟩) 1 1) (w.alloc (.cells #[.slice a n c, .int .i64 y] 49)) := by kernel_rfl
theorem Y.rcc2 {P : Program} {A : Act} {n : Nat} {L : List (Nat × Value)} {D : List Deferred} {W : World} {fn : Func} {s t : Nat} {ty ty2 : TypeId} {p q : Addr} {v x : Value} (F : Fr A n L D) (hr : fn.results = #[.cell s ty, .cell t ty2]) (hA : (isAgg ty).run P W = .ok false W) (hB : (isAgg ty2).run P W = .ok false W)
    (hp : lookS L s = some (.pointer (some p))) (hq : lookS L t = some (.pointer (some q))) (hv : W.cell? p = some v) (hx : W.cell? q = some x) : (results fn A.tmps).run P W = .ok (.tuple #[v, x]) W := by
  have e := F.look hp
  have e2 := F.look hq
  simp [results, hr, e, e2, go_sem, Instr.loadAt, loadVar, Instr.sureAddr, hA, hB, hv, hx]
theorem ownP_1 {W : World} {b : Nat} {t : TypeId} {v : Value} (h : W.heap[b]? = some (.cells #[v] t)) : OwnP W b 1 (fun _ => v) := (ownP_bx (vs := [v]) h).congr (fun k hk => by
  have hk1 : k < 1 := hk
  obtain rfl : k = 0 := by omega
  rfl)
def PrvO (ob r2 r3 : Nat) (v : Value) (b : Nat) : Prop := b = ob ∨ b = r2 ∨ b = r3 ∨ v.ownBlock = some b
def PrvP (E : List LfE) (b : Nat) : Prop := ∃ x ∈ E, ∃ ad, x.b.a = some ad ∧ ad.block = b
/-- the cell with the leaves, the cells of the results, the leaves -/
structure PrvAt (W : World) (ob r2 r3 B : Nat) (v : Value) (E : List LfE) : Prop where
  o : OwnP W ob 1 (fun _ => v)
  c2 : OwnP W r2 1 (fun _ => .slice none 0 0)
  c3 : OwnP W r3 1 (fun _ => .int .i64 0)
  r : OwnR W B 49 2 v E.length (lfsV E)
  b : ∀ x ∈ E, BegAt W B x.b.a x.b.c x.b.xs
  n : ∀ x ∈ E, ∀ ad, x.b.a = some ad → v.ownBlock ≠ some ad.block
  lt : ob < B ∧ r2 < B ∧ r3 < B
  ne : ob ≠ r2 ∧ ob ≠ r3 ∧ r2 ≠ r3
  BW : B ≤ W.heap.size
section
variable {W W' : World} {ob r2 r3 B : Nat} {v : Value} {E : List LfE}
theorem PrvAt.gr (h : PrvAt W ob r2 r3 B v E) (g : Gr W W') : PrvAt W' ob r2 r3 B v E :=
  ⟨h.o.gr g, h.c2.gr g, h.c3.gr g, h.r.gr g, fun x hx => (h.b x hx).gr g, h.n, h.lt, h.ne, Nat.le_trans h.BW g.size⟩
theorem PrvAt.only {S : Nat → Prop} (h : PrvAt W ob r2 r3 B v E) (g : Only S W W') (h1 : ∀ b, PrvO ob r2 r3 v b → ¬ S b) (h2 : ∀ b, PrvP E b → ¬ S b) : PrvAt W' ob r2 r3 B v E :=
  ⟨h.o.only g (h1 _ (.inl rfl)), h.c2.only g (h1 _ (.inr (.inl rfl))), h.c3.only g (h1 _ (.inr (.inr (.inl rfl)))), h.r.only g (fun b e => h1 b (.inr (.inr (.inr e)))), fun x hx => (h.b x hx).only g (fun ad e => h2 _ ⟨x, hx, ad, e, rfl⟩), h.n, h.lt, h.ne, Nat.le_trans h.BW g.size⟩
theorem PrvAt.olt (h : PrvAt W ob r2 r3 B v E) : ∀ b, PrvO ob r2 r3 v b ∨ PrvP E b → b < W.heap.size := by
  rintro b ((rfl | rfl | rfl | e) | ⟨x, hx, ad, e, rfl⟩)
  · exact h.o.lt
  · exact h.c2.lt
  · exact h.c3.lt
  · exact (h.r.ge e).2
  · exact ((h.b x hx).ge ad e).2
/-- one more leaf: the row has grown, the cell is not stored yet -/
theorem PrvAt.push {v2 : Value} {x : LfE} (h : PrvAt W ob r2 r3 B v E) (hb : BegAt W B x.b.a x.b.c x.b.xs) (hn : ∀ ad, x.b.a = some ad → v.ownBlock ≠ some ad.block) (hO : OwnR W' B 49 2 v2 (E.length + 1) (lfsV E ++ [.slice x.b.a x.b.xs.length x.b.c, .int .i64 x.why]))
    (hon : Only (fun b => v.ownBlock = some b) W W') (hat : v2.ownBlock = v.ownBlock ∨ v2.ownBlock = some W.heap.size) : PrvAt (W'.setCell ⟨ob, 0, none⟩ v2) ob r2 r3 B v2 (E ++ [x]) := by
  have hs := Y.set_only W' ob 0 v2
  obtain ⟨l1, l2, l3⟩ := h.lt
  obtain ⟨n1, n2, n3⟩ := h.ne
  have hv : ∀ b, v.ownBlock = some b → B ≤ b := fun b e => (h.r.ge e).1
  have hv2 : ∀ b, v2.ownBlock = some b → B ≤ b := fun b e => (hO.ge e).1
  have hx : ∀ y ∈ E ++ [x], BegAt W B y.b.a y.b.c y.b.xs ∧ ∀ ad, y.b.a = some ad → v.ownBlock ≠ some ad.block := fun y hy => by
    rcases List.mem_append.1 hy with hy | hy
    · exact ⟨h.b y hy, h.n y hy⟩
    · simp at hy; subst hy; exact ⟨hb, hn⟩
  refine ⟨((h.o.only hon (fun e => by have := hv _ e; omega)).set v2).congr (fun k hk => if_pos (by omega)), (h.c2.only hon (fun e => by have := hv _ e; omega)).only hs (fun e => n1 e.symm), (h.c3.only hon (fun e => by have := hv _ e; omega)).only hs (fun e => n2 e.symm), ?_, fun y hy => ?_, fun y hy ad e => ?_, h.lt, h.ne, Nat.le_trans h.BW (Nat.le_trans hon.size hs.size)⟩
  · have hO2 := hO.only hs (fun b e e2 => by have := hv2 b e; omega)
    rw [List.length_append, lfs_app]
    exact hO2
  · refine ((hx y hy).1.only hon (fun ad e k => (hx y hy).2 ad e k)).only hs (fun ad e k => ?_)
    have := ((hx y hy).1.ge ad e).1; omega
  · intro k
    rcases hat with h3 | h3
    · rw [h3] at k; exact (hx y hy).2 ad e k
    · rw [h3] at k; injection k with k
      have := ((hx y hy).1.ge ad e).2; omega
end
/-- what holds between two rounds -/
def PrvK (ob r2 r3 B : Nat) (s : List (List Int × Int)) (O Kp : Nat → Prop) (W : World) : Prop :=
  ∃ v E, stripL E = s ∧ PrvAt W ob r2 r3 B v E ∧ O = PrvO ob r2 r3 v ∧ Kp = PrvP E ∧ E.length ≤ 5000 ∧ (∀ b, Kp b → B + 2 ≤ b)
section
variable {W W' : World} {ob r2 r3 B : Nat} {s : List (List Int × Int)} {O Kp : Nat → Prop}
theorem PrvK.lt (h : PrvK ob r2 r3 B s O Kp W) : ∀ b, O b ∨ Kp b → b < W.heap.size := by
  obtain ⟨v, E, hs, hR, rfl, rfl, hm, hl⟩ := h
  exact hR.olt
theorem PrvK.gr (h : PrvK ob r2 r3 B s O Kp W) (g : Gr W W') : PrvK ob r2 r3 B s O Kp W' := by
  obtain ⟨v, E, hs, hR, h1, h2, hm, hl⟩ := h
  exact ⟨v, E, hs, hR.gr g, h1, h2, hm, hl⟩
theorem PrvK.only {Yb : Nat → Prop} (h : PrvK ob r2 r3 B s O Kp W) (hY : ∀ b, Yb b → b < B) (hO : ∀ b, O b → Yb b ∨ B + 2 ≤ b) (g : Only (fun b => b = B + 1) W W') : PrvK ob r2 r3 B s O Kp W' := by
  obtain ⟨v, E, hs, hR, h1, h2, hm, hl⟩ := h
  refine ⟨v, E, hs, hR.only g (fun b hb e => ?_) (fun b hb e => ?_), h1, h2, hm, hl⟩
  · rcases hO b (h1 ▸ hb) with k | k
    · have := hY b k; omega
    · omega
  · have := hl b (h2 ▸ hb); omega
theorem PrvK.start (h1 : OwnP W ob 1 (fun _ => .slice none 0 0)) (h2 : OwnP W r2 1 (fun _ => .slice none 0 0)) (h3 : OwnP W r3 1 (fun _ => .int .i64 0)) (ne : ob ≠ r2 ∧ ob ≠ r3 ∧ r2 ≠ r3) : PrvK ob r2 r3 W.heap.size [] (fun b => b = ob ∨ b = r2 ∨ b = r3) (fun _ => False) W :=
  ⟨.slice none 0 0, [], rfl, ⟨h1, h2, h3, OwnR.nil _ _ _ _, fun x hx => (by cases hx), fun x hx => (by cases hx), ⟨h1.lt, h2.lt, h3.lt⟩, ne, Nat.le_refl _⟩, by
    funext b; simp [PrvO, Value.ownBlock], by
    funext b; simp [PrvP], Nat.zero_le _, fun b e => e.elim⟩
end
theorem dear_1 {p : Pb} {xs : List Int} (h : (bestR p).2.2 = 0) (k : (bestR p).2.1 ≤ bndV p xs) : dearP p xs = true := by unfold dearP; rw [decide_eq_true h, decide_eq_true k]; rfl
theorem dear_2 {p : Pb} {xs : List Int} (h : ¬ (bestR p).2.2 = 0) : dearP p xs = false := by unfold dearP; rw [decide_eq_false h]; rfl
theorem dear_3 {p : Pb} {xs : List Int} (k : ¬ (bestR p).2.1 ≤ bndV p xs) : dearP p xs = false := by unfold dearP; rw [decide_eq_false k, Bool.and_false]
end
section
open Go.RowKit

theorem Ints.nil0 (w : World) : Ints w none 0 [] := ⟨rfl, by decide, fun j hj => by omega⟩
set_option maxRecDepth 100000 in
set_option maxHeartbeats 2000000 in
theorem best_any (p : Pb) (ta ha ba la : Option Addr) (tc hc bc lc : Nat) (w : World) (hP : PbAt w p ta ha ba la tc hc bc lc) :
  Calls Try.prog 22 #[.agg #[.slice ta p.nt tc, .slice ha p.nh hc, .slice ba p.nb bc, .slice la p.nl lc]] w fun e w' => ∃ a c, e = .returned (.tuple #[.slice a (bestR p).1.length c, Vi (bestR p).2.1, Vi (bestR p).2.2]) ∧ Ints w' a (bestR p).1.length (bestR p).1 ∧ ((bestR p).1.length = 0 → a = none ∧ c = 0) ∧ Gr w w' := by
 have G := Gr.refl w
 have hpt := hP.t
 have hph := hP.h
 have hpb := hP.b
 have hpl := hP.l
 have hplen := hP.len
 obtain ⟨hn1, hn2, hn3, hn4⟩ := hplen
 have hcp1 := hpt.cap
 have hcp2 := hph.cap
 have hcp3 := hpb.cap
 have hcp4 := hpl.cap
 refine Y.calls 33 Try.func22 rfl rfl ?_
 intro ac F0
 have F : Fr ac 33 [(0, .agg #[.slice ta p.nt tc, .slice ha p.nh hc, .slice ba p.nb bc, .slice la p.nl lc])] := F0.sub _
 clear F0
 refine Y.sl ?_
 have hgs3 : w.heap.size ≤ w.heap.size := G.size
 refine Y.pv F (X.box rfl (F.ev 0 (.agg #[.slice ta p.nt tc, .slice ha p.nh hc, .slice ba p.nb bc, .slice la p.nl lc])) X.bx) ?_;clear F ac;intro ac F
 have hgs5 : w.heap.size ≤ w.heap.size := G.size
 obtain ⟨w6, hw_, g, hb, hbl, hC2⟩ := Y.bxd (RCells.nil w) #[.slice ta p.nt tc, .slice ha p.nh hc, .slice ba p.nb bc, .slice la p.nl lc] 27;rw [hw_];clear hw_
 replace G := G.trans g
 have hC := hC2
 clear hC2
 replace hpt := hpt.gr g
 replace hph := hph.gr g
 replace hpb := hpb.gr g
 replace hpl := hpl.gr g
 have hsz4 := hbl
 clear g hb hbl
 refine Y.pv3 F (X.assign rfl (X.kc (.slice none 0 0) rfl)) (fun _ F=>X.assign rfl (X.kc (Vi 0) rfl)) (fun _ F=>X.assign rfl (X.kc (Vi 0) rfl)) ?_;clear F ac;intro ac F
 refine Y.nt F [(1, Vp w.heap.size)] ?_;clear F ac;intro ac F
 refine Y.seq ?_
 refine Y.sl ?_
 refine Y.pv F (X.load rfl (F.ev 1 (Vp w.heap.size)) (X.ldN (Try.agg27 _) (Try.siz27 _) (Y.atz (⟨w.heap.size, 0, none⟩) (Y.AtFrom.cons (hC.at 0 rfl) (Y.AtFrom.cons (hC.at 1 rfl) (Y.AtFrom.cons (hC.at 2 rfl) (Y.AtFrom.cons (hC.at 3 rfl) (Y.AtFrom.nil _ _ _)))))))) ?_;clear F ac;intro ac F
 refine Y.pc F 18 (X.a1 (F.ev 7 (.agg #[.slice ta p.nt tc, .slice ha p.nh hc, .slice ba p.nb bc, .slice la p.nl lc]))) Try.func18 (check_any p ta ha ba la tc hc bc lc w6 (hP.gr G)) ?_
 clear F ac
 rintro e w7 ⟨rfl, g⟩
 refine ⟨_, rfl, ?_⟩
 intro ac F
 replace G := G.trans g
 replace hC := hC.gr g
 replace hpt := hpt.gr g
 replace hph := hph.gr g
 replace hpb := hpb.gr g
 replace hpl := hpl.gr g
 clear g
 refine Y.pv F (X.assign rfl (F.ev 8 (Vi (chkE p)))) ?_;clear F ac;intro ac F
 refine Y.nt F [(1, Vp w.heap.size), (5, Vi (chkE p))] ?_;clear F ac;intro ac F
 refine Y.sg F [(1, Vp w.heap.size), (5, Vi (chkE p)), (10, .bool ((chkE p : Int) != 0))] (Y.pv F (X.move rfl (F.ev 5 (Vi (chkE p)))) fun ac F=>Y.pv F (X.binop rfl (F.ev 9 (Vi (chkE p))) (X.kc (Vi 0) rfl) (X.neqI Try.underlying31 rfl)) fun ac F=>Y.fin F) ?_;clear F ac;intro ac F
 cases h8 : ((chkE p : Int) != 0) with
 | false =>
  try rw [h8] at F
  have h8p : (chkE p : Int) = 0 := by simpa using h8
  have hck : chkE p = 0 := by omega
  have hp := chk_ok hck
  refine Y.condF (F.ev 10 (.bool false)) ?_
  refine Y.skip ?_
  refine X.thenN ?_
  refine Y.sl ?_
  refine Y.pv F (X.load rfl (F.ev 1 (Vp w.heap.size)) (X.ldN (Try.agg27 _) (Try.siz27 _) (Y.atz (⟨w.heap.size, 0, none⟩) (Y.AtFrom.cons (hC.at 0 rfl) (Y.AtFrom.cons (hC.at 1 rfl) (Y.AtFrom.cons (hC.at 2 rfl) (Y.AtFrom.cons (hC.at 3 rfl) (Y.AtFrom.nil _ _ _)))))))) ?_;clear F ac;intro ac F
  refine Y.pc F 64 (X.a3 (F.ev 12 (.agg #[.slice ta p.nt tc, .slice ha p.nh hc, .slice ba p.nb bc, .slice la p.nl lc])) (X.kc (Vi 1) rfl) (X.kc (.func (.func 65) #[] #[]) rfl)) Try.func64 (first_any p ta ha ba la tc hc bc lc 1 65 #[] stillF w7 (hP.gr G) hp (by decide) (enters_of Try.func65 (by kernel_rfl) rfl) (fun W xs a c g hi hl hx => still_any a xs.length c W)) ?_
  clear F ac
  have hfG := G
  rintro e w9 ⟨rb, kv, lv, L, B, rfl, hRk, hV, hrb, hBw, hLm, g⟩
  refine ⟨_, rfl, ?_⟩
  intro ac F
  replace G := G.trans g
  replace hC := hC.gr g
  replace hpt := hpt.gr g
  replace hph := hph.gr g
  replace hpb := hpb.gr g
  replace hpl := hpl.gr g
  clear g
  rw [still_law hp (by decide)] at hV
  injection hV with hV
  replace hV := hV.symm
  obtain ⟨ka, kc, rfl⟩ := hRk.k.form
  obtain ⟨la9, lc9, rfl⟩ := hRk.l.form
  refine Y.pv F (X.assign rfl (F.ev 13 (Vp rb))) ?_;clear F ac;intro ac F
  refine Y.nt F [(6, Vp rb)] ?_;clear F ac;intro ac F
  refine Y.seq ?_
  refine Y.sl ?_
  refine Y.pv3 F (X.move rfl (F.ev 6 (Vp rb))) (fun _ F=>Y.nilC rfl (F.ev 14 (Vp rb))) (fun _ F=>X.field rfl (F.ev 15 (Vp rb)) (X.fld Try.underlying91 rfl (Try.siz38 _) rfl rfl)) ?_;clear F ac;intro ac F
  replace hC := hC.append (show RCells w9 (bcells rb [Vi (1 : Nat), .slice ka L.length kc, .slice la9 L.length lc9] 0) from (RCells.cons (hRk.own.cell (k := 0) (by decide)) (RCells.cons (hRk.own.cell (k := 1) (by decide)) (RCells.cons (hRk.own.cell (k := 2) (by decide)) (RCells.nil _)))))
  refine Y.pv3 F (X.load rfl (F.ev 16 (.pointer (some ⟨rb, 2, none⟩))) (X.ld1 (Try.agg38 _) (hC.at 6 rfl))) (fun _ F=>X.len1 Try.underlying38 rfl (F.ev 17 (.slice la9 L.length lc9))) (fun _ F=>X.binop rfl (F.ev 18 (Vi L.length)) (X.kc (Vi 0) rfl) (X.eqlI Try.underlying3 rfl)) ?_;clear F ac;intro ac F
  refine Y.nt F [(6, Vp rb), (19, .bool ((L.length : Int) == 0))] ?_;clear F ac;intro ac F
  cases h10 : ((L.length : Int) == 0) with
  | false =>
   try rw [h10] at F
   have h10p : ¬ (L.length : Int) = 0 := by simpa using h10
   obtain ⟨y, hy⟩ : ∃ y, L[0]? = some y := ⟨_, List.getElem?_eq_getElem (by omega)⟩
   obtain ⟨g9, Lr, rfl, -⟩ := hRk.k.row (by omega)
   obtain ⟨g8, Lr8, rfl, -⟩ := hRk.l.row (by omega)
   have hkc := keys_cell hRk.k rfl hy
   have hlc := begs_cell hRk.l rfl hy
   have hyb := hRk.b y (List.mem_of_getElem? hy)
   replace hC := hC.append (show RCells w9 ([(⟨g9, 0 * 2, none⟩, Vi y.1.1), (⟨g9, 0 * 2 + 1, none⟩, Vi y.1.2), (Ad g8 0, .slice y.2.a y.2.xs.length y.2.c)]) from (RCells.cons hkc.1 (RCells.cons hkc.2 (RCells.cons hlc (RCells.nil _)))))
   refine Y.condF (F.ev 19 (.bool false)) ?_
   refine Y.skip ?_
   refine X.thenN ?_
   refine Y.seq ?_
   refine Y.region F [some (Vp rb), some (Vp rb), some (.pointer (some ⟨rb, 2, none⟩)), some (.slice (some ⟨g8, 0, none⟩) L.length lc9), some (Vp g8), some (.slice y.2.a y.2.xs.length y.2.c), some (Vp rb), some (Vp rb), some (.pointer (some ⟨rb, 1, none⟩)), some (.slice (some ⟨g9, 0, none⟩) L.length kc), some (.pointer (some ⟨g9, 0 * 2, none⟩)), some (.pointer (some ⟨g9, 0 * 2 + 1, none⟩)), some (Vi y.1.2), some (.slice y.2.a y.2.xs.length y.2.c), some (Vi y.1.2), some (Vi 0)] [] rfl ⟨by kernel_rfl, of_decide_eq_true (by kernel_rfl), by kernel_rfl, by kernel_rfl, by kernel_rfl⟩ ⟨?_, ?_, ?_, ?_, ?_, ?_, ?_, ?_, ?_, ?_, ?_, ?_, ?_, ?_, ?_, ?_, trivial⟩ ?_
   ·intro ac done u W Sx hR
    exact X.vl (X.move rfl (Sx.ev 6 (Vp rb))) hR.st0
   ·intro ac done u W Sx hR
    exact X.vl (Y.nilC rfl (Sx.ev 20 (Vp rb))) hR.st0
   ·intro ac done u W Sx hR
    exact X.vl (X.field rfl (Sx.ev 21 (Vp rb)) (X.fld Try.underlying91 rfl (Try.siz38 _) rfl rfl)) hR.st0
   ·intro ac done u W Sx hR
    have g : Gr w9 W := hR.1
    exact X.vl (X.load rfl (Sx.ev 22 (.pointer (some ⟨rb, 2, none⟩))) (X.ld1 (Try.agg38 _) ((hC.gr g).at 6 rfl))) hR.st0
   ·intro ac done u W Sx hR
    exact X.vl (X.index rfl (Sx.ev 23 (.slice (some ⟨g8, 0, none⟩) L.length lc9)) (X.kc (Vi 0) rfl) (X.idx (k := 0) Try.underlying38 (Try.siz34 _) (by omega) (by omega) (addr_add0 _ _))) hR.st0
   ·intro ac done u W Sx hR
    have g : Gr w9 W := hR.1
    exact X.vl (X.load rfl (Sx.ev 24 (Vp g8)) (X.ld1 (Try.agg34 _) ((hC.gr g).at 9 rfl))) hR.st0
   ·intro ac done u W Sx hR
    exact X.vl (X.move rfl (Sx.ev 6 (Vp rb))) hR.st0
   ·intro ac done u W Sx hR
    exact X.vl (Y.nilC rfl (Sx.ev 26 (Vp rb))) hR.st0
   ·intro ac done u W Sx hR
    exact X.vl (X.field rfl (Sx.ev 27 (Vp rb)) (X.fld Try.underlying91 rfl (Try.siz89 _) rfl rfl)) hR.st0
   ·intro ac done u W Sx hR
    have g : Gr w9 W := hR.1
    exact X.vl (X.load rfl (Sx.ev 28 (.pointer (some ⟨rb, 1, none⟩))) (X.ld1 (Try.agg89 _) ((hC.gr g).at 5 rfl))) hR.st0
   ·intro ac done u W Sx hR
    exact X.vl (X.index rfl (Sx.ev 29 (.slice (some ⟨g9, 0, none⟩) L.length kc)) (X.kc (Vi 0) rfl) (X.idx (k := 0) Try.underlying89 (Try.siz92 _) (by omega) (by omega) (addr_add0 _ _))) hR.st0
   ·intro ac done u W Sx hR
    exact X.vl (X.index rfl (Sx.ev 30 (.pointer (some ⟨g9, 0 * 2, none⟩))) (X.kc (Vi 1) rfl) (Y.idxA (k := 1) Try.underlying92 (Try.siz3 _) (by decide) (by omega) (by omega) rfl)) hR.st0
   ·intro ac done u W Sx hR
    have g : Gr w9 W := hR.1
    exact X.vl (X.load rfl (Sx.ev 31 (.pointer (some ⟨g9, 0 * 2 + 1, none⟩))) (X.ld1 (Try.agg3 _) ((hC.gr g).at 8 rfl))) hR.st0
   ·intro ac done u W Sx hR
    exact X.vl (X.assign rfl (Sx.ev 25 (.slice y.2.a y.2.xs.length y.2.c))) hR.st0
   ·intro ac done u W Sx hR
    exact X.vl (X.assign rfl (Sx.ev 32 (Vi y.1.2))) hR.st0
   ·intro ac done u W Sx hR
    exact X.vl (X.assign rfl (X.kc (Vi 0) rfl)) hR.st0
   intro ac u w11 hs hd hl ho hR
   have g : Gr w9 w11 := hR.1
   replace F : Fr ac 33 [(2, .slice y.2.a y.2.xs.length y.2.c), (3, Vi y.1.2), (4, Vi 0)] := X.fr hs hd hl _ (by kernel_rfl)
   clear hs hd hl ho hR
   replace G := G.trans g
   replace hC := hC.gr g
   replace hpt := hpt.gr g
   replace hph := hph.gr g
   replace hpb := hpb.gr g
   replace hpl := hpl.gr g
   replace hRk := hRk.gr g
   clear g
   refine X.thenN ?_
   refine Y.ret ?_
   have hb := best_3 hck hV hy
   exact Y.ret0 (v := .tuple #[.slice y.2.a y.2.xs.length y.2.c, Vi y.1.2, Vi 0]) F (Y.rs3 F rfl (by kernel_rfl) (by kernel_rfl) (by kernel_rfl)) ⟨y.2.a, y.2.c, by rw [hb], by rw [hb]; exact (hRk.b y (List.mem_of_getElem? hy)).i, by rw [hb]; exact hyb.nil, G⟩
  | true =>
   try rw [h10] at F
   have h10p : (L.length : Int) = 0 := by simpa using h10
   refine Y.condT (F.ev 19 (.bool true)) ?_
   refine Y.sg F [(2, .slice none 0 0), (3, Vi 0), (4, Vi 3)] (Y.pv F (X.assign rfl (X.kc (.slice none 0 0) rfl)) fun ac F=>Y.pv F (X.assign rfl (X.kc (Vi 0) rfl)) fun ac F=>Y.pv F (X.assign rfl (X.kc (Vi 3) rfl)) fun ac F=>Y.fin F) ?_;clear F ac;intro ac F
   refine Y.ret ?_
   refine X.thenR ?_
   have hb := best_2 hck hV (by omega)
   exact Y.ret0 (v := .tuple #[.slice none 0 0, Vi 0, Vi 3]) F (Y.rs3 F rfl (by kernel_rfl) (by kernel_rfl) (by kernel_rfl)) ⟨none, 0, by rw [hb]; rfl, by rw [hb]; exact Ints.nil0 _, by rw [hb]; exact fun _ => ⟨rfl, rfl⟩, G⟩
 | true =>
  try rw [h8] at F
  have h8p : ¬ (chkE p : Int) = 0 := by simpa using h8
  refine Y.condT (F.ev 10 (.bool true)) ?_
  refine Y.sg F [(2, .slice none 0 0), (3, Vi 0), (4, Vi (chkE p))] (Y.pv F (X.move rfl (F.ev 5 (Vi (chkE p)))) fun ac F=>Y.pv F (X.assign rfl (X.kc (.slice none 0 0) rfl)) fun ac F=>Y.pv F (X.assign rfl (X.kc (Vi 0) rfl)) fun ac F=>Y.pv F (X.assign rfl (F.ev 11 (Vi (chkE p)))) fun ac F=>Y.fin F) ?_;clear F ac;intro ac F
  refine Y.ret ?_
  refine X.thenR ?_
  have hb := best_1 (p := p) (by omega)
  exact Y.ret0 (v := .tuple #[.slice none 0 0, Vi 0, Vi (chkE p)]) F (Y.rs3 F rfl (by kernel_rfl) (by kernel_rfl) (by kernel_rfl)) ⟨none, 0, by rw [hb]; rfl, by rw [hb]; exact Ints.nil0 _, by rw [hb]; exact fun _ => ⟨rfl, rfl⟩, G⟩
end
end Go.Proofs.Ytodedneanlekdaa
