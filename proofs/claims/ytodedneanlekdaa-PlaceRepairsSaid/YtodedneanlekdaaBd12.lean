/- Several texts of this claim in one file. (1) Contract: the first allowed plans. (2) The first allowed plans, without addresses: what the search finds. Nothing of the program is proved here. (3) All allowed plans, as rows in memory; regions that call twice and append. Nothing of the program is proved here. (4) The first allowed plan, by the reference. Nothing of the program is proved here. (5) Sorting by insertion into new rows: regions that make a row of three parts. Nothing of the program is proved here. (6) Counting the allowed plans. Nothing of the program is proved here. (7) Contracts: hosted and begun. (8) The plan that differs the least. Nothing of the program is proved here. -/
import Derived.Test.YtodedneanlekdaaBd11
import Derived.Test.YtodedneanlekdaaBd8
namespace Go.Proofs.Ytodedneanlekdaa
set_option linter.unusedSimpArgs false
set_option linter.unusedVariables false
section
open Go.RowKit

set_option maxRecDepth 100000 in
set_option maxHeartbeats 400000 in
theorem still_any (a : Option Addr) (n c : Nat) (w : World) :
  Calls Try.prog 65 #[.slice a n c] w fun e w' => e = .returned (.tuple #[Vi 0, .bool true]) ∧ Gr w w' := by
 have G := Gr.refl w
 refine Y.calls 4 Try.func65 rfl rfl ?_
 intro ac F0
 have F : Fr ac 4 [(0, .slice a n c)] := F0.sub _
 clear F0
 refine Y.sg F [] (Y.pv F (X.assign rfl (X.kc (Vi 0) rfl)) fun ac F=>Y.pv F (X.assign rfl (X.kc (.bool false) rfl)) fun ac F=>Y.fin F) ?_;clear F ac;intro ac F
 refine Y.sg F [(2, Vi 0), (3, .bool true)] (Y.pv F (X.assign rfl (X.kc (Vi 0) rfl)) fun ac F=>Y.pv F (X.assign rfl (X.kc (.bool true) rfl)) fun ac F=>Y.fin F) ?_;clear F ac;intro ac F
 refine Y.ret ?_
 exact Y.ret0 (v := .tuple #[Vi 0, .bool true]) F (Y.rs2 F rfl (by kernel_rfl) (by kernel_rfl)) ⟨rfl, G⟩
set_option maxRecDepth 100000 in
set_option maxHeartbeats 4000000 in
theorem first_any (p : Pb) (ta ha ba la : Option Addr) (tc hc bc lc : Nat) (most : Nat) (gf : FuncId) (caps : Array Value) (mv : List Int → Int × Bool) (w : World) (hP : PbAt w p ta ha ba la tc hc bc lc) (hp : PbOk p) (hm : 1 ≤ most ∧ most ≤ 100000) (eg : ∀ args w, (callFunc gf args).run Try.prog w = .ok (.enter gf args) w)
  (hmv : ∀ (W : World) (xs : List Int) (a : Option Addr) (c : Nat), Gr w W → Ints W a xs.length xs → xs.length ≤ p.nt → HosOk p xs → Calls Try.prog gf (#[.slice a xs.length c] ++ caps) W fun e W' => e = .returned (.tuple #[Vi (mv xs).1, .bool (mv xs).2]) ∧ Gr W W') :
  Calls Try.prog 64 #[.agg #[.slice ta p.nt tc, .slice ha p.nh hc, .slice ba p.nb bc, .slice la p.nl lc], Vi most, .func (.func gf) #[] caps] w fun e w' => ∃ rb kv lv L B, e = .returned (Vp rb) ∧ RkAt w' rb B most kv lv L ∧ visF p.nh (hopeB p (tim p)) (stF p most mv) p.nt [] [] = (strip L, true) ∧ w.heap.size ≤ rb ∧ w.heap.size ≤ B ∧ L.length ≤ most ∧ Gr w w' := by
 have G := Gr.refl w
 have hpt := hP.t
 have hph := hP.h
 have hpb := hP.b
 have hpl := hP.l
 have hplen := hP.len
 obtain ⟨hn1, hn2, hn3, hn4⟩ := hplen
 have hcp1 := hpt.cap
 have hcp2 := hph.cap
 have hcp3 := hpb.cap
 have hcp4 := hpl.cap
 refine Y.calls 57 Try.func64 rfl rfl ?_
 intro ac F0
 have F : Fr ac 57 [(0, .agg #[.slice ta p.nt tc, .slice ha p.nh hc, .slice ba p.nb bc, .slice la p.nl lc]), (1, Vi most), (2, .func (.func gf) #[] caps)] := F0.sub _
 clear F0
 refine Y.sl ?_
 have hgs3 : w.heap.size ≤ w.heap.size := G.size
 refine Y.pv F (X.box rfl (F.ev 0 (.agg #[.slice ta p.nt tc, .slice ha p.nh hc, .slice ba p.nb bc, .slice la p.nl lc])) X.bx) ?_;clear F ac;intro ac F
 have hgs5 : w.heap.size ≤ w.heap.size := G.size
 obtain ⟨w6, hw_, g, hb, hbl, hC2⟩ := Y.bxd (RCells.nil w) #[.slice ta p.nt tc, .slice ha p.nh hc, .slice ba p.nb bc, .slice la p.nl lc] 27;rw [hw_];clear hw_
 replace G := G.trans g
 have hC := hC2
 clear hC2
 replace hpt := hpt.gr g
 replace hph := hph.gr g
 replace hpb := hpb.gr g
 replace hpl := hpl.gr g
 have hsz4 := hbl
 clear g hb hbl
 have hgs7 : w.heap.size ≤ w6.heap.size := G.size
 refine Y.pv F (X.box rfl (F.ev 2 (.func (.func gf) #[] caps)) (Y.bx1 rfl)) ?_;clear F ac;intro ac F
 have hgs9 : w.heap.size ≤ w6.heap.size := G.size
 obtain ⟨w10, hw_, g, hb, hbl, hC2⟩ := Y.bxd hC #[.func (.func gf) #[] caps] 88;rw [hw_];clear hw_
 replace G := G.trans g
 replace hC := hC2
 clear hC2
 replace hpt := hpt.gr g
 replace hph := hph.gr g
 replace hpb := hpb.gr g
 replace hpl := hpl.gr g
 have hsz8 := hbl
 clear g hb hbl
 refine Y.pv F (X.assign rfl (X.kc (.pointer none) rfl)) ?_;clear F ac;intro ac F
 refine Y.nt F [(1, Vi most), (3, Vp w.heap.size), (5, Vp w6.heap.size)] ?_;clear F ac;intro ac F
 refine Y.sl ?_
 refine Y.pv3 F (X.move rfl (F.ev 1 (Vi most))) (fun _ F=>Y.bd rfl (X.b1 (F.ev 12 (Vi most))) (Try.bd91 _ _)) (fun _ F=>X.box rfl (F.ev 13 (.agg #[Vi most, .slice none 0 0, .slice none 0 0])) X.bx) ?_;clear F ac;intro ac F
 have g := Gr.alloc w10 (.cells #[Vi most, .slice none 0 0, .slice none 0 0] 91)
 have hb := heap_alloc_new w10 (.cells #[Vi most, .slice none 0 0, .slice none 0 0] 91)
 have hszw11 : w10.heap.size < (w10.alloc (.cells #[Vi most, .slice none 0 0, .slice none 0 0] 91)).heap.size := by simp
 have hgsw11 : w.heap.size ≤ w10.heap.size := G.size
 generalize w10.alloc (.cells #[Vi most, .slice none 0 0, .slice none 0 0] 91) = w11 at *
 replace G := G.trans g
 replace hC := hC.gr g
 replace hpt := hpt.gr g
 replace hph := hph.gr g
 replace hpb := hpb.gr g
 replace hpl := hpl.gr g
 have hVw11 : OwnP w11 w10.heap.size 3 (VL [Vi most, .slice none 0 0, .slice none 0 0]) := ownP_bx (vs := [Vi most, .slice none 0 0, .slice none 0 0]) hb
 clear g hb
 refine Y.pv F (Y.al rfl (Try.new86 _)) ?_;clear F ac;intro ac F
 refine Y.punit F (X.w0 rfl) rfl (X.store rfl (F.ev 7 (Vp w11.heap.size)) (F.ev 14 (Vp w10.heap.size)) (Y.stNew1 (Vp w10.heap.size) ((.pointer none)) (Try.siz86 _) rfl rfl)) ?_;clear F ac;intro ac F
 have hgs13 : w.heap.size ≤ w11.heap.size := G.size
 obtain ⟨w14, hw_, g, hb, hbl, hC2⟩ := Y.bxd hC #[Vp w10.heap.size] 86;rw [hw_];clear hw_
 replace G := G.trans g
 replace hC := hC2
 clear hC2
 replace hpt := hpt.gr g
 replace hph := hph.gr g
 replace hpb := hpb.gr g
 replace hpl := hpl.gr g
 replace hVw11 := hVw11.gr g
 have hsz12 := hbl
 clear g hb hbl
 refine Y.nt F [(3, Vp w.heap.size), (5, Vp w6.heap.size), (7, Vp w11.heap.size)] ?_;clear F ac;intro ac F
 refine Y.seq ?_
 refine Y.sl ?_
 refine Y.pv F (X.load rfl (F.ev 3 (Vp w.heap.size)) (X.ldN (Try.agg27 _) (Try.siz27 _) (Y.atz (⟨w.heap.size, 0, none⟩) (Y.AtFrom.cons (hC.at 0 rfl) (Y.AtFrom.cons (hC.at 1 rfl) (Y.AtFrom.cons (hC.at 2 rfl) (Y.AtFrom.cons (hC.at 3 rfl) (Y.AtFrom.nil _ _ _)))))))) ?_;clear F ac;intro ac F
 refine Y.pc F 69 (X.a1 (F.ev 15 (.agg #[.slice ta p.nt tc, .slice ha p.nh hc, .slice ba p.nb bc, .slice la p.nl lc]))) Try.func69 (nodes_any p ta ha ba la tc hc bc lc w14) ?_
 clear F ac
 have hpre9 := G.size
 rintro e w15 ⟨bn16, rfl, hbn9, hcn, g⟩
 refine ⟨_, rfl, ?_⟩
 intro ac F
 replace G := G.trans g
 replace hC := hC.gr g
 replace hpt := hpt.gr g
 replace hph := hph.gr g
 replace hpb := hpb.gr g
 replace hpl := hpl.gr g
 replace hVw11 := hVw11.gr g
 clear g
 replace hC := hC.append (show RCells w15 (bcells bn16 [.slice ta p.nt tc, .slice ha p.nh hc, .slice ba p.nb bc, .slice la p.nl lc] 0) from (RCells.cons (hcn.at 0 rfl) (RCells.cons (hcn.at 1 rfl) (RCells.cons (hcn.at 2 rfl) (RCells.cons (hcn.at 3 rfl) (RCells.nil _))))))
 refine Y.nt F [(3, Vp w.heap.size), (5, Vp w6.heap.size), (7, Vp w11.heap.size), (16, .func (.func 102) #[] #[Vp bn16])] ?_;clear F ac;intro ac F
 refine Y.block ?_
 have Gf0 := G
 replace F : Fr ac 57 [(3, Vp w.heap.size), (5, Vp w6.heap.size), (7, Vp w11.heap.size), (16, .func (.func 102) #[] #[Vp bn16])] := F.sub _
 have hgw := G.size
 have hCn : RCells w15 (PbC p ta ha ba la tc hc bc lc bn16) := (RCells.cons (hC.at 6 rfl) (RCells.cons (hC.at 7 rfl) (RCells.cons (hC.at 8 rfl) (RCells.cons (hC.at 9 rfl) (RCells.nil _)))))
 have hzl17 : bn16 < w15.heap.size := lt_cell (hC.at 6 rfl)
 have hzl18 : w.heap.size < w15.heap.size := lt_cell (hC.at 0 rfl)
 have hzl19 : w11.heap.size < w15.heap.size := lt_cell (hC.at 5 rfl)
 have hzl20 : w6.heap.size < w15.heap.size := lt_cell (hC.at 4 rfl)
 have hzy21 : w10.heap.size < w15.heap.size := hVw11.lt
 have hPb : ∀ W, Only (fun b => b = w10.heap.size) w15 W → PbAt W p ta ha ba la tc hc bc lc ∧ RCells W (PbC p ta ha ba la tc hc bc lc bn16) := fun W h => ⟨hP.gr (Y.Only.up G h (by omega)), hCn.only h (fun q hq e => by
  simp [PbC] at hq
  rcases hq with rfl | rfl | rfl | rfl <;> (first | omega | (simp only at e; omega)))⟩
 have hK0 := RkK.start (B := w15.heap.size) hVw11 (Nat.le_refl _) (by omega)
 have hCl := hC
 have Gl := G
 refine Y.ndRange (D := []) (p := p) (ta := ta) (ha := ha) (ba := ba) (la := la) (tc := tc) (hc := hc) (bc := bc) (lc := lc) (bp := bn16) F (by decide) (by decide) rfl rfl rfl rfl rfl rfl rfl (F.ev 16 _) hp (fun b => b = w10.heap.size) (fun b e => by first | omega | (first | omega | (simp only at e; omega))) hPb (stF p most mv) ([]) (RkK w10.heap.size w15.heap.size most) (fun b => b = w10.heap.size) (fun _ => False) hK0 (fun b e => by exact e) (fun s O Kp W h => h.lt) (fun s O Kp W W2 h g => h.gr g) (fun s O Kp W W2 h h2 g => h.only (fun b e => by first | omega | (first | omega | (simp only at e; omega))) h2 g) (fun _ _ => False) (fun _ _ _ h => h) ?_ ?_ ?_
 ·intro ss O Kp xs a c d b w22 ac hQ hK hOs hlen hx hBeg hdg hdO hdK haO had hD hbg hbd hbO hbK hab hN F
  clear G hC
  have hPW := (hPb w22 hQ).1
  have G := Gr.refl w22
  have hsw := hQ.size
  have hC : RCells w22 [(Ad w.heap.size 0, .slice ta p.nt tc), (Ad w.heap.size 1, .slice ha p.nh hc), (Ad w.heap.size 2, .slice ba p.nb bc), (Ad w.heap.size 3, .slice la p.nl lc), (Ad w6.heap.size 0, .func (.func gf) #[] caps), (Ad w11.heap.size 0, Vp w10.heap.size), (Ad bn16 0, .slice ta p.nt tc), (Ad bn16 1, .slice ha p.nh hc), (Ad bn16 2, .slice ba p.nb bc), (Ad bn16 3, .slice la p.nl lc), (Ad b 0, .slice a xs.length c), (Ad b 1, .bool (hopeB p (tim p) xs)), (Ad b 2, Vi (bndV p xs)), (Ad b 3, Vp d)] := (RCells.cons (hQ.cell (hCl.at 0 rfl) (by simp only; omega)) (RCells.cons (hQ.cell (hCl.at 1 rfl) (by simp only; omega)) (RCells.cons (hQ.cell (hCl.at 2 rfl) (by simp only; omega)) (RCells.cons (hQ.cell (hCl.at 3 rfl) (by simp only; omega)) (RCells.cons (hQ.cell (hCl.at 4 rfl) (by simp only; omega)) (RCells.cons (hQ.cell (hCl.at 5 rfl) (by simp only; omega)) (RCells.cons (hQ.cell (hCl.at 6 rfl) (by simp only; omega)) (RCells.cons (hQ.cell (hCl.at 7 rfl) (by simp only; omega)) (RCells.cons (hQ.cell (hCl.at 8 rfl) (by simp only; omega)) (RCells.cons (hQ.cell (hCl.at 9 rfl) (by simp only; omega)) hN))))))))))
  replace hpt := hPW.t
  replace hph := hPW.h
  replace hpb := hPW.b
  replace hpl := hPW.l
  replace F : Fr ac 57 [(3, Vp w.heap.size), (5, Vp w6.heap.size), (7, Vp w11.heap.size), (8, Vp b), (16, .func (.func 102) #[] #[Vp bn16]), (17, .agg #[.slice a xs.length c, .bool (hopeB p (tim p) xs), Vi (bndV p xs), Vp d])] := F.sub _
  obtain ⟨kv, lv, Lk, rfl, hRk, rfl, rfl, hLm, hlim⟩ := hK
  obtain ⟨ka, kc, rfl⟩ := hRk.k.form
  obtain ⟨la9, lc9, rfl⟩ := hRk.l.form
  have hR9 := hRk
  have Gf : Gr w w22 := Y.Only.up Gf0 hQ (by omega)
  refine Y.block ?_
  refine Y.sl ?_
  refine Y.pv3 F (X.load rfl (F.ev 5 (Vp w6.heap.size)) (X.ld1 (Try.agg88 _) (hC.at 4 rfl))) (fun _ F=>X.field rfl (F.ev 8 (Vp b)) (X.fld Try.underlying102 rfl (Try.siz34 _) rfl rfl)) (fun _ F=>X.load rfl (F.ev 20 (Vp b)) (X.ld1 (Try.agg34 _) (hC.at 10 rfl))) ?_;clear F ac;intro ac F
  refine Y.pcall F (X.w0 rfl) rfl (X.enter (F := gf) rfl (F.ev 19 (.func (.func gf) #[] caps)) (X.a1 (F.ev 21 (.slice a xs.length c))) (fun W => eg _ W)) (hmv w22 xs a c (Gf.trans G) (hBeg.gr G).i hlen hx) ?_
  clear F ac
  rintro e w23 ⟨rfl, g⟩
  refine ⟨_, rfl, ?_⟩
  intro ac F
  replace G := G.trans g
  replace hC := hC.gr g
  replace hpt := hpt.gr g
  replace hph := hph.gr g
  replace hpb := hpb.gr g
  replace hpl := hpl.gr g
  replace hD := hD.gr g
  replace hRk := hRk.gr g
  clear g
  refine Y.pv4 F (X.move rfl (F.ev 22 (.tuple #[Vi ((mv xs).1), .bool ((mv xs).2)]))) (fun _ F=>X.extract rfl (F.ev 18 (.tuple #[Vi ((mv xs).1), .bool ((mv xs).2)])) rfl) (fun _ F=>X.extract rfl (F.ev 18 (.tuple #[Vi ((mv xs).1), .bool ((mv xs).2)])) rfl) (fun _ F=>X.assign rfl (F.ev 23 (Vi ((mv xs).1)))) ?_;clear F ac;intro ac F
  refine Y.pv F (X.assign rfl (F.ev 24 (.bool ((mv xs).2)))) ?_;clear F ac;intro ac F
  refine Y.nt F [(3, Vp w.heap.size), (5, Vp w6.heap.size), (7, Vp w11.heap.size), (8, Vp b), (9, Vi ((mv xs).1)), (10, .bool ((mv xs).2))] ?_;clear F ac;intro ac F
  refine Y.sl ?_
  refine Y.pv4 F (X.move rfl (F.ev 9 (Vi ((mv xs).1)))) (fun _ F=>X.field rfl (F.ev 8 (Vp b)) (X.fld Try.underlying102 rfl (Try.siz3 _) rfl rfl)) (fun _ F=>X.load rfl (F.ev 26 (.pointer (some ⟨b, 2, none⟩))) (X.ld1 (Try.agg3 _) (hC.at 12 rfl))) (fun _ F=>Y.bd rfl (X.b2 (F.ev 25 (Vi ((mv xs).1))) (F.ev 27 (Vi (bndV p xs)))) (Try.bd92 _ _ _)) ?_;clear F ac;intro ac F
  refine Y.pv F (Y.al rfl (Try.new92 _)) ?_;clear F ac;intro ac F
  refine Y.punit F (X.w0 rfl) rfl (X.store rfl (F.ev 11 (Vp w23.heap.size)) (F.ev 28 (.agg #[Vi ((mv xs).1), Vi (bndV p xs)])) (Y.stNew [Vi ((mv xs).1), Vi (bndV p xs)] [Vi 0, Vi 0] (Try.siz92 _) rfl rfl)) ?_;clear F ac;intro ac F
  have hgs24 : w22.heap.size ≤ w23.heap.size := G.size
  obtain ⟨w25, hw_, g, hb, hbl, hC2⟩ := Y.bxd hC #[Vi ((mv xs).1), Vi (bndV p xs)] 92;rw [hw_];clear hw_
  replace G := G.trans g
  replace hC := hC2
  clear hC2
  replace hpt := hpt.gr g
  replace hph := hph.gr g
  replace hpb := hpb.gr g
  replace hpl := hpl.gr g
  replace hD := hD.gr g
  replace hRk := hRk.gr g
  clear g hb hbl
  refine Y.nt F [(3, Vp w.heap.size), (5, Vp w6.heap.size), (7, Vp w11.heap.size), (8, Vp b), (10, .bool ((mv xs).2)), (11, Vp w23.heap.size)] ?_;clear F ac;intro ac F
  refine Y.block ?_
  refine Y.sg F [(3, Vp w.heap.size), (5, Vp w6.heap.size), (7, Vp w11.heap.size), (8, Vp b), (10, .bool ((mv xs).2)), (11, Vp w23.heap.size), (29, .bool (hopeB p (tim p) xs))] (by
   refine Y.pv F (X.field rfl (F.ev 8 (Vp b)) (X.fld Try.underlying102 rfl (Try.siz4 _) rfl rfl)) fun ac F=>?_
   refine Y.pv F (X.load rfl (F.ev 30 (.pointer (some ⟨b, 1, none⟩))) (X.ld1 (Try.agg4 _) (hC.at 11 rfl))) fun ac F=>?_
   refine Y.pv F (X.assign rfl (F.ev 31 (.bool (hopeB p (tim p) xs)))) fun ac F=>?_
   exact Y.fin F) ?_;clear F ac;intro ac F
  cases h26 : hopeB p (tim p) xs with
  | false =>
   try rw [h26] at F
   refine Y.condF (F.ev 29 (.bool false)) ?_
   refine Y.sl ?_
   refine Y.pv3 F (X.move rfl (F.ev 10 (.bool ((mv xs).2)))) (fun _ F=>X.notB rfl (F.ev 33 (.bool ((mv xs).2))) rfl) (fun _ F=>X.move rfl (F.ev 34 (.bool (!((mv xs).2))))) ?_;clear F ac;intro ac F
   cases h27 : (mv xs).2 with
   | false =>
    try rw [h27] at F
    refine Y.ps F 2 35 true ?_;clear F ac;intro ac F
    refine Y.ps F 2 35 true ?_;clear F ac;intro ac F
    refine Y.ps F 2 35 true ?_;clear F ac;intro ac F
    refine Y.pv2 F (X.pickT rfl (F.ev 35 (.bool true)) (X.kc (.bool true) rfl)) (fun _ F=>X.assign rfl (F.ev 39 (.bool true))) ?_;clear F ac;intro ac F
    refine Y.nt F [(3, Vp w.heap.size), (5, Vp w6.heap.size), (7, Vp w11.heap.size), (8, Vp b), (11, Vp w23.heap.size), (32, .bool true)] ?_;clear F ac;intro ac F
    refine Y.condT (F.ev 32 (.bool true)) ?_
    refine Y.lit (by kernel_rfl) ?_
    refine Y.pv3 F (X.field rfl (F.ev 8 (Vp b)) (X.fld Try.underlying102 rfl (Try.siz100 _) rfl rfl)) (fun _ F=>X.load rfl (F.ev 40 (.pointer (some ⟨b, 3, none⟩))) (X.ld1 (Try.agg100 _) (hC.at 13 rfl))) (fun _ F=>Y.nilC rfl (F.ev 41 (Vp d))) ?_;clear F ac;intro ac F
    refine Y.punit F (X.w0 rfl) rfl (X.store rfl (F.ev 42 (Vp d)) (X.kc (.bool false) rfl) (hD.st1 (Try.siz4 _) rfl rfl (by decide))) ?_;clear F ac;intro ac F
    have hon := Y.set_only w25 d 0 (.bool false)
    have hD2 := (hD.set (k := 0) (.bool false)).congr (val' := fun _ => .bool false) (fun k hk => if_pos (by omega))
    generalize w25.setCell ⟨d, 0, none⟩ (.bool false) = w28 at *
    have hRk2 := hRk.only hon (fun b e h => by have h8 : b = d := h; subst h8; exact hdO e) (fun x hx2 ad e h => hdK ⟨x, hx2, ad, e, h⟩)
    have hO2 := ((G.only (fun x => RkO w10.heap.size (.slice ka Lk.length kc) (.slice la9 Lk.length lc9) x ∨ x = d)).trans (hon.mono' (fun i e => .inr e)))
    clear hRk hD G hC
    refine Y.nil ?_
    replace F : Fr ac 57 [(3, Vp w.heap.size), (5, Vp w6.heap.size), (7, Vp w11.heap.size)] := F.sub _
    refine X.blockN (X.blockN ?_)
    have est : stF p most mv (strip Lk) xs = _ := stF_c h26 (.inl h27)
    refine ⟨?_, ?_, ?_, ?_⟩
    ·exact hO2
    ·rw [est]; exact ⟨_, _, ⟨_, _, Lk, rfl, hRk2, rfl, rfl, hLm, hlim⟩, fun b e => .inl e⟩
    ·rw [est]; exact hD2
    ·rw [est]
   | true =>
    try rw [h27] at F
    refine Y.pg F 2 35 false (X.load rfl (F.ev 7 (Vp w11.heap.size)) (X.ld1 (Try.agg86 _) (hC.at 5 rfl))) ?_;clear F ac;intro ac F
    refine Y.pg F 2 35 false (X.load rfl (F.ev 11 (Vp w23.heap.size)) (X.ldN (Try.agg92 _) (Try.siz92 _) (Y.atz (⟨w23.heap.size, 0, none⟩) (Y.AtFrom.cons (hC.at 14 rfl) (Y.AtFrom.cons (hC.at 15 rfl) (Y.AtFrom.nil _ _ _)))))) ?_;clear F ac;intro ac F
    refine Y.pcall F (X.w1 rfl (F.yl (j := 2) (d := 35) (b := false) rfl (by kernel_rfl))) rfl (X.enter (F := 99) rfl (X.kc (.func (.func 99) #[] #[]) rfl) (X.a2 (F.ev 36 (Vp w10.heap.size)) (F.ev 37 (.agg #[Vi ((mv xs).1), Vi (bndV p xs)]))) (enters_of Try.func99 (by kernel_rfl) rfl _)) (full_any w10.heap.size w15.heap.size most ka la9 kc lc9 (mv xs).1 (bndV p xs) Lk w25 hRk hm (by omega)) ?_
    clear F ac
    rintro e w29 ⟨rfl, g⟩
    refine ⟨_, rfl, ?_⟩
    intro ac F
    replace G := G.trans g
    replace hC := hC.gr g
    replace hpt := hpt.gr g
    replace hph := hph.gr g
    replace hpb := hpb.gr g
    replace hpl := hpl.gr g
    replace hD := hD.gr g
    replace hRk := hRk.gr g
    clear g
    refine Y.pv2 F (X.pickF rfl (F.ev 35 (.bool false)) (F.ev 38 (.bool (fullR most Lk ((mv xs).1, bndV p xs))))) (fun _ F=>X.assign rfl (F.ev 39 (.bool (fullR most Lk ((mv xs).1, bndV p xs))))) ?_;clear F ac;intro ac F
    refine Y.nt F [(3, Vp w.heap.size), (5, Vp w6.heap.size), (7, Vp w11.heap.size), (8, Vp b), (11, Vp w23.heap.size), (32, .bool (fullR most Lk ((mv xs).1, bndV p xs)))] ?_;clear F ac;intro ac F
    cases h30 : fullR most Lk ((mv xs).1, bndV p xs) with
    | false =>
     try rw [h30] at F
     refine Y.condF (F.ev 32 (.bool false)) ?_
     refine Y.sg F [(3, Vp w.heap.size), (5, Vp w6.heap.size), (7, Vp w11.heap.size), (8, Vp b), (11, Vp w23.heap.size), (43, .bool ((xs.length : Int) == p.nt))] (by
      refine Y.pv F (X.field rfl (F.ev 8 (Vp b)) (X.fld Try.underlying102 rfl (Try.siz34 _) rfl rfl)) fun ac F=>?_
      refine Y.pv F (X.load rfl (F.ev 44 (Vp b)) (X.ld1 (Try.agg34 _) (hC.at 10 rfl))) fun ac F=>?_
      refine Y.pv F (X.len1 Try.underlying34 rfl (F.ev 45 (.slice a xs.length c))) fun ac F=>?_
      refine Y.pv F (X.field rfl (F.ev 3 (Vp w.heap.size)) (X.fld Try.underlying27 rfl (Try.siz22 _) rfl rfl)) fun ac F=>?_
      refine Y.pv F (X.load rfl (F.ev 47 (Vp w.heap.size)) (X.ld1 (Try.agg22 _) (hC.at 0 rfl))) fun ac F=>?_
      refine Y.pv F (X.len1 Try.underlying22 rfl (F.ev 48 (.slice ta p.nt tc))) fun ac F=>?_
      refine Y.pv F (X.binop rfl (F.ev 46 (Vi xs.length)) (F.ev 49 (Vi p.nt)) (X.eqlI Try.underlying3 rfl)) fun ac F=>?_
      refine Y.pv F (X.assign rfl (F.ev 50 (.bool ((xs.length : Int) == p.nt)))) fun ac F=>?_
      exact Y.fin F) ?_;clear F ac;intro ac F
     cases h31 : ((xs.length : Int) == p.nt) with
     | false =>
      try rw [h31] at F
      have h31p : ¬ (xs.length : Int) = p.nt := by simpa using h31
      refine Y.condF (F.ev 43 (.bool false)) ?_
      refine Y.skip ?_
      refine X.blockN (X.blockN ?_)
      have est : stF p most mv (strip Lk) xs = _ := stF_n h26 h27 ((strip_full _ _ _).trans h30) (by omega)
      refine ⟨?_, ?_, ?_, ?_⟩
      ·exact G.only _
      ·rw [est]; exact ⟨_, _, ⟨_, _, Lk, rfl, hRk, rfl, rfl, hLm, hlim⟩, fun b e => .inl e⟩
      ·rw [est]; exact hD
      ·rw [est]
     | true =>
      try rw [h31] at F
      have h31p : (xs.length : Int) = p.nt := by simpa using h31
      refine Y.condT (F.ev 43 (.bool true)) ?_
      refine Y.lit (by kernel_rfl) ?_
      refine Y.pv4 F (X.load rfl (F.ev 7 (Vp w11.heap.size)) (X.ld1 (Try.agg86 _) (hC.at 5 rfl))) (fun _ F=>X.load rfl (F.ev 11 (Vp w23.heap.size)) (X.ldN (Try.agg92 _) (Try.siz92 _) (Y.atz (⟨w23.heap.size, 0, none⟩) (Y.AtFrom.cons (hC.at 14 rfl) (Y.AtFrom.cons (hC.at 15 rfl) (Y.AtFrom.nil _ _ _)))))) (fun _ F=>X.field rfl (F.ev 8 (Vp b)) (X.fld Try.underlying102 rfl (Try.siz34 _) rfl rfl)) (fun _ F=>X.load rfl (F.ev 53 (Vp b)) (X.ld1 (Try.agg34 _) (hC.at 10 rfl))) ?_;clear F ac;intro ac F
      refine Y.pc F 100 (X.a3 (F.ev 51 (Vp w10.heap.size)) (F.ev 52 (.agg #[Vi ((mv xs).1), Vi (bndV p xs)])) (F.ev 54 (.slice a xs.length c))) Try.func100 (put_s w10.heap.size w15.heap.size most ka la9 kc lc9 (mv xs).1 (bndV p xs) Lk xs a c w29 hRk hm (by omega) hLm ((hBeg.lower (by omega)).gr G) haO) ?_
      clear F ac
      rintro e w32 ⟨rfl, kv2, lv2, hRk2, hOn, hOo⟩
      refine ⟨_, rfl, ?_⟩
      intro ac F
      have hO2 : Only (fun x => RkO w10.heap.size (.slice ka Lk.length kc) (.slice la9 Lk.length lc9) x ∨ x = d) w22 w32 := (G.only _).trans (hOn.mono' (fun i e => .inl e))
      have hD2 := hD.only hOn hdO
      have hSz := G.size
      clear hRk G
      refine Y.nil ?_
      replace F : Fr ac 57 [(3, Vp w.heap.size), (5, Vp w6.heap.size), (7, Vp w11.heap.size)] := F.sub _
      refine X.blockN (X.blockN ?_)
      have est : stF p most mv (strip Lk) xs = _ := stF_p h26 h27 ((strip_full _ _ _).trans h30) (by omega)
      refine ⟨?_, ?_, ?_, ?_⟩
      ·exact hO2
      ·rw [est]
       refine ⟨_, _, ⟨kv2, lv2, _, strip_put _ _ _, hRk2, rfl, rfl, put_len hLm, fun b hb => ?_⟩, fun b e => (hOo b e).imp (fun z => z) (fun e => Nat.le_trans hSz e)⟩
       obtain ⟨x, hx2, ad, e, rfl⟩ := hb
       rcases put_mem hx2 with rfl | hx2
       ·exact (hBeg.ge ad e).1
       ·exact hlim _ ⟨x, hx2, ad, e, rfl⟩
      ·rw [est]; exact hD2
      ·rw [est]
    | true =>
     try rw [h30] at F
     refine Y.condT (F.ev 32 (.bool true)) ?_
     refine Y.lit (by kernel_rfl) ?_
     refine Y.pv3 F (X.field rfl (F.ev 8 (Vp b)) (X.fld Try.underlying102 rfl (Try.siz100 _) rfl rfl)) (fun _ F=>X.load rfl (F.ev 40 (.pointer (some ⟨b, 3, none⟩))) (X.ld1 (Try.agg100 _) (hC.at 13 rfl))) (fun _ F=>Y.nilC rfl (F.ev 41 (Vp d))) ?_;clear F ac;intro ac F
     refine Y.punit F (X.w0 rfl) rfl (X.store rfl (F.ev 42 (Vp d)) (X.kc (.bool false) rfl) (hD.st1 (Try.siz4 _) rfl rfl (by decide))) ?_;clear F ac;intro ac F
     have hon := Y.set_only w29 d 0 (.bool false)
     have hD2 := (hD.set (k := 0) (.bool false)).congr (val' := fun _ => .bool false) (fun k hk => if_pos (by omega))
     generalize w29.setCell ⟨d, 0, none⟩ (.bool false) = w33 at *
     have hRk2 := hRk.only hon (fun b e h => by have h8 : b = d := h; subst h8; exact hdO e) (fun x hx2 ad e h => hdK ⟨x, hx2, ad, e, h⟩)
     have hO2 := ((G.only (fun x => RkO w10.heap.size (.slice ka Lk.length kc) (.slice la9 Lk.length lc9) x ∨ x = d)).trans (hon.mono' (fun i e => .inr e)))
     clear hRk hD G hC
     refine Y.nil ?_
     replace F : Fr ac 57 [(3, Vp w.heap.size), (5, Vp w6.heap.size), (7, Vp w11.heap.size)] := F.sub _
     refine X.blockN (X.blockN ?_)
     have est : stF p most mv (strip Lk) xs = _ := stF_c h26 (.inr ((strip_full _ _ _).trans h30))
     refine ⟨?_, ?_, ?_, ?_⟩
     ·exact hO2
     ·rw [est]; exact ⟨_, _, ⟨_, _, Lk, rfl, hRk2, rfl, rfl, hLm, hlim⟩, fun b e => .inl e⟩
     ·rw [est]; exact hD2
     ·rw [est]
  | true =>
   try rw [h26] at F
   refine Y.condT (F.ev 29 (.bool true)) ?_
   refine Y.skip ?_
   refine X.blockN (X.blockN ?_)
   have est : stF p most mv (strip Lk) xs = _ := stF_h h26
   refine ⟨?_, ?_, ?_, ?_⟩
   ·exact G.only _
   ·rw [est]; exact ⟨_, _, ⟨_, _, Lk, rfl, hRk, rfl, rfl, hLm, hlim⟩, fun b e => .inl e⟩
   ·rw [est]; exact hD
   ·rw [est]
 ·intro ss O Kp w34 ac hV hQ hK hOs hmk F
  clear G hC
  have hmk := hmk
  have hsw := hQ.size
  have G : Gr w w34 := (Y.Only.up Gl hQ (by omega))
  have hC := (RCells.cons (hQ.cell (hCl.at 0 rfl) (by simp only; omega)) (RCells.cons (hQ.cell (hCl.at 1 rfl) (by simp only; omega)) (RCells.cons (hQ.cell (hCl.at 2 rfl) (by simp only; omega)) (RCells.cons (hQ.cell (hCl.at 3 rfl) (by simp only; omega)) (RCells.cons (hQ.cell (hCl.at 4 rfl) (by simp only; omega)) (RCells.cons (hQ.cell (hCl.at 5 rfl) (by simp only; omega)) (RCells.cons (hQ.cell (hCl.at 6 rfl) (by simp only; omega)) (RCells.cons (hQ.cell (hCl.at 7 rfl) (by simp only; omega)) (RCells.cons (hQ.cell (hCl.at 8 rfl) (by simp only; omega)) (RCells.cons (hQ.cell (hCl.at 9 rfl) (by simp only; omega)) (RCells.nil _)))))))))))
  replace hpt := (hP.t).gr G
  replace hph := (hP.h).gr G
  replace hpb := (hP.b).gr G
  replace hpl := (hP.l).gr G
  obtain ⟨kv, lv, Lk, hst, hRk, hOe, hKe, hLm, hlim⟩ := hK
  refine X.blockN (X.thenN ?_)
  refine Y.sg F [(6, Vp w10.heap.size)] (Y.pv F (X.load rfl (F.ev 7 (Vp w11.heap.size)) (X.ld1 (Try.agg86 _) (hC.at 5 rfl))) fun ac F=>Y.pv F (X.assign rfl (F.ev 56 (Vp w10.heap.size))) fun ac F=>Y.fin F) ?_;clear F ac;intro ac F
  refine Y.ret ?_
  refine ret_mark (v := Vp w10.heap.size) F hmk (Y.r1 F) (fun W2 hW2 => ?_)
  refine ⟨w10.heap.size, kv, lv, Lk, w15.heap.size, rfl, ?_, by rw [hst]; exact hV, by omega, by omega, hLm, ?_⟩
  ·refine hRk.only hW2 (fun b e h => ?_) (fun x hx2 ad e h => ?_)
   ·rcases hOs b (hOe ▸ e) with h9 | h9 <;> first | omega | (simp only at h9 h; omega)
   ·have h9 := hlim ad.block (hKe ▸ ⟨x, hx2, ad, e, rfl⟩)
    try simp only at h
    omega
  ·exact Y.Only.up G hW2 (by omega)
 ·exact fun _ _ _ _ h => h.elim
end
section
set_option linter.unusedVariables false
open Go.RowKit
/-- the allowed plans, by their hosts -/
def allP (p : Pb) : List (List Int) := allF p.nh (hopeB p (tim p)) p.nt []
/-- them in order of the keys; of equal ones what comes first is first -/
def srtK (key : List Int → Int × Int) (l : List (List Int)) : List ((Int × Int) × List Int) := l.foldl (fun s x => insR s (key x, x)) []
def keyC (p : Pb) (xs : List Int) : Int × Int := (0, bndV p xs)
/-- the search finds the first ones -/
theorem first_law {p : Pb} (hp : PbOk p) {most : Nat} (h0 : 0 < most) (mv : List Int → Int × Bool)
    (hok : ∀ (xs : List Int) (h : Nat), xs.length < p.nt → HosOk p xs → h < p.nh → (mv (xs ++ [(h : Int)])).2 = true → (mv xs).2 = true)
    (hmo : ∀ (xs : List Int) (h : Nat), xs.length < p.nt → HosOk p xs → h < p.nh → (mv xs).1 ≤ (mv (xs ++ [(h : Int)])).1) :
    visF p.nh (hopeB p (tim p)) (stF p most mv) p.nt [] [] = ((srtK (fun xs => ((mv xs).1, bndV p xs)) ((allP p).filter fun xs => (mv xs).2)).take most, true) := by
  have h := vis_first (nh := p.nh) (most := most) (hope := hopeB p (tim p)) (fun m xs => xs.length + m = p.nt ∧ HosOk p xs) (fun xs => (mv xs).2) (fun xs => ((mv xs).1, bndV p xs)) (stF p most mv)
    (fun m xs h hv hh _ => ⟨by have := hv.1; simp; omega, hv.2.app hh⟩) (fun m xs h hv hh hk => hok xs h (by have := hv.1; omega) hv.2 hh hk)
    (fun m xs h hv hh _ => by
      have h1 := hmo xs h (by have := hv.1; omega) hv.2 hh
      have h2 := bnd_mono hp (xs := xs) (h := (h : Int))
      rw [ltK_false]; simp only; omega)
    (fun m s xs hv hh => stF_h hh) (fun m s xs hv hh hk => stF_c hh hk) (fun s xs hv hh hk hf => stF_p hh hk hf (by have := hv.1; omega))
    (fun m s xs hv hh hk hf => stF_n hh hk hf (by have := hv.1; omega)) (m := p.nt) (xs := []) ⟨by simp, HosOk.nil⟩ []
  rw [h]
  have h2 := (fold_put h0 (fun xs : List Int => (((mv xs).1, bndV p xs), xs)) ((allP p).filter fun xs => (mv xs).2) [] nil_sorted).1
  rw [List.take_nil] at h2
  unfold allP at h2 ⊢
  unfold srtK
  rw [h2]
def stillF : List Int → Int × Bool := fun _ => (0, true)
theorem still_law {p : Pb} (hp : PbOk p) {most : Nat} (h0 : 0 < most) : visF p.nh (hopeB p (tim p)) (stF p most stillF) p.nt [] [] = ((srtK (keyC p) (allP p)).take most, true) := by
  have h := first_law hp h0 stillF (fun _ _ _ _ _ _ => rfl) (fun _ _ _ _ _ => Int.le_refl _)
  rw [h]
  congr 2
  rw [show (allP p).filter (fun xs => (stillF xs).2) = allP p from List.filter_eq_self.2 (fun _ _ => rfl)]
  rfl
/-- the plan, its cost and the error -/
def bestR (p : Pb) : List Int × Int × Int :=
  if chkE p ≠ 0 then ([], 0, chkE p) else match srtK (keyC p) (allP p) with
    | [] => ([], 0, 3)
    | y :: _ => (y.2, y.1.2, 0)
theorem best_1 {p : Pb} (h : ¬ chkE p = 0) : bestR p = ([], 0, chkE p) := if_pos h
theorem best_2 {p : Pb} (h : chkE p = 0) {L : RkL} (hL : strip L = (srtK (keyC p) (allP p)).take 1) (hn : L.length = 0) : bestR p = ([], 0, 3) := by
  have hn2 : L = [] := List.eq_nil_of_length_eq_zero hn
  subst hn2
  unfold bestR
  rw [if_neg (by rw [h]; decide)]
  cases hs : srtK (keyC p) (allP p) with
  | nil => rfl
  | cons y t => rw [hs] at hL; simp [strip] at hL
theorem best_3 {p : Pb} (h : chkE p = 0) {L : RkL} {y : (Int × Int) × BegE} (hL : strip L = (srtK (keyC p) (allP p)).take 1) (hy : L[0]? = some y) : bestR p = (y.2.xs, y.1.2, 0) := by
  unfold bestR
  rw [if_neg (by rw [h]; decide)]
  cases hs : srtK (keyC p) (allP p) with
  | nil => rw [hs] at hL; cases L with
    | nil => simp at hy
    | cons a t => simp [strip] at hL
  | cons z t =>
    rw [hs] at hL
    cases L with
    | nil => simp at hy
    | cons a u =>
      simp at hy
      subst hy
      simp [strip] at hL
      show (z.2, z.1.2, 0) = _
      rw [← hL.1]
/-- the entries of the first ones, in memory -/
theorem begs_cell {W : World} {B g n c i : Nat} {L : RkL} {y : (Int × Int) × BegE} (h : OwnR W B 34 1 (.slice (some ⟨g, 0, none⟩) n c) n (begsV L)) (hn : L.length = n) (hy : L[i]? = some y) : W.cell? ⟨g, i, none⟩ = some (.slice y.2.a y.2.xs.length y.2.c) := by
  have hi : i < L.length := (List.getElem?_eq_some_iff.1 hy).1
  have hO := h.ownP (val := fun j => (begsV L)[j]?.getD undef) (fun j u hu => by rw [hu]; rfl)
  have c1 := hO.cell (k := i) (by omega)
  rw [c1]
  simp [begsV, hy]
theorem keys_cell {W : World} {B g n c i : Nat} {L : RkL} {y : (Int × Int) × BegE} (h : OwnR W B 92 2 (.slice (some ⟨g, 0, none⟩) n c) n (keysV L)) (hn : L.length = n) (hy : L[i]? = some y) : W.cell? ⟨g, i * 2, none⟩ = some (.int .i64 y.1.1) ∧ W.cell? ⟨g, i * 2 + 1, none⟩ = some (.int .i64 y.1.2) := by
  have hi : i < L.length := (List.getElem?_eq_some_iff.1 hy).1
  have hO := h.ownP (val := fun j => (keysV L)[j]?.getD undef) (fun j u hu => by rw [hu]; rfl)
  obtain ⟨k1, k2⟩ := keys_get L i y hy
  have c1 := hO.cell (k := i * 2) (by omega)
  have c2 := hO.cell (k := i * 2 + 1) (by omega)
  simp only [k1, k2, Option.getD_some] at c1 c2
  exact ⟨c1, c2⟩
end
section
set_option linter.unusedVariables false
open Go.RowKit
/-- rows as values -/
def rowsV (E : List BegE) : List Value := E.map fun x => .slice x.a x.xs.length x.c
theorem rowsV_len (E : List BegE) : (rowsV E).length = E.length := by simp [rowsV]
theorem rowsV_all (E : List BegE) : ((rowsV E).all fun v => v.oneCell') = true := by
  rw [List.all_eq_true]; intro v hv
  simp only [rowsV, List.mem_map] at hv
  obtain ⟨x, _, rfl⟩ := hv
  rfl
/-- rows of numbers, in a slice of the call's own -/
structure RwAt (W : World) (B : Nat) (v : Value) (E : List BegE) : Prop where
  o : OwnR W B 34 1 v E.length (rowsV E)
  i : ∀ x ∈ E, Ints W x.a x.xs.length x.xs
  n : ∀ x ∈ E, ∀ ad, x.a = some ad → v.ownBlock ≠ some ad.block ∧ ad.block < W.heap.size
theorem RwAt.gr {W W' : World} {B : Nat} {v : Value} {E : List BegE} (h : RwAt W B v E) (g : Gr W W') : RwAt W' B v E :=
  ⟨h.o.gr g, fun x hx => (h.i x hx).gr g, fun x hx ad e => ⟨(h.n x hx ad e).1, Nat.lt_of_lt_of_le (h.n x hx ad e).2 g.size⟩⟩
theorem RwAt.nil (W : World) (B : Nat) : RwAt W B (.slice none 0 0) [] := ⟨OwnR.nil _ _ _ _, fun x hx => (by simp at hx), fun x hx => (by simp at hx)⟩
theorem RwAt.lower {W : World} {B B' : Nat} {v : Value} {E : List BegE} (h : RwAt W B v E) (hB : B' ≤ B) : RwAt W B' v E := ⟨h.o.lower hB, h.i, h.n⟩
theorem RwAt.form {W : World} {B : Nat} {v : Value} {E : List BegE} (h : RwAt W B v E) : ∃ a c, v = .slice a E.length c := h.o.form
/-- the rows come in behind the others -/
theorem RwAt.push {W W' : World} {B B2 : Nat} {v v2 v' : Value} {E E2 : List BegE} (h : RwAt W B v E) (h2 : RwAt W B2 v2 E2) (hO : OwnR W' B 34 1 v' (E.length + E2.length) (rowsV E ++ rowsV E2)) (hon : Only (fun b => v.ownBlock = some b) W W')
    (hat : v'.ownBlock = v.ownBlock ∨ v'.ownBlock = some W.heap.size) (hne : ∀ x ∈ E2, ∀ ad, x.a = some ad → v.ownBlock ≠ some ad.block) : RwAt W' B v' (E ++ E2) := by
  have hn : ∀ x ∈ E ++ E2, Ints W x.a x.xs.length x.xs ∧ ∀ ad, x.a = some ad → v.ownBlock ≠ some ad.block ∧ ad.block < W.heap.size := fun x hx => by
    rcases List.mem_append.1 hx with hx | hx
    · exact ⟨h.i x hx, h.n x hx⟩
    · exact ⟨h2.i x hx, fun ad e => ⟨hne x hx ad e, (h2.n x hx ad e).2⟩⟩
  refine ⟨by rw [List.length_append]; simpa [rowsV] using hO, fun x hx => (hn x hx).1.onlyAt hon (fun ad e => (hn x hx).2 ad e |>.1), fun x hx ad e => ?_⟩
  obtain ⟨n1, n2⟩ := (hn x hx).2 ad e
  refine ⟨fun e2 => ?_, Nat.lt_of_lt_of_le n2 hon.size⟩
  rcases hat with h3 | h3
  · rw [h3] at e2; exact n1 e2
  · rw [h3] at e2; injection e2 with e2; omega
/-- a row as an element -/
theorem RwAt.cell {W : World} {B g c i : Nat} {E : List BegE} {x : BegE} (h : RwAt W B (.slice (some ⟨g, 0, none⟩) E.length c) E) (hx : E[i]? = some x) : W.cell? ⟨g, i, none⟩ = some (.slice x.a x.xs.length x.c) := by
  have hi : i < E.length := (List.getElem?_eq_some_iff.1 hx).1
  have := World.ownsRow.cells h.o (g := g) rfl i (.slice x.a x.xs.length x.c) (by simp [rowsV, hx])
  rwa [addr_add0] at this
theorem RwAt.ex {W : World} {B c : Nat} {a : Option Addr} {E : List BegE} (h : RwAt W B (.slice a E.length c) E) (h0 : 0 < E.length) : ∃ g, a = some ⟨g, 0, none⟩ ∧ B ≤ g ∧ g < W.heap.size := by
  rcases h.o.shape with ⟨_, h1⟩ | ⟨g, c', e, h1, h2⟩
  · omega
  · injection e with e; exact ⟨g, e, h1, h2⟩
theorem RwAt.src {W : World} {B c : Nat} {a : Option Addr} {E : List BegE} (h : RwAt W B (.slice a E.length c) E) : ∀ ad, a = some ad → ∀ j u, (rowsV E)[j]? = some u → W.cell? (ad.add j) = some u := by
  intro ad e j u hu
  have hj : j < E.length := by have := (List.getElem?_eq_some_iff.1 hu).1; rwa [rowsV_len] at this
  obtain ⟨g, e2, _, _⟩ := h.ex (by omega)
  rw [e] at e2; injection e2 with e2
  subst e2
  subst e
  exact World.ownsRow.cells h.o (g := g) rfl j u hu
theorem RwAt.none0 {W : World} {B c : Nat} {a : Option Addr} {E : List BegE} (h : RwAt W B (.slice a E.length c) E) : a = none → E.length = 0 := fun e => by
  refine Classical.byContradiction fun h0 => ?_
  obtain ⟨g, e2, _⟩ := h.ex (by omega)
  rw [e] at e2; cases e2
/-- append to a slice of the call's own, of any slice -/
theorem wp_pushG {P : Program} {o : Oper} {a : Act} {W : World} {K : Act → World → Prop} {Q : Exit → Act → World → Prop} {s x : Operand} {ts e k bytes B n m c c1 : Nat} {z : Value} {a1 sa : Option Addr} {xs news : List Value}
    (hu : P.underlying ts = some (.slice e)) (hinfo : (P.info? e).map (fun i => (i.zero, i.size, i.bytes)) = some (some z, k, bytes)) (hzs : z.cells.size = k) (h0 : 0 < k)
    (ho : o.op = .call { callee := .builtin .append, args := #[s, x], argTypes := #[ts, ts] }) (hs : a.eval s = .slice a1 n c1) (hx : a.eval x = .slice sa m c) (hO : OwnR W B e k (.slice a1 n c1) n xs) (hsn : sa = none → m = 0)
    (hl : news.length = m * k) (hnews : ∀ ad, sa = some ad → ∀ j u, news[j]? = some u → W.cell? (ad.add j) = some u) (h1 : (news.all fun u => u.oneCell') = true) (hmax : n + m ≤ 1000000) (hbt : bytes ≤ 1000) (hB : B ≤ W.heap.size)
    (h : ∀ v' w', OwnR w' B e k v' (n + m) (xs ++ news) → Only (fun b => (Value.slice a1 n c1).ownBlock = some b) W w' → (v'.ownBlock = (Value.slice a1 n c1).ownBlock ∨ v'.ownBlock = some W.heap.size) → K (a.put o.dst v') w') : o.wp P a W K Q := by
  cases sa with
  | some ad => exact wp_pushV hu hinfo hzs h0 ho hs hx hO hl (hnews ad rfl) h1 hmax hbt hB h
  | none =>
    have hm := hsn rfl
    subst hm
    have hn0 : news = [] := List.eq_nil_of_length_eq_zero (by omega)
    subst hn0
    obtain ⟨i0, hi, hz0, hz1, hz2⟩ := info_parts hinfo
    have hle : n ≤ c1 := by
      rcases hO.2 with ⟨h2, _⟩ | ⟨b, cap, cur, h1, h2, h3, h4, _⟩
      · injection h2 with _ h2; omega
      · injection h1 with _ _ h1; omega
    have hs2 : Src P i0.size ts (.slice none 0 c) 0 [] W := by
      refine ⟨.inl ⟨e, hu⟩, fun w' => ?_, ?_, ?_, by simp, fun u hu => by simp at hu⟩
      · simp [Builtin.lenOf]
      · simp [Builtin.firstCells, loadCells, loadCellsFrom]
      · simp [Builtin.firstCells, loadCells, loadCellsFrom]
    have hr := run_append_nothing W ts ts o.type e i0 hu hi a1 n c1 hle _ hs2
    have hrun : (execOp a.eval o).run P W = .ok (.value (.slice a1 n c1)) W := by
      unfold execOp
      simp only [ho, resolve, invoke, builtin, Sem.run_bind, Sem.run_pure, Result.andThen_ok, List.map_toArray, List.map_cons, List.map_nil, hs, hx, hr]
    unfold Oper.wp
    rw [hrun]
    exact h _ _ (by rw [List.append_nil]; exact hO) (Only.refl _ _) (.inl rfl)
/-- a region with two calls (a, b) and an append (c) that may turn older memory, whose value is moved on (d) -/
structure RA4 (w : World) (a b c d : Nat) (Ta Tb Tc : Value → World → Prop) (done : Nat → Bool) (u : Nat → Value) (W : World) : Prop where
  g : done c = false → Gr w W
  ga : done a = true → done c = false → Ta (u a) W
  gb : done b = true → done c = false → Tb (u b) W
  gc : done c = true → Tc (u c) W
  gd : done d = true → u d = u c
def ne4 (a b c d : Nat) : Bool := !(a == b || a == c || a == d || b == c || b == d || c == d)
section
variable {w W W' : World} {a b c d i : Nat} {Ta Tb Tc : Value → World → Prop} {done : Nat → Bool} {u : Nat → Value} {v : Value}
theorem ne4_all (h : ne4 a b c d = true) : a ≠ b ∧ a ≠ c ∧ a ≠ d ∧ b ≠ c ∧ b ≠ d ∧ c ≠ d := by
  simp only [ne4, Bool.not_eq_true', Bool.or_eq_false_iff, beq_eq_false_iff_ne] at h
  obtain ⟨⟨⟨⟨⟨h1, h2⟩, h3⟩, h4⟩, h5⟩, h6⟩ := h
  exact ⟨h1, h2, h3, h4, h5, h6⟩
theorem RA4.start {u : Nat → Value} (g : Gr w W) : RA4 w a b c d Ta Tb Tc (fun _ => false) u W := ⟨fun _ => g, fun h => by simp at h, fun h => by simp at h, fun h => by simp at h, fun h => by simp at h⟩
theorem RA4.quiet (h : RA4 w a b c d Ta Tb Tc done u W) (ha : UpV Ta) (hb : UpV Tb) (hc : done c = false) (hd : done d = false) (g : Gr W W') (hi : (i == a || i == b || i == c || i == d) = false) : RA4 w a b c d Ta Tb Tc (upd done i) (fun j => if j = i then v else u j) W' := by
  simp only [Bool.or_eq_false_iff, beq_eq_false_iff_ne] at hi
  obtain ⟨⟨⟨h1, h2⟩, h3⟩, h4⟩ := hi
  have e1 := upd_ne (done := done) (Ne.symm h1)
  have e2 := upd_ne (done := done) (Ne.symm h2)
  have e3 := upd_ne (done := done) (Ne.symm h3)
  have e4 := upd_ne (done := done) (Ne.symm h4)
  refine ⟨fun k => (h.g hc).trans g, fun k0 k1 => ?_, fun k0 k1 => ?_, fun k0 => ?_, fun k0 => ?_⟩
  · have := ha _ _ _ (h.ga (e1 ▸ k0) hc) g; simpa [Ne.symm h1] using this
  · have := hb _ _ _ (h.gb (e2 ▸ k0) hc) g; simpa [Ne.symm h2] using this
  · rw [e3, hc] at k0; cases k0
  · rw [e4, hd] at k0; cases k0
theorem RA4.sa (h : RA4 w a b c d Ta Tb Tc done u W) (hn : ne4 a b c d = true) (hb : UpV Tb) (hc : done c = false) (hd : done d = false) (g : Gr W W') (ht : Ta v W') : RA4 w a b c d Ta Tb Tc (upd done a) (fun j => if j = a then v else u j) W' := by
  obtain ⟨n1, n2, n3, _⟩ := ne4_all hn
  have e1 := upd_ne (done := done) (Ne.symm n1)
  have e2 := upd_ne (done := done) (Ne.symm n2)
  have e3 := upd_ne (done := done) (Ne.symm n3)
  refine ⟨fun _ => (h.g hc).trans g, fun _ _ => by simpa using ht, fun k0 k1 => ?_, fun k => ?_, fun k => ?_⟩
  · have := hb _ _ _ (h.gb (e1 ▸ k0) hc) g; simpa [Ne.symm n1] using this
  · rw [e2, hc] at k; cases k
  · rw [e3, hd] at k; cases k
theorem RA4.sb (h : RA4 w a b c d Ta Tb Tc done u W) (hn : ne4 a b c d = true) (ha : UpV Ta) (hc : done c = false) (hd : done d = false) (g : Gr W W') (ht : Tb v W') : RA4 w a b c d Ta Tb Tc (upd done b) (fun j => if j = b then v else u j) W' := by
  obtain ⟨n1, _, _, n4, n5, _⟩ := ne4_all hn
  have e1 := upd_ne (done := done) n1
  have e2 := upd_ne (done := done) (Ne.symm n4)
  have e3 := upd_ne (done := done) (Ne.symm n5)
  refine ⟨fun _ => (h.g hc).trans g, fun k0 k1 => ?_, fun _ _ => by simpa using ht, fun k => ?_, fun k => ?_⟩
  · have := ha _ _ _ (h.ga (e1 ▸ k0) hc) g; simpa [n1] using this
  · rw [e2, hc] at k; cases k
  · rw [e3, hd] at k; cases k
theorem RA4.sc (hn : ne4 a b c d = true) (hd : done d = false) (ht : Tc v W') : RA4 w a b c d Ta Tb Tc (upd done c) (fun j => if j = c then v else u j) W' := by
  obtain ⟨_, _, _, _, _, n6⟩ := ne4_all hn
  have e3 := upd_ne (done := done) (Ne.symm n6)
  refine ⟨fun k => ?_, fun _ k => ?_, fun _ k => ?_, fun _ => by simpa using ht, fun k => ?_⟩
  · rw [upd_self] at k; cases k
  · rw [upd_self] at k; cases k
  · rw [upd_self] at k; cases k
  · rw [e3, hd] at k; cases k
theorem RA4.sd (hn : ne4 a b c d = true) (hc : done c = true) (h : RA4 w a b c d Ta Tb Tc done u W) : RA4 w a b c d Ta Tb Tc (upd done d) (fun j => if j = d then u c else u j) W := by
  obtain ⟨_, _, _, _, _, n6⟩ := ne4_all hn
  have e3 := upd_ne (done := done) n6
  refine ⟨fun k => ?_, fun _ k => ?_, fun _ k => ?_, fun _ => ?_, fun _ => ?_⟩
  · rw [e3, hc] at k; cases k
  · rw [e3, hc] at k; cases k
  · rw [e3, hc] at k; cases k
  · simpa [n6] using h.gc hc
  · simp [n6]
end
/-- how many there are -/
theorem flatN_len {α : Type} {f : Nat → List α} {k : Nat} : ∀ {n : Nat}, (∀ h, h < n → (f h).length ≤ k) → (flatN f n).length ≤ n * k := by
  intro n
  induction n with
  | zero => intro _; simp [flatN]
  | succ n ih =>
    intro h
    have h1 := ih (fun i hi => h i (by omega))
    have h2 := h n (by omega)
    simp only [flatN, List.length_append]
    rw [Nat.add_mul]; omega
theorem allF_len {nh : Nat} {hope : List Int → Bool} (h4 : nh ≤ 4) : ∀ (m : Nat) (xs : List Int), (allF nh hope m xs).length ≤ 4 ^ m := by
  intro m
  induction m with
  | zero =>
    intro xs
    unfold allF
    split <;> simp
  | succ m ih =>
    intro xs
    unfold allF
    split
    · simp
    · have h1 := flatN_len (f := fun h : Nat => allF nh hope m (xs ++ [(h : Int)])) (k := 4 ^ m) (n := nh) (fun h _ => ih _)
      have h2 := Nat.mul_le_mul_right (4 ^ m) h4
      rw [Nat.pow_succ]; omega
theorem pow_le {m : Nat} (h : m ≤ 5) : 4 ^ m ≤ 1024 := by
  have : m = 0 ∨ m = 1 ∨ m = 2 ∨ m = 3 ∨ m = 4 ∨ m = 5 := by omega
  rcases this with rfl | rfl | rfl | rfl | rfl | rfl <;> decide
theorem all_hope {nh : Nat} {hope : List Int → Bool} {m : Nat} {xs : List Int} (h : hope xs = true) : allF nh hope m xs = [] := by
  cases m <;> simp [allF, h]
theorem all_in {nh : Nat} {hope : List Int → Bool} {m : Nat} {xs : List Int} (h : hope xs = false) : allF nh hope (m + 1) xs = flatN (fun h => allF nh hope m (xs ++ [(h : Int)])) nh := by
  simp [allF, h]
theorem all_leaf {nh : Nat} {hope : List Int → Bool} {xs : List Int} (h : hope xs = false) : allF nh hope 0 xs = [xs] := by
  simp [allF, h]
theorem Try.bs38_1 (a : Option Addr) (n c : Nat) (w : World) : (Instr.buildSlice 38 1 #[(0, .slice a n c)]).run Try.prog w = .ok (.slice (some ⟨w.heap.size, 0, none⟩) 1 1) (w.alloc (.cells #[.slice a n c] 34)) := by kernel_rfl
/-- one row that a call makes of a slice -/
theorem rw_one {W : World} {B b c : Nat} {a : Option Addr} {xs : List Int} (h : W.heap[b]? = some (.cells #[.slice a xs.length c] 34)) (hB : B ≤ b) (hi : Ints W a xs.length xs) (hn : ∀ ad, a = some ad → ad.block < b) : RwAt W B (.slice (some ⟨b, 0, none⟩) 1 1) [⟨xs, a, c⟩] :=
  ⟨⟨rfl, .inr ⟨b, 1, #[.slice a xs.length c], rfl, hB, h, Nat.le_refl _, by unfold maxLen; decide, rfl, rfl⟩⟩, fun x hx => by simp at hx; subst hx; exact hi, fun x hx ad e => by
    simp at hx; subst hx
    have h1 := hn ad e
    have h2 := (Array.getElem?_eq_some_iff.1 h).1
    exact ⟨fun e2 => by simp [Value.ownBlock] at e2; omega, by omega⟩⟩
end
section
set_option linter.unusedVariables false
open Go.RowKit
section
variable {α : Type}
theorem foldR_sorted {β : Type} (f : β → (Int × Int) × α) : ∀ (A : List β) (s : List ((Int × Int) × α)), Sorted s → Sorted (A.foldl (fun s x => insR s (f x)) s) := by
  intro A
  induction A with
  | nil => intro s h; exact h
  | cons a A ih => intro s h; exact ih _ (insR_sorted h _)
/-- what stands first behind an insertion -/
theorem insR_head {s : List ((Int × Int) × α)} (hs : Sorted s) (x : (Int × Int) × α) : (insR s x)[0]? = match s[0]? with | none => some x | some y => if ltK x.1 y.1 then some x else some y := by
  unfold insR
  rw [insAt_get posR_le]
  cases hy : s[0]? with
  | none =>
    have h0 : s.length = 0 := by rw [List.getElem?_eq_none_iff] at hy; omega
    have h1 : posR s x.1 s.length = 0 := by have := posR_le (l := s) (k := x.1) (n := s.length); omega
    rw [h1]; simp
  | some y =>
    have h1 := posR_iff hs (k := x.1) hy
    cases e : ltK x.1 y.1 with
    | true =>
      have h2 := h1.1 e
      rw [show posR s x.1 s.length = 0 by omega]; simp [e]
    | false =>
      have h2 : ¬ posR s x.1 s.length ≤ 0 := fun h => by rw [h1.2 h] at e; cases e
      rw [if_pos (by omega)]; simp [e, hy]
end
theorem srtK_snoc (key : List Int → Int × Int) (l : List (List Int)) (x : List Int) : srtK key (l ++ [x]) = insR (srtK key l) (key x, x) := by
  unfold srtK; rw [List.foldl_append]; rfl
theorem srtK_sorted (key : List Int → Int × Int) (l : List (List Int)) : Sorted (srtK key l) := foldR_sorted (fun x => (key x, x)) l [] nil_sorted
theorem srtK_len (key : List Int → Int × Int) (l : List (List Int)) : (srtK key l).length = l.length := by
  have h : ∀ (l : List (List Int)) (s : List ((Int × Int) × List Int)), (l.foldl (fun s x => insR s (key x, x)) s).length = s.length + l.length := by
    intro l
    induction l with
    | nil => intro s; simp
    | cons a l ih => intro s; simp only [List.foldl_cons, List.length_cons]; rw [ih, insR_len]; omega
  unfold srtK; rw [h]; simp
section
variable {p : Pb} {E : List BegE} {i b : Nat} {x y : BegE}
theorem hd_next (hx : E[i]? = some x) : (E.take (i + 1)).map BegE.xs = (E.take i).map BegE.xs ++ [x.xs] := by
  have hi : i < E.length := (List.getElem?_eq_some_iff.1 hx).1
  rw [List.take_add_one, hx]; simp
theorem keyC_lt {a c : List Int} : ltK (keyC p a) (keyC p c) = decide (bndV p a < bndV p c) := by
  unfold ltK keyC; simp
end
/-- what is in the search's list -/
theorem mem_all {p : Pb} {hope : List Int → Bool} : ∀ (m : Nat) (xs : List Int), HosOk p xs → ∀ x ∈ allF p.nh hope m xs, HosOk p x ∧ x.length = xs.length + m ∧ hope x = false := by
  intro m
  induction m with
  | zero =>
    intro xs h x hx
    unfold allF at hx
    split at hx
    · simp at hx
    · simp at hx; subst hx; rename_i hh; exact ⟨h, rfl, by cases e : hope x with | true => exact absurd e hh | false => rfl⟩
  | succ m ih =>
    intro xs h x hx
    unfold allF at hx
    split at hx
    · simp at hx
    · obtain ⟨k, hk, hx⟩ := flatN_mem.1 hx
      obtain ⟨h1, h2, h3⟩ := ih _ (h.app hk) x hx
      exact ⟨h1, by simp at h2; omega, h3⟩
theorem mem_allP {p : Pb} {x : List Int} (h : x ∈ allP p) : HosOk p x ∧ x.length = p.nt ∧ hopeB p (tim p) x = false := by
  obtain ⟨h1, h2, h3⟩ := mem_all p.nt [] HosOk.nil x h
  exact ⟨h1, by simpa using h2, h3⟩
theorem Ints.nilZ (w : World) : Ints w none ([] : List Int).length [] := ⟨rfl, by decide, fun j hj => by simp at hj⟩
end
section
set_option linter.unusedVariables false
open Go.RowKit
/-- the costs of kept rows -/
def costsV (S : RkL) : List Value := S.map fun x => .int .i64 x.1.2
theorem costs_len (S : RkL) : (costsV S).length = S.length := by simp [costsV]
theorem costs_all (S : RkL) : ((costsV S).all fun v => v.oneCell') = true := by
  rw [List.all_eq_true]; intro v hv
  simp only [costsV, List.mem_map] at hv
  obtain ⟨x, _, rfl⟩ := hv
  rfl
theorem costs_ins (S : RkL) (i : Nat) (x : (Int × Int) × BegE) : (costsV S).take i ++ [.int .i64 x.1.2] ++ (costsV S).drop i = costsV (insAt S i x) := by
  unfold insAt costsV; simp [List.map_take, List.map_drop]
theorem begs_ins1 (S : RkL) (i : Nat) (x : (Int × Int) × BegE) : (begsV S).take i ++ [.slice x.2.a x.2.xs.length x.2.c] ++ (begsV S).drop i = begsV (insAt S i x) := by
  unfold insAt begsV; simp [List.map_take, List.map_drop]
theorem own_cell {W : World} {B e g n c i : Nat} {xs : List Value} {u : Value} (h : OwnR W B e 1 (.slice (some ⟨g, 0, none⟩) n c) n xs) (hu : xs[i]? = some u) : W.cell? ⟨g, i, none⟩ = some u := by
  have := World.ownsRow.cells h (g := g) rfl i u hu
  rwa [addr_add0] at this
theorem costs_cell {W : World} {B g c i : Nat} {S : RkL} {y : (Int × Int) × BegE} (h : OwnR W B 3 1 (.slice (some ⟨g, 0, none⟩) S.length c) S.length (costsV S)) (hy : S[i]? = some y) : W.cell? ⟨g, i, none⟩ = some (.int .i64 y.1.2) :=
  own_cell h (by simp [costsV, hy])
/-- the beginning of a row of the call's own, as a source -/
theorem OwnR.headS {W : World} {B e n c i : Nat} {a : Option Addr} {xs : List Value} (h : OwnR W B e 1 (.slice a n c) n xs) (hi : i ≤ n) : (a = none → i = 0) ∧ ∀ ad, a = some ad → ∀ j u, (xs.take i)[j]? = some u → W.cell? (ad.add j) = some u := by
  refine ⟨fun e0 => ?_, fun ad e0 j u hu => ?_⟩
  · subst e0
    rcases h.2 with ⟨h2, h3⟩ | ⟨g, cap, cur, h1, _⟩
    · omega
    · injection h1 with h1; cases h1
  · subst e0
    rcases h.2 with ⟨h2, _⟩ | ⟨g, cap, cur, h1, _⟩
    · cases h2
    · injection h1 with h1
      injection h1 with h1
      subst h1
      have hj : j < i := by have := (List.getElem?_eq_some_iff.1 hu).1; simp at this; omega
      rw [List.getElem?_take_of_lt hj] at hu
      rw [addr_add0]
      exact own_cell h hu
/-- the end of a row of the call's own, as a source -/
theorem OwnR.tailS {W : World} {B e n c i : Nat} {a : Option Addr} {xs : List Value} (h : OwnR W B e 1 (.slice a n c) n xs) (hi : i ≤ n) : ((if c = i then a else a.map fun x => x.add (i * 1)) = none → n - i = 0) ∧ ∀ ad, (if c = i then a else a.map fun x => x.add (i * 1)) = some ad → ∀ j u, (xs.drop i)[j]? = some u → W.cell? (ad.add j) = some u := by
  have hl := h.len
  rcases h.2 with ⟨h2, h3⟩ | ⟨g, cap, cur, h1, h2, h3, h4, _⟩
  · injection h2 with h2 _ h4
    subst h2 h4
    refine ⟨fun _ => by omega, fun ad e0 => ?_⟩
    have : i = 0 := by omega
    subst this
    simp at e0
  · injection h1 with h1 _ hc
    subst h1 hc
    refine ⟨fun e0 => ?_, fun ad e0 j u hu => ?_⟩
    · split at e0
      · cases e0
      · cases e0
    · rw [List.getElem?_drop] at hu
      have hj : i + j < n := by have := (List.getElem?_eq_some_iff.1 hu).1; omega
      rw [if_neg (by omega)] at e0
      simp only [Option.map_some, Option.some.injEq] at e0
      subst e0
      rw [addr_add0, Nat.mul_one, show (⟨g, i, none⟩ : Addr).add j = ⟨g, i + j, none⟩ from Y.addr_add _ _ _]
      exact own_cell h hu
/-- a region that copies the beginning of a row (a: a new row, b), appends one (c: its row, d), and the end (e), and moves it (f) -/
structure RC6 (w : World) (a b c d e f : Nat) (Ta Tb Tc Td Te : Value → World → Prop) (done : Nat → Bool) (u : Nat → Value) (W : World) : Prop where
  g : Gr w W
  ga : done a = true → done b = false → Ta (u a) W
  gb : done b = true → done d = false → Tb (u b) W
  gc : done c = true → done d = false → Tc (u c) W
  gd : done d = true → done e = false → Td (u d) W
  ge : done e = true → Te (u e) W
  gf : done f = true → u f = u e
def ne6 (a b c d e f : Nat) : Bool := decide ([a, b, c, d, e, f].Nodup)
section
variable {w W W' : World} {a b c d e f i : Nat} {Ta Tb Tc Td Te : Value → World → Prop} {done : Nat → Bool} {u : Nat → Value} {v : Value}
theorem ne6_all (h : ne6 a b c d e f = true) : a ≠ b ∧ a ≠ c ∧ a ≠ d ∧ a ≠ e ∧ a ≠ f ∧ b ≠ c ∧ b ≠ d ∧ b ≠ e ∧ b ≠ f ∧ c ≠ d ∧ c ≠ e ∧ c ≠ f ∧ d ≠ e ∧ d ≠ f ∧ e ≠ f := by
  have := of_decide_eq_true h
  simp at this
  obtain ⟨⟨h1, h2, h3, h4, h5⟩, ⟨h6, h7, h8, h9⟩, ⟨h10, h11, h12⟩, ⟨h13, h14⟩, h15⟩ := this
  exact ⟨h1, h2, h3, h4, h5, h6, h7, h8, h9, h10, h11, h12, h13, h14, h15⟩
theorem RC6.start {u : Nat → Value} (g : Gr w W) : RC6 w a b c d e f Ta Tb Tc Td Te (fun _ => false) u W := ⟨g, fun h => by simp at h, fun h => by simp at h, fun h => by simp at h, fun h => by simp at h, fun h => by simp at h, fun h => by simp at h⟩
/-- an operation that is none of d, e, f, and only adds memory; na .. say what it makes, if it is one of a, b, c -/
theorem RC6.step (h : RC6 w a b c d e f Ta Tb Tc Td Te done u W) (hu : UpV Ta ∧ UpV Tb ∧ UpV Tc ∧ UpV Td ∧ UpV Te) (g : Gr W W') (hd : i ≠ d) (he : i ≠ e) (hf : i ≠ f)
    (ha : i = a → Ta v W') (hb : i = b → Tb v W') (hc : i = c → Tc v W') : RC6 w a b c d e f Ta Tb Tc Td Te (upd done i) (fun j => if j = i then v else u j) W' := by
  obtain ⟨ua, ub, uc, ud, ue⟩ := hu
  have ed := upd_ne (done := done) (Ne.symm hd)
  have ee := upd_ne (done := done) (Ne.symm he)
  have ef := upd_ne (done := done) (Ne.symm hf)
  have eu : ∀ j, j ≠ i → (upd done i j = done j ∧ (if j = i then v else u j) = u j) := fun j hj => ⟨upd_ne hj, if_neg hj⟩
  refine ⟨h.g.trans g, fun k0 k1 => ?_, fun k0 k1 => ?_, fun k0 k1 => ?_, fun k0 k1 => ?_, fun k0 => ?_, fun k0 => ?_⟩
  · by_cases x : a = i
    · simp only [x, if_true]; exact ha x.symm
    · obtain ⟨x1, x2⟩ := eu a x
      rw [x1] at k0; simp only [x2]
      refine ua _ _ _ (h.ga k0 ?_) g
      by_cases y : b = i
      · rw [y, upd_self] at k1; cases k1
      · rw [(eu b y).1] at k1; exact k1
  · rw [ed] at k1
    by_cases x : b = i
    · simp only [x, if_true]; exact hb x.symm
    · obtain ⟨x1, x2⟩ := eu b x
      rw [x1] at k0; simp only [x2]
      exact ub _ _ _ (h.gb k0 k1) g
  · rw [ed] at k1
    by_cases x : c = i
    · simp only [x, if_true]; exact hc x.symm
    · obtain ⟨x1, x2⟩ := eu c x
      rw [x1] at k0; simp only [x2]
      exact uc _ _ _ (h.gc k0 k1) g
  · rw [ed] at k0; rw [ee] at k1
    simp only [if_neg (Ne.symm hd)]
    exact ud _ _ _ (h.gd k0 k1) g
  · rw [ee] at k0
    simp only [if_neg (Ne.symm he)]
    exact ue _ _ _ (h.ge k0) g
  · rw [ef] at k0
    simp only [if_neg (Ne.symm hf), if_neg (Ne.symm he)]
    exact h.gf k0
theorem RC6.quiet (h : RC6 w a b c d e f Ta Tb Tc Td Te done u W) (hu : UpV Ta ∧ UpV Tb ∧ UpV Tc ∧ UpV Td ∧ UpV Te) (g : Gr W W') (hi : (i == a || i == b || i == c || i == d || i == e || i == f) = false) : RC6 w a b c d e f Ta Tb Tc Td Te (upd done i) (fun j => if j = i then v else u j) W' := by
  simp only [Bool.or_eq_false_iff, beq_eq_false_iff_ne] at hi
  obtain ⟨⟨⟨⟨⟨h1, h2⟩, h3⟩, h4⟩, h5⟩, h6⟩ := hi
  exact h.step hu g h4 h5 h6 (fun e => absurd e h1) (fun e => absurd e h2) (fun e => absurd e h3)
theorem RC6.sa (h : RC6 w a b c d e f Ta Tb Tc Td Te done u W) (hn : ne6 a b c d e f = true) (hu : UpV Ta ∧ UpV Tb ∧ UpV Tc ∧ UpV Td ∧ UpV Te) (g : Gr W W') (ht : Ta v W') : RC6 w a b c d e f Ta Tb Tc Td Te (upd done a) (fun j => if j = a then v else u j) W' := by
  obtain ⟨h1, h2, h3, h4, h5, _⟩ := ne6_all hn
  exact h.step hu g h3 h4 h5 (fun _ => ht) (fun e => absurd e h1) (fun e => absurd e h2)
theorem RC6.sb (h : RC6 w a b c d e f Ta Tb Tc Td Te done u W) (hn : ne6 a b c d e f = true) (hu : UpV Ta ∧ UpV Tb ∧ UpV Tc ∧ UpV Td ∧ UpV Te) (g : Gr W W') (ht : Tb v W') : RC6 w a b c d e f Ta Tb Tc Td Te (upd done b) (fun j => if j = b then v else u j) W' := by
  obtain ⟨h1, h2, h3, h4, h5, h6, h7, h8, h9, _⟩ := ne6_all hn
  exact h.step hu g h7 h8 h9 (fun e => absurd e.symm h1) (fun _ => ht) (fun e => absurd e h6)
theorem RC6.sc (h : RC6 w a b c d e f Ta Tb Tc Td Te done u W) (hn : ne6 a b c d e f = true) (hu : UpV Ta ∧ UpV Tb ∧ UpV Tc ∧ UpV Td ∧ UpV Te) (g : Gr W W') (ht : Tc v W') : RC6 w a b c d e f Ta Tb Tc Td Te (upd done c) (fun j => if j = c then v else u j) W' := by
  obtain ⟨h1, h2, h3, h4, h5, h6, h7, h8, h9, h10, h11, h12, _⟩ := ne6_all hn
  exact h.step hu g h10 h11 h12 (fun e => absurd e.symm h2) (fun e => absurd e.symm h6) (fun _ => ht)
theorem RC6.sd (h : RC6 w a b c d e f Ta Tb Tc Td Te done u W) (hn : ne6 a b c d e f = true) (hb : done b = true) (he : done e = false) (hf : done f = false) (g : Gr w W') (ht : Td v W') : RC6 w a b c d e f Ta Tb Tc Td Te (upd done d) (fun j => if j = d then v else u j) W' := by
  obtain ⟨h1, h2, h3, h4, h5, h6, h7, h8, h9, h10, h11, h12, h13, h14, h15⟩ := ne6_all hn
  refine ⟨g, fun _ k => ?_, fun _ k => ?_, fun _ k => ?_, fun _ _ => by simpa using ht, fun k => ?_, fun k => ?_⟩
  · rw [upd_ne h7, hb] at k; cases k
  · rw [upd_self] at k; cases k
  · rw [upd_self] at k; cases k
  · rw [upd_ne (Ne.symm h13), he] at k; cases k
  · rw [upd_ne (Ne.symm h14), hf] at k; cases k
theorem RC6.se (h : RC6 w a b c d e f Ta Tb Tc Td Te done u W) (hn : ne6 a b c d e f = true) (hb : done b = true) (hd : done d = true) (hf : done f = false) (g : Gr w W') (ht : Te v W') : RC6 w a b c d e f Ta Tb Tc Td Te (upd done e) (fun j => if j = e then v else u j) W' := by
  obtain ⟨h1, h2, h3, h4, h5, h6, h7, h8, h9, h10, h11, h12, h13, h14, h15⟩ := ne6_all hn
  refine ⟨g, fun _ k => ?_, fun _ k => ?_, fun _ k => ?_, fun _ k => ?_, fun _ => by simpa using ht, fun k => ?_⟩
  · rw [upd_ne h8, hb] at k; cases k
  · rw [upd_ne h13, hd] at k; cases k
  · rw [upd_ne h13, hd] at k; cases k
  · rw [upd_self] at k; cases k
  · rw [upd_ne (Ne.symm h15), hf] at k; cases k
theorem RC6.sf (h : RC6 w a b c d e f Ta Tb Tc Td Te done u W) (hn : ne6 a b c d e f = true) (hb : done b = true) (hd : done d = true) (he : done e = true) : RC6 w a b c d e f Ta Tb Tc Td Te (upd done f) (fun j => if j = f then u e else u j) W := by
  obtain ⟨h1, h2, h3, h4, h5, h6, h7, h8, h9, h10, h11, h12, h13, h14, h15⟩ := ne6_all hn
  refine ⟨h.g, fun _ k => ?_, fun _ k => ?_, fun _ k => ?_, fun _ k => ?_, fun _ => ?_, fun _ => ?_⟩
  · rw [upd_ne h9, hb] at k; cases k
  · rw [upd_ne h14, hd] at k; cases k
  · rw [upd_ne h14, hd] at k; cases k
  · rw [upd_ne h15, he] at k; cases k
  · simpa [h15] using h.ge he
  · simp [h15]
end
/-- what such a region makes -/
def TiA (B e : Nat) (v : Value) (W : World) : Prop := ∃ a0, v = .slice a0 0 0 ∧ OwnR W B e 1 (.slice a0 0 0) 0 []
def TiR (B e n : Nat) (xs : List Value) (v : Value) (W : World) : Prop := ∃ a c, v = .slice a n c ∧ OwnR W B e 1 (.slice a n c) n xs
def TiC (e : Nat) (x : Value) (v : Value) (W : World) : Prop := ∃ g, v = .slice (some ⟨g, 0, none⟩) 1 1 ∧ W.heap[g]? = some (.cells #[x] e)
theorem TiA.up (B e : Nat) : UpV (TiA B e) := fun v W W2 ⟨a, h1, h2⟩ g => ⟨a, h1, h2.gr g⟩
theorem TiR.up (B e n : Nat) (xs : List Value) : UpV (TiR B e n xs) := fun v W W2 ⟨a, c, h1, h2⟩ g => ⟨a, c, h1, h2.gr g⟩
theorem TiC.up (e : Nat) (x : Value) : UpV (TiC e x) := fun v W W2 ⟨q, h1, h2⟩ g => ⟨q, h1, (g.below.block _ (Array.getElem?_eq_some_iff.1 h2).1).trans h2⟩
/-- sorting -/
theorem lt_c {n : Int} {y : Int × Int} (h : y.1 = 0) : ltK (0, n) y = decide (n < y.2) := by
  unfold ltK; simp [h]
theorem srt_next {p : Pb} {E : List BegE} {S : RkL} {i k : Nat} {x : BegE} (hS : strip S = srtK (keyC p) ((E.take i).map BegE.xs)) (hx : E[i]? = some x) (hk : posR S (0, bndV p x.xs) S.length = k) :
    strip (insAt S k (keyC p x.xs, x)) = srtK (keyC p) ((E.take (i + 1)).map BegE.xs) := by
  rw [hd_next hx, srtK_snoc, ← hS, strip_ins]
  unfold insR
  rw [strip_len, strip_pos]
  show insAt _ k _ = insAt _ (posR S (0, bndV p x.xs) S.length) _
  rw [hk]
theorem Try.bs38_0 (w : World) : (Instr.buildSlice 38 0 #[]).run Try.prog w = .ok (.slice (some ⟨w.heap.size, 0, none⟩) 0 0) (w.alloc (.cells #[] 34)) := by kernel_rfl
/-- rows, to be read -/
def RrAt (W : World) (a : Option Addr) (E : List BegE) : Prop := ∀ i x, E[i]? = some x → ∃ ad, a = some ad ∧ W.cell? (ad.add i) = some (.slice x.a x.xs.length x.c) ∧ Ints W x.a x.xs.length x.xs
theorem RrAt.gr {W W' : World} {a : Option Addr} {E : List BegE} (h : RrAt W a E) (g : Gr W W') : RrAt W' a E := fun i x hx => by
  obtain ⟨ad, h1, h2, h3⟩ := h i x hx
  exact ⟨ad, h1, (g.cell (lt_cell h2)).trans h2, h3.gr g⟩
theorem rr_own {W : World} {B c : Nat} {a : Option Addr} {S : RkL} (h : OwnR W B 34 1 (.slice a S.length c) S.length (begsV S)) (hi : ∀ y ∈ S, Ints W y.2.a y.2.xs.length y.2.xs) : RrAt W a (S.map (·.2)) := fun i x hx => by
  simp only [List.getElem?_map, Option.map_eq_some_iff] at hx
  obtain ⟨y, hy, rfl⟩ := hx
  have hl : i < S.length := (List.getElem?_eq_some_iff.1 hy).1
  obtain ⟨g, L, rfl, _⟩ := h.row (by omega)
  refine ⟨_, rfl, ?_, hi y (List.mem_of_getElem? hy)⟩
  rw [addr_add0]
  exact own_cell h (by simp [begsV, hy])
theorem strip_xs (S : RkL) : (S.map (·.2)).map BegE.xs = (strip S).map (·.2) := by simp [strip, Function.comp_def]
end
section
set_option linter.unusedVariables false
open Go.RowKit
section
variable {cb : Nat} {s : Int} {O Kp : Nat → Prop} {W W' : World}
end
def sortedL (p : Pb) : List (List Int) := (srtK (keyC p) (allP p)).map (·.2)
/-- rows as a property of a value -/
def Y.MP.rr (L : List (List Int)) : Y.MP := ⟨fun v W => ∃ a c E, v = .slice a (List.length E) c ∧ RrAt W a E ∧ E.map BegE.xs = L ∧ E.length ≤ c ∧ E.length ≤ 1024, fun _ _ _ ⟨a, c, E, h1, h2, h3⟩ g => ⟨a, c, E, h1, h2.gr g, h3⟩⟩
theorem RwAt.rr {W : World} {B c : Nat} {a : Option Addr} {E : List BegE} (h : RwAt W B (.slice a E.length c) E) : RrAt W a E := fun i x hx => by
  obtain ⟨g, rfl, _⟩ := h.ex (by have := (List.getElem?_eq_some_iff.1 hx).1; omega)
  exact ⟨_, rfl, by rw [addr_add0]; exact h.cell hx, h.i x (List.mem_of_getElem? hx)⟩
end
section
open Go.RowKit

theorem within_isH (p : Pb) (x : Int) : withinB x 0 ((p.nh : Int) - 1) = isH p x := by
  unfold withinB isH
  congr 1
  rw [decide_eq_decide]; omega
/-- the error of a beginning, or of a plan -/
def wbE (wh : Bool) (p : Pb) (xs : List Int) : Int := if wh then whoE p xs else begE p xs
section
variable {p : Pb} {xs : List Int} {wh : Bool}
theorem wb_1 (h : ¬ chkE p = 0) : wbE wh p xs = chkE p := by
  have h1 : begE p xs = chkE p := by unfold begE; rw [if_pos h]
  unfold wbE whoE
  rw [h1, if_pos h]
  split <;> rfl
theorem beg_2 (h : chkE p = 0) (k : p.nt < xs.length ∨ hosB p xs = false) : begE p xs = 33 := by
  unfold begE; rw [if_neg (by rw [h]; decide), if_pos k]
theorem beg_3 (h : chkE p = 0) (k1 : ¬ p.nt < xs.length) (k2 : hosB p xs = true) : begE p xs = 0 := by
  unfold begE; rw [if_neg (by rw [h]; decide), if_neg (by rintro (e | e); exact k1 e; rw [k2] at e; cases e)]
theorem wb_2 (h : chkE p = 0) (k : p.nt < xs.length ∨ hosB p xs = false ∨ (wh = true ∧ xs.length < p.nt)) : wbE wh p xs = 33 := by
  by_cases e : p.nt < xs.length ∨ hosB p xs = false
  · have := beg_2 h e
    unfold wbE whoE
    rw [this]; cases wh <;> rfl
  · have k1 : ¬ p.nt < xs.length := fun x => e (.inl x)
    have k2 : hosB p xs = true := by cases x : hosB p xs with
      | true => rfl
      | false => exact absurd (.inr x) e
    rcases k with k | k | ⟨rfl, k⟩
    · exact absurd k k1
    · rw [k2] at k; cases k
    · unfold wbE whoE
      rw [beg_3 h k1 k2]
      simp [k]
theorem wb_3 (h : chkE p = 0) (k1 : ¬ p.nt < xs.length) (k2 : hosB p xs = true) (k3 : wh = false ∨ ¬ xs.length < p.nt) : wbE wh p xs = 0 := by
  unfold wbE whoE
  rw [beg_3 h k1 k2]
  rcases k3 with rfl | k3
  · rfl
  · simp [k3]
theorem who_1 (h : ¬ begE p xs = 0) : whoE p xs = begE p xs := by unfold whoE; rw [if_pos h]
theorem who_2 (h : begE p xs = 0) (k : xs.length < p.nt) : whoE p xs = 33 := by unfold whoE; rw [if_neg (by rw [h]; decide), if_pos k]
theorem who_3 (h : begE p xs = 0) (k : ¬ xs.length < p.nt) : whoE p xs = 0 := by unfold whoE; rw [if_neg (by rw [h]; decide), if_neg k]
end
def allowV (p : Pb) (xs : List Int) : Bool := decide (whoE p xs = 0) && !hopeB p (tim p) xs
section
variable {p : Pb} {xs : List Int}
theorem allow_0 (h : ¬ whoE p xs = 0) : allowV p xs = false := by unfold allowV; rw [decide_eq_false h]; rfl
theorem allow_1 (h : whoE p xs = 0) : allowV p xs = !hopeB p (tim p) xs := by unfold allowV; rw [decide_eq_true h]; rfl
theorem hund_100 (p : Pb) : hund p 100 = tim p := by
  funext i; unfold hund tim; omega
end
set_option maxRecDepth 100000 in
set_option maxHeartbeats 400000 in
theorem hos1_any (p : Pb) (ta ha ba la : Option Addr) (tc hc bc lc : Nat) (bp : Nat) (x : Int) (w : World) (hP : PbAt w p ta ha ba la tc hc bc lc) (hq : RCells w [(⟨bp, 0, none⟩, .slice ta p.nt tc), (⟨bp, 1, none⟩, .slice ha p.nh hc), (⟨bp, 2, none⟩, .slice ba p.nb bc), (⟨bp, 3, none⟩, .slice la p.nl lc)]) :
  Calls Try.prog 110 #[Vi x, Vp bp] w fun e w' => e = .returned (.bool (!isH p x)) ∧ Gr w w' := by
 have G := Gr.refl w
 have hpt := hP.t
 have hph := hP.h
 have hpb := hP.b
 have hpl := hP.l
 have hplen := hP.len
 obtain ⟨hn1, hn2, hn3, hn4⟩ := hplen
 have hcp1 := hpt.cap
 have hcp2 := hph.cap
 have hcp3 := hpb.cap
 have hcp4 := hpl.cap
 have hC := hq
 refine Y.calls 11 Try.func110 rfl rfl ?_
 intro ac F0
 have F : Fr ac 11 [(0, Vi x), (1, Vp bp)] := F0.sub _
 clear F0
 refine Y.sg F [(0, Vi x), (1, Vp bp)] (Y.pv F (X.assign rfl (X.kc (.bool false) rfl)) fun ac F=>Y.fin F) ?_;clear F ac;intro ac F
 refine Y.sl ?_
 refine Y.pv4 F (X.move rfl (F.ev 0 (Vi x))) (fun _ F=>X.field rfl (F.ev 1 (Vp bp)) (X.fld Try.underlying27 rfl (Try.siz23 _) rfl rfl)) (fun _ F=>X.load rfl (F.ev 5 (.pointer (some ⟨bp, 1, none⟩))) (X.ld1 (Try.agg23 _) (hC.at 1 rfl))) (fun _ F=>X.len1 Try.underlying23 rfl (F.ev 6 (.slice ha p.nh hc))) ?_;clear F ac;intro ac F
 refine Y.pv F (X.binop rfl (F.ev 7 (Vi p.nh)) (X.kc (Vi 1) rfl) (X.subI Try.underlying3 rfl (by omega) (by omega))) ?_;clear F ac;intro ac F
 refine Y.pc F 56 (X.a3 (F.ev 4 (Vi x)) (X.kc (Vi 0) rfl) (F.ev 8 (Vi ((p.nh : Int) - 1)))) Try.func56 (within_any x 0 ((p.nh : Int) - 1) w) ?_
 clear F ac
 rintro e w' ⟨rfl, hw_⟩
 obtain rfl : w = w' := hw_.symm
 clear hw_
 refine ⟨_, rfl, ?_⟩
 intro ac F
 refine Y.pv2 F (X.notB rfl (F.ev 9 (.bool (withinB x 0 ((p.nh : Int) - 1)))) rfl) (fun _ F=>X.assign rfl (F.ev 10 (.bool (!(withinB x 0 ((p.nh : Int) - 1)))))) ?_;clear F ac;intro ac F
 refine Y.nt F [(3, .bool (!(withinB x 0 ((p.nh : Int) - 1))))] ?_;clear F ac;intro ac F
 refine Y.ret ?_
 exact Y.ret0 (v := .bool (!(withinB x 0 ((p.nh : Int) - 1)))) F (Y.r1 F) ⟨by rw [within_isH], G⟩
set_option maxRecDepth 100000 in
set_option maxHeartbeats 400000 in
theorem idx115_any (p : Pb) (ta ha ba la : Option Addr) (tc hc bc lc : Nat) (a : Option Addr) (c : Nat) (xs : List Int) (bp : Nat) (w : World) (hP : PbAt w p ta ha ba la tc hc bc lc) (hX : Ints w a xs.length xs) (hq : RCells w [(⟨bp, 0, none⟩, .slice ta p.nt tc), (⟨bp, 1, none⟩, .slice ha p.nh hc), (⟨bp, 2, none⟩, .slice ba p.nb bc), (⟨bp, 3, none⟩, .slice la p.nl lc)]) :
  Calls Try.prog 115 #[.slice a xs.length c, .func (.func 110) #[] #[Vp bp]] w fun e w' => e = .returned (Vi (firI (fun i => !isH p (xs[i]?.getD 0)) xs.length)) ∧ Gr w w' := by
 have G := Gr.refl w
 have hpt := hP.t
 have hph := hP.h
 have hpb := hP.b
 have hpl := hP.l
 have hplen := hP.len
 obtain ⟨hn1, hn2, hn3, hn4⟩ := hplen
 have hcp1 := hpt.cap
 have hcp2 := hph.cap
 have hcp3 := hpb.cap
 have hcp4 := hpl.cap
 have hxs := hX
 have hlt := hxs.lt
 have hC := hq
 refine Y.calls 19 Try.func115 rfl rfl ?_
 intro ac F0
 have F : Fr ac 19 [(0, .slice a xs.length c), (1, .func (.func 110) #[] #[Vp bp])] := F0.sub _
 clear F0
 refine Y.sg F [(0, .slice a xs.length c), (1, .func (.func 110) #[] #[Vp bp])] (Y.pv F (X.assign rfl (X.kc (Vi 0) rfl)) fun ac F=>Y.fin F) ?_;clear F ac;intro ac F
 refine Y.seq ?_
 refine Y.sg F [(0, .slice a xs.length c), (1, .func (.func 110) #[] #[Vp bp]), (7, Vi xs.length), (8, Vi 0)] (Y.pv F (X.move rfl (F.ev 0 (.slice a xs.length c))) fun ac F=>Y.pv F (X.len1 Try.underlying34 rfl (F.ev 6 (.slice a xs.length c))) fun ac F=>Y.pv F (X.move rfl (X.kc (Vi 0) rfl)) fun ac F=>Y.fin F) ?_;clear F ac;intro ac F
 refine Y.block ?_
 have hptB := hpt
 have hphB := hph
 have hpbB := hpb
 have hplB := hpl
 have hxsB := hxs
 have hCB := hC
 have GB := G
 refine Y.loop (fun me_ ac wr => ∃ (i : Nat), me_ = xs.length - i ∧ Gr w wr ∧ i ≤ xs.length ∧ allN (fun i => !(!isH p (xs[i]?.getD 0))) i = true ∧ Fr ac 19 [(0, .slice a xs.length c), (1, .func (.func 110) #[] #[Vp bp]), (7, Vi xs.length), (8, Vi i)]) _ ⟨0, rfl, Gr.refl _, Nat.zero_le _, rfl, F.sub _⟩ ?_
 clear F
 intro me_ ac w3 hI
 obtain ⟨i, rfl, gr, hi0, hok, F⟩ := hI
 replace G := GB.trans gr
 replace hC := hCB.gr gr
 replace hpt := hptB.gr gr
 replace hph := hphB.gr gr
 replace hpb := hpbB.gr gr
 replace hpl := hplB.gr gr
 replace hxs := hxsB.gr gr
 have GB_ := gr
 clear gr
 refine Y.sg F [(0, .slice a xs.length c), (1, .func (.func 110) #[] #[Vp bp]), (7, Vi xs.length), (8, Vi i), (9, .bool (decide ((i : Int) < xs.length)))] (Y.pv F (X.binop rfl (F.ev 8 (Vi i)) (F.ev 7 (Vi xs.length)) (X.lssI Try.underlying3 rfl)) fun ac F=>Y.fin F) ?_;clear F ac;intro ac F
 refine Y.seq ?_
 cases h4 : decide ((i : Int) < xs.length) with
 | false =>
  try rw [h4] at F
  have h4p : ¬ ((i : Int) < xs.length) := of_decide_eq_false h4
  obtain rfl : i = xs.length := by omega
  refine Y.condF (F.ev 9 (.bool false)) ?_
  refine Y.exit ?_
  refine X.thenX (X.thenX (X.blockX (X.thenN ?_)))
  refine Y.sg F [(4, Vi (-1))] (Y.pv F (X.assign rfl (X.kc (Vi (-1)) rfl)) fun ac F=>Y.fin F) ?_;clear F ac;intro ac F
  refine Y.ret ?_
  exact Y.ret0 (v := Vi (-1)) F (Y.r1 F) ⟨ret_int ((firI_none hok).symm), G⟩
 | true =>
  try rw [h4] at F
  have h4p : ((i : Int) < xs.length) := of_decide_eq_true h4
  have hi : i < xs.length := by omega
  refine Y.condT (F.ev 9 (.bool true)) ?_
  refine Y.skip ?_
  refine X.thenN ?_
  refine Y.seq ?_
  refine Y.block ?_
  refine Y.sg F [(0, .slice a xs.length c), (1, .func (.func 110) #[] #[Vp bp]), (5, Vi i), (7, Vi xs.length), (8, Vi i)] (Y.pv F (X.move rfl (F.ev 8 (Vi i))) fun ac F=>Y.pv F (X.assign rfl (F.ev 10 (Vi i))) fun ac F=>Y.fin F) ?_;clear F ac;intro ac F
  refine Y.sl ?_
  refine Y.pv3 F (X.move rfl (F.ev 1 (.func (.func 110) #[] #[Vp bp]))) (fun _ F=>X.move rfl (F.ev 0 (.slice a xs.length c))) (fun _ F=>X.move rfl (F.ev 5 (Vi i))) ?_;clear F ac;intro ac F
  obtain ⟨pd5, pe5, -, pc5⟩ := hxs.at (j := i) (by omega)
  subst pe5
  replace hC := hC.append (show RCells w3 ([(pd5.add i, Vi (xs[i]?.getD 0))]) from (RCells.cons pc5 (RCells.nil _)))
  clear pc5
  refine Y.pval F (X.w0 rfl) rfl (X.index rfl (F.ev 12 (.slice (some pd5) xs.length c)) (F.ev 13 (Vi i)) (X.idx (k := i) Try.underlying34 (Try.siz3 _) (by omega) (by omega) (by rw [Nat.mul_one]))) ?_;clear F ac;intro ac F
  refine Y.pv F (X.load rfl (F.ev 14 (.pointer (some (pd5.add i)))) (X.ld1 (Try.agg3 _) (hC.at 4 rfl))) ?_;clear F ac;intro ac F
  refine Y.pcall F (X.w0 rfl) rfl (X.enter (F := 110) rfl (F.ev 11 (.func (.func 110) #[] #[Vp bp])) (X.a1 (F.ev 15 (Vi (xs[i]?.getD 0)))) (enters_of Try.func110 (by kernel_rfl) rfl _)) (hos1_any p ta ha ba la tc hc bc lc bp (xs[i]?.getD 0) w3 (hP.gr G) (hq.gr G)) ?_
  clear F ac
  rintro e w6 ⟨rfl, g⟩
  refine ⟨_, rfl, ?_⟩
  intro ac F
  replace G := G.trans g
  replace hC := hC.gr g
  replace GB_ := GB_.trans g
  replace hpt := hpt.gr g
  replace hph := hph.gr g
  replace hpb := hpb.gr g
  replace hpl := hpl.gr g
  replace hxs := hxs.gr g
  clear g
  refine Y.nt F [(0, .slice (some pd5) xs.length c), (1, .func (.func 110) #[] #[Vp bp]), (5, Vi i), (7, Vi xs.length), (8, Vi i), (16, .bool (!isH p (xs[i]?.getD 0)))] ?_;clear F ac;intro ac F
  cases h7 : isH p (xs[i]?.getD 0) with
  | false =>
   try rw [h7] at F
   refine Y.condT (F.ev 16 (.bool true)) ?_
   refine Y.sg F [(4, Vi i)] (Y.pv F (X.move rfl (F.ev 5 (Vi i))) fun ac F=>Y.pv F (X.assign rfl (F.ev 17 (Vi i))) fun ac F=>Y.fin F) ?_;clear F ac;intro ac F
   refine Y.ret ?_
   refine X.blockR (X.thenR (X.thenR (X.blockR (X.thenR ?_))))
   exact Y.ret0 (v := Vi i) F (Y.r1 F) ⟨ret_int ((firI_some (f := fun i => !isH p (xs[i]?.getD 0)) hi hok (by simp [h7])).symm), G⟩
  | true =>
   try rw [h7] at F
   refine Y.condF (F.ev 16 (.bool false)) ?_
   refine Y.skip ?_
   refine X.blockN (X.thenN ?_)
   refine Y.lg F [(0, .slice (some pd5) xs.length c), (1, .func (.func 110) #[] #[Vp bp]), (7, Vi xs.length), (8, Vi ((i : Int) + 1))] (by
    refine Y.pv F (X.binop rfl (F.ev 8 (Vi i)) (X.kc (Vi 1) rfl) (X.addI Try.underlying3 rfl (by omega) (by omega))) fun ac F=>?_
    refine Y.pv F (X.move rfl (F.ev 18 (Vi ((i : Int) + 1)))) fun ac F=>?_
    exact Y.fin F) ?_;clear F ac;intro ac F
   refine ⟨_, ?_, i + 1, rfl, GB_, by omega, allN_succ hok (by simp [h7]), F.sub _⟩
   omega
set_option maxRecDepth 100000 in
set_option maxHeartbeats 400000 in
theorem con94_any (p : Pb) (ta ha ba la : Option Addr) (tc hc bc lc : Nat) (a : Option Addr) (c : Nat) (xs : List Int) (bp : Nat) (w : World) (hP : PbAt w p ta ha ba la tc hc bc lc) (hX : Ints w a xs.length xs) (hq : RCells w [(⟨bp, 0, none⟩, .slice ta p.nt tc), (⟨bp, 1, none⟩, .slice ha p.nh hc), (⟨bp, 2, none⟩, .slice ba p.nb bc), (⟨bp, 3, none⟩, .slice la p.nl lc)]) :
  Calls Try.prog 94 #[.slice a xs.length c, .func (.func 110) #[] #[Vp bp]] w fun e w' => e = .returned (.bool (!hosB p xs)) ∧ Gr w w' := by
 have G := Gr.refl w
 have hpt := hP.t
 have hph := hP.h
 have hpb := hP.b
 have hpl := hP.l
 have hplen := hP.len
 obtain ⟨hn1, hn2, hn3, hn4⟩ := hplen
 have hcp1 := hpt.cap
 have hcp2 := hph.cap
 have hcp3 := hpb.cap
 have hcp4 := hpl.cap
 have hxs := hX
 have hlt := hxs.lt
 have hC := hq
 refine Y.calls 9 Try.func94 rfl rfl ?_
 intro ac F0
 have F : Fr ac 9 [(0, .slice a xs.length c), (1, .func (.func 110) #[] #[Vp bp])] := F0.sub _
 clear F0
 refine Y.sg F [(0, .slice a xs.length c), (1, .func (.func 110) #[] #[Vp bp])] (Y.pv F (X.assign rfl (X.kc (.bool false) rfl)) fun ac F=>Y.fin F) ?_;clear F ac;intro ac F
 refine Y.sl ?_
 refine Y.pv2 F (X.move rfl (F.ev 0 (.slice a xs.length c))) (fun _ F=>X.move rfl (F.ev 1 (.func (.func 110) #[] #[Vp bp]))) ?_;clear F ac;intro ac F
 refine Y.pc F 115 (X.a2 (F.ev 5 (.slice a xs.length c)) (F.ev 6 (.func (.func 110) #[] #[Vp bp]))) Try.func115 (idx115_any p ta ha ba la tc hc bc lc a c xs bp w (hP.gr G) (hX.gr G) (hq.gr G)) ?_
 clear F ac
 rintro e w3 ⟨rfl, g⟩
 refine ⟨_, rfl, ?_⟩
 intro ac F
 replace G := G.trans g
 replace hC := hC.gr g
 replace hpt := hpt.gr g
 replace hph := hph.gr g
 replace hpb := hpb.gr g
 replace hpl := hpl.gr g
 replace hxs := hxs.gr g
 clear g
 refine Y.pv2 F (X.binop rfl (F.ev 7 (Vi (firI (fun i => !isH p (xs[i]?.getD 0)) xs.length))) (X.kc (Vi 0) rfl) (X.geqI Try.underlying3 rfl)) (fun _ F=>X.assign rfl (F.ev 8 (.bool (decide ((0 : Int) ≤ (firI (fun i => !isH p (xs[i]?.getD 0)) xs.length)))))) ?_;clear F ac;intro ac F
 refine Y.nt F [(4, .bool (decide ((0 : Int) ≤ (firI (fun i => !isH p (xs[i]?.getD 0)) xs.length))))] ?_;clear F ac;intro ac F
 refine Y.ret ?_
 exact Y.ret0 (v := .bool (decide ((0 : Int) ≤ (firI (fun i => !isH p (xs[i]?.getD 0)) xs.length)))) F (Y.r1 F) ⟨by rw [firI_any (f := fun i => !isH p (xs[i]?.getD 0)), not_notB]; rfl, G⟩
set_option maxRecDepth 100000 in
set_option maxHeartbeats 400000 in
theorem hosted_any (p : Pb) (ta ha ba la : Option Addr) (tc hc bc lc : Nat) (a : Option Addr) (c : Nat) (xs : List Int) (w : World) (hP : PbAt w p ta ha ba la tc hc bc lc) (hX : Ints w a xs.length xs) :
  Calls Try.prog 88 #[.agg #[.slice ta p.nt tc, .slice ha p.nh hc, .slice ba p.nb bc, .slice la p.nl lc], .slice a xs.length c] w fun e w' => e = .returned (.bool (hosB p xs)) ∧ Gr w w' := by
 have G := Gr.refl w
 have hpt := hP.t
 have hph := hP.h
 have hpb := hP.b
 have hpl := hP.l
 have hplen := hP.len
 obtain ⟨hn1, hn2, hn3, hn4⟩ := hplen
 have hcp1 := hpt.cap
 have hcp2 := hph.cap
 have hcp3 := hpb.cap
 have hcp4 := hpl.cap
 have hxs := hX
 have hlt := hxs.lt
 refine Y.calls 9 Try.func88 rfl rfl ?_
 intro ac F0
 have F : Fr ac 9 [(0, .agg #[.slice ta p.nt tc, .slice ha p.nh hc, .slice ba p.nb bc, .slice la p.nl lc]), (1, .slice a xs.length c)] := F0.sub _
 clear F0
 refine Y.sl ?_
 have hgs3 : w.heap.size ≤ w.heap.size := G.size
 refine Y.pv F (X.box rfl (F.ev 0 (.agg #[.slice ta p.nt tc, .slice ha p.nh hc, .slice ba p.nb bc, .slice la p.nl lc])) X.bx) ?_;clear F ac;intro ac F
 have hgs5 : w.heap.size ≤ w.heap.size := G.size
 obtain ⟨w6, hw_, g, hb, hbl, hC2⟩ := Y.bxd (RCells.nil w) #[.slice ta p.nt tc, .slice ha p.nh hc, .slice ba p.nb bc, .slice la p.nl lc] 27;rw [hw_];clear hw_
 replace G := G.trans g
 have hC := hC2
 clear hC2
 replace hpt := hpt.gr g
 replace hph := hph.gr g
 replace hpb := hpb.gr g
 replace hpl := hpl.gr g
 replace hxs := hxs.gr g
 have hsz4 := hbl
 clear g hb hbl
 refine Y.pv F (X.assign rfl (X.kc (.bool false) rfl)) ?_;clear F ac;intro ac F
 refine Y.nt F [(1, .slice a xs.length c), (2, Vp w.heap.size)] ?_;clear F ac;intro ac F
 refine Y.sl ?_
 refine Y.pv2 F (X.move rfl (F.ev 1 (.slice a xs.length c))) (fun _ F=>Y.fnc rfl (Y.m1 (F.ev 2 (Vp w.heap.size)))) ?_;clear F ac;intro ac F
 refine Y.pc F 94 (X.a2 (F.ev 5 (.slice a xs.length c)) (F.ev 6 (.func (.func 110) #[] #[Vp w.heap.size]))) Try.func94 (con94_any p ta ha ba la tc hc bc lc a c xs w.heap.size w6 (hP.gr G) (hX.gr G) ((RCells.cons (hC.at 0 rfl) (RCells.cons (hC.at 1 rfl) (RCells.cons (hC.at 2 rfl) (RCells.cons (hC.at 3 rfl) (RCells.nil _))))))) ?_
 clear F ac
 rintro e w7 ⟨rfl, g⟩
 refine ⟨_, rfl, ?_⟩
 intro ac F
 replace G := G.trans g
 replace hC := hC.gr g
 replace hpt := hpt.gr g
 replace hph := hph.gr g
 replace hpb := hpb.gr g
 replace hpl := hpl.gr g
 replace hxs := hxs.gr g
 clear g
 refine Y.pv2 F (X.notB rfl (F.ev 7 (.bool (!hosB p xs))) rfl) (fun _ F=>X.assign rfl (F.ev 8 (.bool (!(!hosB p xs))))) ?_;clear F ac;intro ac F
 refine Y.nt F [(4, .bool (!(!hosB p xs)))] ?_;clear F ac;intro ac F
 refine Y.ret ?_
 exact Y.ret0 (v := .bool (!(!hosB p xs))) F (Y.r1 F) ⟨by rw [Bool.not_not], G⟩
set_option maxRecDepth 100000 in
set_option maxHeartbeats 1000000 in
theorem begun_any (p : Pb) (ta ha ba la : Option Addr) (tc hc bc lc : Nat) (a : Option Addr) (c : Nat) (xs : List Int) (wh : Bool) (w : World) (hP : PbAt w p ta ha ba la tc hc bc lc) (hX : Ints w a xs.length xs) :
  Calls Try.prog 71 #[.agg #[.slice ta p.nt tc, .slice ha p.nh hc, .slice ba p.nb bc, .slice la p.nl lc], .slice a xs.length c, .bool wh] w fun e w' => e = .returned (Vi (wbE wh p xs)) ∧ Gr w w' := by
 have G := Gr.refl w
 have hpt := hP.t
 have hph := hP.h
 have hpb := hP.b
 have hpl := hP.l
 have hplen := hP.len
 obtain ⟨hn1, hn2, hn3, hn4⟩ := hplen
 have hcp1 := hpt.cap
 have hcp2 := hph.cap
 have hcp3 := hpb.cap
 have hcp4 := hpl.cap
 have hxs := hX
 have hlt := hxs.lt
 refine Y.calls 36 Try.func71 rfl rfl ?_
 intro ac F0
 have F : Fr ac 36 [(0, .agg #[.slice ta p.nt tc, .slice ha p.nh hc, .slice ba p.nb bc, .slice la p.nl lc]), (1, .slice a xs.length c), (2, .bool wh)] := F0.sub _
 clear F0
 refine Y.sl ?_
 have hgs3 : w.heap.size ≤ w.heap.size := G.size
 refine Y.pv F (X.box rfl (F.ev 0 (.agg #[.slice ta p.nt tc, .slice ha p.nh hc, .slice ba p.nb bc, .slice la p.nl lc])) X.bx) ?_;clear F ac;intro ac F
 have hgs5 : w.heap.size ≤ w.heap.size := G.size
 obtain ⟨w6, hw_, g, hb, hbl, hC2⟩ := Y.bxd (RCells.nil w) #[.slice ta p.nt tc, .slice ha p.nh hc, .slice ba p.nb bc, .slice la p.nl lc] 27;rw [hw_];clear hw_
 replace G := G.trans g
 have hC := hC2
 clear hC2
 replace hpt := hpt.gr g
 replace hph := hph.gr g
 replace hpb := hpb.gr g
 replace hpl := hpl.gr g
 replace hxs := hxs.gr g
 have hsz4 := hbl
 clear g hb hbl
 refine Y.pv F (X.assign rfl (X.kc (Vi 0) rfl)) ?_;clear F ac;intro ac F
 refine Y.nt F [(1, .slice a xs.length c), (2, .bool wh), (3, Vp w.heap.size)] ?_;clear F ac;intro ac F
 refine Y.seq ?_
 refine Y.sl ?_
 refine Y.pv F (X.load rfl (F.ev 3 (Vp w.heap.size)) (X.ldN (Try.agg27 _) (Try.siz27 _) (Y.atz (⟨w.heap.size, 0, none⟩) (Y.AtFrom.cons (hC.at 0 rfl) (Y.AtFrom.cons (hC.at 1 rfl) (Y.AtFrom.cons (hC.at 2 rfl) (Y.AtFrom.cons (hC.at 3 rfl) (Y.AtFrom.nil _ _ _)))))))) ?_;clear F ac;intro ac F
 refine Y.pc F 18 (X.a1 (F.ev 8 (.agg #[.slice ta p.nt tc, .slice ha p.nh hc, .slice ba p.nb bc, .slice la p.nl lc]))) Try.func18 (check_any p ta ha ba la tc hc bc lc w6 (hP.gr G)) ?_
 clear F ac
 rintro e w7 ⟨rfl, g⟩
 refine ⟨_, rfl, ?_⟩
 intro ac F
 replace G := G.trans g
 replace hC := hC.gr g
 replace hpt := hpt.gr g
 replace hph := hph.gr g
 replace hpb := hpb.gr g
 replace hpl := hpl.gr g
 replace hxs := hxs.gr g
 clear g
 refine Y.pv F (X.assign rfl (F.ev 9 (Vi (chkE p)))) ?_;clear F ac;intro ac F
 refine Y.nt F [(1, .slice a xs.length c), (2, .bool wh), (3, Vp w.heap.size), (7, Vi (chkE p))] ?_;clear F ac;intro ac F
 refine Y.sg F [(1, .slice a xs.length c), (2, .bool wh), (3, Vp w.heap.size), (7, Vi (chkE p)), (11, .bool ((chkE p : Int) != 0))] (Y.pv F (X.move rfl (F.ev 7 (Vi (chkE p)))) fun ac F=>Y.pv F (X.binop rfl (F.ev 10 (Vi (chkE p))) (X.kc (Vi 0) rfl) (X.neqI Try.underlying31 rfl)) fun ac F=>Y.fin F) ?_;clear F ac;intro ac F
 cases h8 : ((chkE p : Int) != 0) with
 | false =>
  try rw [h8] at F
  have h8p : (chkE p : Int) = 0 := by simpa using h8
  refine Y.condF (F.ev 11 (.bool false)) ?_
  refine Y.skip ?_
  refine X.thenN ?_
  refine Y.seq ?_
  refine Y.sl ?_
  refine Y.pv4 F (X.move rfl (F.ev 1 (.slice a xs.length c))) (fun _ F=>X.len1 Try.underlying34 rfl (F.ev 13 (.slice a xs.length c))) (fun _ F=>X.field rfl (F.ev 3 (Vp w.heap.size)) (X.fld Try.underlying27 rfl (Try.siz22 _) rfl rfl)) (fun _ F=>X.load rfl (F.ev 15 (Vp w.heap.size)) (X.ld1 (Try.agg22 _) (hC.at 0 rfl))) ?_;clear F ac;intro ac F
  refine Y.pv3 F (X.len1 Try.underlying22 rfl (F.ev 16 (.slice ta p.nt tc))) (fun _ F=>X.binop rfl (F.ev 14 (Vi xs.length)) (F.ev 17 (Vi p.nt)) (X.gtrI Try.underlying3 rfl)) (fun _ F=>X.move rfl (F.ev 18 (.bool (decide ((p.nt : Int) < xs.length))))) ?_;clear F ac;intro ac F
  cases h9 : decide ((p.nt : Int) < xs.length) with
  | false =>
   try rw [h9] at F
   have h9p : ¬ ((p.nt : Int) < xs.length) := of_decide_eq_false h9
   refine Y.pg F 6 19 false (X.move rfl (F.ev 2 (.bool wh))) ?_;clear F ac;intro ac F
   refine Y.pg F 6 19 false (X.move rfl (F.ev 20 (.bool wh))) ?_;clear F ac;intro ac F
   cases h10 : wh with
   | false =>
    try rw [h10] at F
    refine Y.ps F 8 21 false ?_;clear F ac;intro ac F
    refine Y.ps F 8 21 false ?_;clear F ac;intro ac F
    refine Y.ps F 8 21 false ?_;clear F ac;intro ac F
    refine Y.ps F 8 21 false ?_;clear F ac;intro ac F
    refine Y.ps F 8 21 false ?_;clear F ac;intro ac F
    refine Y.ps F 8 21 false ?_;clear F ac;intro ac F
    refine Y.pg F 6 19 false (X.pickF rfl (F.ev 21 (.bool false)) (X.kc (.bool false) rfl)) ?_;clear F ac;intro ac F
    refine Y.pv2 F (X.pickF rfl (F.ev 19 (.bool false)) (F.ev 28 (.bool false))) (fun _ F=>X.move rfl (F.ev 29 (.bool false))) ?_;clear F ac;intro ac F
    refine Y.pg F 17 30 false (X.load rfl (F.ev 3 (Vp w.heap.size)) (X.ldN (Try.agg27 _) (Try.siz27 _) (Y.atz (⟨w.heap.size, 0, none⟩) (Y.AtFrom.cons (hC.at 0 rfl) (Y.AtFrom.cons (hC.at 1 rfl) (Y.AtFrom.cons (hC.at 2 rfl) (Y.AtFrom.cons (hC.at 3 rfl) (Y.AtFrom.nil _ _ _)))))))) ?_;clear F ac;intro ac F
    refine Y.pg F 17 30 false (X.move rfl (F.ev 1 (.slice a xs.length c))) ?_;clear F ac;intro ac F
    refine Y.pcall F (X.w1 rfl (F.yl (j := 17) (d := 30) (b := false) rfl (by kernel_rfl))) rfl (X.enter (F := 88) rfl (X.kc (.func (.func 88) #[] #[]) rfl) (X.a2 (F.ev 31 (.agg #[.slice ta p.nt tc, .slice ha p.nh hc, .slice ba p.nb bc, .slice la p.nl lc])) (F.ev 32 (.slice a xs.length c))) (enters_of Try.func88 (by kernel_rfl) rfl _)) (hosted_any p ta ha ba la tc hc bc lc a c xs w7 (hP.gr G) (hX.gr G)) ?_
    clear F ac
    rintro e w11 ⟨rfl, g⟩
    refine ⟨_, rfl, ?_⟩
    intro ac F
    replace G := G.trans g
    replace hC := hC.gr g
    replace hpt := hpt.gr g
    replace hph := hph.gr g
    replace hpb := hpb.gr g
    replace hpl := hpl.gr g
    replace hxs := hxs.gr g
    clear g
    refine Y.pg F 17 30 false (X.notB rfl (F.ev 33 (.bool (hosB p xs))) rfl) ?_;clear F ac;intro ac F
    refine Y.pv F (X.pickF rfl (F.ev 30 (.bool false)) (F.ev 34 (.bool (!(hosB p xs))))) ?_;clear F ac;intro ac F
    refine Y.nt F [(35, .bool (!(hosB p xs)))] ?_;clear F ac;intro ac F
    cases h12 : hosB p xs with
    | false =>
     try rw [h12] at F
     refine Y.condT (F.ev 35 (.bool true)) ?_
     refine Y.sg F [(6, Vi 33)] (Y.pv F (X.assign rfl (X.kc (Vi 33) rfl)) fun ac F=>Y.fin F) ?_;clear F ac;intro ac F
     refine Y.ret ?_
     refine X.thenR ?_
     exact Y.ret0 (v := Vi 33) F (Y.r1 F) ⟨by rw [wb_2 (by omega) (.inr (.inl h12))], G⟩
    | true =>
     try rw [h12] at F
     refine Y.condF (F.ev 35 (.bool false)) ?_
     refine Y.skip ?_
     refine X.thenN ?_
     refine Y.sg F [(6, Vi 0)] (Y.pv F (X.assign rfl (X.kc (Vi 0) rfl)) fun ac F=>Y.fin F) ?_;clear F ac;intro ac F
     refine Y.ret ?_
     exact Y.ret0 (v := Vi 0) F (Y.r1 F) ⟨by rw [wb_3 (by omega) (by omega) h12 (.inl rfl)], G⟩
   | true =>
    try rw [h10] at F
    refine Y.pg F 8 21 true (X.move rfl (F.ev 1 (.slice a xs.length c))) ?_;clear F ac;intro ac F
    refine Y.pg F 8 21 true (X.len1 Try.underlying34 rfl (F.ev 22 (.slice a xs.length c))) ?_;clear F ac;intro ac F
    refine Y.pg F 8 21 true (X.field rfl (F.ev 3 (Vp w.heap.size)) (X.fld Try.underlying27 rfl (Try.siz22 _) rfl rfl)) ?_;clear F ac;intro ac F
    refine Y.pg F 8 21 true (X.load rfl (F.ev 24 (Vp w.heap.size)) (X.ld1 (Try.agg22 _) (hC.at 0 rfl))) ?_;clear F ac;intro ac F
    refine Y.pg F 8 21 true (X.len1 Try.underlying22 rfl (F.ev 25 (.slice ta p.nt tc))) ?_;clear F ac;intro ac F
    refine Y.pg F 8 21 true (X.binop rfl (F.ev 23 (Vi xs.length)) (F.ev 26 (Vi p.nt)) (X.lssI Try.underlying3 rfl)) ?_;clear F ac;intro ac F
    refine Y.pg F 6 19 false (X.pickT rfl (F.ev 21 (.bool true)) (F.ev 27 (.bool (decide ((xs.length : Int) < p.nt))))) ?_;clear F ac;intro ac F
    refine Y.pv2 F (X.pickF rfl (F.ev 19 (.bool false)) (F.ev 28 (.bool (decide ((xs.length : Int) < p.nt))))) (fun _ F=>X.move rfl (F.ev 29 (.bool (decide ((xs.length : Int) < p.nt))))) ?_;clear F ac;intro ac F
    cases h13 : decide ((xs.length : Int) < p.nt) with
    | false =>
     try rw [h13] at F
     have h13p : ¬ ((xs.length : Int) < p.nt) := of_decide_eq_false h13
     refine Y.pg F 17 30 false (X.load rfl (F.ev 3 (Vp w.heap.size)) (X.ldN (Try.agg27 _) (Try.siz27 _) (Y.atz (⟨w.heap.size, 0, none⟩) (Y.AtFrom.cons (hC.at 0 rfl) (Y.AtFrom.cons (hC.at 1 rfl) (Y.AtFrom.cons (hC.at 2 rfl) (Y.AtFrom.cons (hC.at 3 rfl) (Y.AtFrom.nil _ _ _)))))))) ?_;clear F ac;intro ac F
     refine Y.pg F 17 30 false (X.move rfl (F.ev 1 (.slice a xs.length c))) ?_;clear F ac;intro ac F
     refine Y.pcall F (X.w1 rfl (F.yl (j := 17) (d := 30) (b := false) rfl (by kernel_rfl))) rfl (X.enter (F := 88) rfl (X.kc (.func (.func 88) #[] #[]) rfl) (X.a2 (F.ev 31 (.agg #[.slice ta p.nt tc, .slice ha p.nh hc, .slice ba p.nb bc, .slice la p.nl lc])) (F.ev 32 (.slice a xs.length c))) (enters_of Try.func88 (by kernel_rfl) rfl _)) (hosted_any p ta ha ba la tc hc bc lc a c xs w7 (hP.gr G) (hX.gr G)) ?_
     clear F ac
     rintro e w14 ⟨rfl, g⟩
     refine ⟨_, rfl, ?_⟩
     intro ac F
     replace G := G.trans g
     replace hC := hC.gr g
     replace hpt := hpt.gr g
     replace hph := hph.gr g
     replace hpb := hpb.gr g
     replace hpl := hpl.gr g
     replace hxs := hxs.gr g
     clear g
     refine Y.pg F 17 30 false (X.notB rfl (F.ev 33 (.bool (hosB p xs))) rfl) ?_;clear F ac;intro ac F
     refine Y.pv F (X.pickF rfl (F.ev 30 (.bool false)) (F.ev 34 (.bool (!(hosB p xs))))) ?_;clear F ac;intro ac F
     refine Y.nt F [(35, .bool (!(hosB p xs)))] ?_;clear F ac;intro ac F
     cases h15 : hosB p xs with
     | false =>
      try rw [h15] at F
      refine Y.condT (F.ev 35 (.bool true)) ?_
      refine Y.sg F [(6, Vi 33)] (Y.pv F (X.assign rfl (X.kc (Vi 33) rfl)) fun ac F=>Y.fin F) ?_;clear F ac;intro ac F
      refine Y.ret ?_
      refine X.thenR ?_
      exact Y.ret0 (v := Vi 33) F (Y.r1 F) ⟨by rw [wb_2 (by omega) (.inr (.inl h15))], G⟩
     | true =>
      try rw [h15] at F
      refine Y.condF (F.ev 35 (.bool false)) ?_
      refine Y.skip ?_
      refine X.thenN ?_
      refine Y.sg F [(6, Vi 0)] (Y.pv F (X.assign rfl (X.kc (Vi 0) rfl)) fun ac F=>Y.fin F) ?_;clear F ac;intro ac F
      refine Y.ret ?_
      exact Y.ret0 (v := Vi 0) F (Y.r1 F) ⟨by rw [wb_3 (by omega) (by omega) h15 (.inr (by omega))], G⟩
    | true =>
     try rw [h13] at F
     have h13p : ((xs.length : Int) < p.nt) := of_decide_eq_true h13
     refine Y.ps F 17 30 true ?_;clear F ac;intro ac F
     refine Y.ps F 17 30 true ?_;clear F ac;intro ac F
     refine Y.ps F 17 30 true ?_;clear F ac;intro ac F
     refine Y.ps F 17 30 true ?_;clear F ac;intro ac F
     refine Y.pv F (X.pickT rfl (F.ev 30 (.bool true)) (X.kc (.bool true) rfl)) ?_;clear F ac;intro ac F
     refine Y.nt F [(35, .bool true)] ?_;clear F ac;intro ac F
     refine Y.condT (F.ev 35 (.bool true)) ?_
     refine Y.sg F [(6, Vi 33)] (Y.pv F (X.assign rfl (X.kc (Vi 33) rfl)) fun ac F=>Y.fin F) ?_;clear F ac;intro ac F
     refine Y.ret ?_
     refine X.thenR ?_
     exact Y.ret0 (v := Vi 33) F (Y.r1 F) ⟨by rw [wb_2 (by omega) (.inr (.inr ⟨rfl, by omega⟩))], G⟩
  | true =>
   try rw [h9] at F
   have h9p : ((p.nt : Int) < xs.length) := of_decide_eq_true h9
   refine Y.ps F 6 19 true ?_;clear F ac;intro ac F
   refine Y.ps F 6 19 true ?_;clear F ac;intro ac F
   refine Y.pn F 8 21 ?_;clear F ac;intro ac F
   refine Y.pn F 8 21 ?_;clear F ac;intro ac F
   refine Y.pn F 8 21 ?_;clear F ac;intro ac F
   refine Y.pn F 8 21 ?_;clear F ac;intro ac F
   refine Y.pn F 8 21 ?_;clear F ac;intro ac F
   refine Y.pn F 8 21 ?_;clear F ac;intro ac F
   refine Y.ps F 6 19 true ?_;clear F ac;intro ac F
   refine Y.pv2 F (X.pickT rfl (F.ev 19 (.bool true)) (X.kc (.bool true) rfl)) (fun _ F=>X.move rfl (F.ev 29 (.bool true))) ?_;clear F ac;intro ac F
   refine Y.ps F 17 30 true ?_;clear F ac;intro ac F
   refine Y.ps F 17 30 true ?_;clear F ac;intro ac F
   refine Y.ps F 17 30 true ?_;clear F ac;intro ac F
   refine Y.ps F 17 30 true ?_;clear F ac;intro ac F
   refine Y.pv F (X.pickT rfl (F.ev 30 (.bool true)) (X.kc (.bool true) rfl)) ?_;clear F ac;intro ac F
   refine Y.nt F [(35, .bool true)] ?_;clear F ac;intro ac F
   refine Y.condT (F.ev 35 (.bool true)) ?_
   refine Y.sg F [(6, Vi 33)] (Y.pv F (X.assign rfl (X.kc (Vi 33) rfl)) fun ac F=>Y.fin F) ?_;clear F ac;intro ac F
   refine Y.ret ?_
   refine X.thenR ?_
   exact Y.ret0 (v := Vi 33) F (Y.r1 F) ⟨by rw [wb_2 (by omega) (.inl (by omega))], G⟩
 | true =>
  try rw [h8] at F
  have h8p : ¬ (chkE p : Int) = 0 := by simpa using h8
  refine Y.condT (F.ev 11 (.bool true)) ?_
  refine Y.sg F [(6, Vi (chkE p))] (Y.pv F (X.move rfl (F.ev 7 (Vi (chkE p)))) fun ac F=>Y.pv F (X.assign rfl (F.ev 12 (Vi (chkE p)))) fun ac F=>Y.fin F) ?_;clear F ac;intro ac F
  refine Y.ret ?_
  refine X.thenR ?_
  exact Y.ret0 (v := Vi (chkE p)) F (Y.r1 F) ⟨by rw [wb_1 (by omega)], G⟩
end
section
set_option linter.unusedVariables false
open Go.RowKit
/-- in how many of the first k two lists differ -/
def difN (xs ys : List Int) : Nat → Int
  | 0 => 0
  | k + 1 => difN xs ys k + if xg xs k = xg ys k then 0 else 1
theorem difN_bd {xs ys : List Int} : ∀ {k : Nat}, 0 ≤ difN xs ys k ∧ difN xs ys k ≤ k := by
  intro k
  induction k with
  | zero => simp [difN]
  | succ k ih => simp only [difN]; split <;> omega
theorem difN_app {xs ys : List Int} {h : Int} : ∀ {k : Nat}, k ≤ xs.length → difN (xs ++ [h]) ys k = difN xs ys k := by
  intro k
  induction k with
  | zero => intro _; rfl
  | succ k ih => intro hk; simp only [difN]; rw [ih (by omega), xg_app (by omega)]
theorem usedN_app {xs : List Int} {h z : Int} : ∀ {k : Nat}, k ≤ xs.length → usedN (xs ++ [z]) h k = usedN xs h k := by
  intro k
  induction k with
  | zero => intro _; rfl
  | succ k ih => intro hk; simp only [usedN]; rw [ih (by omega), xg_app (by omega)]
def difV (xs ys : List Int) : Int := difN xs ys xs.length
def usesB (xs : List Int) (h : Int) : Bool := usedN xs h xs.length
def mvR (plan : List Int) (host : Int) : List Int → Int × Bool := fun xs => (difV xs plan, !usesB xs host)
theorem mvR_ok {plan : List Int} {host : Int} {xs : List Int} {h : Nat} (k : (mvR plan host (xs ++ [(h : Int)])).2 = true) : (mvR plan host xs).2 = true := by
  simp only [mvR, usesB, List.length_append, List.length_cons, List.length_nil, Nat.zero_add, usedN, Bool.not_eq_true', Bool.or_eq_false_iff] at k ⊢
  rw [usedN_app (Nat.le_refl _)] at k
  exact k.1
theorem mvR_mo {plan : List Int} {host : Int} {xs : List Int} {h : Nat} : (mvR plan host xs).1 ≤ (mvR plan host (xs ++ [(h : Int)])).1 := by
  simp only [mvR, difV, List.length_append, List.length_cons, List.length_nil, Nat.zero_add, difN]
  rw [difN_app (Nat.le_refl _)]
  split <;> omega
section
variable (ok : List Int → Bool) (dif : List Int → Int)
/-- the better one of two; the first, where they are alike -/
def cmb : Option (List Int) → Option (List Int) → Option (List Int)
  | none, b => b
  | some a, none => some a
  | some a, some b => if dif b < dif a then some b else some a
/-- the first one with the least difference -/
def bst : List (List Int) → Option (List Int)
  | [] => none
  | x :: t => cmb dif (if ok x then some x else none) (bst t)
theorem cmb_none (a : Option (List Int)) : cmb dif a none = a := by cases a <;> rfl
theorem cmb_assoc (a b c : Option (List Int)) : cmb dif (cmb dif a b) c = cmb dif a (cmb dif b c) := by
  cases a with
  | none => rfl
  | some a =>
    cases b with
    | none => cases c <;> rfl
    | some b =>
      cases c with
      | none => simp only [cmb_none]
      | some c =>
        simp only [cmb]
        by_cases h1 : dif b < dif a <;> by_cases h2 : dif c < dif b <;> by_cases h3 : dif c < dif a <;> simp [cmb, h1, h2, h3] <;> omega
theorem bst_app (l m : List (List Int)) : bst ok dif (l ++ m) = cmb dif (bst ok dif l) (bst ok dif m) := by
  induction l with
  | nil => rfl
  | cons x l ih => simp only [List.cons_append, bst, ih, cmb_assoc]
theorem bst_snoc (l : List (List Int)) (x : List Int) : bst ok dif (l ++ [x]) = cmb dif (bst ok dif l) (if ok x then some x else none) := by
  rw [bst_app]; simp only [bst, cmb_none]
theorem bst_mem {l : List (List Int)} {a : List Int} (h : bst ok dif l = some a) : a ∈ l ∧ ok a = true := by
  induction l generalizing a with
  | nil => cases h
  | cons x t ih =>
    unfold bst at h
    cases ht : bst ok dif t with
    | none =>
      rw [ht, cmb_none] at h
      split at h
      · rename_i hx; injection h with h; subst h; exact ⟨List.mem_cons_self, hx⟩
      · cases h
    | some b =>
      rw [ht] at h
      obtain ⟨h1, h2⟩ := ih ht
      split at h
      · rename_i hx
        simp only [cmb] at h
        split at h
        · injection h with h; subst h; exact ⟨List.mem_cons_of_mem _ h1, h2⟩
        · injection h with h; subst h; exact ⟨List.mem_cons_self, hx⟩
      · simp only [cmb] at h; injection h with h; subst h; exact ⟨List.mem_cons_of_mem _ h1, h2⟩
end
/-- what the reference finds in order of cost is what stands first in order of the difference, and then of cost -/
theorem rep_law {p : Pb} (ok : List Int → Bool) (dif : List Int → Int) : ∀ (A B : List (List Int)), bst ok dif ((srtK (keyC p) A).map (·.2)) = ((srtK (fun x => (dif x, bndV p x)) (A.filter ok))[0]?).map (·.2) →
    bst ok dif ((srtK (keyC p) (A ++ B)).map (·.2)) = ((srtK (fun x => (dif x, bndV p x)) ((A ++ B).filter ok))[0]?).map (·.2) := by
  intro A B
  induction B generalizing A with
  | nil => intro h; simpa using h
  | cons x B ih =>
    intro h
    rw [show A ++ x :: B = (A ++ [x]) ++ B by simp]
    refine ih (A ++ [x]) ?_
    have hkey : ∀ y ∈ srtK (keyC p) A, y.1 = keyC p y.2 := fun y hy => by
      have hm : ∀ (l : List (List Int)) (s : List ((Int × Int) × List Int)), (∀ y ∈ s, y.1 = keyC p y.2) → ∀ y ∈ l.foldl (fun s x => insR s (keyC p x, x)) s, y.1 = keyC p y.2 := by
        intro l
        induction l with
        | nil => intro s h; exact h
        | cons a l ih =>
          intro s h
          refine ih _ fun y hy => ?_
          unfold insR insAt at hy
          rw [List.mem_append, List.mem_cons] at hy
          rcases hy with hy | hy | hy
          · exact h y (List.mem_of_mem_take hy)
          · subst hy; rfl
          · exact h y (List.mem_of_mem_drop hy)
      exact hm A [] (fun y hy => by simp at hy) y hy
    have hsrt := srtK_sorted (keyC p) A
    obtain ⟨k, hk⟩ : ∃ k, posR (srtK (keyC p) A) (keyC p x) (srtK (keyC p) A).length = k := ⟨_, rfl⟩
    have hkl : k ≤ (srtK (keyC p) A).length := hk ▸ posR_le
    have h1 : ∀ y ∈ ((srtK (keyC p) A).take k).map (·.2), bndV p y ≤ bndV p x := fun y hy => by
      obtain ⟨z, hz, rfl⟩ := List.mem_map.1 hy
      obtain ⟨i, hi⟩ := List.getElem?_of_mem hz
      have hik : i < k := by have := (List.getElem?_eq_some_iff.1 hi).1; simp at this; omega
      rw [List.getElem?_take_of_lt hik] at hi
      have h2 := posR_iff hsrt (k := keyC p x) hi
      rw [hk, hkey z (List.mem_of_getElem? hi), keyC_lt, decide_eq_true_eq] at h2
      exact Int.not_lt.1 (fun h => by have := h2.1 h; omega)
    have h2 : ∀ y ∈ ((srtK (keyC p) A).drop k).map (·.2), bndV p x < bndV p y := fun y hy => by
      obtain ⟨z, hz, rfl⟩ := List.mem_map.1 hy
      obtain ⟨i, hi⟩ := List.getElem?_of_mem hz
      rw [List.getElem?_drop] at hi
      have h2 := posR_iff hsrt (k := keyC p x) hi
      rw [hk, hkey z (List.mem_of_getElem? hi), keyC_lt, decide_eq_true_eq] at h2
      exact h2.2 (by omega)
    have e1 : (srtK (keyC p) (A ++ [x])).map (·.2) = ((srtK (keyC p) A).take k).map (·.2) ++ x :: ((srtK (keyC p) A).drop k).map (·.2) := by
      rw [srtK_snoc]; unfold insR insAt; rw [hk]; simp
    have e0 : (srtK (keyC p) A).map (·.2) = ((srtK (keyC p) A).take k).map (·.2) ++ ((srtK (keyC p) A).drop k).map (·.2) := by
      rw [← List.map_append, List.take_append_drop]
    rw [e1, bst_app]
    rw [e0, bst_app] at h
    simp only [bst]
    rw [List.filter_append]
    generalize ((srtK (keyC p) A).take k).map (·.2) = S1 at *
    generalize ((srtK (keyC p) A).drop k).map (·.2) = S2 at *
    cases hx : ok x with
    | false => simp only [List.filter_cons, hx, Bool.false_eq_true, if_false, List.filter_nil, List.append_nil]; exact h
    | true =>
      simp only [List.filter_cons, hx, if_true, List.filter_nil]
      rw [srtK_snoc, insR_head (srtK_sorted _ _)]
      have hm1 := @bst_mem ok dif S1
      have hm2 := @bst_mem ok dif S2
      generalize hF : (srtK (fun x => (dif x, bndV p x)) (A.filter ok))[0]? = fo at *
      have hFk : ∀ y, fo = some y → y.1 = (dif y.2, bndV p y.2) := fun y hy => by
        rw [hy] at hF
        have hm : ∀ (l : List (List Int)) (s : List ((Int × Int) × List Int)), (∀ y ∈ s, y.1 = (dif y.2, bndV p y.2)) → ∀ y ∈ l.foldl (fun s x => insR s ((dif x, bndV p x), x)) s, y.1 = (dif y.2, bndV p y.2) := by
          intro l
          induction l with
          | nil => intro s h; exact h
          | cons a l ih =>
            intro s h
            refine ih _ fun y hy => ?_
            unfold insR insAt at hy
            rw [List.mem_append, List.mem_cons] at hy
            rcases hy with hy | hy | hy
            · exact h y (List.mem_of_mem_take hy)
            · subst hy; rfl
            · exact h y (List.mem_of_mem_drop hy)
        exact hm (A.filter ok) [] (fun y hy => by simp at hy) y (List.mem_of_getElem? hF)
      cases g1 : bst ok dif S1 with
      | none =>
        cases g2 : bst ok dif S2 with
        | none =>
          rw [g1, g2] at h
          cases fo with
          | none => rfl
          | some y => simp [cmb] at h
        | some b =>
          rw [g1, g2] at h
          have hb := h2 b (hm2 g2).1
          cases fo with
          | none => simp [cmb] at h
          | some y =>
            simp [cmb] at h
            subst h
            have hy := hFk y rfl
            simp only [cmb, hy, ltK]
            by_cases q1 : dif y.2 < dif x
            · simp [q1, show ¬ dif x < dif y.2 by omega, show ¬ dif x = dif y.2 by omega] <;> (first | done | (intro h9; omega) | omega)
            · by_cases q2 : dif x < dif y.2
              · simp [q1, q2] <;> (first | done | (intro h9; omega) | omega)
              · have q3 : dif x = dif y.2 := by omega
                simp [q3, hb] <;> (first | done | (intro h9; omega) | omega)
      | some a =>
        have ha := h1 a (hm1 g1).1
        cases g2 : bst ok dif S2 with
        | none =>
          rw [g1, g2] at h
          cases fo with
          | none => simp [cmb] at h
          | some y =>
            simp [cmb] at h
            subst h
            have hy := hFk y rfl
            simp only [cmb, hy, ltK]
            by_cases q2 : dif x < dif y.2
            · simp [q2] <;> (first | done | (intro h9; omega) | omega)
            · simp [q2, show ¬ bndV p x < bndV p y.2 by omega] <;> (first | done | (intro h9; omega) | omega)
        | some b =>
          rw [g1, g2] at h
          have hb := h2 b (hm2 g2).1
          cases fo with
          | none => simp only [cmb] at h; split at h <;> cases h
          | some y =>
            have hy := hFk y rfl
            simp only [cmb] at h
            by_cases q0 : dif b < dif a
            · rw [if_pos q0] at h
              simp only [Option.map_some, Option.some.injEq] at h
              subst h
              simp only [cmb, hy, ltK]
              by_cases q1 : dif x < dif a
              · by_cases q2 : dif y.2 < dif x
                · simp [cmb, q1, q2, show ¬ dif x < dif y.2 by omega, show ¬ dif x = dif y.2 by omega] <;> (first | done | (intro h9; omega) | omega)
                · by_cases q3 : dif x < dif y.2
                  · simp [cmb, q1, q2, q3] <;> (first | done | (intro h9; omega) | omega)
                  · have q4 : dif x = dif y.2 := by omega
                    simp [cmb, q0, q4, hb] <;> (first | done | (intro h9; omega) | omega)
              · simp [cmb, q1, q0, show ¬ dif x < dif y.2 by omega, show ¬ dif x = dif y.2 by omega, show dif y.2 < dif x by omega] <;> (first | done | (intro h9; omega) | omega)
            · rw [if_neg q0] at h
              simp only [Option.map_some, Option.some.injEq] at h
              subst h
              simp only [cmb, hy, ltK]
              by_cases q1 : dif x < dif y.2
              · simp [cmb, q1, show ¬ dif b < dif x by omega] <;> (first | done | (intro h9; omega) | omega)
              · by_cases q5 : dif b < dif x
                · simp [cmb, q1, q0, q5, show ¬ bndV p x < bndV p y.2 by omega]
                · simp [cmb, q1, q0, q5, show ¬ bndV p x < bndV p y.2 by omega]
end
end Go.Proofs.Ytodedneanlekdaa
