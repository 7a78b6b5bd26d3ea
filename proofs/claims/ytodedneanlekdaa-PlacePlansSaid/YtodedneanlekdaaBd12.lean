/- Several texts of this claim in one file. (1) Contracts: full and put. (2) The first allowed plans: what a round does to them. Nothing of the program is proved here. (3) Contract: the first allowed plans. (4) The first allowed plans, without addresses: what the search finds. Nothing of the program is proved here. -/
import Derived.Test.YtodedneanlekdaaBd11
import Derived.Test.YtodedneanlekdaaBd9
namespace Go.Proofs.Ytodedneanlekdaa
set_option linter.unusedSimpArgs false
set_option linter.unusedVariables false
section
open Go.RowKit

theorem Try.bs89 (x y : Int) (w : World) : (Instr.buildSlice 89 1 #[(0, .agg #[.int .i64 x, .int .i64 y])]).run Try.prog w = .ok (.slice (some ⟨w.heap.size, 0, none⟩) 1 1) (w.alloc (.cells #[.int .i64 x, .int .i64 y] 92)) := by kernel_rfl
theorem Try.bs38 (a : Option Addr) (n c : Nat) (w : World) : (Instr.buildSlice 38 1 #[(0, .slice a n c)]).run Try.prog w = .ok (.slice (some ⟨w.heap.size, 0, none⟩) 1 1) (w.alloc (.cells #[.slice a n c] 34)) := by kernel_rfl
theorem RkO.len {rb b n m n2 m2 c c2 : Nat} {a a2 : Option Addr} (h : RkO rb (.slice a n c) (.slice a2 n2 c2) b) : RkO rb (.slice a m c) (.slice a2 m2 c2) b := by
  cases a <;> cases a2 <;> exact h
theorem OwnR.le {w : World} {B e k n c : Nat} {a : Option Addr} {xs : List Value} (h : OwnR w B e k (.slice a n c) n xs) : n ≤ c := by
  rcases h.2 with ⟨e, h1⟩ | ⟨g, cap, cur, e, h1, h2, h3, _⟩
  · omega
  · injection e with _ _ e; omega
set_option maxRecDepth 100000 in
set_option maxHeartbeats 1000000 in
theorem full_any (rb B most : Nat) (ka la : Option Addr) (kc lc : Nat) (k0 k1 : Int) (L : RkL) (w : World) (hR0 : RkAt w rb B most (.slice ka L.length kc) (.slice la L.length lc) L) (hm : 1 ≤ most ∧ most ≤ 100000) (hn : L.length ≤ 100000) :
  Calls Try.prog 99 #[Vp rb, .agg #[Vi k0, Vi k1]] w fun e w' => e = .returned (.bool (fullR most L (k0, k1))) ∧ Gr w w' := by
 have G := Gr.refl w
 have hRk := hR0
 have hm0 := hm.1
 have hm1 := hm.2
 refine Y.calls 31 Try.func99 rfl rfl ?_
 intro ac F0
 have F : Fr ac 31 [(0, Vp rb), (1, .agg #[Vi k0, Vi k1])] := F0.sub _
 clear F0
 refine Y.seq ?_
 refine Y.lit (by kernel_rfl) ?_
 have hgs3 : w.heap.size ≤ w.heap.size := G.size
 refine Y.pv F (X.box rfl (F.ev 1 (.agg #[Vi k0, Vi k1])) X.bx) ?_;clear F ac;intro ac F
 have hgs5 : w.heap.size ≤ w.heap.size := G.size
 have g := Gr.alloc w (.cells #[Vi k0, Vi k1] 92)
 have hb := heap_alloc_new w (.cells #[Vi k0, Vi k1] 92)
 have hbl : w.heap.size < (w.alloc (.cells #[Vi k0, Vi k1] 92)).heap.size := by simp
 have hC2 : RCells (w.alloc (.cells #[Vi k0, Vi k1] 92)) [(Ad w.heap.size 0, Vi k0), (Ad w.heap.size 1, Vi k1)] := (RCells.nil w).box (b := w.heap.size) #[Vi k0, Vi k1] 92 rfl
 generalize w.alloc (.cells #[Vi k0, Vi k1] 92) = w6 at *
 replace G := G.trans g
 have hC := hC2
 clear hC2
 replace hRk := hRk.gr g
 have hsz4 := hbl
 clear g hb hbl
 refine Y.pv F (X.assign rfl (X.kc (.bool false) rfl)) ?_;clear F ac;intro ac F
 refine Y.nil ?_
 replace F : Fr ac 31 [(0, Vp rb), (3, Vp w.heap.size)] := F.sub _
 refine X.thenN ?_
 refine Y.seq ?_
 replace hC : RCells w6 [(Ad w.heap.size 0, Vi k0), (Ad w.heap.size 1, Vi k1), (Ad rb 0, Vi most), (Ad rb 1, .slice ka L.length kc), (Ad rb 2, .slice la L.length lc)] := hC.append ((RCells.cons (hRk.own.cell (k := 0) (by decide)) (RCells.cons (hRk.own.cell (k := 1) (by decide)) (RCells.cons (hRk.own.cell (k := 2) (by decide)) (RCells.nil _)))))
 cases h7 : ((L.length : Int) == most) with
 | false =>
  try rw [h7] at F
  have h7p : ¬ (L.length : Int) = most := by simpa using h7
  refine Y.region F [some (Vp rb), some (Vp rb), some (.pointer (some ⟨rb, 2, none⟩)), some (.slice la L.length lc), some (Vi L.length), some (Vp rb), some (Vp rb), some (Vp rb), some (Vi most), some (.bool false), some (.bool false), none, none, none, none, none, none, none, none, none, none, none, none, none, none, some (.bool false), some (.bool false)] [] rfl ⟨by kernel_rfl, of_decide_eq_true (by kernel_rfl), by kernel_rfl, by kernel_rfl, by kernel_rfl⟩ ⟨?_, ?_, ?_, ?_, ?_, ?_, ?_, ?_, ?_, ?_, ?_, ?_, ?_, ?_, ?_, ?_, ?_, ?_, ?_, ?_, ?_, ?_, ?_, ?_, ?_, ?_, ?_, trivial⟩ ?_
  ·intro ac done u W Sx hR
   exact X.vl (X.move rfl (Sx.ev 0 (Vp rb))) hR.st0
  ·intro ac done u W Sx hR
   exact X.vl (Y.nilC rfl (Sx.ev 5 (Vp rb))) hR.st0
  ·intro ac done u W Sx hR
   exact X.vl (X.field rfl (Sx.ev 6 (Vp rb)) (X.fld Try.underlying91 rfl (Try.siz38 _) rfl rfl)) hR.st0
  ·intro ac done u W Sx hR
   have g : Gr w6 W := hR.1
   exact X.vl (X.load rfl (Sx.ev 7 (.pointer (some ⟨rb, 2, none⟩))) (X.ld1 (Try.agg38 _) ((hC.gr g).at 4 rfl))) hR.st0
  ·intro ac done u W Sx hR
   exact X.vl (X.len1 Try.underlying38 rfl (Sx.ev 8 (.slice la L.length lc))) hR.st0
  ·intro ac done u W Sx hR
   exact X.vl (X.move rfl (Sx.ev 0 (Vp rb))) hR.st0
  ·intro ac done u W Sx hR
   exact X.vl (Y.nilC rfl (Sx.ev 10 (Vp rb))) hR.st0
  ·intro ac done u W Sx hR
   exact X.vl (X.field rfl (Sx.ev 11 (Vp rb)) (X.fld Try.underlying91 rfl (Try.siz3 _) rfl rfl)) hR.st0
  ·intro ac done u W Sx hR
   have g : Gr w6 W := hR.1
   exact X.vl (X.load rfl (Sx.ev 12 (Vp rb)) (X.ld1 (Try.agg3 _) ((hC.gr g).at 2 rfl))) hR.st0
  ·intro ac done u W Sx hR
   exact X.vl (X.binop rfl (Sx.ev 9 (Vi L.length)) (Sx.ev 13 (Vi most)) (X.eqlI Try.underlying3 h7)) hR.st0
  ·intro ac done u W Sx hR
   exact X.vl (X.move rfl (Sx.ev 14 (.bool false))) hR.st0
  ·intro ac done u W Sx hR
   exact X.skip (X.w2 rfl (Sx.yl 10 15 false (by kernel_rfl) rfl rfl) rfl) rfl (hR.skip rfl)
  ·intro ac done u W Sx hR
   exact X.skip (X.w2 rfl (Sx.yl 10 15 false (by kernel_rfl) rfl rfl) rfl) rfl (hR.skip rfl)
  ·intro ac done u W Sx hR
   exact X.skip (X.w2 rfl (Sx.yl 10 15 false (by kernel_rfl) rfl rfl) rfl) rfl (hR.skip rfl)
  ·intro ac done u W Sx hR
   exact X.skip (X.w2 rfl (Sx.yl 10 15 false (by kernel_rfl) rfl rfl) rfl) rfl (hR.skip rfl)
  ·intro ac done u W Sx hR
   exact X.skip (X.w2 rfl (Sx.yl 10 15 false (by kernel_rfl) rfl rfl) rfl) rfl (hR.skip rfl)
  ·intro ac done u W Sx hR
   exact X.skip (X.w2 rfl (Sx.yl 10 15 false (by kernel_rfl) rfl rfl) rfl) rfl (hR.skip rfl)
  ·intro ac done u W Sx hR
   exact X.skip (X.w2 rfl (Sx.yl 10 15 false (by kernel_rfl) rfl rfl) rfl) rfl (hR.skip rfl)
  ·intro ac done u W Sx hR
   exact X.skip (X.w2 rfl (Sx.yl 10 15 false (by kernel_rfl) rfl rfl) rfl) rfl (hR.skip rfl)
  ·intro ac done u W Sx hR
   exact X.skip (X.w2 rfl (Sx.yl 10 15 false (by kernel_rfl) rfl rfl) rfl) rfl (hR.skip rfl)
  ·intro ac done u W Sx hR
   exact X.skip (X.w2 rfl (Sx.yl 10 15 false (by kernel_rfl) rfl rfl) rfl) rfl (hR.skip rfl)
  ·intro ac done u W Sx hR
   exact X.skip (X.w2 rfl (Sx.yl 10 15 false (by kernel_rfl) rfl rfl) rfl) rfl (hR.skip rfl)
  ·intro ac done u W Sx hR
   exact X.skip (X.w2 rfl (Sx.yl 10 15 false (by kernel_rfl) rfl rfl) rfl) rfl (hR.skip rfl)
  ·intro ac done u W Sx hR
   exact X.skip (X.w2 rfl (Sx.yl 10 15 false (by kernel_rfl) rfl rfl) rfl) rfl (hR.skip rfl)
  ·intro ac done u W Sx hR
   exact X.skip (X.w2 rfl (Sx.yl 10 15 false (by kernel_rfl) rfl rfl) rfl) rfl (hR.skip rfl)
  ·intro ac done u W Sx hR
   exact X.vl (X.pickF rfl (Sx.ev 15 (.bool false)) (X.kc (.bool false) rfl)) hR.st0
  ·intro ac done u W Sx hR
   exact X.vl (X.assign rfl (Sx.ev 30 (.bool false))) hR.st0
  intro ac u w8 hs hd hl ho hR
  have g : Gr w6 w8 := hR.1
  replace F : Fr ac 31 [(4, .bool false)] := X.fr hs hd hl _ (by kernel_rfl)
  clear hs hd hl ho hR
  replace G := G.trans g
  replace hC := hC.gr g
  replace hRk := hRk.gr g
  clear g
  refine X.thenN ?_
  refine Y.ret ?_
  exact Y.ret0 (v := .bool false) F (Y.rs1 F rfl (by kernel_rfl)) ⟨by rw [full_no (by omega)], G⟩
 | true =>
  try rw [h7] at F
  have h7p : (L.length : Int) = most := by simpa using h7
  obtain ⟨y, hy⟩ : ∃ y, L[most - 1]? = some y := ⟨_, List.getElem?_eq_getElem (by omega)⟩
  obtain ⟨g9, Lr, rfl, -⟩ := hRk.k.row (by omega)
  refine Y.region F [some (Vp rb), some (Vp rb), some (.pointer (some ⟨rb, 2, none⟩)), some (.slice la L.length lc), some (Vi L.length), some (Vp rb), some (Vp rb), some (Vp rb), some (Vi most), some (.bool true), some (.bool true), some (.slice (some ⟨w.heap.size, 0, none⟩) 2 2), some (Vp rb), some (Vp rb), some (.pointer (some ⟨rb, 1, none⟩)), some (.slice (some ⟨g9, 0, none⟩) L.length kc), some (Vp rb), some (Vp rb), some (Vp rb), some (Vi most), some (Vi ((most : Int) - 1)), some (.pointer (some ⟨g9, (most - 1) * 2, none⟩)), some (.slice (some ⟨g9, (most - 1) * 2, none⟩) 2 2), some (Vi (cmpL [k0, k1] [y.1.1, y.1.2])), some (.bool (decide ((0 : Int) ≤ (cmpL [k0, k1] [y.1.1, y.1.2])))), some (.bool (decide ((0 : Int) ≤ (cmpL [k0, k1] [y.1.1, y.1.2])))), some (.bool (decide ((0 : Int) ≤ (cmpL [k0, k1] [y.1.1, y.1.2]))))] [] rfl ⟨by kernel_rfl, of_decide_eq_true (by kernel_rfl), by kernel_rfl, by kernel_rfl, by kernel_rfl⟩ ⟨?_, ?_, ?_, ?_, ?_, ?_, ?_, ?_, ?_, ?_, ?_, ?_, ?_, ?_, ?_, ?_, ?_, ?_, ?_, ?_, ?_, ?_, ?_, ?_, ?_, ?_, ?_, trivial⟩ ?_
  ·intro ac done u W Sx hR
   exact X.vl (X.move rfl (Sx.ev 0 (Vp rb))) hR.st0
  ·intro ac done u W Sx hR
   exact X.vl (Y.nilC rfl (Sx.ev 5 (Vp rb))) hR.st0
  ·intro ac done u W Sx hR
   exact X.vl (X.field rfl (Sx.ev 6 (Vp rb)) (X.fld Try.underlying91 rfl (Try.siz38 _) rfl rfl)) hR.st0
  ·intro ac done u W Sx hR
   have g : Gr w6 W := hR.1
   exact X.vl (X.load rfl (Sx.ev 7 (.pointer (some ⟨rb, 2, none⟩))) (X.ld1 (Try.agg38 _) ((hC.gr g).at 4 rfl))) hR.st0
  ·intro ac done u W Sx hR
   exact X.vl (X.len1 Try.underlying38 rfl (Sx.ev 8 (.slice la L.length lc))) hR.st0
  ·intro ac done u W Sx hR
   exact X.vl (X.move rfl (Sx.ev 0 (Vp rb))) hR.st0
  ·intro ac done u W Sx hR
   exact X.vl (Y.nilC rfl (Sx.ev 10 (Vp rb))) hR.st0
  ·intro ac done u W Sx hR
   exact X.vl (X.field rfl (Sx.ev 11 (Vp rb)) (X.fld Try.underlying91 rfl (Try.siz3 _) rfl rfl)) hR.st0
  ·intro ac done u W Sx hR
   have g : Gr w6 W := hR.1
   exact X.vl (X.load rfl (Sx.ev 12 (Vp rb)) (X.ld1 (Try.agg3 _) ((hC.gr g).at 2 rfl))) hR.st0
  ·intro ac done u W Sx hR
   exact X.vl (X.binop rfl (Sx.ev 9 (Vi L.length)) (Sx.ev 13 (Vi most)) (X.eqlI Try.underlying3 h7)) hR.st0
  ·intro ac done u W Sx hR
   exact X.vl (X.move rfl (Sx.ev 14 (.bool true))) hR.st0
  ·intro ac done u W Sx hR
   exact X.val (X.w1 rfl (Sx.yl 10 15 true (by kernel_rfl) rfl rfl)) rfl (Y.slAr (p := ⟨w.heap.size, 0, none⟩) rfl (Sx.ev 3 (Vp w.heap.size)) Try.underlying92 (fun W => Try.siz3 W) (by decide)) hR.st0
  ·intro ac done u W Sx hR
   exact X.val (X.w1 rfl (Sx.yl 10 15 true (by kernel_rfl) rfl rfl)) rfl (X.move rfl (Sx.ev 0 (Vp rb))) hR.st0
  ·intro ac done u W Sx hR
   exact X.val (X.w1 rfl (Sx.yl 10 15 true (by kernel_rfl) rfl rfl)) rfl (Y.nilC rfl (Sx.ev 17 (Vp rb))) hR.st0
  ·intro ac done u W Sx hR
   exact X.val (X.w1 rfl (Sx.yl 10 15 true (by kernel_rfl) rfl rfl)) rfl (X.field rfl (Sx.ev 18 (Vp rb)) (X.fld Try.underlying91 rfl (Try.siz89 _) rfl rfl)) hR.st0
  ·intro ac done u W Sx hR
   have g : Gr w6 W := hR.1
   exact X.val (X.w1 rfl (Sx.yl 10 15 true (by kernel_rfl) rfl rfl)) rfl (X.load rfl (Sx.ev 19 (.pointer (some ⟨rb, 1, none⟩))) (X.ld1 (Try.agg89 _) ((hC.gr g).at 3 rfl))) hR.st0
  ·intro ac done u W Sx hR
   exact X.val (X.w1 rfl (Sx.yl 10 15 true (by kernel_rfl) rfl rfl)) rfl (X.move rfl (Sx.ev 0 (Vp rb))) hR.st0
  ·intro ac done u W Sx hR
   exact X.val (X.w1 rfl (Sx.yl 10 15 true (by kernel_rfl) rfl rfl)) rfl (Y.nilC rfl (Sx.ev 21 (Vp rb))) hR.st0
  ·intro ac done u W Sx hR
   exact X.val (X.w1 rfl (Sx.yl 10 15 true (by kernel_rfl) rfl rfl)) rfl (X.field rfl (Sx.ev 22 (Vp rb)) (X.fld Try.underlying91 rfl (Try.siz3 _) rfl rfl)) hR.st0
  ·intro ac done u W Sx hR
   have g : Gr w6 W := hR.1
   exact X.val (X.w1 rfl (Sx.yl 10 15 true (by kernel_rfl) rfl rfl)) rfl (X.load rfl (Sx.ev 23 (Vp rb)) (X.ld1 (Try.agg3 _) ((hC.gr g).at 2 rfl))) hR.st0
  ·intro ac done u W Sx hR
   exact X.val (X.w1 rfl (Sx.yl 10 15 true (by kernel_rfl) rfl rfl)) rfl (X.binop rfl (Sx.ev 24 (Vi most)) (X.kc (Vi 1) rfl) (X.subI Try.underlying3 rfl (by omega) (by omega))) hR.st0
  ·intro ac done u W Sx hR
   exact X.val (X.w1 rfl (Sx.yl 10 15 true (by kernel_rfl) rfl rfl)) rfl (X.index rfl (Sx.ev 20 (.slice (some ⟨g9, 0, none⟩) L.length kc)) (Sx.ev 25 (Vi ((most : Int) - 1))) (X.idx (k := most - 1) Try.underlying89 (Try.siz92 _) (by omega) (by omega) (addr_add0 _ _))) hR.st0
  ·intro ac done u W Sx hR
   exact X.val (X.w1 rfl (Sx.yl 10 15 true (by kernel_rfl) rfl rfl)) rfl (Y.slAr (p := ⟨g9, (most - 1) * 2, none⟩) rfl (Sx.ev 26 (.pointer (some ⟨g9, (most - 1) * 2, none⟩))) Try.underlying92 (fun W => Try.siz3 W) (by decide)) hR.st0
  ·intro ac done u W Sx hR
   have g : Gr w6 W := hR.1
   refine X.call (X.w1 rfl (Sx.yl 10 15 true (by kernel_rfl) rfl rfl)) (X.enter (F := 90) rfl (X.kc (.func (.func 90) #[] #[]) rfl) (X.a2 (Sx.ev 16 (.slice (some ⟨w.heap.size, 0, none⟩) 2 2)) (Sx.ev 27 (.slice (some ⟨g9, (most - 1) * 2, none⟩) 2 2))) (enters_of Try.func90 (by kernel_rfl) rfl _)) (cmpL_any (some ⟨w.heap.size, 0, none⟩) (some ⟨g9, (most - 1) * 2, none⟩) 2 2 [k0, k1] [y.1.1, y.1.2] W (ints_2 ((hC.gr g).at 0 rfl) ((hC.gr g).at 1 rfl)) (key_ints ((hRk.gr g).k) rfl hy)) ?_
   rintro e W2 ⟨rfl, g2⟩
   exact ⟨_, rfl, X.kn rfl, hR.step g2 rfl⟩
  ·intro ac done u W Sx hR
   exact X.val (X.w1 rfl (Sx.yl 10 15 true (by kernel_rfl) rfl rfl)) rfl (X.binop rfl (Sx.ev 28 (Vi (cmpL [k0, k1] [y.1.1, y.1.2]))) (X.kc (Vi 0) rfl) (X.geqI Try.underlying3 rfl)) hR.st0
  ·intro ac done u W Sx hR
   exact X.vl (X.pickT rfl (Sx.ev 15 (.bool true)) (Sx.ev 29 (.bool (decide ((0 : Int) ≤ (cmpL [k0, k1] [y.1.1, y.1.2])))))) hR.st0
  ·intro ac done u W Sx hR
   exact X.vl (X.assign rfl (Sx.ev 30 (.bool (decide ((0 : Int) ≤ (cmpL [k0, k1] [y.1.1, y.1.2])))))) hR.st0
  intro ac u w9 hs hd hl ho hR
  have g : Gr w6 w9 := hR.1
  replace F : Fr ac 31 [(4, .bool (decide ((0 : Int) ≤ (cmpL [k0, k1] [y.1.1, y.1.2]))))] := X.fr hs hd hl _ (by kernel_rfl)
  clear hs hd hl ho hR
  replace G := G.trans g
  replace hC := hC.gr g
  replace hRk := hRk.gr g
  clear g
  refine X.thenN ?_
  refine Y.ret ?_
  exact Y.ret0 (v := .bool (decide ((0 : Int) ≤ (cmpL [k0, k1] [y.1.1, y.1.2])))) F (Y.rs1 F rfl (by kernel_rfl)) ⟨by rw [full_1 (by omega) hy, cmp_geK], G⟩
set_option maxRecDepth 100000 in
set_option maxHeartbeats 4000000 in
theorem put_s (rb B most : Nat) (ka la : Option Addr) (kc lc : Nat) (k0 k1 : Int) (L : RkL) (xs : List Int) (a : Option Addr) (c : Nat) (w : World) (hR0 : RkAt w rb B most (.slice ka L.length kc) (.slice la L.length lc) L) (hm : 1 ≤ most ∧ most ≤ 100000) (hn : L.length ≤ 100000) (hlm : L.length ≤ most) (hBeg : BegAt w B a c xs) (hBO : ∀ ad, a = some ad → ¬ RkO rb (.slice ka L.length kc) (.slice la L.length lc) ad.block) :
  Calls Try.prog 100 #[Vp rb, .agg #[Vi k0, Vi k1], .slice a xs.length c] w fun e w' => e = .returned (.tuple #[]) ∧ ∃ kv' lv', RkAt w' rb B most kv' lv' (putR most L ((k0, k1), ⟨xs, a, c⟩)) ∧ Only (RkO rb (.slice ka L.length kc) (.slice la L.length lc)) w w' ∧ (∀ b, RkO rb kv' lv' b → RkO rb (.slice ka L.length kc) (.slice la L.length lc) b ∨ w.heap.size ≤ b) := by
 have G := Gr.refl w
 have hRk := hR0
 have hm0 := hm.1
 have hm1 := hm.2
 have hrb9 := hR0.lt _ (.inl rfl)
 have hltW := hR0.lt
 refine Y.calls 88 Try.func100 rfl rfl ?_
 intro ac F0
 have F : Fr ac 88 [(0, Vp rb), (1, .agg #[Vi k0, Vi k1]), (2, .slice a xs.length c)] := F0.sub _
 clear F0
 refine Y.seq ?_
 refine Y.lit (by kernel_rfl) ?_
 have hgs3 : w.heap.size ≤ w.heap.size := G.size
 refine Y.pv F (X.box rfl (F.ev 1 (.agg #[Vi k0, Vi k1])) X.bx) ?_;clear F ac;intro ac F
 have hgs5 : w.heap.size ≤ w.heap.size := G.size
 have g := Gr.alloc w (.cells #[Vi k0, Vi k1] 92)
 have hb := heap_alloc_new w (.cells #[Vi k0, Vi k1] 92)
 have hbl : w.heap.size < (w.alloc (.cells #[Vi k0, Vi k1] 92)).heap.size := by simp
 have hC2 : RCells (w.alloc (.cells #[Vi k0, Vi k1] 92)) [(Ad w.heap.size 0, Vi k0), (Ad w.heap.size 1, Vi k1)] := (RCells.nil w).box (b := w.heap.size) #[Vi k0, Vi k1] 92 rfl
 generalize w.alloc (.cells #[Vi k0, Vi k1] 92) = w6 at *
 replace G := G.trans g
 have hC := hC2
 clear hC2
 replace hRk := hRk.gr g
 have hsz4 := hbl
 clear g hb hbl
 refine Y.nil ?_
 replace F : Fr ac 88 [(0, Vp rb), (2, .slice a xs.length c), (4, Vp w.heap.size)] := F.sub _
 refine X.thenN ?_
 refine Y.seq ?_
 refine Y.seq ?_
 refine Y.lit (by kernel_rfl) ?_
 refine Y.pv F (X.move rfl (F.ev 0 (Vp rb))) ?_;clear F ac;intro ac F
 refine Y.pv F (X.load rfl (F.ev 4 (Vp w.heap.size)) (X.ldN (Try.agg92 _) (Try.siz92 _) (Y.atz (⟨w.heap.size, 0, none⟩) (Y.AtFrom.cons (hC.at 0 rfl) (Y.AtFrom.cons (hC.at 1 rfl) (Y.AtFrom.nil _ _ _)))))) ?_;clear F ac;intro ac F
 refine Y.pcall F (X.w0 rfl) rfl (X.enter (F := 99) rfl (X.kc (.func (.func 99) #[] #[]) rfl) (X.a2 (F.ev 7 (Vp rb)) (F.ev 8 (.agg #[Vi k0, Vi k1]))) (enters_of Try.func99 (by kernel_rfl) rfl _)) (full_any rb B most ka la kc lc k0 k1 L w6 hRk hm hn) ?_
 clear F ac
 rintro e w7 ⟨rfl, g⟩
 refine ⟨_, rfl, ?_⟩
 intro ac F
 replace G := G.trans g
 replace hC := hC.gr g
 replace hRk := hRk.gr g
 clear g
 refine Y.nil ?_
 replace F : Fr ac 88 [(0, Vp rb), (2, .slice a xs.length c), (4, Vp w.heap.size), (9, .bool (fullR most L (k0, k1)))] := F.sub _
 refine X.thenN ?_
 cases h8 : fullR most L (k0, k1) with
 | false =>
  try rw [h8] at F
  refine Y.condF (F.ev 9 (.bool false)) ?_
  refine Y.skip ?_
  refine X.thenN ?_
  refine Y.seq ?_
  refine Y.lit (by kernel_rfl) ?_
  refine Y.pv F (X.move rfl (F.ev 0 (Vp rb))) ?_;clear F ac;intro ac F
  refine Y.pv F (Y.nilC rfl (F.ev 10 (Vp rb))) ?_;clear F ac;intro ac F
  refine Y.pv F (X.field rfl (F.ev 11 (Vp rb)) (X.fld Try.underlying91 rfl (Try.siz38 _) rfl rfl)) ?_;clear F ac;intro ac F
  replace hC : RCells w7 [(Ad w.heap.size 0, Vi k0), (Ad w.heap.size 1, Vi k1), (Ad rb 0, Vi most), (Ad rb 1, .slice ka L.length kc), (Ad rb 2, .slice la L.length lc)] := hC.append ((RCells.cons (hRk.own.cell (k := 0) (by decide)) (RCells.cons (hRk.own.cell (k := 1) (by decide)) (RCells.cons (hRk.own.cell (k := 2) (by decide)) (RCells.nil _)))))
  refine Y.pv F (X.load rfl (F.ev 12 (.pointer (some ⟨rb, 2, none⟩))) (X.ld1 (Try.agg38 _) (hC.at 4 rfl))) ?_;clear F ac;intro ac F
  refine Y.pv F (X.len1 Try.underlying38 rfl (F.ev 13 (.slice la L.length lc))) ?_;clear F ac;intro ac F
  refine Y.pv F (X.assign rfl (F.ev 14 (Vi L.length))) ?_;clear F ac;intro ac F
  refine Y.nil ?_
  replace F : Fr ac 88 [(0, Vp rb), (2, .slice a xs.length c), (4, Vp w.heap.size), (6, Vi L.length)] := F.sub _
  refine X.thenN ?_
  refine Y.seq ?_
  refine Y.block ?_
  refine Y.loop (fun me_ ac wr => ∃ (i : Nat), me_ = i + 1 ∧ Only (fun b => False) w7 wr ∧ i ≤ L.length ∧ posR L (k0, k1) L.length = posR L (k0, k1) i ∧ Fr ac 88 [(0, Vp rb), (2, .slice a xs.length c), (4, Vp w.heap.size), (6, Vi i)]) _ ⟨L.length, rfl, Only.refl _ _, Nat.le_refl _, rfl, F.sub _⟩ ?_
  have hRkB1 := hRk
  have GB1 := G
  have hCB1 := hC
  clear F ac
  intro me_ ac w9 hI
  obtain ⟨i, rfl, hO1, hiL, hpp, F⟩ := hI
  replace G := GB1.trans (hO1.gr (fun _ _ h => h))
  replace hRk := (hR0).gr G
  replace hC := (RCells.cons (hO1.cell (hCB1.at 0 rfl) (fun h => h)) (RCells.cons (hO1.cell (hCB1.at 1 rfl) (fun h => h)) (RCells.cons (hO1.cell (hCB1.at 2 rfl) (fun h => h)) (RCells.cons (hO1.cell (hCB1.at 3 rfl) (fun h => h)) (RCells.cons (hO1.cell (hCB1.at 4 rfl) (fun h => h)) (RCells.nil _))))))
  refine Y.seq ?_
  refine Y.seq ?_
  cases h10 : decide ((0 : Int) < i) with
  | false =>
   try rw [h10] at F
   have h10p : ¬ ((0 : Int) < i) := of_decide_eq_false h10
   have hpos : posR L (k0, k1) i = i := by rw [show i = 0 by omega]; rfl
   refine Y.region F [some (Vi i), some (.bool false), some (.bool false), none, none, none, none, none, none, none, none, none, none, none, some (.bool false)] [] rfl ⟨by kernel_rfl, of_decide_eq_true (by kernel_rfl), by kernel_rfl, by kernel_rfl, by kernel_rfl⟩ ⟨?_, ?_, ?_, ?_, ?_, ?_, ?_, ?_, ?_, ?_, ?_, ?_, ?_, ?_, ?_, trivial⟩ ?_
   ·intro ac done u W Sx hR
    exact X.vl (X.move rfl (Sx.ev 6 (Vi i))) hR.st0
   ·intro ac done u W Sx hR
    exact X.vl (X.binop rfl (Sx.ev 15 (Vi i)) (X.kc (Vi 0) rfl) (X.gtrI Try.underlying3 h10)) hR.st0
   ·intro ac done u W Sx hR
    exact X.vl (X.move rfl (Sx.ev 16 (.bool false))) hR.st0
   ·intro ac done u W Sx hR
    exact X.skip (X.w2 rfl (Sx.yl 2 17 false (by kernel_rfl) rfl rfl) rfl) rfl (hR.skip rfl)
   ·intro ac done u W Sx hR
    exact X.skip (X.w2 rfl (Sx.yl 2 17 false (by kernel_rfl) rfl rfl) rfl) rfl (hR.skip rfl)
   ·intro ac done u W Sx hR
    exact X.skip (X.w2 rfl (Sx.yl 2 17 false (by kernel_rfl) rfl rfl) rfl) rfl (hR.skip rfl)
   ·intro ac done u W Sx hR
    exact X.skip (X.w2 rfl (Sx.yl 2 17 false (by kernel_rfl) rfl rfl) rfl) rfl (hR.skip rfl)
   ·intro ac done u W Sx hR
    exact X.skip (X.w2 rfl (Sx.yl 2 17 false (by kernel_rfl) rfl rfl) rfl) rfl (hR.skip rfl)
   ·intro ac done u W Sx hR
    exact X.skip (X.w2 rfl (Sx.yl 2 17 false (by kernel_rfl) rfl rfl) rfl) rfl (hR.skip rfl)
   ·intro ac done u W Sx hR
    exact X.skip (X.w2 rfl (Sx.yl 2 17 false (by kernel_rfl) rfl rfl) rfl) rfl (hR.skip rfl)
   ·intro ac done u W Sx hR
    exact X.skip (X.w2 rfl (Sx.yl 2 17 false (by kernel_rfl) rfl rfl) rfl) rfl (hR.skip rfl)
   ·intro ac done u W Sx hR
    exact X.skip (X.w2 rfl (Sx.yl 2 17 false (by kernel_rfl) rfl rfl) rfl) rfl (hR.skip rfl)
   ·intro ac done u W Sx hR
    exact X.skip (X.w2 rfl (Sx.yl 2 17 false (by kernel_rfl) rfl rfl) rfl) rfl (hR.skip rfl)
   ·intro ac done u W Sx hR
    exact X.skip (X.w2 rfl (Sx.yl 2 17 false (by kernel_rfl) rfl rfl) rfl) rfl (hR.skip rfl)
   ·intro ac done u W Sx hR
    exact X.vl (X.pickF rfl (Sx.ev 17 (.bool false)) (X.kc (.bool false) rfl)) hR.st0
   intro ac u w11 hs hd hl ho hR
   have g : Gr w9 w11 := hR.1
   replace F : Fr ac 88 [(0, Vp rb), (2, .slice a xs.length c), (4, Vp w.heap.size), (6, Vi i), (29, .bool false)] := X.fr hs hd hl _ (by kernel_rfl)
   clear hs hd hl ho hR
   replace G := G.trans g
   replace hC := hC.gr g
   replace hO1 := hO1.thenGr g
   replace hRk := hRk.gr g
   clear g
   refine X.thenN ?_
   refine Y.condF (F.ev 29 (.bool false)) ?_
   refine Y.exit ?_
   refine X.thenX ?_
   refine X.thenX ?_
   refine X.blockX ?_
   refine X.thenN ?_
   refine Y.seq ?_
   have hlt9 := hRk.lt
   have hrB := hRk.rB
   have hGs := G.size
   obtain ⟨x, hx⟩ : ∃ x : (Int × Int) × BegE, x = ((k0, k1), ⟨xs, a, c⟩) := ⟨_, rfl⟩
   refine region_xi F [some (Vp rb), some (Vp rb), some (Vp rb), some (Vp rb), some (.pointer (some ⟨rb, 1, none⟩)), some (.slice ka L.length kc), some (Vi i), some (.agg #[Vi k0, Vi k1]), none, none, some (Vp rb), some (Vp rb), some (.pointer (some ⟨rb, 2, none⟩)), some (.slice la L.length lc), some (Vi i), some (.slice a xs.length c), none, none, some (Vp rb), some (.pointer (some ⟨rb, 1, none⟩)), none, some (Vp rb), some (.pointer (some ⟨rb, 2, none⟩)), none] (RPt w11 B rb most L.length (.slice ka L.length kc) (.slice la L.length lc) (keysV L) (keysV (insAt L i x)) [Vi k0, Vi k1] (begsV L) (begsV (insAt L i x)) [.slice a xs.length c]) rfl ⟨by kernel_rfl, of_decide_eq_true (by kernel_rfl), by kernel_rfl, by kernel_rfl, by kernel_rfl⟩ (fun _ => ⟨RPt.start (Gr.refl _) hRk.k hRk.l hRk.kl hRk.own, (RPt.start (Gr.drew _) (hRk.k.gr (Gr.drew _)) (hRk.l.gr (Gr.drew _)) hRk.kl (hRk.own.gr (Gr.drew _)))⟩) ⟨?_, ?_, ?_, ?_, ?_, ?_, ?_, ?_, ?_, ?_, ?_, ?_, ?_, ?_, ?_, ?_, ?_, ?_, ?_, ?_, ?_, ?_, ?_, ?_, trivial⟩ ?_
   ·intro ac done u W Sx hQ
    exact X.vl (X.move rfl (Sx.ev 0 (Vp rb))) (hQ.quiet (by decide))
   ·intro ac done u W Sx hQ
    exact X.vl (X.move rfl (Sx.ev 0 (Vp rb))) (hQ.quiet (by decide))
   ·intro ac done u W Sx hQ
    exact X.vl (X.move rfl (Sx.ev 0 (Vp rb))) (hQ.quiet (by decide))
   ·intro ac done u W Sx hQ
    exact X.vl (Y.nilC rfl (Sx.ev 34 (Vp rb))) (hQ.quiet (by decide))
   ·intro ac done u W Sx hQ
    exact X.vl (X.field rfl (Sx.ev 35 (Vp rb)) (X.fld Try.underlying91 rfl (Try.siz89 _) rfl rfl)) (hQ.quiet (by decide))
   ·intro ac done u W Sx hQ
    have hc9 := hQ.own.cell (k := 1) (by decide)
    rw [Sx.no 20 (by kernel_rfl)] at hc9
    exact X.vl (X.load rfl (Sx.ev 36 (.pointer (some ⟨rb, 1, none⟩))) (X.ld1 (Try.agg89 _) hc9)) (hQ.quiet (by decide))
   ·intro ac done u W Sx hQ
    exact X.vl (X.move rfl (Sx.ev 6 (Vi i))) (hQ.quiet (by decide))
   ·intro ac done u W Sx hQ
    have c0 := hQ.o.cell (hC.at 0 rfl) (fun e => by have h9 := hltW _ e; simp only at h9; omega)
    have c1 := hQ.o.cell (hC.at 1 rfl) (fun e => by have h9 := hltW _ e; simp only at h9; omega)
    exact X.vl (X.load rfl (Sx.ev 4 (Vp w.heap.size)) (X.ldN (Try.agg92 _) (Try.siz92 _) (Y.atz (⟨w.heap.size, 0, none⟩) (Y.AtFrom.cons c0 (Y.AtFrom.cons c1 (Y.AtFrom.nil _ _ _)))))) (hQ.quiet (by decide))
   ·intro ac done u W Sx hQ
    exact X.valN (X.w0 rfl) rfl (X.bs rfl (X.b1 (Sx.ev 39 (.agg #[Vi k0, Vi k1]))) (Try.bs89 _ _ _)) (hQ.s8 (Gr.alloc _ _) hQ.o.size (heap_alloc_new _ _))
   ·intro ac done u W Sx hQ
    obtain ⟨g8, e8, hg8, hp8⟩ := hQ.k8 (Sx.an 8 (by kernel_rfl)) Sx.nd
    obtain ⟨kc9, h1, h2, h3, h4, lc9, h5, h6, h7, h8, h9⟩ := hQ.kc
    have he := h1 Sx.nd
    subst he
    rw [Sx.nd] at h3
    simp only [Bool.false_eq_true, if_false] at h3
    have hcl := ins116_any B g8 L.length i (.slice ka L.length kc) (keysV L) [Vi k0, Vi k1] W h3 (keys_all L) hiL hn (fun e => by have := hlt9 _ (.inr (.inl e)); omega) hp8 rfl rfl (Nat.le_trans hRk.BW hQ.o.size)
    refine X.call (X.w0 rfl) (X.enter (F := 116) rfl (X.kc (.func (.func 116) #[] #[]) rfl) (X.a3 (Sx.ev 37 (.slice ka L.length kc)) (Sx.ev 38 (Vi i)) ((Sx.own 8 40 rfl).trans e8)) (enters_of Try.func116 (by kernel_rfl) rfl _)) hcl ?_
    rintro e W2 ⟨v2, rfl, hO2, ho2, hat2⟩
    rw [show (keysV L).take (i * 2) ++ [Vi k0, Vi k1] ++ (keysV L).drop (i * 2) = keysV (insAt L i x) by subst hx; exact keys_ins L i hiL ((k0, k1), ⟨xs, a, c⟩)] at hO2
    exact ⟨_, rfl, X.un rfl, hQ.s9 Sx.nd (Sx.no 20 (by kernel_rfl)) hlt9 hrB hO2 ho2 hat2 (fun e => by have := (hRk.k.ge e).1; omega)⟩
   ·intro ac done u W Sx hQ
    exact X.vl (X.move rfl (Sx.ev 0 (Vp rb))) (hQ.quiet (by decide))
   ·intro ac done u W Sx hQ
    exact X.vl (Y.nilC rfl (Sx.ev 42 (Vp rb))) (hQ.quiet (by decide))
   ·intro ac done u W Sx hQ
    exact X.vl (X.field rfl (Sx.ev 43 (Vp rb)) (X.fld Try.underlying91 rfl (Try.siz38 _) rfl rfl)) (hQ.quiet (by decide))
   ·intro ac done u W Sx hQ
    have hc9 := hQ.own.cell (k := 2) (by decide)
    rw [Sx.no 23 (by kernel_rfl)] at hc9
    exact X.vl (X.load rfl (Sx.ev 44 (.pointer (some ⟨rb, 2, none⟩))) (X.ld1 (Try.agg38 _) hc9)) (hQ.quiet (by decide))
   ·intro ac done u W Sx hQ
    exact X.vl (X.move rfl (Sx.ev 6 (Vi i))) (hQ.quiet (by decide))
   ·intro ac done u W Sx hQ
    exact X.vl (X.move rfl (Sx.ev 2 (.slice a xs.length c))) (hQ.quiet (by decide))
   ·intro ac done u W Sx hQ
    exact X.valN (X.w0 rfl) rfl (X.bs rfl (X.b1 (Sx.ev 47 (.slice a xs.length c))) (Try.bs38 _ _ _ _)) (hQ.s16 (Gr.alloc _ _) hQ.o.size (heap_alloc_new _ _))
   ·intro ac done u W Sx hQ
    obtain ⟨g8, e8, hg8, hp8⟩ := hQ.k16 (Sx.an 16 (by kernel_rfl)) Sx.nd
    obtain ⟨kc9, h1, h2, h3, h4, lc9, h5, h6, h7, h8, h9⟩ := hQ.kc
    have he := h5 Sx.nd
    subst he
    rw [Sx.nd] at h7
    simp only [Bool.false_eq_true, if_false] at h7
    have hcl := ins117_any B g8 L.length i (.slice la L.length lc) (begsV L) [.slice a xs.length c] W h7 (begs_all L) hiL hn (fun e => by have := hlt9 _ (.inr (.inr e)); omega) hp8 rfl rfl (Nat.le_trans hRk.BW hQ.o.size)
    refine X.call (X.w0 rfl) (X.enter (F := 117) rfl (X.kc (.func (.func 117) #[] #[]) rfl) (X.a3 (Sx.ev 45 (.slice la L.length lc)) (Sx.ev 46 (Vi i)) ((Sx.own 16 48 rfl).trans e8)) (enters_of Try.func117 (by kernel_rfl) rfl _)) hcl ?_
    rintro e W2 ⟨v2, rfl, hO2, ho2, hat2⟩
    rw [show (begsV L).take (i * 1) ++ [.slice a xs.length c] ++ (begsV L).drop (i * 1) = begsV (insAt L i x) by subst hx; exact begs_ins L i ((k0, k1), ⟨xs, a, c⟩)] at hO2
    exact ⟨_, rfl, X.un rfl, hQ.s17 Sx.nd (Sx.no 23 (by kernel_rfl)) hlt9 hrB hO2 ho2 hat2 (fun e => by have := (hRk.l.ge e).1; omega)⟩
   ·intro ac done u W Sx hQ
    exact X.vl (Y.nilC rfl (Sx.ev 32 (Vp rb))) (hQ.quiet (by decide))
   ·intro ac done u W Sx hQ
    exact X.vl (X.field rfl (Sx.ev 50 (Vp rb)) (X.fld Try.underlying91 rfl (Try.siz89 _) rfl rfl)) (hQ.quiet (by decide))
   ·intro ac done u W Sx hQ
    obtain ⟨a9, c9, e9⟩ : ∃ a c, u 9 = .slice a (L.length + 1) c := by
     obtain ⟨kc9, h1, h2, h3, h4, lc9, h5, h6, h7, h8, h9⟩ := hQ.kc
     have hd := Sx.an 9 (by kernel_rfl)
     rw [hd] at h3
     rw [if_pos rfl] at h3
     rw [← h2 hd]
     exact h3.form
    have hst := hQ.own.st1 (P := Try.prog) (t := 89) (k := 1) (v := u 9) (Try.siz89 _) (by rw [e9]; rfl) (by rw [e9]; rfl) (by decide)
    exact X.unit (X.w0 rfl) rfl (X.store rfl (Sx.ev 51 (.pointer (some ⟨rb, 1, none⟩))) (Sx.own 9 41 rfl) hst) (hQ.s20 hlt9 hrB)
   ·intro ac done u W Sx hQ
    exact X.vl (Y.nilC rfl (Sx.ev 33 (Vp rb))) (hQ.quiet (by decide))
   ·intro ac done u W Sx hQ
    exact X.vl (X.field rfl (Sx.ev 52 (Vp rb)) (X.fld Try.underlying91 rfl (Try.siz38 _) rfl rfl)) (hQ.quiet (by decide))
   ·intro ac done u W Sx hQ
    obtain ⟨a9, c9, e9⟩ : ∃ a c, u 17 = .slice a (L.length + 1) c := by
     obtain ⟨kc9, h1, h2, h3, h4, lc9, h5, h6, h7, h8, h9⟩ := hQ.kc
     have hd := Sx.an 17 (by kernel_rfl)
     rw [hd] at h7
     rw [if_pos rfl] at h7
     rw [← h6 hd]
     exact h7.form
    have hst := hQ.own.st1 (P := Try.prog) (t := 38) (k := 2) (v := u 17) (Try.siz38 _) (by rw [e9]; rfl) (by rw [e9]; rfl) (by decide)
    exact X.unit (X.w0 rfl) rfl (X.store rfl (Sx.ev 53 (.pointer (some ⟨rb, 2, none⟩))) (Sx.own 17 49 rfl) hst) (hQ.s23 hlt9 hrB)
   rintro ac u w12 hs hd hl_ ho hQ
   obtain ⟨kc9, h1, h2, h3, h4, lc9, h5, h6, h7, h8, h9⟩ := hQ.kc
   have e9 := h2 rfl
   have e17 := h6 rfl
   have hO9 : OwnP w12 rb 3 (VL [Vi most, u 9, u 17]) := hQ.own
   have h3 : OwnR w12 B 92 2 kc9 (L.length + 1) (keysV (insAt L i x)) := h3
   have h7 : OwnR w12 B 34 1 lc9 (L.length + 1) (begsV (insAt L i x)) := h7
   rw [← e9, ← e17] at hO9
   obtain ⟨ka2, kc2, rfl⟩ := h3.form
   obtain ⟨la2, lc2, rfl⟩ := h7.form
   obtain ⟨hR2, hRO⟩ := hRk.ins (x := x) hiL (by subst hx; exact (hBeg.gr G)) (by subst hx; exact hBO) hQ.o h3 h7 h4 h8 h9 hO9
   have hoo := hQ.o
   clear h1 h2 h5 h6 e9 e17 hQ h3 h7 h4 h8 h9
   replace F : Fr ac 88 [(0, Vp rb)] := X.fr hs hd hl_ _ (by kernel_rfl)
   clear hs hd hl_ ho
   have hOw : Only (RkO rb (.slice ka L.length kc) (.slice la L.length lc)) w w12 := (G.only _).trans hoo
   clear hoo
   have hil := ins_len (x := x) hiL
   clear hC G
   have hRw : RkAt w12 rb B most (.slice ka2 (L.length + 1) kc2) (.slice la2 (L.length + 1) lc2) (insAt L i x) := hR2
   clear hRk hR2
   have hRk := hRw
   clear hRw
   have G := Gr.refl w12
   have hR1 := hRk
   refine X.thenN ?_
   refine Y.seq ?_
   have hC : RCells w12 [(Ad rb 0, Vi most), (Ad rb 1, .slice ka2 (L.length + 1) kc2), (Ad rb 2, .slice la2 (L.length + 1) lc2)] := (RCells.cons (hRk.own.cell (k := 0) (by decide)) (RCells.cons (hRk.own.cell (k := 1) (by decide)) (RCells.cons (hRk.own.cell (k := 2) (by decide)) (RCells.nil _))))
   refine Y.region F [some (Vp rb), some (Vp rb), some (.pointer (some ⟨rb, 2, none⟩)), some (.slice la2 (L.length + 1) lc2), some (Vi (L.length + 1)), some (Vp rb), some (Vp rb), some (Vp rb), some (Vi most), some (.bool (decide ((most : Int) < (L.length + 1))))] [] rfl ⟨by kernel_rfl, of_decide_eq_true (by kernel_rfl), by kernel_rfl, by kernel_rfl, by kernel_rfl⟩ ⟨?_, ?_, ?_, ?_, ?_, ?_, ?_, ?_, ?_, ?_, trivial⟩ ?_
   ·intro ac done u W Sx hR
    exact X.vl (X.move rfl (Sx.ev 0 (Vp rb))) hR.st0
   ·intro ac done u W Sx hR
    exact X.vl (Y.nilC rfl (Sx.ev 54 (Vp rb))) hR.st0
   ·intro ac done u W Sx hR
    exact X.vl (X.field rfl (Sx.ev 55 (Vp rb)) (X.fld Try.underlying91 rfl (Try.siz38 _) rfl rfl)) hR.st0
   ·intro ac done u W Sx hR
    have g : Gr w12 W := hR.1
    exact X.vl (X.load rfl (Sx.ev 56 (.pointer (some ⟨rb, 2, none⟩))) (X.ld1 (Try.agg38 _) ((hC.gr g).at 2 rfl))) hR.st0
   ·intro ac done u W Sx hR
    exact X.vl (X.len1 Try.underlying38 rfl (Sx.ev 57 (.slice la2 (L.length + 1) lc2))) hR.st0
   ·intro ac done u W Sx hR
    exact X.vl (X.move rfl (Sx.ev 0 (Vp rb))) hR.st0
   ·intro ac done u W Sx hR
    exact X.vl (Y.nilC rfl (Sx.ev 59 (Vp rb))) hR.st0
   ·intro ac done u W Sx hR
    exact X.vl (X.field rfl (Sx.ev 60 (Vp rb)) (X.fld Try.underlying91 rfl (Try.siz3 _) rfl rfl)) hR.st0
   ·intro ac done u W Sx hR
    have g : Gr w12 W := hR.1
    exact X.vl (X.load rfl (Sx.ev 61 (Vp rb)) (X.ld1 (Try.agg3 _) ((hC.gr g).at 0 rfl))) hR.st0
   ·intro ac done u W Sx hR
    exact X.vl (X.binop rfl (Sx.ev 58 (Vi (L.length + 1))) (Sx.ev 62 (Vi most)) (X.gtrI Try.underlying3 rfl)) hR.st0
   intro ac u w13 hs hd hl ho hR
   have g : Gr w12 w13 := hR.1
   replace F : Fr ac 88 [(0, Vp rb), (63, .bool (decide ((most : Int) < (L.length + 1))))] := X.fr hs hd hl _ (by kernel_rfl)
   clear hs hd hl ho hR
   replace G := G.trans g
   replace hC := hC.gr g
   replace hOw := hOw.thenGr g
   replace hRk := hRk.gr g
   clear g
   refine X.thenN ?_
   cases h14 : decide ((most : Int) < (L.length + 1)) with
   | false =>
    try rw [h14] at F
    have h14p : ¬ ((most : Int) < (L.length + 1)) := of_decide_eq_false h14
    refine Y.condF (F.ev 63 (.bool false)) ?_
    refine Y.skip ?_
    show bodyPostM _ _ _ _ _ .ret _ _
    exact Y.ret0 (v := .tuple #[]) F (Y.rs0 rfl) ⟨rfl, _, _, by rw [put_in (x := ((k0, k1), ⟨xs, a, c⟩)) h8 (hpp.trans hpos), ← hx, List.take_of_length_le (by rw [hil]; omega)]; exact hRk, hOw, fun b e => (hRO b e).imp (fun z => z) (fun e => Nat.le_trans hGs e)⟩
   | true =>
    try rw [h14] at F
    have h14p : ((most : Int) < (L.length + 1)) := of_decide_eq_true h14
    refine Y.condT (F.ev 63 (.bool true)) ?_
    have hkl9 : L.length + 1 ≤ kc2 := by have h8 := hRk.k; rw [hil] at h8; exact h8.le
    have hll9 : L.length + 1 ≤ lc2 := by have h8 := hRk.l; rw [hil] at h8; exact h8.le
    refine region_xi F [some (Vp rb), some (Vp rb), some (Vp rb), some (Vp rb), some (.pointer (some ⟨rb, 1, none⟩)), some (.slice ka2 (L.length + 1) kc2), some (Vp rb), some (Vp rb), some (Vp rb), some (Vi most), some (.slice ka2 most kc2), some (Vp rb), some (Vp rb), some (.pointer (some ⟨rb, 2, none⟩)), some (.slice la2 (L.length + 1) lc2), some (Vp rb), some (Vp rb), some (Vp rb), some (Vi most), some (.slice la2 most lc2), some (Vp rb), some (.pointer (some ⟨rb, 1, none⟩)), none, some (Vp rb), some (.pointer (some ⟨rb, 2, none⟩)), none] (RS2 w13 rb 22 25 (Vi most) (.slice ka2 (L.length + 1) kc2) (.slice la2 (L.length + 1) lc2) (.slice ka2 most kc2) (.slice la2 most lc2)) rfl ⟨by kernel_rfl, of_decide_eq_true (by kernel_rfl), by kernel_rfl, by kernel_rfl, by kernel_rfl⟩ (fun _ => ⟨RS2.start (Only.refl _ _) hRk.own, RS2.start ((Gr.drew _).only _) (hRk.own.gr (Gr.drew _))⟩) ⟨?_, ?_, ?_, ?_, ?_, ?_, ?_, ?_, ?_, ?_, ?_, ?_, ?_, ?_, ?_, ?_, ?_, ?_, ?_, ?_, ?_, ?_, ?_, ?_, ?_, ?_, trivial⟩ ?_
    ·intro ac done u W Sx hQ
     exact X.vl (X.move rfl (Sx.ev 0 (Vp rb))) (hQ.quiet (by decide))
    ·intro ac done u W Sx hQ
     exact X.vl (X.move rfl (Sx.ev 0 (Vp rb))) (hQ.quiet (by decide))
    ·intro ac done u W Sx hQ
     exact X.vl (X.move rfl (Sx.ev 0 (Vp rb))) (hQ.quiet (by decide))
    ·intro ac done u W Sx hQ
     exact X.vl (Y.nilC rfl (Sx.ev 66 (Vp rb))) (hQ.quiet (by decide))
    ·intro ac done u W Sx hQ
     exact X.vl (X.field rfl (Sx.ev 67 (Vp rb)) (X.fld Try.underlying91 rfl (Try.siz89 _) rfl rfl)) (hQ.quiet (by decide))
    ·intro ac done u W Sx hQ
     have hc9 := hQ.own.cell (k := 1) (by decide)
     rw [Sx.no 22 (by kernel_rfl)] at hc9
     exact X.vl (X.load rfl (Sx.ev 68 (.pointer (some ⟨rb, 1, none⟩))) (X.ld1 (Try.agg89 _) hc9)) (hQ.quiet (by decide))
    ·intro ac done u W Sx hQ
     exact X.vl (X.move rfl (Sx.ev 0 (Vp rb))) (hQ.quiet (by decide))
    ·intro ac done u W Sx hQ
     exact X.vl (Y.nilC rfl (Sx.ev 70 (Vp rb))) (hQ.quiet (by decide))
    ·intro ac done u W Sx hQ
     exact X.vl (X.field rfl (Sx.ev 71 (Vp rb)) (X.fld Try.underlying91 rfl (Try.siz3 _) rfl rfl)) (hQ.quiet (by decide))
    ·intro ac done u W Sx hQ
     have hc9 := hQ.own.cell (k := 0) (by decide)
     exact X.vl (X.load rfl (Sx.ev 72 (Vp rb)) (X.ld1 (Try.agg3 _) hc9)) (hQ.quiet (by decide))
    ·intro ac done u W Sx hQ
     exact X.vl (Y.slH (k := most) rfl (Sx.ev 69 (.slice ka2 (L.length + 1) kc2)) (Sx.ev 73 (Vi most)) Try.underlying89 (Try.siz92 _) (by omega) (by omega)) (hQ.quiet (by decide))
    ·intro ac done u W Sx hQ
     exact X.vl (X.move rfl (Sx.ev 0 (Vp rb))) (hQ.quiet (by decide))
    ·intro ac done u W Sx hQ
     exact X.vl (Y.nilC rfl (Sx.ev 75 (Vp rb))) (hQ.quiet (by decide))
    ·intro ac done u W Sx hQ
     exact X.vl (X.field rfl (Sx.ev 76 (Vp rb)) (X.fld Try.underlying91 rfl (Try.siz38 _) rfl rfl)) (hQ.quiet (by decide))
    ·intro ac done u W Sx hQ
     have hc9 := hQ.own.cell (k := 2) (by decide)
     rw [Sx.no 25 (by kernel_rfl)] at hc9
     exact X.vl (X.load rfl (Sx.ev 77 (.pointer (some ⟨rb, 2, none⟩))) (X.ld1 (Try.agg38 _) hc9)) (hQ.quiet (by decide))
    ·intro ac done u W Sx hQ
     exact X.vl (X.move rfl (Sx.ev 0 (Vp rb))) (hQ.quiet (by decide))
    ·intro ac done u W Sx hQ
     exact X.vl (Y.nilC rfl (Sx.ev 79 (Vp rb))) (hQ.quiet (by decide))
    ·intro ac done u W Sx hQ
     exact X.vl (X.field rfl (Sx.ev 80 (Vp rb)) (X.fld Try.underlying91 rfl (Try.siz3 _) rfl rfl)) (hQ.quiet (by decide))
    ·intro ac done u W Sx hQ
     have hc9 := hQ.own.cell (k := 0) (by decide)
     exact X.vl (X.load rfl (Sx.ev 81 (Vp rb)) (X.ld1 (Try.agg3 _) hc9)) (hQ.quiet (by decide))
    ·intro ac done u W Sx hQ
     exact X.vl (Y.slH (k := most) rfl (Sx.ev 78 (.slice la2 (L.length + 1) lc2)) (Sx.ev 82 (Vi most)) Try.underlying38 (Try.siz34 _) (by omega) (by omega)) (hQ.quiet (by decide))
    ·intro ac done u W Sx hQ
     exact X.vl (Y.nilC rfl (Sx.ev 64 (Vp rb))) (hQ.quiet (by decide))
    ·intro ac done u W Sx hQ
     exact X.vl (X.field rfl (Sx.ev 84 (Vp rb)) (X.fld Try.underlying91 rfl (Try.siz89 _) rfl rfl)) (hQ.quiet (by decide))
    ·intro ac done u W Sx hQ
     exact X.unit (X.w0 rfl) rfl (X.store rfl (Sx.ev 85 (.pointer (some ⟨rb, 1, none⟩))) (Sx.ev 74 (.slice ka2 most kc2)) (hQ.own.st1 (Try.siz89 _) rfl rfl (by decide))) (hQ.st1 (by decide))
    ·intro ac done u W Sx hQ
     exact X.vl (Y.nilC rfl (Sx.ev 65 (Vp rb))) (hQ.quiet (by decide))
    ·intro ac done u W Sx hQ
     exact X.vl (X.field rfl (Sx.ev 86 (Vp rb)) (X.fld Try.underlying91 rfl (Try.siz38 _) rfl rfl)) (hQ.quiet (by decide))
    ·intro ac done u W Sx hQ
     exact X.unit (X.w0 rfl) rfl (X.store rfl (Sx.ev 87 (.pointer (some ⟨rb, 2, none⟩))) (Sx.ev 83 (.slice la2 most lc2)) (hQ.own.st1 (Try.siz38 _) rfl rfl (by decide))) (hQ.st2 (by decide))
    rintro ac u w15 hs hd hl_ ho hQ
    have hO9 : OwnP w15 rb 3 (VL [Vi most, .slice ka2 most kc2, .slice la2 most lc2]) := hQ.own
    have hon := hQ.o
    replace F : Fr ac 88 [] := X.fr hs hd hl_ _ (by kernel_rfl)
    clear hs hd hl_ ho hQ
    rw [← hil] at hRk
    have hR3 := hRk.take (m := most) (by omega) (by omega) hon hO9
    replace hOw := hOw.step hon (.inl (.inl rfl))
    clear hC hon hO9
    show bodyPostM _ _ _ _ _ .ret _ _
    exact Y.ret0 (v := .tuple #[]) F (Y.rs0 rfl) ⟨rfl, _, _, by rw [put_in (x := ((k0, k1), ⟨xs, a, c⟩)) h8 (hpp.trans hpos), ← hx]; exact hR3, hOw, fun b e => (hRO b e.len).imp (fun z => z) (fun e => Nat.le_trans hGs e)⟩
  | true =>
   try rw [h10] at F
   have h10p : ((0 : Int) < i) := of_decide_eq_true h10
   obtain ⟨y, hy⟩ : ∃ y, L[i - 1]? = some y := ⟨_, List.getElem?_eq_getElem (by omega)⟩
   obtain ⟨g9, Lr, rfl, -⟩ := hRk.k.row (by omega)
   refine Y.region F [some (Vi i), some (.bool true), some (.bool true), some (.slice (some ⟨w.heap.size, 0, none⟩) 2 2), some (Vp rb), some (Vp rb), some (.pointer (some ⟨rb, 1, none⟩)), some (.slice (some ⟨g9, 0, none⟩) L.length kc), some (Vi i), some (Vi ((i : Int) - 1)), some (.pointer (some ⟨g9, (i - 1) * 2, none⟩)), some (.slice (some ⟨g9, (i - 1) * 2, none⟩) 2 2), some (Vi (cmpL [k0, k1] [y.1.1, y.1.2])), some (.bool (decide ((cmpL [k0, k1] [y.1.1, y.1.2] : Int) < 0))), some (.bool (decide ((cmpL [k0, k1] [y.1.1, y.1.2] : Int) < 0)))] [] rfl ⟨by kernel_rfl, of_decide_eq_true (by kernel_rfl), by kernel_rfl, by kernel_rfl, by kernel_rfl⟩ ⟨?_, ?_, ?_, ?_, ?_, ?_, ?_, ?_, ?_, ?_, ?_, ?_, ?_, ?_, ?_, trivial⟩ ?_
   ·intro ac done u W Sx hR
    exact X.vl (X.move rfl (Sx.ev 6 (Vi i))) hR.st0
   ·intro ac done u W Sx hR
    exact X.vl (X.binop rfl (Sx.ev 15 (Vi i)) (X.kc (Vi 0) rfl) (X.gtrI Try.underlying3 h10)) hR.st0
   ·intro ac done u W Sx hR
    exact X.vl (X.move rfl (Sx.ev 16 (.bool true))) hR.st0
   ·intro ac done u W Sx hR
    exact X.val (X.w1 rfl (Sx.yl 2 17 true (by kernel_rfl) rfl rfl)) rfl (Y.slAr (p := ⟨w.heap.size, 0, none⟩) rfl (Sx.ev 4 (Vp w.heap.size)) Try.underlying92 (fun W => Try.siz3 W) (by decide)) hR.st0
   ·intro ac done u W Sx hR
    exact X.val (X.w1 rfl (Sx.yl 2 17 true (by kernel_rfl) rfl rfl)) rfl (X.move rfl (Sx.ev 0 (Vp rb))) hR.st0
   ·intro ac done u W Sx hR
    exact X.val (X.w1 rfl (Sx.yl 2 17 true (by kernel_rfl) rfl rfl)) rfl (Y.nilC rfl (Sx.ev 19 (Vp rb))) hR.st0
   ·intro ac done u W Sx hR
    exact X.val (X.w1 rfl (Sx.yl 2 17 true (by kernel_rfl) rfl rfl)) rfl (X.field rfl (Sx.ev 20 (Vp rb)) (X.fld Try.underlying91 rfl (Try.siz89 _) rfl rfl)) hR.st0
   ·intro ac done u W Sx hR
    have g : Gr w9 W := hR.1
    exact X.val (X.w1 rfl (Sx.yl 2 17 true (by kernel_rfl) rfl rfl)) rfl (X.load rfl (Sx.ev 21 (.pointer (some ⟨rb, 1, none⟩))) (X.ld1 (Try.agg89 _) ((hC.gr g).at 3 rfl))) hR.st0
   ·intro ac done u W Sx hR
    exact X.val (X.w1 rfl (Sx.yl 2 17 true (by kernel_rfl) rfl rfl)) rfl (X.move rfl (Sx.ev 6 (Vi i))) hR.st0
   ·intro ac done u W Sx hR
    exact X.val (X.w1 rfl (Sx.yl 2 17 true (by kernel_rfl) rfl rfl)) rfl (X.binop rfl (Sx.ev 23 (Vi i)) (X.kc (Vi 1) rfl) (X.subI Try.underlying3 rfl (by omega) (by omega))) hR.st0
   ·intro ac done u W Sx hR
    exact X.val (X.w1 rfl (Sx.yl 2 17 true (by kernel_rfl) rfl rfl)) rfl (X.index rfl (Sx.ev 22 (.slice (some ⟨g9, 0, none⟩) L.length kc)) (Sx.ev 24 (Vi ((i : Int) - 1))) (X.idx (k := i - 1) Try.underlying89 (Try.siz92 _) (by omega) (by omega) (addr_add0 _ _))) hR.st0
   ·intro ac done u W Sx hR
    exact X.val (X.w1 rfl (Sx.yl 2 17 true (by kernel_rfl) rfl rfl)) rfl (Y.slAr (p := ⟨g9, (i - 1) * 2, none⟩) rfl (Sx.ev 25 (.pointer (some ⟨g9, (i - 1) * 2, none⟩))) Try.underlying92 (fun W => Try.siz3 W) (by decide)) hR.st0
   ·intro ac done u W Sx hR
    have g : Gr w9 W := hR.1
    refine X.call (X.w1 rfl (Sx.yl 2 17 true (by kernel_rfl) rfl rfl)) (X.enter (F := 90) rfl (X.kc (.func (.func 90) #[] #[]) rfl) (X.a2 (Sx.ev 18 (.slice (some ⟨w.heap.size, 0, none⟩) 2 2)) (Sx.ev 26 (.slice (some ⟨g9, (i - 1) * 2, none⟩) 2 2))) (enters_of Try.func90 (by kernel_rfl) rfl _)) (cmpL_any (some ⟨w.heap.size, 0, none⟩) (some ⟨g9, (i - 1) * 2, none⟩) 2 2 [k0, k1] [y.1.1, y.1.2] W (ints_2 ((hC.gr g).at 0 rfl) ((hC.gr g).at 1 rfl)) (key_ints ((hRk.gr g).k) rfl hy)) ?_
    rintro e W2 ⟨rfl, g2⟩
    exact ⟨_, rfl, X.kn rfl, hR.step g2 rfl⟩
   ·intro ac done u W Sx hR
    exact X.val (X.w1 rfl (Sx.yl 2 17 true (by kernel_rfl) rfl rfl)) rfl (X.binop rfl (Sx.ev 27 (Vi (cmpL [k0, k1] [y.1.1, y.1.2]))) (X.kc (Vi 0) rfl) (X.lssI Try.underlying3 rfl)) hR.st0
   ·intro ac done u W Sx hR
    exact X.vl (X.pickT rfl (Sx.ev 17 (.bool true)) (Sx.ev 28 (.bool (decide ((cmpL [k0, k1] [y.1.1, y.1.2] : Int) < 0))))) hR.st0
   intro ac u w16 hs hd hl ho hR
   have g : Gr w9 w16 := hR.1
   replace F : Fr ac 88 [(0, Vp rb), (2, .slice a xs.length c), (4, Vp w.heap.size), (6, Vi i), (29, .bool (decide ((cmpL [k0, k1] [y.1.1, y.1.2] : Int) < 0)))] := X.fr hs hd hl _ (by kernel_rfl)
   clear hs hd hl ho hR
   replace G := G.trans g
   replace hC := hC.gr g
   replace hO1 := hO1.thenGr g
   replace hRk := hRk.gr g
   clear g
   refine X.thenN ?_
   cases h17 : decide ((cmpL [k0, k1] [y.1.1, y.1.2] : Int) < 0) with
   | false =>
    try rw [h17] at F
    have h17p : ¬ ((cmpL [k0, k1] [y.1.1, y.1.2] : Int) < 0) := of_decide_eq_false h17
    have hlt9 : ltK (k0, k1) y.1 = false := (cmp_ltK (a := k0) (b := k1)).symm.trans h17
    have hpos := pos_ge (k := (k0, k1)) (by omega) hy hlt9
    refine Y.condF (F.ev 29 (.bool false)) ?_
    refine Y.exit ?_
    refine X.thenX ?_
    refine X.thenX ?_
    refine X.blockX ?_
    refine X.thenN ?_
    refine Y.seq ?_
    have hlt9 := hRk.lt
    have hrB := hRk.rB
    have hGs := G.size
    obtain ⟨x, hx⟩ : ∃ x : (Int × Int) × BegE, x = ((k0, k1), ⟨xs, a, c⟩) := ⟨_, rfl⟩
    refine region_xi F [some (Vp rb), some (Vp rb), some (Vp rb), some (Vp rb), some (.pointer (some ⟨rb, 1, none⟩)), some (.slice (some ⟨g9, 0, none⟩) L.length kc), some (Vi i), some (.agg #[Vi k0, Vi k1]), none, none, some (Vp rb), some (Vp rb), some (.pointer (some ⟨rb, 2, none⟩)), some (.slice la L.length lc), some (Vi i), some (.slice a xs.length c), none, none, some (Vp rb), some (.pointer (some ⟨rb, 1, none⟩)), none, some (Vp rb), some (.pointer (some ⟨rb, 2, none⟩)), none] (RPt w16 B rb most L.length (.slice (some ⟨g9, 0, none⟩) L.length kc) (.slice la L.length lc) (keysV L) (keysV (insAt L i x)) [Vi k0, Vi k1] (begsV L) (begsV (insAt L i x)) [.slice a xs.length c]) rfl ⟨by kernel_rfl, of_decide_eq_true (by kernel_rfl), by kernel_rfl, by kernel_rfl, by kernel_rfl⟩ (fun _ => ⟨RPt.start (Gr.refl _) hRk.k hRk.l hRk.kl hRk.own, (RPt.start (Gr.drew _) (hRk.k.gr (Gr.drew _)) (hRk.l.gr (Gr.drew _)) hRk.kl (hRk.own.gr (Gr.drew _)))⟩) ⟨?_, ?_, ?_, ?_, ?_, ?_, ?_, ?_, ?_, ?_, ?_, ?_, ?_, ?_, ?_, ?_, ?_, ?_, ?_, ?_, ?_, ?_, ?_, ?_, trivial⟩ ?_
    ·intro ac done u W Sx hQ
     exact X.vl (X.move rfl (Sx.ev 0 (Vp rb))) (hQ.quiet (by decide))
    ·intro ac done u W Sx hQ
     exact X.vl (X.move rfl (Sx.ev 0 (Vp rb))) (hQ.quiet (by decide))
    ·intro ac done u W Sx hQ
     exact X.vl (X.move rfl (Sx.ev 0 (Vp rb))) (hQ.quiet (by decide))
    ·intro ac done u W Sx hQ
     exact X.vl (Y.nilC rfl (Sx.ev 34 (Vp rb))) (hQ.quiet (by decide))
    ·intro ac done u W Sx hQ
     exact X.vl (X.field rfl (Sx.ev 35 (Vp rb)) (X.fld Try.underlying91 rfl (Try.siz89 _) rfl rfl)) (hQ.quiet (by decide))
    ·intro ac done u W Sx hQ
     have hc9 := hQ.own.cell (k := 1) (by decide)
     rw [Sx.no 20 (by kernel_rfl)] at hc9
     exact X.vl (X.load rfl (Sx.ev 36 (.pointer (some ⟨rb, 1, none⟩))) (X.ld1 (Try.agg89 _) hc9)) (hQ.quiet (by decide))
    ·intro ac done u W Sx hQ
     exact X.vl (X.move rfl (Sx.ev 6 (Vi i))) (hQ.quiet (by decide))
    ·intro ac done u W Sx hQ
     have c0 := hQ.o.cell (hC.at 0 rfl) (fun e => by have h9 := hltW _ e; simp only at h9; omega)
     have c1 := hQ.o.cell (hC.at 1 rfl) (fun e => by have h9 := hltW _ e; simp only at h9; omega)
     exact X.vl (X.load rfl (Sx.ev 4 (Vp w.heap.size)) (X.ldN (Try.agg92 _) (Try.siz92 _) (Y.atz (⟨w.heap.size, 0, none⟩) (Y.AtFrom.cons c0 (Y.AtFrom.cons c1 (Y.AtFrom.nil _ _ _)))))) (hQ.quiet (by decide))
    ·intro ac done u W Sx hQ
     exact X.valN (X.w0 rfl) rfl (X.bs rfl (X.b1 (Sx.ev 39 (.agg #[Vi k0, Vi k1]))) (Try.bs89 _ _ _)) (hQ.s8 (Gr.alloc _ _) hQ.o.size (heap_alloc_new _ _))
    ·intro ac done u W Sx hQ
     obtain ⟨g8, e8, hg8, hp8⟩ := hQ.k8 (Sx.an 8 (by kernel_rfl)) Sx.nd
     obtain ⟨kc9, h1, h2, h3, h4, lc9, h5, h6, h7, h8, h9⟩ := hQ.kc
     have he := h1 Sx.nd
     subst he
     rw [Sx.nd] at h3
     simp only [Bool.false_eq_true, if_false] at h3
     have hcl := ins116_any B g8 L.length i (.slice (some ⟨g9, 0, none⟩) L.length kc) (keysV L) [Vi k0, Vi k1] W h3 (keys_all L) hiL hn (fun e => by have := hlt9 _ (.inr (.inl e)); omega) hp8 rfl rfl (Nat.le_trans hRk.BW hQ.o.size)
     refine X.call (X.w0 rfl) (X.enter (F := 116) rfl (X.kc (.func (.func 116) #[] #[]) rfl) (X.a3 (Sx.ev 37 (.slice (some ⟨g9, 0, none⟩) L.length kc)) (Sx.ev 38 (Vi i)) ((Sx.own 8 40 rfl).trans e8)) (enters_of Try.func116 (by kernel_rfl) rfl _)) hcl ?_
     rintro e W2 ⟨v2, rfl, hO2, ho2, hat2⟩
     rw [show (keysV L).take (i * 2) ++ [Vi k0, Vi k1] ++ (keysV L).drop (i * 2) = keysV (insAt L i x) by subst hx; exact keys_ins L i hiL ((k0, k1), ⟨xs, a, c⟩)] at hO2
     exact ⟨_, rfl, X.un rfl, hQ.s9 Sx.nd (Sx.no 20 (by kernel_rfl)) hlt9 hrB hO2 ho2 hat2 (fun e => by have := (hRk.k.ge e).1; omega)⟩
    ·intro ac done u W Sx hQ
     exact X.vl (X.move rfl (Sx.ev 0 (Vp rb))) (hQ.quiet (by decide))
    ·intro ac done u W Sx hQ
     exact X.vl (Y.nilC rfl (Sx.ev 42 (Vp rb))) (hQ.quiet (by decide))
    ·intro ac done u W Sx hQ
     exact X.vl (X.field rfl (Sx.ev 43 (Vp rb)) (X.fld Try.underlying91 rfl (Try.siz38 _) rfl rfl)) (hQ.quiet (by decide))
    ·intro ac done u W Sx hQ
     have hc9 := hQ.own.cell (k := 2) (by decide)
     rw [Sx.no 23 (by kernel_rfl)] at hc9
     exact X.vl (X.load rfl (Sx.ev 44 (.pointer (some ⟨rb, 2, none⟩))) (X.ld1 (Try.agg38 _) hc9)) (hQ.quiet (by decide))
    ·intro ac done u W Sx hQ
     exact X.vl (X.move rfl (Sx.ev 6 (Vi i))) (hQ.quiet (by decide))
    ·intro ac done u W Sx hQ
     exact X.vl (X.move rfl (Sx.ev 2 (.slice a xs.length c))) (hQ.quiet (by decide))
    ·intro ac done u W Sx hQ
     exact X.valN (X.w0 rfl) rfl (X.bs rfl (X.b1 (Sx.ev 47 (.slice a xs.length c))) (Try.bs38 _ _ _ _)) (hQ.s16 (Gr.alloc _ _) hQ.o.size (heap_alloc_new _ _))
    ·intro ac done u W Sx hQ
     obtain ⟨g8, e8, hg8, hp8⟩ := hQ.k16 (Sx.an 16 (by kernel_rfl)) Sx.nd
     obtain ⟨kc9, h1, h2, h3, h4, lc9, h5, h6, h7, h8, h9⟩ := hQ.kc
     have he := h5 Sx.nd
     subst he
     rw [Sx.nd] at h7
     simp only [Bool.false_eq_true, if_false] at h7
     have hcl := ins117_any B g8 L.length i (.slice la L.length lc) (begsV L) [.slice a xs.length c] W h7 (begs_all L) hiL hn (fun e => by have := hlt9 _ (.inr (.inr e)); omega) hp8 rfl rfl (Nat.le_trans hRk.BW hQ.o.size)
     refine X.call (X.w0 rfl) (X.enter (F := 117) rfl (X.kc (.func (.func 117) #[] #[]) rfl) (X.a3 (Sx.ev 45 (.slice la L.length lc)) (Sx.ev 46 (Vi i)) ((Sx.own 16 48 rfl).trans e8)) (enters_of Try.func117 (by kernel_rfl) rfl _)) hcl ?_
     rintro e W2 ⟨v2, rfl, hO2, ho2, hat2⟩
     rw [show (begsV L).take (i * 1) ++ [.slice a xs.length c] ++ (begsV L).drop (i * 1) = begsV (insAt L i x) by subst hx; exact begs_ins L i ((k0, k1), ⟨xs, a, c⟩)] at hO2
     exact ⟨_, rfl, X.un rfl, hQ.s17 Sx.nd (Sx.no 23 (by kernel_rfl)) hlt9 hrB hO2 ho2 hat2 (fun e => by have := (hRk.l.ge e).1; omega)⟩
    ·intro ac done u W Sx hQ
     exact X.vl (Y.nilC rfl (Sx.ev 32 (Vp rb))) (hQ.quiet (by decide))
    ·intro ac done u W Sx hQ
     exact X.vl (X.field rfl (Sx.ev 50 (Vp rb)) (X.fld Try.underlying91 rfl (Try.siz89 _) rfl rfl)) (hQ.quiet (by decide))
    ·intro ac done u W Sx hQ
     obtain ⟨a9, c9, e9⟩ : ∃ a c, u 9 = .slice a (L.length + 1) c := by
      obtain ⟨kc9, h1, h2, h3, h4, lc9, h5, h6, h7, h8, h9⟩ := hQ.kc
      have hd := Sx.an 9 (by kernel_rfl)
      rw [hd] at h3
      rw [if_pos rfl] at h3
      rw [← h2 hd]
      exact h3.form
     have hst := hQ.own.st1 (P := Try.prog) (t := 89) (k := 1) (v := u 9) (Try.siz89 _) (by rw [e9]; rfl) (by rw [e9]; rfl) (by decide)
     exact X.unit (X.w0 rfl) rfl (X.store rfl (Sx.ev 51 (.pointer (some ⟨rb, 1, none⟩))) (Sx.own 9 41 rfl) hst) (hQ.s20 hlt9 hrB)
    ·intro ac done u W Sx hQ
     exact X.vl (Y.nilC rfl (Sx.ev 33 (Vp rb))) (hQ.quiet (by decide))
    ·intro ac done u W Sx hQ
     exact X.vl (X.field rfl (Sx.ev 52 (Vp rb)) (X.fld Try.underlying91 rfl (Try.siz38 _) rfl rfl)) (hQ.quiet (by decide))
    ·intro ac done u W Sx hQ
     obtain ⟨a9, c9, e9⟩ : ∃ a c, u 17 = .slice a (L.length + 1) c := by
      obtain ⟨kc9, h1, h2, h3, h4, lc9, h5, h6, h7, h8, h9⟩ := hQ.kc
      have hd := Sx.an 17 (by kernel_rfl)
      rw [hd] at h7
      rw [if_pos rfl] at h7
      rw [← h6 hd]
      exact h7.form
     have hst := hQ.own.st1 (P := Try.prog) (t := 38) (k := 2) (v := u 17) (Try.siz38 _) (by rw [e9]; rfl) (by rw [e9]; rfl) (by decide)
     exact X.unit (X.w0 rfl) rfl (X.store rfl (Sx.ev 53 (.pointer (some ⟨rb, 2, none⟩))) (Sx.own 17 49 rfl) hst) (hQ.s23 hlt9 hrB)
    rintro ac u w18 hs hd hl_ ho hQ
    obtain ⟨kc9, h1, h2, h3, h4, lc9, h5, h6, h7, h8, h9⟩ := hQ.kc
    have e9 := h2 rfl
    have e17 := h6 rfl
    have hO9 : OwnP w18 rb 3 (VL [Vi most, u 9, u 17]) := hQ.own
    have h3 : OwnR w18 B 92 2 kc9 (L.length + 1) (keysV (insAt L i x)) := h3
    have h7 : OwnR w18 B 34 1 lc9 (L.length + 1) (begsV (insAt L i x)) := h7
    rw [← e9, ← e17] at hO9
    obtain ⟨ka2, kc2, rfl⟩ := h3.form
    obtain ⟨la2, lc2, rfl⟩ := h7.form
    obtain ⟨hR2, hRO⟩ := hRk.ins (x := x) hiL (by subst hx; exact (hBeg.gr G)) (by subst hx; exact hBO) hQ.o h3 h7 h4 h8 h9 hO9
    have hoo := hQ.o
    clear h1 h2 h5 h6 e9 e17 hQ h3 h7 h4 h8 h9
    replace F : Fr ac 88 [(0, Vp rb)] := X.fr hs hd hl_ _ (by kernel_rfl)
    clear hs hd hl_ ho
    have hOw : Only (RkO rb (.slice (some ⟨g9, 0, none⟩) L.length kc) (.slice la L.length lc)) w w18 := (G.only _).trans hoo
    clear hoo
    have hil := ins_len (x := x) hiL
    clear hC G
    have hRw : RkAt w18 rb B most (.slice ka2 (L.length + 1) kc2) (.slice la2 (L.length + 1) lc2) (insAt L i x) := hR2
    clear hRk hR2
    have hRk := hRw
    clear hRw
    have G := Gr.refl w18
    have hR1 := hRk
    refine X.thenN ?_
    refine Y.seq ?_
    have hC : RCells w18 [(Ad rb 0, Vi most), (Ad rb 1, .slice ka2 (L.length + 1) kc2), (Ad rb 2, .slice la2 (L.length + 1) lc2)] := (RCells.cons (hRk.own.cell (k := 0) (by decide)) (RCells.cons (hRk.own.cell (k := 1) (by decide)) (RCells.cons (hRk.own.cell (k := 2) (by decide)) (RCells.nil _))))
    refine Y.region F [some (Vp rb), some (Vp rb), some (.pointer (some ⟨rb, 2, none⟩)), some (.slice la2 (L.length + 1) lc2), some (Vi (L.length + 1)), some (Vp rb), some (Vp rb), some (Vp rb), some (Vi most), some (.bool (decide ((most : Int) < (L.length + 1))))] [] rfl ⟨by kernel_rfl, of_decide_eq_true (by kernel_rfl), by kernel_rfl, by kernel_rfl, by kernel_rfl⟩ ⟨?_, ?_, ?_, ?_, ?_, ?_, ?_, ?_, ?_, ?_, trivial⟩ ?_
    ·intro ac done u W Sx hR
     exact X.vl (X.move rfl (Sx.ev 0 (Vp rb))) hR.st0
    ·intro ac done u W Sx hR
     exact X.vl (Y.nilC rfl (Sx.ev 54 (Vp rb))) hR.st0
    ·intro ac done u W Sx hR
     exact X.vl (X.field rfl (Sx.ev 55 (Vp rb)) (X.fld Try.underlying91 rfl (Try.siz38 _) rfl rfl)) hR.st0
    ·intro ac done u W Sx hR
     have g : Gr w18 W := hR.1
     exact X.vl (X.load rfl (Sx.ev 56 (.pointer (some ⟨rb, 2, none⟩))) (X.ld1 (Try.agg38 _) ((hC.gr g).at 2 rfl))) hR.st0
    ·intro ac done u W Sx hR
     exact X.vl (X.len1 Try.underlying38 rfl (Sx.ev 57 (.slice la2 (L.length + 1) lc2))) hR.st0
    ·intro ac done u W Sx hR
     exact X.vl (X.move rfl (Sx.ev 0 (Vp rb))) hR.st0
    ·intro ac done u W Sx hR
     exact X.vl (Y.nilC rfl (Sx.ev 59 (Vp rb))) hR.st0
    ·intro ac done u W Sx hR
     exact X.vl (X.field rfl (Sx.ev 60 (Vp rb)) (X.fld Try.underlying91 rfl (Try.siz3 _) rfl rfl)) hR.st0
    ·intro ac done u W Sx hR
     have g : Gr w18 W := hR.1
     exact X.vl (X.load rfl (Sx.ev 61 (Vp rb)) (X.ld1 (Try.agg3 _) ((hC.gr g).at 0 rfl))) hR.st0
    ·intro ac done u W Sx hR
     exact X.vl (X.binop rfl (Sx.ev 58 (Vi (L.length + 1))) (Sx.ev 62 (Vi most)) (X.gtrI Try.underlying3 rfl)) hR.st0
    intro ac u w19 hs hd hl ho hR
    have g : Gr w18 w19 := hR.1
    replace F : Fr ac 88 [(0, Vp rb), (63, .bool (decide ((most : Int) < (L.length + 1))))] := X.fr hs hd hl _ (by kernel_rfl)
    clear hs hd hl ho hR
    replace G := G.trans g
    replace hC := hC.gr g
    replace hOw := hOw.thenGr g
    replace hRk := hRk.gr g
    clear g
    refine X.thenN ?_
    cases h20 : decide ((most : Int) < (L.length + 1)) with
    | false =>
     try rw [h20] at F
     have h20p : ¬ ((most : Int) < (L.length + 1)) := of_decide_eq_false h20
     refine Y.condF (F.ev 63 (.bool false)) ?_
     refine Y.skip ?_
     show bodyPostM _ _ _ _ _ .ret _ _
     exact Y.ret0 (v := .tuple #[]) F (Y.rs0 rfl) ⟨rfl, _, _, by rw [put_in (x := ((k0, k1), ⟨xs, a, c⟩)) h8 (hpp.trans hpos), ← hx, List.take_of_length_le (by rw [hil]; omega)]; exact hRk, hOw, fun b e => (hRO b e).imp (fun z => z) (fun e => Nat.le_trans hGs e)⟩
    | true =>
     try rw [h20] at F
     have h20p : ((most : Int) < (L.length + 1)) := of_decide_eq_true h20
     refine Y.condT (F.ev 63 (.bool true)) ?_
     have hkl9 : L.length + 1 ≤ kc2 := by have h8 := hRk.k; rw [hil] at h8; exact h8.le
     have hll9 : L.length + 1 ≤ lc2 := by have h8 := hRk.l; rw [hil] at h8; exact h8.le
     refine region_xi F [some (Vp rb), some (Vp rb), some (Vp rb), some (Vp rb), some (.pointer (some ⟨rb, 1, none⟩)), some (.slice ka2 (L.length + 1) kc2), some (Vp rb), some (Vp rb), some (Vp rb), some (Vi most), some (.slice ka2 most kc2), some (Vp rb), some (Vp rb), some (.pointer (some ⟨rb, 2, none⟩)), some (.slice la2 (L.length + 1) lc2), some (Vp rb), some (Vp rb), some (Vp rb), some (Vi most), some (.slice la2 most lc2), some (Vp rb), some (.pointer (some ⟨rb, 1, none⟩)), none, some (Vp rb), some (.pointer (some ⟨rb, 2, none⟩)), none] (RS2 w19 rb 22 25 (Vi most) (.slice ka2 (L.length + 1) kc2) (.slice la2 (L.length + 1) lc2) (.slice ka2 most kc2) (.slice la2 most lc2)) rfl ⟨by kernel_rfl, of_decide_eq_true (by kernel_rfl), by kernel_rfl, by kernel_rfl, by kernel_rfl⟩ (fun _ => ⟨RS2.start (Only.refl _ _) hRk.own, RS2.start ((Gr.drew _).only _) (hRk.own.gr (Gr.drew _))⟩) ⟨?_, ?_, ?_, ?_, ?_, ?_, ?_, ?_, ?_, ?_, ?_, ?_, ?_, ?_, ?_, ?_, ?_, ?_, ?_, ?_, ?_, ?_, ?_, ?_, ?_, ?_, trivial⟩ ?_
     ·intro ac done u W Sx hQ
      exact X.vl (X.move rfl (Sx.ev 0 (Vp rb))) (hQ.quiet (by decide))
     ·intro ac done u W Sx hQ
      exact X.vl (X.move rfl (Sx.ev 0 (Vp rb))) (hQ.quiet (by decide))
     ·intro ac done u W Sx hQ
      exact X.vl (X.move rfl (Sx.ev 0 (Vp rb))) (hQ.quiet (by decide))
     ·intro ac done u W Sx hQ
      exact X.vl (Y.nilC rfl (Sx.ev 66 (Vp rb))) (hQ.quiet (by decide))
     ·intro ac done u W Sx hQ
      exact X.vl (X.field rfl (Sx.ev 67 (Vp rb)) (X.fld Try.underlying91 rfl (Try.siz89 _) rfl rfl)) (hQ.quiet (by decide))
     ·intro ac done u W Sx hQ
      have hc9 := hQ.own.cell (k := 1) (by decide)
      rw [Sx.no 22 (by kernel_rfl)] at hc9
      exact X.vl (X.load rfl (Sx.ev 68 (.pointer (some ⟨rb, 1, none⟩))) (X.ld1 (Try.agg89 _) hc9)) (hQ.quiet (by decide))
     ·intro ac done u W Sx hQ
      exact X.vl (X.move rfl (Sx.ev 0 (Vp rb))) (hQ.quiet (by decide))
     ·intro ac done u W Sx hQ
      exact X.vl (Y.nilC rfl (Sx.ev 70 (Vp rb))) (hQ.quiet (by decide))
     ·intro ac done u W Sx hQ
      exact X.vl (X.field rfl (Sx.ev 71 (Vp rb)) (X.fld Try.underlying91 rfl (Try.siz3 _) rfl rfl)) (hQ.quiet (by decide))
     ·intro ac done u W Sx hQ
      have hc9 := hQ.own.cell (k := 0) (by decide)
      exact X.vl (X.load rfl (Sx.ev 72 (Vp rb)) (X.ld1 (Try.agg3 _) hc9)) (hQ.quiet (by decide))
     ·intro ac done u W Sx hQ
      exact X.vl (Y.slH (k := most) rfl (Sx.ev 69 (.slice ka2 (L.length + 1) kc2)) (Sx.ev 73 (Vi most)) Try.underlying89 (Try.siz92 _) (by omega) (by omega)) (hQ.quiet (by decide))
     ·intro ac done u W Sx hQ
      exact X.vl (X.move rfl (Sx.ev 0 (Vp rb))) (hQ.quiet (by decide))
     ·intro ac done u W Sx hQ
      exact X.vl (Y.nilC rfl (Sx.ev 75 (Vp rb))) (hQ.quiet (by decide))
     ·intro ac done u W Sx hQ
      exact X.vl (X.field rfl (Sx.ev 76 (Vp rb)) (X.fld Try.underlying91 rfl (Try.siz38 _) rfl rfl)) (hQ.quiet (by decide))
     ·intro ac done u W Sx hQ
      have hc9 := hQ.own.cell (k := 2) (by decide)
      rw [Sx.no 25 (by kernel_rfl)] at hc9
      exact X.vl (X.load rfl (Sx.ev 77 (.pointer (some ⟨rb, 2, none⟩))) (X.ld1 (Try.agg38 _) hc9)) (hQ.quiet (by decide))
     ·intro ac done u W Sx hQ
      exact X.vl (X.move rfl (Sx.ev 0 (Vp rb))) (hQ.quiet (by decide))
     ·intro ac done u W Sx hQ
      exact X.vl (Y.nilC rfl (Sx.ev 79 (Vp rb))) (hQ.quiet (by decide))
     ·intro ac done u W Sx hQ
      exact X.vl (X.field rfl (Sx.ev 80 (Vp rb)) (X.fld Try.underlying91 rfl (Try.siz3 _) rfl rfl)) (hQ.quiet (by decide))
     ·intro ac done u W Sx hQ
      have hc9 := hQ.own.cell (k := 0) (by decide)
      exact X.vl (X.load rfl (Sx.ev 81 (Vp rb)) (X.ld1 (Try.agg3 _) hc9)) (hQ.quiet (by decide))
     ·intro ac done u W Sx hQ
      exact X.vl (Y.slH (k := most) rfl (Sx.ev 78 (.slice la2 (L.length + 1) lc2)) (Sx.ev 82 (Vi most)) Try.underlying38 (Try.siz34 _) (by omega) (by omega)) (hQ.quiet (by decide))
     ·intro ac done u W Sx hQ
      exact X.vl (Y.nilC rfl (Sx.ev 64 (Vp rb))) (hQ.quiet (by decide))
     ·intro ac done u W Sx hQ
      exact X.vl (X.field rfl (Sx.ev 84 (Vp rb)) (X.fld Try.underlying91 rfl (Try.siz89 _) rfl rfl)) (hQ.quiet (by decide))
     ·intro ac done u W Sx hQ
      exact X.unit (X.w0 rfl) rfl (X.store rfl (Sx.ev 85 (.pointer (some ⟨rb, 1, none⟩))) (Sx.ev 74 (.slice ka2 most kc2)) (hQ.own.st1 (Try.siz89 _) rfl rfl (by decide))) (hQ.st1 (by decide))
     ·intro ac done u W Sx hQ
      exact X.vl (Y.nilC rfl (Sx.ev 65 (Vp rb))) (hQ.quiet (by decide))
     ·intro ac done u W Sx hQ
      exact X.vl (X.field rfl (Sx.ev 86 (Vp rb)) (X.fld Try.underlying91 rfl (Try.siz38 _) rfl rfl)) (hQ.quiet (by decide))
     ·intro ac done u W Sx hQ
      exact X.unit (X.w0 rfl) rfl (X.store rfl (Sx.ev 87 (.pointer (some ⟨rb, 2, none⟩))) (Sx.ev 83 (.slice la2 most lc2)) (hQ.own.st1 (Try.siz38 _) rfl rfl (by decide))) (hQ.st2 (by decide))
     rintro ac u w21 hs hd hl_ ho hQ
     have hO9 : OwnP w21 rb 3 (VL [Vi most, .slice ka2 most kc2, .slice la2 most lc2]) := hQ.own
     have hon := hQ.o
     replace F : Fr ac 88 [] := X.fr hs hd hl_ _ (by kernel_rfl)
     clear hs hd hl_ ho hQ
     rw [← hil] at hRk
     have hR3 := hRk.take (m := most) (by omega) (by omega) hon hO9
     replace hOw := hOw.step hon (.inl (.inl rfl))
     clear hC hon hO9
     show bodyPostM _ _ _ _ _ .ret _ _
     exact Y.ret0 (v := .tuple #[]) F (Y.rs0 rfl) ⟨rfl, _, _, by rw [put_in (x := ((k0, k1), ⟨xs, a, c⟩)) h8 (hpp.trans hpos), ← hx]; exact hR3, hOw, fun b e => (hRO b e.len).imp (fun z => z) (fun e => Nat.le_trans hGs e)⟩
   | true =>
    try rw [h17] at F
    have h17p : ((cmpL [k0, k1] [y.1.1, y.1.2] : Int) < 0) := of_decide_eq_true h17
    have hlt9 : ltK (k0, k1) y.1 = true := (cmp_ltK (a := k0) (b := k1)).symm.trans h17
    have hpn := pos_lt (k := (k0, k1)) (by omega) hy hlt9
    refine Y.condT (F.ev 29 (.bool true)) ?_
    refine Y.skip ?_
    refine X.thenN ?_
    refine Y.block ?_
    refine Y.lit (by kernel_rfl) ?_
    refine Y.pv F (X.move rfl (F.ev 6 (Vi i))) ?_;clear F ac;intro ac F
    refine Y.pv F (X.binop rfl (F.ev 30 (Vi i)) (X.kc (Vi 1) rfl) (X.subI Try.underlying3 rfl (by omega) (by omega))) ?_;clear F ac;intro ac F
    refine Y.pv F (X.assign rfl (F.ev 31 (Vi ((i : Int) - 1)))) ?_;clear F ac;intro ac F
    refine Y.nil ?_
    replace F : Fr ac 88 [(0, Vp rb), (2, .slice a xs.length c), (4, Vp w.heap.size), (6, Vi ((i : Int) - 1))] := F.sub _
    refine X.blockN ?_
    refine X.thenN ?_
    refine ⟨_, ?_, i - 1, rfl, hO1, by omega, hpp.trans hpn, (by rw [show ((i - 1 : Nat) : Int) = (i : Int) - 1 by omega]; exact F.sub _)⟩
    omega
 | true =>
  try rw [h8] at F
  refine Y.condT (F.ev 9 (.bool true)) ?_
  refine Y.ret ?_
  refine X.thenR ?_
  exact Y.ret0 (v := .tuple #[]) F (Y.rs0 rfl) ⟨rfl, _, _, by rw [put_full h8]; exact hRk, G.only _, fun b e => .inl e⟩
end
section
set_option linter.unusedVariables false
open Go.RowKit
theorem ret_mark {P : Program} {fn : Func} {R : Ending → World → Prop} {A : Act} {W : World} {v : Value} {N k : Nat} {L : List (Nat × Value)} (F : Fr A N L [{ target := .collected k, args := #[] }]) (hk : W.heap[k]? = some (.deferred (some [])))
    (hr : (results fn A.tmps).run P (W.putObj k (.deferred none)) = .ok v (W.putObj k (.deferred none))) (h : ∀ W2, Only (fun b => b = k) W W2 → R (.returned v) W2) : bodyPostM Fence.wide 0 P fn R .ret A W :=
  Y.ret1 F hk hr (h _ (putObj_only _ _ _))
theorem Y.stNew1 {P : Program} {W : World} {t T : TypeId} (v z : Value) (hS : (sizeOf t).run P (W.alloc (.cells #[z] T)) = .ok 1 (W.alloc (.cells #[z] T))) (hv : v.cells = #[v]) (hv1 : v.oneCell' = true) :
    (Instr.storeAt t (.pointer (some ⟨W.heap.size, 0, none⟩)) v).run P (W.alloc (.cells #[z] T)) = .ok () (W.alloc (.cells #[v] T)) := by
  have h := Y.st1 (P := P) (p := ⟨W.heap.size, 0, none⟩) hS hv hv1 (v0 := z) (cell_new (by simp)) (Y.fresh_fz W #[z] T 0)
  rw [h, Y.alloc_set]
  rfl
theorem Try.bd91 (x : Int) (w : World) : (Instr.build 91 #[(0, .int .i64 x)]).run Try.prog w = .ok (.agg #[.int .i64 x, .slice none 0 0, .slice none 0 0]) w := by kernel_rfl
theorem Try.bd92 (x y : Int) (w : World) : (Instr.build 92 #[(0, .int .i64 x), (1, .int .i64 y)]).run Try.prog w = .ok (.agg #[.int .i64 x, .int .i64 y]) w := by kernel_rfl
def stF (p : Pb) (most : Nat) (mv : List Int → Int × Bool) (s : List ((Int × Int) × List Int)) (xs : List Int) : List ((Int × Int) × List Int) × Bool × Bool :=
  if hopeB p (tim p) xs then (s, true, true)
  else if !(mv xs).2 || fullR most s ((mv xs).1, bndV p xs) then (s, false, true)
  else if xs.length = p.nt then (putR most s (((mv xs).1, bndV p xs), xs), true, true) else (s, true, true)
section
variable {p : Pb} {most : Nat} {mv : List Int → Int × Bool} {s : List ((Int × Int) × List Int)} {xs : List Int}
theorem stF_h (h : hopeB p (tim p) xs = true) : stF p most mv s xs = (s, true, true) := by unfold stF; rw [if_pos h]
theorem stF_c (h : hopeB p (tim p) xs = false) (k : (mv xs).2 = false ∨ fullR most s ((mv xs).1, bndV p xs) = true) : stF p most mv s xs = (s, false, true) := by
  unfold stF; rw [if_neg (by rw [h]; decide), if_pos (by rcases k with k | k <;> simp [k])]
theorem stF_p (h : hopeB p (tim p) xs = false) (k1 : (mv xs).2 = true) (k2 : fullR most s ((mv xs).1, bndV p xs) = false) (l : xs.length = p.nt) : stF p most mv s xs = (putR most s (((mv xs).1, bndV p xs), xs), true, true) := by
  unfold stF; rw [if_neg (by rw [h]; decide), if_neg (by simp [k1, k2]), if_pos l]
theorem stF_n (h : hopeB p (tim p) xs = false) (k1 : (mv xs).2 = true) (k2 : fullR most s ((mv xs).1, bndV p xs) = false) (l : ¬ xs.length = p.nt) : stF p most mv s xs = (s, true, true) := by
  unfold stF; rw [if_neg (by rw [h]; decide), if_neg (by simp [k1, k2]), if_neg l]
end
theorem put_len {L : RkL} {most : Nat} {x : (Int × Int) × BegE} (h : L.length ≤ most) : (putR most L x).length ≤ most := by
  unfold putR
  split
  · exact h
  · rw [List.length_take]; omega
theorem put_mem {L : RkL} {most : Nat} {x y : (Int × Int) × BegE} (h : y ∈ putR most L x) : y = x ∨ y ∈ L := by
  unfold putR at h
  split at h
  · exact .inr h
  · exact ins_mem (List.mem_of_mem_take h)
def RkP (L : RkL) (b : Nat) : Prop := ∃ x ∈ L, ∃ ad, x.2.a = some ad ∧ ad.block = b
def RkK (rb B most : Nat) (s : List ((Int × Int) × List Int)) (O Kp : Nat → Prop) (W : World) : Prop :=
  ∃ kv lv L, strip L = s ∧ RkAt W rb B most kv lv L ∧ O = RkO rb kv lv ∧ Kp = RkP L ∧ L.length ≤ most ∧ (∀ b, Kp b → B + 2 ≤ b)
section
variable {rb B most : Nat} {s : List ((Int × Int) × List Int)} {O Kp : Nat → Prop} {W W' : World}
theorem RkK.lt (h : RkK rb B most s O Kp W) : ∀ b, O b ∨ Kp b → b < W.heap.size := by
  obtain ⟨kv, lv, L, hs, hR, rfl, rfl, hm, hl⟩ := h
  rintro b (e | ⟨x, hx, ad, e, rfl⟩)
  · exact hR.lt b e
  · exact ((hR.b x hx).ge ad e).2
theorem RkK.gr (h : RkK rb B most s O Kp W) (g : Gr W W') : RkK rb B most s O Kp W' := by
  obtain ⟨kv, lv, L, hs, hR, h1, h2, hm, hl⟩ := h
  exact ⟨kv, lv, L, hs, hR.gr g, h1, h2, hm, hl⟩
theorem RkK.only {Yb : Nat → Prop} (h : RkK rb B most s O Kp W) (hY : ∀ b, Yb b → b < B) (hO : ∀ b, O b → Yb b ∨ B + 2 ≤ b) (g : Only (fun b => b = B + 1) W W') : RkK rb B most s O Kp W' := by
  obtain ⟨kv, lv, L, hs, hR, h1, h2, hm, hl⟩ := h
  refine ⟨kv, lv, L, hs, hR.only g (fun b hb e => ?_) (fun x hx ad e k => ?_), h1, h2, hm, hl⟩
  · rcases hO b (h1 ▸ hb) with k | k
    · have := hY b k; omega
    · omega
  · have := hl ad.block (h2 ▸ ⟨x, hx, ad, e, rfl⟩)
    omega
theorem RkK.start (h : OwnP W rb 3 (VL [.int .i64 most, .slice none 0 0, .slice none 0 0])) (hB : B ≤ W.heap.size) (hr : rb < B) : RkK rb B most [] (fun b => b = rb) (fun _ => False) W :=
  ⟨.slice none 0 0, .slice none 0 0, [], rfl, ⟨h, OwnR.nil _ _ _ _, OwnR.nil _ _ _ _, fun x hx => (by cases hx), fun x e => (by cases e), fun x hx => (by cases hx), hr, hB⟩, by
    funext b; simp [RkO, Value.ownBlock], by
    funext b; simp [RkP], Nat.zero_le _, fun b e => e.elim⟩
end
end
section
open Go.RowKit

set_option maxRecDepth 100000 in
set_option maxHeartbeats 400000 in
theorem still_any (a : Option Addr) (n c : Nat) (w : World) :
  Calls Try.prog 65 #[.slice a n c] w fun e w' => e = .returned (.tuple #[Vi 0, .bool true]) ∧ Gr w w' := by
 have G := Gr.refl w
 refine Y.calls 4 Try.func65 rfl rfl ?_
 intro ac F0
 have F : Fr ac 4 [(0, .slice a n c)] := F0.sub _
 clear F0
 refine Y.seq ?_
 refine Y.lit (by kernel_rfl) ?_
 refine Y.pv F (X.assign rfl (X.kc (Vi 0) rfl)) ?_;clear F ac;intro ac F
 refine Y.pv F (X.assign rfl (X.kc (.bool false) rfl)) ?_;clear F ac;intro ac F
 refine Y.nil ?_
 replace F : Fr ac 4 [] := F.sub _
 refine X.thenN ?_
 refine Y.seq ?_
 refine Y.lit (by kernel_rfl) ?_
 refine Y.pv F (X.assign rfl (X.kc (Vi 0) rfl)) ?_;clear F ac;intro ac F
 refine Y.pv F (X.assign rfl (X.kc (.bool true) rfl)) ?_;clear F ac;intro ac F
 refine Y.nil ?_
 replace F : Fr ac 4 [(2, Vi 0), (3, .bool true)] := F.sub _
 refine X.thenN ?_
 refine Y.ret ?_
 exact Y.ret0 (v := .tuple #[Vi 0, .bool true]) F (Y.rs2 F rfl (by kernel_rfl) (by kernel_rfl)) ⟨rfl, G⟩
set_option maxRecDepth 100000 in
set_option maxHeartbeats 4000000 in
theorem first_any (p : Pb) (ta ha ba la : Option Addr) (tc hc bc lc : Nat) (most : Nat) (gf : FuncId) (caps : Array Value) (mv : List Int → Int × Bool) (w : World) (hP : PbAt w p ta ha ba la tc hc bc lc) (hp : PbOk p) (hm : 1 ≤ most ∧ most ≤ 100000) (eg : ∀ args w, (callFunc gf args).run Try.prog w = .ok (.enter gf args) w)
  (hmv : ∀ (W : World) (xs : List Int) (a : Option Addr) (c : Nat), Gr w W → Ints W a xs.length xs → xs.length ≤ p.nt → HosOk p xs → Calls Try.prog gf (#[.slice a xs.length c] ++ caps) W fun e W' => e = .returned (.tuple #[Vi (mv xs).1, .bool (mv xs).2]) ∧ Gr W W') :
  Calls Try.prog 64 #[.agg #[.slice ta p.nt tc, .slice ha p.nh hc, .slice ba p.nb bc, .slice la p.nl lc], Vi most, .func (.func gf) #[] caps] w fun e w' => ∃ rb kv lv L B, e = .returned (Vp rb) ∧ RkAt w' rb B most kv lv L ∧ visF p.nh (hopeB p (tim p)) (stF p most mv) p.nt [] [] = (strip L, true) ∧ w.heap.size ≤ rb ∧ w.heap.size ≤ B ∧ L.length ≤ most ∧ Gr w w' := by
 have G := Gr.refl w
 have hpt := hP.t
 have hph := hP.h
 have hpb := hP.b
 have hpl := hP.l
 have hplen := hP.len
 obtain ⟨hn1, hn2, hn3, hn4⟩ := hplen
 have hcp1 := hpt.cap
 have hcp2 := hph.cap
 have hcp3 := hpb.cap
 have hcp4 := hpl.cap
 refine Y.calls 57 Try.func64 rfl rfl ?_
 intro ac F0
 have F : Fr ac 57 [(0, .agg #[.slice ta p.nt tc, .slice ha p.nh hc, .slice ba p.nb bc, .slice la p.nl lc]), (1, Vi most), (2, .func (.func gf) #[] caps)] := F0.sub _
 clear F0
 refine Y.seq ?_
 refine Y.lit (by kernel_rfl) ?_
 have hgs3 : w.heap.size ≤ w.heap.size := G.size
 refine Y.pv F (X.box rfl (F.ev 0 (.agg #[.slice ta p.nt tc, .slice ha p.nh hc, .slice ba p.nb bc, .slice la p.nl lc])) X.bx) ?_;clear F ac;intro ac F
 have hgs5 : w.heap.size ≤ w.heap.size := G.size
 have g := Gr.alloc w (.cells #[.slice ta p.nt tc, .slice ha p.nh hc, .slice ba p.nb bc, .slice la p.nl lc] 27)
 have hb := heap_alloc_new w (.cells #[.slice ta p.nt tc, .slice ha p.nh hc, .slice ba p.nb bc, .slice la p.nl lc] 27)
 have hbl : w.heap.size < (w.alloc (.cells #[.slice ta p.nt tc, .slice ha p.nh hc, .slice ba p.nb bc, .slice la p.nl lc] 27)).heap.size := by simp
 have hC2 : RCells (w.alloc (.cells #[.slice ta p.nt tc, .slice ha p.nh hc, .slice ba p.nb bc, .slice la p.nl lc] 27)) [(Ad w.heap.size 0, .slice ta p.nt tc), (Ad w.heap.size 1, .slice ha p.nh hc), (Ad w.heap.size 2, .slice ba p.nb bc), (Ad w.heap.size 3, .slice la p.nl lc)] := (RCells.nil w).box (b := w.heap.size) #[.slice ta p.nt tc, .slice ha p.nh hc, .slice ba p.nb bc, .slice la p.nl lc] 27 rfl
 generalize w.alloc (.cells #[.slice ta p.nt tc, .slice ha p.nh hc, .slice ba p.nb bc, .slice la p.nl lc] 27) = w6 at *
 replace G := G.trans g
 have hC := hC2
 clear hC2
 replace hpt := hpt.gr g
 replace hph := hph.gr g
 replace hpb := hpb.gr g
 replace hpl := hpl.gr g
 have hsz4 := hbl
 clear g hb hbl
 have hgs7 : w.heap.size ≤ w6.heap.size := G.size
 refine Y.pv F (X.box rfl (F.ev 2 (.func (.func gf) #[] caps)) (Y.bx1 rfl)) ?_;clear F ac;intro ac F
 have hgs9 : w.heap.size ≤ w6.heap.size := G.size
 have g := Gr.alloc w6 (.cells #[.func (.func gf) #[] caps] 88)
 have hb := heap_alloc_new w6 (.cells #[.func (.func gf) #[] caps] 88)
 have hbl : w6.heap.size < (w6.alloc (.cells #[.func (.func gf) #[] caps] 88)).heap.size := by simp
 have hC2 : RCells (w6.alloc (.cells #[.func (.func gf) #[] caps] 88)) [(Ad w.heap.size 0, .slice ta p.nt tc), (Ad w.heap.size 1, .slice ha p.nh hc), (Ad w.heap.size 2, .slice ba p.nb bc), (Ad w.heap.size 3, .slice la p.nl lc), (Ad w6.heap.size 0, .func (.func gf) #[] caps)] := hC.box (b := w6.heap.size) #[.func (.func gf) #[] caps] 88 rfl
 generalize w6.alloc (.cells #[.func (.func gf) #[] caps] 88) = w10 at *
 replace G := G.trans g
 replace hC := hC2
 clear hC2
 replace hpt := hpt.gr g
 replace hph := hph.gr g
 replace hpb := hpb.gr g
 replace hpl := hpl.gr g
 have hsz8 := hbl
 clear g hb hbl
 refine Y.pv F (X.assign rfl (X.kc (.pointer none) rfl)) ?_;clear F ac;intro ac F
 refine Y.nil ?_
 replace F : Fr ac 57 [(1, Vi most), (3, Vp w.heap.size), (5, Vp w6.heap.size)] := F.sub _
 refine X.thenN ?_
 refine Y.seq ?_
 refine Y.lit (by kernel_rfl) ?_
 refine Y.pv F (X.move rfl (F.ev 1 (Vi most))) ?_;clear F ac;intro ac F
 refine Y.pv F (Y.bd rfl (X.b1 (F.ev 12 (Vi most))) (Try.bd91 _ _)) ?_;clear F ac;intro ac F
 refine Y.pv F (X.box rfl (F.ev 13 (.agg #[Vi most, .slice none 0 0, .slice none 0 0])) X.bx) ?_;clear F ac;intro ac F
 have g := Gr.alloc w10 (.cells #[Vi most, .slice none 0 0, .slice none 0 0] 91)
 have hb := heap_alloc_new w10 (.cells #[Vi most, .slice none 0 0, .slice none 0 0] 91)
 have hszw11 : w10.heap.size < (w10.alloc (.cells #[Vi most, .slice none 0 0, .slice none 0 0] 91)).heap.size := by simp
 have hgsw11 : w.heap.size ≤ w10.heap.size := G.size
 generalize w10.alloc (.cells #[Vi most, .slice none 0 0, .slice none 0 0] 91) = w11 at *
 replace G := G.trans g
 replace hC := hC.gr g
 replace hpt := hpt.gr g
 replace hph := hph.gr g
 replace hpb := hpb.gr g
 replace hpl := hpl.gr g
 have hVw11 : OwnP w11 w10.heap.size 3 (VL [Vi most, .slice none 0 0, .slice none 0 0]) := ownP_bx (vs := [Vi most, .slice none 0 0, .slice none 0 0]) hb
 clear g hb
 refine Y.pv F (Y.al rfl (Try.new86 _)) ?_;clear F ac;intro ac F
 refine Y.punit F (X.w0 rfl) rfl (X.store rfl (F.ev 7 (Vp w11.heap.size)) (F.ev 14 (Vp w10.heap.size)) (Y.stNew1 (Vp w10.heap.size) ((.pointer none)) (Try.siz86 _) rfl rfl)) ?_;clear F ac;intro ac F
 have hgs13 : w.heap.size ≤ w11.heap.size := G.size
 have g := Gr.alloc w11 (.cells #[Vp w10.heap.size] 86)
 have hb := heap_alloc_new w11 (.cells #[Vp w10.heap.size] 86)
 have hbl : w11.heap.size < (w11.alloc (.cells #[Vp w10.heap.size] 86)).heap.size := by simp
 have hC2 : RCells (w11.alloc (.cells #[Vp w10.heap.size] 86)) [(Ad w.heap.size 0, .slice ta p.nt tc), (Ad w.heap.size 1, .slice ha p.nh hc), (Ad w.heap.size 2, .slice ba p.nb bc), (Ad w.heap.size 3, .slice la p.nl lc), (Ad w6.heap.size 0, .func (.func gf) #[] caps), (Ad w11.heap.size 0, Vp w10.heap.size)] := hC.box (b := w11.heap.size) #[Vp w10.heap.size] 86 rfl
 generalize w11.alloc (.cells #[Vp w10.heap.size] 86) = w14 at *
 replace G := G.trans g
 replace hC := hC2
 clear hC2
 replace hpt := hpt.gr g
 replace hph := hph.gr g
 replace hpb := hpb.gr g
 replace hpl := hpl.gr g
 replace hVw11 := hVw11.gr g
 have hsz12 := hbl
 clear g hb hbl
 refine Y.nil ?_
 replace F : Fr ac 57 [(3, Vp w.heap.size), (5, Vp w6.heap.size), (7, Vp w11.heap.size)] := F.sub _
 refine X.thenN ?_
 refine Y.seq ?_
 refine Y.seq ?_
 refine Y.lit (by kernel_rfl) ?_
 refine Y.pv F (X.load rfl (F.ev 3 (Vp w.heap.size)) (X.ldN (Try.agg27 _) (Try.siz27 _) (Y.atz (⟨w.heap.size, 0, none⟩) (Y.AtFrom.cons (hC.at 0 rfl) (Y.AtFrom.cons (hC.at 1 rfl) (Y.AtFrom.cons (hC.at 2 rfl) (Y.AtFrom.cons (hC.at 3 rfl) (Y.AtFrom.nil _ _ _)))))))) ?_;clear F ac;intro ac F
 refine Y.pcall F (X.w0 rfl) rfl (X.enter (F := 69) rfl (X.kc (.func (.func 69) #[] #[]) rfl) (X.a1 (F.ev 15 (.agg #[.slice ta p.nt tc, .slice ha p.nh hc, .slice ba p.nb bc, .slice la p.nl lc]))) (enters_of Try.func69 (by kernel_rfl) rfl _)) (nodes_any p ta ha ba la tc hc bc lc w14) ?_
 clear F ac
 have hpre9 := G.size
 rintro e w15 ⟨bn16, rfl, hbn9, hcn, g⟩
 refine ⟨_, rfl, ?_⟩
 intro ac F
 replace G := G.trans g
 replace hC := hC.gr g
 replace hpt := hpt.gr g
 replace hph := hph.gr g
 replace hpb := hpb.gr g
 replace hpl := hpl.gr g
 replace hVw11 := hVw11.gr g
 clear g
 replace hC : RCells w15 [(Ad w.heap.size 0, .slice ta p.nt tc), (Ad w.heap.size 1, .slice ha p.nh hc), (Ad w.heap.size 2, .slice ba p.nb bc), (Ad w.heap.size 3, .slice la p.nl lc), (Ad w6.heap.size 0, .func (.func gf) #[] caps), (Ad w11.heap.size 0, Vp w10.heap.size), (Ad bn16 0, .slice ta p.nt tc), (Ad bn16 1, .slice ha p.nh hc), (Ad bn16 2, .slice ba p.nb bc), (Ad bn16 3, .slice la p.nl lc)] := hC.append ((RCells.cons (hcn.at 0 rfl) (RCells.cons (hcn.at 1 rfl) (RCells.cons (hcn.at 2 rfl) (RCells.cons (hcn.at 3 rfl) (RCells.nil _))))))
 refine Y.nil ?_
 replace F : Fr ac 57 [(3, Vp w.heap.size), (5, Vp w6.heap.size), (7, Vp w11.heap.size), (16, .func (.func 102) #[] #[Vp bn16])] := F.sub _
 refine X.thenN ?_
 refine Y.block ?_
 have Gf0 := G
 replace F : Fr ac 57 [(3, Vp w.heap.size), (5, Vp w6.heap.size), (7, Vp w11.heap.size), (16, .func (.func 102) #[] #[Vp bn16])] := F.sub _
 have hgw := G.size
 have hCn : RCells w15 (PbC p ta ha ba la tc hc bc lc bn16) := (RCells.cons (hC.at 6 rfl) (RCells.cons (hC.at 7 rfl) (RCells.cons (hC.at 8 rfl) (RCells.cons (hC.at 9 rfl) (RCells.nil _)))))
 have hzl17 : bn16 < w15.heap.size := lt_cell (hC.at 6 rfl)
 have hzl18 : w.heap.size < w15.heap.size := lt_cell (hC.at 0 rfl)
 have hzl19 : w11.heap.size < w15.heap.size := lt_cell (hC.at 5 rfl)
 have hzl20 : w6.heap.size < w15.heap.size := lt_cell (hC.at 4 rfl)
 have hzy21 : w10.heap.size < w15.heap.size := hVw11.lt
 have hPb : ∀ W, Only (fun b => b = w10.heap.size) w15 W → PbAt W p ta ha ba la tc hc bc lc ∧ RCells W (PbC p ta ha ba la tc hc bc lc bn16) := fun W h => ⟨hP.gr (Y.Only.up G h (by omega)), hCn.only h (fun q hq e => by
  simp [PbC] at hq
  rcases hq with rfl | rfl | rfl | rfl <;> (first | omega | (simp only at e; omega)))⟩
 have hK0 := RkK.start (B := w15.heap.size) hVw11 (Nat.le_refl _) (by omega)
 have hCl := hC
 have Gl := G
 refine Y.ndRange (D := []) (p := p) (ta := ta) (ha := ha) (ba := ba) (la := la) (tc := tc) (hc := hc) (bc := bc) (lc := lc) (bp := bn16) F (by decide) (by decide) rfl rfl rfl rfl rfl rfl rfl (F.ev 16 _) hp (fun b => b = w10.heap.size) (fun b e => by first | omega | (first | omega | (simp only at e; omega))) hPb (stF p most mv) ([]) (RkK w10.heap.size w15.heap.size most) (fun b => b = w10.heap.size) (fun _ => False) hK0 (fun b e => by exact e) (fun s O Kp W h => h.lt) (fun s O Kp W W2 h g => h.gr g) (fun s O Kp W W2 h h2 g => h.only (fun b e => by first | omega | (first | omega | (simp only at e; omega))) h2 g) (fun _ _ => False) (fun _ _ _ h => h) ?_ ?_ ?_
 ·intro ss O Kp xs a c d b w22 ac hQ hK hOs hlen hx hBeg hdg hdO hdK haO had hD hbg hbd hbO hbK hab hN F
  clear G hC
  have hPW := (hPb w22 hQ).1
  have G := Gr.refl w22
  have hsw := hQ.size
  have hC : RCells w22 [(Ad w.heap.size 0, .slice ta p.nt tc), (Ad w.heap.size 1, .slice ha p.nh hc), (Ad w.heap.size 2, .slice ba p.nb bc), (Ad w.heap.size 3, .slice la p.nl lc), (Ad w6.heap.size 0, .func (.func gf) #[] caps), (Ad w11.heap.size 0, Vp w10.heap.size), (Ad bn16 0, .slice ta p.nt tc), (Ad bn16 1, .slice ha p.nh hc), (Ad bn16 2, .slice ba p.nb bc), (Ad bn16 3, .slice la p.nl lc), (Ad b 0, .slice a xs.length c), (Ad b 1, .bool (hopeB p (tim p) xs)), (Ad b 2, Vi (bndV p xs)), (Ad b 3, Vp d)] := (RCells.cons (hQ.cell (hCl.at 0 rfl) (by simp only; omega)) (RCells.cons (hQ.cell (hCl.at 1 rfl) (by simp only; omega)) (RCells.cons (hQ.cell (hCl.at 2 rfl) (by simp only; omega)) (RCells.cons (hQ.cell (hCl.at 3 rfl) (by simp only; omega)) (RCells.cons (hQ.cell (hCl.at 4 rfl) (by simp only; omega)) (RCells.cons (hQ.cell (hCl.at 5 rfl) (by simp only; omega)) (RCells.cons (hQ.cell (hCl.at 6 rfl) (by simp only; omega)) (RCells.cons (hQ.cell (hCl.at 7 rfl) (by simp only; omega)) (RCells.cons (hQ.cell (hCl.at 8 rfl) (by simp only; omega)) (RCells.cons (hQ.cell (hCl.at 9 rfl) (by simp only; omega)) hN))))))))))
  replace hpt := hPW.t
  replace hph := hPW.h
  replace hpb := hPW.b
  replace hpl := hPW.l
  replace F : Fr ac 57 [(3, Vp w.heap.size), (5, Vp w6.heap.size), (7, Vp w11.heap.size), (8, Vp b), (16, .func (.func 102) #[] #[Vp bn16]), (17, .agg #[.slice a xs.length c, .bool (hopeB p (tim p) xs), Vi (bndV p xs), Vp d])] := F.sub _
  obtain ⟨kv, lv, Lk, rfl, hRk, rfl, rfl, hLm, hlim⟩ := hK
  obtain ⟨ka, kc, rfl⟩ := hRk.k.form
  obtain ⟨la9, lc9, rfl⟩ := hRk.l.form
  have hR9 := hRk
  have Gf : Gr w w22 := Y.Only.up Gf0 hQ (by omega)
  refine Y.block ?_
  refine Y.seq ?_
  refine Y.lit (by kernel_rfl) ?_
  refine Y.pv F (X.load rfl (F.ev 5 (Vp w6.heap.size)) (X.ld1 (Try.agg88 _) (hC.at 4 rfl))) ?_;clear F ac;intro ac F
  refine Y.pv F (X.field rfl (F.ev 8 (Vp b)) (X.fld Try.underlying102 rfl (Try.siz34 _) rfl rfl)) ?_;clear F ac;intro ac F
  refine Y.pv F (X.load rfl (F.ev 20 (Vp b)) (X.ld1 (Try.agg34 _) (hC.at 10 rfl))) ?_;clear F ac;intro ac F
  refine Y.pcall F (X.w0 rfl) rfl (X.enter (F := gf) rfl (F.ev 19 (.func (.func gf) #[] caps)) (X.a1 (F.ev 21 (.slice a xs.length c))) (fun W => eg _ W)) (hmv w22 xs a c (Gf.trans G) (hBeg.gr G).i hlen hx) ?_
  clear F ac
  rintro e w23 ⟨rfl, g⟩
  refine ⟨_, rfl, ?_⟩
  intro ac F
  replace G := G.trans g
  replace hC := hC.gr g
  replace hpt := hpt.gr g
  replace hph := hph.gr g
  replace hpb := hpb.gr g
  replace hpl := hpl.gr g
  replace hD := hD.gr g
  replace hRk := hRk.gr g
  clear g
  refine Y.pv F (X.move rfl (F.ev 22 (.tuple #[Vi ((mv xs).1), .bool ((mv xs).2)]))) ?_;clear F ac;intro ac F
  refine Y.pv F (X.extract rfl (F.ev 18 (.tuple #[Vi ((mv xs).1), .bool ((mv xs).2)])) rfl) ?_;clear F ac;intro ac F
  refine Y.pv F (X.extract rfl (F.ev 18 (.tuple #[Vi ((mv xs).1), .bool ((mv xs).2)])) rfl) ?_;clear F ac;intro ac F
  refine Y.pv F (X.assign rfl (F.ev 23 (Vi ((mv xs).1)))) ?_;clear F ac;intro ac F
  refine Y.pv F (X.assign rfl (F.ev 24 (.bool ((mv xs).2)))) ?_;clear F ac;intro ac F
  refine Y.nil ?_
  replace F : Fr ac 57 [(3, Vp w.heap.size), (5, Vp w6.heap.size), (7, Vp w11.heap.size), (8, Vp b), (9, Vi ((mv xs).1)), (10, .bool ((mv xs).2))] := F.sub _
  refine X.thenN ?_
  refine Y.seq ?_
  refine Y.lit (by kernel_rfl) ?_
  refine Y.pv F (X.move rfl (F.ev 9 (Vi ((mv xs).1)))) ?_;clear F ac;intro ac F
  refine Y.pv F (X.field rfl (F.ev 8 (Vp b)) (X.fld Try.underlying102 rfl (Try.siz3 _) rfl rfl)) ?_;clear F ac;intro ac F
  refine Y.pv F (X.load rfl (F.ev 26 (.pointer (some ⟨b, 2, none⟩))) (X.ld1 (Try.agg3 _) (hC.at 12 rfl))) ?_;clear F ac;intro ac F
  refine Y.pv F (Y.bd rfl (X.b2 (F.ev 25 (Vi ((mv xs).1))) (F.ev 27 (Vi (bndV p xs)))) (Try.bd92 _ _ _)) ?_;clear F ac;intro ac F
  refine Y.pv F (Y.al rfl (Try.new92 _)) ?_;clear F ac;intro ac F
  refine Y.punit F (X.w0 rfl) rfl (X.store rfl (F.ev 11 (Vp w23.heap.size)) (F.ev 28 (.agg #[Vi ((mv xs).1), Vi (bndV p xs)])) (Y.stNew [Vi ((mv xs).1), Vi (bndV p xs)] [Vi 0, Vi 0] (Try.siz92 _) rfl rfl)) ?_;clear F ac;intro ac F
  have hgs24 : w22.heap.size ≤ w23.heap.size := G.size
  have g := Gr.alloc w23 (.cells #[Vi ((mv xs).1), Vi (bndV p xs)] 92)
  have hb := heap_alloc_new w23 (.cells #[Vi ((mv xs).1), Vi (bndV p xs)] 92)
  have hbl : w23.heap.size < (w23.alloc (.cells #[Vi ((mv xs).1), Vi (bndV p xs)] 92)).heap.size := by simp
  have hC2 : RCells (w23.alloc (.cells #[Vi ((mv xs).1), Vi (bndV p xs)] 92)) [(Ad w.heap.size 0, .slice ta p.nt tc), (Ad w.heap.size 1, .slice ha p.nh hc), (Ad w.heap.size 2, .slice ba p.nb bc), (Ad w.heap.size 3, .slice la p.nl lc), (Ad w6.heap.size 0, .func (.func gf) #[] caps), (Ad w11.heap.size 0, Vp w10.heap.size), (Ad bn16 0, .slice ta p.nt tc), (Ad bn16 1, .slice ha p.nh hc), (Ad bn16 2, .slice ba p.nb bc), (Ad bn16 3, .slice la p.nl lc), (Ad b 0, .slice a xs.length c), (Ad b 1, .bool (hopeB p (tim p) xs)), (Ad b 2, Vi (bndV p xs)), (Ad b 3, Vp d), (Ad w23.heap.size 0, Vi ((mv xs).1)), (Ad w23.heap.size 1, Vi (bndV p xs))] := hC.box (b := w23.heap.size) #[Vi ((mv xs).1), Vi (bndV p xs)] 92 rfl
  generalize w23.alloc (.cells #[Vi ((mv xs).1), Vi (bndV p xs)] 92) = w25 at *
  replace G := G.trans g
  replace hC := hC2
  clear hC2
  replace hpt := hpt.gr g
  replace hph := hph.gr g
  replace hpb := hpb.gr g
  replace hpl := hpl.gr g
  replace hD := hD.gr g
  replace hRk := hRk.gr g
  clear g hb hbl
  refine Y.nil ?_
  replace F : Fr ac 57 [(3, Vp w.heap.size), (5, Vp w6.heap.size), (7, Vp w11.heap.size), (8, Vp b), (10, .bool ((mv xs).2)), (11, Vp w23.heap.size)] := F.sub _
  refine X.thenN ?_
  refine Y.block ?_
  refine Y.seq ?_
  refine Y.lit (by kernel_rfl) ?_
  refine Y.pv F (X.field rfl (F.ev 8 (Vp b)) (X.fld Try.underlying102 rfl (Try.siz4 _) rfl rfl)) ?_;clear F ac;intro ac F
  refine Y.pv F (X.load rfl (F.ev 30 (.pointer (some ⟨b, 1, none⟩))) (X.ld1 (Try.agg4 _) (hC.at 11 rfl))) ?_;clear F ac;intro ac F
  refine Y.pv F (X.assign rfl (F.ev 31 (.bool (hopeB p (tim p) xs)))) ?_;clear F ac;intro ac F
  refine Y.nil ?_
  replace F : Fr ac 57 [(3, Vp w.heap.size), (5, Vp w6.heap.size), (7, Vp w11.heap.size), (8, Vp b), (10, .bool ((mv xs).2)), (11, Vp w23.heap.size), (29, .bool (hopeB p (tim p) xs))] := F.sub _
  refine X.thenN ?_
  cases h26 : hopeB p (tim p) xs with
  | false =>
   try rw [h26] at F
   refine Y.condF (F.ev 29 (.bool false)) ?_
   refine Y.seq ?_
   refine Y.lit (by kernel_rfl) ?_
   refine Y.pv F (X.move rfl (F.ev 10 (.bool ((mv xs).2)))) ?_;clear F ac;intro ac F
   refine Y.pv F (X.notB rfl (F.ev 33 (.bool ((mv xs).2))) rfl) ?_;clear F ac;intro ac F
   refine Y.pv F (X.move rfl (F.ev 34 (.bool (!((mv xs).2))))) ?_;clear F ac;intro ac F
   cases h27 : (mv xs).2 with
   | false =>
    try rw [h27] at F
    refine Y.pskip F (X.w2 rfl (F.yl (j := 2) (d := 35) (b := true) rfl (by kernel_rfl)) rfl) rfl ?_;clear F ac;intro ac F
    refine Y.pskip F (X.w2 rfl (F.yl (j := 2) (d := 35) (b := true) rfl (by kernel_rfl)) rfl) rfl ?_;clear F ac;intro ac F
    refine Y.pskip F (X.w2 rfl (F.yl (j := 2) (d := 35) (b := true) rfl (by kernel_rfl)) rfl) rfl ?_;clear F ac;intro ac F
    refine Y.pv F (X.pickT rfl (F.ev 35 (.bool true)) (X.kc (.bool true) rfl)) ?_;clear F ac;intro ac F
    refine Y.pv F (X.assign rfl (F.ev 39 (.bool true))) ?_;clear F ac;intro ac F
    refine Y.nil ?_
    replace F : Fr ac 57 [(3, Vp w.heap.size), (5, Vp w6.heap.size), (7, Vp w11.heap.size), (8, Vp b), (11, Vp w23.heap.size), (32, .bool true)] := F.sub _
    refine X.thenN ?_
    refine Y.condT (F.ev 32 (.bool true)) ?_
    refine Y.lit (by kernel_rfl) ?_
    refine Y.pv F (X.field rfl (F.ev 8 (Vp b)) (X.fld Try.underlying102 rfl (Try.siz100 _) rfl rfl)) ?_;clear F ac;intro ac F
    refine Y.pv F (X.load rfl (F.ev 40 (.pointer (some ⟨b, 3, none⟩))) (X.ld1 (Try.agg100 _) (hC.at 13 rfl))) ?_;clear F ac;intro ac F
    refine Y.pv F (Y.nilC rfl (F.ev 41 (Vp d))) ?_;clear F ac;intro ac F
    refine Y.punit F (X.w0 rfl) rfl (X.store rfl (F.ev 42 (Vp d)) (X.kc (.bool false) rfl) (hD.st1 (Try.siz4 _) rfl rfl (by decide))) ?_;clear F ac;intro ac F
    have hon := Y.set_only w25 d 0 (.bool false)
    have hD2 := (hD.set (k := 0) (.bool false)).congr (val' := fun _ => .bool false) (fun k hk => if_pos (by omega))
    generalize w25.setCell ⟨d, 0, none⟩ (.bool false) = w28 at *
    have hRk2 := hRk.only hon (fun b e h => by have h8 : b = d := h; subst h8; exact hdO e) (fun x hx2 ad e h => hdK ⟨x, hx2, ad, e, h⟩)
    have hO2 := ((G.only (fun x => RkO w10.heap.size (.slice ka Lk.length kc) (.slice la9 Lk.length lc9) x ∨ x = d)).trans (hon.mono' (fun i e => .inr e)))
    clear hRk hD G hC
    refine Y.nil ?_
    replace F : Fr ac 57 [(3, Vp w.heap.size), (5, Vp w6.heap.size), (7, Vp w11.heap.size)] := F.sub _
    refine X.blockN ?_
    refine X.blockN ?_
    have est : stF p most mv (strip Lk) xs = _ := stF_c h26 (.inl h27)
    refine ⟨?_, ?_, ?_, ?_⟩
    ·exact hO2
    ·rw [est]; exact ⟨_, _, ⟨_, _, Lk, rfl, hRk2, rfl, rfl, hLm, hlim⟩, fun b e => .inl e⟩
    ·rw [est]; exact hD2
    ·rw [est]
   | true =>
    try rw [h27] at F
    refine Y.pval F (X.w1 rfl (F.yl (j := 2) (d := 35) (b := false) rfl (by kernel_rfl))) rfl (X.load rfl (F.ev 7 (Vp w11.heap.size)) (X.ld1 (Try.agg86 _) (hC.at 5 rfl))) ?_;clear F ac;intro ac F
    refine Y.pval F (X.w1 rfl (F.yl (j := 2) (d := 35) (b := false) rfl (by kernel_rfl))) rfl (X.load rfl (F.ev 11 (Vp w23.heap.size)) (X.ldN (Try.agg92 _) (Try.siz92 _) (Y.atz (⟨w23.heap.size, 0, none⟩) (Y.AtFrom.cons (hC.at 14 rfl) (Y.AtFrom.cons (hC.at 15 rfl) (Y.AtFrom.nil _ _ _)))))) ?_;clear F ac;intro ac F
    refine Y.pcall F (X.w1 rfl (F.yl (j := 2) (d := 35) (b := false) rfl (by kernel_rfl))) rfl (X.enter (F := 99) rfl (X.kc (.func (.func 99) #[] #[]) rfl) (X.a2 (F.ev 36 (Vp w10.heap.size)) (F.ev 37 (.agg #[Vi ((mv xs).1), Vi (bndV p xs)]))) (enters_of Try.func99 (by kernel_rfl) rfl _)) (full_any w10.heap.size w15.heap.size most ka la9 kc lc9 (mv xs).1 (bndV p xs) Lk w25 hRk hm (by omega)) ?_
    clear F ac
    rintro e w29 ⟨rfl, g⟩
    refine ⟨_, rfl, ?_⟩
    intro ac F
    replace G := G.trans g
    replace hC := hC.gr g
    replace hpt := hpt.gr g
    replace hph := hph.gr g
    replace hpb := hpb.gr g
    replace hpl := hpl.gr g
    replace hD := hD.gr g
    replace hRk := hRk.gr g
    clear g
    refine Y.pv F (X.pickF rfl (F.ev 35 (.bool false)) (F.ev 38 (.bool (fullR most Lk ((mv xs).1, bndV p xs))))) ?_;clear F ac;intro ac F
    refine Y.pv F (X.assign rfl (F.ev 39 (.bool (fullR most Lk ((mv xs).1, bndV p xs))))) ?_;clear F ac;intro ac F
    refine Y.nil ?_
    replace F : Fr ac 57 [(3, Vp w.heap.size), (5, Vp w6.heap.size), (7, Vp w11.heap.size), (8, Vp b), (11, Vp w23.heap.size), (32, .bool (fullR most Lk ((mv xs).1, bndV p xs)))] := F.sub _
    refine X.thenN ?_
    cases h30 : fullR most Lk ((mv xs).1, bndV p xs) with
    | false =>
     try rw [h30] at F
     refine Y.condF (F.ev 32 (.bool false)) ?_
     refine Y.seq ?_
     refine Y.lit (by kernel_rfl) ?_
     refine Y.pv F (X.field rfl (F.ev 8 (Vp b)) (X.fld Try.underlying102 rfl (Try.siz34 _) rfl rfl)) ?_;clear F ac;intro ac F
     refine Y.pv F (X.load rfl (F.ev 44 (Vp b)) (X.ld1 (Try.agg34 _) (hC.at 10 rfl))) ?_;clear F ac;intro ac F
     refine Y.pv F (X.len1 Try.underlying34 rfl (F.ev 45 (.slice a xs.length c))) ?_;clear F ac;intro ac F
     refine Y.pv F (X.field rfl (F.ev 3 (Vp w.heap.size)) (X.fld Try.underlying27 rfl (Try.siz22 _) rfl rfl)) ?_;clear F ac;intro ac F
     refine Y.pv F (X.load rfl (F.ev 47 (Vp w.heap.size)) (X.ld1 (Try.agg22 _) (hC.at 0 rfl))) ?_;clear F ac;intro ac F
     refine Y.pv F (X.len1 Try.underlying22 rfl (F.ev 48 (.slice ta p.nt tc))) ?_;clear F ac;intro ac F
     refine Y.pv F (X.binop rfl (F.ev 46 (Vi xs.length)) (F.ev 49 (Vi p.nt)) (X.eqlI Try.underlying3 rfl)) ?_;clear F ac;intro ac F
     refine Y.pv F (X.assign rfl (F.ev 50 (.bool ((xs.length : Int) == p.nt)))) ?_;clear F ac;intro ac F
     refine Y.nil ?_
     replace F : Fr ac 57 [(3, Vp w.heap.size), (5, Vp w6.heap.size), (7, Vp w11.heap.size), (8, Vp b), (11, Vp w23.heap.size), (43, .bool ((xs.length : Int) == p.nt))] := F.sub _
     refine X.thenN ?_
     cases h31 : ((xs.length : Int) == p.nt) with
     | false =>
      try rw [h31] at F
      have h31p : ¬ (xs.length : Int) = p.nt := by simpa using h31
      refine Y.condF (F.ev 43 (.bool false)) ?_
      refine Y.skip ?_
      refine X.blockN ?_
      refine X.blockN ?_
      have est : stF p most mv (strip Lk) xs = _ := stF_n h26 h27 ((strip_full _ _ _).trans h30) (by omega)
      refine ⟨?_, ?_, ?_, ?_⟩
      ·exact G.only _
      ·rw [est]; exact ⟨_, _, ⟨_, _, Lk, rfl, hRk, rfl, rfl, hLm, hlim⟩, fun b e => .inl e⟩
      ·rw [est]; exact hD
      ·rw [est]
     | true =>
      try rw [h31] at F
      have h31p : (xs.length : Int) = p.nt := by simpa using h31
      refine Y.condT (F.ev 43 (.bool true)) ?_
      refine Y.lit (by kernel_rfl) ?_
      refine Y.pv F (X.load rfl (F.ev 7 (Vp w11.heap.size)) (X.ld1 (Try.agg86 _) (hC.at 5 rfl))) ?_;clear F ac;intro ac F
      refine Y.pv F (X.load rfl (F.ev 11 (Vp w23.heap.size)) (X.ldN (Try.agg92 _) (Try.siz92 _) (Y.atz (⟨w23.heap.size, 0, none⟩) (Y.AtFrom.cons (hC.at 14 rfl) (Y.AtFrom.cons (hC.at 15 rfl) (Y.AtFrom.nil _ _ _)))))) ?_;clear F ac;intro ac F
      refine Y.pv F (X.field rfl (F.ev 8 (Vp b)) (X.fld Try.underlying102 rfl (Try.siz34 _) rfl rfl)) ?_;clear F ac;intro ac F
      refine Y.pv F (X.load rfl (F.ev 53 (Vp b)) (X.ld1 (Try.agg34 _) (hC.at 10 rfl))) ?_;clear F ac;intro ac F
      refine Y.pcall F (X.w0 rfl) rfl (X.enter (F := 100) rfl (X.kc (.func (.func 100) #[] #[]) rfl) (X.a3 (F.ev 51 (Vp w10.heap.size)) (F.ev 52 (.agg #[Vi ((mv xs).1), Vi (bndV p xs)])) (F.ev 54 (.slice a xs.length c))) (enters_of Try.func100 (by kernel_rfl) rfl _)) (put_s w10.heap.size w15.heap.size most ka la9 kc lc9 (mv xs).1 (bndV p xs) Lk xs a c w29 hRk hm (by omega) hLm ((hBeg.lower (by omega)).gr G) haO) ?_
      clear F ac
      rintro e w32 ⟨rfl, kv2, lv2, hRk2, hOn, hOo⟩
      refine ⟨_, rfl, ?_⟩
      intro ac F
      have hO2 : Only (fun x => RkO w10.heap.size (.slice ka Lk.length kc) (.slice la9 Lk.length lc9) x ∨ x = d) w22 w32 := (G.only _).trans (hOn.mono' (fun i e => .inl e))
      have hD2 := hD.only hOn hdO
      have hSz := G.size
      clear hRk G
      refine Y.nil ?_
      replace F : Fr ac 57 [(3, Vp w.heap.size), (5, Vp w6.heap.size), (7, Vp w11.heap.size)] := F.sub _
      refine X.blockN ?_
      refine X.blockN ?_
      have est : stF p most mv (strip Lk) xs = _ := stF_p h26 h27 ((strip_full _ _ _).trans h30) (by omega)
      refine ⟨?_, ?_, ?_, ?_⟩
      ·exact hO2
      ·rw [est]
       refine ⟨_, _, ⟨kv2, lv2, _, strip_put _ _ _, hRk2, rfl, rfl, put_len hLm, fun b hb => ?_⟩, fun b e => (hOo b e).imp (fun z => z) (fun e => Nat.le_trans hSz e)⟩
       obtain ⟨x, hx2, ad, e, rfl⟩ := hb
       rcases put_mem hx2 with rfl | hx2
       ·exact (hBeg.ge ad e).1
       ·exact hlim _ ⟨x, hx2, ad, e, rfl⟩
      ·rw [est]; exact hD2
      ·rw [est]
    | true =>
     try rw [h30] at F
     refine Y.condT (F.ev 32 (.bool true)) ?_
     refine Y.lit (by kernel_rfl) ?_
     refine Y.pv F (X.field rfl (F.ev 8 (Vp b)) (X.fld Try.underlying102 rfl (Try.siz100 _) rfl rfl)) ?_;clear F ac;intro ac F
     refine Y.pv F (X.load rfl (F.ev 40 (.pointer (some ⟨b, 3, none⟩))) (X.ld1 (Try.agg100 _) (hC.at 13 rfl))) ?_;clear F ac;intro ac F
     refine Y.pv F (Y.nilC rfl (F.ev 41 (Vp d))) ?_;clear F ac;intro ac F
     refine Y.punit F (X.w0 rfl) rfl (X.store rfl (F.ev 42 (Vp d)) (X.kc (.bool false) rfl) (hD.st1 (Try.siz4 _) rfl rfl (by decide))) ?_;clear F ac;intro ac F
     have hon := Y.set_only w29 d 0 (.bool false)
     have hD2 := (hD.set (k := 0) (.bool false)).congr (val' := fun _ => .bool false) (fun k hk => if_pos (by omega))
     generalize w29.setCell ⟨d, 0, none⟩ (.bool false) = w33 at *
     have hRk2 := hRk.only hon (fun b e h => by have h8 : b = d := h; subst h8; exact hdO e) (fun x hx2 ad e h => hdK ⟨x, hx2, ad, e, h⟩)
     have hO2 := ((G.only (fun x => RkO w10.heap.size (.slice ka Lk.length kc) (.slice la9 Lk.length lc9) x ∨ x = d)).trans (hon.mono' (fun i e => .inr e)))
     clear hRk hD G hC
     refine Y.nil ?_
     replace F : Fr ac 57 [(3, Vp w.heap.size), (5, Vp w6.heap.size), (7, Vp w11.heap.size)] := F.sub _
     refine X.blockN ?_
     refine X.blockN ?_
     have est : stF p most mv (strip Lk) xs = _ := stF_c h26 (.inr ((strip_full _ _ _).trans h30))
     refine ⟨?_, ?_, ?_, ?_⟩
     ·exact hO2
     ·rw [est]; exact ⟨_, _, ⟨_, _, Lk, rfl, hRk2, rfl, rfl, hLm, hlim⟩, fun b e => .inl e⟩
     ·rw [est]; exact hD2
     ·rw [est]
  | true =>
   try rw [h26] at F
   refine Y.condT (F.ev 29 (.bool true)) ?_
   refine Y.skip ?_
   refine X.blockN ?_
   refine X.blockN ?_
   have est : stF p most mv (strip Lk) xs = _ := stF_h h26
   refine ⟨?_, ?_, ?_, ?_⟩
   ·exact G.only _
   ·rw [est]; exact ⟨_, _, ⟨_, _, Lk, rfl, hRk, rfl, rfl, hLm, hlim⟩, fun b e => .inl e⟩
   ·rw [est]; exact hD
   ·rw [est]
 ·intro ss O Kp w34 ac hV hQ hK hOs hmk F
  clear G hC
  have hmk := hmk
  have hsw := hQ.size
  have G : Gr w w34 := (Y.Only.up Gl hQ (by omega))
  have hC := (RCells.cons (hQ.cell (hCl.at 0 rfl) (by simp only; omega)) (RCells.cons (hQ.cell (hCl.at 1 rfl) (by simp only; omega)) (RCells.cons (hQ.cell (hCl.at 2 rfl) (by simp only; omega)) (RCells.cons (hQ.cell (hCl.at 3 rfl) (by simp only; omega)) (RCells.cons (hQ.cell (hCl.at 4 rfl) (by simp only; omega)) (RCells.cons (hQ.cell (hCl.at 5 rfl) (by simp only; omega)) (RCells.cons (hQ.cell (hCl.at 6 rfl) (by simp only; omega)) (RCells.cons (hQ.cell (hCl.at 7 rfl) (by simp only; omega)) (RCells.cons (hQ.cell (hCl.at 8 rfl) (by simp only; omega)) (RCells.cons (hQ.cell (hCl.at 9 rfl) (by simp only; omega)) (RCells.nil _)))))))))))
  replace hpt := (hP.t).gr G
  replace hph := (hP.h).gr G
  replace hpb := (hP.b).gr G
  replace hpl := (hP.l).gr G
  obtain ⟨kv, lv, Lk, hst, hRk, hOe, hKe, hLm, hlim⟩ := hK
  refine X.blockN ?_
  refine X.thenN ?_
  refine Y.seq ?_
  refine Y.lit (by kernel_rfl) ?_
  refine Y.pv F (X.load rfl (F.ev 7 (Vp w11.heap.size)) (X.ld1 (Try.agg86 _) (hC.at 5 rfl))) ?_;clear F ac;intro ac F
  refine Y.pv F (X.assign rfl (F.ev 56 (Vp w10.heap.size))) ?_;clear F ac;intro ac F
  refine Y.nil ?_
  replace F : Fr ac 57 [(6, Vp w10.heap.size)] [{ target := .collected w15.heap.size, args := #[] }] := F.sub _
  refine X.thenN ?_
  refine Y.ret ?_
  refine ret_mark (v := Vp w10.heap.size) F hmk (Y.rs1 F rfl (by kernel_rfl)) (fun W2 hW2 => ?_)
  refine ⟨w10.heap.size, kv, lv, Lk, w15.heap.size, rfl, ?_, by rw [hst]; exact hV, by omega, by omega, hLm, ?_⟩
  ·refine hRk.only hW2 (fun b e h => ?_) (fun x hx2 ad e h => ?_)
   ·rcases hOs b (hOe ▸ e) with h9 | h9 <;> first | omega | (simp only at h9 h; omega)
   ·have h9 := hlim ad.block (hKe ▸ ⟨x, hx2, ad, e, rfl⟩)
    try simp only at h
    omega
  ·exact Y.Only.up G hW2 (by omega)
 ·exact fun _ _ _ _ h => h.elim
end
section
set_option linter.unusedVariables false
open Go.RowKit
def allP (p : Pb) : List (List Int) := allF p.nh (hopeB p (tim p)) p.nt []
def srtK (key : List Int → Int × Int) (l : List (List Int)) : List ((Int × Int) × List Int) := l.foldl (fun s x => insR s (key x, x)) []
def keyC (p : Pb) (xs : List Int) : Int × Int := (0, bndV p xs)
theorem first_law {p : Pb} (hp : PbOk p) {most : Nat} (h0 : 0 < most) (mv : List Int → Int × Bool)
    (hok : ∀ (xs : List Int) (h : Nat), xs.length < p.nt → HosOk p xs → h < p.nh → (mv (xs ++ [(h : Int)])).2 = true → (mv xs).2 = true)
    (hmo : ∀ (xs : List Int) (h : Nat), xs.length < p.nt → HosOk p xs → h < p.nh → (mv xs).1 ≤ (mv (xs ++ [(h : Int)])).1) :
    visF p.nh (hopeB p (tim p)) (stF p most mv) p.nt [] [] = ((srtK (fun xs => ((mv xs).1, bndV p xs)) ((allP p).filter fun xs => (mv xs).2)).take most, true) := by
  have h := vis_first (nh := p.nh) (most := most) (hope := hopeB p (tim p)) (fun m xs => xs.length + m = p.nt ∧ HosOk p xs) (fun xs => (mv xs).2) (fun xs => ((mv xs).1, bndV p xs)) (stF p most mv)
    (fun m xs h hv hh _ => ⟨by have := hv.1; simp; omega, hv.2.app hh⟩) (fun m xs h hv hh hk => hok xs h (by have := hv.1; omega) hv.2 hh hk)
    (fun m xs h hv hh _ => by
      have h1 := hmo xs h (by have := hv.1; omega) hv.2 hh
      have h2 := bnd_mono hp (xs := xs) (h := (h : Int))
      rw [ltK_false]; simp only; omega)
    (fun m s xs hv hh => stF_h hh) (fun m s xs hv hh hk => stF_c hh hk) (fun s xs hv hh hk hf => stF_p hh hk hf (by have := hv.1; omega))
    (fun m s xs hv hh hk hf => stF_n hh hk hf (by have := hv.1; omega)) (m := p.nt) (xs := []) ⟨by simp, HosOk.nil⟩ []
  rw [h]
  have h2 := (fold_put h0 (fun xs : List Int => (((mv xs).1, bndV p xs), xs)) ((allP p).filter fun xs => (mv xs).2) [] nil_sorted).1
  rw [List.take_nil] at h2
  unfold allP at h2 ⊢
  unfold srtK
  rw [h2]
def stillF : List Int → Int × Bool := fun _ => (0, true)
theorem still_law {p : Pb} (hp : PbOk p) {most : Nat} (h0 : 0 < most) : visF p.nh (hopeB p (tim p)) (stF p most stillF) p.nt [] [] = ((srtK (keyC p) (allP p)).take most, true) := by
  have h := first_law hp h0 stillF (fun _ _ _ _ _ _ => rfl) (fun _ _ _ _ _ => Int.le_refl _)
  rw [h]
  congr 2
  rw [show (allP p).filter (fun xs => (stillF xs).2) = allP p from List.filter_eq_self.2 (fun _ _ => rfl)]
  rfl
def bestR (p : Pb) : List Int × Int × Int :=
  if chkE p ≠ 0 then ([], 0, chkE p) else match srtK (keyC p) (allP p) with
    | [] => ([], 0, 3)
    | y :: _ => (y.2, y.1.2, 0)
theorem best_1 {p : Pb} (h : ¬ chkE p = 0) : bestR p = ([], 0, chkE p) := if_pos h
theorem best_2 {p : Pb} (h : chkE p = 0) {L : RkL} (hL : strip L = (srtK (keyC p) (allP p)).take 1) (hn : L.length = 0) : bestR p = ([], 0, 3) := by
  have hn2 : L = [] := List.eq_nil_of_length_eq_zero hn
  subst hn2
  unfold bestR
  rw [if_neg (by rw [h]; decide)]
  cases hs : srtK (keyC p) (allP p) with
  | nil => rfl
  | cons y t => rw [hs] at hL; simp [strip] at hL
theorem best_3 {p : Pb} (h : chkE p = 0) {L : RkL} {y : (Int × Int) × BegE} (hL : strip L = (srtK (keyC p) (allP p)).take 1) (hy : L[0]? = some y) : bestR p = (y.2.xs, y.1.2, 0) := by
  unfold bestR
  rw [if_neg (by rw [h]; decide)]
  cases hs : srtK (keyC p) (allP p) with
  | nil => rw [hs] at hL; cases L with
    | nil => simp at hy
    | cons a t => simp [strip] at hL
  | cons z t =>
    rw [hs] at hL
    cases L with
    | nil => simp at hy
    | cons a u =>
      simp at hy
      subst hy
      simp [strip] at hL
      show (z.2, z.1.2, 0) = _
      rw [← hL.1]
theorem begs_cell {W : World} {B g n c i : Nat} {L : RkL} {y : (Int × Int) × BegE} (h : OwnR W B 34 1 (.slice (some ⟨g, 0, none⟩) n c) n (begsV L)) (hn : L.length = n) (hy : L[i]? = some y) : W.cell? ⟨g, i, none⟩ = some (.slice y.2.a y.2.xs.length y.2.c) := by
  have hi : i < L.length := (List.getElem?_eq_some_iff.1 hy).1
  have hO := h.ownP (val := fun j => (begsV L)[j]?.getD undef) (fun j u hu => by rw [hu]; rfl)
  have c1 := hO.cell (k := i) (by omega)
  rw [c1]
  simp [begsV, hy]
theorem keys_cell {W : World} {B g n c i : Nat} {L : RkL} {y : (Int × Int) × BegE} (h : OwnR W B 92 2 (.slice (some ⟨g, 0, none⟩) n c) n (keysV L)) (hn : L.length = n) (hy : L[i]? = some y) : W.cell? ⟨g, i * 2, none⟩ = some (.int .i64 y.1.1) ∧ W.cell? ⟨g, i * 2 + 1, none⟩ = some (.int .i64 y.1.2) := by
  have hi : i < L.length := (List.getElem?_eq_some_iff.1 hy).1
  have hO := h.ownP (val := fun j => (keysV L)[j]?.getD undef) (fun j u hu => by rw [hu]; rfl)
  obtain ⟨k1, k2⟩ := keys_get L i y hy
  have c1 := hO.cell (k := i * 2) (by omega)
  have c2 := hO.cell (k := i * 2 + 1) (by omega)
  simp only [k1, k2, Option.getD_some] at c1 c2
  exact ⟨c1, c2⟩
end
end Go.Proofs.Ytodedneanlekdaa
