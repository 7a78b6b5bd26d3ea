/- Several texts of this claim in one file. (1) Contract: Best. (2) Contract: the look at the example. (3) Contract: Save$1. (4) Contracts: Allowed, Cost, Hopeless, Bound. (5) Contracts: the reference's Allowed, Cost, Hopeless, Bound. (6) Contracts: far, Large, SameInts. -/
import Derived.Test.YtodedneanlekdaaBd12
import Derived.Test.YtodedneanlekdaaBd4
import Derived.Test.YtodedneanlekdaaBd11
namespace Go.Proofs.Ytodedneanlekdaa
set_option linter.unusedSimpArgs false
set_option linter.unusedVariables false
section
open Go.RowKit

theorem Ints.nil0 (w : World) : Ints w none 0 [] := ⟨rfl, by decide, fun j hj => by omega⟩
set_option maxRecDepth 100000 in
set_option maxHeartbeats 2000000 in
theorem best_any (p : Pb) (ta ha ba la : Option Addr) (tc hc bc lc : Nat) (w : World) (hP : PbAt w p ta ha ba la tc hc bc lc) :
  Calls Try.prog 22 #[.agg #[.slice ta p.nt tc, .slice ha p.nh hc, .slice ba p.nb bc, .slice la p.nl lc]] w fun e w' => ∃ a c, e = .returned (.tuple #[.slice a (bestR p).1.length c, Vi (bestR p).2.1, Vi (bestR p).2.2]) ∧ Ints w' a (bestR p).1.length (bestR p).1 ∧ ((bestR p).1.length = 0 → a = none ∧ c = 0) ∧ Gr w w' := by
 have G := Gr.refl w
 have hpt := hP.t
 have hph := hP.h
 have hpb := hP.b
 have hpl := hP.l
 have hplen := hP.len
 obtain ⟨hn1, hn2, hn3, hn4⟩ := hplen
 have hcp1 := hpt.cap
 have hcp2 := hph.cap
 have hcp3 := hpb.cap
 have hcp4 := hpl.cap
 refine Y.calls 33 Try.func22 rfl rfl ?_
 intro ac F0
 have F : Fr ac 33 [(0, .agg #[.slice ta p.nt tc, .slice ha p.nh hc, .slice ba p.nb bc, .slice la p.nl lc])] := F0.sub _
 clear F0
 refine Y.sl ?_
 have hgs3 : w.heap.size ≤ w.heap.size := G.size
 refine Y.pv F (X.box rfl (F.ev 0 (.agg #[.slice ta p.nt tc, .slice ha p.nh hc, .slice ba p.nb bc, .slice la p.nl lc])) X.bx) ?_;clear F ac;intro ac F
 have hgs5 : w.heap.size ≤ w.heap.size := G.size
 have g := Gr.alloc w (.cells #[.slice ta p.nt tc, .slice ha p.nh hc, .slice ba p.nb bc, .slice la p.nl lc] 27)
 have hb := heap_alloc_new w (.cells #[.slice ta p.nt tc, .slice ha p.nh hc, .slice ba p.nb bc, .slice la p.nl lc] 27)
 have hbl : w.heap.size < (w.alloc (.cells #[.slice ta p.nt tc, .slice ha p.nh hc, .slice ba p.nb bc, .slice la p.nl lc] 27)).heap.size := by simp
 have hC2 : RCells (w.alloc (.cells #[.slice ta p.nt tc, .slice ha p.nh hc, .slice ba p.nb bc, .slice la p.nl lc] 27)) [(Ad w.heap.size 0, .slice ta p.nt tc), (Ad w.heap.size 1, .slice ha p.nh hc), (Ad w.heap.size 2, .slice ba p.nb bc), (Ad w.heap.size 3, .slice la p.nl lc)] := (RCells.nil w).box (b := w.heap.size) #[.slice ta p.nt tc, .slice ha p.nh hc, .slice ba p.nb bc, .slice la p.nl lc] 27 rfl
 generalize w.alloc (.cells #[.slice ta p.nt tc, .slice ha p.nh hc, .slice ba p.nb bc, .slice la p.nl lc] 27) = w6 at *
 replace G := G.trans g
 have hC := hC2
 clear hC2
 replace hpt := hpt.gr g
 replace hph := hph.gr g
 replace hpb := hpb.gr g
 replace hpl := hpl.gr g
 have hsz4 := hbl
 clear g hb hbl
 refine Y.pv F (X.assign rfl (X.kc (.slice none 0 0) rfl)) ?_;clear F ac;intro ac F
 refine Y.pv F (X.assign rfl (X.kc (Vi 0) rfl)) ?_;clear F ac;intro ac F
 refine Y.pv F (X.assign rfl (X.kc (Vi 0) rfl)) ?_;clear F ac;intro ac F
 refine Y.nt F [(1, Vp w.heap.size)] ?_;clear F ac;intro ac F
 refine Y.seq ?_
 refine Y.sl ?_
 refine Y.pv F (X.load rfl (F.ev 1 (Vp w.heap.size)) (X.ldN (Try.agg27 _) (Try.siz27 _) (Y.atz (⟨w.heap.size, 0, none⟩) (Y.AtFrom.cons (hC.at 0 rfl) (Y.AtFrom.cons (hC.at 1 rfl) (Y.AtFrom.cons (hC.at 2 rfl) (Y.AtFrom.cons (hC.at 3 rfl) (Y.AtFrom.nil _ _ _)))))))) ?_;clear F ac;intro ac F
 refine Y.pc F 18 (X.a1 (F.ev 7 (.agg #[.slice ta p.nt tc, .slice ha p.nh hc, .slice ba p.nb bc, .slice la p.nl lc]))) Try.func18 (check_any p ta ha ba la tc hc bc lc w6 (hP.gr G)) ?_
 clear F ac
 rintro e w7 ⟨rfl, g⟩
 refine ⟨_, rfl, ?_⟩
 intro ac F
 replace G := G.trans g
 replace hC := hC.gr g
 replace hpt := hpt.gr g
 replace hph := hph.gr g
 replace hpb := hpb.gr g
 replace hpl := hpl.gr g
 clear g
 refine Y.pv F (X.assign rfl (F.ev 8 (Vi (chkE p)))) ?_;clear F ac;intro ac F
 refine Y.nt F [(1, Vp w.heap.size), (5, Vi (chkE p))] ?_;clear F ac;intro ac F
 refine Y.sg F [(1, Vp w.heap.size), (5, Vi (chkE p)), (10, .bool ((chkE p : Int) != 0))] (Y.pv F (X.move rfl (F.ev 5 (Vi (chkE p)))) fun ac F=>Y.pv F (X.binop rfl (F.ev 9 (Vi (chkE p))) (X.kc (Vi 0) rfl) (X.neqI Try.underlying31 rfl)) fun ac F=>Y.fin F) ?_;clear F ac;intro ac F
 cases h8 : ((chkE p : Int) != 0) with
 | false =>
  try rw [h8] at F
  have h8p : (chkE p : Int) = 0 := by simpa using h8
  have hck : chkE p = 0 := by omega
  have hp := chk_ok hck
  refine Y.condF (F.ev 10 (.bool false)) ?_
  refine Y.skip ?_
  refine X.thenN ?_
  refine Y.sl ?_
  refine Y.pv F (X.load rfl (F.ev 1 (Vp w.heap.size)) (X.ldN (Try.agg27 _) (Try.siz27 _) (Y.atz (⟨w.heap.size, 0, none⟩) (Y.AtFrom.cons (hC.at 0 rfl) (Y.AtFrom.cons (hC.at 1 rfl) (Y.AtFrom.cons (hC.at 2 rfl) (Y.AtFrom.cons (hC.at 3 rfl) (Y.AtFrom.nil _ _ _)))))))) ?_;clear F ac;intro ac F
  refine Y.pc F 64 (X.a3 (F.ev 12 (.agg #[.slice ta p.nt tc, .slice ha p.nh hc, .slice ba p.nb bc, .slice la p.nl lc])) (X.kc (Vi 1) rfl) (X.kc (.func (.func 65) #[] #[]) rfl)) Try.func64 (first_any p ta ha ba la tc hc bc lc 1 65 #[] stillF w7 (hP.gr G) hp (by decide) (enters_of Try.func65 (by kernel_rfl) rfl) (fun W xs a c g hi hl hx => still_any a xs.length c W)) ?_
  clear F ac
  have hfG := G
  rintro e w9 ⟨rb, kv, lv, L, B, rfl, hRk, hV, hrb, hBw, hLm, g⟩
  refine ⟨_, rfl, ?_⟩
  intro ac F
  replace G := G.trans g
  replace hC := hC.gr g
  replace hpt := hpt.gr g
  replace hph := hph.gr g
  replace hpb := hpb.gr g
  replace hpl := hpl.gr g
  clear g
  rw [still_law hp (by decide)] at hV
  injection hV with hV
  replace hV := hV.symm
  obtain ⟨ka, kc, rfl⟩ := hRk.k.form
  obtain ⟨la9, lc9, rfl⟩ := hRk.l.form
  refine Y.pv F (X.assign rfl (F.ev 13 (Vp rb))) ?_;clear F ac;intro ac F
  refine Y.nt F [(6, Vp rb)] ?_;clear F ac;intro ac F
  refine Y.seq ?_
  refine Y.sl ?_
  refine Y.pv F (X.move rfl (F.ev 6 (Vp rb))) ?_;clear F ac;intro ac F
  refine Y.pv F (Y.nilC rfl (F.ev 14 (Vp rb))) ?_;clear F ac;intro ac F
  refine Y.pv F (X.field rfl (F.ev 15 (Vp rb)) (X.fld Try.underlying91 rfl (Try.siz38 _) rfl rfl)) ?_;clear F ac;intro ac F
  replace hC : RCells w9 [(Ad w.heap.size 0, .slice ta p.nt tc), (Ad w.heap.size 1, .slice ha p.nh hc), (Ad w.heap.size 2, .slice ba p.nb bc), (Ad w.heap.size 3, .slice la p.nl lc), (Ad rb 0, Vi (1 : Nat)), (Ad rb 1, .slice ka L.length kc), (Ad rb 2, .slice la9 L.length lc9)] := hC.append ((RCells.cons (hRk.own.cell (k := 0) (by decide)) (RCells.cons (hRk.own.cell (k := 1) (by decide)) (RCells.cons (hRk.own.cell (k := 2) (by decide)) (RCells.nil _)))))
  refine Y.pv F (X.load rfl (F.ev 16 (.pointer (some ⟨rb, 2, none⟩))) (X.ld1 (Try.agg38 _) (hC.at 6 rfl))) ?_;clear F ac;intro ac F
  refine Y.pv F (X.len1 Try.underlying38 rfl (F.ev 17 (.slice la9 L.length lc9))) ?_;clear F ac;intro ac F
  refine Y.pv F (X.binop rfl (F.ev 18 (Vi L.length)) (X.kc (Vi 0) rfl) (X.eqlI Try.underlying3 rfl)) ?_;clear F ac;intro ac F
  refine Y.nt F [(6, Vp rb), (19, .bool ((L.length : Int) == 0))] ?_;clear F ac;intro ac F
  cases h10 : ((L.length : Int) == 0) with
  | false =>
   try rw [h10] at F
   have h10p : ¬ (L.length : Int) = 0 := by simpa using h10
   obtain ⟨y, hy⟩ : ∃ y, L[0]? = some y := ⟨_, List.getElem?_eq_getElem (by omega)⟩
   obtain ⟨g9, Lr, rfl, -⟩ := hRk.k.row (by omega)
   obtain ⟨g8, Lr8, rfl, -⟩ := hRk.l.row (by omega)
   have hkc := keys_cell hRk.k rfl hy
   have hlc := begs_cell hRk.l rfl hy
   have hyb := hRk.b y (List.mem_of_getElem? hy)
   replace hC : RCells w9 [(Ad w.heap.size 0, .slice ta p.nt tc), (Ad w.heap.size 1, .slice ha p.nh hc), (Ad w.heap.size 2, .slice ba p.nb bc), (Ad w.heap.size 3, .slice la p.nl lc), (Ad rb 0, Vi (1 : Nat)), (Ad rb 1, .slice (some ⟨g9, 0, none⟩) L.length kc), (Ad rb 2, .slice (some ⟨g8, 0, none⟩) L.length lc9), (⟨g9, 0 * 2, none⟩, Vi y.1.1), (⟨g9, 0 * 2 + 1, none⟩, Vi y.1.2), (Ad g8 0, .slice y.2.a y.2.xs.length y.2.c)] := hC.append ((RCells.cons hkc.1 (RCells.cons hkc.2 (RCells.cons hlc (RCells.nil _)))))
   refine Y.condF (F.ev 19 (.bool false)) ?_
   refine Y.skip ?_
   refine X.thenN ?_
   refine Y.seq ?_
   refine Y.region F [some (Vp rb), some (Vp rb), some (.pointer (some ⟨rb, 2, none⟩)), some (.slice (some ⟨g8, 0, none⟩) L.length lc9), some (Vp g8), some (.slice y.2.a y.2.xs.length y.2.c), some (Vp rb), some (Vp rb), some (.pointer (some ⟨rb, 1, none⟩)), some (.slice (some ⟨g9, 0, none⟩) L.length kc), some (.pointer (some ⟨g9, 0 * 2, none⟩)), some (.pointer (some ⟨g9, 0 * 2 + 1, none⟩)), some (Vi y.1.2), some (.slice y.2.a y.2.xs.length y.2.c), some (Vi y.1.2), some (Vi 0)] [] rfl ⟨by kernel_rfl, of_decide_eq_true (by kernel_rfl), by kernel_rfl, by kernel_rfl, by kernel_rfl⟩ ⟨?_, ?_, ?_, ?_, ?_, ?_, ?_, ?_, ?_, ?_, ?_, ?_, ?_, ?_, ?_, ?_, trivial⟩ ?_
   ·intro ac done u W Sx hR
    exact X.vl (X.move rfl (Sx.ev 6 (Vp rb))) hR.st0
   ·intro ac done u W Sx hR
    exact X.vl (Y.nilC rfl (Sx.ev 20 (Vp rb))) hR.st0
   ·intro ac done u W Sx hR
    exact X.vl (X.field rfl (Sx.ev 21 (Vp rb)) (X.fld Try.underlying91 rfl (Try.siz38 _) rfl rfl)) hR.st0
   ·intro ac done u W Sx hR
    have g : Gr w9 W := hR.1
    exact X.vl (X.load rfl (Sx.ev 22 (.pointer (some ⟨rb, 2, none⟩))) (X.ld1 (Try.agg38 _) ((hC.gr g).at 6 rfl))) hR.st0
   ·intro ac done u W Sx hR
    exact X.vl (X.index rfl (Sx.ev 23 (.slice (some ⟨g8, 0, none⟩) L.length lc9)) (X.kc (Vi 0) rfl) (X.idx (k := 0) Try.underlying38 (Try.siz34 _) (by omega) (by omega) (addr_add0 _ _))) hR.st0
   ·intro ac done u W Sx hR
    have g : Gr w9 W := hR.1
    exact X.vl (X.load rfl (Sx.ev 24 (Vp g8)) (X.ld1 (Try.agg34 _) ((hC.gr g).at 9 rfl))) hR.st0
   ·intro ac done u W Sx hR
    exact X.vl (X.move rfl (Sx.ev 6 (Vp rb))) hR.st0
   ·intro ac done u W Sx hR
    exact X.vl (Y.nilC rfl (Sx.ev 26 (Vp rb))) hR.st0
   ·intro ac done u W Sx hR
    exact X.vl (X.field rfl (Sx.ev 27 (Vp rb)) (X.fld Try.underlying91 rfl (Try.siz89 _) rfl rfl)) hR.st0
   ·intro ac done u W Sx hR
    have g : Gr w9 W := hR.1
    exact X.vl (X.load rfl (Sx.ev 28 (.pointer (some ⟨rb, 1, none⟩))) (X.ld1 (Try.agg89 _) ((hC.gr g).at 5 rfl))) hR.st0
   ·intro ac done u W Sx hR
    exact X.vl (X.index rfl (Sx.ev 29 (.slice (some ⟨g9, 0, none⟩) L.length kc)) (X.kc (Vi 0) rfl) (X.idx (k := 0) Try.underlying89 (Try.siz92 _) (by omega) (by omega) (addr_add0 _ _))) hR.st0
   ·intro ac done u W Sx hR
    exact X.vl (X.index rfl (Sx.ev 30 (.pointer (some ⟨g9, 0 * 2, none⟩))) (X.kc (Vi 1) rfl) (Y.idxA (k := 1) Try.underlying92 (Try.siz3 _) (by decide) (by omega) (by omega) rfl)) hR.st0
   ·intro ac done u W Sx hR
    have g : Gr w9 W := hR.1
    exact X.vl (X.load rfl (Sx.ev 31 (.pointer (some ⟨g9, 0 * 2 + 1, none⟩))) (X.ld1 (Try.agg3 _) ((hC.gr g).at 8 rfl))) hR.st0
   ·intro ac done u W Sx hR
    exact X.vl (X.assign rfl (Sx.ev 25 (.slice y.2.a y.2.xs.length y.2.c))) hR.st0
   ·intro ac done u W Sx hR
    exact X.vl (X.assign rfl (Sx.ev 32 (Vi y.1.2))) hR.st0
   ·intro ac done u W Sx hR
    exact X.vl (X.assign rfl (X.kc (Vi 0) rfl)) hR.st0
   intro ac u w11 hs hd hl ho hR
   have g : Gr w9 w11 := hR.1
   replace F : Fr ac 33 [(2, .slice y.2.a y.2.xs.length y.2.c), (3, Vi y.1.2), (4, Vi 0)] := X.fr hs hd hl _ (by kernel_rfl)
   clear hs hd hl ho hR
   replace G := G.trans g
   replace hC := hC.gr g
   replace hpt := hpt.gr g
   replace hph := hph.gr g
   replace hpb := hpb.gr g
   replace hpl := hpl.gr g
   replace hRk := hRk.gr g
   clear g
   refine X.thenN ?_
   refine Y.ret ?_
   have hb := best_3 hck hV hy
   exact Y.ret0 (v := .tuple #[.slice y.2.a y.2.xs.length y.2.c, Vi y.1.2, Vi 0]) F (Y.rs3 F rfl (by kernel_rfl) (by kernel_rfl) (by kernel_rfl)) ⟨y.2.a, y.2.c, by rw [hb], by rw [hb]; exact (hRk.b y (List.mem_of_getElem? hy)).i, by rw [hb]; exact hyb.nil, G⟩
  | true =>
   try rw [h10] at F
   have h10p : (L.length : Int) = 0 := by simpa using h10
   refine Y.condT (F.ev 19 (.bool true)) ?_
   refine Y.sg F [(2, .slice none 0 0), (3, Vi 0), (4, Vi 3)] (Y.pv F (X.assign rfl (X.kc (.slice none 0 0) rfl)) fun ac F=>Y.pv F (X.assign rfl (X.kc (Vi 0) rfl)) fun ac F=>Y.pv F (X.assign rfl (X.kc (Vi 3) rfl)) fun ac F=>Y.fin F) ?_;clear F ac;intro ac F
   refine Y.ret ?_
   refine X.thenR ?_
   have hb := best_2 hck hV (by omega)
   exact Y.ret0 (v := .tuple #[.slice none 0 0, Vi 0, Vi 3]) F (Y.rs3 F rfl (by kernel_rfl) (by kernel_rfl) (by kernel_rfl)) ⟨none, 0, by rw [hb]; rfl, by rw [hb]; exact Ints.nil0 _, by rw [hb]; exact fun _ => ⟨rfl, rfl⟩, G⟩
 | true =>
  try rw [h8] at F
  have h8p : ¬ (chkE p : Int) = 0 := by simpa using h8
  refine Y.condT (F.ev 10 (.bool true)) ?_
  refine Y.sg F [(2, .slice none 0 0), (3, Vi 0), (4, Vi (chkE p))] (Y.pv F (X.move rfl (F.ev 5 (Vi (chkE p)))) fun ac F=>Y.pv F (X.assign rfl (X.kc (.slice none 0 0) rfl)) fun ac F=>Y.pv F (X.assign rfl (X.kc (Vi 0) rfl)) fun ac F=>Y.pv F (X.assign rfl (F.ev 11 (Vi (chkE p)))) fun ac F=>Y.fin F) ?_;clear F ac;intro ac F
  refine Y.ret ?_
  refine X.thenR ?_
  have hb := best_1 (p := p) (by omega)
  exact Y.ret0 (v := .tuple #[.slice none 0 0, Vi 0, Vi (chkE p)]) F (Y.rs3 F rfl (by kernel_rfl) (by kernel_rfl) (by kernel_rfl)) ⟨none, 0, by rw [hb]; rfl, by rw [hb]; exact Ints.nil0 _, by rw [hb]; exact fun _ => ⟨rfl, rfl⟩, G⟩
end
section
open Go.RowKit

/-- the problem of the examples -/
def exP : Pb where
  nt := 2
  nh := 2
  nb := 0
  nl := 1
  tn := fun i => if i = 0 then ⟨#[97]⟩ else ⟨#[98]⟩
  tv := fun i r => (([[0, 2, 3, 0], [0, 1, 3, 2]] : List (List Int))[i]?.getD [])[r]?.getD 0
  hn := fun i => if i = 0 then ⟨#[120]⟩ else ⟨#[121]⟩
  hv := fun i r => (([[0, 4, 5, 2, 0, 10], [0, 2, 5, 0, 1, 4]] : List (List Int))[i]?.getD [])[r]?.getD 0
  bv := fun _ _ => 0
  lv := fun _ r => ([0, 1, 3] : List Int)[r]?.getD 0
theorem ex_best : bestR exP = ([1, 0], 20, 0) := by kernel_rfl
theorem TbAt.only {S : Nat → Prop} {w w' : World} {k : Nat} {a : Option Addr} {n c : Nat} {V : Nat → Nat → Value} (h : TbAt w k a n c V) (g : Only S w w') (hn : ∀ ad, a = some ad → ¬ S ad.block) : TbAt w' k a n c V :=
  ⟨h.1, h.2.1, fun j hj => by
    obtain ⟨ad, e, hb, hc⟩ := h.2.2 j hj
    exact ⟨ad, e, Nat.lt_of_lt_of_le hb g.size, fun r hr => g.cell (hc r hr) (by rw [add_block, add_block]; exact hn ad e)⟩⟩
theorem TbAt.nil (w : World) (k c : Nat) (a : Option Addr) (V : Nat → Nat → Value) : TbAt w k a 0 c V := ⟨Nat.zero_le _, by simp, fun j hj => by omega⟩
theorem tb_new {W : World} {b k n : Nat} {V : Nat → Nat → Value} {cs : List Value} {t : TypeId} (h : W.heap[b]? = some (.cells cs.toArray t)) (hn : n * k * 8 ≤ 140737488351232) (hc : ∀ j r, j < n → r < k → cs[j * k + r]? = some (V j r)) : TbAt W k (some ⟨b, 0, none⟩) n n V :=
  ⟨Nat.le_refl _, hn, fun j hj => ⟨_, rfl, (Array.getElem?_eq_some_iff.1 h).1, fun r hr => by
    rw [addr_add0, show (⟨b, j * k, none⟩ : Addr).add r = ⟨b, j * k + r, none⟩ from Y.addr_add _ _ _]
    exact cell_at h (by simpa using hc j r hj hr)⟩⟩
theorem exT_at {W : World} {b : Nat} (h : W.heap[b]? = some (.cells #[.string ⟨#[97]⟩, .int .i64 2, .int .i64 3, .int .i64 0, .string ⟨#[98]⟩, .int .i64 1, .int .i64 3, .int .i64 2] 74)) : TbAt W 4 (some ⟨b, 0, none⟩) 2 2 (tvV exP) := tb_new (cs := [.string ⟨#[97]⟩, .int .i64 2, .int .i64 3, .int .i64 0, .string ⟨#[98]⟩, .int .i64 1, .int .i64 3, .int .i64 2]) h (by decide) (fun j r hj hr => by
  have h1 : j = 0 ∨ j = 1 := by omega
  have h2 : r = 0 ∨ r = 1 ∨ r = 2 ∨ r = 3 := by omega
  rcases h1 with rfl | rfl <;> rcases h2 with rfl | rfl | rfl | rfl <;> rfl)
theorem exH_at {W : World} {b : Nat} (h : W.heap[b]? = some (.cells #[.string ⟨#[120]⟩, .int .i64 4, .int .i64 5, .int .i64 2, .int .i64 0, .int .i64 10, .string ⟨#[121]⟩, .int .i64 2, .int .i64 5, .int .i64 0, .int .i64 1, .int .i64 4] 53)) : TbAt W 6 (some ⟨b, 0, none⟩) 2 2 (hvV exP) := tb_new (cs := [.string ⟨#[120]⟩, .int .i64 4, .int .i64 5, .int .i64 2, .int .i64 0, .int .i64 10, .string ⟨#[121]⟩, .int .i64 2, .int .i64 5, .int .i64 0, .int .i64 1, .int .i64 4]) h (by decide) (fun j r hj hr => by
  have h1 : j = 0 ∨ j = 1 := by omega
  have h2 : r = 0 ∨ r = 1 ∨ r = 2 ∨ r = 3 ∨ r = 4 ∨ r = 5 := by omega
  rcases h1 with rfl | rfl <;> rcases h2 with rfl | rfl | rfl | rfl | rfl | rfl <;> rfl)
theorem exL_at {W : World} {b : Nat} (h : W.heap[b]? = some (.cells #[.int .i64 0, .int .i64 1, .int .i64 3] 84)) : TbAt W 3 (some ⟨b, 0, none⟩) 1 1 (lvV exP) := tb_new (cs := [.int .i64 0, .int .i64 1, .int .i64 3]) h (by decide) (fun j r hj hr => by
  obtain rfl : j = 0 := by omega
  have h2 : r = 0 ∨ r = 1 ∨ r = 2 := by omega
  rcases h2 with rfl | rfl | rfl <;> rfl)
theorem Try.exT0 (w : World) : (Instr.build 74 #[(0, .string ⟨#[97]⟩), (1, .int .i64 2), (2, .int .i64 3)]).run Try.prog w = .ok (.agg #[.string ⟨#[97]⟩, .int .i64 2, .int .i64 3, .int .i64 0]) w := by kernel_rfl
theorem Try.exT1 (w : World) : (Instr.build 74 #[(0, .string ⟨#[98]⟩), (1, .int .i64 1), (2, .int .i64 3), (3, .int .i64 2)]).run Try.prog w = .ok (.agg #[.string ⟨#[98]⟩, .int .i64 1, .int .i64 3, .int .i64 2]) w := by kernel_rfl
theorem Try.exH0 (w : World) : (Instr.build 53 #[(0, .string ⟨#[120]⟩), (1, .int .i64 4), (2, .int .i64 5), (3, .int .i64 2), (5, .int .i64 10)]).run Try.prog w = .ok (.agg #[.string ⟨#[120]⟩, .int .i64 4, .int .i64 5, .int .i64 2, .int .i64 0, .int .i64 10]) w := by kernel_rfl
theorem Try.exH1 (w : World) : (Instr.build 53 #[(0, .string ⟨#[121]⟩), (1, .int .i64 2), (2, .int .i64 5), (4, .int .i64 1), (5, .int .i64 4)]).run Try.prog w = .ok (.agg #[.string ⟨#[121]⟩, .int .i64 2, .int .i64 5, .int .i64 0, .int .i64 1, .int .i64 4]) w := by kernel_rfl
theorem Try.exL0 (w : World) : (Instr.build 84 #[(0, .int .i64 0), (1, .int .i64 1), (2, .int .i64 3)]).run Try.prog w = .ok (.agg #[.int .i64 0, .int .i64 1, .int .i64 3]) w := by kernel_rfl
theorem Try.exsT (w : World) : (Instr.buildSlice 22 2 #[(0, .agg #[.string ⟨#[97]⟩, .int .i64 2, .int .i64 3, .int .i64 0]), (1, .agg #[.string ⟨#[98]⟩, .int .i64 1, .int .i64 3, .int .i64 2])]).run Try.prog w = .ok (.slice (some ⟨w.heap.size, 0, none⟩) 2 2) (w.alloc (.cells #[.string ⟨#[97]⟩, .int .i64 2, .int .i64 3, .int .i64 0, .string ⟨#[98]⟩, .int .i64 1, .int .i64 3, .int .i64 2] 74)) := by kernel_rfl
theorem Try.exsH (w : World) : (Instr.buildSlice 23 2 #[(0, .agg #[.string ⟨#[120]⟩, .int .i64 4, .int .i64 5, .int .i64 2, .int .i64 0, .int .i64 10]), (1, .agg #[.string ⟨#[121]⟩, .int .i64 2, .int .i64 5, .int .i64 0, .int .i64 1, .int .i64 4])]).run Try.prog w = .ok (.slice (some ⟨w.heap.size, 0, none⟩) 2 2) (w.alloc (.cells #[.string ⟨#[120]⟩, .int .i64 4, .int .i64 5, .int .i64 2, .int .i64 0, .int .i64 10, .string ⟨#[121]⟩, .int .i64 2, .int .i64 5, .int .i64 0, .int .i64 1, .int .i64 4] 53)) := by kernel_rfl
theorem Try.exsL (w : World) : (Instr.buildSlice 25 1 #[(0, .agg #[.int .i64 0, .int .i64 1, .int .i64 3])]).run Try.prog w = .ok (.slice (some ⟨w.heap.size, 0, none⟩) 1 1) (w.alloc (.cells #[.int .i64 0, .int .i64 1, .int .i64 3] 84)) := by kernel_rfl
theorem Try.bd27 (a b c : Option Addr) (n1 c1 n2 c2 n3 c3 : Nat) (w : World) : (Instr.build 27 #[(0, .slice a n1 c1), (1, .slice b n2 c2), (3, .slice c n3 c3)]).run Try.prog w = .ok (.agg #[.slice a n1 c1, .slice b n2 c2, .slice none 0 0, .slice c n3 c3]) w := by kernel_rfl
theorem X.b013 {ρ : Operand → Value} {x y z : Operand} {v1 v2 v3 : Value} (h1 : ρ x = v1) (h2 : ρ y = v2) (h3 : ρ z = v3) : [(0, x), (1, y), (3, z)].map (fun p : Nat × Operand => (p.1, ρ p.2)) = [(0, v1), (1, v2), (3, v3)] := by simp [h1, h2, h3]
theorem exT_sz : ∀ i, i < exP.nt → (exP.tn i).size ≤ 9223372036854775807 := fun i _ => by
  show (if i = 0 then (⟨#[97]⟩ : ByteArray) else ⟨#[98]⟩).size ≤ _
  split <;> decide
theorem exH_sz : ∀ i, i < exP.nh → (exP.hn i).size ≤ 9223372036854775807 := fun i _ => by
  show (if i = 0 then (⟨#[120]⟩ : ByteArray) else ⟨#[121]⟩).size ≤ _
  split <;> decide
set_option maxRecDepth 100000 in
set_option maxHeartbeats 400000 in
theorem example_any (w : World) :
  Calls Try.prog 51 #[] w fun e w' => ∃ ta ha la, e = .returned (.agg #[.slice ta 2 2, .slice ha 2 2, .slice none 0 0, .slice la 1 1]) ∧ PbAt w' exP ta ha none la 2 2 0 1 ∧ Gr w w' := by
 have G := Gr.refl w
 refine Y.calls 10 Try.func51 rfl rfl ?_
 intro ac F0
 have F : Fr ac 10 [] := F0.sub _
 clear F0
 refine Y.sl ?_
 refine Y.pv F (Y.al rfl (Try.new27 _)) ?_;clear F ac;intro ac F
 have g := Gr.alloc w (.cells #[.slice none 0 0, .slice none 0 0, .slice none 0 0, .slice none 0 0] 27)
 have hb := heap_alloc_new w (.cells #[.slice none 0 0, .slice none 0 0, .slice none 0 0, .slice none 0 0] 27)
 have hszw3 : w.heap.size < (w.alloc (.cells #[.slice none 0 0, .slice none 0 0, .slice none 0 0, .slice none 0 0] 27)).heap.size := by simp
 have hgsw3 : w.heap.size ≤ w.heap.size := G.size
 generalize w.alloc (.cells #[.slice none 0 0, .slice none 0 0, .slice none 0 0, .slice none 0 0] 27) = w3 at *
 replace G := G.trans g
 have hVw3 : OwnP w3 w.heap.size 4 (VL [.slice none 0 0, .slice none 0 0, .slice none 0 0, .slice none 0 0]) := ownP_bx (vs := [.slice none 0 0, .slice none 0 0, .slice none 0 0, .slice none 0 0]) hb
 clear g hb
 refine Y.nt F [(0, Vp w.heap.size)] ?_;clear F ac;intro ac F
 refine Y.sl ?_
 refine Y.pv F (Y.bd rfl rfl (Try.exT0 _)) ?_;clear F ac;intro ac F
 refine Y.pv F (Y.bd rfl rfl (Try.exT1 _)) ?_;clear F ac;intro ac F
 refine Y.pv F (X.bs rfl (X.b2 (F.ev 1 (.agg #[.string ⟨#[97]⟩, Vi 2, Vi 3, Vi 0])) (F.ev 2 (.agg #[.string ⟨#[98]⟩, Vi 1, Vi 3, Vi 2]))) (Try.exsT _)) ?_;clear F ac;intro ac F
 have g := Gr.alloc w3 (.cells #[.string ⟨#[97]⟩, Vi 2, Vi 3, Vi 0, .string ⟨#[98]⟩, Vi 1, Vi 3, Vi 2] 74)
 have hgsT : w.heap.size ≤ w3.heap.size := G.size
 have hboT : w.heap.size < w3.heap.size := hVw3.lt
 have hxT := exT_at (heap_alloc_new w3 (.cells #[.string ⟨#[97]⟩, Vi 2, Vi 3, Vi 0, .string ⟨#[98]⟩, Vi 1, Vi 3, Vi 2] 74))
 generalize w3.alloc (.cells #[.string ⟨#[97]⟩, Vi 2, Vi 3, Vi 0, .string ⟨#[98]⟩, Vi 1, Vi 3, Vi 2] 74) = w4 at *
 replace G := G.trans g
 replace hVw3 := hVw3.gr g
 clear g
 refine Y.pv F (Y.bd rfl rfl (Try.exH0 _)) ?_;clear F ac;intro ac F
 refine Y.pv F (Y.bd rfl rfl (Try.exH1 _)) ?_;clear F ac;intro ac F
 refine Y.pv F (X.bs rfl (X.b2 (F.ev 4 (.agg #[.string ⟨#[120]⟩, Vi 4, Vi 5, Vi 2, Vi 0, Vi 10])) (F.ev 5 (.agg #[.string ⟨#[121]⟩, Vi 2, Vi 5, Vi 0, Vi 1, Vi 4]))) (Try.exsH _)) ?_;clear F ac;intro ac F
 have g := Gr.alloc w4 (.cells #[.string ⟨#[120]⟩, Vi 4, Vi 5, Vi 2, Vi 0, Vi 10, .string ⟨#[121]⟩, Vi 2, Vi 5, Vi 0, Vi 1, Vi 4] 53)
 have hgsH : w.heap.size ≤ w4.heap.size := G.size
 have hboH : w.heap.size < w4.heap.size := hVw3.lt
 have hxH := exH_at (heap_alloc_new w4 (.cells #[.string ⟨#[120]⟩, Vi 4, Vi 5, Vi 2, Vi 0, Vi 10, .string ⟨#[121]⟩, Vi 2, Vi 5, Vi 0, Vi 1, Vi 4] 53))
 generalize w4.alloc (.cells #[.string ⟨#[120]⟩, Vi 4, Vi 5, Vi 2, Vi 0, Vi 10, .string ⟨#[121]⟩, Vi 2, Vi 5, Vi 0, Vi 1, Vi 4] 53) = w5 at *
 replace G := G.trans g
 replace hVw3 := hVw3.gr g
 replace hxT := hxT.gr g
 clear g
 refine Y.pv F (Y.bd rfl rfl (Try.exL0 _)) ?_;clear F ac;intro ac F
 refine Y.pv F (X.bs rfl (X.b1 (F.ev 7 (.agg #[Vi 0, Vi 1, Vi 3]))) (Try.exsL _)) ?_;clear F ac;intro ac F
 have g := Gr.alloc w5 (.cells #[Vi 0, Vi 1, Vi 3] 84)
 have hgsL : w.heap.size ≤ w5.heap.size := G.size
 have hboL : w.heap.size < w5.heap.size := hVw3.lt
 have hxL := exL_at (heap_alloc_new w5 (.cells #[Vi 0, Vi 1, Vi 3] 84))
 generalize w5.alloc (.cells #[Vi 0, Vi 1, Vi 3] 84) = w6 at *
 replace G := G.trans g
 replace hVw3 := hVw3.gr g
 replace hxT := hxT.gr g
 replace hxH := hxH.gr g
 clear g
 refine Y.pv F (Y.bd rfl (X.b013 (F.ev 3 (.slice (some ⟨w3.heap.size, 0, none⟩) 2 2)) (F.ev 6 (.slice (some ⟨w4.heap.size, 0, none⟩) 2 2)) (F.ev 8 (.slice (some ⟨w5.heap.size, 0, none⟩) 1 1))) (Try.bd27 _ _ _ _ _ _ _ _ _ _)) ?_;clear F ac;intro ac F
 obtain ⟨w7, hrun, hV2, hon⟩ := ownP_store (P := Try.prog) (vs := [.slice (some ⟨w3.heap.size, 0, none⟩) 2 2, .slice (some ⟨w4.heap.size, 0, none⟩) 2 2, .slice none 0 0, .slice (some ⟨w5.heap.size, 0, none⟩) 1 1]) (t := 27) hVw3 rfl (fun W => Try.siz27 W) rfl
 refine Y.punit F (X.w0 rfl) rfl (X.store rfl (F.ev 0 (Vp w.heap.size)) (F.ev 9 (.agg #[.slice (some ⟨w3.heap.size, 0, none⟩) 2 2, .slice (some ⟨w4.heap.size, 0, none⟩) 2 2, .slice none 0 0, .slice (some ⟨w5.heap.size, 0, none⟩) 1 1])) hrun) ?_
 clear F ac hrun
 intro ac F
 replace hxT := hxT.only hon (fun ad e h => by injection e with e; subst e; have h9 : _ = _ := h; simp only at h9; omega)
 replace hxH := hxH.only hon (fun ad e h => by injection e with e; subst e; have h9 : _ = _ := h; simp only at h9; omega)
 replace hxL := hxL.only hon (fun ad e h => by injection e with e; subst e; have h9 : _ = _ := h; simp only at h9; omega)
 replace G := Y.Only.up G hon (by omega)
 refine Y.nt F [(0, Vp w.heap.size)] ?_;clear F ac;intro ac F
 refine Y.ret ?_
 exact Y.ret0 (v := .agg #[.slice (some ⟨w3.heap.size, 0, none⟩) 2 2, .slice (some ⟨w4.heap.size, 0, none⟩) 2 2, .slice none 0 0, .slice (some ⟨w5.heap.size, 0, none⟩) 1 1]) F (Y.rcl F rfl (by kernel_rfl) (ownP_load hV2 (Try.agg27 _) (Try.siz27 _) rfl)) ⟨_, _, _, rfl, ⟨hxT, hxH, TbAt.nil _ _ _ _ _, hxL, fun i hi => exT_sz i hi, fun i hi => exH_sz i hi⟩, G⟩
set_option maxRecDepth 100000 in
set_option maxHeartbeats 400000 in
theorem works_any (w : World) :
  Calls Try.prog 16 #[] w fun e w' => e = .returned (.bool true) ∧ Gr w w' := by
 have G := Gr.refl w
 refine Y.calls 33 Try.func16 rfl rfl ?_
 intro ac F0
 have F : Fr ac 33 [] := F0.sub _
 clear F0
 refine Y.sg F [] (Y.pv F (X.assign rfl (X.kc (.bool false) rfl)) fun ac F=>Y.fin F) ?_;clear F ac;intro ac F
 refine Y.sl ?_
 refine Y.pcall F (X.w0 rfl) rfl (X.enter (F := 51) rfl (X.kc (.func (.func 51) #[] #[]) rfl) rfl (enters_of Try.func51 (by kernel_rfl) rfl _)) (example_any w) ?_
 clear F ac
 rintro e w3 ⟨ta, ha, la, rfl, hP0, g⟩
 refine ⟨_, rfl, ?_⟩
 intro ac F
 replace G := G.trans g
 clear g
 have hP := hP0
 refine Y.pc F 22 (X.a1 (F.ev 5 (.agg #[.slice ta 2 2, .slice ha 2 2, .slice none 0 0, .slice la 1 1]))) Try.func22 (best_any exP ta ha none la 2 2 0 1 w3 hP) ?_
 clear F ac
 rintro e w4 ⟨a9, c9, rfl, hI, -, g⟩
 rw [ex_best] at hI
 refine ⟨_, rfl, ?_⟩
 rw [ex_best]
 intro ac F
 replace G := G.trans g
 clear g
 obtain ⟨ad, rfl, -, hc0⟩ := hI.at (j := 0) (by decide)
 obtain ⟨ad2, e2, -, hc1⟩ := hI.at (j := 1) (by decide)
 injection e2 with e2
 subst e2
 have hC : RCells w4 [(ad.add 0, Vi 1), (ad.add 1, Vi 0)] := (RCells.cons hc0 (RCells.cons hc1 (RCells.nil _)))
 refine Y.pv F (X.move rfl (F.ev 6 (.tuple #[.slice (some ad) 2 c9, Vi 20, Vi 0]))) ?_;clear F ac;intro ac F
 refine Y.pv F (X.extract rfl (F.ev 4 (.tuple #[.slice (some ad) 2 c9, Vi 20, Vi 0])) rfl) ?_;clear F ac;intro ac F
 refine Y.pv F (X.extract rfl (F.ev 4 (.tuple #[.slice (some ad) 2 c9, Vi 20, Vi 0])) rfl) ?_;clear F ac;intro ac F
 refine Y.pv F (X.extract rfl (F.ev 4 (.tuple #[.slice (some ad) 2 c9, Vi 20, Vi 0])) rfl) ?_;clear F ac;intro ac F
 refine Y.pv F (X.assign rfl (F.ev 7 (.slice (some ad) 2 c9))) ?_;clear F ac;intro ac F
 refine Y.pv F (X.assign rfl (F.ev 8 (Vi 20))) ?_;clear F ac;intro ac F
 refine Y.pv F (X.assign rfl (F.ev 9 (Vi 0))) ?_;clear F ac;intro ac F
 refine Y.nt F [(1, .slice (some ad) 2 c9), (2, Vi 20), (3, Vi 0)] ?_;clear F ac;intro ac F
 refine Y.sg F [(0, .bool true)] (by
  refine Y.pv F (X.move rfl (F.ev 3 (Vi 0))) fun ac F=>?_
  refine Y.pval F (X.w0 rfl) rfl (X.binop rfl (F.ev 10 (Vi 0)) (X.kc (Vi 0) rfl) (X.eqlI Try.underlying31 (show ((0 : Int) == 0) = true by simp))) fun ac F=>?_
  refine Y.pv F (X.move rfl (F.ev 11 (.bool true))) fun ac F=>?_
  refine Y.pg F 2 12 true (X.move rfl (F.ev 2 (Vi 20))) fun ac F=>?_
  refine Y.pg F 2 12 true (X.binop rfl (F.ev 13 (Vi 20)) (X.kc (Vi 20) rfl) (X.eqlI Try.underlying3 (show ((20 : Int) == 20) = true by simp))) fun ac F=>?_
  refine Y.pv F (X.pickT rfl (F.ev 12 (.bool true)) (F.ev 14 (.bool true))) fun ac F=>?_
  refine Y.pv F (X.move rfl (F.ev 15 (.bool true))) fun ac F=>?_
  refine Y.pg F 6 16 true (X.move rfl (F.ev 1 (.slice (some ad) 2 c9))) fun ac F=>?_
  refine Y.pg F 6 16 true (X.len1 Try.underlying34 rfl (F.ev 17 (.slice (some ad) 2 c9))) fun ac F=>?_
  refine Y.pg F 6 16 true (X.binop rfl (F.ev 18 (Vi 2)) (X.kc (Vi 2) rfl) (X.eqlI Try.underlying3 (show ((2 : Int) == 2) = true by simp))) fun ac F=>?_
  refine Y.pv F (X.pickT rfl (F.ev 16 (.bool true)) (F.ev 19 (.bool true))) fun ac F=>?_
  refine Y.pv F (X.move rfl (F.ev 20 (.bool true))) fun ac F=>?_
  refine Y.pg F 11 21 true (X.move rfl (F.ev 1 (.slice (some ad) 2 c9))) fun ac F=>?_
  refine Y.pg F 11 21 true (X.index rfl (F.ev 22 (.slice (some ad) 2 c9)) (X.kc (Vi 0) rfl) (X.idx (k := 0) Try.underlying34 (Try.siz3 _) (by omega) (by omega) (by rw [Nat.mul_one]))) fun ac F=>?_
  refine Y.pg F 11 21 true (X.load rfl (F.ev 23 (.pointer (some (ad.add 0)))) (X.ld1 (Try.agg3 _) (hC.at 0 rfl))) fun ac F=>?_
  refine Y.pg F 11 21 true (X.binop rfl (F.ev 24 (Vi 1)) (X.kc (Vi 1) rfl) (X.eqlI Try.underlying3 (show ((1 : Int) == 1) = true by simp))) fun ac F=>?_
  refine Y.pv F (X.pickT rfl (F.ev 21 (.bool true)) (F.ev 25 (.bool true))) fun ac F=>?_
  refine Y.pv F (X.move rfl (F.ev 26 (.bool true))) fun ac F=>?_
  refine Y.pg F 17 27 true (X.move rfl (F.ev 1 (.slice (some ad) 2 c9))) fun ac F=>?_
  refine Y.pg F 17 27 true (X.index rfl (F.ev 28 (.slice (some ad) 2 c9)) (X.kc (Vi 1) rfl) (X.idx (k := 1) Try.underlying34 (Try.siz3 _) (by omega) (by omega) (by rw [Nat.mul_one]))) fun ac F=>?_
  refine Y.pg F 17 27 true (X.load rfl (F.ev 29 (.pointer (some (ad.add 1)))) (X.ld1 (Try.agg3 _) (hC.at 1 rfl))) fun ac F=>?_
  refine Y.pg F 17 27 true (X.binop rfl (F.ev 30 (Vi 0)) (X.kc (Vi 0) rfl) (X.eqlI Try.underlying3 (show ((0 : Int) == 0) = true by simp))) fun ac F=>?_
  refine Y.pv F (X.pickT rfl (F.ev 27 (.bool true)) (F.ev 31 (.bool true))) fun ac F=>?_
  refine Y.pv F (X.assign rfl (F.ev 32 (.bool true))) fun ac F=>?_
  exact Y.fin F) ?_;clear F ac;intro ac F
 refine Y.ret ?_
 exact Y.ret0 (v := .bool true) F (Y.r1 F) ⟨rfl, G⟩
end
section
open Go.RowKit

theorem Y.nilTg {P : Program} {W : World} {t e : TypeId} {x y : Operand} (hu : P.underlying t = some (.slice e)) {n c : Nat} : (do eqGuard .eql t x y (.slice none n c) (.slice none 0 0); binOp .eql t (.slice none n c) (.slice none 0 0) : Sem Value).run P W = .ok (.bool true) W := by
  obtain ⟨d, hd⟩ : ∃ d, Op.maxDepth = d + 1 := ⟨_, rfl⟩
  simp [eqGuard, binOp, Op.equal, hd, Op.equalIn, run_underlying hu, go_sem]
set_option maxRecDepth 100000 in
set_option maxHeartbeats 400000 in
theorem clt_1 (p : Pb) (ad : Addr) (tc : Nat) (w : World) (hT : TbAt w 4 (some ad) p.nt tc (tvV p)) (hz : p.nt ≤ 20) :
  Calls Try.prog 83 #[.slice (some ad) p.nt tc] w fun e w' => ∃ a c, e = .returned (.slice a p.nt c) ∧ OwnR w' w.heap.size 74 4 (.slice a p.nt c) p.nt (tbL (tvV p) p.nt 4) ∧ Gr w w' := by
 have G := Gr.refl w
 have hpt := hT
 refine Y.calls 8 Try.func83 rfl rfl ?_
 intro ac F0
 have F : Fr ac 8 [(0, .slice (some ad) p.nt tc)] := F0.sub _
 clear F0
 refine Y.sg F [(0, .slice (some ad) p.nt tc)] (Y.pv F (X.assign rfl (X.kc (.slice none 0 0) rfl)) fun ac F=>Y.fin F) ?_;clear F ac;intro ac F
 refine Y.seq ?_
 refine Y.sg F [(0, .slice (some ad) p.nt tc), (4, .bool false)] (Y.pv F (X.move rfl (F.ev 0 (.slice (some ad) p.nt tc))) fun ac F=>Y.pv F (X.binop rfl (F.ev 3 (.slice (some ad) p.nt tc)) (X.kc (.slice none 0 0) rfl) (Y.nilF Try.underlying22)) fun ac F=>Y.fin F) ?_;clear F ac;intro ac F
 refine Y.condF (F.ev 4 (.bool false)) ?_
 refine Y.skip ?_
 refine X.thenN ?_
 refine Y.sl ?_
 refine Y.pv F (X.bs rfl X.bs0 (Try.bs22_0 _)) ?_;clear F ac;intro ac F
 have g := Gr.alloc w (.cells #[] 74)
 have hO := ownR_new (k := 4) (heap_alloc_new w (.cells #[] 74)) (Nat.le_refl _)
 generalize w.alloc (.cells #[] 74) = w3 at *
 replace G := G.trans g
 replace hpt := hpt.gr g
 clear g
 refine Y.pv F (X.move rfl (F.ev 0 (.slice (some ad) p.nt tc))) ?_;clear F ac;intro ac F
 obtain ⟨ra, rc, w4, hrun, hO2, g⟩ := run_copyN (P := Try.prog) (ts := 22) Try.underlying22 Try.info74 rfl (by decide) hO hpt.none0 tbL_len (hpt.src (by decide)) (tv_one p _) (by omega) (by decide) G.size
 refine Y.pv F (Y.apz rfl (F.ev 5 (.slice (some ⟨w.heap.size, 0, none⟩) 0 0)) (F.ev 6 (.slice (some ad) p.nt tc)) hrun) ?_
 clear F ac hrun
 intro ac F
 replace G := G.trans g
 replace hpt := hpt.gr g
 refine Y.pv F (X.assign rfl (F.ev 7 (.slice ra p.nt rc))) ?_;clear F ac;intro ac F
 refine Y.nt F [(2, .slice ra p.nt rc)] ?_;clear F ac;intro ac F
 refine Y.ret ?_
 exact Y.ret0 (v := .slice ra p.nt rc) F (Y.r1 F) ⟨ra, rc, rfl, hO2, G⟩
set_option maxRecDepth 100000 in
set_option maxHeartbeats 400000 in
theorem clt_0 (p : Pb) (tc : Nat) (w : World) (h0 : p.nt = 0) :
  Calls Try.prog 83 #[.slice none p.nt tc] w fun e w' => ∃ a c, e = .returned (.slice a p.nt c) ∧ OwnR w' w.heap.size 74 4 (.slice a p.nt c) p.nt (tbL (tvV p) p.nt 4) ∧ Gr w w' := by
 have G := Gr.refl w
 refine Y.calls 8 Try.func83 rfl rfl ?_
 intro ac F0
 have F : Fr ac 8 [(0, .slice none p.nt tc)] := F0.sub _
 clear F0
 refine Y.sg F [(0, .slice none p.nt tc)] (Y.pv F (X.assign rfl (X.kc (.slice none 0 0) rfl)) fun ac F=>Y.fin F) ?_;clear F ac;intro ac F
 refine Y.seq ?_
 refine Y.sg F [(0, .slice none p.nt tc), (4, .bool true)] (Y.pv F (X.move rfl (F.ev 0 (.slice none p.nt tc))) fun ac F=>Y.pv F (X.binop rfl (F.ev 3 (.slice none p.nt tc)) (X.kc (.slice none 0 0) rfl) (Y.nilTg Try.underlying22)) fun ac F=>Y.fin F) ?_;clear F ac;intro ac F
 refine Y.condT (F.ev 4 (.bool true)) ?_
 refine Y.sg F [(2, .slice none 0 0)] (Y.pv F (X.assign rfl (X.kc (.slice none 0 0) rfl)) fun ac F=>Y.fin F) ?_;clear F ac;intro ac F
 refine Y.ret ?_
 refine X.thenR ?_
 exact Y.ret0 (v := .slice none 0 0) F (Y.r1 F) ⟨none, 0, by rw [h0], by rw [h0]; exact OwnR.nil _ _ _ _, G⟩
theorem clt_any (p : Pb) (ta : Option Addr) (tc : Nat) (w : World) (hT : TbAt w 4 ta p.nt tc (tvV p)) (hz : p.nt ≤ 20) :
  Calls Try.prog 83 #[.slice ta p.nt tc] w fun e w' => ∃ a c, e = .returned (.slice a p.nt c) ∧ OwnR w' w.heap.size 74 4 (.slice a p.nt c) p.nt (tbL (tvV p) p.nt 4) ∧ Gr w w' := by
 cases ta with
 | none => exact clt_0 p tc w (hT.none0 rfl)
 | some ad => exact clt_1 p ad tc w hT hz
set_option maxRecDepth 100000 in
set_option maxHeartbeats 2000000 in
theorem sv1_any (p : Pb) (ta ha ba la : Option Addr) (tc hc bc lc : Nat) (a : Option Addr) (c bp bx : Nat) (xs : List Int) (n : Int) (w : World) (hP : PbAt w p ta ha ba la tc hc bc lc) (hX : Ints w a xs.length xs) (hq0 : RCells w [(⟨bp, 0, none⟩, .slice ta p.nt tc), (⟨bp, 1, none⟩, .slice ha p.nh hc), (⟨bp, 2, none⟩, .slice ba p.nb bc), (⟨bp, 3, none⟩, .slice la p.nl lc), (⟨bx, 0, none⟩, .slice a xs.length c)]) (hck : chkE p = 0) (hn : 0 ≤ n ∧ n ≤ 100001) (hlen : xs.length ≤ p.nt) (hx : HosOk p xs) :
  Calls Try.prog 82 #[Vi n, Vp bp, Vp bx] w fun e w' => e = .returned (.bool (!hopeB p (hund p n) xs)) ∧ Gr w w' := by
 have G := Gr.refl w
 have hpt := hP.t
 have hph := hP.h
 have hpb := hP.b
 have hpl := hP.l
 have hplen := hP.len
 obtain ⟨hn1, hn2, hn3, hn4⟩ := hplen
 have hcp1 := hpt.cap
 have hcp2 := hph.cap
 have hcp3 := hpb.cap
 have hcp4 := hpl.cap
 have hxs := hX
 have hq := qT_ok hck hn
 have hp := chk_ok hck
 have ht10 := hp.t10
 have hC := hq0
 have hbpl : bp < w.heap.size := lt_cell (hC.at 0 rfl)
 have hbxl : bx < w.heap.size := lt_cell (hC.at 4 rfl)
 refine Y.calls 41 Try.func82 rfl rfl ?_
 intro ac F0
 have F : Fr ac 41 [(0, Vi n), (1, Vp bp), (2, Vp bx)] := F0.sub _
 clear F0
 refine Y.sg F [(0, Vi n), (1, Vp bp), (2, Vp bx)] (Y.pv F (X.assign rfl (X.kc (.bool false) rfl)) fun ac F=>Y.fin F) ?_;clear F ac;intro ac F
 refine Y.sl ?_
 refine Y.pv F (X.load rfl (F.ev 1 (Vp bp)) (X.ldN (Try.agg27 _) (Try.siz27 _) (Y.atz (⟨bp, 0, none⟩) (Y.AtFrom.cons (hC.at 0 rfl) (Y.AtFrom.cons (hC.at 1 rfl) (Y.AtFrom.cons (hC.at 2 rfl) (Y.AtFrom.cons (hC.at 3 rfl) (Y.AtFrom.nil _ _ _)))))))) ?_;clear F ac;intro ac F
 refine Y.pv F (Y.al rfl (Try.new27 _)) ?_;clear F ac;intro ac F
 refine Y.punit F (X.w0 rfl) rfl (X.store rfl (F.ev 5 (Vp w.heap.size)) (F.ev 7 (.agg #[.slice ta p.nt tc, .slice ha p.nh hc, .slice ba p.nb bc, .slice la p.nl lc])) (Y.stNew [.slice ta p.nt tc, .slice ha p.nh hc, .slice ba p.nb bc, .slice la p.nl lc] [.slice none 0 0, .slice none 0 0, .slice none 0 0, .slice none 0 0] (Try.siz27 _) rfl rfl)) ?_;clear F ac;intro ac F
 have g := Gr.alloc w (.cells #[.slice ta p.nt tc, .slice ha p.nh hc, .slice ba p.nb bc, .slice la p.nl lc] 27)
 have hb := heap_alloc_new w (.cells #[.slice ta p.nt tc, .slice ha p.nh hc, .slice ba p.nb bc, .slice la p.nl lc] 27)
 have hszw3 : w.heap.size < (w.alloc (.cells #[.slice ta p.nt tc, .slice ha p.nh hc, .slice ba p.nb bc, .slice la p.nl lc] 27)).heap.size := by simp
 have hgsw3 : w.heap.size ≤ w.heap.size := G.size
 generalize w.alloc (.cells #[.slice ta p.nt tc, .slice ha p.nh hc, .slice ba p.nb bc, .slice la p.nl lc] 27) = w3 at *
 replace G := G.trans g
 replace hC := hC.gr g
 replace hpt := hpt.gr g
 replace hph := hph.gr g
 replace hpb := hpb.gr g
 replace hpl := hpl.gr g
 replace hxs := hxs.gr g
 have hVw3 : OwnP w3 w.heap.size 4 (VL [.slice ta p.nt tc, .slice ha p.nh hc, .slice ba p.nb bc, .slice la p.nl lc]) := ownP_bx (vs := [.slice ta p.nt tc, .slice ha p.nh hc, .slice ba p.nb bc, .slice la p.nl lc]) hb
 clear g hb
 refine Y.nt F [(0, Vi n), (1, Vp bp), (2, Vp bx), (5, Vp w.heap.size)] ?_;clear F ac;intro ac F
 refine Y.sl ?_
 refine Y.pv F (X.field rfl (F.ev 1 (Vp bp)) (X.fld Try.underlying27 rfl (Try.siz22 _) rfl rfl)) ?_;clear F ac;intro ac F
 refine Y.pv F (X.load rfl (F.ev 8 (Vp bp)) (X.ld1 (Try.agg22 _) (hC.at 0 rfl))) ?_;clear F ac;intro ac F
 refine Y.pc F 83 (X.a1 (F.ev 9 (.slice ta p.nt tc))) Try.func83 (clt_any p ta tc w3 (hpt) (by omega)) ?_
 clear F ac
 have hBq : w.heap.size < w3.heap.size := hVw3.lt
 have hBw : w.heap.size ≤ w3.heap.size := G.size
 rintro e w4 ⟨ca, cc, rfl, hO2, g⟩
 refine ⟨_, rfl, ?_⟩
 intro ac F
 replace G := G.trans g
 replace hC := hC.gr g
 replace hpt := hpt.gr g
 replace hph := hph.gr g
 replace hpb := hpb.gr g
 replace hpl := hpl.gr g
 replace hxs := hxs.gr g
 replace hVw3 := hVw3.gr g
 clear g
 refine Y.pv F (X.field rfl (F.ev 5 (Vp w.heap.size)) (X.fld Try.underlying27 rfl (Try.siz22 _) rfl rfl)) ?_;clear F ac;intro ac F
 refine Y.punit F (X.w0 rfl) rfl (X.store rfl (F.ev 11 (Vp w.heap.size)) (F.ev 10 (.slice ca p.nt cc)) (hVw3.st1 (Try.siz22 _) rfl rfl (by decide))) ?_;clear F ac;intro ac F
 have hon := Y.set_only w4 w.heap.size 0 (.slice ca p.nt cc)
 have hV2 := (hVw3.set (k := 0) (.slice ca p.nt cc)).congr (val' := VL [.slice ca p.nt cc, .slice ha p.nh hc, .slice ba p.nb bc, .slice la p.nl lc]) (fun k hk => by
  have : k = 0 ∨ k = 1 ∨ k = 2 ∨ k = 3 := by omega
  rcases this with rfl | rfl | rfl | rfl <;> rfl)
 generalize w4.setCell ⟨w.heap.size, 0, none⟩ (.slice ca p.nt cc) = w5 at *
 have hTk := tk_start (n := n) (hO2.only hon (fun b e h => by have h1 := (hO2.ge e).1; have h2 : b = w.heap.size := h; omega))
 have hcc := hO2.le
 replace hVw3 : OwnP w5 w.heap.size 4 (VL [.slice ca p.nt cc, .slice ha p.nh hc, .slice ba p.nb bc, .slice la p.nl lc]) := hV2
 clear hV2 hO2
 replace G := Y.Only.up G hon (by omega)
 replace hpt := (hP.t).gr G
 replace hph := (hP.h).gr G
 replace hpb := (hP.b).gr G
 replace hpl := (hP.l).gr G
 replace hxs := (hX).gr G
 replace hC := (hC.kc hon 0 rfl (hC.kc hon 1 rfl (hC.kc hon 2 rfl (hC.kc hon 3 rfl (hC.kc hon 4 rfl (RCells.nil _))))))
 clear hon
 refine Y.nt F [(0, Vi n), (2, Vp bx), (5, Vp w.heap.size)] ?_;clear F ac;intro ac F
 refine Y.seq ?_
 refine Y.sl ?_
 refine Y.pv F (X.field rfl (F.ev 5 (Vp w.heap.size)) (X.fld Try.underlying27 rfl (Try.siz22 _) rfl rfl)) ?_;clear F ac;intro ac F
 replace hC : RCells w5 [(Ad bp 0, .slice ta p.nt tc), (Ad bp 1, .slice ha p.nh hc), (Ad bp 2, .slice ba p.nb bc), (Ad bp 3, .slice la p.nl lc), (Ad bx 0, .slice a xs.length c), (Ad w.heap.size 0, .slice ca p.nt cc)] := hC.append ((RCells.cons (hVw3.cell (k := 0) (by omega)) (RCells.nil _)))
 refine Y.pv F (X.load rfl (F.ev 12 (Vp w.heap.size)) (X.ld1 (Try.agg22 _) (hC.at 5 rfl))) ?_;clear F ac;intro ac F
 refine Y.pv F (X.len1 Try.underlying22 rfl (F.ev 13 (.slice ca p.nt cc))) ?_;clear F ac;intro ac F
 refine Y.pv F (X.move rfl (X.kc (Vi 0) rfl)) ?_;clear F ac;intro ac F
 refine Y.nt F [(0, Vi n), (2, Vp bx), (5, Vp w.heap.size), (14, Vi p.nt), (15, Vi 0)] ?_;clear F ac;intro ac F
 refine Y.block ?_
 refine Y.loop (fun me_ ac wr => ∃ i : Nat, me_ = p.nt - i ∧ i ≤ p.nt ∧ Gr w wr ∧ OwnP wr w.heap.size 4 (VL [.slice ca p.nt cc, .slice ha p.nh hc, .slice ba p.nb bc, .slice la p.nl lc]) ∧ TkR wr w3.heap.size p n ca i ∧ Fr ac 41 [(0, Vi n), (2, Vp bx), (5, Vp w.heap.size), (14, Vi p.nt), (15, Vi i)]) _ ⟨0, rfl, Nat.zero_le _, G, hVw3, hTk, F.sub _⟩ ?_
 clear F ac G hTk hVw3 hC
 intro me_ ac w6 hI
 obtain ⟨i, rfl, hi, G, hVw3, hTk, F⟩ := hI
 replace hpt := (hP.t).gr G
 replace hph := (hP.h).gr G
 replace hpb := (hP.b).gr G
 replace hpl := (hP.l).gr G
 replace hxs := (hX).gr G
 have hC := hq0.gr G
 refine Y.sg F [(0, Vi n), (2, Vp bx), (5, Vp w.heap.size), (14, Vi p.nt), (15, Vi i), (16, .bool (decide ((i : Int) < p.nt)))] (Y.pv F (X.binop rfl (F.ev 15 (Vi i)) (F.ev 14 (Vi p.nt)) (X.lssI Try.underlying3 rfl)) fun ac F=>Y.fin F) ?_;clear F ac;intro ac F
 refine Y.seq ?_
 cases h7 : decide ((i : Int) < p.nt) with
 | false =>
  try rw [h7] at F
  have h7p : ¬ ((i : Int) < p.nt) := of_decide_eq_false h7
  obtain rfl : i = p.nt := by omega
  have hPq : PbAt w6 (qT p n) ca ha ba la cc hc bc lc := ⟨tk_tb hTk hcc (by omega), hph, hpb, hpl, hP.s1, hP.s2⟩
  refine Y.condF (F.ev 16 (.bool false)) ?_
  refine Y.exit ?_
  refine X.thenX (X.thenX (X.blockX (X.thenN ?_)))
  refine Y.seq ?_
  replace hC : RCells w6 [(Ad bp 0, .slice ta p.nt tc), (Ad bp 1, .slice ha p.nh hc), (Ad bp 2, .slice ba p.nb bc), (Ad bp 3, .slice la p.nl lc), (Ad bx 0, .slice a xs.length c), (Ad w.heap.size 0, .slice ca p.nt cc)] := hC.append ((RCells.cons (hVw3.cell (k := 0) (by omega)) (RCells.nil _)))
  replace hC : RCells w6 [(Ad bp 0, .slice ta p.nt tc), (Ad bp 1, .slice ha p.nh hc), (Ad bp 2, .slice ba p.nb bc), (Ad bp 3, .slice la p.nl lc), (Ad bx 0, .slice a xs.length c), (Ad w.heap.size 0, .slice ca p.nt cc), (Ad w.heap.size 1, .slice ha p.nh hc)] := hC.append ((RCells.cons (hVw3.cell (k := 1) (by omega)) (RCells.nil _)))
  replace hC : RCells w6 [(Ad bp 0, .slice ta p.nt tc), (Ad bp 1, .slice ha p.nh hc), (Ad bp 2, .slice ba p.nb bc), (Ad bp 3, .slice la p.nl lc), (Ad bx 0, .slice a xs.length c), (Ad w.heap.size 0, .slice ca p.nt cc), (Ad w.heap.size 1, .slice ha p.nh hc), (Ad w.heap.size 2, .slice ba p.nb bc)] := hC.append ((RCells.cons (hVw3.cell (k := 2) (by omega)) (RCells.nil _)))
  replace hC : RCells w6 [(Ad bp 0, .slice ta p.nt tc), (Ad bp 1, .slice ha p.nh hc), (Ad bp 2, .slice ba p.nb bc), (Ad bp 3, .slice la p.nl lc), (Ad bx 0, .slice a xs.length c), (Ad w.heap.size 0, .slice ca p.nt cc), (Ad w.heap.size 1, .slice ha p.nh hc), (Ad w.heap.size 2, .slice ba p.nb bc), (Ad w.heap.size 3, .slice la p.nl lc)] := hC.append ((RCells.cons (hVw3.cell (k := 3) (by omega)) (RCells.nil _)))
  refine Y.region F [some (.agg #[.slice ca p.nt cc, .slice ha p.nh hc, .slice ba p.nb bc, .slice la p.nl lc]), some (.slice a xs.length c), some (.agg #[.slice ca p.nt cc, .slice ha p.nh hc, .slice ba p.nb bc, .slice la p.nl lc]), some (.slice a xs.length c), some (.agg (ldA (ldV (qT p n) xs xs.length)).toArray), some (.bool (hopeB p (hund p n) xs)), some (.bool (!(hopeB p (hund p n) xs))), some (.bool (!(hopeB p (hund p n) xs)))] [] rfl ⟨by kernel_rfl, of_decide_eq_true (by kernel_rfl), by kernel_rfl, by kernel_rfl, by kernel_rfl⟩ ⟨?_, ?_, ?_, ?_, ?_, ?_, ?_, ?_, trivial⟩ ?_
  ·intro ac done u W Sx hR
   have g : Gr w6 W := hR.1
   exact X.vl (X.load rfl (Sx.ev 5 (Vp w.heap.size)) (X.ldN (Try.agg27 _) (Try.siz27 _) (Y.atz (⟨w.heap.size, 0, none⟩) (Y.AtFrom.cons ((hC.gr g).at 5 rfl) (Y.AtFrom.cons ((hC.gr g).at 6 rfl) (Y.AtFrom.cons ((hC.gr g).at 7 rfl) (Y.AtFrom.cons ((hC.gr g).at 8 rfl) (Y.AtFrom.nil _ _ _)))))))) hR.st0
  ·intro ac done u W Sx hR
   have g : Gr w6 W := hR.1
   exact X.vl (X.load rfl (Sx.ev 2 (Vp bx)) (X.ld1 (Try.agg34 _) ((hC.gr g).at 4 rfl))) hR.st0
  ·intro ac done u W Sx hR
   have g : Gr w6 W := hR.1
   exact X.vl (X.load rfl (Sx.ev 5 (Vp w.heap.size)) (X.ldN (Try.agg27 _) (Try.siz27 _) (Y.atz (⟨w.heap.size, 0, none⟩) (Y.AtFrom.cons ((hC.gr g).at 5 rfl) (Y.AtFrom.cons ((hC.gr g).at 6 rfl) (Y.AtFrom.cons ((hC.gr g).at 7 rfl) (Y.AtFrom.cons ((hC.gr g).at 8 rfl) (Y.AtFrom.nil _ _ _)))))))) hR.st0
  ·intro ac done u W Sx hR
   have g : Gr w6 W := hR.1
   exact X.vl (X.load rfl (Sx.ev 2 (Vp bx)) (X.ld1 (Try.agg34 _) ((hC.gr g).at 4 rfl))) hR.st0
  ·intro ac done u W Sx hR
   have g : Gr w6 W := hR.1
   refine X.call (X.w0 rfl) (X.enter (F := 73) rfl (X.kc (.func (.func 73) #[] #[]) rfl) (X.a2 (Sx.ev 36 (.agg #[.slice ca p.nt cc, .slice ha p.nh hc, .slice ba p.nb bc, .slice la p.nl lc])) (Sx.ev 37 (.slice a xs.length c))) (enters_of Try.func73 (by kernel_rfl) rfl _)) (loaded_any (qT p n) ca ha ba la cc hc bc lc a xs.length c xs W (hPq.gr g) (hX.gr (G.trans g)) hq hlen hx) ?_
   rintro e W2 ⟨rfl, g2⟩
   exact ⟨_, rfl, X.kn rfl, hR.step g2 rfl⟩
  ·intro ac done u W Sx hR
   have g : Gr w6 W := hR.1
   refine X.call (X.w0 rfl) (X.enter (F := 72) rfl (X.kc (.func (.func 72) #[] #[]) rfl) (X.a3 (Sx.ev 34 (.agg #[.slice ca p.nt cc, .slice ha p.nh hc, .slice ba p.nb bc, .slice la p.nl lc])) (Sx.ev 35 (.slice a xs.length c)) (Sx.ev 38 (.agg (ldA (ldV (qT p n) xs xs.length)).toArray))) (enters_of Try.func72 (by kernel_rfl) rfl _)) (by have hq := hop_any (qT p n) ca ha ba la cc hc bc lc a c xs (ldV (qT p n) xs xs.length) W (hPq.gr g) (hX.gr (G.trans g)) hq hx hlen; rw [hope_ld (p := qT p n) hx, qT_hope] at hq; exact hq) ?_
   rintro e W2 ⟨rfl, g2⟩
   exact ⟨_, rfl, X.kn rfl, hR.step g2 rfl⟩
  ·intro ac done u W Sx hR
   exact X.vl (X.notB rfl (Sx.ev 39 (.bool (hopeB p (hund p n) xs))) rfl) hR.st0
  ·intro ac done u W Sx hR
   exact X.vl (X.assign rfl (Sx.ev 40 (.bool (!(hopeB p (hund p n) xs))))) hR.st0
  intro ac u w8 hs hd hl ho hR
  have g : Gr w6 w8 := hR.1
  replace F : Fr ac 41 [(4, .bool (!(hopeB p (hund p n) xs)))] := X.fr hs hd hl _ (by kernel_rfl)
  clear hs hd hl ho hR
  replace G := G.trans g
  replace hC := hC.gr g
  replace hpt := hpt.gr g
  replace hph := hph.gr g
  replace hpb := hpb.gr g
  replace hpl := hpl.gr g
  replace hxs := hxs.gr g
  replace hVw3 := hVw3.gr g
  clear g
  refine X.thenN ?_
  refine Y.ret ?_
  exact Y.ret0 (v := .bool (!(hopeB p (hund p n) xs))) F (Y.r1 F) ⟨rfl, G⟩
 | true =>
  try rw [h7] at F
  have h7p : ((i : Int) < p.nt) := of_decide_eq_true h7
  have hi2 : i < p.nt := by omega
  obtain ⟨g9, rfl, hBg, hTg⟩ : ∃ g, ca = some ⟨g, 0, none⟩ ∧ w3.heap.size ≤ g ∧ OwnP w6 g (p.nt * 4) (tkV p n i) := hTk.resolve_left (by omega)
  have hsm := hund_sm hck hn hi2
  refine Y.condT (F.ev 16 (.bool true)) ?_
  refine Y.skip ?_
  refine X.thenN ?_
  refine Y.seq ?_
  refine Y.block ?_
  refine Y.sg F [(0, Vi n), (2, Vp bx), (5, Vp w.heap.size), (6, Vi i), (14, Vi p.nt), (15, Vi i)] (Y.pv F (X.move rfl (F.ev 15 (Vi i))) fun ac F=>Y.pv F (X.assign rfl (F.ev 17 (Vi i))) fun ac F=>Y.fin F) ?_;clear F ac;intro ac F
  replace hC : RCells w6 [(Ad bp 0, .slice ta p.nt tc), (Ad bp 1, .slice ha p.nh hc), (Ad bp 2, .slice ba p.nb bc), (Ad bp 3, .slice la p.nl lc), (Ad bx 0, .slice a xs.length c), (Ad w.heap.size 0, .slice (some ⟨g9, 0, none⟩) p.nt cc)] := hC.append ((RCells.cons (hVw3.cell (k := 0) (by decide)) (RCells.nil _)))
  replace hC : RCells w6 [(Ad bp 0, .slice ta p.nt tc), (Ad bp 1, .slice ha p.nh hc), (Ad bp 2, .slice ba p.nb bc), (Ad bp 3, .slice la p.nl lc), (Ad bx 0, .slice a xs.length c), (Ad w.heap.size 0, .slice (some ⟨g9, 0, none⟩) p.nt cc), (⟨g9, i * 4 + 2, none⟩, Vi (p.tv i 2))] := hC.append ((RCells.cons ((hTg.cell (k := i * 4 + 2) (by omega)).trans (congrArg some tk_get)) (RCells.nil _)))
  refine Y.regionS F [some (Vp w.heap.size), some (.slice (some ⟨g9, 0, none⟩) p.nt cc), some (Vi i), some (Vp w.heap.size), some (.slice (some ⟨g9, 0, none⟩) p.nt cc), some (Vi i), some (.pointer (some ⟨g9, i * 4, none⟩)), some (.pointer (some ⟨g9, i * 4 + 2, none⟩)), some (Vi (p.tv i 2)), some (Vi n), some (Vi ((p.tv i 2 : Int) * n)), some (Vi (((p.tv i 2 : Int) * n : Int) + 99)), some (Vi ((((p.tv i 2 : Int) * n : Int) + 99 : Int) / 100)), some (.pointer (some ⟨g9, i * 4, none⟩)), some (.pointer (some ⟨g9, i * 4 + 2, none⟩)), none] [] 15 (fun _ W => Only (fun x => x = g9) w6 W ∧ OwnP W g9 (p.nt * 4) (tkV p n (i + 1))) rfl ⟨by kernel_rfl, of_decide_eq_true (by kernel_rfl), by kernel_rfl, by kernel_rfl, by kernel_rfl⟩ (of_decide_eq_true (by kernel_rfl)) ⟨?_, ?_, ?_, ?_, ?_, ?_, ?_, ?_, ?_, ?_, ?_, ?_, ?_, ?_, ?_, ?_, trivial⟩ ?_
  ·intro ac done u W Sx hT
   have hs := Sx.no 15 (by kernel_rfl)
   have hR := hT.1 hs
   have g : Gr w6 W := hR.1
   exact X.vl (X.field rfl (Sx.ev 5 (Vp w.heap.size)) (X.fld Try.underlying27 rfl (Try.siz22 _) rfl rfl)) (Y.RT.of hs rfl hR.st0)
  ·intro ac done u W Sx hT
   have hs := Sx.no 15 (by kernel_rfl)
   have hR := hT.1 hs
   have g : Gr w6 W := hR.1
   exact X.vl (X.load rfl (Sx.ev 18 (Vp w.heap.size)) (X.ld1 (Try.agg22 _) ((hC.gr g).at 5 rfl))) (Y.RT.of hs rfl hR.st0)
  ·intro ac done u W Sx hT
   have hs := Sx.no 15 (by kernel_rfl)
   have hR := hT.1 hs
   have g : Gr w6 W := hR.1
   exact X.vl (X.move rfl (Sx.ev 6 (Vi i))) (Y.RT.of hs rfl hR.st0)
  ·intro ac done u W Sx hT
   have hs := Sx.no 15 (by kernel_rfl)
   have hR := hT.1 hs
   have g : Gr w6 W := hR.1
   exact X.vl (X.field rfl (Sx.ev 5 (Vp w.heap.size)) (X.fld Try.underlying27 rfl (Try.siz22 _) rfl rfl)) (Y.RT.of hs rfl hR.st0)
  ·intro ac done u W Sx hT
   have hs := Sx.no 15 (by kernel_rfl)
   have hR := hT.1 hs
   have g : Gr w6 W := hR.1
   exact X.vl (X.load rfl (Sx.ev 21 (Vp w.heap.size)) (X.ld1 (Try.agg22 _) ((hC.gr g).at 5 rfl))) (Y.RT.of hs rfl hR.st0)
  ·intro ac done u W Sx hT
   have hs := Sx.no 15 (by kernel_rfl)
   have hR := hT.1 hs
   have g : Gr w6 W := hR.1
   exact X.vl (X.move rfl (Sx.ev 6 (Vi i))) (Y.RT.of hs rfl hR.st0)
  ·intro ac done u W Sx hT
   have hs := Sx.no 15 (by kernel_rfl)
   have hR := hT.1 hs
   have g : Gr w6 W := hR.1
   exact X.vl (X.index rfl (Sx.ev 22 (.slice (some ⟨g9, 0, none⟩) p.nt cc)) (Sx.ev 23 (Vi i)) (X.idx (k := i) Try.underlying22 (Try.siz74 _) (by omega) (by omega) (addr_add0 _ _))) (Y.RT.of hs rfl hR.st0)
  ·intro ac done u W Sx hT
   have hs := Sx.no 15 (by kernel_rfl)
   have hR := hT.1 hs
   have g : Gr w6 W := hR.1
   exact X.vl (X.field rfl (Sx.ev 24 (.pointer (some ⟨g9, i * 4, none⟩))) (X.fld Try.underlying74 rfl (Try.siz3 _) rfl rfl)) (Y.RT.of hs rfl hR.st0)
  ·intro ac done u W Sx hT
   have hs := Sx.no 15 (by kernel_rfl)
   have hR := hT.1 hs
   have g : Gr w6 W := hR.1
   exact X.vl (X.load rfl (Sx.ev 25 (.pointer (some ⟨g9, i * 4 + 2, none⟩))) (X.ld1 (Try.agg3 _) ((hC.gr g).at 6 rfl))) (Y.RT.of hs rfl hR.st0)
  ·intro ac done u W Sx hT
   have hs := Sx.no 15 (by kernel_rfl)
   have hR := hT.1 hs
   have g : Gr w6 W := hR.1
   exact X.vl (X.move rfl (Sx.ev 0 (Vi n))) (Y.RT.of hs rfl hR.st0)
  ·intro ac done u W Sx hT
   have hs := Sx.no 15 (by kernel_rfl)
   have hR := hT.1 hs
   have g : Gr w6 W := hR.1
   exact X.vl (X.binop rfl (Sx.ev 26 (Vi (p.tv i 2))) (Sx.ev 27 (Vi n)) (X.mulI Try.underlying3 rfl (by omega) (by omega))) (Y.RT.of hs rfl hR.st0)
  ·intro ac done u W Sx hT
   have hs := Sx.no 15 (by kernel_rfl)
   have hR := hT.1 hs
   have g : Gr w6 W := hR.1
   exact X.vl (X.binop rfl (Sx.ev 28 (Vi ((p.tv i 2 : Int) * n))) (X.kc (Vi 99) rfl) (X.addI Try.underlying3 rfl (by omega) (by omega))) (Y.RT.of hs rfl hR.st0)
  ·intro ac done u W Sx hT
   have hs := Sx.no 15 (by kernel_rfl)
   have hR := hT.1 hs
   have g : Gr w6 W := hR.1
   exact X.vl (X.binop rfl (Sx.ev 29 (Vi (((p.tv i 2 : Int) * n : Int) + 99))) (X.kc (Vi 100) rfl) (X.quoI Try.underlying3 rfl (by omega) (by omega))) (Y.RT.of hs rfl hR.st0)
  ·intro ac done u W Sx hT
   have hs := Sx.no 15 (by kernel_rfl)
   have hR := hT.1 hs
   have g : Gr w6 W := hR.1
   exact X.vl (X.index rfl (Sx.ev 19 (.slice (some ⟨g9, 0, none⟩) p.nt cc)) (Sx.ev 20 (Vi i)) (X.idx (k := i) Try.underlying22 (Try.siz74 _) (by omega) (by omega) (addr_add0 _ _))) (Y.RT.of hs rfl hR.st0)
  ·intro ac done u W Sx hT
   have hs := Sx.no 15 (by kernel_rfl)
   have hR := hT.1 hs
   have g : Gr w6 W := hR.1
   exact X.vl (X.field rfl (Sx.ev 31 (.pointer (some ⟨g9, i * 4, none⟩))) (X.fld Try.underlying74 rfl (Try.siz3 _) rfl rfl)) (Y.RT.of hs rfl hR.st0)
  ·intro ac done u W Sx hT
   have hR := hT.1 Sx.nd
   have g : Gr w6 W := hR.1
   have hV2 := ((hTg.gr g).set (k := i * 4 + 2) (Vi ((p.tv i 2 * n + 99) / 100))).congr (val' := tkV p n (i + 1)) (fun k _ => tk_set k)
   exact X.unit (X.w0 rfl) rfl (X.store rfl (Sx.ev 32 (.pointer (some ⟨g9, i * 4 + 2, none⟩))) (Sx.ev 30 (Vi ((((p.tv i 2 : Int) * n : Int) + 99 : Int) / 100))) ((hTg.gr g).st1 (Try.siz3 _) rfl rfl (by omega))) (Y.RT.fin ⟨(g.only _).trans (Y.set_only _ _ _ _), hV2⟩)
  rintro ac u w9 hs hd hl_ ho ⟨hon, hV2⟩
  replace F : Fr ac 41 [(0, Vi n), (2, Vp bx), (5, Vp w.heap.size), (14, Vi p.nt), (15, Vi i)] := X.fr hs hd hl_ _ (by kernel_rfl)
  clear hs hd hl_ ho
  replace G := Y.Only.up G hon (by omega)
  replace hTk : TkR w9 w3.heap.size p n (some ⟨g9, 0, none⟩) (i + 1) := .inr ⟨g9, rfl, hBg, hV2⟩
  replace hVw3 := hVw3.only hon (by show ¬ _ = _; omega)
  clear hTg hV2 hC
  replace hpt := (hP.t).gr G
  replace hph := (hP.h).gr G
  replace hpb := (hP.b).gr G
  replace hpl := (hP.l).gr G
  replace hxs := (hX).gr G
  have hC := hq0.gr G
  clear hon
  refine X.blockN (X.thenN ?_)
  refine Y.lg F [(0, Vi n), (2, Vp bx), (5, Vp w.heap.size), (14, Vi p.nt), (15, Vi ((i : Int) + 1))] (by
   refine Y.pv F (X.binop rfl (F.ev 15 (Vi i)) (X.kc (Vi 1) rfl) (X.addI Try.underlying3 rfl (by omega) (by omega))) fun ac F=>?_
   refine Y.pv F (X.move rfl (F.ev 33 (Vi ((i : Int) + 1)))) fun ac F=>?_
   exact Y.fin F) ?_;clear F ac;intro ac F
  refine ⟨_, ?_, i + 1, rfl, by omega, G, hVw3, hTk, F.sub _⟩
  omega
end
section
open Go.RowKit
end
section
open Go.RowKit

set_option maxRecDepth 100000 in
set_option maxHeartbeats 1000000 in
theorem begin_any (p : Pb) (ta ha ba la : Option Addr) (tc hc bc lc : Nat) (a : Option Addr) (c : Nat) (xs : List Int) (w : World) (hP : PbAt w p ta ha ba la tc hc bc lc) (hX : Ints w a xs.length xs) :
  Calls Try.prog 78 #[.agg #[.slice ta p.nt tc, .slice ha p.nh hc, .slice ba p.nb bc, .slice la p.nl lc], .slice a xs.length c] w fun e w' => e = .returned (Vi (begE p xs)) ∧ Gr w w' := by
 have G := Gr.refl w
 have hpt := hP.t
 have hph := hP.h
 have hpb := hP.b
 have hpl := hP.l
 have hplen := hP.len
 obtain ⟨hn1, hn2, hn3, hn4⟩ := hplen
 have hcp1 := hpt.cap
 have hcp2 := hph.cap
 have hcp3 := hpb.cap
 have hcp4 := hpl.cap
 have hxs := hX
 have hlt := hxs.lt
 refine Y.calls 31 Try.func78 rfl rfl ?_
 intro ac F0
 have F : Fr ac 31 [(0, .agg #[.slice ta p.nt tc, .slice ha p.nh hc, .slice ba p.nb bc, .slice la p.nl lc]), (1, .slice a xs.length c)] := F0.sub _
 clear F0
 refine Y.sl ?_
 have hgs3 : w.heap.size ≤ w.heap.size := G.size
 refine Y.pv F (X.box rfl (F.ev 0 (.agg #[.slice ta p.nt tc, .slice ha p.nh hc, .slice ba p.nb bc, .slice la p.nl lc])) X.bx) ?_;clear F ac;intro ac F
 have hgs5 : w.heap.size ≤ w.heap.size := G.size
 have g := Gr.alloc w (.cells #[.slice ta p.nt tc, .slice ha p.nh hc, .slice ba p.nb bc, .slice la p.nl lc] 27)
 have hb := heap_alloc_new w (.cells #[.slice ta p.nt tc, .slice ha p.nh hc, .slice ba p.nb bc, .slice la p.nl lc] 27)
 have hbl : w.heap.size < (w.alloc (.cells #[.slice ta p.nt tc, .slice ha p.nh hc, .slice ba p.nb bc, .slice la p.nl lc] 27)).heap.size := by simp
 have hC2 : RCells (w.alloc (.cells #[.slice ta p.nt tc, .slice ha p.nh hc, .slice ba p.nb bc, .slice la p.nl lc] 27)) [(Ad w.heap.size 0, .slice ta p.nt tc), (Ad w.heap.size 1, .slice ha p.nh hc), (Ad w.heap.size 2, .slice ba p.nb bc), (Ad w.heap.size 3, .slice la p.nl lc)] := (RCells.nil w).box (b := w.heap.size) #[.slice ta p.nt tc, .slice ha p.nh hc, .slice ba p.nb bc, .slice la p.nl lc] 27 rfl
 generalize w.alloc (.cells #[.slice ta p.nt tc, .slice ha p.nh hc, .slice ba p.nb bc, .slice la p.nl lc] 27) = w6 at *
 replace G := G.trans g
 have hC := hC2
 clear hC2
 replace hpt := hpt.gr g
 replace hph := hph.gr g
 replace hpb := hpb.gr g
 replace hpl := hpl.gr g
 replace hxs := hxs.gr g
 have hsz4 := hbl
 clear g hb hbl
 refine Y.pv F (X.assign rfl (X.kc (Vi 0) rfl)) ?_;clear F ac;intro ac F
 refine Y.nt F [(1, .slice a xs.length c), (2, Vp w.heap.size)] ?_;clear F ac;intro ac F
 refine Y.sl ?_
 refine Y.pv F (X.load rfl (F.ev 2 (Vp w.heap.size)) (X.ldN (Try.agg27 _) (Try.siz27 _) (Y.atz (⟨w.heap.size, 0, none⟩) (Y.AtFrom.cons (hC.at 0 rfl) (Y.AtFrom.cons (hC.at 1 rfl) (Y.AtFrom.cons (hC.at 2 rfl) (Y.AtFrom.cons (hC.at 3 rfl) (Y.AtFrom.nil _ _ _)))))))) ?_;clear F ac;intro ac F
 refine Y.pc F 19 (X.a1 (F.ev 7 (.agg #[.slice ta p.nt tc, .slice ha p.nh hc, .slice ba p.nb bc, .slice la p.nl lc]))) Try.func19 (check2_any p ta ha ba la tc hc bc lc w6 (hP.gr G)) ?_
 clear F ac
 rintro e w7 ⟨rfl, g⟩
 refine ⟨_, rfl, ?_⟩
 intro ac F
 replace G := G.trans g
 replace hC := hC.gr g
 replace hpt := hpt.gr g
 replace hph := hph.gr g
 replace hpb := hpb.gr g
 replace hpl := hpl.gr g
 replace hxs := hxs.gr g
 clear g
 refine Y.pv F (X.assign rfl (F.ev 8 (Vi (chkE p)))) ?_;clear F ac;intro ac F
 refine Y.nt F [(1, .slice a xs.length c), (2, Vp w.heap.size), (5, Vi (chkE p))] ?_;clear F ac;intro ac F
 refine Y.seq ?_
 refine Y.sg F [(1, .slice a xs.length c), (2, Vp w.heap.size), (5, Vi (chkE p)), (10, .bool ((chkE p : Int) != 0))] (Y.pv F (X.move rfl (F.ev 5 (Vi (chkE p)))) fun ac F=>Y.pv F (X.binop rfl (F.ev 9 (Vi (chkE p))) (X.kc (Vi 0) rfl) (X.neqI Try.underlying31 rfl)) fun ac F=>Y.fin F) ?_;clear F ac;intro ac F
 cases h8 : ((chkE p : Int) != 0) with
 | false =>
  try rw [h8] at F
  have h8p : (chkE p : Int) = 0 := by simpa using h8
  refine Y.condF (F.ev 10 (.bool false)) ?_
  refine Y.skip ?_
  refine X.thenN ?_
  refine Y.seq ?_
  refine Y.sg F [(1, .slice a xs.length c), (2, Vp w.heap.size), (17, .bool (decide ((p.nt : Int) < xs.length)))] (by
   refine Y.pv F (X.move rfl (F.ev 1 (.slice a xs.length c))) fun ac F=>?_
   refine Y.pv F (X.len1 Try.underlying34 rfl (F.ev 12 (.slice a xs.length c))) fun ac F=>?_
   refine Y.pv F (X.field rfl (F.ev 2 (Vp w.heap.size)) (X.fld Try.underlying27 rfl (Try.siz22 _) rfl rfl)) fun ac F=>?_
   refine Y.pv F (X.load rfl (F.ev 14 (Vp w.heap.size)) (X.ld1 (Try.agg22 _) (hC.at 0 rfl))) fun ac F=>?_
   refine Y.pv F (X.len1 Try.underlying22 rfl (F.ev 15 (.slice ta p.nt tc))) fun ac F=>?_
   refine Y.pv F (X.binop rfl (F.ev 13 (Vi xs.length)) (F.ev 16 (Vi p.nt)) (X.gtrI Try.underlying3 rfl)) fun ac F=>?_
   exact Y.fin F) ?_;clear F ac;intro ac F
  cases h9 : decide ((p.nt : Int) < xs.length) with
  | false =>
   try rw [h9] at F
   have h9p : ¬ ((p.nt : Int) < xs.length) := of_decide_eq_false h9
   refine Y.condF (F.ev 17 (.bool false)) ?_
   refine Y.skip ?_
   refine X.thenN ?_
   refine Y.seq ?_
   refine Y.sg F [(1, .slice a xs.length c), (2, Vp w.heap.size), (6, Vi 0)] (Y.pv F (X.assign rfl (X.kc (Vi 0) rfl)) fun ac F=>Y.fin F) ?_;clear F ac;intro ac F
   refine Y.block ?_
   refine Y.loop (fun me_ ac wr => ∃ (i : Nat), me_ = xs.length - i ∧ Only (fun b => False) w7 wr ∧ i ≤ xs.length ∧ allN (fun i => isH p (xg xs i)) i = true ∧ Fr ac 31 [(1, .slice a xs.length c), (2, Vp w.heap.size), (6, Vi i)]) _ ⟨0, rfl, Only.refl _ _, Nat.zero_le _, rfl, F.sub _⟩ ?_
   have hptB1 := hpt
   have hphB1 := hph
   have hpbB1 := hpb
   have hplB1 := hpl
   have hxsB1 := hxs
   have GB1 := G
   have hCB1 := hC
   clear F ac
   intro me_ ac w10 hI
   obtain ⟨i, rfl, hO1, hi0, hok, F⟩ := hI
   replace G := GB1.trans (hO1.gr (fun _ _ h => h))
   replace hpt := (hP.t).gr G
   replace hph := (hP.h).gr G
   replace hpb := (hP.b).gr G
   replace hpl := (hP.l).gr G
   replace hxs := (hX).gr G
   replace hC := (RCells.cons (hO1.cell (hCB1.at 0 rfl) (fun h => h)) (RCells.cons (hO1.cell (hCB1.at 1 rfl) (fun h => h)) (RCells.cons (hO1.cell (hCB1.at 2 rfl) (fun h => h)) (RCells.cons (hO1.cell (hCB1.at 3 rfl) (fun h => h)) (RCells.nil _)))))
   refine Y.seq ?_
   refine Y.sg F [(1, .slice a xs.length c), (2, Vp w.heap.size), (6, Vi i), (21, .bool (decide ((i : Int) < xs.length)))] (Y.pv F (X.move rfl (F.ev 6 (Vi i))) fun ac F=>Y.pv F (X.move rfl (F.ev 1 (.slice a xs.length c))) fun ac F=>Y.pv F (X.len1 Try.underlying34 rfl (F.ev 19 (.slice a xs.length c))) fun ac F=>Y.pv F (X.binop rfl (F.ev 18 (Vi i)) (F.ev 20 (Vi xs.length)) (X.lssI Try.underlying3 rfl)) fun ac F=>Y.fin F) ?_;clear F ac;intro ac F
   cases h11 : decide ((i : Int) < xs.length) with
   | false =>
    try rw [h11] at F
    have h11p : ¬ ((i : Int) < xs.length) := of_decide_eq_false h11
    obtain rfl : i = xs.length := by omega
    refine Y.condF (F.ev 21 (.bool false)) ?_
    refine Y.exit ?_
    refine X.thenX (X.thenX (X.blockX (X.thenN ?_)))
    refine Y.sg F [(4, Vi 0)] (Y.pv F (X.assign rfl (X.kc (Vi 0) rfl)) fun ac F=>Y.fin F) ?_;clear F ac;intro ac F
    refine Y.ret ?_
    exact Y.ret0 (v := Vi 0) F (Y.r1 F) ⟨by rw [beg_3 (by omega) (by omega) hok], G⟩
   | true =>
    try rw [h11] at F
    have h11p : ((i : Int) < xs.length) := of_decide_eq_true h11
    have hi : i < xs.length := by omega
    refine Y.condT (F.ev 21 (.bool true)) ?_
    refine Y.skip ?_
    refine X.thenN ?_
    refine Y.seq ?_
    refine Y.block ?_
    refine Y.seq ?_
    obtain ⟨pd12, pe12, -, pc12⟩ := hxs.at (j := i) (by omega)
    subst pe12
    replace hC : RCells w10 [(Ad w.heap.size 0, .slice ta p.nt tc), (Ad w.heap.size 1, .slice ha p.nh hc), (Ad w.heap.size 2, .slice ba p.nb bc), (Ad w.heap.size 3, .slice la p.nl lc), (pd12.add i, Vi (xs[i]?.getD 0))] := hC.append ((RCells.cons pc12 (RCells.nil _)))
    clear pc12
    refine Y.region F [some (.agg #[.slice ta p.nt tc, .slice ha p.nh hc, .slice ba p.nb bc, .slice la p.nl lc]), some (.slice (some pd12) xs.length c), some (Vi i), some (.pointer (some (pd12.add i))), some (Vi (xs[i]?.getD 0)), some (.bool (isH p (xs[i]?.getD 0))), some (.bool (!(isH p (xs[i]?.getD 0))))] [] rfl ⟨by kernel_rfl, of_decide_eq_true (by kernel_rfl), by kernel_rfl, by kernel_rfl, by kernel_rfl⟩ ⟨?_, ?_, ?_, ?_, ?_, ?_, ?_, trivial⟩ ?_
    ·intro ac done u W Sx hR
     have g : Gr w10 W := hR.1
     exact X.vl (X.load rfl (Sx.ev 2 (Vp w.heap.size)) (X.ldN (Try.agg27 _) (Try.siz27 _) (Y.atz (⟨w.heap.size, 0, none⟩) (Y.AtFrom.cons ((hC.gr g).at 0 rfl) (Y.AtFrom.cons ((hC.gr g).at 1 rfl) (Y.AtFrom.cons ((hC.gr g).at 2 rfl) (Y.AtFrom.cons ((hC.gr g).at 3 rfl) (Y.AtFrom.nil _ _ _)))))))) hR.st0
    ·intro ac done u W Sx hR
     exact X.vl (X.move rfl (Sx.ev 1 (.slice (some pd12) xs.length c))) hR.st0
    ·intro ac done u W Sx hR
     exact X.vl (X.move rfl (Sx.ev 6 (Vi i))) hR.st0
    ·intro ac done u W Sx hR
     exact X.val (X.w0 rfl) rfl (X.index rfl (Sx.ev 25 (.slice (some pd12) xs.length c)) (Sx.ev 26 (Vi i)) (X.idx (k := i) Try.underlying34 (Try.siz3 _) (by omega) (by omega) (by rw [Nat.mul_one]))) hR.st0
    ·intro ac done u W Sx hR
     have g : Gr w10 W := hR.1
     exact X.vl (X.load rfl (Sx.ev 27 (.pointer (some (pd12.add i)))) (X.ld1 (Try.agg3 _) ((hC.gr g).at 4 rfl))) hR.st0
    ·intro ac done u W Sx hR
     refine X.call (X.w0 rfl) (X.enter (F := 62) rfl (X.kc (.func (.func 62) #[] #[]) rfl) (X.a2 (Sx.ev 24 (.agg #[.slice ta p.nt tc, .slice ha p.nh hc, .slice ba p.nb bc, .slice la p.nl lc])) (Sx.ev 28 (Vi (xs[i]?.getD 0)))) (enters_of Try.func62 (by kernel_rfl) rfl _)) (isHost_any p ta ha ba la tc hc bc lc (xs[i]?.getD 0) W) ?_
     rintro e W2 ⟨rfl, g2⟩
     exact ⟨_, rfl, X.kn rfl, hR.step g2 rfl⟩
    ·intro ac done u W Sx hR
     exact X.vl (X.notB rfl (Sx.ev 29 (.bool (isH p (xs[i]?.getD 0)))) rfl) hR.st0
    intro ac u w13 hs hd hl ho hR
    have g : Gr w10 w13 := hR.1
    replace F : Fr ac 31 [(1, .slice (some pd12) xs.length c), (2, Vp w.heap.size), (6, Vi i), (30, .bool (!(isH p (xs[i]?.getD 0))))] := X.fr hs hd hl _ (by kernel_rfl)
    clear hs hd hl ho hR
    replace G := G.trans g
    replace hC := hC.gr g
    replace hO1 := hO1.thenGr g
    replace hpt := hpt.gr g
    replace hph := hph.gr g
    replace hpb := hpb.gr g
    replace hpl := hpl.gr g
    replace hxs := hxs.gr g
    clear g
    refine X.thenN ?_
    cases h14 : isH p (xs[i]?.getD 0) with
    | false =>
     try rw [h14] at F
     refine Y.condT (F.ev 30 (.bool true)) ?_
     refine Y.sg F [(4, Vi 33)] (Y.pv F (X.assign rfl (X.kc (Vi 33) rfl)) fun ac F=>Y.fin F) ?_;clear F ac;intro ac F
     refine Y.ret ?_
     refine X.blockR (X.thenR (X.thenR (X.blockR (X.thenR ?_))))
     exact Y.ret0 (v := Vi 33) F (Y.r1 F) ⟨by rw [beg_2 (by omega) (.inr (allN_false hi h14))], G⟩
    | true =>
     try rw [h14] at F
     refine Y.condF (F.ev 30 (.bool false)) ?_
     refine Y.skip ?_
     refine X.blockN (X.thenN ?_)
     refine Y.lg F [(1, .slice (some pd12) xs.length c), (2, Vp w.heap.size), (6, Vi ((i : Int) + 1))] (by
      refine Y.pv F (X.move rfl (F.ev 6 (Vi i))) fun ac F=>?_
      refine Y.pv F (X.binop rfl (F.ev 22 (Vi i)) (X.kc (Vi 1) rfl) (X.addI Try.underlying3 rfl (by omega) (by omega))) fun ac F=>?_
      refine Y.pv F (X.assign rfl (F.ev 23 (Vi ((i : Int) + 1)))) fun ac F=>?_
      exact Y.fin F) ?_;clear F ac;intro ac F
     refine ⟨_, ?_, i + 1, rfl, hO1, by omega, allN_succ hok h14, F.sub _⟩
     omega
  | true =>
   try rw [h9] at F
   have h9p : ((p.nt : Int) < xs.length) := of_decide_eq_true h9
   refine Y.condT (F.ev 17 (.bool true)) ?_
   refine Y.sg F [(4, Vi 33)] (Y.pv F (X.assign rfl (X.kc (Vi 33) rfl)) fun ac F=>Y.fin F) ?_;clear F ac;intro ac F
   refine Y.ret ?_
   refine X.thenR ?_
   exact Y.ret0 (v := Vi 33) F (Y.r1 F) ⟨by rw [beg_2 (by omega) (.inl (by omega))], G⟩
 | true =>
  try rw [h8] at F
  have h8p : ¬ (chkE p : Int) = 0 := by simpa using h8
  refine Y.condT (F.ev 10 (.bool true)) ?_
  refine Y.sg F [(4, Vi (chkE p))] (Y.pv F (X.move rfl (F.ev 5 (Vi (chkE p)))) fun ac F=>Y.pv F (X.assign rfl (F.ev 11 (Vi (chkE p)))) fun ac F=>Y.fin F) ?_;clear F ac;intro ac F
  refine Y.ret ?_
  refine X.thenR ?_
  exact Y.ret0 (v := Vi (chkE p)) F (Y.r1 F) ⟨by rw [show begE p xs = chkE p from if_pos (by omega)], G⟩
set_option maxRecDepth 100000 in
set_option maxHeartbeats 1000000 in
theorem whole_any (p : Pb) (ta ha ba la : Option Addr) (tc hc bc lc : Nat) (a : Option Addr) (c : Nat) (xs : List Int) (w : World) (hP : PbAt w p ta ha ba la tc hc bc lc) (hX : Ints w a xs.length xs) :
  Calls Try.prog 74 #[.agg #[.slice ta p.nt tc, .slice ha p.nh hc, .slice ba p.nb bc, .slice la p.nl lc], .slice a xs.length c] w fun e w' => e = .returned (Vi (whoE p xs)) ∧ Gr w w' := by
 have G := Gr.refl w
 have hpt := hP.t
 have hph := hP.h
 have hpb := hP.b
 have hpl := hP.l
 have hplen := hP.len
 obtain ⟨hn1, hn2, hn3, hn4⟩ := hplen
 have hcp1 := hpt.cap
 have hcp2 := hph.cap
 have hcp3 := hpb.cap
 have hcp4 := hpl.cap
 have hxs := hX
 have hlt := hxs.lt
 refine Y.calls 18 Try.func74 rfl rfl ?_
 intro ac F0
 have F : Fr ac 18 [(0, .agg #[.slice ta p.nt tc, .slice ha p.nh hc, .slice ba p.nb bc, .slice la p.nl lc]), (1, .slice a xs.length c)] := F0.sub _
 clear F0
 refine Y.sl ?_
 have hgs3 : w.heap.size ≤ w.heap.size := G.size
 refine Y.pv F (X.box rfl (F.ev 0 (.agg #[.slice ta p.nt tc, .slice ha p.nh hc, .slice ba p.nb bc, .slice la p.nl lc])) X.bx) ?_;clear F ac;intro ac F
 have hgs5 : w.heap.size ≤ w.heap.size := G.size
 have g := Gr.alloc w (.cells #[.slice ta p.nt tc, .slice ha p.nh hc, .slice ba p.nb bc, .slice la p.nl lc] 27)
 have hb := heap_alloc_new w (.cells #[.slice ta p.nt tc, .slice ha p.nh hc, .slice ba p.nb bc, .slice la p.nl lc] 27)
 have hbl : w.heap.size < (w.alloc (.cells #[.slice ta p.nt tc, .slice ha p.nh hc, .slice ba p.nb bc, .slice la p.nl lc] 27)).heap.size := by simp
 have hC2 : RCells (w.alloc (.cells #[.slice ta p.nt tc, .slice ha p.nh hc, .slice ba p.nb bc, .slice la p.nl lc] 27)) [(Ad w.heap.size 0, .slice ta p.nt tc), (Ad w.heap.size 1, .slice ha p.nh hc), (Ad w.heap.size 2, .slice ba p.nb bc), (Ad w.heap.size 3, .slice la p.nl lc)] := (RCells.nil w).box (b := w.heap.size) #[.slice ta p.nt tc, .slice ha p.nh hc, .slice ba p.nb bc, .slice la p.nl lc] 27 rfl
 generalize w.alloc (.cells #[.slice ta p.nt tc, .slice ha p.nh hc, .slice ba p.nb bc, .slice la p.nl lc] 27) = w6 at *
 replace G := G.trans g
 have hC := hC2
 clear hC2
 replace hpt := hpt.gr g
 replace hph := hph.gr g
 replace hpb := hpb.gr g
 replace hpl := hpl.gr g
 replace hxs := hxs.gr g
 have hsz4 := hbl
 clear g hb hbl
 refine Y.pv F (X.assign rfl (X.kc (Vi 0) rfl)) ?_;clear F ac;intro ac F
 refine Y.nt F [(1, .slice a xs.length c), (2, Vp w.heap.size)] ?_;clear F ac;intro ac F
 refine Y.sl ?_
 refine Y.pv F (X.load rfl (F.ev 2 (Vp w.heap.size)) (X.ldN (Try.agg27 _) (Try.siz27 _) (Y.atz (⟨w.heap.size, 0, none⟩) (Y.AtFrom.cons (hC.at 0 rfl) (Y.AtFrom.cons (hC.at 1 rfl) (Y.AtFrom.cons (hC.at 2 rfl) (Y.AtFrom.cons (hC.at 3 rfl) (Y.AtFrom.nil _ _ _)))))))) ?_;clear F ac;intro ac F
 refine Y.pv F (X.move rfl (F.ev 1 (.slice a xs.length c))) ?_;clear F ac;intro ac F
 refine Y.pc F 78 (X.a2 (F.ev 6 (.agg #[.slice ta p.nt tc, .slice ha p.nh hc, .slice ba p.nb bc, .slice la p.nl lc])) (F.ev 7 (.slice a xs.length c))) Try.func78 (begin_any p ta ha ba la tc hc bc lc a c xs w6 (hP.gr G) (hX.gr G)) ?_
 clear F ac
 rintro e w7 ⟨rfl, g⟩
 refine ⟨_, rfl, ?_⟩
 intro ac F
 replace G := G.trans g
 replace hC := hC.gr g
 replace hpt := hpt.gr g
 replace hph := hph.gr g
 replace hpb := hpb.gr g
 replace hpl := hpl.gr g
 replace hxs := hxs.gr g
 clear g
 refine Y.pv F (X.assign rfl (F.ev 8 (Vi (begE p xs)))) ?_;clear F ac;intro ac F
 refine Y.nt F [(1, .slice a xs.length c), (2, Vp w.heap.size), (5, Vi (begE p xs))] ?_;clear F ac;intro ac F
 refine Y.seq ?_
 refine Y.sg F [(1, .slice a xs.length c), (2, Vp w.heap.size), (5, Vi (begE p xs)), (10, .bool ((begE p xs : Int) != 0))] (Y.pv F (X.move rfl (F.ev 5 (Vi (begE p xs)))) fun ac F=>Y.pv F (X.binop rfl (F.ev 9 (Vi (begE p xs))) (X.kc (Vi 0) rfl) (X.neqI Try.underlying31 rfl)) fun ac F=>Y.fin F) ?_;clear F ac;intro ac F
 cases h8 : ((begE p xs : Int) != 0) with
 | false =>
  try rw [h8] at F
  have h8p : (begE p xs : Int) = 0 := by simpa using h8
  refine Y.condF (F.ev 10 (.bool false)) ?_
  refine Y.skip ?_
  refine X.thenN ?_
  refine Y.seq ?_
  refine Y.sg F [(17, .bool (decide ((xs.length : Int) < p.nt)))] (by
   refine Y.pv F (X.move rfl (F.ev 1 (.slice a xs.length c))) fun ac F=>?_
   refine Y.pv F (X.len1 Try.underlying34 rfl (F.ev 12 (.slice a xs.length c))) fun ac F=>?_
   refine Y.pv F (X.field rfl (F.ev 2 (Vp w.heap.size)) (X.fld Try.underlying27 rfl (Try.siz22 _) rfl rfl)) fun ac F=>?_
   refine Y.pv F (X.load rfl (F.ev 14 (Vp w.heap.size)) (X.ld1 (Try.agg22 _) (hC.at 0 rfl))) fun ac F=>?_
   refine Y.pv F (X.len1 Try.underlying22 rfl (F.ev 15 (.slice ta p.nt tc))) fun ac F=>?_
   refine Y.pv F (X.binop rfl (F.ev 13 (Vi xs.length)) (F.ev 16 (Vi p.nt)) (X.lssI Try.underlying3 rfl)) fun ac F=>?_
   exact Y.fin F) ?_;clear F ac;intro ac F
  cases h9 : decide ((xs.length : Int) < p.nt) with
  | false =>
   try rw [h9] at F
   have h9p : ¬ ((xs.length : Int) < p.nt) := of_decide_eq_false h9
   refine Y.condF (F.ev 17 (.bool false)) ?_
   refine Y.skip ?_
   refine X.thenN ?_
   refine Y.sg F [(4, Vi 0)] (Y.pv F (X.assign rfl (X.kc (Vi 0) rfl)) fun ac F=>Y.fin F) ?_;clear F ac;intro ac F
   refine Y.ret ?_
   exact Y.ret0 (v := Vi 0) F (Y.r1 F) ⟨by rw [who_3 (by omega) (by omega)], G⟩
  | true =>
   try rw [h9] at F
   have h9p : ((xs.length : Int) < p.nt) := of_decide_eq_true h9
   refine Y.condT (F.ev 17 (.bool true)) ?_
   refine Y.sg F [(4, Vi 33)] (Y.pv F (X.assign rfl (X.kc (Vi 33) rfl)) fun ac F=>Y.fin F) ?_;clear F ac;intro ac F
   refine Y.ret ?_
   refine X.thenR ?_
   exact Y.ret0 (v := Vi 33) F (Y.r1 F) ⟨by rw [who_2 (by omega) (by omega)], G⟩
 | true =>
  try rw [h8] at F
  have h8p : ¬ (begE p xs : Int) = 0 := by simpa using h8
  refine Y.condT (F.ev 10 (.bool true)) ?_
  refine Y.sg F [(4, Vi (begE p xs))] (Y.pv F (X.move rfl (F.ev 5 (Vi (begE p xs)))) fun ac F=>Y.pv F (X.assign rfl (F.ev 11 (Vi (begE p xs)))) fun ac F=>Y.fin F) ?_;clear F ac;intro ac F
  refine Y.ret ?_
  refine X.thenR ?_
  exact Y.ret0 (v := Vi (begE p xs)) F (Y.r1 F) ⟨by rw [who_1 (by omega)], G⟩
end
section
open Go.RowKit

set_option maxRecDepth 100000 in
set_option maxHeartbeats 1000000 in
theorem far_any (p : Pb) (ta ha ba la : Option Addr) (tc hc bc lc : Nat) (w : World) (hP : PbAt w p ta ha ba la tc hc bc lc) :
  Calls Try.prog 15 #[.agg #[.slice ta p.nt tc, .slice ha p.nh hc, .slice ba p.nb bc, .slice la p.nl lc]] w fun e w' => e = .returned (.bool (farB p)) ∧ Gr w w' := by
 have G := Gr.refl w
 have hpt := hP.t
 have hph := hP.h
 have hpb := hP.b
 have hpl := hP.l
 have hplen := hP.len
 obtain ⟨hn1, hn2, hn3, hn4⟩ := hplen
 have hcp1 := hpt.cap
 have hcp2 := hph.cap
 have hcp3 := hpb.cap
 have hcp4 := hpl.cap
 refine Y.calls 57 Try.func15 rfl rfl ?_
 intro ac F0
 have F : Fr ac 57 [(0, .agg #[.slice ta p.nt tc, .slice ha p.nh hc, .slice ba p.nb bc, .slice la p.nl lc])] := F0.sub _
 clear F0
 refine Y.sl ?_
 have hgs3 : w.heap.size ≤ w.heap.size := G.size
 refine Y.pv F (X.box rfl (F.ev 0 (.agg #[.slice ta p.nt tc, .slice ha p.nh hc, .slice ba p.nb bc, .slice la p.nl lc])) X.bx) ?_;clear F ac;intro ac F
 have hgs5 : w.heap.size ≤ w.heap.size := G.size
 have g := Gr.alloc w (.cells #[.slice ta p.nt tc, .slice ha p.nh hc, .slice ba p.nb bc, .slice la p.nl lc] 27)
 have hb := heap_alloc_new w (.cells #[.slice ta p.nt tc, .slice ha p.nh hc, .slice ba p.nb bc, .slice la p.nl lc] 27)
 have hbl : w.heap.size < (w.alloc (.cells #[.slice ta p.nt tc, .slice ha p.nh hc, .slice ba p.nb bc, .slice la p.nl lc] 27)).heap.size := by simp
 have hC2 : RCells (w.alloc (.cells #[.slice ta p.nt tc, .slice ha p.nh hc, .slice ba p.nb bc, .slice la p.nl lc] 27)) [(Ad w.heap.size 0, .slice ta p.nt tc), (Ad w.heap.size 1, .slice ha p.nh hc), (Ad w.heap.size 2, .slice ba p.nb bc), (Ad w.heap.size 3, .slice la p.nl lc)] := (RCells.nil w).box (b := w.heap.size) #[.slice ta p.nt tc, .slice ha p.nh hc, .slice ba p.nb bc, .slice la p.nl lc] 27 rfl
 generalize w.alloc (.cells #[.slice ta p.nt tc, .slice ha p.nh hc, .slice ba p.nb bc, .slice la p.nl lc] 27) = w6 at *
 replace G := G.trans g
 have hC := hC2
 clear hC2
 replace hpt := hpt.gr g
 replace hph := hph.gr g
 replace hpb := hpb.gr g
 replace hpl := hpl.gr g
 have hsz4 := hbl
 clear g hb hbl
 refine Y.pv F (X.assign rfl (X.kc (.bool false) rfl)) ?_;clear F ac;intro ac F
 refine Y.nt F [(1, Vp w.heap.size)] ?_;clear F ac;intro ac F
 refine Y.seq ?_
 refine Y.sl ?_
 refine Y.pv F (X.field rfl (F.ev 1 (Vp w.heap.size)) (X.fld Try.underlying27 rfl (Try.siz22 _) rfl rfl)) ?_;clear F ac;intro ac F
 refine Y.pv F (X.load rfl (F.ev 5 (Vp w.heap.size)) (X.ld1 (Try.agg22 _) (hC.at 0 rfl))) ?_;clear F ac;intro ac F
 refine Y.pv F (X.len1 Try.underlying22 rfl (F.ev 6 (.slice ta p.nt tc))) ?_;clear F ac;intro ac F
 refine Y.pv F (X.binop rfl (F.ev 7 (Vi p.nt)) (X.kc (Vi 20) rfl) (X.gtrI Try.underlying3 rfl)) ?_;clear F ac;intro ac F
 refine Y.pv F (X.move rfl (F.ev 8 (.bool (decide ((20 : Int) < p.nt))))) ?_;clear F ac;intro ac F
 cases h7 : decide ((20 : Int) < p.nt) with
 | false =>
  try rw [h7] at F
  have h7p : ¬ ((20 : Int) < p.nt) := of_decide_eq_false h7
  refine Y.pg F 4 9 false (X.field rfl (F.ev 1 (Vp w.heap.size)) (X.fld Try.underlying27 rfl (Try.siz23 _) rfl rfl)) ?_;clear F ac;intro ac F
  refine Y.pg F 4 9 false (X.load rfl (F.ev 10 (.pointer (some ⟨w.heap.size, 1, none⟩))) (X.ld1 (Try.agg23 _) (hC.at 1 rfl))) ?_;clear F ac;intro ac F
  refine Y.pg F 4 9 false (X.len1 Try.underlying23 rfl (F.ev 11 (.slice ha p.nh hc))) ?_;clear F ac;intro ac F
  refine Y.pg F 4 9 false (X.binop rfl (F.ev 12 (Vi p.nh)) (X.kc (Vi 20) rfl) (X.gtrI Try.underlying3 rfl)) ?_;clear F ac;intro ac F
  refine Y.pv F (X.pickF rfl (F.ev 9 (.bool false)) (F.ev 13 (.bool (decide ((20 : Int) < p.nh))))) ?_;clear F ac;intro ac F
  refine Y.pv F (X.move rfl (F.ev 14 (.bool (decide ((20 : Int) < p.nh))))) ?_;clear F ac;intro ac F
  cases h8 : decide ((20 : Int) < p.nh) with
  | false =>
   try rw [h8] at F
   have h8p : ¬ ((20 : Int) < p.nh) := of_decide_eq_false h8
   refine Y.pg F 10 15 false (X.field rfl (F.ev 1 (Vp w.heap.size)) (X.fld Try.underlying27 rfl (Try.siz24 _) rfl rfl)) ?_;clear F ac;intro ac F
   refine Y.pg F 10 15 false (X.load rfl (F.ev 16 (.pointer (some ⟨w.heap.size, 2, none⟩))) (X.ld1 (Try.agg24 _) (hC.at 2 rfl))) ?_;clear F ac;intro ac F
   refine Y.pg F 10 15 false (X.len1 Try.underlying24 rfl (F.ev 17 (.slice ba p.nb bc))) ?_;clear F ac;intro ac F
   refine Y.pg F 10 15 false (X.binop rfl (F.ev 18 (Vi p.nb)) (X.kc (Vi 40) rfl) (X.gtrI Try.underlying3 rfl)) ?_;clear F ac;intro ac F
   refine Y.pv F (X.pickF rfl (F.ev 15 (.bool false)) (F.ev 19 (.bool (decide ((40 : Int) < p.nb))))) ?_;clear F ac;intro ac F
   refine Y.pv F (X.move rfl (F.ev 20 (.bool (decide ((40 : Int) < p.nb))))) ?_;clear F ac;intro ac F
   cases h9 : decide ((40 : Int) < p.nb) with
   | false =>
    try rw [h9] at F
    have h9p : ¬ ((40 : Int) < p.nb) := of_decide_eq_false h9
    refine Y.pg F 16 21 false (X.field rfl (F.ev 1 (Vp w.heap.size)) (X.fld Try.underlying27 rfl (Try.siz25 _) rfl rfl)) ?_;clear F ac;intro ac F
    refine Y.pg F 16 21 false (X.load rfl (F.ev 22 (.pointer (some ⟨w.heap.size, 3, none⟩))) (X.ld1 (Try.agg25 _) (hC.at 3 rfl))) ?_;clear F ac;intro ac F
    refine Y.pg F 16 21 false (X.len1 Try.underlying25 rfl (F.ev 23 (.slice la p.nl lc))) ?_;clear F ac;intro ac F
    refine Y.pg F 16 21 false (X.binop rfl (F.ev 24 (Vi p.nl)) (X.kc (Vi 40) rfl) (X.gtrI Try.underlying3 rfl)) ?_;clear F ac;intro ac F
    refine Y.pv F (X.pickF rfl (F.ev 21 (.bool false)) (F.ev 25 (.bool (decide ((40 : Int) < p.nl))))) ?_;clear F ac;intro ac F
    refine Y.nt F [(1, Vp w.heap.size), (26, .bool (decide ((40 : Int) < p.nl)))] ?_;clear F ac;intro ac F
    cases h10 : decide ((40 : Int) < p.nl) with
    | false =>
     try rw [h10] at F
     have h10p : ¬ ((40 : Int) < p.nl) := of_decide_eq_false h10
     refine Y.condF (F.ev 26 (.bool false)) ?_
     refine Y.skip ?_
     refine X.thenN ?_
     refine Y.seq ?_
     refine Y.sg F [(1, Vp w.heap.size), (3, Vi 0)] (Y.pv F (X.assign rfl (X.kc (Vi 0) rfl)) fun ac F=>Y.fin F) ?_;clear F ac;intro ac F
     refine Y.block ?_
     refine Y.loop (fun me_ ac wr => ∃ (i : Nat), me_ = p.nt - i ∧ Only (fun b => False) w6 wr ∧ i ≤ p.nt ∧ allN (fun i => decide ((p.tn i).size ≤ 100)) i = true ∧ Fr ac 57 [(1, Vp w.heap.size), (3, Vi i)]) _ ⟨0, rfl, Only.refl _ _, Nat.zero_le _, rfl, F.sub _⟩ ?_
     have hptB1 := hpt
     have hphB1 := hph
     have hpbB1 := hpb
     have hplB1 := hpl
     have GB1 := G
     have hCB1 := hC
     clear F ac
     intro me_ ac w11 hI
     obtain ⟨i, rfl, hO1, h0i, hoki, F⟩ := hI
     replace G := GB1.trans (hO1.gr (fun _ _ h => h))
     replace hpt := (hP.t).gr G
     replace hph := (hP.h).gr G
     replace hpb := (hP.b).gr G
     replace hpl := (hP.l).gr G
     replace hC := (RCells.cons (hO1.cell (hCB1.at 0 rfl) (fun h => h)) (RCells.cons (hO1.cell (hCB1.at 1 rfl) (fun h => h)) (RCells.cons (hO1.cell (hCB1.at 2 rfl) (fun h => h)) (RCells.cons (hO1.cell (hCB1.at 3 rfl) (fun h => h)) (RCells.nil _)))))
     refine Y.seq ?_
     refine Y.sg F [(1, Vp w.heap.size), (3, Vi i), (31, .bool (decide ((i : Int) < p.nt)))] (by
      refine Y.pv F (X.move rfl (F.ev 3 (Vi i))) fun ac F=>?_
      refine Y.pv F (X.field rfl (F.ev 1 (Vp w.heap.size)) (X.fld Try.underlying27 rfl (Try.siz22 _) rfl rfl)) fun ac F=>?_
      refine Y.pv F (X.load rfl (F.ev 28 (Vp w.heap.size)) (X.ld1 (Try.agg22 _) (hC.at 0 rfl))) fun ac F=>?_
      refine Y.pv F (X.len1 Try.underlying22 rfl (F.ev 29 (.slice ta p.nt tc))) fun ac F=>?_
      refine Y.pv F (X.binop rfl (F.ev 27 (Vi i)) (F.ev 30 (Vi p.nt)) (X.lssI Try.underlying3 rfl)) fun ac F=>?_
      exact Y.fin F) ?_;clear F ac;intro ac F
     cases h12 : decide ((i : Int) < p.nt) with
     | false =>
      try rw [h12] at F
      have h12p : ¬ ((i : Int) < p.nt) := of_decide_eq_false h12
      obtain rfl : i = p.nt := by omega
      refine Y.condF (F.ev 31 (.bool false)) ?_
      refine Y.exit ?_
      refine X.thenX (X.thenX (X.blockX (X.thenN ?_)))
      refine Y.seq ?_
      refine Y.sg F [(1, Vp w.heap.size), (4, Vi 0)] (Y.pv F (X.assign rfl (X.kc (Vi 0) rfl)) fun ac F=>Y.fin F) ?_;clear F ac;intro ac F
      refine Y.block ?_
      refine Y.loop (fun me_ ac wr => ∃ (j : Nat), me_ = p.nh - j ∧ Only (fun b => False) w11 wr ∧ j ≤ p.nh ∧ allN (fun i => decide ((p.hn i).size ≤ 100)) j = true ∧ Fr ac 57 [(1, Vp w.heap.size), (4, Vi j)]) _ ⟨0, rfl, Only.refl _ _, Nat.zero_le _, rfl, F.sub _⟩ ?_
      have hptB1 := hpt
      have hphB1 := hph
      have hpbB1 := hpb
      have hplB1 := hpl
      have GB1 := G
      have hCB1 := hC
      clear F ac
      intro me_ ac w13 hI
      obtain ⟨j, rfl, hO1, h0j, hokj, F⟩ := hI
      replace G := GB1.trans (hO1.gr (fun _ _ h => h))
      replace hpt := (hP.t).gr G
      replace hph := (hP.h).gr G
      replace hpb := (hP.b).gr G
      replace hpl := (hP.l).gr G
      replace hC := (RCells.cons (hO1.cell (hCB1.at 0 rfl) (fun h => h)) (RCells.cons (hO1.cell (hCB1.at 1 rfl) (fun h => h)) (RCells.cons (hO1.cell (hCB1.at 2 rfl) (fun h => h)) (RCells.cons (hO1.cell (hCB1.at 3 rfl) (fun h => h)) (RCells.nil _)))))
      refine Y.seq ?_
      refine Y.sg F [(1, Vp w.heap.size), (4, Vi j), (46, .bool (decide ((j : Int) < p.nh)))] (by
       refine Y.pv F (X.move rfl (F.ev 4 (Vi j))) fun ac F=>?_
       refine Y.pv F (X.field rfl (F.ev 1 (Vp w.heap.size)) (X.fld Try.underlying27 rfl (Try.siz23 _) rfl rfl)) fun ac F=>?_
       refine Y.pv F (X.load rfl (F.ev 43 (.pointer (some ⟨w.heap.size, 1, none⟩))) (X.ld1 (Try.agg23 _) (hC.at 1 rfl))) fun ac F=>?_
       refine Y.pv F (X.len1 Try.underlying23 rfl (F.ev 44 (.slice ha p.nh hc))) fun ac F=>?_
       refine Y.pv F (X.binop rfl (F.ev 42 (Vi j)) (F.ev 45 (Vi p.nh)) (X.lssI Try.underlying3 rfl)) fun ac F=>?_
       exact Y.fin F) ?_;clear F ac;intro ac F
      cases h14 : decide ((j : Int) < p.nh) with
      | false =>
       try rw [h14] at F
       have h14p : ¬ ((j : Int) < p.nh) := of_decide_eq_false h14
       obtain rfl : j = p.nh := by omega
       refine Y.condF (F.ev 46 (.bool false)) ?_
       refine Y.exit ?_
       refine X.thenX (X.thenX (X.blockX (X.thenN ?_)))
       refine Y.sg F [(2, .bool false)] (Y.pv F (X.assign rfl (X.kc (.bool false) rfl)) fun ac F=>Y.fin F) ?_;clear F ac;intro ac F
       refine Y.ret ?_
       exact Y.ret0 (v := .bool false) F (Y.r1 F) ⟨by rw [far_no (by omega) hoki hokj], G⟩
      | true =>
       try rw [h14] at F
       have h14p : ((j : Int) < p.nh) := of_decide_eq_true h14
       have h9j : j < p.nh := by omega
       refine Y.condT (F.ev 46 (.bool true)) ?_
       refine Y.skip ?_
       refine X.thenN ?_
       refine Y.seq ?_
       refine Y.block ?_
       refine Y.sl ?_
       refine Y.pv F (X.field rfl (F.ev 1 (Vp w.heap.size)) (X.fld Try.underlying27 rfl (Try.siz23 _) rfl rfl)) ?_;clear F ac;intro ac F
       refine Y.pv F (X.load rfl (F.ev 49 (.pointer (some ⟨w.heap.size, 1, none⟩))) (X.ld1 (Try.agg23 _) (hC.at 1 rfl))) ?_;clear F ac;intro ac F
       refine Y.pv F (X.move rfl (F.ev 4 (Vi j))) ?_;clear F ac;intro ac F
       obtain ⟨pd15, pe15, -, pc15⟩ := hph.at (j := j) (by omega)
       subst pe15
       replace hC : RCells w13 [(Ad w.heap.size 0, .slice ta p.nt tc), (Ad w.heap.size 1, .slice (some pd15) p.nh hc), (Ad w.heap.size 2, .slice ba p.nb bc), (Ad w.heap.size 3, .slice la p.nl lc), (pd15.add (j * 6), .string (p.hn j)), (⟨(pd15.add (j * 6)).block, (pd15.add (j * 6)).off + 1, none⟩, Vi (p.hv j 1)), (⟨(pd15.add (j * 6)).block, (pd15.add (j * 6)).off + 2, none⟩, Vi (p.hv j 2)), (⟨(pd15.add (j * 6)).block, (pd15.add (j * 6)).off + 3, none⟩, Vi (p.hv j 3)), (⟨(pd15.add (j * 6)).block, (pd15.add (j * 6)).off + 4, none⟩, Vi (p.hv j 4)), (⟨(pd15.add (j * 6)).block, (pd15.add (j * 6)).off + 5, none⟩, Vi (p.hv j 5))] := hC.append ((RCells.cons (pc15 0 (by decide)) (RCells.cons (pc15 1 (by decide)) (RCells.cons (pc15 2 (by decide)) (RCells.cons (pc15 3 (by decide)) (RCells.cons (pc15 4 (by decide)) (RCells.cons (pc15 5 (by decide)) (RCells.nil _))))))))
       clear pc15
       refine Y.pv F (X.index rfl (F.ev 50 (.slice (some pd15) p.nh hc)) (F.ev 51 (Vi j)) (X.idx (k := j) Try.underlying23 (Try.siz53 _) (by omega) (by omega) rfl)) ?_;clear F ac;intro ac F
       refine Y.pv F (X.field rfl (F.ev 52 (.pointer (some (pd15.add (j * 6))))) (X.fld Try.underlying53 rfl (Try.siz9 _) rfl rfl)) ?_;clear F ac;intro ac F
       refine Y.pv F (X.load rfl (F.ev 53 (.pointer (some (pd15.add (j * 6))))) (X.ld1 (Try.agg9 _) (hC.at 4 rfl))) ?_;clear F ac;intro ac F
       refine Y.pv F (Y.lenS Try.underlying9 rfl (F.ev 54 (.string (p.hn j)))) ?_;clear F ac;intro ac F
       refine Y.pv F (X.binop rfl (F.ev 55 (Vi ((p.hn j).size : Nat))) (X.kc (Vi 100) rfl) (X.gtrI Try.underlying3 rfl)) ?_;clear F ac;intro ac F
       refine Y.nt F [(1, Vp w.heap.size), (4, Vi j), (56, .bool (decide ((100 : Int) < ((p.hn j).size : Nat))))] ?_;clear F ac;intro ac F
       cases h16 : decide ((100 : Int) < ((p.hn j).size : Nat)) with
       | false =>
        try rw [h16] at F
        have h16p : ¬ ((100 : Int) < ((p.hn j).size : Nat)) := of_decide_eq_false h16
        refine Y.condF (F.ev 56 (.bool false)) ?_
        refine Y.skip ?_
        refine X.blockN (X.thenN ?_)
        refine Y.lg F [(1, Vp w.heap.size), (4, Vi ((j : Int) + 1))] (by
         refine Y.pv F (X.move rfl (F.ev 4 (Vi j))) fun ac F=>?_
         refine Y.pv F (X.binop rfl (F.ev 47 (Vi j)) (X.kc (Vi 1) rfl) (X.addI Try.underlying3 rfl (by omega) (by omega))) fun ac F=>?_
         refine Y.pv F (X.assign rfl (F.ev 48 (Vi ((j : Int) + 1)))) fun ac F=>?_
         exact Y.fin F) ?_;clear F ac;intro ac F
        refine ⟨_, ?_, j + 1, rfl, hO1, by omega, allN_succ hokj (decide_eq_true (by omega)), F.sub _⟩
        omega
       | true =>
        try rw [h16] at F
        have h16p : ((100 : Int) < ((p.hn j).size : Nat)) := of_decide_eq_true h16
        refine Y.condT (F.ev 56 (.bool true)) ?_
        refine Y.sg F [(2, .bool true)] (Y.pv F (X.assign rfl (X.kc (.bool true) rfl)) fun ac F=>Y.fin F) ?_;clear F ac;intro ac F
        refine Y.ret ?_
        refine X.blockR (X.thenR (X.thenR (X.blockR (X.thenR ?_))))
        exact Y.ret0 (v := .bool true) F (Y.r1 F) ⟨by rw [far_h h9j (by omega)], G⟩
     | true =>
      try rw [h12] at F
      have h12p : ((i : Int) < p.nt) := of_decide_eq_true h12
      have h9i : i < p.nt := by omega
      refine Y.condT (F.ev 31 (.bool true)) ?_
      refine Y.skip ?_
      refine X.thenN ?_
      refine Y.seq ?_
      refine Y.block ?_
      refine Y.sl ?_
      refine Y.pv F (X.field rfl (F.ev 1 (Vp w.heap.size)) (X.fld Try.underlying27 rfl (Try.siz22 _) rfl rfl)) ?_;clear F ac;intro ac F
      refine Y.pv F (X.load rfl (F.ev 34 (Vp w.heap.size)) (X.ld1 (Try.agg22 _) (hC.at 0 rfl))) ?_;clear F ac;intro ac F
      refine Y.pv F (X.move rfl (F.ev 3 (Vi i))) ?_;clear F ac;intro ac F
      obtain ⟨pd17, pe17, -, pc17⟩ := hpt.at (j := i) (by omega)
      subst pe17
      replace hC : RCells w11 [(Ad w.heap.size 0, .slice (some pd17) p.nt tc), (Ad w.heap.size 1, .slice ha p.nh hc), (Ad w.heap.size 2, .slice ba p.nb bc), (Ad w.heap.size 3, .slice la p.nl lc), (pd17.add (i * 4), .string (p.tn i)), (⟨(pd17.add (i * 4)).block, (pd17.add (i * 4)).off + 1, none⟩, Vi (p.tv i 1)), (⟨(pd17.add (i * 4)).block, (pd17.add (i * 4)).off + 2, none⟩, Vi (p.tv i 2)), (⟨(pd17.add (i * 4)).block, (pd17.add (i * 4)).off + 3, none⟩, Vi (p.tv i 3))] := hC.append ((RCells.cons (pc17 0 (by decide)) (RCells.cons (pc17 1 (by decide)) (RCells.cons (pc17 2 (by decide)) (RCells.cons (pc17 3 (by decide)) (RCells.nil _))))))
      clear pc17
      refine Y.pv F (X.index rfl (F.ev 35 (.slice (some pd17) p.nt tc)) (F.ev 36 (Vi i)) (X.idx (k := i) Try.underlying22 (Try.siz74 _) (by omega) (by omega) rfl)) ?_;clear F ac;intro ac F
      refine Y.pv F (X.field rfl (F.ev 37 (.pointer (some (pd17.add (i * 4))))) (X.fld Try.underlying74 rfl (Try.siz9 _) rfl rfl)) ?_;clear F ac;intro ac F
      refine Y.pv F (X.load rfl (F.ev 38 (.pointer (some (pd17.add (i * 4))))) (X.ld1 (Try.agg9 _) (hC.at 4 rfl))) ?_;clear F ac;intro ac F
      refine Y.pv F (Y.lenS Try.underlying9 rfl (F.ev 39 (.string (p.tn i)))) ?_;clear F ac;intro ac F
      refine Y.pv F (X.binop rfl (F.ev 40 (Vi ((p.tn i).size : Nat))) (X.kc (Vi 100) rfl) (X.gtrI Try.underlying3 rfl)) ?_;clear F ac;intro ac F
      refine Y.nt F [(1, Vp w.heap.size), (3, Vi i), (41, .bool (decide ((100 : Int) < ((p.tn i).size : Nat))))] ?_;clear F ac;intro ac F
      cases h18 : decide ((100 : Int) < ((p.tn i).size : Nat)) with
      | false =>
       try rw [h18] at F
       have h18p : ¬ ((100 : Int) < ((p.tn i).size : Nat)) := of_decide_eq_false h18
       refine Y.condF (F.ev 41 (.bool false)) ?_
       refine Y.skip ?_
       refine X.blockN (X.thenN ?_)
       refine Y.lg F [(1, Vp w.heap.size), (3, Vi ((i : Int) + 1))] (by
        refine Y.pv F (X.move rfl (F.ev 3 (Vi i))) fun ac F=>?_
        refine Y.pv F (X.binop rfl (F.ev 32 (Vi i)) (X.kc (Vi 1) rfl) (X.addI Try.underlying3 rfl (by omega) (by omega))) fun ac F=>?_
        refine Y.pv F (X.assign rfl (F.ev 33 (Vi ((i : Int) + 1)))) fun ac F=>?_
        exact Y.fin F) ?_;clear F ac;intro ac F
       refine ⟨_, ?_, i + 1, rfl, hO1, by omega, allN_succ hoki (decide_eq_true (by omega)), F.sub _⟩
       omega
      | true =>
       try rw [h18] at F
       have h18p : ((100 : Int) < ((p.tn i).size : Nat)) := of_decide_eq_true h18
       refine Y.condT (F.ev 41 (.bool true)) ?_
       refine Y.sg F [(2, .bool true)] (Y.pv F (X.assign rfl (X.kc (.bool true) rfl)) fun ac F=>Y.fin F) ?_;clear F ac;intro ac F
       refine Y.ret ?_
       refine X.blockR (X.thenR (X.thenR (X.blockR (X.thenR ?_))))
       exact Y.ret0 (v := .bool true) F (Y.r1 F) ⟨by rw [far_t h9i (by omega)], G⟩
    | true =>
     try rw [h10] at F
     have h10p : ((40 : Int) < p.nl) := of_decide_eq_true h10
     refine Y.condT (F.ev 26 (.bool true)) ?_
     refine Y.sg F [(2, .bool true)] (Y.pv F (X.assign rfl (X.kc (.bool true) rfl)) fun ac F=>Y.fin F) ?_;clear F ac;intro ac F
     refine Y.ret ?_
     refine X.thenR ?_
     exact Y.ret0 (v := .bool true) F (Y.r1 F) ⟨by rw [far_n (by omega)], G⟩
   | true =>
    try rw [h9] at F
    have h9p : ((40 : Int) < p.nb) := of_decide_eq_true h9
    refine Y.ps F 16 21 true ?_;clear F ac;intro ac F
    refine Y.ps F 16 21 true ?_;clear F ac;intro ac F
    refine Y.ps F 16 21 true ?_;clear F ac;intro ac F
    refine Y.ps F 16 21 true ?_;clear F ac;intro ac F
    refine Y.pv F (X.pickT rfl (F.ev 21 (.bool true)) (X.kc (.bool true) rfl)) ?_;clear F ac;intro ac F
    refine Y.nt F [(1, Vp w.heap.size), (26, .bool true)] ?_;clear F ac;intro ac F
    refine Y.condT (F.ev 26 (.bool true)) ?_
    refine Y.sg F [(2, .bool true)] (Y.pv F (X.assign rfl (X.kc (.bool true) rfl)) fun ac F=>Y.fin F) ?_;clear F ac;intro ac F
    refine Y.ret ?_
    refine X.thenR ?_
    exact Y.ret0 (v := .bool true) F (Y.r1 F) ⟨by rw [far_n (by omega)], G⟩
  | true =>
   try rw [h8] at F
   have h8p : ((20 : Int) < p.nh) := of_decide_eq_true h8
   refine Y.ps F 10 15 true ?_;clear F ac;intro ac F
   refine Y.ps F 10 15 true ?_;clear F ac;intro ac F
   refine Y.ps F 10 15 true ?_;clear F ac;intro ac F
   refine Y.ps F 10 15 true ?_;clear F ac;intro ac F
   refine Y.pv F (X.pickT rfl (F.ev 15 (.bool true)) (X.kc (.bool true) rfl)) ?_;clear F ac;intro ac F
   refine Y.pv F (X.move rfl (F.ev 20 (.bool true))) ?_;clear F ac;intro ac F
   refine Y.ps F 16 21 true ?_;clear F ac;intro ac F
   refine Y.ps F 16 21 true ?_;clear F ac;intro ac F
   refine Y.ps F 16 21 true ?_;clear F ac;intro ac F
   refine Y.ps F 16 21 true ?_;clear F ac;intro ac F
   refine Y.pv F (X.pickT rfl (F.ev 21 (.bool true)) (X.kc (.bool true) rfl)) ?_;clear F ac;intro ac F
   refine Y.nt F [(1, Vp w.heap.size), (26, .bool true)] ?_;clear F ac;intro ac F
   refine Y.condT (F.ev 26 (.bool true)) ?_
   refine Y.sg F [(2, .bool true)] (Y.pv F (X.assign rfl (X.kc (.bool true) rfl)) fun ac F=>Y.fin F) ?_;clear F ac;intro ac F
   refine Y.ret ?_
   refine X.thenR ?_
   exact Y.ret0 (v := .bool true) F (Y.r1 F) ⟨by rw [far_n (by omega)], G⟩
 | true =>
  try rw [h7] at F
  have h7p : ((20 : Int) < p.nt) := of_decide_eq_true h7
  refine Y.ps F 4 9 true ?_;clear F ac;intro ac F
  refine Y.ps F 4 9 true ?_;clear F ac;intro ac F
  refine Y.ps F 4 9 true ?_;clear F ac;intro ac F
  refine Y.ps F 4 9 true ?_;clear F ac;intro ac F
  refine Y.pv F (X.pickT rfl (F.ev 9 (.bool true)) (X.kc (.bool true) rfl)) ?_;clear F ac;intro ac F
  refine Y.pv F (X.move rfl (F.ev 14 (.bool true))) ?_;clear F ac;intro ac F
  refine Y.ps F 10 15 true ?_;clear F ac;intro ac F
  refine Y.ps F 10 15 true ?_;clear F ac;intro ac F
  refine Y.ps F 10 15 true ?_;clear F ac;intro ac F
  refine Y.ps F 10 15 true ?_;clear F ac;intro ac F
  refine Y.pv F (X.pickT rfl (F.ev 15 (.bool true)) (X.kc (.bool true) rfl)) ?_;clear F ac;intro ac F
  refine Y.pv F (X.move rfl (F.ev 20 (.bool true))) ?_;clear F ac;intro ac F
  refine Y.ps F 16 21 true ?_;clear F ac;intro ac F
  refine Y.ps F 16 21 true ?_;clear F ac;intro ac F
  refine Y.ps F 16 21 true ?_;clear F ac;intro ac F
  refine Y.ps F 16 21 true ?_;clear F ac;intro ac F
  refine Y.pv F (X.pickT rfl (F.ev 21 (.bool true)) (X.kc (.bool true) rfl)) ?_;clear F ac;intro ac F
  refine Y.nt F [(1, Vp w.heap.size), (26, .bool true)] ?_;clear F ac;intro ac F
  refine Y.condT (F.ev 26 (.bool true)) ?_
  refine Y.sg F [(2, .bool true)] (Y.pv F (X.assign rfl (X.kc (.bool true) rfl)) fun ac F=>Y.fin F) ?_;clear F ac;intro ac F
  refine Y.ret ?_
  refine X.thenR ?_
  exact Y.ret0 (v := .bool true) F (Y.r1 F) ⟨by rw [far_n (by omega)], G⟩
end
end Go.Proofs.Ytodedneanlekdaa
