/- Several texts of this claim in one file. (1) Contracts: where a state lies in a list; the reference plan. (2) Contracts: the reference Plan and Least. -/
import Derived.Test.YtlilojpnhmfnaaaRoads
import Derived.Test.YtlilojpnhmfnaaaBd9
import Derived.Test.YtlilojpnhmfnaaaBd2
import Derived.Test.YtlilojpnhmfnaaaBd6
namespace Go.Proofs.Ytlilojpnhmfnaaa
section
open Go.RowKit

theorem way_len {f : Fl} {to : List Int} {bu : Int} {s : List Int} (hok : FlOk f) (hto : StOk f to) (hs : StOk f s) : (wayV f to bu s).length ≤ 18 := by
  unfold wayV
  cases hi : (bestV f to bu s).is with
  | false => simp
  | true =>
    rw [if_pos rfl]
    have h1 := path_len (bu := bu) hto (gap s to) s (Nat.le_refl _) hs hi
    have h2 := gapTo_bd hok hs hto f.times.length (Nat.le_refl _)
    have h6 := hok.n6
    have : gap s to ≤ 18 := by unfold gap; rw [hto.len]; omega
    omega

set_option maxRecDepth 100000 in
set_option maxHeartbeats 400000 in
theorem index_any (la sa : Option Addr) (N lc sn sc : Nat) (f : Fl) (xs : List Int) (w : World) (hR : RowsAt w la N (allV f)) (hx : Ints w sa sn xs) (hm : xs ∈ allV f) (hsn : sn = f.times.length) (hok : FlOk f) :
    Calls Try.prog 88 #[.slice la N lc, .slice sa sn sc] w fun e w' => e = .returned (.int .i64 (idxV (allV f) xs : Nat)) ∧ Gr w w' := by
  have hRl := hR.len
  have hRt := hR.lt
  have hal := allV_len hok
  have hxa := idxV_at hm
  have hx1 := hxa.1
  have G := Gr.refl w
  refine Y.calls 19 Try.func88 rfl rfl ?_
  intro ac F0
  have F : Fr ac 19 [(0, .slice la N lc), (1, .slice sa sn sc)] := F0.sub _ (by kernel_rfl)
  clear F0
  refine Y.seq ?_
  refine Y.lit (by kernel_rfl) ?_
  refine Y.pval F (X.w0 rfl) rfl (X.assign rfl (X.kc (.int .i64 0) rfl)) ?_
  clear F ac
  intro ac F
  refine Y.nil ?_
  replace F : Fr ac 19 [(0, .slice la N lc), (1, .slice sa sn sc), (4, .int .i64 0)] := F.sub _ (by kernel_rfl)
  refine X.thenN ?_
  refine Y.seq ?_
  refine Y.seq ?_
  refine Y.lit (by kernel_rfl) ?_
  refine Y.pval F (X.w0 rfl) rfl (X.assign rfl (X.kc (.int .i64 0) rfl)) ?_
  clear F ac
  intro ac F
  refine Y.nil ?_
  replace F : Fr ac 19 [(0, .slice la N lc), (1, .slice sa sn sc), (4, .int .i64 0), (5, .int .i64 0)] := F.sub _ (by kernel_rfl)
  refine X.thenN ?_
  refine Y.block ?_
  have hRB := hR
  have hxB := hx
  have GB := G
  refine Y.loop (fun me_ ac wr => ∃ (k : Nat), me_ = N - k ∧ Gr w wr ∧ k ≤ idxV (allV f) xs ∧ Fr ac 19 [(0, .slice la N lc), (1, .slice sa sn sc), (5, .int .i64 k)]) _ ⟨0, rfl, Gr.refl _, Nat.zero_le _, F.sub _ (by kernel_rfl)⟩ ?_
  clear F
  intro me_ ac w3 hI
  obtain ⟨k, rfl, gr, hk, F⟩ := hI
  replace G := GB.trans gr
  replace hR := hRB.gr gr
  replace hx := hxB.gr gr
  have GB_ := gr
  clear gr
  refine Y.seq ?_
  refine Y.seq ?_
  refine Y.lit (by kernel_rfl) ?_
  refine Y.pval F (X.w0 rfl) rfl (X.move rfl (F.ev 5 (.int .i64 k) (by kernel_rfl))) ?_
  clear F ac
  intro ac F
  refine Y.pval F (X.w0 rfl) rfl (X.move rfl (F.ev 0 (.slice la N lc) (by kernel_rfl))) ?_
  clear F ac
  intro ac F
  refine Y.pval F (X.w0 rfl) rfl (X.len1 Try.underlying22 rfl (F.ev 7 (.slice la N lc) (by kernel_rfl))) ?_
  clear F ac
  intro ac F
  refine Y.pval F (X.w0 rfl) rfl (X.binop rfl (F.ev 6 (.int .i64 k) (by kernel_rfl)) (F.ev 8 (.int .i64 N) (by kernel_rfl)) (X.lssI Try.underlying3 rfl)) ?_
  clear F ac
  intro ac F
  refine Y.nil ?_
  replace F : Fr ac 19 [(0, .slice la N lc), (1, .slice sa sn sc), (5, .int .i64 k), (9, .bool (decide ((k : Int) < N)))] := F.sub _ (by kernel_rfl)
  refine X.thenN ?_
  have hkl : k < (allV f).length := by omega
  have h5 : decide ((k : Int) < N) = true := decide_eq_true (by omega)
  have h5p : ((k : Int) < N) := of_decide_eq_true h5
  try rw [h5] at F
  refine Y.condT (F.ev 9 (.bool true) (by kernel_rfl)) ?_
  refine Y.skip ?_
  refine X.thenN ?_
  refine Y.seq ?_
  refine Y.block ?_
  refine Y.seq ?_
  refine Y.lit (by kernel_rfl) ?_
  refine Y.pval F (X.w0 rfl) rfl (X.move rfl (F.ev 0 (.slice la N lc) (by kernel_rfl))) ?_
  clear F ac
  intro ac F
  refine Y.pval F (X.w0 rfl) rfl (X.move rfl (F.ev 5 (.int .i64 k) (by kernel_rfl))) ?_
  clear F ac
  intro ac F
  obtain ⟨pd6, pa6, rn6, pq6, pe6, -, pc6, pi6⟩ := hR.at (j := k) (by omega)
  subst pe6
  have hC : RCells w3 [(pd6.add k, .slice pa6 rn6 pq6)] := (RCells.cons pc6 (RCells.nil _))
  clear pc6
  have HX : StOk f ((allV f)[k]?.getD []) := (allV_ok (all_at hkl)).1
  obtain rfl : sn = rn6 := by rw [← pi6.len, hsn]; exact HX.len.symm
  refine Y.pval F (X.w0 rfl) rfl (X.index rfl (F.ev 12 (.slice (some pd6) N lc) (by kernel_rfl)) (F.ev 13 (.int .i64 k) (by kernel_rfl)) (X.idx (k := k) Try.underlying22 (Try.siz26 _) (by omega) (by omega) (by rw [Nat.mul_one]))) ?_
  clear F ac
  intro ac F
  refine Y.pval F (X.w0 rfl) rfl (X.load rfl (F.ev 14 (.pointer (some (pd6.add k))) (by kernel_rfl)) (X.ld1 (Try.agg26 _) (hC.at 0 rfl))) ?_
  clear F ac
  intro ac F
  refine Y.pval F (X.w0 rfl) rfl (X.move rfl (F.ev 1 (.slice sa sn sc) (by kernel_rfl))) ?_
  clear F ac
  intro ac F
  refine Y.pcall F (X.w0 rfl) rfl (X.enter (F := 100) rfl (X.kc (.func (.func 100) #[] #[]) rfl) (X.a2 (F.ev 15 (.slice pa6 sn pq6) (by kernel_rfl)) (F.ev 16 (.slice sa sn sc) (by kernel_rfl))) (enters_of Try.func100 (by kernel_rfl) rfl _)) (same_any pa6 sa sn pq6 sc ((allV f)[k]?.getD []) xs w3 pi6 hx) ?_
  clear F ac
  rintro e w7 ⟨rfl, q, hq⟩
  have g : Gr w3 w7 := by rw [hq]; exact Gr.drewN _ _
  clear hq
  refine ⟨_, rfl, ?_⟩
  intro ac F
  replace G := G.trans g
  replace hC := hC.gr g
  replace GB_ := GB_.trans g
  replace hR := hR.gr g
  replace hx := hx.gr g
  replace pi6 := pi6.gr g
  clear g
  refine Y.nil ?_
  replace F : Fr ac 19 [(0, .slice (some pd6) N lc), (1, .slice sa sn sc), (5, .int .i64 k), (9, .bool true), (17, .bool (decide ((allV f)[k]?.getD [] = xs)))] := F.sub _ (by kernel_rfl)
  refine X.thenN ?_
  cases h8 : decide ((allV f)[k]?.getD [] = xs) with
  | false =>
    try rw [h8] at F
    refine Y.condF (F.ev 17 (.bool false) (by kernel_rfl)) ?_
    refine Y.skip ?_
    refine X.blockN ?_
    refine X.thenN ?_
    refine Y.lit (by kernel_rfl) ?_
    refine Y.pval F (X.w0 rfl) rfl (X.move rfl (F.ev 5 (.int .i64 k) (by kernel_rfl))) ?_
    clear F ac
    intro ac F
    refine Y.pval F (X.w0 rfl) rfl (X.binop rfl (F.ev 10 (.int .i64 k) (by kernel_rfl)) (X.kc (.int .i64 1) rfl) (X.addI Try.underlying3 rfl (by omega) (by omega))) ?_
    clear F ac
    intro ac F
    refine Y.pval F (X.w0 rfl) rfl (X.assign rfl (F.ev 11 (.int .i64 ((k : Int) + 1)) (by kernel_rfl))) ?_
    clear F ac
    intro ac F
    refine Y.nil ?_
    replace F : Fr ac 19 [(0, .slice (some pd6) N lc), (1, .slice sa sn sc), (5, .int .i64 ((k : Int) + 1)), (9, .bool true), (17, .bool false)] := F.sub _ (by kernel_rfl)
    refine X.thenN ?_
    refine ⟨_, ?_, k + 1, rfl, GB_, idx_ne hk hm (of_decide_eq_false h8), F.sub _ (by kernel_rfl)⟩
    omega
  | true =>
    try rw [h8] at F
    have HV : idxV (allV f) xs = k := idx_eq hk hkl (of_decide_eq_true h8)
    refine Y.condT (F.ev 17 (.bool true) (by kernel_rfl)) ?_
    refine Y.seq ?_
    refine Y.lit (by kernel_rfl) ?_
    refine Y.pval F (X.w0 rfl) rfl (X.move rfl (F.ev 5 (.int .i64 k) (by kernel_rfl))) ?_
    clear F ac
    intro ac F
    refine Y.pval F (X.w0 rfl) rfl (X.assign rfl (F.ev 18 (.int .i64 k) (by kernel_rfl))) ?_
    clear F ac
    intro ac F
    refine Y.nil ?_
    replace F : Fr ac 19 [(0, .slice (some pd6) N lc), (1, .slice sa sn sc), (4, .int .i64 k), (5, .int .i64 k), (9, .bool true), (17, .bool true)] := F.sub _ (by kernel_rfl)
    refine X.thenN ?_
    refine Y.ret ?_
    refine X.blockR ?_
    refine X.thenR ?_
    refine X.thenR ?_
    refine X.blockR ?_
    refine X.thenR ?_
    exact Y.ret0 (v := .int .i64 (k : Nat)) F (Y.rs1 F rfl (by kernel_rfl)) ⟨by rw [HV], G⟩

set_option maxRecDepth 100000 in
set_option maxHeartbeats 1000000 in
theorem plan3_any (ta ca sa ya : Option Addr) (tn tc cn cc sn sc yc : Nat) (f : Fl) (xs to : List Int) (bu : Int) (w : World) (hf : FlAt w ta tn ca cn f) (hx : Ints w sa sn xs) (hy : Ints w ya sn to) (hok : FlOk f) (hsx : StOk f xs) (hto : StOk f to) (hm : xs ∈ allV f) (hsn : sn = f.times.length) (hbu : bu ≤ 1000000) :
    Calls Try.prog 53 #[.agg #[.slice ta tn tc, .slice ca cn cc], .slice sa sn sc, .slice ya sn yc, .int .i64 bu] w fun e w' => ∃ ra rn rc, e = .returned (.tuple #[.slice ra rn rc, .bool (bestV f to bu xs).is]) ∧ RowsAt w' ra rn (wayV f to bu xs) ∧ Gr w w' := by
  have G := Gr.refl w
  refine Y.calls 50 Try.func53 rfl rfl ?_
  intro ac F0
  have F : Fr ac 50 [(0, .agg #[.slice ta tn tc, .slice ca cn cc]), (1, .slice sa sn sc), (2, .slice ya sn yc), (3, .int .i64 bu)] := F0.sub _ (by kernel_rfl)
  clear F0
  refine Y.seq ?_
  refine Y.lit (by kernel_rfl) ?_
  refine Y.pval F (X.w0 rfl) rfl (X.box rfl (F.ev 0 (.agg #[.slice ta tn tc, .slice ca cn cc]) (by kernel_rfl)) X.bx) ?_
  clear F ac
  intro ac F
  have g := Gr.alloc w (.cells #[.slice ta tn tc, .slice ca cn cc] 25)
  have hb := heap_alloc_new w (.cells #[.slice ta tn tc, .slice ca cn cc] 25)
  have hbl : w.heap.size < (w.alloc (.cells #[.slice ta tn tc, .slice ca cn cc] 25)).heap.size := by simp
  have hC2 : RCells (w.alloc (.cells #[.slice ta tn tc, .slice ca cn cc] 25)) [(⟨w.heap.size, 0, none⟩, .slice ta tn tc), (⟨w.heap.size, 1, none⟩, .slice ca cn cc)] := (RCells.nil w).box (b := w.heap.size) #[.slice ta tn tc, .slice ca cn cc] 25 rfl
  generalize w.alloc (.cells #[.slice ta tn tc, .slice ca cn cc] 25) = w3 at *
  replace G := G.trans g
  have hC := hC2
  clear hC2
  replace hf := hf.gr g
  replace hx := hx.gr g
  replace hy := hy.gr g
  clear g hb hbl
  refine Y.pval F (X.w0 rfl) rfl (X.assign rfl (X.kc (.slice none 0 0) rfl)) ?_
  clear F ac
  intro ac F
  refine Y.pval F (X.w0 rfl) rfl (X.assign rfl (X.kc (.bool false) rfl)) ?_
  clear F ac
  intro ac F
  refine Y.nil ?_
  replace F : Fr ac 50 [(0, .agg #[.slice ta tn tc, .slice ca cn cc]), (1, .slice sa sn sc), (2, .slice ya sn yc), (3, .int .i64 bu), (4, .pointer (some ⟨w.heap.size, 0, none⟩)), (8, .slice none 0 0), (9, .bool false)] := F.sub _ (by kernel_rfl)
  refine X.thenN ?_
  refine Y.seq ?_
  refine Y.lit (by kernel_rfl) ?_
  refine Y.pval F (X.w0 rfl) rfl (X.load rfl (F.ev 4 (.pointer (some ⟨w.heap.size, 0, none⟩)) (by kernel_rfl)) (X.ldN (Try.agg25 _) (Try.siz25 _) (X.c2 (hC.at 0 rfl) (hC.at 1 rfl)))) ?_
  clear F ac
  intro ac F
  refine Y.pcall F (X.w0 rfl) rfl (X.enter (F := 81) rfl (X.kc (.func (.func 81) #[] #[]) rfl) (X.a2 (F.ev 14 (.agg #[.slice ta tn tc, .slice ca cn cc]) (by kernel_rfl)) (X.kc (.slice none 0 0) rfl)) (enters_of Try.func81 (by kernel_rfl) rfl _)) (states2_nil ta ca tn tc cn cc f w3 hok hf) ?_
  clear F ac
  rintro e w4 ⟨la, N, lc, rfl, hR, g⟩
  have hRl := hR.len
  have hRt := hR.lt
  have hal := allV_len hok
  obtain ⟨ix, hix⟩ : ∃ ix, idxV (allV f) xs = ix := ⟨_, rfl⟩
  have hxa := idxV_at hm
  rw [hix] at hxa
  have hx1 := hxa.1
  refine ⟨_, rfl, ?_⟩
  intro ac F
  replace G := G.trans g
  replace hC := hC.gr g
  replace hf := hf.gr g
  replace hx := hx.gr g
  replace hy := hy.gr g
  clear g
  refine Y.pval F (X.w0 rfl) rfl (X.assign rfl (F.ev 15 (.slice la N lc) (by kernel_rfl))) ?_
  clear F ac
  intro ac F
  refine Y.nil ?_
  replace F : Fr ac 50 [(0, .agg #[.slice ta tn tc, .slice ca cn cc]), (1, .slice sa sn sc), (2, .slice ya sn yc), (3, .int .i64 bu), (4, .pointer (some ⟨w.heap.size, 0, none⟩)), (8, .slice none 0 0), (9, .bool false), (10, .slice la N lc)] := F.sub _ (by kernel_rfl)
  refine X.thenN ?_
  refine Y.seq ?_
  refine Y.lit (by kernel_rfl) ?_
  refine Y.pval F (X.w0 rfl) rfl (X.load rfl (F.ev 4 (.pointer (some ⟨w.heap.size, 0, none⟩)) (by kernel_rfl)) (X.ldN (Try.agg25 _) (Try.siz25 _) (X.c2 (hC.at 0 rfl) (hC.at 1 rfl)))) ?_
  clear F ac
  intro ac F
  refine Y.pval F (X.w0 rfl) rfl (X.move rfl (F.ev 10 (.slice la N lc) (by kernel_rfl))) ?_
  clear F ac
  intro ac F
  refine Y.pval F (X.w0 rfl) rfl (X.move rfl (F.ev 2 (.slice ya sn yc) (by kernel_rfl))) ?_
  clear F ac
  intro ac F
  refine Y.pval F (X.w0 rfl) rfl (X.move rfl (F.ev 3 (.int .i64 bu) (by kernel_rfl))) ?_
  clear F ac
  intro ac F
  refine Y.pcall F (X.w0 rfl) rfl (X.enter (F := 89) rfl (X.kc (.func (.func 89) #[] #[]) rfl) (X.a4 (F.ev 16 (.agg #[.slice ta tn tc, .slice ca cn cc]) (by kernel_rfl)) (F.ev 17 (.slice la N lc) (by kernel_rfl)) (F.ev 18 (.slice ya sn yc) (by kernel_rfl)) (F.ev 19 (.int .i64 bu) (by kernel_rfl))) (enters_of Try.func89 (by kernel_rfl) rfl _)) (roads_any ta ca la ya tn tc cn cc N lc sn yc f to bu w4 hf hR hy hok hto hsn hbu) ?_
  clear F ac
  rintro e w6 ⟨v_, rfl, hp, g⟩
  obtain ⟨ob, rfl, hO⟩ := hp
  refine ⟨_, rfl, ?_⟩
  intro ac F
  replace G := G.trans g
  replace hC := hC.gr g
  replace hf := hf.gr g
  replace hx := hx.gr g
  replace hy := hy.gr g
  replace hR := hR.gr g
  clear g
  refine Y.pval F (X.w0 rfl) rfl (X.assign rfl (F.ev 20 (.slice (some ⟨ob, 0, none⟩) N N) (by kernel_rfl))) ?_
  clear F ac
  intro ac F
  refine Y.nil ?_
  replace F : Fr ac 50 [(0, .agg #[.slice ta tn tc, .slice ca cn cc]), (1, .slice sa sn sc), (2, .slice ya sn yc), (3, .int .i64 bu), (4, .pointer (some ⟨w.heap.size, 0, none⟩)), (8, .slice none 0 0), (9, .bool false), (10, .slice la N lc), (11, .slice (some ⟨ob, 0, none⟩) N N)] := F.sub _ (by kernel_rfl)
  refine X.thenN ?_
  refine Y.seq ?_
  refine Y.lit (by kernel_rfl) ?_
  refine Y.pval F (X.w0 rfl) rfl (X.move rfl (F.ev 10 (.slice la N lc) (by kernel_rfl))) ?_
  clear F ac
  intro ac F
  refine Y.pval F (X.w0 rfl) rfl (X.move rfl (F.ev 1 (.slice sa sn sc) (by kernel_rfl))) ?_
  clear F ac
  intro ac F
  refine Y.pcall F (X.w0 rfl) rfl (X.enter (F := 88) rfl (X.kc (.func (.func 88) #[] #[]) rfl) (X.a2 (F.ev 21 (.slice la N lc) (by kernel_rfl)) (F.ev 22 (.slice sa sn sc) (by kernel_rfl))) (enters_of Try.func88 (by kernel_rfl) rfl _)) (index_any la sa N lc sn sc f xs w6 hR hx hm hsn hok) ?_
  clear F ac
  rintro e w7 ⟨rfl, g⟩
  refine ⟨_, rfl, ?_⟩
  intro ac F
  replace G := G.trans g
  replace hC := hC.gr g
  replace hf := hf.gr g
  replace hx := hx.gr g
  replace hy := hy.gr g
  replace hR := hR.gr g
  replace hO := hO.gr g
  clear g
  refine Y.pval F (X.w0 rfl) rfl (X.assign rfl (F.ev 23 (.int .i64 (idxV (allV f) xs : Nat)) (by kernel_rfl))) ?_
  clear F ac
  intro ac F
  refine Y.nil ?_
  replace F : Fr ac 50 [(0, .agg #[.slice ta tn tc, .slice ca cn cc]), (1, .slice sa sn sc), (2, .slice ya sn yc), (3, .int .i64 bu), (4, .pointer (some ⟨w.heap.size, 0, none⟩)), (8, .slice none 0 0), (9, .bool false), (10, .slice la N lc), (11, .slice (some ⟨ob, 0, none⟩) N N), (12, .int .i64 (idxV (allV f) xs : Nat))] := F.sub _ (by kernel_rfl)
  refine X.thenN ?_
  refine Y.seq ?_
  refine Y.seq ?_
  refine Y.lit (by kernel_rfl) ?_
  refine Y.pval F (X.w0 rfl) rfl (X.move rfl (F.ev 11 (.slice (some ⟨ob, 0, none⟩) N N) (by kernel_rfl))) ?_
  clear F ac
  intro ac F
  refine Y.pval F (X.w0 rfl) rfl (X.move rfl (F.ev 12 (.int .i64 (idxV (allV f) xs : Nat)) (by kernel_rfl))) ?_
  clear F ac
  intro ac F
  refine Y.pval F (X.w0 rfl) rfl (X.index rfl (F.ev 24 (.slice (some ⟨ob, 0, none⟩) N N) (by kernel_rfl)) (F.ev 25 (.int .i64 (idxV (allV f) xs : Nat)) (by kernel_rfl)) (X.idx (k := ix) Try.underlying114 (Try.siz117 _) (by omega) (by rw [← hix]) (addr_add0 _ _))) ?_
  clear F ac
  intro ac F
  refine Y.pval F (X.w0 rfl) rfl (X.field rfl (F.ev 26 (.pointer (some ⟨ob, ix * 3, none⟩)) (by kernel_rfl)) (X.fld Try.underlying117 rfl (Try.siz3 _) rfl rfl)) ?_
  clear F ac
  intro ac F
  replace hC : RCells w7 [(⟨w.heap.size, 0, none⟩, .slice ta tn tc), (⟨w.heap.size, 1, none⟩, .slice ca cn cc), (⟨ob, ix * 3, none⟩, .int .i64 (((roadsV f to bu)[ix]?.getD Rd.no).steps))] := hC.append ((RCells.cons (hO.c0 (j := ix) (by omega)) (RCells.nil _)))
  refine Y.pval F (X.w0 rfl) rfl (X.load rfl (F.ev 27 (.pointer (some ⟨ob, ix * 3, none⟩)) (by kernel_rfl)) (X.ld1 (Try.agg3 _) (hC.at 2 rfl))) ?_
  clear F ac
  intro ac F
  refine Y.pval F (X.w0 rfl) rfl (X.binop rfl (F.ev 28 (.int .i64 (((roadsV f to bu)[ix]?.getD Rd.no).steps)) (by kernel_rfl)) (X.kc (.int .i64 0) rfl) (X.lssI Try.underlying3 rfl)) ?_
  clear F ac
  intro ac F
  refine Y.nil ?_
  replace F : Fr ac 50 [(0, .agg #[.slice ta tn tc, .slice ca cn cc]), (1, .slice sa sn sc), (2, .slice ya sn yc), (3, .int .i64 bu), (4, .pointer (some ⟨w.heap.size, 0, none⟩)), (8, .slice none 0 0), (9, .bool false), (10, .slice la N lc), (11, .slice (some ⟨ob, 0, none⟩) N N), (12, .int .i64 (idxV (allV f) xs : Nat)), (29, .bool (decide ((((roadsV f to bu)[ix]?.getD Rd.no).steps : Int) < 0)))] := F.sub _ (by kernel_rfl)
  refine X.thenN ?_
  cases h8 : decide ((((roadsV f to bu)[ix]?.getD Rd.no).steps : Int) < 0) with
  | false =>
    try rw [h8] at F
    have h8p : ¬ ((((roadsV f to bu)[ix]?.getD Rd.no).steps : Int) < 0) := of_decide_eq_false h8
    have his : (bestV f to bu xs).is = true := by
      have h2 := roadsV_ok (bu := bu) hok hto hx1
      rw [hxa.2] at h2
      cases h3 : (bestV f to bu xs).is with
      | true => rfl
      | false => exact absurd ((road_is h2).2 h3) (by omega)
    refine Y.condF (F.ev 29 (.bool false) (by kernel_rfl)) ?_
    refine Y.skip ?_
    refine X.thenN ?_
    refine Y.seq ?_
    refine Y.lit (by kernel_rfl) ?_
    refine Y.pval F (X.w0 rfl) rfl (X.assign rfl (X.kc (.slice none 0 0) rfl)) ?_
    clear F ac
    intro ac F
    refine Y.nil ?_
    replace F : Fr ac 50 [(0, .agg #[.slice ta tn tc, .slice ca cn cc]), (1, .slice sa sn sc), (2, .slice ya sn yc), (3, .int .i64 bu), (4, .pointer (some ⟨w.heap.size, 0, none⟩)), (8, .slice none 0 0), (9, .bool false), (10, .slice la N lc), (11, .slice (some ⟨ob, 0, none⟩) N N), (12, .int .i64 (idxV (allV f) xs : Nat)), (13, .slice none 0 0), (29, .bool false)] := F.sub _ (by kernel_rfl)
    refine X.thenN ?_
    refine Y.seq ?_
    refine Y.seq ?_
    refine Y.lit (by kernel_rfl) ?_
    refine Y.pval F (X.w0 rfl) rfl (X.move rfl (F.ev 11 (.slice (some ⟨ob, 0, none⟩) N N) (by kernel_rfl))) ?_
    clear F ac
    intro ac F
    refine Y.pval F (X.w0 rfl) rfl (X.move rfl (F.ev 12 (.int .i64 (idxV (allV f) xs : Nat)) (by kernel_rfl))) ?_
    clear F ac
    intro ac F
    refine Y.pval F (X.w0 rfl) rfl (X.index rfl (F.ev 30 (.slice (some ⟨ob, 0, none⟩) N N) (by kernel_rfl)) (F.ev 31 (.int .i64 (idxV (allV f) xs : Nat)) (by kernel_rfl)) (X.idx (k := ix) Try.underlying114 (Try.siz117 _) (by omega) (by rw [← hix]) (addr_add0 _ _))) ?_
    clear F ac
    intro ac F
    refine Y.pval F (X.w0 rfl) rfl (X.field rfl (F.ev 32 (.pointer (some ⟨ob, ix * 3, none⟩)) (by kernel_rfl)) (X.fld Try.underlying117 rfl (Try.siz3 _) rfl rfl)) ?_
    clear F ac
    intro ac F
    replace hC : RCells w7 [(⟨w.heap.size, 0, none⟩, .slice ta tn tc), (⟨w.heap.size, 1, none⟩, .slice ca cn cc), (⟨ob, ix * 3, none⟩, .int .i64 (((roadsV f to bu)[ix]?.getD Rd.no).steps)), (⟨ob, ix * 3 + 2, none⟩, .int .i64 (((roadsV f to bu)[ix]?.getD Rd.no).nxt))] := hC.append ((RCells.cons (hO.c2 (j := ix) (by omega)) (RCells.nil _)))
    refine Y.pval F (X.w0 rfl) rfl (X.load rfl (F.ev 33 (.pointer (some ⟨ob, ix * 3 + 2, none⟩)) (by kernel_rfl)) (X.ld1 (Try.agg3 _) (hC.at 3 rfl))) ?_
    clear F ac
    intro ac F
    refine Y.pval F (X.w0 rfl) rfl (X.assign rfl (F.ev 34 (.int .i64 (((roadsV f to bu)[ix]?.getD Rd.no).nxt)) (by kernel_rfl))) ?_
    clear F ac
    intro ac F
    refine Y.nil ?_
    replace F : Fr ac 50 [(0, .agg #[.slice ta tn tc, .slice ca cn cc]), (1, .slice sa sn sc), (2, .slice ya sn yc), (3, .int .i64 bu), (4, .pointer (some ⟨w.heap.size, 0, none⟩)), (8, .slice none 0 0), (9, .bool false), (10, .slice la N lc), (11, .slice (some ⟨ob, 0, none⟩) N N), (12, .int .i64 (((roadsV f to bu)[ix]?.getD Rd.no).nxt)), (13, .slice none 0 0), (29, .bool false)] := F.sub _ (by kernel_rfl)
    refine X.thenN ?_
    refine Y.block ?_
    have hfA := hf
    have hxA := hx
    have hyA := hy
    have hRA := hR
    have hOA := hO
    have hCA := hC
    have G0A := G
    have GA := Gr.refl w7
    have hpx : wayV f to bu xs = pathV f to bu ((allV f)[ix]?.getD []) := by rw [hxa.2]; exact if_pos his
    have hbi : (bestV f to bu ((allV f)[ix]?.getD [])).is = true := by rw [hxa.2]; exact his
    refine Y.loop (fun me_ ac wr => ∃ (j : Nat) (vv : Value) (D : List (List Int)), me_ = gap ((allV f)[j]?.getD []) to + 1 ∧ Gr w7 wr ∧ j < N ∧ (bestV f to bu ((allV f)[j]?.getD [])).is = true ∧ OutB w7 wr vv D ∧ wayV f to bu xs = D ++ pathV f to bu ((allV f)[j]?.getD []) ∧ Fr ac 50 [(0, .agg #[.slice ta tn tc, .slice ca cn cc]), (1, .slice sa sn sc), (2, .slice ya sn yc), (3, .int .i64 bu), (4, .pointer (some ⟨w.heap.size, 0, none⟩)), (8, .slice none 0 0), (9, .bool false), (10, .slice la N lc), (11, .slice (some ⟨ob, 0, none⟩) N N), (12, .int .i64 (((roadsV f to bu)[j]?.getD Rd.no).nxt)), (13, vv), (29, .bool false)]) _ ⟨ix, _, [], rfl, GA, by omega, hbi, OutB.nil _, hpx, F.sub _ (by kernel_rfl)⟩ ?_
    clear F
    intro me_ ac w9 hI
    clear hO
    obtain ⟨j, vv, D, rfl, gr, hj, hbi, hV, hD, F⟩ := hI
    replace GA := gr
    clear gr
    replace G := G0A.trans GA
    replace hC := hCA.gr GA
    replace hf := hfA.gr GA
    replace hx := hxA.gr GA
    replace hy := hyA.gr GA
    replace hR := hRA.gr GA
    replace hO := hOA.gr GA
    refine Y.seq ?_
    refine Y.seq ?_
    refine Y.lit (by kernel_rfl) ?_
    refine Y.pval F (X.w0 rfl) rfl (X.move rfl (F.ev 12 (.int .i64 (((roadsV f to bu)[j]?.getD Rd.no).nxt)) (by kernel_rfl))) ?_
    clear F ac
    intro ac F
    refine Y.pval F (X.w0 rfl) rfl (X.binop rfl (F.ev 35 (.int .i64 (((roadsV f to bu)[j]?.getD Rd.no).nxt)) (by kernel_rfl)) (X.kc (.int .i64 0) rfl) (X.geqI Try.underlying3 rfl)) ?_
    clear F ac
    intro ac F
    refine Y.nil ?_
    replace F : Fr ac 50 [(0, .agg #[.slice ta tn tc, .slice ca cn cc]), (1, .slice sa sn sc), (2, .slice ya sn yc), (3, .int .i64 bu), (4, .pointer (some ⟨w.heap.size, 0, none⟩)), (8, .slice none 0 0), (9, .bool false), (10, .slice la N lc), (11, .slice (some ⟨ob, 0, none⟩) N N), (12, .int .i64 (((roadsV f to bu)[j]?.getD Rd.no).nxt)), (13, vv), (29, .bool false), (36, .bool (decide ((0 : Int) ≤ (((roadsV f to bu)[j]?.getD Rd.no).nxt))))] := F.sub _ (by kernel_rfl)
    refine X.thenN ?_
    cases h10 : decide ((0 : Int) ≤ (((roadsV f to bu)[j]?.getD Rd.no).nxt)) with
    | false =>
      try rw [h10] at F
      have h10p : ¬ ((0 : Int) ≤ (((roadsV f to bu)[j]?.getD Rd.no).nxt)) := of_decide_eq_false h10
      have hps := road_stop (bu := bu) hok hto (j := j) (by omega) hbi (by omega)
      rw [hps, List.append_nil] at hD
      refine Y.condF (F.ev 36 (.bool false) (by kernel_rfl)) ?_
      refine Y.exit ?_
      refine X.thenX ?_
      refine X.thenX ?_
      refine X.blockX ?_
      refine X.thenN ?_
      refine Y.seq ?_
      refine Y.lit (by kernel_rfl) ?_
      refine Y.pval F (X.w0 rfl) rfl (X.move rfl (F.ev 13 (vv) (by kernel_rfl))) ?_
      clear F ac
      intro ac F
      refine Y.pval F (X.w0 rfl) rfl (X.assign rfl (F.ev 49 (vv) (by kernel_rfl))) ?_
      clear F ac
      intro ac F
      refine Y.pval F (X.w0 rfl) rfl (X.assign rfl (X.kc (.bool true) rfl)) ?_
      clear F ac
      intro ac F
      refine Y.nil ?_
      replace F : Fr ac 50 [(0, .agg #[.slice ta tn tc, .slice ca cn cc]), (1, .slice sa sn sc), (2, .slice ya sn yc), (3, .int .i64 bu), (4, .pointer (some ⟨w.heap.size, 0, none⟩)), (8, vv), (9, .bool true), (10, .slice la N lc), (11, .slice (some ⟨ob, 0, none⟩) N N), (12, .int .i64 (((roadsV f to bu)[j]?.getD Rd.no).nxt)), (13, vv), (29, .bool false), (36, .bool false)] := F.sub _ (by kernel_rfl)
      refine X.thenN ?_
      refine Y.ret ?_
      have hDl : D.length ≤ 18 := by rw [← hD]; exact way_len hok hto hsx
      obtain ⟨oa, oc, rfl, hOr⟩ := hV.rows (by omega)
      exact Y.ret0 F (Y.rs2 F rfl (by kernel_rfl) (by kernel_rfl)) ⟨oa, _, oc, by rw [his], by rw [hD]; exact hOr, G⟩
    | true =>
      try rw [h10] at F
      have h10p : ((0 : Int) ≤ (((roadsV f to bu)[j]?.getD Rd.no).nxt)) := of_decide_eq_true h10
      obtain ⟨j2, hj1, hj2, hj3, hj4, hj5, hj6⟩ := road_go (bu := bu) hok hto (j := j) (by omega) hbi (by omega)
      rw [hj1] at F
      have hDl : D.length ≤ 18 := by
        have h1 := way_len hok hto (bu := bu) hsx
        rw [hD, hj3] at h1
        simp at h1
        omega
      refine Y.condT (F.ev 36 (.bool true) (by kernel_rfl)) ?_
      refine Y.skip ?_
      refine X.thenN ?_
      refine Y.seq ?_
      refine Y.block ?_
      refine Y.lit (by kernel_rfl) ?_
      refine Y.pval F (X.w0 rfl) rfl (X.move rfl (F.ev 13 (vv) (by kernel_rfl))) ?_
      clear F ac
      intro ac F
      refine Y.pval F (X.w0 rfl) rfl (X.move rfl (F.ev 10 (.slice la N lc) (by kernel_rfl))) ?_
      clear F ac
      intro ac F
      refine Y.pval F (X.w0 rfl) rfl (X.move rfl (F.ev 12 (.int .i64 j2) (by kernel_rfl))) ?_
      clear F ac
      intro ac F
      obtain ⟨pd11, pa11, rn11, pq11, pe11, -, pc11, pi11⟩ := hRA.at (j := j2) (by omega)
      subst pe11
      replace hCA : RCells w7 [(⟨w.heap.size, 0, none⟩, .slice ta tn tc), (⟨w.heap.size, 1, none⟩, .slice ca cn cc), (⟨ob, ix * 3, none⟩, .int .i64 (((roadsV f to bu)[ix]?.getD Rd.no).steps)), (⟨ob, ix * 3 + 2, none⟩, .int .i64 (((roadsV f to bu)[ix]?.getD Rd.no).nxt)), (pd11.add j2, .slice pa11 rn11 pq11)] := hCA.append ((RCells.cons pc11 (RCells.nil _)))
      replace hC : RCells w9 [(⟨w.heap.size, 0, none⟩, .slice ta tn tc), (⟨w.heap.size, 1, none⟩, .slice ca cn cc), (⟨ob, ix * 3, none⟩, .int .i64 (((roadsV f to bu)[ix]?.getD Rd.no).steps)), (⟨ob, ix * 3 + 2, none⟩, .int .i64 (((roadsV f to bu)[ix]?.getD Rd.no).nxt)), (pd11.add j2, .slice pa11 rn11 pq11)] := hC.append ((RCells.cons ((GA.cell (lt_cell pc11)).trans pc11) (RCells.nil _)))
      clear pc11
      have pi11A := pi11
      replace pi11 := pi11.gr GA
      refine Y.pval F (X.w0 rfl) rfl (X.index rfl (F.ev 43 (.slice (some pd11) N lc) (by kernel_rfl)) (F.ev 44 (.int .i64 j2) (by kernel_rfl)) (X.idx (k := j2) Try.underlying22 (Try.siz26 _) (by omega) (by omega) (by rw [Nat.mul_one]))) ?_
      clear F ac
      intro ac F
      refine Y.pval F (X.w0 rfl) rfl (X.load rfl (F.ev 45 (.pointer (some (pd11.add j2))) (by kernel_rfl)) (X.ld1 (Try.agg26 _) (hC.at 4 rfl))) ?_
      clear F ac
      intro ac F
      refine Y.pval F (X.w0 rfl) rfl (X.bs rfl (X.b1 (F.ev 46 (.slice pa11 rn11 pq11) (by kernel_rfl))) (Try.bs22a _ _ _ _)) ?_
      clear F ac
      intro ac F
      have g := Gr.alloc w9 (.cells #[.slice pa11 rn11 pq11] 26)
      have hb := heap_alloc_new w9 (.cells #[.slice pa11 rn11 pq11] 26)
      have hbl : w9.heap.size < (w9.alloc (.cells #[.slice pa11 rn11 pq11] 26)).heap.size := by simp
      generalize w9.alloc (.cells #[.slice pa11 rn11 pq11] 26) = w12 at *
      replace G := G.trans g
      replace hC := hC.gr g
      replace GA := GA.trans g
      replace hf := hf.gr g
      replace hx := hx.gr g
      replace hy := hy.gr g
      replace hR := hR.gr g
      replace hO := hO.gr g
      replace hV := hV.gr g
      replace pi11 := pi11.gr g
      have hbk := hb
      clear g hb hbl
      refine Y.ppushB rfl rfl (F.ev 42 (vv) (by kernel_rfl)) (F.ev 47 (.slice (some ⟨w9.heap.size, 0, none⟩) 1 1) (by kernel_rfl)) hbk hV pi11A (by omega) ?_
      intro v' w13 hV' GA'
      refine Y.pput F rfl ?_
      clear F ac
      intro ac F
      replace GA := GA'
      replace G := G0A.trans GA
      replace hf := hfA.gr GA
      replace hx := hxA.gr GA
      replace hy := hyA.gr GA
      replace hR := hRA.gr GA
      replace hO := hOA.gr GA
      replace pi11 := pi11A.gr GA
      replace hC := hCA.gr GA
      refine Y.pval F (X.w0 rfl) rfl (X.assign rfl (F.ev 48 (v') (by kernel_rfl))) ?_
      clear F ac
      intro ac F
      refine Y.nil ?_
      replace F : Fr ac 50 [(0, .agg #[.slice ta tn tc, .slice ca cn cc]), (1, .slice sa sn sc), (2, .slice ya sn yc), (3, .int .i64 bu), (4, .pointer (some ⟨w.heap.size, 0, none⟩)), (8, .slice none 0 0), (9, .bool false), (10, .slice (some pd11) N lc), (11, .slice (some ⟨ob, 0, none⟩) N N), (12, .int .i64 j2), (13, v'), (29, .bool false), (36, .bool true)] := F.sub _ (by kernel_rfl)
      refine X.blockN ?_
      refine X.thenN ?_
      refine Y.lit (by kernel_rfl) ?_
      refine Y.pval F (X.w0 rfl) rfl (X.move rfl (F.ev 11 (.slice (some ⟨ob, 0, none⟩) N N) (by kernel_rfl))) ?_
      clear F ac
      intro ac F
      refine Y.pval F (X.w0 rfl) rfl (X.move rfl (F.ev 12 (.int .i64 j2) (by kernel_rfl))) ?_
      clear F ac
      intro ac F
      refine Y.pval F (X.w0 rfl) rfl (X.index rfl (F.ev 37 (.slice (some ⟨ob, 0, none⟩) N N) (by kernel_rfl)) (F.ev 38 (.int .i64 j2) (by kernel_rfl)) (X.idx (k := j2) Try.underlying114 (Try.siz117 _) (by omega) (by omega) (addr_add0 _ _))) ?_
      clear F ac
      intro ac F
      refine Y.pval F (X.w0 rfl) rfl (X.field rfl (F.ev 39 (.pointer (some ⟨ob, j2 * 3, none⟩)) (by kernel_rfl)) (X.fld Try.underlying117 rfl (Try.siz3 _) rfl rfl)) ?_
      clear F ac
      intro ac F
      replace hC : RCells w13 [(⟨w.heap.size, 0, none⟩, .slice ta tn tc), (⟨w.heap.size, 1, none⟩, .slice ca cn cc), (⟨ob, ix * 3, none⟩, .int .i64 (((roadsV f to bu)[ix]?.getD Rd.no).steps)), (⟨ob, ix * 3 + 2, none⟩, .int .i64 (((roadsV f to bu)[ix]?.getD Rd.no).nxt)), (pd11.add j2, .slice pa11 rn11 pq11), (⟨ob, j2 * 3 + 2, none⟩, .int .i64 (((roadsV f to bu)[j2]?.getD Rd.no).nxt))] := hC.append ((RCells.cons (hO.c2 (j := j2) (by omega)) (RCells.nil _)))
      refine Y.pval F (X.w0 rfl) rfl (X.load rfl (F.ev 40 (.pointer (some ⟨ob, j2 * 3 + 2, none⟩)) (by kernel_rfl)) (X.ld1 (Try.agg3 _) (hC.at 5 rfl))) ?_
      clear F ac
      intro ac F
      refine Y.pval F (X.w0 rfl) rfl (X.assign rfl (F.ev 41 (.int .i64 (((roadsV f to bu)[j2]?.getD Rd.no).nxt)) (by kernel_rfl))) ?_
      clear F ac
      intro ac F
      refine Y.nil ?_
      replace F : Fr ac 50 [(0, .agg #[.slice ta tn tc, .slice ca cn cc]), (1, .slice sa sn sc), (2, .slice ya sn yc), (3, .int .i64 bu), (4, .pointer (some ⟨w.heap.size, 0, none⟩)), (8, .slice none 0 0), (9, .bool false), (10, .slice (some pd11) N lc), (11, .slice (some ⟨ob, 0, none⟩) N N), (12, .int .i64 (((roadsV f to bu)[j2]?.getD Rd.no).nxt)), (13, v'), (29, .bool false), (36, .bool true)] := F.sub _ (by kernel_rfl)
      refine X.thenN ?_
      refine ⟨_, ?_, j2, v', D ++ [(allV f)[j2]?.getD []], rfl, GA, by omega, hj4, hV', by rw [hD, hj3, List.append_assoc]; rfl, F.sub _ (by kernel_rfl)⟩
      omega
  | true =>
    try rw [h8] at F
    have h8p : ((((roadsV f to bu)[ix]?.getD Rd.no).steps : Int) < 0) := of_decide_eq_true h8
    have his : (bestV f to bu xs).is = false := by
      have := roadsV_ok (bu := bu) hok hto hx1
      rw [hxa.2] at this
      exact (road_is this).1 (by omega)
    refine Y.condT (F.ev 29 (.bool true) (by kernel_rfl)) ?_
    refine Y.seq ?_
    refine Y.lit (by kernel_rfl) ?_
    refine Y.pval F (X.w0 rfl) rfl (X.assign rfl (X.kc (.slice none 0 0) rfl)) ?_
    clear F ac
    intro ac F
    refine Y.pval F (X.w0 rfl) rfl (X.assign rfl (X.kc (.bool false) rfl)) ?_
    clear F ac
    intro ac F
    refine Y.nil ?_
    replace F : Fr ac 50 [(0, .agg #[.slice ta tn tc, .slice ca cn cc]), (1, .slice sa sn sc), (2, .slice ya sn yc), (3, .int .i64 bu), (4, .pointer (some ⟨w.heap.size, 0, none⟩)), (8, .slice none 0 0), (9, .bool false), (10, .slice la N lc), (11, .slice (some ⟨ob, 0, none⟩) N N), (12, .int .i64 (idxV (allV f) xs : Nat)), (29, .bool true)] := F.sub _ (by kernel_rfl)
    refine X.thenN ?_
    refine Y.ret ?_
    refine X.thenR ?_
    exact Y.ret0 F (Y.rs2 F rfl (by kernel_rfl) (by kernel_rfl)) ⟨none, 0, 0, by rw [his], by unfold wayV; rw [his]; exact RowsAt.nil _, G⟩
end
section
open Go.RowKit

theorem beginE_bu {f : Fl} {bu : Int} {L : List (List Int)} (h : beginE f bu L = 0) : 0 ≤ bu ∧ bu ≤ 1000000 := by
  unfold beginE at h
  by_cases hz : statesE f L = 0
  · rw [if_pos hz] at h
    cases hw : withinB bu 0 1000000 with
    | false => rw [hw] at h; simp at h
    | true => simpa [withinB] using hw
  · rw [if_neg hz] at h; exact absurd h hz
theorem planned_bu {f : Fl} {xs ys : List Int} {a b : Int} (ha : 0 ≤ a ∧ a ≤ 1000000) (hb : 0 ≤ b ∧ b ≤ 1000000) : plannedE f xs ys a = plannedE f xs ys b := by
  unfold plannedE beginE
  rw [withinB_bu ha.1 ha.2, withinB_bu hb.1 hb.2]
theorem leastE_plan {f : Fl} {xs ys : List Int} : leastE f xs ys = planE f xs ys 1000000 := by
  have h := planE_of_least (f := f) (a := xs) (b := ys) (bu := 1000000) (by omega) (by omega)
  rw [h]
  by_cases he : leastE f xs ys = 0
  · rw [if_pos he]
    have hab : StOk f xs ∧ StOk f ys ∧ FlOk f ∧ aboveV ys xs = true := by
      unfold leastE at he
      by_cases hz : statesE f [xs, ys] = 0
      · rw [if_pos hz] at he
        obtain ⟨hok, hx, hy⟩ := statesE_ok2 hz
        refine ⟨hx, hy, hok, ?_⟩
        split at he
        · split at he
          · assumption
          · cases he
        · cases he
      · rw [if_neg hz] at he; exact absurd he hz
    have := leastV_bd hab.2.2.1 hab.1 hab.2.1 hab.2.2.2
    rw [if_pos (by omega), he]
  · rw [if_neg he]
theorem least_of_planned {f : Fl} {xs ys : List Int} (h : ¬ plannedE f xs ys 0 = 0) : leastE f xs ys = plannedE f xs ys 0 := by
  rw [planned_bu (a := 0) (b := 1000000) (by omega) (by omega)] at h ⊢
  rw [leastE_plan]
  exact if_neg h
theorem least_yes {f : Fl} {xs ys : List Int} (h : plannedE f xs ys 0 = 0) (hi : (bestV f ys 1000000 xs).is = true) : leastE f xs ys = 0 := by
  rw [planned_bu (a := 0) (b := 1000000) (by omega) (by omega)] at h
  rw [leastE_plan]
  unfold planE
  rw [if_pos h, hi]; rfl
theorem least_no {f : Fl} {xs ys : List Int} (h : plannedE f xs ys 0 = 0) (hi : (bestV f ys 1000000 xs).is = false) : leastE f xs ys = 112 := by
  rw [planned_bu (a := 0) (b := 1000000) (by omega) (by omega)] at h
  rw [leastE_plan]
  unfold planE
  rw [if_pos h, hi]; rfl
theorem best_above {f : Fl} {to : List Int} {bu : Int} {s : List Int} (hs : StOk f s) (hto : StOk f to) (h : (bestV f to bu s).is = true) : aboveV to s = true := by
  have hl : s.length = to.length := by rw [hs.len, hto.len]
  by_cases he : s = to
  · rw [he]; exact aboveV_refl to
  · cases ha : aboveV to s with
    | true => rfl
    | false => rw [bestV_eq hl, if_neg he, ha] at h; simp [Rs.no] at h

set_option maxRecDepth 100000 in
set_option maxHeartbeats 400000 in
theorem plan2_any (ta ca a b : Option Addr) (tn tc cn cc n c m d : Nat) (f : Fl) (xs ys : List Int) (bu : Int) (w : World) (hf : FlAt w ta tn ca cn f) (hx : Ints w a n xs) (hy : Ints w b m ys) :
    Calls Try.prog 18 #[.agg #[.slice ta tn tc, .slice ca cn cc], .slice a n c, .slice b m d, .int .i64 bu] w fun e w' => ∃ ra rn rc, e = .returned (.tuple #[.slice ra rn rc, .int .i64 (planE f xs ys bu)]) ∧ RowsAt w' ra rn (planV f xs ys bu) ∧ Gr w w' := by
  have G := Gr.refl w
  refine Y.calls 32 Try.func18 rfl rfl ?_
  intro ac F0
  have F : Fr ac 32 [(0, .agg #[.slice ta tn tc, .slice ca cn cc]), (1, .slice a n c), (2, .slice b m d), (3, .int .i64 bu)] := F0.sub _ (by kernel_rfl)
  clear F0
  refine Y.seq ?_
  refine Y.lit (by kernel_rfl) ?_
  refine Y.pval F (X.w0 rfl) rfl (X.box rfl (F.ev 0 (.agg #[.slice ta tn tc, .slice ca cn cc]) (by kernel_rfl)) X.bx) ?_
  clear F ac
  intro ac F
  have g := Gr.alloc w (.cells #[.slice ta tn tc, .slice ca cn cc] 25)
  have hb := heap_alloc_new w (.cells #[.slice ta tn tc, .slice ca cn cc] 25)
  have hbl : w.heap.size < (w.alloc (.cells #[.slice ta tn tc, .slice ca cn cc] 25)).heap.size := by simp
  have hC2 : RCells (w.alloc (.cells #[.slice ta tn tc, .slice ca cn cc] 25)) [(⟨w.heap.size, 0, none⟩, .slice ta tn tc), (⟨w.heap.size, 1, none⟩, .slice ca cn cc)] := (RCells.nil w).box (b := w.heap.size) #[.slice ta tn tc, .slice ca cn cc] 25 rfl
  generalize w.alloc (.cells #[.slice ta tn tc, .slice ca cn cc] 25) = w3 at *
  replace G := G.trans g
  have hC := hC2
  clear hC2
  replace hf := hf.gr g
  replace hx := hx.gr g
  replace hy := hy.gr g
  clear g hb hbl
  refine Y.pval F (X.w0 rfl) rfl (X.assign rfl (X.kc (.slice none 0 0) rfl)) ?_
  clear F ac
  intro ac F
  refine Y.pval F (X.w0 rfl) rfl (X.assign rfl (X.kc (.int .i64 0) rfl)) ?_
  clear F ac
  intro ac F
  refine Y.nil ?_
  replace F : Fr ac 32 [(0, .agg #[.slice ta tn tc, .slice ca cn cc]), (1, .slice a n c), (2, .slice b m d), (3, .int .i64 bu), (4, .pointer (some ⟨w.heap.size, 0, none⟩)), (8, .slice none 0 0), (9, .int .i64 0)] := F.sub _ (by kernel_rfl)
  refine X.thenN ?_
  refine Y.seq ?_
  refine Y.seq ?_
  refine Y.lit (by kernel_rfl) ?_
  refine Y.pval F (X.w0 rfl) rfl (X.load rfl (F.ev 4 (.pointer (some ⟨w.heap.size, 0, none⟩)) (by kernel_rfl)) (X.ldN (Try.agg25 _) (Try.siz25 _) (X.c2 (hC.at 0 rfl) (hC.at 1 rfl)))) ?_
  clear F ac
  intro ac F
  refine Y.pval F (X.w0 rfl) rfl (X.move rfl (F.ev 1 (.slice a n c) (by kernel_rfl))) ?_
  clear F ac
  intro ac F
  refine Y.pval F (X.w0 rfl) rfl (X.move rfl (F.ev 2 (.slice b m d) (by kernel_rfl))) ?_
  clear F ac
  intro ac F
  refine Y.pval F (X.w0 rfl) rfl (X.move rfl (F.ev 3 (.int .i64 bu) (by kernel_rfl))) ?_
  clear F ac
  intro ac F
  refine Y.pcall F (X.w0 rfl) rfl (X.enter (F := 52) rfl (X.kc (.func (.func 52) #[] #[]) rfl) (X.a4 (F.ev 13 (.agg #[.slice ta tn tc, .slice ca cn cc]) (by kernel_rfl)) (F.ev 14 (.slice a n c) (by kernel_rfl)) (F.ev 15 (.slice b m d) (by kernel_rfl)) (F.ev 16 (.int .i64 bu) (by kernel_rfl))) (enters_of Try.func52 (by kernel_rfl) rfl _)) (planned_any ta ca a b tn tc cn cc n c m d f xs ys bu w3 hf hx hy) ?_
  clear F ac
  rintro e w4 ⟨rfl, g⟩
  refine ⟨_, rfl, ?_⟩
  intro ac F
  replace G := G.trans g
  replace hC := hC.gr g
  replace hf := hf.gr g
  replace hx := hx.gr g
  replace hy := hy.gr g
  clear g
  refine Y.pval F (X.w0 rfl) rfl (X.assign rfl (F.ev 17 (.int .i64 (plannedE f xs ys bu)) (by kernel_rfl))) ?_
  clear F ac
  intro ac F
  refine Y.nil ?_
  replace F : Fr ac 32 [(0, .agg #[.slice ta tn tc, .slice ca cn cc]), (1, .slice a n c), (2, .slice b m d), (3, .int .i64 bu), (4, .pointer (some ⟨w.heap.size, 0, none⟩)), (8, .slice none 0 0), (9, .int .i64 0), (10, .int .i64 (plannedE f xs ys bu))] := F.sub _ (by kernel_rfl)
  refine X.thenN ?_
  refine Y.seq ?_
  refine Y.lit (by kernel_rfl) ?_
  refine Y.pval F (X.w0 rfl) rfl (X.move rfl (F.ev 10 (.int .i64 (plannedE f xs ys bu)) (by kernel_rfl))) ?_
  clear F ac
  intro ac F
  refine Y.pval F (X.w0 rfl) rfl (X.binop rfl (F.ev 18 (.int .i64 (plannedE f xs ys bu)) (by kernel_rfl)) (X.kc (.int .i64 0) rfl) (X.neqI Try.underlying31 rfl)) ?_
  clear F ac
  intro ac F
  refine Y.nil ?_
  replace F : Fr ac 32 [(0, .agg #[.slice ta tn tc, .slice ca cn cc]), (1, .slice a n c), (2, .slice b m d), (3, .int .i64 bu), (4, .pointer (some ⟨w.heap.size, 0, none⟩)), (8, .slice none 0 0), (9, .int .i64 0), (10, .int .i64 (plannedE f xs ys bu)), (19, .bool ((plannedE f xs ys bu : Int) != 0))] := F.sub _ (by kernel_rfl)
  refine X.thenN ?_
  cases h5 : ((plannedE f xs ys bu : Int) != 0) with
  | false =>
    try rw [h5] at F
    have h5p : (plannedE f xs ys bu : Int) = 0 := by simpa using h5
    obtain ⟨hbe, hwx, hwy⟩ := plannedE_ok h5p
    obtain ⟨hok, hsx, hsy⟩ := beginE_ok hbe
    have hbu := (beginE_bu hbe).2
    have hm := allV_has hsx hwx
    have HPE : plannedE f xs ys bu = 0 := h5p
    obtain rfl : n = m := by rw [← hx.len, ← hy.len, hsx.len, hsy.len]
    have hsn : n = f.times.length := by rw [← hsx.len, hx.len]
    refine Y.condF (F.ev 19 (.bool false) (by kernel_rfl)) ?_
    refine Y.skip ?_
    refine X.thenN ?_
    refine Y.seq ?_
    refine Y.lit (by kernel_rfl) ?_
    refine Y.pval F (X.w0 rfl) rfl (X.load rfl (F.ev 4 (.pointer (some ⟨w.heap.size, 0, none⟩)) (by kernel_rfl)) (X.ldN (Try.agg25 _) (Try.siz25 _) (X.c2 (hC.at 0 rfl) (hC.at 1 rfl)))) ?_
    clear F ac
    intro ac F
    refine Y.pval F (X.w0 rfl) rfl (X.move rfl (F.ev 1 (.slice a n c) (by kernel_rfl))) ?_
    clear F ac
    intro ac F
    refine Y.pval F (X.w0 rfl) rfl (X.move rfl (F.ev 2 (.slice b n d) (by kernel_rfl))) ?_
    clear F ac
    intro ac F
    refine Y.pval F (X.w0 rfl) rfl (X.move rfl (F.ev 3 (.int .i64 bu) (by kernel_rfl))) ?_
    clear F ac
    intro ac F
    refine Y.pcall F (X.w0 rfl) rfl (X.enter (F := 53) rfl (X.kc (.func (.func 53) #[] #[]) rfl) (X.a4 (F.ev 22 (.agg #[.slice ta tn tc, .slice ca cn cc]) (by kernel_rfl)) (F.ev 23 (.slice a n c) (by kernel_rfl)) (F.ev 24 (.slice b n d) (by kernel_rfl)) (F.ev 25 (.int .i64 bu) (by kernel_rfl))) (enters_of Try.func53 (by kernel_rfl) rfl _)) (plan3_any ta ca a b tn tc cn cc n c d f xs ys bu w4 hf hx hy hok hsx hsy hm hsn hbu) ?_
    clear F ac
    rintro e w7 ⟨ra6, rn6, rc6, rfl, hR6, g⟩
    refine ⟨_, rfl, ?_⟩
    intro ac F
    replace G := G.trans g
    replace hC := hC.gr g
    replace hf := hf.gr g
    replace hx := hx.gr g
    replace hy := hy.gr g
    clear g
    refine Y.pval F (X.w0 rfl) rfl (X.move rfl (F.ev 26 (.tuple #[.slice ra6 rn6 rc6, .bool ((bestV f ys bu xs).is)]) (by kernel_rfl))) ?_
    clear F ac
    intro ac F
    refine Y.pval F (X.w0 rfl) rfl (X.extract rfl (F.ev 21 (.tuple #[.slice ra6 rn6 rc6, .bool ((bestV f ys bu xs).is)]) (by kernel_rfl)) rfl) ?_
    clear F ac
    intro ac F
    refine Y.pval F (X.w0 rfl) rfl (X.extract rfl (F.ev 21 (.tuple #[.slice ra6 rn6 rc6, .bool ((bestV f ys bu xs).is)]) (by kernel_rfl)) rfl) ?_
    clear F ac
    intro ac F
    refine Y.pval F (X.w0 rfl) rfl (X.assign rfl (F.ev 27 (.slice ra6 rn6 rc6) (by kernel_rfl))) ?_
    clear F ac
    intro ac F
    refine Y.pval F (X.w0 rfl) rfl (X.assign rfl (F.ev 28 (.bool ((bestV f ys bu xs).is)) (by kernel_rfl))) ?_
    clear F ac
    intro ac F
    refine Y.nil ?_
    replace F : Fr ac 32 [(0, .agg #[.slice ta tn tc, .slice ca cn cc]), (1, .slice a n c), (2, .slice b n d), (3, .int .i64 bu), (4, .pointer (some ⟨w.heap.size, 0, none⟩)), (8, .slice none 0 0), (9, .int .i64 0), (10, .int .i64 (plannedE f xs ys bu)), (11, .slice ra6 rn6 rc6), (12, .bool ((bestV f ys bu xs).is)), (19, .bool false)] := F.sub _ (by kernel_rfl)
    refine X.thenN ?_
    refine Y.seq ?_
    refine Y.seq ?_
    refine Y.lit (by kernel_rfl) ?_
    refine Y.pval F (X.w0 rfl) rfl (X.move rfl (F.ev 12 (.bool ((bestV f ys bu xs).is)) (by kernel_rfl))) ?_
    clear F ac
    intro ac F
    refine Y.pval F (X.w0 rfl) rfl (X.notB rfl (F.ev 29 (.bool ((bestV f ys bu xs).is)) (by kernel_rfl)) rfl) ?_
    clear F ac
    intro ac F
    refine Y.nil ?_
    replace F : Fr ac 32 [(0, .agg #[.slice ta tn tc, .slice ca cn cc]), (1, .slice a n c), (2, .slice b n d), (3, .int .i64 bu), (4, .pointer (some ⟨w.heap.size, 0, none⟩)), (8, .slice none 0 0), (9, .int .i64 0), (10, .int .i64 (plannedE f xs ys bu)), (11, .slice ra6 rn6 rc6), (12, .bool ((bestV f ys bu xs).is)), (19, .bool false), (30, .bool (!((bestV f ys bu xs).is)))] := F.sub _ (by kernel_rfl)
    refine X.thenN ?_
    cases h8 : (bestV f ys bu xs).is with
    | false =>
      try rw [h8] at F
      have HE : planE f xs ys bu = 112 := by unfold planE; rw [if_pos HPE, h8]; rfl
      have HV : planV f xs ys bu = [] := by unfold planV; rw [if_neg (by rw [HE]; decide)]
      refine Y.condT (F.ev 30 (.bool true) (by kernel_rfl)) ?_
      refine Y.seq ?_
      refine Y.lit (by kernel_rfl) ?_
      refine Y.pval F (X.w0 rfl) rfl (X.assign rfl (X.kc (.slice none 0 0) rfl)) ?_
      clear F ac
      intro ac F
      refine Y.pval F (X.w0 rfl) rfl (X.assign rfl (X.kc (.int .i64 112) rfl)) ?_
      clear F ac
      intro ac F
      refine Y.nil ?_
      replace F : Fr ac 32 [(0, .agg #[.slice ta tn tc, .slice ca cn cc]), (1, .slice a n c), (2, .slice b n d), (3, .int .i64 bu), (4, .pointer (some ⟨w.heap.size, 0, none⟩)), (8, .slice none 0 0), (9, .int .i64 112), (10, .int .i64 (plannedE f xs ys bu)), (11, .slice ra6 rn6 rc6), (12, .bool false), (19, .bool false), (30, .bool true)] := F.sub _ (by kernel_rfl)
      refine X.thenN ?_
      refine Y.ret ?_
      refine X.thenR ?_
      exact Y.ret0 F (Y.rs2 F rfl (by kernel_rfl) (by kernel_rfl)) ⟨none, 0, 0, by rw [HE], by rw [HV]; exact RowsAt.nil _, G⟩
    | true =>
      try rw [h8] at F
      have HE : planE f xs ys bu = 0 := by unfold planE; rw [if_pos HPE, h8]; rfl
      have HV : planV f xs ys bu = wayV f ys bu xs := by unfold planV wayV; rw [if_pos HE, h8]; rfl
      refine Y.condF (F.ev 30 (.bool false) (by kernel_rfl)) ?_
      refine Y.skip ?_
      refine X.thenN ?_
      refine Y.seq ?_
      refine Y.lit (by kernel_rfl) ?_
      refine Y.pval F (X.w0 rfl) rfl (X.move rfl (F.ev 11 (.slice ra6 rn6 rc6) (by kernel_rfl))) ?_
      clear F ac
      intro ac F
      refine Y.pval F (X.w0 rfl) rfl (X.assign rfl (F.ev 31 (.slice ra6 rn6 rc6) (by kernel_rfl))) ?_
      clear F ac
      intro ac F
      refine Y.pval F (X.w0 rfl) rfl (X.assign rfl (X.kc (.int .i64 0) rfl)) ?_
      clear F ac
      intro ac F
      refine Y.nil ?_
      replace F : Fr ac 32 [(0, .agg #[.slice ta tn tc, .slice ca cn cc]), (1, .slice a n c), (2, .slice b n d), (3, .int .i64 bu), (4, .pointer (some ⟨w.heap.size, 0, none⟩)), (8, .slice ra6 rn6 rc6), (9, .int .i64 0), (10, .int .i64 (plannedE f xs ys bu)), (11, .slice ra6 rn6 rc6), (12, .bool true), (19, .bool false), (30, .bool false)] := F.sub _ (by kernel_rfl)
      refine X.thenN ?_
      refine Y.ret ?_
      exact Y.ret0 (v := .tuple #[.slice ra6 rn6 rc6, .int .i64 0]) F (Y.rs2 F rfl (by kernel_rfl) (by kernel_rfl)) ⟨ra6, rn6, rc6, by rw [HE], by rw [HV]; exact hR6, G⟩
  | true =>
    try rw [h5] at F
    have h5p : ¬ (plannedE f xs ys bu : Int) = 0 := by simpa using h5
    have HE : planE f xs ys bu = plannedE f xs ys bu := if_neg h5p
    have HV : planV f xs ys bu = [] := by unfold planV; rw [if_neg (by rw [HE]; exact h5p)]
    refine Y.condT (F.ev 19 (.bool true) (by kernel_rfl)) ?_
    refine Y.seq ?_
    refine Y.lit (by kernel_rfl) ?_
    refine Y.pval F (X.w0 rfl) rfl (X.move rfl (F.ev 10 (.int .i64 (plannedE f xs ys bu)) (by kernel_rfl))) ?_
    clear F ac
    intro ac F
    refine Y.pval F (X.w0 rfl) rfl (X.assign rfl (X.kc (.slice none 0 0) rfl)) ?_
    clear F ac
    intro ac F
    refine Y.pval F (X.w0 rfl) rfl (X.assign rfl (F.ev 20 (.int .i64 (plannedE f xs ys bu)) (by kernel_rfl))) ?_
    clear F ac
    intro ac F
    refine Y.nil ?_
    replace F : Fr ac 32 [(0, .agg #[.slice ta tn tc, .slice ca cn cc]), (1, .slice a n c), (2, .slice b m d), (3, .int .i64 bu), (4, .pointer (some ⟨w.heap.size, 0, none⟩)), (8, .slice none 0 0), (9, .int .i64 (plannedE f xs ys bu)), (10, .int .i64 (plannedE f xs ys bu)), (19, .bool true)] := F.sub _ (by kernel_rfl)
    refine X.thenN ?_
    refine Y.ret ?_
    refine X.thenR ?_
    exact Y.ret0 F (Y.rs2 F rfl (by kernel_rfl) (by kernel_rfl)) ⟨none, 0, 0, by rw [HE], by rw [HV]; exact RowsAt.nil _, G⟩

set_option maxRecDepth 100000 in
set_option maxHeartbeats 400000 in
theorem least3_any (ta ca a b : Option Addr) (tn tc cn cc n c m d : Nat) (f : Fl) (xs ys : List Int) (w : World) (hf : FlAt w ta tn ca cn f) (hx : Ints w a n xs) (hy : Ints w b m ys) :
    Calls Try.prog 21 #[.agg #[.slice ta tn tc, .slice ca cn cc], .slice a n c, .slice b m d] w fun e w' => e = .returned (.tuple #[.int .i64 (leastR f xs ys), .int .i64 (leastE f xs ys)]) ∧ Gr w w' := by
  have G := Gr.refl w
  refine Y.calls 52 Try.func21 rfl rfl ?_
  intro ac F0
  have F : Fr ac 52 [(0, .agg #[.slice ta tn tc, .slice ca cn cc]), (1, .slice a n c), (2, .slice b m d)] := F0.sub _ (by kernel_rfl)
  clear F0
  refine Y.seq ?_
  refine Y.lit (by kernel_rfl) ?_
  refine Y.pval F (X.w0 rfl) rfl (X.box rfl (F.ev 0 (.agg #[.slice ta tn tc, .slice ca cn cc]) (by kernel_rfl)) X.bx) ?_
  clear F ac
  intro ac F
  have g := Gr.alloc w (.cells #[.slice ta tn tc, .slice ca cn cc] 25)
  have hb := heap_alloc_new w (.cells #[.slice ta tn tc, .slice ca cn cc] 25)
  have hbl : w.heap.size < (w.alloc (.cells #[.slice ta tn tc, .slice ca cn cc] 25)).heap.size := by simp
  have hC2 : RCells (w.alloc (.cells #[.slice ta tn tc, .slice ca cn cc] 25)) [(⟨w.heap.size, 0, none⟩, .slice ta tn tc), (⟨w.heap.size, 1, none⟩, .slice ca cn cc)] := (RCells.nil w).box (b := w.heap.size) #[.slice ta tn tc, .slice ca cn cc] 25 rfl
  generalize w.alloc (.cells #[.slice ta tn tc, .slice ca cn cc] 25) = w3 at *
  replace G := G.trans g
  have hC := hC2
  clear hC2
  replace hf := hf.gr g
  replace hx := hx.gr g
  replace hy := hy.gr g
  clear g hb hbl
  refine Y.pval F (X.w0 rfl) rfl (X.assign rfl (X.kc (.int .i64 0) rfl)) ?_
  clear F ac
  intro ac F
  refine Y.pval F (X.w0 rfl) rfl (X.assign rfl (X.kc (.int .i64 0) rfl)) ?_
  clear F ac
  intro ac F
  refine Y.nil ?_
  replace F : Fr ac 52 [(0, .agg #[.slice ta tn tc, .slice ca cn cc]), (1, .slice a n c), (2, .slice b m d), (3, .pointer (some ⟨w.heap.size, 0, none⟩)), (6, .int .i64 0), (7, .int .i64 0)] := F.sub _ (by kernel_rfl)
  refine X.thenN ?_
  refine Y.seq ?_
  refine Y.seq ?_
  refine Y.lit (by kernel_rfl) ?_
  refine Y.pval F (X.w0 rfl) rfl (X.load rfl (F.ev 3 (.pointer (some ⟨w.heap.size, 0, none⟩)) (by kernel_rfl)) (X.ldN (Try.agg25 _) (Try.siz25 _) (X.c2 (hC.at 0 rfl) (hC.at 1 rfl)))) ?_
  clear F ac
  intro ac F
  refine Y.pval F (X.w0 rfl) rfl (X.move rfl (F.ev 1 (.slice a n c) (by kernel_rfl))) ?_
  clear F ac
  intro ac F
  refine Y.pval F (X.w0 rfl) rfl (X.move rfl (F.ev 2 (.slice b m d) (by kernel_rfl))) ?_
  clear F ac
  intro ac F
  refine Y.pcall F (X.w0 rfl) rfl (X.enter (F := 52) rfl (X.kc (.func (.func 52) #[] #[]) rfl) (X.a4 (F.ev 16 (.agg #[.slice ta tn tc, .slice ca cn cc]) (by kernel_rfl)) (F.ev 17 (.slice a n c) (by kernel_rfl)) (F.ev 18 (.slice b m d) (by kernel_rfl)) (X.kc (.int .i64 0) rfl)) (enters_of Try.func52 (by kernel_rfl) rfl _)) (planned_any ta ca a b tn tc cn cc n c m d f xs ys 0 w3 hf hx hy) ?_
  clear F ac
  rintro e w4 ⟨rfl, g⟩
  refine ⟨_, rfl, ?_⟩
  intro ac F
  replace G := G.trans g
  replace hC := hC.gr g
  replace hf := hf.gr g
  replace hx := hx.gr g
  replace hy := hy.gr g
  clear g
  refine Y.pval F (X.w0 rfl) rfl (X.assign rfl (F.ev 19 (.int .i64 (plannedE f xs ys 0)) (by kernel_rfl))) ?_
  clear F ac
  intro ac F
  refine Y.nil ?_
  replace F : Fr ac 52 [(0, .agg #[.slice ta tn tc, .slice ca cn cc]), (1, .slice a n c), (2, .slice b m d), (3, .pointer (some ⟨w.heap.size, 0, none⟩)), (6, .int .i64 0), (7, .int .i64 0), (8, .int .i64 (plannedE f xs ys 0))] := F.sub _ (by kernel_rfl)
  refine X.thenN ?_
  refine Y.seq ?_
  refine Y.lit (by kernel_rfl) ?_
  refine Y.pval F (X.w0 rfl) rfl (X.move rfl (F.ev 8 (.int .i64 (plannedE f xs ys 0)) (by kernel_rfl))) ?_
  clear F ac
  intro ac F
  refine Y.pval F (X.w0 rfl) rfl (X.binop rfl (F.ev 20 (.int .i64 (plannedE f xs ys 0)) (by kernel_rfl)) (X.kc (.int .i64 0) rfl) (X.neqI Try.underlying31 rfl)) ?_
  clear F ac
  intro ac F
  refine Y.nil ?_
  replace F : Fr ac 52 [(0, .agg #[.slice ta tn tc, .slice ca cn cc]), (1, .slice a n c), (2, .slice b m d), (3, .pointer (some ⟨w.heap.size, 0, none⟩)), (6, .int .i64 0), (7, .int .i64 0), (8, .int .i64 (plannedE f xs ys 0)), (21, .bool ((plannedE f xs ys 0 : Int) != 0))] := F.sub _ (by kernel_rfl)
  refine X.thenN ?_
  cases h5 : ((plannedE f xs ys 0 : Int) != 0) with
  | false =>
    try rw [h5] at F
    have h5p : (plannedE f xs ys 0 : Int) = 0 := by simpa using h5
    obtain ⟨hbe, hwx, hwy⟩ := plannedE_ok h5p
    obtain ⟨hok, hsx, hsy⟩ := beginE_ok hbe
    have hm := allV_has hsx hwx
    have HPE : plannedE f xs ys 0 = 0 := h5p
    obtain rfl : n = m := by rw [← hx.len, ← hy.len, hsx.len, hsy.len]
    have hsn : n = f.times.length := by rw [← hsx.len, hx.len]
    refine Y.condF (F.ev 21 (.bool false) (by kernel_rfl)) ?_
    refine Y.skip ?_
    refine X.thenN ?_
    refine Y.seq ?_
    refine Y.seq ?_
    refine Y.lit (by kernel_rfl) ?_
    refine Y.pval F (X.w0 rfl) rfl (X.load rfl (F.ev 3 (.pointer (some ⟨w.heap.size, 0, none⟩)) (by kernel_rfl)) (X.ldN (Try.agg25 _) (Try.siz25 _) (X.c2 (hC.at 0 rfl) (hC.at 1 rfl)))) ?_
    clear F ac
    intro ac F
    refine Y.pval F (X.w0 rfl) rfl (X.move rfl (F.ev 1 (.slice a n c) (by kernel_rfl))) ?_
    clear F ac
    intro ac F
    refine Y.pval F (X.w0 rfl) rfl (X.move rfl (F.ev 2 (.slice b n d) (by kernel_rfl))) ?_
    clear F ac
    intro ac F
    refine Y.pcall F (X.w0 rfl) rfl (X.enter (F := 53) rfl (X.kc (.func (.func 53) #[] #[]) rfl) (X.a4 (F.ev 24 (.agg #[.slice ta tn tc, .slice ca cn cc]) (by kernel_rfl)) (F.ev 25 (.slice a n c) (by kernel_rfl)) (F.ev 26 (.slice b n d) (by kernel_rfl)) (X.kc (.int .i64 1000000) rfl)) (enters_of Try.func53 (by kernel_rfl) rfl _)) (plan3_any ta ca a b tn tc cn cc n c d f xs ys 1000000 w4 hf hx hy hok hsx hsy hm hsn (by omega)) ?_
    clear F ac
    rintro e w7 ⟨ra6, rn6, rc6, rfl, hR6, g⟩
    refine ⟨_, rfl, ?_⟩
    intro ac F
    replace G := G.trans g
    replace hC := hC.gr g
    replace hf := hf.gr g
    replace hx := hx.gr g
    replace hy := hy.gr g
    clear g
    refine Y.pval F (X.w0 rfl) rfl (X.move rfl (F.ev 27 (.tuple #[.slice ra6 rn6 rc6, .bool ((bestV f ys 1000000 xs).is)]) (by kernel_rfl))) ?_
    clear F ac
    intro ac F
    refine Y.pval F (X.w0 rfl) rfl (X.extract rfl (F.ev 23 (.tuple #[.slice ra6 rn6 rc6, .bool ((bestV f ys 1000000 xs).is)]) (by kernel_rfl)) rfl) ?_
    clear F ac
    intro ac F
    refine Y.pval F (X.w0 rfl) rfl (X.extract rfl (F.ev 23 (.tuple #[.slice ra6 rn6 rc6, .bool ((bestV f ys 1000000 xs).is)]) (by kernel_rfl)) rfl) ?_
    clear F ac
    intro ac F
    refine Y.pval F (X.w0 rfl) rfl (X.assign rfl (F.ev 28 (.slice ra6 rn6 rc6) (by kernel_rfl))) ?_
    clear F ac
    intro ac F
    refine Y.pval F (X.w0 rfl) rfl (X.assign rfl (F.ev 29 (.bool ((bestV f ys 1000000 xs).is)) (by kernel_rfl))) ?_
    clear F ac
    intro ac F
    refine Y.nil ?_
    replace F : Fr ac 52 [(0, .agg #[.slice ta tn tc, .slice ca cn cc]), (1, .slice a n c), (2, .slice b n d), (3, .pointer (some ⟨w.heap.size, 0, none⟩)), (6, .int .i64 0), (7, .int .i64 0), (8, .int .i64 (plannedE f xs ys 0)), (10, .bool ((bestV f ys 1000000 xs).is)), (21, .bool false)] := F.sub _ (by kernel_rfl)
    refine X.thenN ?_
    refine Y.seq ?_
    refine Y.lit (by kernel_rfl) ?_
    refine Y.pval F (X.w0 rfl) rfl (X.move rfl (F.ev 10 (.bool ((bestV f ys 1000000 xs).is)) (by kernel_rfl))) ?_
    clear F ac
    intro ac F
    refine Y.pval F (X.w0 rfl) rfl (X.notB rfl (F.ev 30 (.bool ((bestV f ys 1000000 xs).is)) (by kernel_rfl)) rfl) ?_
    clear F ac
    intro ac F
    refine Y.nil ?_
    replace F : Fr ac 52 [(0, .agg #[.slice ta tn tc, .slice ca cn cc]), (1, .slice a n c), (2, .slice b n d), (3, .pointer (some ⟨w.heap.size, 0, none⟩)), (6, .int .i64 0), (7, .int .i64 0), (8, .int .i64 (plannedE f xs ys 0)), (10, .bool ((bestV f ys 1000000 xs).is)), (21, .bool false), (31, .bool (!((bestV f ys 1000000 xs).is)))] := F.sub _ (by kernel_rfl)
    refine X.thenN ?_
    cases h8 : (bestV f ys 1000000 xs).is with
    | false =>
      try rw [h8] at F
      have HE : leastE f xs ys = 112 := least_no HPE h8
      have HR : leastR f xs ys = 0 := by unfold leastR; rw [if_neg (by rw [HE]; decide)]
      refine Y.condT (F.ev 31 (.bool true) (by kernel_rfl)) ?_
      refine Y.seq ?_
      refine Y.lit (by kernel_rfl) ?_
      refine Y.pval F (X.w0 rfl) rfl (X.assign rfl (X.kc (.int .i64 0) rfl)) ?_
      clear F ac
      intro ac F
      refine Y.pval F (X.w0 rfl) rfl (X.assign rfl (X.kc (.int .i64 112) rfl)) ?_
      clear F ac
      intro ac F
      refine Y.nil ?_
      replace F : Fr ac 52 [(0, .agg #[.slice ta tn tc, .slice ca cn cc]), (1, .slice a n c), (2, .slice b n d), (3, .pointer (some ⟨w.heap.size, 0, none⟩)), (6, .int .i64 0), (7, .int .i64 112), (8, .int .i64 (plannedE f xs ys 0)), (10, .bool false), (21, .bool false), (31, .bool true)] := F.sub _ (by kernel_rfl)
      refine X.thenN ?_
      refine Y.ret ?_
      refine X.thenR ?_
      exact Y.ret0 F (Y.rs2 F rfl (by kernel_rfl) (by kernel_rfl)) ⟨by rw [HE, HR], G⟩
    | true =>
      try rw [h8] at F
      have HE : leastE f xs ys = 0 := least_yes HPE h8
      have HR : leastR f xs ys = leastV f ys xs := if_pos HE
      have hab := best_above hsx hsy h8
      have hlb := leastV_bd hok hsx hsy hab
      refine Y.condF (F.ev 31 (.bool false) (by kernel_rfl)) ?_
      refine Y.skip ?_
      refine X.thenN ?_
      refine Y.seq ?_
      refine Y.lit (by kernel_rfl) ?_
      refine Y.pval F (X.w0 rfl) rfl (X.assign rfl (X.kc (.int .i64 (-1)) rfl)) ?_
      clear F ac
      intro ac F
      refine Y.pval F (X.w0 rfl) rfl (X.assign rfl (X.kc (.int .i64 1000000) rfl)) ?_
      clear F ac
      intro ac F
      refine Y.nil ?_
      replace F : Fr ac 52 [(0, .agg #[.slice ta tn tc, .slice ca cn cc]), (1, .slice a n c), (2, .slice b n d), (3, .pointer (some ⟨w.heap.size, 0, none⟩)), (6, .int .i64 0), (7, .int .i64 0), (8, .int .i64 (plannedE f xs ys 0)), (10, .bool true), (11, .int .i64 (-1)), (12, .int .i64 1000000), (21, .bool false), (31, .bool false)] := F.sub _ (by kernel_rfl)
      refine X.thenN ?_
      refine Y.seq ?_
      refine Y.block ?_
      have hfB := hf
      have hxB := hx
      have hyB := hy
      have hR6B := hR6
      have hCB := hC
      have GB := G
      refine Y.loop (fun me_ ac wr => ∃ (lo hi : Int), me_ = (hi - lo).toNat ∧ Gr w7 wr ∧ -1 ≤ lo ∧ lo < hi ∧ hi ≤ 1000000 ∧ lo < leastV f ys xs ∧ leastV f ys xs ≤ hi ∧ Fr ac 52 [(0, .agg #[.slice ta tn tc, .slice ca cn cc]), (1, .slice a n c), (2, .slice b n d), (3, .pointer (some ⟨w.heap.size, 0, none⟩)), (6, .int .i64 0), (7, .int .i64 0), (8, .int .i64 (plannedE f xs ys 0)), (10, .bool true), (11, .int .i64 lo), (12, .int .i64 hi), (21, .bool false), (31, .bool false)]) _ ⟨-1, 1000000, rfl, Gr.refl _, by omega, by omega, by omega, by omega, by omega, F.sub _ (by kernel_rfl)⟩ ?_
      clear F
      intro me_ ac w9 hI
      obtain ⟨lo, hi, rfl, gr, h1, h2, h3, h4, h5, F⟩ := hI
      replace G := GB.trans gr
      replace hC := hCB.gr gr
      replace hf := hfB.gr gr
      replace hx := hxB.gr gr
      replace hy := hyB.gr gr
      replace hR6 := hR6B.gr gr
      have GB_ := gr
      clear gr
      refine Y.seq ?_
      refine Y.seq ?_
      refine Y.lit (by kernel_rfl) ?_
      refine Y.pval F (X.w0 rfl) rfl (X.move rfl (F.ev 12 (.int .i64 hi) (by kernel_rfl))) ?_
      clear F ac
      intro ac F
      refine Y.pval F (X.w0 rfl) rfl (X.move rfl (F.ev 11 (.int .i64 lo) (by kernel_rfl))) ?_
      clear F ac
      intro ac F
      refine Y.pval F (X.w0 rfl) rfl (X.binop rfl (F.ev 32 (.int .i64 hi) (by kernel_rfl)) (F.ev 33 (.int .i64 lo) (by kernel_rfl)) (X.subI Try.underlying3 rfl (by omega) (by omega))) ?_
      clear F ac
      intro ac F
      refine Y.pval F (X.w0 rfl) rfl (X.binop rfl (F.ev 34 (.int .i64 ((hi : Int) - lo)) (by kernel_rfl)) (X.kc (.int .i64 1) rfl) (X.gtrI Try.underlying3 rfl)) ?_
      clear F ac
      intro ac F
      refine Y.nil ?_
      replace F : Fr ac 52 [(0, .agg #[.slice ta tn tc, .slice ca cn cc]), (1, .slice a n c), (2, .slice b n d), (3, .pointer (some ⟨w.heap.size, 0, none⟩)), (6, .int .i64 0), (7, .int .i64 0), (8, .int .i64 (plannedE f xs ys 0)), (10, .bool true), (11, .int .i64 lo), (12, .int .i64 hi), (21, .bool false), (31, .bool false), (35, .bool (decide ((1 : Int) < ((hi : Int) - lo))))] := F.sub _ (by kernel_rfl)
      refine X.thenN ?_
      cases h10 : decide ((1 : Int) < ((hi : Int) - lo)) with
      | false =>
        try rw [h10] at F
        have h10p : ¬ ((1 : Int) < ((hi : Int) - lo)) := of_decide_eq_false h10
        have hfin : leastV f ys xs = hi := by omega
        refine Y.condF (F.ev 35 (.bool false) (by kernel_rfl)) ?_
        refine Y.exit ?_
        refine X.thenX ?_
        refine X.thenX ?_
        refine X.blockX ?_
        refine X.thenN ?_
        refine Y.seq ?_
        refine Y.lit (by kernel_rfl) ?_
        refine Y.pval F (X.w0 rfl) rfl (X.move rfl (F.ev 12 (.int .i64 hi) (by kernel_rfl))) ?_
        clear F ac
        intro ac F
        refine Y.pval F (X.w0 rfl) rfl (X.assign rfl (F.ev 51 (.int .i64 hi) (by kernel_rfl))) ?_
        clear F ac
        intro ac F
        refine Y.pval F (X.w0 rfl) rfl (X.assign rfl (X.kc (.int .i64 0) rfl)) ?_
        clear F ac
        intro ac F
        refine Y.nil ?_
        replace F : Fr ac 52 [(0, .agg #[.slice ta tn tc, .slice ca cn cc]), (1, .slice a n c), (2, .slice b n d), (3, .pointer (some ⟨w.heap.size, 0, none⟩)), (6, .int .i64 hi), (7, .int .i64 0), (8, .int .i64 (plannedE f xs ys 0)), (10, .bool true), (11, .int .i64 lo), (12, .int .i64 hi), (21, .bool false), (31, .bool false), (35, .bool false)] := F.sub _ (by kernel_rfl)
        refine X.thenN ?_
        refine Y.ret ?_
        exact Y.ret0 F (Y.rs2 F rfl (by kernel_rfl) (by kernel_rfl)) ⟨by rw [HE, HR, hfin], G⟩
      | true =>
        try rw [h10] at F
        have h10p : ((1 : Int) < ((hi : Int) - lo)) := of_decide_eq_true h10
        refine Y.condT (F.ev 35 (.bool true) (by kernel_rfl)) ?_
        refine Y.skip ?_
        refine X.thenN ?_
        refine Y.block ?_
        refine Y.seq ?_
        refine Y.lit (by kernel_rfl) ?_
        refine Y.pval F (X.w0 rfl) rfl (X.move rfl (F.ev 11 (.int .i64 lo) (by kernel_rfl))) ?_
        clear F ac
        intro ac F
        refine Y.pval F (X.w0 rfl) rfl (X.move rfl (F.ev 12 (.int .i64 hi) (by kernel_rfl))) ?_
        clear F ac
        intro ac F
        refine Y.pval F (X.w0 rfl) rfl (X.binop rfl (F.ev 36 (.int .i64 lo) (by kernel_rfl)) (F.ev 37 (.int .i64 hi) (by kernel_rfl)) (X.addI Try.underlying3 rfl (by omega) (by omega))) ?_
        clear F ac
        intro ac F
        refine Y.pval F (X.w0 rfl) rfl (X.binop rfl (F.ev 38 (.int .i64 ((lo : Int) + hi)) (by kernel_rfl)) (X.kc (.int .i64 2) rfl) (X.quoI Try.underlying3 rfl (by omega) (by omega))) ?_
        clear F ac
        intro ac F
        refine Y.pval F (X.w0 rfl) rfl (X.assign rfl (F.ev 39 (.int .i64 (((lo : Int) + hi : Int) / 2)) (by kernel_rfl))) ?_
        clear F ac
        intro ac F
        refine Y.nil ?_
        replace F : Fr ac 52 [(0, .agg #[.slice ta tn tc, .slice ca cn cc]), (1, .slice a n c), (2, .slice b n d), (3, .pointer (some ⟨w.heap.size, 0, none⟩)), (6, .int .i64 0), (7, .int .i64 0), (8, .int .i64 (plannedE f xs ys 0)), (10, .bool true), (11, .int .i64 lo), (12, .int .i64 hi), (13, .int .i64 (((lo : Int) + hi : Int) / 2)), (21, .bool false), (31, .bool false), (35, .bool true)] := F.sub _ (by kernel_rfl)
        refine X.thenN ?_
        refine Y.seq ?_
        refine Y.lit (by kernel_rfl) ?_
        refine Y.pval F (X.w0 rfl) rfl (X.load rfl (F.ev 3 (.pointer (some ⟨w.heap.size, 0, none⟩)) (by kernel_rfl)) (X.ldN (Try.agg25 _) (Try.siz25 _) (X.c2 (hC.at 0 rfl) (hC.at 1 rfl)))) ?_
        clear F ac
        intro ac F
        refine Y.pval F (X.w0 rfl) rfl (X.move rfl (F.ev 1 (.slice a n c) (by kernel_rfl))) ?_
        clear F ac
        intro ac F
        refine Y.pval F (X.w0 rfl) rfl (X.move rfl (F.ev 2 (.slice b n d) (by kernel_rfl))) ?_
        clear F ac
        intro ac F
        refine Y.pval F (X.w0 rfl) rfl (X.move rfl (F.ev 13 (.int .i64 (((lo : Int) + hi : Int) / 2)) (by kernel_rfl))) ?_
        clear F ac
        intro ac F
        refine Y.pcall F (X.w0 rfl) rfl (X.enter (F := 53) rfl (X.kc (.func (.func 53) #[] #[]) rfl) (X.a4 (F.ev 41 (.agg #[.slice ta tn tc, .slice ca cn cc]) (by kernel_rfl)) (F.ev 42 (.slice a n c) (by kernel_rfl)) (F.ev 43 (.slice b n d) (by kernel_rfl)) (F.ev 44 (.int .i64 (((lo : Int) + hi : Int) / 2)) (by kernel_rfl))) (enters_of Try.func53 (by kernel_rfl) rfl _)) (plan3_any ta ca a b tn tc cn cc n c d f xs ys (((lo : Int) + hi : Int) / 2) w9 hf hx hy hok hsx hsy hm hsn (by omega)) ?_
        clear F ac
        rintro e w12 ⟨ra11, rn11, rc11, rfl, hR11, g⟩
        refine ⟨_, rfl, ?_⟩
        intro ac F
        replace G := G.trans g
        replace hC := hC.gr g
        replace GB_ := GB_.trans g
        replace hf := hf.gr g
        replace hx := hx.gr g
        replace hy := hy.gr g
        replace hR6 := hR6.gr g
        clear g
        refine Y.pval F (X.w0 rfl) rfl (X.move rfl (F.ev 45 (.tuple #[.slice ra11 rn11 rc11, .bool ((bestV f ys (((lo : Int) + hi : Int) / 2) xs).is)]) (by kernel_rfl))) ?_
        clear F ac
        intro ac F
        refine Y.pval F (X.w0 rfl) rfl (X.extract rfl (F.ev 40 (.tuple #[.slice ra11 rn11 rc11, .bool ((bestV f ys (((lo : Int) + hi : Int) / 2) xs).is)]) (by kernel_rfl)) rfl) ?_
        clear F ac
        intro ac F
        refine Y.pval F (X.w0 rfl) rfl (X.extract rfl (F.ev 40 (.tuple #[.slice ra11 rn11 rc11, .bool ((bestV f ys (((lo : Int) + hi : Int) / 2) xs).is)]) (by kernel_rfl)) rfl) ?_
        clear F ac
        intro ac F
        refine Y.pval F (X.w0 rfl) rfl (X.assign rfl (F.ev 46 (.slice ra11 rn11 rc11) (by kernel_rfl))) ?_
        clear F ac
        intro ac F
        refine Y.pval F (X.w0 rfl) rfl (X.assign rfl (F.ev 47 (.bool ((bestV f ys (((lo : Int) + hi : Int) / 2) xs).is)) (by kernel_rfl))) ?_
        clear F ac
        intro ac F
        refine Y.nil ?_
        replace F : Fr ac 52 [(0, .agg #[.slice ta tn tc, .slice ca cn cc]), (1, .slice a n c), (2, .slice b n d), (3, .pointer (some ⟨w.heap.size, 0, none⟩)), (6, .int .i64 0), (7, .int .i64 0), (8, .int .i64 (plannedE f xs ys 0)), (10, .bool true), (11, .int .i64 lo), (12, .int .i64 hi), (13, .int .i64 (((lo : Int) + hi : Int) / 2)), (15, .bool ((bestV f ys (((lo : Int) + hi : Int) / 2) xs).is)), (21, .bool false), (31, .bool false), (35, .bool true)] := F.sub _ (by kernel_rfl)
        refine X.thenN ?_
        refine Y.seq ?_
        refine Y.lit (by kernel_rfl) ?_
        refine Y.pval F (X.w0 rfl) rfl (X.move rfl (F.ev 15 (.bool ((bestV f ys (((lo : Int) + hi : Int) / 2) xs).is)) (by kernel_rfl))) ?_
        clear F ac
        intro ac F
        refine Y.nil ?_
        replace F : Fr ac 52 [(0, .agg #[.slice ta tn tc, .slice ca cn cc]), (1, .slice a n c), (2, .slice b n d), (3, .pointer (some ⟨w.heap.size, 0, none⟩)), (6, .int .i64 0), (7, .int .i64 0), (8, .int .i64 (plannedE f xs ys 0)), (10, .bool true), (11, .int .i64 lo), (12, .int .i64 hi), (13, .int .i64 (((lo : Int) + hi : Int) / 2)), (15, .bool ((bestV f ys (((lo : Int) + hi : Int) / 2) xs).is)), (21, .bool false), (31, .bool false), (35, .bool true), (48, .bool ((bestV f ys (((lo : Int) + hi : Int) / 2) xs).is))] := F.sub _ (by kernel_rfl)
        refine X.thenN ?_
        cases h13 : (bestV f ys (((lo : Int) + hi : Int) / 2) xs).is with
        | false =>
          try rw [h13] at F
          have hls := best_iff_least (bu := ((lo : Int) + hi) / 2) hok hsy hwy (by omega) (gap xs ys) xs (Nat.le_refl _) hsx hab
          rw [h13] at hls
          have hlt : ¬ leastV f ys xs ≤ ((lo : Int) + hi) / 2 := fun h => by cases hls.2 h
          refine Y.condF (F.ev 48 (.bool false) (by kernel_rfl)) ?_
          refine Y.lit (by kernel_rfl) ?_
          refine Y.pval F (X.w0 rfl) rfl (X.move rfl (F.ev 13 (.int .i64 (((lo : Int) + hi : Int) / 2)) (by kernel_rfl))) ?_
          clear F ac
          intro ac F
          refine Y.pval F (X.w0 rfl) rfl (X.assign rfl (F.ev 50 (.int .i64 (((lo : Int) + hi : Int) / 2)) (by kernel_rfl))) ?_
          clear F ac
          intro ac F
          refine Y.nil ?_
          replace F : Fr ac 52 [(0, .agg #[.slice ta tn tc, .slice ca cn cc]), (1, .slice a n c), (2, .slice b n d), (3, .pointer (some ⟨w.heap.size, 0, none⟩)), (6, .int .i64 0), (7, .int .i64 0), (8, .int .i64 (plannedE f xs ys 0)), (10, .bool true), (11, .int .i64 (((lo : Int) + hi : Int) / 2)), (12, .int .i64 hi), (13, .int .i64 (((lo : Int) + hi : Int) / 2)), (15, .bool false), (21, .bool false), (31, .bool false), (35, .bool true), (48, .bool false)] := F.sub _ (by kernel_rfl)
          refine X.blockN ?_
          refine X.thenN ?_
          refine ⟨_, ?_, (((lo : Int) + hi : Int) / 2), hi, rfl, GB_, by omega, by omega, by omega, by omega, by omega, F.sub _ (by kernel_rfl)⟩
          omega
        | true =>
          try rw [h13] at F
          have hls := best_iff_least (bu := ((lo : Int) + hi) / 2) hok hsy hwy (by omega) (gap xs ys) xs (Nat.le_refl _) hsx hab
          rw [h13] at hls
          have hlt := hls.1 rfl
          refine Y.condT (F.ev 48 (.bool true) (by kernel_rfl)) ?_
          refine Y.lit (by kernel_rfl) ?_
          refine Y.pval F (X.w0 rfl) rfl (X.move rfl (F.ev 13 (.int .i64 (((lo : Int) + hi : Int) / 2)) (by kernel_rfl))) ?_
          clear F ac
          intro ac F
          refine Y.pval F (X.w0 rfl) rfl (X.assign rfl (F.ev 49 (.int .i64 (((lo : Int) + hi : Int) / 2)) (by kernel_rfl))) ?_
          clear F ac
          intro ac F
          refine Y.nil ?_
          replace F : Fr ac 52 [(0, .agg #[.slice ta tn tc, .slice ca cn cc]), (1, .slice a n c), (2, .slice b n d), (3, .pointer (some ⟨w.heap.size, 0, none⟩)), (6, .int .i64 0), (7, .int .i64 0), (8, .int .i64 (plannedE f xs ys 0)), (10, .bool true), (11, .int .i64 lo), (12, .int .i64 (((lo : Int) + hi : Int) / 2)), (13, .int .i64 (((lo : Int) + hi : Int) / 2)), (15, .bool true), (21, .bool false), (31, .bool false), (35, .bool true), (48, .bool true)] := F.sub _ (by kernel_rfl)
          refine X.blockN ?_
          refine X.thenN ?_
          refine ⟨_, ?_, lo, (((lo : Int) + hi : Int) / 2), rfl, GB_, by omega, by omega, by omega, by omega, by omega, F.sub _ (by kernel_rfl)⟩
          omega
  | true =>
    try rw [h5] at F
    have h5p : ¬ (plannedE f xs ys 0 : Int) = 0 := by simpa using h5
    have HE : leastE f xs ys = plannedE f xs ys 0 := least_of_planned h5p
    have HR : leastR f xs ys = 0 := by unfold leastR; rw [if_neg (by rw [HE]; exact h5p)]
    refine Y.condT (F.ev 21 (.bool true) (by kernel_rfl)) ?_
    refine Y.seq ?_
    refine Y.lit (by kernel_rfl) ?_
    refine Y.pval F (X.w0 rfl) rfl (X.move rfl (F.ev 8 (.int .i64 (plannedE f xs ys 0)) (by kernel_rfl))) ?_
    clear F ac
    intro ac F
    refine Y.pval F (X.w0 rfl) rfl (X.assign rfl (X.kc (.int .i64 0) rfl)) ?_
    clear F ac
    intro ac F
    refine Y.pval F (X.w0 rfl) rfl (X.assign rfl (F.ev 22 (.int .i64 (plannedE f xs ys 0)) (by kernel_rfl))) ?_
    clear F ac
    intro ac F
    refine Y.nil ?_
    replace F : Fr ac 52 [(0, .agg #[.slice ta tn tc, .slice ca cn cc]), (1, .slice a n c), (2, .slice b m d), (3, .pointer (some ⟨w.heap.size, 0, none⟩)), (6, .int .i64 0), (7, .int .i64 (plannedE f xs ys 0)), (8, .int .i64 (plannedE f xs ys 0)), (21, .bool true)] := F.sub _ (by kernel_rfl)
    refine X.thenN ?_
    refine Y.ret ?_
    refine X.thenR ?_
    exact Y.ret0 F (Y.rs2 F rfl (by kernel_rfl) (by kernel_rfl)) ⟨by rw [HE, HR], G⟩
end
end Go.Proofs.Ytlilojpnhmfnaaa
