/- Several texts of this claim in one file. (1) Contract: the reference's Install. (2) Contract: UpdateInstalls returns true. -/
import Derived.Test.YtlilojpnhmfnaaaBd7
namespace Go.Proofs.Ytlilojpnhmfnaaa
section
open Go.RowKit

theorem any_take_hit {P : List Pk} {k j : Nat} {x : Int} (hj : j < k) (hk : k ≤ P.length) (h : (P[j]?.getD default).c = x) : ((P.take k).any fun q => q.c == x) = true :=
  anyP_hit (p := fun q => q.c == x) (k := j) (by simp; omega) (by rw [List.getElem?_take_of_lt hj]; simpa using h)
theorem any_take_none {P : List Pk} {k : Nat} {x : Int} (hk : k ≤ P.length) (h : ∀ j, j < k → ¬ (P[j]?.getD default).c = x) : ((P.take k).any fun q => q.c == x) = false :=
  anyP_none (p := fun q => q.c == x) (fun j hj => by
    have hj' : j < k := by simp at hj; omega
    rw [List.getElem?_take_of_lt hj']; simpa using h j hj')

set_option maxRecDepth 100000 in
set_option maxHeartbeats 4000000 in
theorem install2_any (ta ca a pa : Option Addr) (tn tc cn cc n c ln lc : Nat) (f : Fl) (se : Int) (xs : List Int) (P : List Pk) (w : World) (hf : FlAt w ta tn ca cn f) (hx : Ints w a n xs) (hP : PkAt w pa ln P) :
    Calls Try.prog 35 #[.agg #[.slice ta tn tc, .slice ca cn cc], .int .i64 se, .slice a n c, .slice pa ln lc] w (InstPost w (instR f se xs P)) := by
  have g := Gr.alloc w (.cells #[.slice ta tn tc, .slice ca cn cc] 25)
  have hC : RCells (w.alloc (.cells #[.slice ta tn tc, .slice ca cn cc] 25)) [(⟨w.heap.size, 0, none⟩, .slice ta tn tc), (⟨w.heap.size, 1, none⟩, .slice ca cn cc)] := (RCells.nil w).box (b := w.heap.size) #[.slice ta tn tc, .slice ca cn cc] 25 rfl
  obtain ⟨w2, hw2⟩ : ∃ w2, w.alloc (.cells #[.slice ta tn tc, .slice ca cn cc] 25) = w2 := ⟨_, rfl⟩
  rw [hw2] at g hC
  have G := g
  replace hf := hf.gr g
  replace hx := hx.gr g
  replace hP := hP.gr g
  clear g
  have c0 : w2.cell? (⟨w.heap.size, 0, none⟩) = some (.slice ta tn tc) := hC.at 0 rfl
  have c1 : w2.cell? (⟨w.heap.size, 1, none⟩) = some (.slice ca cn cc) := hC.at 1 rfl
  have HPL : Hid (P.length = ln) := Lib.hid hP.len
  have hpl := hP.lt
  go_enter Try.func35, Try.ntmps35
  have g := Gr.alloc w2 (.cells #[.slice a n c] 26)
  have hb := heap_alloc_new w2 (.cells #[.slice a n c] 26)
  have hbl : w2.heap.size < (w2.alloc (.cells #[.slice a n c] 26)).heap.size := by simp
  obtain ⟨w4, hww4⟩ : ∃ w0, w2.alloc (.cells #[.slice a n c] 26) = w0 := ⟨_, rfl⟩
  rw [hww4] at g hb hbl
  replace G := G.trans g
  replace hC := hC.gr g
  replace hf := hf.gr g
  replace hx := hx.gr g
  replace hP := hP.gr g
  have c0a4 : w4.cell? (⟨w.heap.size, 0, none⟩) = some (.slice ta tn tc) := hC.at 0 rfl
  have c1a4 : w4.cell? (⟨w.heap.size, 1, none⟩) = some (.slice ca cn cc) := hC.at 1 rfl
  have hR3 := (rows1 (c := c) hbl (cell_at hb rfl) hx : RowsAt w4 (some ⟨w2.heap.size, 0, none⟩) 1 [xs])
  clear g hb hbl
  have HC := Lib.hid (stated_any ta ca (some ⟨w2.heap.size, 0, none⟩) tn tc cn cc 1 1 f ([xs]) w4 hf hR3)
  go_wp2_with fail
  refine HC.out.mono ?_
  rintro e w5 ⟨rfl, g⟩
  clear HC
  clear hw2 hww4
  replace G := G.trans g
  replace hC := hC.gr g
  replace hf := hf.gr g
  replace hx := hx.gr g
  replace hP := hP.gr g
  replace hR3 := hR3.gr g
  clear g
  clear c0 c1 c0a4 c1a4
  have c0 : w5.cell? (⟨w.heap.size, 0, none⟩) = some (.slice ta tn tc) := hC.at 0 rfl
  have c1 : w5.cell? (⟨w.heap.size, 1, none⟩) = some (.slice ca cn cc) := hC.at 1 rfl
  by_cases h6 : (statesE f ([xs]) : Int) = 0
  · have h6b : ((statesE f ([xs]) : Int) != 0) = false := by simp [h6]
    have Hh6 := Lib.hid h6
    clear h6
    have hok : FlOk f := chkB_ok (statesE_zero Hh6.out).1
    have hst : StOk f xs := stB_ok (by have := (statesE_zero Hh6.out).2; simpa [stsB] using this)
    have HR : Hid (instR f se xs P = if withinB ln 1 tn then (if (instL f se xs [] P xs).2.1 = 0 then (if worksB f xs && worksB f (instL f se xs [] P xs).2.2 then ((instL f se xs [] P xs).2.2, 0, 0) else ([], 0, 111)) else ([], (instL f se xs [] P xs).1, (instL f se xs [] P xs).2.1)) else ([], 0, 1)) := Lib.hid (by rw [instR, if_pos Hh6.out, hP.len, hf.t.len])
    have hn1 : 0 < n := by have := hok.n1; have := hst.len; have := hx.len; omega
    have hn6 : n ≤ 6 := by have := hok.n6; have := hst.len; have := hx.len; omega
    have HNN : Hid (n = f.times.length) := Lib.hid (by rw [← hst.len, hx.len])
    have HST := Lib.hid hst
    have HC := Lib.hid (within2_any ln 1 tn w5)
    go_wp2_with fail
    refine HC.out.mono ?_
    rintro e w' ⟨rfl, rfl⟩
    clear HC
    cases h7 : withinB ln 1 tn with
    | false =>
      have Hh7 := Lib.hid h7
      clear h7
      have HR2 : Hid (instR f se xs P = ([], 0, 1)) := Lib.hid (by rw [HR.out, Hh7.out]; rfl)
      go_wp2_with fail
      go_ret3
      exact ⟨none, 0, 0, by rw [HR2.out]; rfl, by rw [HR2.out]; exact Ints.nil _, G⟩
    | true =>
      have Hh7 := Lib.hid h7
      clear h7
      have HR2 : Hid (instR f se xs P = if (instL f se xs [] P xs).2.1 = 0 then (if worksB f xs && worksB f (instL f se xs [] P xs).2.2 then ((instL f se xs [] P xs).2.2, 0, 0) else ([], 0, 111)) else ([], (instL f se xs [] P xs).1, (instL f se xs [] P xs).2.1)) := Lib.hid (by rw [HR.out, Hh7.out]; rfl)
      have hln : 1 ≤ ln ∧ ln ≤ tn := by have := Hh7.out; simp [withinB] at this; omega
      have hfB := hf
      have hxB := hx
      have hPB := hP
      have hR3B := hR3
      have hCB := hC
      have GB := G
      go_wp2_with (at_builtin; refine wpList_copyOwn rfl rfl rfl rfl hx hn1 (by omega) ?_; intro g9 cg9 w8 hO hgc hge g)
      have gC := g
      replace G := G.trans g
      replace hC := hC.gr g
      replace hf := hf.gr g
      replace hx := hx.gr g
      replace hP := hP.gr g
      replace hR3 := hR3.gr g
      clear g
      clear c0 c1
      have c0 : w8.cell? (⟨w.heap.size, 0, none⟩) = some (.slice ta tn tc) := hC.at 0 rfl
      have c1 : w8.cell? (⟨w.heap.size, 1, none⟩) = some (.slice ca cn cc) := hC.at 1 rfl
      go_wp2_with fail
      go_loopw [13] (fun i wr => ∃ (k : Nat) (cur : List Int), k ≤ ln ∧ i = .int .i64 k ∧ Gr w5 wr ∧ OwnS wr g9 n cur ∧ Hid (StOk f cur) ∧ Hid (instL f se xs (P.take k) (P.drop k) cur = instL f se xs [] P xs)) (fun i _ => ln - (intOf i).toNat)
      case atStart => exact ⟨0, xs, Nat.zero_le _, rfl, gC, hO, HST, Lib.hid (by simp)⟩
      case round =>
        obtain ⟨k, cur, hk, rfl, gr, hO, HS, HI⟩ := hrel
        replace G := GB.trans gr
        replace hC := hCB.gr gr
        replace hf := hfB.gr gr
        replace hx := hxB.gr gr
        replace hP := hPB.gr gr
        replace hR3 := hR3B.gr gr
        clear c0 c1
        have c0 : wr.cell? (⟨w.heap.size, 0, none⟩) = some (.slice ta tn tc) := hC.at 0 rfl
        have c1 : wr.cell? (⟨w.heap.size, 1, none⟩) = some (.slice ca cn cc) := hC.at 1 rfl
        have GB_ := gr
        clear gr
        have hOi := hO.ints
        by_cases h10 : (k : Int) < ln
        · have hlt : k < ln := by omega
          obtain ⟨pd, hpa, hpb, hds, q0, q1, q2, q3⟩ := hP.at hlt
          subst hpa
          have hdr : Hid (P.drop k = (P[k]?.getD default) :: P.drop (k + 1)) := Lib.hid (drop_atP (by rw [HPL.out]; exact hlt))
          have htk : Hid (P.take (k + 1) = P.take k ++ [P[k]?.getD default]) := Lib.hid (take_atP (by rw [HPL.out]; exact hlt))
          generalize P[k]?.getD default = p at *
          replace hC : RCells wr [(⟨w.heap.size, 0, none⟩, .slice ta tn tc), (⟨w.heap.size, 1, none⟩, .slice ca cn cc), (pd.add (k * 4), .int .i64 p.c), (⟨(pd.add (k * 4)).block, (pd.add (k * 4)).off + 1, none⟩, .int .i64 p.v), (⟨(pd.add (k * 4)).block, (pd.add (k * 4)).off + 2, none⟩, .string p.data), (⟨(pd.add (k * 4)).block, (pd.add (k * 4)).off + 3, none⟩, .int .i64 p.tg)] := hC.append ((RCells.cons q0 (RCells.cons q1 (RCells.cons q2 (RCells.cons q3 (RCells.nil _))))))
          clear c0 c1
          have c0 : wr.cell? (⟨w.heap.size, 0, none⟩) = some (.slice ta tn tc) := hC.at 0 rfl
          have c1 : wr.cell? (⟨w.heap.size, 1, none⟩) = some (.slice ca cn cc) := hC.at 1 rfl
          have c2 : wr.cell? (pd.add (k * 4)) = some (.int .i64 p.c) := hC.at 2 rfl
          have c3 : wr.cell? (⟨(pd.add (k * 4)).block, (pd.add (k * 4)).off + 1, none⟩) = some (.int .i64 p.v) := hC.at 3 rfl
          have c4 : wr.cell? (⟨(pd.add (k * 4)).block, (pd.add (k * 4)).off + 2, none⟩) = some (.string p.data) := hC.at 4 rfl
          have c5 : wr.cell? (⟨(pd.add (k * 4)).block, (pd.add (k * 4)).off + 3, none⟩) = some (.int .i64 p.tg) := hC.at 5 rfl
          clear q0 q1 q2 q3
          go_wp2_with fail
          refine (wpIn_wide (n := 0)).1 ?_
          refine region_inv (F := Fence.wide) (by kernel_rfl) (by rfl) (by decide) (fun _ => trivial)
            (fun done' u W' => Kn [some (.agg #[.slice ta tn tc, .slice ca cn cc]), some (.int .i64 se), some (.slice (some pd) ln lc), some (.int .i64 k), some (.pointer (some (pd.add (k * 4)))), some (.agg #[.int .i64 p.c, .int .i64 p.v, .string p.data, .int .i64 p.tg]), some (.int .i64 (acceptE f se p.c p.v p.data p.tg)), some (.int .i64 (acceptE f se p.c p.v p.data p.tg))] done' u ∧ Gr wr W')
            (fun u => ⟨Kn.start _ _, Gr.drew wr⟩) ⟨?_, ?_, ?_, ?_, ?_, ?_, ?_, ?_, trivial⟩ ?_
          · rintro u done' W' hd hanc hclo ⟨hk, hg⟩
            refine op_plain (ro := none) rfl (fun c h => by cases h) fun K hK => ?_
            have cc0 : W'.cell? (⟨w.heap.size, 0, none⟩) = some (.slice ta tn tc) := (hC.gr hg).at 0 rfl
            have cc1 : W'.cell? (⟨w.heap.size, 1, none⟩) = some (.slice ca cn cc) := (hC.gr hg).at 1 rfl
            simp only [fillL, List.setIfInBounds_toArray, List.set_cons_zero, List.set_cons_succ, Nat.zero_add, Nat.reduceAdd] at hK ⊢
            go_simp
            exact hK _ _ ⟨hk.new rfl, hg⟩
          · rintro u done' W' hd hanc hclo ⟨hk, hg⟩
            refine op_plain (ro := none) rfl (fun c h => by cases h) fun K hK => ?_
            simp only [fillL, List.setIfInBounds_toArray, List.set_cons_zero, List.set_cons_succ, Nat.zero_add, Nat.reduceAdd] at hK ⊢
            go_simp
            exact hK _ _ ⟨hk.new rfl, hg⟩
          · rintro u done' W' hd hanc hclo ⟨hk, hg⟩
            refine op_plain (ro := none) rfl (fun c h => by cases h) fun K hK => ?_
            simp only [fillL, List.setIfInBounds_toArray, List.set_cons_zero, List.set_cons_succ, Nat.zero_add, Nat.reduceAdd] at hK ⊢
            go_simp
            exact hK _ _ ⟨hk.new rfl, hg⟩
          · rintro u done' W' hd hanc hclo ⟨hk, hg⟩
            refine op_plain (ro := none) rfl (fun c h => by cases h) fun K hK => ?_
            simp only [fillL, List.setIfInBounds_toArray, List.set_cons_zero, List.set_cons_succ, Nat.zero_add, Nat.reduceAdd] at hK ⊢
            go_simp
            exact hK _ _ ⟨hk.new rfl, hg⟩
          · rintro u done' W' hd hanc hclo ⟨hk, hg⟩
            have e2 := hk.get 2 rfl (hanc 2 (mem_of (by kernel_rfl)))
            have e3 := hk.get 3 rfl (hanc 3 (mem_of (by kernel_rfl)))
            refine op_plain (ro := none) rfl (fun c h => by cases h) fun K hK => ?_
            simp only [fillL, List.setIfInBounds_toArray, List.set_cons_zero, List.set_cons_succ, Nat.zero_add, Nat.reduceAdd, e2, e3] at hK ⊢
            go_simp
            exact hK _ _ ⟨hk.new rfl, hg⟩
          · rintro u done' W' hd hanc hclo ⟨hk, hg⟩
            have e4 := hk.get 4 rfl (hanc 4 (mem_of (by kernel_rfl)))
            refine op_plain (ro := none) rfl (fun c h => by cases h) fun K hK => ?_
            have cc2 : W'.cell? (pd.add (k * 4)) = some (.int .i64 p.c) := (hC.gr hg).at 2 rfl
            have cc3 : W'.cell? (⟨(pd.add (k * 4)).block, (pd.add (k * 4)).off + 1, none⟩) = some (.int .i64 p.v) := (hC.gr hg).at 3 rfl
            have cc4 : W'.cell? (⟨(pd.add (k * 4)).block, (pd.add (k * 4)).off + 2, none⟩) = some (.string p.data) := (hC.gr hg).at 4 rfl
            have cc5 : W'.cell? (⟨(pd.add (k * 4)).block, (pd.add (k * 4)).off + 3, none⟩) = some (.int .i64 p.tg) := (hC.gr hg).at 5 rfl
            simp only [fillL, List.setIfInBounds_toArray, List.set_cons_zero, List.set_cons_succ, Nat.zero_add, Nat.reduceAdd, e4] at hK ⊢
            go_simp
            exact hK _ _ ⟨hk.new rfl, hg⟩
          · rintro u done' W' hd hanc hclo ⟨hk, hg⟩
            have e0 := hk.get 0 rfl (hanc 0 (mem_of (by kernel_rfl)))
            have e1 := hk.get 1 rfl (hanc 1 (mem_of (by kernel_rfl)))
            have e5 := hk.get 5 rfl (hanc 5 (mem_of (by kernel_rfl)))
            refine op_plain (ro := none) rfl (fun c h => by cases h) fun K hK => ?_
            have HCON := Lib.hid (accept2_any ta ca tn tc cn cc f se p.c p.v p.tg p.data W' (hf.gr hg) hds)
            simp only [fillL, List.setIfInBounds_toArray, List.set_cons_zero, List.set_cons_succ, Nat.zero_add, Nat.reduceAdd, e0, e1, e5] at hK ⊢
            go_simp
            refine HCON.out.mono ?_
            rintro e w6 ⟨rfl, hg6⟩
            exact hK _ _ ⟨hk.new rfl, hg.trans hg6⟩
          · rintro u done' W' hd hanc hclo ⟨hk, hg⟩
            have e6 := hk.get 6 rfl (hanc 6 (mem_of (by kernel_rfl)))
            refine op_plain (ro := none) rfl (fun c h => by cases h) fun K hK => ?_
            simp only [fillL, List.setIfInBounds_toArray, List.set_cons_zero, List.set_cons_succ, Nat.zero_add, Nat.reduceAdd, e6] at hK ⊢
            go_simp
            exact hK _ _ ⟨hk.new rfl, hg⟩
          · rintro u w11 ⟨done', hdn, hk, hg⟩
            have e7 := hk.get 7 rfl (hdn 7 (by decide))
            simp only [fillL, List.setIfInBounds_toArray, List.set_cons_zero, List.set_cons_succ, Nat.zero_add, Nat.reduceAdd, e7]
            clear hk hdn e7
            replace G := G.trans hg
            replace hC := hC.gr hg
            replace GB_ := GB_.trans hg
            replace hf := hf.gr hg
            replace hx := hx.gr hg
            replace hP := hP.gr hg
            replace hR3 := hR3.gr hg
            replace hO := hO.gr hg
            replace hOi := hOi.gr hg
            clear hg
            clear c0 c1 c2 c3 c4 c5
            have c0 : w11.cell? (⟨w.heap.size, 0, none⟩) = some (.slice ta tn tc) := hC.at 0 rfl
            have c1 : w11.cell? (⟨w.heap.size, 1, none⟩) = some (.slice ca cn cc) := hC.at 1 rfl
            have c2 : w11.cell? (pd.add (k * 4)) = some (.int .i64 p.c) := hC.at 2 rfl
            have c3 : w11.cell? (⟨(pd.add (k * 4)).block, (pd.add (k * 4)).off + 1, none⟩) = some (.int .i64 p.v) := hC.at 3 rfl
            have c4 : w11.cell? (⟨(pd.add (k * 4)).block, (pd.add (k * 4)).off + 2, none⟩) = some (.string p.data) := hC.at 4 rfl
            have c5 : w11.cell? (⟨(pd.add (k * 4)).block, (pd.add (k * 4)).off + 3, none⟩) = some (.int .i64 p.tg) := hC.at 5 rfl
            by_cases h12 : (acceptE f se p.c p.v p.data p.tg : Int) = 0
            · have h12b : ((acceptE f se p.c p.v p.data p.tg : Int) != 0) = false := by simp [h12]
              have Hh12 := Lib.hid h12
              clear h12
              have hver := accept_ver Hh12.out
              have hv := verB_in hver
              have hcn : p.c.toNat < n := by have := HNN.out; omega
              have hc0 : (0 : Int) ≤ p.c := hv.1
              have hc1 : p.c < (n : Int) := by have := HNN.out; omega
              obtain ⟨sd, hsa, hsb, hsc⟩ := hx.at hcn
              subst hsa
              replace hC : RCells w11 [(⟨w.heap.size, 0, none⟩, .slice ta tn tc), (⟨w.heap.size, 1, none⟩, .slice ca cn cc), (pd.add (k * 4), .int .i64 p.c), (⟨(pd.add (k * 4)).block, (pd.add (k * 4)).off + 1, none⟩, .int .i64 p.v), (⟨(pd.add (k * 4)).block, (pd.add (k * 4)).off + 2, none⟩, .string p.data), (⟨(pd.add (k * 4)).block, (pd.add (k * 4)).off + 3, none⟩, .int .i64 p.tg), (sd.add p.c.toNat, .int .i64 (xs[p.c.toNat]?.getD 0)), (⟨g9, p.c.toNat, none⟩, .int .i64 (cur[p.c.toNat]?.getD 0))] := hC.append ((RCells.cons hsc (RCells.cons (hO.cell hcn) (RCells.nil _))))
              clear c0 c1 c2 c3 c4 c5
              have c0 : w11.cell? (⟨w.heap.size, 0, none⟩) = some (.slice ta tn tc) := hC.at 0 rfl
              have c1 : w11.cell? (⟨w.heap.size, 1, none⟩) = some (.slice ca cn cc) := hC.at 1 rfl
              have c2 : w11.cell? (pd.add (k * 4)) = some (.int .i64 p.c) := hC.at 2 rfl
              have c3 : w11.cell? (⟨(pd.add (k * 4)).block, (pd.add (k * 4)).off + 1, none⟩) = some (.int .i64 p.v) := hC.at 3 rfl
              have c4 : w11.cell? (⟨(pd.add (k * 4)).block, (pd.add (k * 4)).off + 2, none⟩) = some (.string p.data) := hC.at 4 rfl
              have c5 : w11.cell? (⟨(pd.add (k * 4)).block, (pd.add (k * 4)).off + 3, none⟩) = some (.int .i64 p.tg) := hC.at 5 rfl
              have c6 : w11.cell? (sd.add p.c.toNat) = some (.int .i64 (xs[p.c.toNat]?.getD 0)) := hC.at 6 rfl
              have c7 : w11.cell? (⟨g9, p.c.toNat, none⟩) = some (.int .i64 (cur[p.c.toNat]?.getD 0)) := hC.at 7 rfl
              clear hsc
              go_wp2_with fail
              go_loopw [15] (fun i wr => ∃ (j : Nat), j ≤ k ∧ i = .int .i64 j ∧ Gr w11 wr ∧ Hid (∀ t, t < j → ¬ (P[t]?.getD default).c = p.c)) (fun i _ => k - (intOf i).toNat)
              case atStart => exact ⟨0, Nat.zero_le _, rfl, Gr.refl _, Lib.hid (fun t ht => by omega)⟩
              case round =>
                obtain ⟨j, hj, rfl, gr, hall⟩ := hrel
                have hfBB := hf
                have hxBB := hx
                have hPBB := hP
                have hR3BB := hR3
                have hOBB := hO
                have hOiBB := hOi
                have hCBB := hC
                have GBB := G
                replace G := GBB.trans gr
                replace hC := hCBB.gr gr
                replace hf := hfBB.gr gr
                replace hx := hxBB.gr gr
                replace hP := hPBB.gr gr
                replace hR3 := hR3BB.gr gr
                replace hO := hOBB.gr gr
                replace hOi := hOiBB.gr gr
                replace GB_ := GB_.trans gr
                clear c0 c1 c2 c3 c4 c5 c6 c7
                have c0 : wr.cell? (⟨w.heap.size, 0, none⟩) = some (.slice ta tn tc) := hC.at 0 rfl
                have c1 : wr.cell? (⟨w.heap.size, 1, none⟩) = some (.slice ca cn cc) := hC.at 1 rfl
                have c2 : wr.cell? (pd.add (k * 4)) = some (.int .i64 p.c) := hC.at 2 rfl
                have c3 : wr.cell? (⟨(pd.add (k * 4)).block, (pd.add (k * 4)).off + 1, none⟩) = some (.int .i64 p.v) := hC.at 3 rfl
                have c4 : wr.cell? (⟨(pd.add (k * 4)).block, (pd.add (k * 4)).off + 2, none⟩) = some (.string p.data) := hC.at 4 rfl
                have c5 : wr.cell? (⟨(pd.add (k * 4)).block, (pd.add (k * 4)).off + 3, none⟩) = some (.int .i64 p.tg) := hC.at 5 rfl
                have c6 : wr.cell? (sd.add p.c.toNat) = some (.int .i64 (xs[p.c.toNat]?.getD 0)) := hC.at 6 rfl
                have c7 : wr.cell? (⟨g9, p.c.toNat, none⟩) = some (.int .i64 (cur[p.c.toNat]?.getD 0)) := hC.at 7 rfl
                have GBB_ := gr
                clear gr
                by_cases h13 : (j : Int) < k
                · have hjk : j < k := by omega
                  have hjl : j < ln := by omega
                  obtain ⟨pd2, hpe, _, _, q0, _, _, _⟩ := hP.at (j := j) (by omega)
                  cases hpe
                  replace hC : RCells wr [(⟨w.heap.size, 0, none⟩, .slice ta tn tc), (⟨w.heap.size, 1, none⟩, .slice ca cn cc), (pd.add (k * 4), .int .i64 p.c), (⟨(pd.add (k * 4)).block, (pd.add (k * 4)).off + 1, none⟩, .int .i64 p.v), (⟨(pd.add (k * 4)).block, (pd.add (k * 4)).off + 2, none⟩, .string p.data), (⟨(pd.add (k * 4)).block, (pd.add (k * 4)).off + 3, none⟩, .int .i64 p.tg), (sd.add p.c.toNat, .int .i64 (xs[p.c.toNat]?.getD 0)), (⟨g9, p.c.toNat, none⟩, .int .i64 (cur[p.c.toNat]?.getD 0)), (pd.add (j * 4), .int .i64 ((P[j]?.getD default).c))] := hC.append ((RCells.cons q0 (RCells.nil _)))
                  clear c0 c1 c2 c3 c4 c5 c6 c7
                  have c0 : wr.cell? (⟨w.heap.size, 0, none⟩) = some (.slice ta tn tc) := hC.at 0 rfl
                  have c1 : wr.cell? (⟨w.heap.size, 1, none⟩) = some (.slice ca cn cc) := hC.at 1 rfl
                  have c2 : wr.cell? (pd.add (k * 4)) = some (.int .i64 p.c) := hC.at 2 rfl
                  have c3 : wr.cell? (⟨(pd.add (k * 4)).block, (pd.add (k * 4)).off + 1, none⟩) = some (.int .i64 p.v) := hC.at 3 rfl
                  have c4 : wr.cell? (⟨(pd.add (k * 4)).block, (pd.add (k * 4)).off + 2, none⟩) = some (.string p.data) := hC.at 4 rfl
                  have c5 : wr.cell? (⟨(pd.add (k * 4)).block, (pd.add (k * 4)).off + 3, none⟩) = some (.int .i64 p.tg) := hC.at 5 rfl
                  have c6 : wr.cell? (sd.add p.c.toNat) = some (.int .i64 (xs[p.c.toNat]?.getD 0)) := hC.at 6 rfl
                  have c7 : wr.cell? (⟨g9, p.c.toNat, none⟩) = some (.int .i64 (cur[p.c.toNat]?.getD 0)) := hC.at 7 rfl
                  have c8 : wr.cell? (pd.add (j * 4)) = some (.int .i64 ((P[j]?.getD default).c)) := hC.at 8 rfl
                  clear q0
                  go_wp2_with fail
                  refine (wpIn_wide (n := 0)).1 ?_
                  refine region_inv (F := Fence.wide) (by kernel_rfl) (by rfl) (by decide) (fun _ => trivial)
                    (fun done' u W' => Kn [some (.slice (some pd) ln lc), some (.int .i64 j), some (.pointer (some (pd.add (j * 4)))), some (.pointer (some (pd.add (j * 4)))), some (.int .i64 ((P[j]?.getD default).c)), some (.slice (some pd) ln lc), some (.int .i64 k), some (.pointer (some (pd.add (k * 4)))), some (.pointer (some (pd.add (k * 4)))), some (.int .i64 p.c), some (.bool (((P[j]?.getD default).c : Int) == p.c))] done' u ∧ Gr wr W')
                    (fun u => ⟨Kn.start _ _, Gr.drew wr⟩) ⟨?_, ?_, ?_, ?_, ?_, ?_, ?_, ?_, ?_, ?_, ?_, trivial⟩ ?_
                  · rintro u done' W' hd hanc hclo ⟨hk, hg⟩
                    refine op_plain (ro := none) rfl (fun c h => by cases h) fun K hK => ?_
                    simp only [fillL, List.setIfInBounds_toArray, List.set_cons_zero, List.set_cons_succ, Nat.zero_add, Nat.reduceAdd] at hK ⊢
                    go_simp
                    exact hK _ _ ⟨hk.new rfl, hg⟩
                  · rintro u done' W' hd hanc hclo ⟨hk, hg⟩
                    refine op_plain (ro := none) rfl (fun c h => by cases h) fun K hK => ?_
                    simp only [fillL, List.setIfInBounds_toArray, List.set_cons_zero, List.set_cons_succ, Nat.zero_add, Nat.reduceAdd] at hK ⊢
                    go_simp
                    exact hK _ _ ⟨hk.new rfl, hg⟩
                  · rintro u done' W' hd hanc hclo ⟨hk, hg⟩
                    have e0 := hk.get 0 rfl (hanc 0 (mem_of (by kernel_rfl)))
                    have e1 := hk.get 1 rfl (hanc 1 (mem_of (by kernel_rfl)))
                    refine op_plain (ro := none) rfl (fun c h => by cases h) fun K hK => ?_
                    simp only [fillL, List.setIfInBounds_toArray, List.set_cons_zero, List.set_cons_succ, Nat.zero_add, Nat.reduceAdd, e0, e1] at hK ⊢
                    go_simp
                    exact hK _ _ ⟨hk.new rfl, hg⟩
                  · rintro u done' W' hd hanc hclo ⟨hk, hg⟩
                    have e2 := hk.get 2 rfl (hanc 2 (mem_of (by kernel_rfl)))
                    refine op_plain (ro := none) rfl (fun c h => by cases h) fun K hK => ?_
                    simp only [fillL, List.setIfInBounds_toArray, List.set_cons_zero, List.set_cons_succ, Nat.zero_add, Nat.reduceAdd, e2] at hK ⊢
                    go_simp
                    exact hK _ _ ⟨hk.new rfl, hg⟩
                  · rintro u done' W' hd hanc hclo ⟨hk, hg⟩
                    have e3 := hk.get 3 rfl (hanc 3 (mem_of (by kernel_rfl)))
                    refine op_plain (ro := none) rfl (fun c h => by cases h) fun K hK => ?_
                    have cc8 : W'.cell? (pd.add (j * 4)) = some (.int .i64 ((P[j]?.getD default).c)) := (hC.gr hg).at 8 rfl
                    simp only [fillL, List.setIfInBounds_toArray, List.set_cons_zero, List.set_cons_succ, Nat.zero_add, Nat.reduceAdd, e3] at hK ⊢
                    go_simp
                    exact hK _ _ ⟨hk.new rfl, hg⟩
                  · rintro u done' W' hd hanc hclo ⟨hk, hg⟩
                    refine op_plain (ro := none) rfl (fun c h => by cases h) fun K hK => ?_
                    simp only [fillL, List.setIfInBounds_toArray, List.set_cons_zero, List.set_cons_succ, Nat.zero_add, Nat.reduceAdd] at hK ⊢
                    go_simp
                    exact hK _ _ ⟨hk.new rfl, hg⟩
                  · rintro u done' W' hd hanc hclo ⟨hk, hg⟩
                    refine op_plain (ro := none) rfl (fun c h => by cases h) fun K hK => ?_
                    simp only [fillL, List.setIfInBounds_toArray, List.set_cons_zero, List.set_cons_succ, Nat.zero_add, Nat.reduceAdd] at hK ⊢
                    go_simp
                    exact hK _ _ ⟨hk.new rfl, hg⟩
                  · rintro u done' W' hd hanc hclo ⟨hk, hg⟩
                    have e5 := hk.get 5 rfl (hanc 5 (mem_of (by kernel_rfl)))
                    have e6 := hk.get 6 rfl (hanc 6 (mem_of (by kernel_rfl)))
                    refine op_plain (ro := none) rfl (fun c h => by cases h) fun K hK => ?_
                    simp only [fillL, List.setIfInBounds_toArray, List.set_cons_zero, List.set_cons_succ, Nat.zero_add, Nat.reduceAdd, e5, e6] at hK ⊢
                    go_simp
                    exact hK _ _ ⟨hk.new rfl, hg⟩
                  · rintro u done' W' hd hanc hclo ⟨hk, hg⟩
                    have e7 := hk.get 7 rfl (hanc 7 (mem_of (by kernel_rfl)))
                    refine op_plain (ro := none) rfl (fun c h => by cases h) fun K hK => ?_
                    simp only [fillL, List.setIfInBounds_toArray, List.set_cons_zero, List.set_cons_succ, Nat.zero_add, Nat.reduceAdd, e7] at hK ⊢
                    go_simp
                    exact hK _ _ ⟨hk.new rfl, hg⟩
                  · rintro u done' W' hd hanc hclo ⟨hk, hg⟩
                    have e8 := hk.get 8 rfl (hanc 8 (mem_of (by kernel_rfl)))
                    refine op_plain (ro := none) rfl (fun c h => by cases h) fun K hK => ?_
                    have cc2 : W'.cell? (pd.add (k * 4)) = some (.int .i64 p.c) := (hC.gr hg).at 2 rfl
                    simp only [fillL, List.setIfInBounds_toArray, List.set_cons_zero, List.set_cons_succ, Nat.zero_add, Nat.reduceAdd, e8] at hK ⊢
                    go_simp
                    exact hK _ _ ⟨hk.new rfl, hg⟩
                  · rintro u done' W' hd hanc hclo ⟨hk, hg⟩
                    have e4 := hk.get 4 rfl (hanc 4 (mem_of (by kernel_rfl)))
                    have e9 := hk.get 9 rfl (hanc 9 (mem_of (by kernel_rfl)))
                    refine op_plain (ro := none) rfl (fun c h => by cases h) fun K hK => ?_
                    simp only [fillL, List.setIfInBounds_toArray, List.set_cons_zero, List.set_cons_succ, Nat.zero_add, Nat.reduceAdd, e4, e9] at hK ⊢
                    go_simp
                    exact hK _ _ ⟨hk.new rfl, hg⟩
                  · rintro u w14 ⟨done', hdn, hk, hg⟩
                    have e10 := hk.get 10 rfl (hdn 10 (by decide))
                    simp only [fillL, List.setIfInBounds_toArray, List.set_cons_zero, List.set_cons_succ, Nat.zero_add, Nat.reduceAdd, e10]
                    clear hk hdn e10
                    replace G := G.trans hg
                    replace hC := hC.gr hg
                    replace GB_ := GB_.trans hg
                    replace GBB_ := GBB_.trans hg
                    replace hf := hf.gr hg
                    replace hx := hx.gr hg
                    replace hP := hP.gr hg
                    replace hR3 := hR3.gr hg
                    replace hO := hO.gr hg
                    replace hOi := hOi.gr hg
                    clear hg
                    clear c0 c1 c2 c3 c4 c5 c6 c7 c8
                    have c0 : w14.cell? (⟨w.heap.size, 0, none⟩) = some (.slice ta tn tc) := hC.at 0 rfl
                    have c1 : w14.cell? (⟨w.heap.size, 1, none⟩) = some (.slice ca cn cc) := hC.at 1 rfl
                    have c2 : w14.cell? (pd.add (k * 4)) = some (.int .i64 p.c) := hC.at 2 rfl
                    have c3 : w14.cell? (⟨(pd.add (k * 4)).block, (pd.add (k * 4)).off + 1, none⟩) = some (.int .i64 p.v) := hC.at 3 rfl
                    have c4 : w14.cell? (⟨(pd.add (k * 4)).block, (pd.add (k * 4)).off + 2, none⟩) = some (.string p.data) := hC.at 4 rfl
                    have c5 : w14.cell? (⟨(pd.add (k * 4)).block, (pd.add (k * 4)).off + 3, none⟩) = some (.int .i64 p.tg) := hC.at 5 rfl
                    have c6 : w14.cell? (sd.add p.c.toNat) = some (.int .i64 (xs[p.c.toNat]?.getD 0)) := hC.at 6 rfl
                    have c7 : w14.cell? (⟨g9, p.c.toNat, none⟩) = some (.int .i64 (cur[p.c.toNat]?.getD 0)) := hC.at 7 rfl
                    have c8 : w14.cell? (pd.add (j * 4)) = some (.int .i64 ((P[j]?.getD default).c)) := hC.at 8 rfl
                    by_cases h15 : ((P[j]?.getD default).c : Int) = p.c
                    · have h15b : (((P[j]?.getD default).c : Int) == p.c) = true := by simp [h15]
                      have Hh15 := Lib.hid h15
                      clear h15
                      have HANY := Lib.hid (any_take_hit hjk (by rw [HPL.out]; omega) Hh15.out)
                      go_wp2_with fail
                      go_ret3
                      have HI2 : Hid (instL f se xs [] P xs = ((k : Int), 1, [])) := Lib.hid (by rw [← HI.out, hdr.out, instL, if_pos Hh12.out, if_pos HANY.out, List.length_take, HPL.out, Nat.min_eq_left (Nat.le_of_lt hlt)])
                      have HR3 : Hid (instR f se xs P = ([], (k : Int), 1)) := Lib.hid (by rw [HR2.out, HI2.out, if_neg (by simp)])
                      exact ⟨none, 0, 0, by rw [HR3.out]; rfl, by rw [HR3.out]; exact Ints.nil _, G⟩
                    · have h15b : (((P[j]?.getD default).c : Int) == p.c) = false := by simp [h15]
                      have Hh15 := Lib.hid h15
                      clear h15
                      go_wp2_with fail
                      go_roundw
                      case rel => exact ⟨j + 1, by omega, by go_num, GBB_, Lib.hid (fun t ht => by
                                  by_cases e : t = j
                                  · subst e; exact Hh15.out
                                  · exact hall.out t (by omega))⟩
                      case measure => simp [intOf] <;> omega
                · obtain rfl : k = j := by omega
                  have HANY := Lib.hid (any_take_none (P := P) (x := p.c) (k := k) (by rw [HPL.out]; omega) hall.out)
                  go_wp2_with fail
                  refine (wpIn_wide (n := 0)).1 ?_
                  refine region_inv (F := Fence.wide) (by kernel_rfl) (by rfl) (by decide) (fun _ => trivial)
                    (fun done' u W' => Kn [some (.slice (some pd) ln lc), some (.int .i64 k), some (.pointer (some (pd.add (k * 4)))), some (.pointer (some (⟨(pd.add (k * 4)).block, (pd.add (k * 4)).off + 1, none⟩))), some (.int .i64 p.v), some (.slice (some sd) n c), some (.slice (some pd) ln lc), some (.int .i64 k), some (.pointer (some (pd.add (k * 4)))), some (.pointer (some (pd.add (k * 4)))), some (.int .i64 p.c), some (.pointer (some (sd.add p.c.toNat))), some (.int .i64 (xs[p.c.toNat]?.getD 0)), some (.bool (decide ((p.v : Int) ≤ (xs[p.c.toNat]?.getD 0))))] done' u ∧ Gr wr W')
                    (fun u => ⟨Kn.start _ _, Gr.drew wr⟩) ⟨?_, ?_, ?_, ?_, ?_, ?_, ?_, ?_, ?_, ?_, ?_, ?_, ?_, ?_, trivial⟩ ?_
                  · rintro u done' W' hd hanc hclo ⟨hk, hg⟩
                    refine op_plain (ro := none) rfl (fun c h => by cases h) fun K hK => ?_
                    simp only [fillL, List.setIfInBounds_toArray, List.set_cons_zero, List.set_cons_succ, Nat.zero_add, Nat.reduceAdd] at hK ⊢
                    go_simp
                    exact hK _ _ ⟨hk.new rfl, hg⟩
                  · rintro u done' W' hd hanc hclo ⟨hk, hg⟩
                    refine op_plain (ro := none) rfl (fun c h => by cases h) fun K hK => ?_
                    simp only [fillL, List.setIfInBounds_toArray, List.set_cons_zero, List.set_cons_succ, Nat.zero_add, Nat.reduceAdd] at hK ⊢
                    go_simp
                    exact hK _ _ ⟨hk.new rfl, hg⟩
                  · rintro u done' W' hd hanc hclo ⟨hk, hg⟩
                    have e0 := hk.get 0 rfl (hanc 0 (mem_of (by kernel_rfl)))
                    have e1 := hk.get 1 rfl (hanc 1 (mem_of (by kernel_rfl)))
                    refine op_plain (ro := none) rfl (fun c h => by cases h) fun K hK => ?_
                    simp only [fillL, List.setIfInBounds_toArray, List.set_cons_zero, List.set_cons_succ, Nat.zero_add, Nat.reduceAdd, e0, e1] at hK ⊢
                    go_simp
                    exact hK _ _ ⟨hk.new rfl, hg⟩
                  · rintro u done' W' hd hanc hclo ⟨hk, hg⟩
                    have e2 := hk.get 2 rfl (hanc 2 (mem_of (by kernel_rfl)))
                    refine op_plain (ro := none) rfl (fun c h => by cases h) fun K hK => ?_
                    simp only [fillL, List.setIfInBounds_toArray, List.set_cons_zero, List.set_cons_succ, Nat.zero_add, Nat.reduceAdd, e2] at hK ⊢
                    go_simp
                    exact hK _ _ ⟨hk.new rfl, hg⟩
                  · rintro u done' W' hd hanc hclo ⟨hk, hg⟩
                    have e3 := hk.get 3 rfl (hanc 3 (mem_of (by kernel_rfl)))
                    refine op_plain (ro := none) rfl (fun c h => by cases h) fun K hK => ?_
                    have cc3 : W'.cell? (⟨(pd.add (k * 4)).block, (pd.add (k * 4)).off + 1, none⟩) = some (.int .i64 p.v) := (hC.gr hg).at 3 rfl
                    simp only [fillL, List.setIfInBounds_toArray, List.set_cons_zero, List.set_cons_succ, Nat.zero_add, Nat.reduceAdd, e3] at hK ⊢
                    go_simp
                    exact hK _ _ ⟨hk.new rfl, hg⟩
                  · rintro u done' W' hd hanc hclo ⟨hk, hg⟩
                    refine op_plain (ro := none) rfl (fun c h => by cases h) fun K hK => ?_
                    simp only [fillL, List.setIfInBounds_toArray, List.set_cons_zero, List.set_cons_succ, Nat.zero_add, Nat.reduceAdd] at hK ⊢
                    go_simp
                    exact hK _ _ ⟨hk.new rfl, hg⟩
                  · rintro u done' W' hd hanc hclo ⟨hk, hg⟩
                    refine op_plain (ro := none) rfl (fun c h => by cases h) fun K hK => ?_
                    simp only [fillL, List.setIfInBounds_toArray, List.set_cons_zero, List.set_cons_succ, Nat.zero_add, Nat.reduceAdd] at hK ⊢
                    go_simp
                    exact hK _ _ ⟨hk.new rfl, hg⟩
                  · rintro u done' W' hd hanc hclo ⟨hk, hg⟩
                    refine op_plain (ro := none) rfl (fun c h => by cases h) fun K hK => ?_
                    simp only [fillL, List.setIfInBounds_toArray, List.set_cons_zero, List.set_cons_succ, Nat.zero_add, Nat.reduceAdd] at hK ⊢
                    go_simp
                    exact hK _ _ ⟨hk.new rfl, hg⟩
                  · rintro u done' W' hd hanc hclo ⟨hk, hg⟩
                    have e6 := hk.get 6 rfl (hanc 6 (mem_of (by kernel_rfl)))
                    have e7 := hk.get 7 rfl (hanc 7 (mem_of (by kernel_rfl)))
                    refine op_plain (ro := none) rfl (fun c h => by cases h) fun K hK => ?_
                    simp only [fillL, List.setIfInBounds_toArray, List.set_cons_zero, List.set_cons_succ, Nat.zero_add, Nat.reduceAdd, e6, e7] at hK ⊢
                    go_simp
                    exact hK _ _ ⟨hk.new rfl, hg⟩
                  · rintro u done' W' hd hanc hclo ⟨hk, hg⟩
                    have e8 := hk.get 8 rfl (hanc 8 (mem_of (by kernel_rfl)))
                    refine op_plain (ro := none) rfl (fun c h => by cases h) fun K hK => ?_
                    simp only [fillL, List.setIfInBounds_toArray, List.set_cons_zero, List.set_cons_succ, Nat.zero_add, Nat.reduceAdd, e8] at hK ⊢
                    go_simp
                    exact hK _ _ ⟨hk.new rfl, hg⟩
                  · rintro u done' W' hd hanc hclo ⟨hk, hg⟩
                    have e9 := hk.get 9 rfl (hanc 9 (mem_of (by kernel_rfl)))
                    refine op_plain (ro := none) rfl (fun c h => by cases h) fun K hK => ?_
                    have cc2 : W'.cell? (pd.add (k * 4)) = some (.int .i64 p.c) := (hC.gr hg).at 2 rfl
                    simp only [fillL, List.setIfInBounds_toArray, List.set_cons_zero, List.set_cons_succ, Nat.zero_add, Nat.reduceAdd, e9] at hK ⊢
                    go_simp
                    exact hK _ _ ⟨hk.new rfl, hg⟩
                  · rintro u done' W' hd hanc hclo ⟨hk, hg⟩
                    have e5 := hk.get 5 rfl (hanc 5 (mem_of (by kernel_rfl)))
                    have e10 := hk.get 10 rfl (hanc 10 (mem_of (by kernel_rfl)))
                    refine op_plain (ro := none) rfl (fun c h => by cases h) fun K hK => ?_
                    simp only [fillL, List.setIfInBounds_toArray, List.set_cons_zero, List.set_cons_succ, Nat.zero_add, Nat.reduceAdd, e5, e10] at hK ⊢
                    go_simp
                    exact hK _ _ ⟨hk.new rfl, hg⟩
                  · rintro u done' W' hd hanc hclo ⟨hk, hg⟩
                    have e11 := hk.get 11 rfl (hanc 11 (mem_of (by kernel_rfl)))
                    refine op_plain (ro := none) rfl (fun c h => by cases h) fun K hK => ?_
                    have cc6 : W'.cell? (sd.add p.c.toNat) = some (.int .i64 (xs[p.c.toNat]?.getD 0)) := (hC.gr hg).at 6 rfl
                    simp only [fillL, List.setIfInBounds_toArray, List.set_cons_zero, List.set_cons_succ, Nat.zero_add, Nat.reduceAdd, e11] at hK ⊢
                    go_simp
                    exact hK _ _ ⟨hk.new rfl, hg⟩
                  · rintro u done' W' hd hanc hclo ⟨hk, hg⟩
                    have e4 := hk.get 4 rfl (hanc 4 (mem_of (by kernel_rfl)))
                    have e12 := hk.get 12 rfl (hanc 12 (mem_of (by kernel_rfl)))
                    refine op_plain (ro := none) rfl (fun c h => by cases h) fun K hK => ?_
                    simp only [fillL, List.setIfInBounds_toArray, List.set_cons_zero, List.set_cons_succ, Nat.zero_add, Nat.reduceAdd, e4, e12] at hK ⊢
                    go_simp
                    exact hK _ _ ⟨hk.new rfl, hg⟩
                  · rintro u w16 ⟨done', hdn, hk, hg⟩
                    have e13 := hk.get 13 rfl (hdn 13 (by decide))
                    simp only [fillL, List.setIfInBounds_toArray, List.set_cons_zero, List.set_cons_succ, Nat.zero_add, Nat.reduceAdd, e13]
                    clear hk hdn e13
                    replace G := G.trans hg
                    replace hC := hC.gr hg
                    replace GB_ := GB_.trans hg
                    replace GBB_ := GBB_.trans hg
                    replace hf := hf.gr hg
                    replace hx := hx.gr hg
                    replace hP := hP.gr hg
                    replace hR3 := hR3.gr hg
                    replace hO := hO.gr hg
                    replace hOi := hOi.gr hg
                    clear hg
                    clear c0 c1 c2 c3 c4 c5 c6 c7
                    have c0 : w16.cell? (⟨w.heap.size, 0, none⟩) = some (.slice ta tn tc) := hC.at 0 rfl
                    have c1 : w16.cell? (⟨w.heap.size, 1, none⟩) = some (.slice ca cn cc) := hC.at 1 rfl
                    have c2 : w16.cell? (pd.add (k * 4)) = some (.int .i64 p.c) := hC.at 2 rfl
                    have c3 : w16.cell? (⟨(pd.add (k * 4)).block, (pd.add (k * 4)).off + 1, none⟩) = some (.int .i64 p.v) := hC.at 3 rfl
                    have c4 : w16.cell? (⟨(pd.add (k * 4)).block, (pd.add (k * 4)).off + 2, none⟩) = some (.string p.data) := hC.at 4 rfl
                    have c5 : w16.cell? (⟨(pd.add (k * 4)).block, (pd.add (k * 4)).off + 3, none⟩) = some (.int .i64 p.tg) := hC.at 5 rfl
                    have c6 : w16.cell? (sd.add p.c.toNat) = some (.int .i64 (xs[p.c.toNat]?.getD 0)) := hC.at 6 rfl
                    have c7 : w16.cell? (⟨g9, p.c.toNat, none⟩) = some (.int .i64 (cur[p.c.toNat]?.getD 0)) := hC.at 7 rfl
                    by_cases h17 : (p.v : Int) ≤ (xs[p.c.toNat]?.getD 0)
                    · go_wp2_with fail
                      go_ret3
                      have HI2 : Hid (instL f se xs [] P xs = ((k : Int), 112, [])) := Lib.hid (by rw [← HI.out, hdr.out, instL, if_pos Hh12.out, if_neg (by rw [HANY.out]; decide), if_pos h17, List.length_take, HPL.out, Nat.min_eq_left (Nat.le_of_lt hlt)])
                      have HR3 : Hid (instR f se xs P = ([], (k : Int), 112)) := Lib.hid (by rw [HR2.out, HI2.out, if_neg (by simp)])
                      exact ⟨none, 0, 0, by rw [HR3.out]; rfl, by rw [HR3.out]; exact Ints.nil _, G⟩
                    · go_wp2_with fail
                      refine (wpIn_wide (n := 0)).1 ?_
                      refine region_inv (F := Fence.wide) (by kernel_rfl) (by rfl) (by decide) (fun _ => trivial)
                        (fun done' u W' => Kn [some (.slice (some ⟨g9, 0, none⟩) n cg9), some (.slice (some pd) ln lc), some (.int .i64 k), some (.pointer (some (pd.add (k * 4)))), some (.pointer (some (pd.add (k * 4)))), some (.int .i64 p.c), some (.slice (some pd) ln lc), some (.int .i64 k), some (.pointer (some (pd.add (k * 4)))), some (.pointer (some (⟨(pd.add (k * 4)).block, (pd.add (k * 4)).off + 1, none⟩))), some (.int .i64 p.v), some (.pointer (some (⟨g9, p.c.toNat, none⟩))), none] done' u ∧ Tail 12 w16 (fun W => W = w16.drew.setCell (⟨g9, p.c.toNat, none⟩) (.int .i64 p.v)) done' W')
                        (fun u => ⟨Kn.start _ _, Tail.start⟩) ⟨?_, ?_, ?_, ?_, ?_, ?_, ?_, ?_, ?_, ?_, ?_, ?_, ?_, trivial⟩ ?_
                      · rintro u done' W' hd hanc hclo ⟨hk, hT⟩
                        refine op_plain (ro := none) rfl (fun c h => by cases h) fun K hK => ?_
                        simp only [fillL, List.setIfInBounds_toArray, List.set_cons_zero, List.set_cons_succ, Nat.zero_add, Nat.reduceAdd] at hK ⊢
                        go_simp
                        exact hK _ _ ⟨hk.new rfl, hT.quiet (by decide)⟩
                      · rintro u done' W' hd hanc hclo ⟨hk, hT⟩
                        refine op_plain (ro := none) rfl (fun c h => by cases h) fun K hK => ?_
                        simp only [fillL, List.setIfInBounds_toArray, List.set_cons_zero, List.set_cons_succ, Nat.zero_add, Nat.reduceAdd] at hK ⊢
                        go_simp
                        exact hK _ _ ⟨hk.new rfl, hT.quiet (by decide)⟩
                      · rintro u done' W' hd hanc hclo ⟨hk, hT⟩
                        refine op_plain (ro := none) rfl (fun c h => by cases h) fun K hK => ?_
                        simp only [fillL, List.setIfInBounds_toArray, List.set_cons_zero, List.set_cons_succ, Nat.zero_add, Nat.reduceAdd] at hK ⊢
                        go_simp
                        exact hK _ _ ⟨hk.new rfl, hT.quiet (by decide)⟩
                      · rintro u done' W' hd hanc hclo ⟨hk, hT⟩
                        have e1 := hk.get 1 rfl (hanc 1 (mem_of (by kernel_rfl)))
                        have e2 := hk.get 2 rfl (hanc 2 (mem_of (by kernel_rfl)))
                        refine op_plain (ro := none) rfl (fun c h => by cases h) fun K hK => ?_
                        simp only [fillL, List.setIfInBounds_toArray, List.set_cons_zero, List.set_cons_succ, Nat.zero_add, Nat.reduceAdd, e1, e2] at hK ⊢
                        go_simp
                        exact hK _ _ ⟨hk.new rfl, hT.quiet (by decide)⟩
                      · rintro u done' W' hd hanc hclo ⟨hk, hT⟩
                        have e3 := hk.get 3 rfl (hanc 3 (mem_of (by kernel_rfl)))
                        refine op_plain (ro := none) rfl (fun c h => by cases h) fun K hK => ?_
                        simp only [fillL, List.setIfInBounds_toArray, List.set_cons_zero, List.set_cons_succ, Nat.zero_add, Nat.reduceAdd, e3] at hK ⊢
                        go_simp
                        exact hK _ _ ⟨hk.new rfl, hT.quiet (by decide)⟩
                      · rintro u done' W' hd hanc hclo ⟨hk, hT⟩
                        have e4 := hk.get 4 rfl (hanc 4 (mem_of (by kernel_rfl)))
                        obtain rfl := hT.before (not_done hclo hd 12 rfl (by kernel_rfl))
                        have cc2 : w16.drew.cell? (pd.add (k * 4)) = some (.int .i64 p.c) := (hC.gr (Gr.drew _)).at 2 rfl
                        refine op_plain (ro := none) rfl (fun c h => by cases h) fun K hK => ?_
                        simp only [fillL, List.setIfInBounds_toArray, List.set_cons_zero, List.set_cons_succ, Nat.zero_add, Nat.reduceAdd, e4] at hK ⊢
                        go_simp
                        exact hK _ _ ⟨hk.new rfl, hT.quiet (by decide)⟩
                      · rintro u done' W' hd hanc hclo ⟨hk, hT⟩
                        refine op_plain (ro := none) rfl (fun c h => by cases h) fun K hK => ?_
                        simp only [fillL, List.setIfInBounds_toArray, List.set_cons_zero, List.set_cons_succ, Nat.zero_add, Nat.reduceAdd] at hK ⊢
                        go_simp
                        exact hK _ _ ⟨hk.new rfl, hT.quiet (by decide)⟩
                      · rintro u done' W' hd hanc hclo ⟨hk, hT⟩
                        refine op_plain (ro := none) rfl (fun c h => by cases h) fun K hK => ?_
                        simp only [fillL, List.setIfInBounds_toArray, List.set_cons_zero, List.set_cons_succ, Nat.zero_add, Nat.reduceAdd] at hK ⊢
                        go_simp
                        exact hK _ _ ⟨hk.new rfl, hT.quiet (by decide)⟩
                      · rintro u done' W' hd hanc hclo ⟨hk, hT⟩
                        have e6 := hk.get 6 rfl (hanc 6 (mem_of (by kernel_rfl)))
                        have e7 := hk.get 7 rfl (hanc 7 (mem_of (by kernel_rfl)))
                        refine op_plain (ro := none) rfl (fun c h => by cases h) fun K hK => ?_
                        simp only [fillL, List.setIfInBounds_toArray, List.set_cons_zero, List.set_cons_succ, Nat.zero_add, Nat.reduceAdd, e6, e7] at hK ⊢
                        go_simp
                        exact hK _ _ ⟨hk.new rfl, hT.quiet (by decide)⟩
                      · rintro u done' W' hd hanc hclo ⟨hk, hT⟩
                        have e8 := hk.get 8 rfl (hanc 8 (mem_of (by kernel_rfl)))
                        refine op_plain (ro := none) rfl (fun c h => by cases h) fun K hK => ?_
                        simp only [fillL, List.setIfInBounds_toArray, List.set_cons_zero, List.set_cons_succ, Nat.zero_add, Nat.reduceAdd, e8] at hK ⊢
                        go_simp
                        exact hK _ _ ⟨hk.new rfl, hT.quiet (by decide)⟩
                      · rintro u done' W' hd hanc hclo ⟨hk, hT⟩
                        have e9 := hk.get 9 rfl (hanc 9 (mem_of (by kernel_rfl)))
                        obtain rfl := hT.before (not_done hclo hd 12 rfl (by kernel_rfl))
                        have cc3 : w16.drew.cell? (⟨(pd.add (k * 4)).block, (pd.add (k * 4)).off + 1, none⟩) = some (.int .i64 p.v) := (hC.gr (Gr.drew _)).at 3 rfl
                        refine op_plain (ro := none) rfl (fun c h => by cases h) fun K hK => ?_
                        simp only [fillL, List.setIfInBounds_toArray, List.set_cons_zero, List.set_cons_succ, Nat.zero_add, Nat.reduceAdd, e9] at hK ⊢
                        go_simp
                        exact hK _ _ ⟨hk.new rfl, hT.quiet (by decide)⟩
                      · rintro u done' W' hd hanc hclo ⟨hk, hT⟩
                        have e0 := hk.get 0 rfl (hanc 0 (mem_of (by kernel_rfl)))
                        have e5 := hk.get 5 rfl (hanc 5 (mem_of (by kernel_rfl)))
                        refine op_plain (ro := none) rfl (fun c h => by cases h) fun K hK => ?_
                        simp only [fillL, List.setIfInBounds_toArray, List.set_cons_zero, List.set_cons_succ, Nat.zero_add, Nat.reduceAdd, e0, e5] at hK ⊢
                        go_simp
                        exact hK _ _ ⟨hk.new rfl, hT.quiet (by decide)⟩
                      · rintro u done' W' hd hanc hclo ⟨hk, hT⟩
                        have e10 := hk.get 10 rfl (hanc 10 (mem_of (by kernel_rfl)))
                        have e11 := hk.get 11 rfl (hanc 11 (mem_of (by kernel_rfl)))
                        obtain rfl := hT.before hd
                        have cc7 : w16.drew.cell? (⟨g9, p.c.toNat, none⟩) = some (.int .i64 (cur[p.c.toNat]?.getD 0)) := (hC.gr (Gr.drew _)).at 7 rfl
                        have hff : w16.drew.frozen? (⟨g9, p.c.toNat, none⟩) = false := (hO.gr (Gr.drew _)).free p.c.toNat
                        refine op_plain (ro := none) rfl (fun c h => by cases h) fun K hK => ?_
                        simp only [fillL, List.setIfInBounds_toArray, List.set_cons_zero, List.set_cons_succ, Nat.zero_add, Nat.reduceAdd, e10, e11] at hK ⊢
                        go_simp
                        exact hK undef _ ⟨hk.skip rfl, Tail.done rfl⟩
                      · rintro u w18 ⟨done', hdn, hk, hT⟩
                        obtain rfl := hT.after (hdn 12 (by decide))
                        simp only [fillL, List.setIfInBounds_toArray, List.set_cons_zero, List.set_cons_succ, Nat.zero_add, Nat.reduceAdd]
                        clear hk hdn hT 
                        have HI2 : Hid (instL f se xs (P.take (k + 1)) (P.drop (k + 1)) (cur.set p.c.toNat p.v) = instL f se xs [] P xs) := Lib.hid (by rw [htk.out, ← HI.out, hdr.out, instL, if_pos Hh12.out, if_neg (by rw [HANY.out]; decide), if_neg (by have := h17; omega)])
                        have HS2 : Hid (StOk f (cur.set p.c.toNat p.v)) := Lib.hid (stOk_set HS.out hver)
                        go_wp2_with fail
                        go_roundw
                        case rel => exact ⟨k + 1, _, by omega, by go_num, GB_.drewR.setCell hge _, (hO.gr (Gr.drew _)).set hcn _, HS2, HI2⟩
                        case measure => simp [intOf] <;> omega
            · have h12b : ((acceptE f se p.c p.v p.data p.tg : Int) != 0) = true := by simp [h12]
              have Hh12 := Lib.hid h12
              clear h12
              go_wp2_with fail
              go_ret3
              have HI2 : Hid (instL f se xs [] P xs = ((k : Int), acceptE f se p.c p.v p.data p.tg, [])) := Lib.hid (by rw [← HI.out, hdr.out, instL, if_neg Hh12.out, List.length_take, HPL.out, Nat.min_eq_left (Nat.le_of_lt hlt)])
              have HR3 : Hid (instR f se xs P = ([], (k : Int), acceptE f se p.c p.v p.data p.tg)) := Lib.hid (by rw [HR2.out, HI2.out, if_neg (by exact Hh12.out)])
              exact ⟨none, 0, 0, by rw [HR3.out]; rfl, by rw [HR3.out]; exact Ints.nil _, G⟩
        · obtain rfl : k = ln := by omega
          have HI2 : Hid (instL f se xs [] P xs = (0, 0, cur)) := Lib.hid (by rw [← HI.out, List.drop_eq_nil_of_le (by rw [HPL.out]; exact Nat.le_refl _)]; simp [instL])
          have HC := Lib.hid (clash2_any ta ca a tn tc cn cc n c f xs wr hf hok hx hst)
          go_wp2_with fail
          refine HC.out.mono ?_
          rintro e w19 ⟨rfl, g⟩
          clear HC
          replace G := G.trans g
          replace hC := hC.gr g
          replace GB_ := GB_.trans g
          replace hf := hf.gr g
          replace hx := hx.gr g
          replace hP := hP.gr g
          replace hR3 := hR3.gr g
          replace hO := hO.gr g
          replace hOi := hOi.gr g
          clear g
          clear c0 c1
          have c0 : w19.cell? (⟨w.heap.size, 0, none⟩) = some (.slice ta tn tc) := hC.at 0 rfl
          have c1 : w19.cell? (⟨w.heap.size, 1, none⟩) = some (.slice ca cn cc) := hC.at 1 rfl
          by_cases h20 : (0 : Int) ≤ (clashI f xs)
          · have HWxs : Hid (worksB f xs = false) := Lib.hid (by unfold worksB; exact decide_eq_false (by omega))
            go_wp2_with fail
            go_ret3
            have HR3 : Hid (instR f se xs P = ([], 0, 111)) := Lib.hid (by rw [HR2.out, HI2.out, if_pos rfl, if_neg (by rw [show worksB f xs = false from HWxs.out]; simp)])
            exact ⟨none, 0, 0, by rw [HR3.out]; rfl, by rw [HR3.out]; exact Ints.nil _, G⟩
          · have HWxs : Hid (worksB f xs = true) := Lib.hid (by unfold worksB; exact decide_eq_true (by omega))
            have HC := Lib.hid (clash2_any ta ca (some ⟨g9, 0, none⟩) tn tc cn cc n cg9 f cur w19 hf hok hOi HS.out)
            go_wp2_with fail
            refine HC.out.mono ?_
            rintro e w21 ⟨rfl, g⟩
            clear HC
            replace G := G.trans g
            replace hC := hC.gr g
            replace GB_ := GB_.trans g
            replace hf := hf.gr g
            replace hx := hx.gr g
            replace hP := hP.gr g
            replace hR3 := hR3.gr g
            replace hO := hO.gr g
            replace hOi := hOi.gr g
            clear g
            clear c0 c1
            have c0 : w21.cell? (⟨w.heap.size, 0, none⟩) = some (.slice ta tn tc) := hC.at 0 rfl
            have c1 : w21.cell? (⟨w.heap.size, 1, none⟩) = some (.slice ca cn cc) := hC.at 1 rfl
            by_cases h22 : (0 : Int) ≤ (clashI f cur)
            · have HWcur : Hid (worksB f cur = false) := Lib.hid (by unfold worksB; exact decide_eq_false (by omega))
              go_wp2_with fail
              go_ret3
              have HR3 : Hid (instR f se xs P = ([], 0, 111)) := Lib.hid (by rw [HR2.out, HI2.out, if_pos rfl, if_neg (by rw [show worksB f cur = false from HWcur.out]; simp)])
              exact ⟨none, 0, 0, by rw [HR3.out]; rfl, by rw [HR3.out]; exact Ints.nil _, G⟩
            · have HWcur : Hid (worksB f cur = true) := Lib.hid (by unfold worksB; exact decide_eq_true (by omega))
              go_wp2_with fail
              go_ret3
              have HR3 : Hid (instR f se xs P = (cur, 0, 0)) := Lib.hid (by rw [HR2.out, HI2.out, if_pos rfl, if_pos (by rw [show worksB f xs = true from HWxs.out, show worksB f cur = true from HWcur.out, Bool.and_self])])
              exact ⟨_, _, _, by rw [HR3.out]; rfl, by rw [HR3.out]; exact hO.ints, G⟩
  · have h6b : ((statesE f ([xs]) : Int) != 0) = true := by simp [h6]
    have Hh6 := Lib.hid h6
    clear h6
    have HR : Hid (instR f se xs P = ([], 0, statesE f [xs])) := Lib.hid (by rw [instR, if_neg Hh6.out])
    go_wp2_with fail
    go_ret3
    exact ⟨none, 0, 0, by rw [HR.out]; rfl, by rw [HR.out]; exact Ints.nil _, G⟩
end
section
open Go.RowKit

set_option maxRecDepth 100000 in
set_option maxHeartbeats 4000000 in
theorem installs_any (ta ca a pa : Option Addr) (tn tc cn cc n c ln lc : Nat) (f : Fl) (se : Int) (xs : List Int) (P : List Pk) (w : World) (hf : FlAt w ta tn ca cn f) (hx : Ints w a n xs) (hP : PkAt w pa ln P) (hpc : ln ≤ lc) :
    Calls Try.prog 8 #[.agg #[.slice ta tn tc, .slice ca cn cc], .int .i64 se, .agg #[.slice a n c, .slice pa ln lc]] w fun e w' => e = .returned (.bool true) ∧ Gr w w' := by
  have g := (Gr.alloc w (.cells #[.slice ta tn tc, .slice ca cn cc] 25)).allocR (.cells #[.slice a n c, .slice pa ln lc] 55)
  have hC : RCells ((w.alloc (.cells #[.slice ta tn tc, .slice ca cn cc] 25)).alloc (.cells #[.slice a n c, .slice pa ln lc] 55)) [(⟨w.heap.size, 0, none⟩, .slice ta tn tc), (⟨w.heap.size, 1, none⟩, .slice ca cn cc), (⟨w.heap.size + 1, 0, none⟩, .slice a n c), (⟨w.heap.size + 1, 1, none⟩, .slice pa ln lc)] := ((RCells.nil w).box (b := w.heap.size) #[.slice ta tn tc, .slice ca cn cc] 25 rfl).box (b := w.heap.size + 1) #[.slice a n c, .slice pa ln lc] 55 (by simp)
  obtain ⟨w2, hw2⟩ : ∃ w2, (w.alloc (.cells #[.slice ta tn tc, .slice ca cn cc] 25)).alloc (.cells #[.slice a n c, .slice pa ln lc] 55) = w2 := ⟨_, rfl⟩
  rw [hw2] at g hC
  have G := g
  replace hf := hf.gr g
  replace hx := hx.gr g
  replace hP := hP.gr g
  clear g
  have c0 : w2.cell? (⟨w.heap.size, 0, none⟩) = some (.slice ta tn tc) := hC.at 0 rfl
  have c1 : w2.cell? (⟨w.heap.size, 1, none⟩) = some (.slice ca cn cc) := hC.at 1 rfl
  have c2 : w2.cell? (⟨w.heap.size + 1, 0, none⟩) = some (.slice a n c) := hC.at 2 rfl
  have c3 : w2.cell? (⟨w.heap.size + 1, 1, none⟩) = some (.slice pa ln lc) := hC.at 3 rfl
  go_enter Try.func8, Try.ntmps8
  have HC := Lib.hid (install_any ta ca a pa tn tc cn cc n c ln lc f se xs P w2 hf hx hP hpc)
  go_wp2_with fail
  refine HC.out.mono ?_
  rintro e w4 ⟨ia3, in3, ic3, rfl, hI3, g⟩
  clear HC
  clear hw2
  replace G := G.trans g
  replace hC := hC.gr g
  replace hf := hf.gr g
  replace hx := hx.gr g
  replace hP := hP.gr g
  clear g
  clear c0 c1 c2 c3
  have c0 : w4.cell? (⟨w.heap.size, 0, none⟩) = some (.slice ta tn tc) := hC.at 0 rfl
  have c1 : w4.cell? (⟨w.heap.size, 1, none⟩) = some (.slice ca cn cc) := hC.at 1 rfl
  have c2 : w4.cell? (⟨w.heap.size + 1, 0, none⟩) = some (.slice a n c) := hC.at 2 rfl
  have c3 : w4.cell? (⟨w.heap.size + 1, 1, none⟩) = some (.slice pa ln lc) := hC.at 3 rfl
  have HC := Lib.hid (install2_any ta ca a pa tn tc cn cc n c ln lc f se xs P w4 hf hx hP)
  go_wp2_with fail
  refine HC.out.mono ?_
  rintro e w6 ⟨ia5, in5, ic5, rfl, hI5, g⟩
  clear HC
  replace G := G.trans g
  replace hC := hC.gr g
  replace hf := hf.gr g
  replace hx := hx.gr g
  replace hP := hP.gr g
  replace hI3 := hI3.gr g
  clear g
  clear c0 c1 c2 c3
  have c0 : w6.cell? (⟨w.heap.size, 0, none⟩) = some (.slice ta tn tc) := hC.at 0 rfl
  have c1 : w6.cell? (⟨w.heap.size, 1, none⟩) = some (.slice ca cn cc) := hC.at 1 rfl
  have c2 : w6.cell? (⟨w.heap.size + 1, 0, none⟩) = some (.slice a n c) := hC.at 2 rfl
  have c3 : w6.cell? (⟨w.heap.size + 1, 1, none⟩) = some (.slice pa ln lc) := hC.at 3 rfl
  have HC := Lib.hid (by have hq := sameInts_any ia3 ia5 in3 ic3 in5 ic5 ((instR f se xs P).1) ((instR f se xs P).1) w6 hI3 hI5; rw [decide_eq_true rfl] at hq; exact hq)
  go_wp2_with fail
  refine HC.out.mono ?_
  rintro e w7 ⟨rfl, q, hq⟩
  have g : Gr w6 w7 := by rw [hq]; exact Gr.drewN _ _
  clear hq HC
  replace G := G.trans g
  replace hC := hC.gr g
  replace hf := hf.gr g
  replace hx := hx.gr g
  replace hP := hP.gr g
  replace hI3 := hI3.gr g
  replace hI5 := hI5.gr g
  clear g
  clear c0 c1 c2 c3
  have c0 : w7.cell? (⟨w.heap.size, 0, none⟩) = some (.slice ta tn tc) := hC.at 0 rfl
  have c1 : w7.cell? (⟨w.heap.size, 1, none⟩) = some (.slice ca cn cc) := hC.at 1 rfl
  have c2 : w7.cell? (⟨w.heap.size + 1, 0, none⟩) = some (.slice a n c) := hC.at 2 rfl
  have c3 : w7.cell? (⟨w.heap.size + 1, 1, none⟩) = some (.slice pa ln lc) := hC.at 3 rfl
  have HC := Lib.hid (look_any w7)
  go_wp2_with fail
  refine HC.out.mono ?_
  rintro e w8 ⟨rfl, g⟩
  clear HC
  replace G := G.trans g
  replace hC := hC.gr g
  replace hf := hf.gr g
  replace hx := hx.gr g
  replace hP := hP.gr g
  replace hI3 := hI3.gr g
  replace hI5 := hI5.gr g
  clear g
  clear c0 c1 c2 c3
  have c0 : w8.cell? (⟨w.heap.size, 0, none⟩) = some (.slice ta tn tc) := hC.at 0 rfl
  have c1 : w8.cell? (⟨w.heap.size, 1, none⟩) = some (.slice ca cn cc) := hC.at 1 rfl
  have c2 : w8.cell? (⟨w.heap.size + 1, 0, none⟩) = some (.slice a n c) := hC.at 2 rfl
  have c3 : w8.cell? (⟨w.heap.size + 1, 1, none⟩) = some (.slice pa ln lc) := hC.at 3 rfl
  go_wp2_with fail
  go_ret
  exact ⟨rfl, G⟩
end
end Go.Proofs.Ytlilojpnhmfnaaa
