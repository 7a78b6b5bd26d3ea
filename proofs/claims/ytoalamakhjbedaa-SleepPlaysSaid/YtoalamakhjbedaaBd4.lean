/- Contracts: Check, the program's and the reference's. -/
import Derived.Test.YtoalamakhjbedaaBd2
namespace Go.Proofs.Ytoalamakhjbedaa
open Go.RowKit

set_option maxRecDepth 100000 in
set_option maxHeartbeats 1000000 in
theorem check_any (na : Option Addr) (n nc : Nat) (gr hold : Int) (nd : List (List Int)) (w : World) (hnd : StAt w 5 na n nd) :
  Calls Try.prog 25 #[.agg #[Vi gr, Vi hold, .slice na n nc]] w fun e w' => e = .returned (Vi (cluE gr hold nd)) ∧ Gr w w' := by
 have G := Gr.refl w
 have hlen := hnd.len
 have hlt := hnd.lt
 refine Y.calls 63 Try.func25 rfl rfl ?_
 intro ac F0
 have F : Fr ac 63 [(0, .agg #[Vi gr, Vi hold, .slice na n nc])] := F0.sub _
 clear F0
 refine Y.seq ?_
 refine Y.lit (by kernel_rfl) ?_
 refine Y.pv F (X.box rfl (F.ev 0 (.agg #[Vi gr, Vi hold, .slice na n nc])) X.bx) ?_;clear F ac;intro ac F
 have g := Gr.alloc w (.cells #[Vi gr, Vi hold, .slice na n nc] 24)
 have hb := heap_alloc_new w (.cells #[Vi gr, Vi hold, .slice na n nc] 24)
 have hbl : w.heap.size < (w.alloc (.cells #[Vi gr, Vi hold, .slice na n nc] 24)).heap.size := by simp
 have hC2 : RCells (w.alloc (.cells #[Vi gr, Vi hold, .slice na n nc] 24)) [(Ad w.heap.size 0, Vi gr), (Ad w.heap.size 1, Vi hold), (Ad w.heap.size 2, .slice na n nc)] := (RCells.nil w).box (b := w.heap.size) #[Vi gr, Vi hold, .slice na n nc] 24 rfl
 generalize w.alloc (.cells #[Vi gr, Vi hold, .slice na n nc] 24) = w3 at *
 replace G := G.trans g
 have hC := hC2
 clear hC2
 replace hnd := hnd.gr g
 clear g hb hbl
 refine Y.pv F (X.assign rfl (X.kc (Vi 0) rfl)) ?_;clear F ac;intro ac F
 refine Y.nil ?_
 replace F : Fr ac 63 [(1, Vp w.heap.size)] := F.sub _
 refine X.thenN ?_
 refine Y.seq ?_
 refine Y.seq ?_
 refine Y.lit (by kernel_rfl) ?_
 refine Y.pv F (X.field rfl (F.ev 1 (Vp w.heap.size)) (X.fld Try.underlying24 rfl (Try.siz3 _) rfl rfl)) ?_;clear F ac;intro ac F
 refine Y.pv F (X.load rfl (F.ev 5 (Vp w.heap.size)) (X.ld1 (Try.agg3 _) (hC.at 0 rfl))) ?_;clear F ac;intro ac F
 refine Y.pcall F (X.w0 rfl) rfl (X.enter (F := 54) rfl (X.kc (.func (.func 54) #[] #[]) rfl) (X.a3 (F.ev 6 (Vi gr)) (X.kc (Vi 1) rfl) (X.kc (Vi 8) rfl)) (enters_of Try.func54 (by kernel_rfl) rfl _)) (within_any gr 1 8 w3) ?_
 clear F ac
 rintro e w' ⟨rfl, hw_⟩
 obtain rfl : w3 = w' := hw_.symm
 clear hw_
 refine ⟨_, rfl, ?_⟩
 intro ac F
 refine Y.pv F (X.notB rfl (F.ev 7 (.bool (withinB gr 1 8))) rfl) ?_;clear F ac;intro ac F
 refine Y.pv F (X.move rfl (F.ev 8 (.bool (!(withinB gr 1 8))))) ?_;clear F ac;intro ac F
 cases h4 : withinB gr 1 8 with
 | false =>
  try rw [h4] at F
  refine Y.pskip F (X.w2 rfl (F.yl (j := 4) (d := 9) (b := true) rfl (by kernel_rfl)) rfl) rfl ?_;clear F ac;intro ac F
  refine Y.pskip F (X.w2 rfl (F.yl (j := 4) (d := 9) (b := true) rfl (by kernel_rfl)) rfl) rfl ?_;clear F ac;intro ac F
  refine Y.pskip F (X.w2 rfl (F.yl (j := 4) (d := 9) (b := true) rfl (by kernel_rfl)) rfl) rfl ?_;clear F ac;intro ac F
  refine Y.pskip F (X.w2 rfl (F.yl (j := 4) (d := 9) (b := true) rfl (by kernel_rfl)) rfl) rfl ?_;clear F ac;intro ac F
  refine Y.pv F (X.pickT rfl (F.ev 9 (.bool true)) (X.kc (.bool true) rfl)) ?_;clear F ac;intro ac F
  refine Y.pv F (X.move rfl (F.ev 14 (.bool true))) ?_;clear F ac;intro ac F
  refine Y.pskip F (X.w2 rfl (F.yl (j := 10) (d := 15) (b := true) rfl (by kernel_rfl)) rfl) rfl ?_;clear F ac;intro ac F
  refine Y.pskip F (X.w2 rfl (F.yl (j := 10) (d := 15) (b := true) rfl (by kernel_rfl)) rfl) rfl ?_;clear F ac;intro ac F
  refine Y.pskip F (X.w2 rfl (F.yl (j := 10) (d := 15) (b := true) rfl (by kernel_rfl)) rfl) rfl ?_;clear F ac;intro ac F
  refine Y.pskip F (X.w2 rfl (F.yl (j := 10) (d := 15) (b := true) rfl (by kernel_rfl)) rfl) rfl ?_;clear F ac;intro ac F
  refine Y.pv F (X.pickT rfl (F.ev 15 (.bool true)) (X.kc (.bool true) rfl)) ?_;clear F ac;intro ac F
  refine Y.nil ?_
  replace F : Fr ac 63 [(1, Vp w.heap.size), (20, .bool true)] := F.sub _
  refine X.thenN ?_
  refine Y.condT (F.ev 20 (.bool true)) ?_
  refine Y.seq ?_
  refine Y.lit (by kernel_rfl) ?_
  refine Y.pv F (X.assign rfl (X.kc (Vi 90) rfl)) ?_;clear F ac;intro ac F
  refine Y.nil ?_
  replace F : Fr ac 63 [(2, Vi 90)] := F.sub _
  refine X.thenN ?_
  refine Y.ret ?_
  refine X.thenR ?_
  exact Y.ret0 (v := Vi 90) F (Y.rs1 F rfl (by kernel_rfl)) ⟨by rw [(cluE_bad hlen (by simp [cluB, h4] <;> omega))], G⟩
 | true =>
  try rw [h4] at F
  have hgr := withinB_ok h4
  have hsh := shl_bd (g := gr) (by omega) (by omega)
  refine Y.pval F (X.w1 rfl (F.yl (j := 4) (d := 9) (b := false) rfl (by kernel_rfl))) rfl (X.field rfl (F.ev 1 (Vp w.heap.size)) (X.fld Try.underlying24 rfl (Try.siz3 _) rfl rfl)) ?_;clear F ac;intro ac F
  refine Y.pval F (X.w1 rfl (F.yl (j := 4) (d := 9) (b := false) rfl (by kernel_rfl))) rfl (X.load rfl (F.ev 10 (.pointer (some ⟨w.heap.size, 1, none⟩))) (X.ld1 (Try.agg3 _) (hC.at 1 rfl))) ?_;clear F ac;intro ac F
  refine Y.pcall F (X.w1 rfl (F.yl (j := 4) (d := 9) (b := false) rfl (by kernel_rfl))) rfl (X.enter (F := 54) rfl (X.kc (.func (.func 54) #[] #[]) rfl) (X.a3 (F.ev 11 (Vi hold)) (X.kc (Vi 1) rfl) (X.kc (Vi 100) rfl)) (enters_of Try.func54 (by kernel_rfl) rfl _)) (within_any hold 1 100 w3) ?_
  clear F ac
  rintro e w' ⟨rfl, hw_⟩
  obtain rfl : w3 = w' := hw_.symm
  clear hw_
  refine ⟨_, rfl, ?_⟩
  intro ac F
  refine Y.pval F (X.w1 rfl (F.yl (j := 4) (d := 9) (b := false) rfl (by kernel_rfl))) rfl (X.notB rfl (F.ev 12 (.bool (withinB hold 1 100))) rfl) ?_;clear F ac;intro ac F
  refine Y.pv F (X.pickF rfl (F.ev 9 (.bool false)) (F.ev 13 (.bool (!(withinB hold 1 100))))) ?_;clear F ac;intro ac F
  refine Y.pv F (X.move rfl (F.ev 14 (.bool (!(withinB hold 1 100))))) ?_;clear F ac;intro ac F
  cases h5 : withinB hold 1 100 with
  | false =>
   try rw [h5] at F
   refine Y.pskip F (X.w2 rfl (F.yl (j := 10) (d := 15) (b := true) rfl (by kernel_rfl)) rfl) rfl ?_;clear F ac;intro ac F
   refine Y.pskip F (X.w2 rfl (F.yl (j := 10) (d := 15) (b := true) rfl (by kernel_rfl)) rfl) rfl ?_;clear F ac;intro ac F
   refine Y.pskip F (X.w2 rfl (F.yl (j := 10) (d := 15) (b := true) rfl (by kernel_rfl)) rfl) rfl ?_;clear F ac;intro ac F
   refine Y.pskip F (X.w2 rfl (F.yl (j := 10) (d := 15) (b := true) rfl (by kernel_rfl)) rfl) rfl ?_;clear F ac;intro ac F
   refine Y.pv F (X.pickT rfl (F.ev 15 (.bool true)) (X.kc (.bool true) rfl)) ?_;clear F ac;intro ac F
   refine Y.nil ?_
   replace F : Fr ac 63 [(1, Vp w.heap.size), (20, .bool true)] := F.sub _
   refine X.thenN ?_
   refine Y.condT (F.ev 20 (.bool true)) ?_
   refine Y.seq ?_
   refine Y.lit (by kernel_rfl) ?_
   refine Y.pv F (X.assign rfl (X.kc (Vi 90) rfl)) ?_;clear F ac;intro ac F
   refine Y.nil ?_
   replace F : Fr ac 63 [(2, Vi 90)] := F.sub _
   refine X.thenN ?_
   refine Y.ret ?_
   refine X.thenR ?_
   exact Y.ret0 (v := Vi 90) F (Y.rs1 F rfl (by kernel_rfl)) ⟨by rw [(cluE_bad hlen (by simp [cluB, h4, h5] <;> omega))], G⟩
  | true =>
   try rw [h5] at F
   refine Y.pval F (X.w1 rfl (F.yl (j := 10) (d := 15) (b := false) rfl (by kernel_rfl))) rfl (X.field rfl (F.ev 1 (Vp w.heap.size)) (X.fld Try.underlying24 rfl (Try.siz22 _) rfl rfl)) ?_;clear F ac;intro ac F
   refine Y.pval F (X.w1 rfl (F.yl (j := 10) (d := 15) (b := false) rfl (by kernel_rfl))) rfl (X.load rfl (F.ev 16 (.pointer (some ⟨w.heap.size, 2, none⟩))) (X.ld1 (Try.agg22 _) (hC.at 2 rfl))) ?_;clear F ac;intro ac F
   refine Y.pval F (X.w1 rfl (F.yl (j := 10) (d := 15) (b := false) rfl (by kernel_rfl))) rfl (X.len1 Try.underlying22 rfl (F.ev 17 (.slice na n nc))) ?_;clear F ac;intro ac F
   refine Y.pval F (X.w1 rfl (F.yl (j := 10) (d := 15) (b := false) rfl (by kernel_rfl))) rfl (X.binop rfl (F.ev 18 (Vi n)) (X.kc (Vi 16) rfl) (X.gtrI Try.underlying3 rfl)) ?_;clear F ac;intro ac F
   refine Y.pv F (X.pickF rfl (F.ev 15 (.bool false)) (F.ev 19 (.bool (decide ((16 : Int) < n))))) ?_;clear F ac;intro ac F
   refine Y.nil ?_
   replace F : Fr ac 63 [(1, Vp w.heap.size), (20, .bool (decide ((16 : Int) < n)))] := F.sub _
   refine X.thenN ?_
   cases h6 : decide ((16 : Int) < n) with
   | false =>
    try rw [h6] at F
    have h6p : ¬ ((16 : Int) < n) := of_decide_eq_false h6
    refine Y.condF (F.ev 20 (.bool false)) ?_
    refine Y.skip ?_
    refine X.thenN ?_
    refine Y.seq ?_
    refine Y.seq ?_
    refine Y.lit (by kernel_rfl) ?_
    refine Y.pv F (X.field rfl (F.ev 1 (Vp w.heap.size)) (X.fld Try.underlying24 rfl (Try.siz22 _) rfl rfl)) ?_;clear F ac;intro ac F
    refine Y.pv F (X.load rfl (F.ev 21 (.pointer (some ⟨w.heap.size, 2, none⟩))) (X.ld1 (Try.agg22 _) (hC.at 2 rfl))) ?_;clear F ac;intro ac F
    refine Y.pv F (X.len1 Try.underlying22 rfl (F.ev 22 (.slice na n nc))) ?_;clear F ac;intro ac F
    refine Y.pv F (X.move rfl (X.kc (Vi 0) rfl)) ?_;clear F ac;intro ac F
    refine Y.nil ?_
    replace F : Fr ac 63 [(1, Vp w.heap.size), (22, .slice na n nc), (23, Vi n), (24, Vi 0)] := F.sub _
    refine X.thenN ?_
    refine Y.block ?_
    have hndB := hnd
    have hCB := hC
    have GB := G
    refine Y.loop (fun me_ ac wr => ∃ (i : Nat), me_ = n - i ∧ Gr w3 wr ∧ i ≤ n ∧ allN (nodeB gr nd) i = true ∧ Fr ac 63 [(1, Vp w.heap.size), (22, .slice na n nc), (23, Vi n), (24, Vi i)]) _ ⟨0, rfl, Gr.refl _, Nat.zero_le _, rfl, F.sub _⟩ ?_
    clear F
    intro me_ ac w7 hI
    obtain ⟨i, rfl, gr, hi0, hok, F⟩ := hI
    replace G := GB.trans gr
    replace hC := hCB.gr gr
    replace hnd := hndB.gr gr
    have GB_ := gr
    clear gr
    refine Y.seq ?_
    refine Y.lit (by kernel_rfl) ?_
    refine Y.pv F (X.binop rfl (F.ev 24 (Vi i)) (F.ev 23 (Vi n)) (X.lssI Try.underlying3 rfl)) ?_;clear F ac;intro ac F
    refine Y.nil ?_
    replace F : Fr ac 63 [(1, Vp w.heap.size), (22, .slice na n nc), (23, Vi n), (24, Vi i), (25, .bool (decide ((i : Int) < n)))] := F.sub _
    refine X.thenN ?_
    refine Y.seq ?_
    cases h8 : decide ((i : Int) < n) with
    | false =>
     try rw [h8] at F
     have h8p : ¬ ((i : Int) < n) := of_decide_eq_false h8
     have hin : i = n := by omega
     have hall : allN (nodeB gr nd) n = true := by rw [← hin]; exact hok
     refine Y.condF (F.ev 25 (.bool false)) ?_
     refine Y.exit ?_
     refine X.thenX ?_
     refine X.thenX ?_
     refine X.blockX ?_
     refine X.thenN ?_
     refine Y.seq ?_
     refine Y.lit (by kernel_rfl) ?_
     refine Y.pv F (X.assign rfl (X.kc (Vi 0) rfl)) ?_;clear F ac;intro ac F
     refine Y.nil ?_
     replace F : Fr ac 63 [(2, Vi 0)] := F.sub _
     refine X.thenN ?_
     refine Y.ret ?_
     exact Y.ret0 (v := Vi 0) F (Y.rs1 F rfl (by kernel_rfl)) ⟨by rw [(cluE_good hlen (by simp [cluB, h4, h5, h6, h8] <;> omega) hall)], G⟩
    | true =>
     try rw [h8] at F
     have h8p : ((i : Int) < n) := of_decide_eq_true h8
     have hi : i < n := by omega
     refine Y.condT (F.ev 25 (.bool true)) ?_
     refine Y.skip ?_
     refine X.thenN ?_
     refine Y.seq ?_
     refine Y.block ?_
     refine Y.seq ?_
     refine Y.lit (by kernel_rfl) ?_
     obtain ⟨pd9, pe9, -, -, pc9⟩ := hnd.at (j := i) (by omega)
     subst pe9
     replace hC : RCells w7 [(Ad w.heap.size 0, Vi gr), (Ad w.heap.size 1, Vi hold), (Ad w.heap.size 2, .slice (some pd9) n nc), (pd9.add (i * 5), Vi (cv nd i 0)), (⟨(pd9.add (i * 5)).block, (pd9.add (i * 5)).off + 1, none⟩, Vi (cv nd i 1)), (⟨(pd9.add (i * 5)).block, (pd9.add (i * 5)).off + 2, none⟩, Vi (cv nd i 2)), (⟨(pd9.add (i * 5)).block, (pd9.add (i * 5)).off + 3, none⟩, Vi (cv nd i 3)), (⟨(pd9.add (i * 5)).block, (pd9.add (i * 5)).off + 4, none⟩, Vi (cv nd i 4))] := hC.append ((RCells.cons (pc9 0 (by decide)) (RCells.cons (pc9 1 (by decide)) (RCells.cons (pc9 2 (by decide)) (RCells.cons (pc9 3 (by decide)) (RCells.cons (pc9 4 (by decide)) (RCells.nil _)))))))
     clear pc9
     refine Y.pv F (X.index rfl (F.ev 22 (.slice (some pd9) n nc)) (F.ev 24 (Vi i)) (X.idx (k := i) Try.underlying22 (Try.siz31 _) (by omega) (by omega) rfl)) ?_;clear F ac;intro ac F
     refine Y.pv F (X.load rfl (F.ev 26 (.pointer (some (pd9.add (i * 5))))) (X.ldN (Try.agg31 _) (Try.siz31 _) (Y.atz (pd9.add (i * 5)) (Y.AtFrom.cons (hC.at 3 rfl) (Y.AtFrom.cons (hC.at 4 rfl) (Y.AtFrom.cons (hC.at 5 rfl) (Y.AtFrom.cons (hC.at 6 rfl) (Y.AtFrom.cons (hC.at 7 rfl) (Y.AtFrom.nil _ _ _))))))))) ?_;clear F ac;intro ac F
     refine Y.pv F (Y.al rfl (Try.new31 _)) ?_;clear F ac;intro ac F
     refine Y.punit F (X.w0 rfl) rfl (X.store rfl (F.ev 4 (Vp w7.heap.size)) (F.ev 27 (.agg #[Vi (cv nd i 0), Vi (cv nd i 1), Vi (cv nd i 2), Vi (cv nd i 3), Vi (cv nd i 4)])) (Y.stNew [Vi (cv nd i 0), Vi (cv nd i 1), Vi (cv nd i 2), Vi (cv nd i 3), Vi (cv nd i 4)] [Vi 0, Vi 0, Vi 0, Vi 0, Vi 0] (Try.siz31 _) rfl rfl)) ?_;clear F ac;intro ac F
     have g := Gr.alloc w7 (.cells #[Vi (cv nd i 0), Vi (cv nd i 1), Vi (cv nd i 2), Vi (cv nd i 3), Vi (cv nd i 4)] 31)
     have hb := heap_alloc_new w7 (.cells #[Vi (cv nd i 0), Vi (cv nd i 1), Vi (cv nd i 2), Vi (cv nd i 3), Vi (cv nd i 4)] 31)
     have hbl : w7.heap.size < (w7.alloc (.cells #[Vi (cv nd i 0), Vi (cv nd i 1), Vi (cv nd i 2), Vi (cv nd i 3), Vi (cv nd i 4)] 31)).heap.size := by simp
     have hC2 : RCells (w7.alloc (.cells #[Vi (cv nd i 0), Vi (cv nd i 1), Vi (cv nd i 2), Vi (cv nd i 3), Vi (cv nd i 4)] 31)) [(Ad w.heap.size 0, Vi gr), (Ad w.heap.size 1, Vi hold), (Ad w.heap.size 2, .slice (some pd9) n nc), (pd9.add (i * 5), Vi (cv nd i 0)), (⟨(pd9.add (i * 5)).block, (pd9.add (i * 5)).off + 1, none⟩, Vi (cv nd i 1)), (⟨(pd9.add (i * 5)).block, (pd9.add (i * 5)).off + 2, none⟩, Vi (cv nd i 2)), (⟨(pd9.add (i * 5)).block, (pd9.add (i * 5)).off + 3, none⟩, Vi (cv nd i 3)), (⟨(pd9.add (i * 5)).block, (pd9.add (i * 5)).off + 4, none⟩, Vi (cv nd i 4)), (Ad w7.heap.size 0, Vi (cv nd i 0)), (Ad w7.heap.size 1, Vi (cv nd i 1)), (Ad w7.heap.size 2, Vi (cv nd i 2)), (Ad w7.heap.size 3, Vi (cv nd i 3)), (Ad w7.heap.size 4, Vi (cv nd i 4))] := hC.box (b := w7.heap.size) #[Vi (cv nd i 0), Vi (cv nd i 1), Vi (cv nd i 2), Vi (cv nd i 3), Vi (cv nd i 4)] 31 rfl
     generalize w7.alloc (.cells #[Vi (cv nd i 0), Vi (cv nd i 1), Vi (cv nd i 2), Vi (cv nd i 3), Vi (cv nd i 4)] 31) = w10 at *
     replace G := G.trans g
     replace hC := hC2
     clear hC2
     replace GB_ := GB_.trans g
     replace hnd := hnd.gr g
     clear g hb hbl
     refine Y.nil ?_
     replace F : Fr ac 63 [(1, Vp w.heap.size), (4, Vp w7.heap.size), (22, .slice (some pd9) n nc), (23, Vi n), (24, Vi i)] := F.sub _
     refine X.thenN ?_
     refine Y.seq ?_
     cases h11 : withinB (cv nd i 0) 0 ((shlV 1 (gr : Int) : Int) - 1) with
     | false =>
      try rw [h11] at F
      refine Y.region F [some (Vp w7.heap.size), some (Vi (cv nd i 0)), some (Vp w.heap.size), some (Vi gr), some (Vi (shlV 1 (gr : Int))), some (Vi ((shlV 1 (gr : Int) : Int) - 1)), some (.bool false), some (.bool true), some (.bool true), none, none, none, none, some (.bool true), some (.bool true), none, none, none, none, none, none, some (.bool true), some (.bool true), none, none, none, none, some (.bool true), some (.bool true), none, none, none, none, some (.bool true)] [] rfl ⟨by kernel_rfl, of_decide_eq_true (by kernel_rfl), by kernel_rfl, by kernel_rfl, by kernel_rfl⟩ ⟨?_, ?_, ?_, ?_, ?_, ?_, ?_, ?_, ?_, ?_, ?_, ?_, ?_, ?_, ?_, ?_, ?_, ?_, ?_, ?_, ?_, ?_, ?_, ?_, ?_, ?_, ?_, ?_, ?_, ?_, ?_, ?_, ?_, ?_, trivial⟩ ?_
      ·intro ac done u W Sx hR
       exact X.vl (X.field rfl (Sx.ev 4 (Vp w7.heap.size)) (X.fld Try.underlying31 rfl (Try.siz3 _) rfl rfl)) hR.st0
      ·intro ac done u W Sx hR
       have g : Gr w10 W := hR.1
       exact X.vl (X.load rfl (Sx.ev 28 (Vp w7.heap.size)) (X.ld1 (Try.agg3 _) ((hC.gr g).at 8 rfl))) hR.st0
      ·intro ac done u W Sx hR
       exact X.vl (X.field rfl (Sx.ev 1 (Vp w.heap.size)) (X.fld Try.underlying24 rfl (Try.siz3 _) rfl rfl)) hR.st0
      ·intro ac done u W Sx hR
       have g : Gr w10 W := hR.1
       exact X.vl (X.load rfl (Sx.ev 30 (Vp w.heap.size)) (X.ld1 (Try.agg3 _) ((hC.gr g).at 0 rfl))) hR.st0
      ·intro ac done u W Sx hR
       exact X.vl (X.binop rfl (X.kc (Vi 1) rfl) (Sx.ev 31 (Vi gr)) (X.shlI Try.underlying3 rfl (by omega))) hR.st0
      ·intro ac done u W Sx hR
       exact X.vl (X.binop rfl (Sx.ev 32 (Vi (shlV 1 (gr : Int)))) (X.kc (Vi 1) rfl) (X.subI Try.underlying3 rfl (by omega) (by omega))) hR.st0
      ·intro ac done u W Sx hR
       refine X.call (X.w0 rfl) (X.enter (F := 54) rfl (X.kc (.func (.func 54) #[] #[]) rfl) (X.a3 (Sx.ev 29 (Vi (cv nd i 0))) (X.kc (Vi 0) rfl) (Sx.ev 33 (Vi ((shlV 1 (gr : Int) : Int) - 1)))) (enters_of Try.func54 (by kernel_rfl) rfl _)) (by have hq := within_any (cv nd i 0) 0 ((shlV 1 (gr : Int) : Int) - 1) W; rw [h11] at hq; exact hq) ?_
       rintro e W2 ⟨rfl, rfl⟩
       exact ⟨_, rfl, X.kn rfl, hR.step (Gr.refl _) rfl⟩
      ·intro ac done u W Sx hR
       exact X.vl (X.notB rfl (Sx.ev 34 (.bool false)) rfl) hR.st0
      ·intro ac done u W Sx hR
       exact X.vl (X.move rfl (Sx.ev 35 (.bool true))) hR.st0
      ·intro ac done u W Sx hR
       exact X.skip (X.w2 rfl (Sx.yl 8 36 true (by kernel_rfl) rfl rfl) rfl) rfl (hR.skip rfl)
      ·intro ac done u W Sx hR
       exact X.skip (X.w2 rfl (Sx.yl 8 36 true (by kernel_rfl) rfl rfl) rfl) rfl (hR.skip rfl)
      ·intro ac done u W Sx hR
       exact X.skip (X.w2 rfl (Sx.yl 8 36 true (by kernel_rfl) rfl rfl) rfl) rfl (hR.skip rfl)
      ·intro ac done u W Sx hR
       exact X.skip (X.w2 rfl (Sx.yl 8 36 true (by kernel_rfl) rfl rfl) rfl) rfl (hR.skip rfl)
      ·intro ac done u W Sx hR
       exact X.vl (X.pickT rfl (Sx.ev 36 (.bool true)) (X.kc (.bool true) rfl)) hR.st0
      ·intro ac done u W Sx hR
       exact X.vl (X.move rfl (Sx.ev 41 (.bool true))) hR.st0
      ·intro ac done u W Sx hR
       exact X.skip (X.w2 rfl (Sx.yl 14 42 true (by kernel_rfl) rfl rfl) rfl) rfl (hR.skip rfl)
      ·intro ac done u W Sx hR
       exact X.skip (X.w2 rfl (Sx.yl 14 42 true (by kernel_rfl) rfl rfl) rfl) rfl (hR.skip rfl)
      ·intro ac done u W Sx hR
       exact X.skip (X.w2 rfl (Sx.yl 14 42 true (by kernel_rfl) rfl rfl) rfl) rfl (hR.skip rfl)
      ·intro ac done u W Sx hR
       exact X.skip (X.w2 rfl (Sx.yl 14 42 true (by kernel_rfl) rfl rfl) rfl) rfl (hR.skip rfl)
      ·intro ac done u W Sx hR
       exact X.skip (X.w2 rfl (Sx.yl 14 42 true (by kernel_rfl) rfl rfl) rfl) rfl (hR.skip rfl)
      ·intro ac done u W Sx hR
       exact X.skip (X.w2 rfl (Sx.yl 14 42 true (by kernel_rfl) rfl rfl) rfl) rfl (hR.skip rfl)
      ·intro ac done u W Sx hR
       exact X.vl (X.pickT rfl (Sx.ev 42 (.bool true)) (X.kc (.bool true) rfl)) hR.st0
      ·intro ac done u W Sx hR
       exact X.vl (X.move rfl (Sx.ev 49 (.bool true))) hR.st0
      ·intro ac done u W Sx hR
       exact X.skip (X.w2 rfl (Sx.yl 22 50 true (by kernel_rfl) rfl rfl) rfl) rfl (hR.skip rfl)
      ·intro ac done u W Sx hR
       exact X.skip (X.w2 rfl (Sx.yl 22 50 true (by kernel_rfl) rfl rfl) rfl) rfl (hR.skip rfl)
      ·intro ac done u W Sx hR
       exact X.skip (X.w2 rfl (Sx.yl 22 50 true (by kernel_rfl) rfl rfl) rfl) rfl (hR.skip rfl)
      ·intro ac done u W Sx hR
       exact X.skip (X.w2 rfl (Sx.yl 22 50 true (by kernel_rfl) rfl rfl) rfl) rfl (hR.skip rfl)
      ·intro ac done u W Sx hR
       exact X.vl (X.pickT rfl (Sx.ev 50 (.bool true)) (X.kc (.bool true) rfl)) hR.st0
      ·intro ac done u W Sx hR
       exact X.vl (X.move rfl (Sx.ev 55 (.bool true))) hR.st0
      ·intro ac done u W Sx hR
       exact X.skip (X.w2 rfl (Sx.yl 28 56 true (by kernel_rfl) rfl rfl) rfl) rfl (hR.skip rfl)
      ·intro ac done u W Sx hR
       exact X.skip (X.w2 rfl (Sx.yl 28 56 true (by kernel_rfl) rfl rfl) rfl) rfl (hR.skip rfl)
      ·intro ac done u W Sx hR
       exact X.skip (X.w2 rfl (Sx.yl 28 56 true (by kernel_rfl) rfl rfl) rfl) rfl (hR.skip rfl)
      ·intro ac done u W Sx hR
       exact X.skip (X.w2 rfl (Sx.yl 28 56 true (by kernel_rfl) rfl rfl) rfl) rfl (hR.skip rfl)
      ·intro ac done u W Sx hR
       exact X.vl (X.pickT rfl (Sx.ev 56 (.bool true)) (X.kc (.bool true) rfl)) hR.st0
      intro ac u w12 hs hd hl ho hR
      have g : Gr w10 w12 := hR.1
      replace F : Fr ac 63 [(1, Vp w.heap.size), (22, .slice (some pd9) n nc), (23, Vi n), (24, Vi i), (61, .bool true)] := X.fr hs hd hl _ (by kernel_rfl)
      clear hs hd hl ho hR
      replace G := G.trans g
      replace hC := hC.gr g
      replace GB_ := GB_.trans g
      replace hnd := hnd.gr g
      clear g
      refine X.thenN ?_
      refine Y.condT (F.ev 61 (.bool true)) ?_
      refine Y.seq ?_
      refine Y.lit (by kernel_rfl) ?_
      refine Y.pv F (X.assign rfl (X.kc (Vi 90) rfl)) ?_;clear F ac;intro ac F
      refine Y.nil ?_
      replace F : Fr ac 63 [(2, Vi 90)] := F.sub _
      refine X.thenN ?_
      refine Y.ret ?_
      refine X.blockR ?_
      refine X.thenR ?_
      refine X.thenR ?_
      refine X.blockR ?_
      refine X.thenR ?_
      exact Y.ret0 (v := Vi 90) F (Y.rs1 F rfl (by kernel_rfl)) ⟨by rw [(cluE_node hlen (i := i) (by omega) (by simp [nodeB, h11, h4, h5, h6, h8]))], G⟩
     | true =>
      try rw [h11] at F
      cases h13 : withinB (cv nd i 1) 0 10000 with
      | false =>
       try rw [h13] at F
       refine Y.region F [some (Vp w7.heap.size), some (Vi (cv nd i 0)), some (Vp w.heap.size), some (Vi gr), some (Vi (shlV 1 (gr : Int))), some (Vi ((shlV 1 (gr : Int) : Int) - 1)), some (.bool true), some (.bool false), some (.bool false), some (.pointer (some ⟨w7.heap.size, 1, none⟩)), some (Vi (cv nd i 1)), some (.bool false), some (.bool true), some (.bool true), some (.bool true), none, none, none, none, none, none, some (.bool true), some (.bool true), none, none, none, none, some (.bool true), some (.bool true), none, none, none, none, some (.bool true)] [] rfl ⟨by kernel_rfl, of_decide_eq_true (by kernel_rfl), by kernel_rfl, by kernel_rfl, by kernel_rfl⟩ ⟨?_, ?_, ?_, ?_, ?_, ?_, ?_, ?_, ?_, ?_, ?_, ?_, ?_, ?_, ?_, ?_, ?_, ?_, ?_, ?_, ?_, ?_, ?_, ?_, ?_, ?_, ?_, ?_, ?_, ?_, ?_, ?_, ?_, ?_, trivial⟩ ?_
       ·intro ac done u W Sx hR
        exact X.vl (X.field rfl (Sx.ev 4 (Vp w7.heap.size)) (X.fld Try.underlying31 rfl (Try.siz3 _) rfl rfl)) hR.st0
       ·intro ac done u W Sx hR
        have g : Gr w10 W := hR.1
        exact X.vl (X.load rfl (Sx.ev 28 (Vp w7.heap.size)) (X.ld1 (Try.agg3 _) ((hC.gr g).at 8 rfl))) hR.st0
       ·intro ac done u W Sx hR
        exact X.vl (X.field rfl (Sx.ev 1 (Vp w.heap.size)) (X.fld Try.underlying24 rfl (Try.siz3 _) rfl rfl)) hR.st0
       ·intro ac done u W Sx hR
        have g : Gr w10 W := hR.1
        exact X.vl (X.load rfl (Sx.ev 30 (Vp w.heap.size)) (X.ld1 (Try.agg3 _) ((hC.gr g).at 0 rfl))) hR.st0
       ·intro ac done u W Sx hR
        exact X.vl (X.binop rfl (X.kc (Vi 1) rfl) (Sx.ev 31 (Vi gr)) (X.shlI Try.underlying3 rfl (by omega))) hR.st0
       ·intro ac done u W Sx hR
        exact X.vl (X.binop rfl (Sx.ev 32 (Vi (shlV 1 (gr : Int)))) (X.kc (Vi 1) rfl) (X.subI Try.underlying3 rfl (by omega) (by omega))) hR.st0
       ·intro ac done u W Sx hR
        refine X.call (X.w0 rfl) (X.enter (F := 54) rfl (X.kc (.func (.func 54) #[] #[]) rfl) (X.a3 (Sx.ev 29 (Vi (cv nd i 0))) (X.kc (Vi 0) rfl) (Sx.ev 33 (Vi ((shlV 1 (gr : Int) : Int) - 1)))) (enters_of Try.func54 (by kernel_rfl) rfl _)) (by have hq := within_any (cv nd i 0) 0 ((shlV 1 (gr : Int) : Int) - 1) W; rw [h11] at hq; exact hq) ?_
        rintro e W2 ⟨rfl, rfl⟩
        exact ⟨_, rfl, X.kn rfl, hR.step (Gr.refl _) rfl⟩
       ·intro ac done u W Sx hR
        exact X.vl (X.notB rfl (Sx.ev 34 (.bool true)) rfl) hR.st0
       ·intro ac done u W Sx hR
        exact X.vl (X.move rfl (Sx.ev 35 (.bool false))) hR.st0
       ·intro ac done u W Sx hR
        exact X.val (X.w1 rfl (Sx.yl 8 36 false (by kernel_rfl) rfl rfl)) rfl (X.field rfl (Sx.ev 4 (Vp w7.heap.size)) (X.fld Try.underlying31 rfl (Try.siz3 _) rfl rfl)) hR.st0
       ·intro ac done u W Sx hR
        have g : Gr w10 W := hR.1
        exact X.val (X.w1 rfl (Sx.yl 8 36 false (by kernel_rfl) rfl rfl)) rfl (X.load rfl (Sx.ev 37 (.pointer (some ⟨w7.heap.size, 1, none⟩))) (X.ld1 (Try.agg3 _) ((hC.gr g).at 9 rfl))) hR.st0
       ·intro ac done u W Sx hR
        refine X.call (X.w1 rfl (Sx.yl 8 36 false (by kernel_rfl) rfl rfl)) (X.enter (F := 54) rfl (X.kc (.func (.func 54) #[] #[]) rfl) (X.a3 (Sx.ev 38 (Vi (cv nd i 1))) (X.kc (Vi 0) rfl) (X.kc (Vi 10000) rfl)) (enters_of Try.func54 (by kernel_rfl) rfl _)) (by have hq := within_any (cv nd i 1) 0 10000 W; rw [h13] at hq; exact hq) ?_
        rintro e W2 ⟨rfl, rfl⟩
        exact ⟨_, rfl, X.kn rfl, hR.step (Gr.refl _) rfl⟩
       ·intro ac done u W Sx hR
        exact X.val (X.w1 rfl (Sx.yl 8 36 false (by kernel_rfl) rfl rfl)) rfl (X.notB rfl (Sx.ev 39 (.bool false)) rfl) hR.st0
       ·intro ac done u W Sx hR
        exact X.vl (X.pickF rfl (Sx.ev 36 (.bool false)) (Sx.ev 40 (.bool true))) hR.st0
       ·intro ac done u W Sx hR
        exact X.vl (X.move rfl (Sx.ev 41 (.bool true))) hR.st0
       ·intro ac done u W Sx hR
        exact X.skip (X.w2 rfl (Sx.yl 14 42 true (by kernel_rfl) rfl rfl) rfl) rfl (hR.skip rfl)
       ·intro ac done u W Sx hR
        exact X.skip (X.w2 rfl (Sx.yl 14 42 true (by kernel_rfl) rfl rfl) rfl) rfl (hR.skip rfl)
       ·intro ac done u W Sx hR
        exact X.skip (X.w2 rfl (Sx.yl 14 42 true (by kernel_rfl) rfl rfl) rfl) rfl (hR.skip rfl)
       ·intro ac done u W Sx hR
        exact X.skip (X.w2 rfl (Sx.yl 14 42 true (by kernel_rfl) rfl rfl) rfl) rfl (hR.skip rfl)
       ·intro ac done u W Sx hR
        exact X.skip (X.w2 rfl (Sx.yl 14 42 true (by kernel_rfl) rfl rfl) rfl) rfl (hR.skip rfl)
       ·intro ac done u W Sx hR
        exact X.skip (X.w2 rfl (Sx.yl 14 42 true (by kernel_rfl) rfl rfl) rfl) rfl (hR.skip rfl)
       ·intro ac done u W Sx hR
        exact X.vl (X.pickT rfl (Sx.ev 42 (.bool true)) (X.kc (.bool true) rfl)) hR.st0
       ·intro ac done u W Sx hR
        exact X.vl (X.move rfl (Sx.ev 49 (.bool true))) hR.st0
       ·intro ac done u W Sx hR
        exact X.skip (X.w2 rfl (Sx.yl 22 50 true (by kernel_rfl) rfl rfl) rfl) rfl (hR.skip rfl)
       ·intro ac done u W Sx hR
        exact X.skip (X.w2 rfl (Sx.yl 22 50 true (by kernel_rfl) rfl rfl) rfl) rfl (hR.skip rfl)
       ·intro ac done u W Sx hR
        exact X.skip (X.w2 rfl (Sx.yl 22 50 true (by kernel_rfl) rfl rfl) rfl) rfl (hR.skip rfl)
       ·intro ac done u W Sx hR
        exact X.skip (X.w2 rfl (Sx.yl 22 50 true (by kernel_rfl) rfl rfl) rfl) rfl (hR.skip rfl)
       ·intro ac done u W Sx hR
        exact X.vl (X.pickT rfl (Sx.ev 50 (.bool true)) (X.kc (.bool true) rfl)) hR.st0
       ·intro ac done u W Sx hR
        exact X.vl (X.move rfl (Sx.ev 55 (.bool true))) hR.st0
       ·intro ac done u W Sx hR
        exact X.skip (X.w2 rfl (Sx.yl 28 56 true (by kernel_rfl) rfl rfl) rfl) rfl (hR.skip rfl)
       ·intro ac done u W Sx hR
        exact X.skip (X.w2 rfl (Sx.yl 28 56 true (by kernel_rfl) rfl rfl) rfl) rfl (hR.skip rfl)
       ·intro ac done u W Sx hR
        exact X.skip (X.w2 rfl (Sx.yl 28 56 true (by kernel_rfl) rfl rfl) rfl) rfl (hR.skip rfl)
       ·intro ac done u W Sx hR
        exact X.skip (X.w2 rfl (Sx.yl 28 56 true (by kernel_rfl) rfl rfl) rfl) rfl (hR.skip rfl)
       ·intro ac done u W Sx hR
        exact X.vl (X.pickT rfl (Sx.ev 56 (.bool true)) (X.kc (.bool true) rfl)) hR.st0
       intro ac u w14 hs hd hl ho hR
       have g : Gr w10 w14 := hR.1
       replace F : Fr ac 63 [(1, Vp w.heap.size), (22, .slice (some pd9) n nc), (23, Vi n), (24, Vi i), (61, .bool true)] := X.fr hs hd hl _ (by kernel_rfl)
       clear hs hd hl ho hR
       replace G := G.trans g
       replace hC := hC.gr g
       replace GB_ := GB_.trans g
       replace hnd := hnd.gr g
       clear g
       refine X.thenN ?_
       refine Y.condT (F.ev 61 (.bool true)) ?_
       refine Y.seq ?_
       refine Y.lit (by kernel_rfl) ?_
       refine Y.pv F (X.assign rfl (X.kc (Vi 90) rfl)) ?_;clear F ac;intro ac F
       refine Y.nil ?_
       replace F : Fr ac 63 [(2, Vi 90)] := F.sub _
       refine X.thenN ?_
       refine Y.ret ?_
       refine X.blockR ?_
       refine X.thenR ?_
       refine X.thenR ?_
       refine X.blockR ?_
       refine X.thenR ?_
       exact Y.ret0 (v := Vi 90) F (Y.rs1 F rfl (by kernel_rfl)) ⟨by rw [(cluE_node hlen (i := i) (by omega) (by simp [nodeB, h11, h13, h4, h5, h6, h8]))], G⟩
      | true =>
       try rw [h13] at F
       have ha1 := withinB_ok h13
       cases h15 : withinB (cv nd i 2) 0 (cv nd i 1) with
       | false =>
        try rw [h15] at F
        refine Y.region F [some (Vp w7.heap.size), some (Vi (cv nd i 0)), some (Vp w.heap.size), some (Vi gr), some (Vi (shlV 1 (gr : Int))), some (Vi ((shlV 1 (gr : Int) : Int) - 1)), some (.bool true), some (.bool false), some (.bool false), some (.pointer (some ⟨w7.heap.size, 1, none⟩)), some (Vi (cv nd i 1)), some (.bool true), some (.bool false), some (.bool false), some (.bool false), some (.pointer (some ⟨w7.heap.size, 2, none⟩)), some (Vi (cv nd i 2)), some (.pointer (some ⟨w7.heap.size, 1, none⟩)), some (Vi (cv nd i 1)), some (.bool false), some (.bool true), some (.bool true), some (.bool true), none, none, none, none, some (.bool true), some (.bool true), none, none, none, none, some (.bool true)] [] rfl ⟨by kernel_rfl, of_decide_eq_true (by kernel_rfl), by kernel_rfl, by kernel_rfl, by kernel_rfl⟩ ⟨?_, ?_, ?_, ?_, ?_, ?_, ?_, ?_, ?_, ?_, ?_, ?_, ?_, ?_, ?_, ?_, ?_, ?_, ?_, ?_, ?_, ?_, ?_, ?_, ?_, ?_, ?_, ?_, ?_, ?_, ?_, ?_, ?_, ?_, trivial⟩ ?_
        ·intro ac done u W Sx hR
         exact X.vl (X.field rfl (Sx.ev 4 (Vp w7.heap.size)) (X.fld Try.underlying31 rfl (Try.siz3 _) rfl rfl)) hR.st0
        ·intro ac done u W Sx hR
         have g : Gr w10 W := hR.1
         exact X.vl (X.load rfl (Sx.ev 28 (Vp w7.heap.size)) (X.ld1 (Try.agg3 _) ((hC.gr g).at 8 rfl))) hR.st0
        ·intro ac done u W Sx hR
         exact X.vl (X.field rfl (Sx.ev 1 (Vp w.heap.size)) (X.fld Try.underlying24 rfl (Try.siz3 _) rfl rfl)) hR.st0
        ·intro ac done u W Sx hR
         have g : Gr w10 W := hR.1
         exact X.vl (X.load rfl (Sx.ev 30 (Vp w.heap.size)) (X.ld1 (Try.agg3 _) ((hC.gr g).at 0 rfl))) hR.st0
        ·intro ac done u W Sx hR
         exact X.vl (X.binop rfl (X.kc (Vi 1) rfl) (Sx.ev 31 (Vi gr)) (X.shlI Try.underlying3 rfl (by omega))) hR.st0
        ·intro ac done u W Sx hR
         exact X.vl (X.binop rfl (Sx.ev 32 (Vi (shlV 1 (gr : Int)))) (X.kc (Vi 1) rfl) (X.subI Try.underlying3 rfl (by omega) (by omega))) hR.st0
        ·intro ac done u W Sx hR
         refine X.call (X.w0 rfl) (X.enter (F := 54) rfl (X.kc (.func (.func 54) #[] #[]) rfl) (X.a3 (Sx.ev 29 (Vi (cv nd i 0))) (X.kc (Vi 0) rfl) (Sx.ev 33 (Vi ((shlV 1 (gr : Int) : Int) - 1)))) (enters_of Try.func54 (by kernel_rfl) rfl _)) (by have hq := within_any (cv nd i 0) 0 ((shlV 1 (gr : Int) : Int) - 1) W; rw [h11] at hq; exact hq) ?_
         rintro e W2 ⟨rfl, rfl⟩
         exact ⟨_, rfl, X.kn rfl, hR.step (Gr.refl _) rfl⟩
        ·intro ac done u W Sx hR
         exact X.vl (X.notB rfl (Sx.ev 34 (.bool true)) rfl) hR.st0
        ·intro ac done u W Sx hR
         exact X.vl (X.move rfl (Sx.ev 35 (.bool false))) hR.st0
        ·intro ac done u W Sx hR
         exact X.val (X.w1 rfl (Sx.yl 8 36 false (by kernel_rfl) rfl rfl)) rfl (X.field rfl (Sx.ev 4 (Vp w7.heap.size)) (X.fld Try.underlying31 rfl (Try.siz3 _) rfl rfl)) hR.st0
        ·intro ac done u W Sx hR
         have g : Gr w10 W := hR.1
         exact X.val (X.w1 rfl (Sx.yl 8 36 false (by kernel_rfl) rfl rfl)) rfl (X.load rfl (Sx.ev 37 (.pointer (some ⟨w7.heap.size, 1, none⟩))) (X.ld1 (Try.agg3 _) ((hC.gr g).at 9 rfl))) hR.st0
        ·intro ac done u W Sx hR
         refine X.call (X.w1 rfl (Sx.yl 8 36 false (by kernel_rfl) rfl rfl)) (X.enter (F := 54) rfl (X.kc (.func (.func 54) #[] #[]) rfl) (X.a3 (Sx.ev 38 (Vi (cv nd i 1))) (X.kc (Vi 0) rfl) (X.kc (Vi 10000) rfl)) (enters_of Try.func54 (by kernel_rfl) rfl _)) (by have hq := within_any (cv nd i 1) 0 10000 W; rw [h13] at hq; exact hq) ?_
         rintro e W2 ⟨rfl, rfl⟩
         exact ⟨_, rfl, X.kn rfl, hR.step (Gr.refl _) rfl⟩
        ·intro ac done u W Sx hR
         exact X.val (X.w1 rfl (Sx.yl 8 36 false (by kernel_rfl) rfl rfl)) rfl (X.notB rfl (Sx.ev 39 (.bool true)) rfl) hR.st0
        ·intro ac done u W Sx hR
         exact X.vl (X.pickF rfl (Sx.ev 36 (.bool false)) (Sx.ev 40 (.bool false))) hR.st0
        ·intro ac done u W Sx hR
         exact X.vl (X.move rfl (Sx.ev 41 (.bool false))) hR.st0
        ·intro ac done u W Sx hR
         exact X.val (X.w1 rfl (Sx.yl 14 42 false (by kernel_rfl) rfl rfl)) rfl (X.field rfl (Sx.ev 4 (Vp w7.heap.size)) (X.fld Try.underlying31 rfl (Try.siz3 _) rfl rfl)) hR.st0
        ·intro ac done u W Sx hR
         have g : Gr w10 W := hR.1
         exact X.val (X.w1 rfl (Sx.yl 14 42 false (by kernel_rfl) rfl rfl)) rfl (X.load rfl (Sx.ev 43 (.pointer (some ⟨w7.heap.size, 2, none⟩))) (X.ld1 (Try.agg3 _) ((hC.gr g).at 10 rfl))) hR.st0
        ·intro ac done u W Sx hR
         exact X.val (X.w1 rfl (Sx.yl 14 42 false (by kernel_rfl) rfl rfl)) rfl (X.field rfl (Sx.ev 4 (Vp w7.heap.size)) (X.fld Try.underlying31 rfl (Try.siz3 _) rfl rfl)) hR.st0
        ·intro ac done u W Sx hR
         have g : Gr w10 W := hR.1
         exact X.val (X.w1 rfl (Sx.yl 14 42 false (by kernel_rfl) rfl rfl)) rfl (X.load rfl (Sx.ev 45 (.pointer (some ⟨w7.heap.size, 1, none⟩))) (X.ld1 (Try.agg3 _) ((hC.gr g).at 9 rfl))) hR.st0
        ·intro ac done u W Sx hR
         refine X.call (X.w1 rfl (Sx.yl 14 42 false (by kernel_rfl) rfl rfl)) (X.enter (F := 54) rfl (X.kc (.func (.func 54) #[] #[]) rfl) (X.a3 (Sx.ev 44 (Vi (cv nd i 2))) (X.kc (Vi 0) rfl) (Sx.ev 46 (Vi (cv nd i 1)))) (enters_of Try.func54 (by kernel_rfl) rfl _)) (by have hq := within_any (cv nd i 2) 0 (cv nd i 1) W; rw [h15] at hq; exact hq) ?_
         rintro e W2 ⟨rfl, rfl⟩
         exact ⟨_, rfl, X.kn rfl, hR.step (Gr.refl _) rfl⟩
        ·intro ac done u W Sx hR
         exact X.val (X.w1 rfl (Sx.yl 14 42 false (by kernel_rfl) rfl rfl)) rfl (X.notB rfl (Sx.ev 47 (.bool false)) rfl) hR.st0
        ·intro ac done u W Sx hR
         exact X.vl (X.pickF rfl (Sx.ev 42 (.bool false)) (Sx.ev 48 (.bool true))) hR.st0
        ·intro ac done u W Sx hR
         exact X.vl (X.move rfl (Sx.ev 49 (.bool true))) hR.st0
        ·intro ac done u W Sx hR
         exact X.skip (X.w2 rfl (Sx.yl 22 50 true (by kernel_rfl) rfl rfl) rfl) rfl (hR.skip rfl)
        ·intro ac done u W Sx hR
         exact X.skip (X.w2 rfl (Sx.yl 22 50 true (by kernel_rfl) rfl rfl) rfl) rfl (hR.skip rfl)
        ·intro ac done u W Sx hR
         exact X.skip (X.w2 rfl (Sx.yl 22 50 true (by kernel_rfl) rfl rfl) rfl) rfl (hR.skip rfl)
        ·intro ac done u W Sx hR
         exact X.skip (X.w2 rfl (Sx.yl 22 50 true (by kernel_rfl) rfl rfl) rfl) rfl (hR.skip rfl)
        ·intro ac done u W Sx hR
         exact X.vl (X.pickT rfl (Sx.ev 50 (.bool true)) (X.kc (.bool true) rfl)) hR.st0
        ·intro ac done u W Sx hR
         exact X.vl (X.move rfl (Sx.ev 55 (.bool true))) hR.st0
        ·intro ac done u W Sx hR
         exact X.skip (X.w2 rfl (Sx.yl 28 56 true (by kernel_rfl) rfl rfl) rfl) rfl (hR.skip rfl)
        ·intro ac done u W Sx hR
         exact X.skip (X.w2 rfl (Sx.yl 28 56 true (by kernel_rfl) rfl rfl) rfl) rfl (hR.skip rfl)
        ·intro ac done u W Sx hR
         exact X.skip (X.w2 rfl (Sx.yl 28 56 true (by kernel_rfl) rfl rfl) rfl) rfl (hR.skip rfl)
        ·intro ac done u W Sx hR
         exact X.skip (X.w2 rfl (Sx.yl 28 56 true (by kernel_rfl) rfl rfl) rfl) rfl (hR.skip rfl)
        ·intro ac done u W Sx hR
         exact X.vl (X.pickT rfl (Sx.ev 56 (.bool true)) (X.kc (.bool true) rfl)) hR.st0
        intro ac u w16 hs hd hl ho hR
        have g : Gr w10 w16 := hR.1
        replace F : Fr ac 63 [(1, Vp w.heap.size), (22, .slice (some pd9) n nc), (23, Vi n), (24, Vi i), (61, .bool true)] := X.fr hs hd hl _ (by kernel_rfl)
        clear hs hd hl ho hR
        replace G := G.trans g
        replace hC := hC.gr g
        replace GB_ := GB_.trans g
        replace hnd := hnd.gr g
        clear g
        refine X.thenN ?_
        refine Y.condT (F.ev 61 (.bool true)) ?_
        refine Y.seq ?_
        refine Y.lit (by kernel_rfl) ?_
        refine Y.pv F (X.assign rfl (X.kc (Vi 90) rfl)) ?_;clear F ac;intro ac F
        refine Y.nil ?_
        replace F : Fr ac 63 [(2, Vi 90)] := F.sub _
        refine X.thenN ?_
        refine Y.ret ?_
        refine X.blockR ?_
        refine X.thenR ?_
        refine X.thenR ?_
        refine X.blockR ?_
        refine X.thenR ?_
        exact Y.ret0 (v := Vi 90) F (Y.rs1 F rfl (by kernel_rfl)) ⟨by rw [(cluE_node hlen (i := i) (by omega) (by simp [nodeB, h11, h13, h15, h4, h5, h6, h8]))], G⟩
       | true =>
        try rw [h15] at F
        cases h17 : withinB (cv nd i 3) 0 20 with
        | false =>
         try rw [h17] at F
         refine Y.region F [some (Vp w7.heap.size), some (Vi (cv nd i 0)), some (Vp w.heap.size), some (Vi gr), some (Vi (shlV 1 (gr : Int))), some (Vi ((shlV 1 (gr : Int) : Int) - 1)), some (.bool true), some (.bool false), some (.bool false), some (.pointer (some ⟨w7.heap.size, 1, none⟩)), some (Vi (cv nd i 1)), some (.bool true), some (.bool false), some (.bool false), some (.bool false), some (.pointer (some ⟨w7.heap.size, 2, none⟩)), some (Vi (cv nd i 2)), some (.pointer (some ⟨w7.heap.size, 1, none⟩)), some (Vi (cv nd i 1)), some (.bool true), some (.bool false), some (.bool false), some (.bool false), some (.pointer (some ⟨w7.heap.size, 3, none⟩)), some (Vi (cv nd i 3)), some (.bool false), some (.bool true), some (.bool true), some (.bool true), none, none, none, none, some (.bool true)] [] rfl ⟨by kernel_rfl, of_decide_eq_true (by kernel_rfl), by kernel_rfl, by kernel_rfl, by kernel_rfl⟩ ⟨?_, ?_, ?_, ?_, ?_, ?_, ?_, ?_, ?_, ?_, ?_, ?_, ?_, ?_, ?_, ?_, ?_, ?_, ?_, ?_, ?_, ?_, ?_, ?_, ?_, ?_, ?_, ?_, ?_, ?_, ?_, ?_, ?_, ?_, trivial⟩ ?_
         ·intro ac done u W Sx hR
          exact X.vl (X.field rfl (Sx.ev 4 (Vp w7.heap.size)) (X.fld Try.underlying31 rfl (Try.siz3 _) rfl rfl)) hR.st0
         ·intro ac done u W Sx hR
          have g : Gr w10 W := hR.1
          exact X.vl (X.load rfl (Sx.ev 28 (Vp w7.heap.size)) (X.ld1 (Try.agg3 _) ((hC.gr g).at 8 rfl))) hR.st0
         ·intro ac done u W Sx hR
          exact X.vl (X.field rfl (Sx.ev 1 (Vp w.heap.size)) (X.fld Try.underlying24 rfl (Try.siz3 _) rfl rfl)) hR.st0
         ·intro ac done u W Sx hR
          have g : Gr w10 W := hR.1
          exact X.vl (X.load rfl (Sx.ev 30 (Vp w.heap.size)) (X.ld1 (Try.agg3 _) ((hC.gr g).at 0 rfl))) hR.st0
         ·intro ac done u W Sx hR
          exact X.vl (X.binop rfl (X.kc (Vi 1) rfl) (Sx.ev 31 (Vi gr)) (X.shlI Try.underlying3 rfl (by omega))) hR.st0
         ·intro ac done u W Sx hR
          exact X.vl (X.binop rfl (Sx.ev 32 (Vi (shlV 1 (gr : Int)))) (X.kc (Vi 1) rfl) (X.subI Try.underlying3 rfl (by omega) (by omega))) hR.st0
         ·intro ac done u W Sx hR
          refine X.call (X.w0 rfl) (X.enter (F := 54) rfl (X.kc (.func (.func 54) #[] #[]) rfl) (X.a3 (Sx.ev 29 (Vi (cv nd i 0))) (X.kc (Vi 0) rfl) (Sx.ev 33 (Vi ((shlV 1 (gr : Int) : Int) - 1)))) (enters_of Try.func54 (by kernel_rfl) rfl _)) (by have hq := within_any (cv nd i 0) 0 ((shlV 1 (gr : Int) : Int) - 1) W; rw [h11] at hq; exact hq) ?_
          rintro e W2 ⟨rfl, rfl⟩
          exact ⟨_, rfl, X.kn rfl, hR.step (Gr.refl _) rfl⟩
         ·intro ac done u W Sx hR
          exact X.vl (X.notB rfl (Sx.ev 34 (.bool true)) rfl) hR.st0
         ·intro ac done u W Sx hR
          exact X.vl (X.move rfl (Sx.ev 35 (.bool false))) hR.st0
         ·intro ac done u W Sx hR
          exact X.val (X.w1 rfl (Sx.yl 8 36 false (by kernel_rfl) rfl rfl)) rfl (X.field rfl (Sx.ev 4 (Vp w7.heap.size)) (X.fld Try.underlying31 rfl (Try.siz3 _) rfl rfl)) hR.st0
         ·intro ac done u W Sx hR
          have g : Gr w10 W := hR.1
          exact X.val (X.w1 rfl (Sx.yl 8 36 false (by kernel_rfl) rfl rfl)) rfl (X.load rfl (Sx.ev 37 (.pointer (some ⟨w7.heap.size, 1, none⟩))) (X.ld1 (Try.agg3 _) ((hC.gr g).at 9 rfl))) hR.st0
         ·intro ac done u W Sx hR
          refine X.call (X.w1 rfl (Sx.yl 8 36 false (by kernel_rfl) rfl rfl)) (X.enter (F := 54) rfl (X.kc (.func (.func 54) #[] #[]) rfl) (X.a3 (Sx.ev 38 (Vi (cv nd i 1))) (X.kc (Vi 0) rfl) (X.kc (Vi 10000) rfl)) (enters_of Try.func54 (by kernel_rfl) rfl _)) (by have hq := within_any (cv nd i 1) 0 10000 W; rw [h13] at hq; exact hq) ?_
          rintro e W2 ⟨rfl, rfl⟩
          exact ⟨_, rfl, X.kn rfl, hR.step (Gr.refl _) rfl⟩
         ·intro ac done u W Sx hR
          exact X.val (X.w1 rfl (Sx.yl 8 36 false (by kernel_rfl) rfl rfl)) rfl (X.notB rfl (Sx.ev 39 (.bool true)) rfl) hR.st0
         ·intro ac done u W Sx hR
          exact X.vl (X.pickF rfl (Sx.ev 36 (.bool false)) (Sx.ev 40 (.bool false))) hR.st0
         ·intro ac done u W Sx hR
          exact X.vl (X.move rfl (Sx.ev 41 (.bool false))) hR.st0
         ·intro ac done u W Sx hR
          exact X.val (X.w1 rfl (Sx.yl 14 42 false (by kernel_rfl) rfl rfl)) rfl (X.field rfl (Sx.ev 4 (Vp w7.heap.size)) (X.fld Try.underlying31 rfl (Try.siz3 _) rfl rfl)) hR.st0
         ·intro ac done u W Sx hR
          have g : Gr w10 W := hR.1
          exact X.val (X.w1 rfl (Sx.yl 14 42 false (by kernel_rfl) rfl rfl)) rfl (X.load rfl (Sx.ev 43 (.pointer (some ⟨w7.heap.size, 2, none⟩))) (X.ld1 (Try.agg3 _) ((hC.gr g).at 10 rfl))) hR.st0
         ·intro ac done u W Sx hR
          exact X.val (X.w1 rfl (Sx.yl 14 42 false (by kernel_rfl) rfl rfl)) rfl (X.field rfl (Sx.ev 4 (Vp w7.heap.size)) (X.fld Try.underlying31 rfl (Try.siz3 _) rfl rfl)) hR.st0
         ·intro ac done u W Sx hR
          have g : Gr w10 W := hR.1
          exact X.val (X.w1 rfl (Sx.yl 14 42 false (by kernel_rfl) rfl rfl)) rfl (X.load rfl (Sx.ev 45 (.pointer (some ⟨w7.heap.size, 1, none⟩))) (X.ld1 (Try.agg3 _) ((hC.gr g).at 9 rfl))) hR.st0
         ·intro ac done u W Sx hR
          refine X.call (X.w1 rfl (Sx.yl 14 42 false (by kernel_rfl) rfl rfl)) (X.enter (F := 54) rfl (X.kc (.func (.func 54) #[] #[]) rfl) (X.a3 (Sx.ev 44 (Vi (cv nd i 2))) (X.kc (Vi 0) rfl) (Sx.ev 46 (Vi (cv nd i 1)))) (enters_of Try.func54 (by kernel_rfl) rfl _)) (by have hq := within_any (cv nd i 2) 0 (cv nd i 1) W; rw [h15] at hq; exact hq) ?_
          rintro e W2 ⟨rfl, rfl⟩
          exact ⟨_, rfl, X.kn rfl, hR.step (Gr.refl _) rfl⟩
         ·intro ac done u W Sx hR
          exact X.val (X.w1 rfl (Sx.yl 14 42 false (by kernel_rfl) rfl rfl)) rfl (X.notB rfl (Sx.ev 47 (.bool true)) rfl) hR.st0
         ·intro ac done u W Sx hR
          exact X.vl (X.pickF rfl (Sx.ev 42 (.bool false)) (Sx.ev 48 (.bool false))) hR.st0
         ·intro ac done u W Sx hR
          exact X.vl (X.move rfl (Sx.ev 49 (.bool false))) hR.st0
         ·intro ac done u W Sx hR
          exact X.val (X.w1 rfl (Sx.yl 22 50 false (by kernel_rfl) rfl rfl)) rfl (X.field rfl (Sx.ev 4 (Vp w7.heap.size)) (X.fld Try.underlying31 rfl (Try.siz3 _) rfl rfl)) hR.st0
         ·intro ac done u W Sx hR
          have g : Gr w10 W := hR.1
          exact X.val (X.w1 rfl (Sx.yl 22 50 false (by kernel_rfl) rfl rfl)) rfl (X.load rfl (Sx.ev 51 (.pointer (some ⟨w7.heap.size, 3, none⟩))) (X.ld1 (Try.agg3 _) ((hC.gr g).at 11 rfl))) hR.st0
         ·intro ac done u W Sx hR
          refine X.call (X.w1 rfl (Sx.yl 22 50 false (by kernel_rfl) rfl rfl)) (X.enter (F := 54) rfl (X.kc (.func (.func 54) #[] #[]) rfl) (X.a3 (Sx.ev 52 (Vi (cv nd i 3))) (X.kc (Vi 0) rfl) (X.kc (Vi 20) rfl)) (enters_of Try.func54 (by kernel_rfl) rfl _)) (by have hq := within_any (cv nd i 3) 0 20 W; rw [h17] at hq; exact hq) ?_
          rintro e W2 ⟨rfl, rfl⟩
          exact ⟨_, rfl, X.kn rfl, hR.step (Gr.refl _) rfl⟩
         ·intro ac done u W Sx hR
          exact X.val (X.w1 rfl (Sx.yl 22 50 false (by kernel_rfl) rfl rfl)) rfl (X.notB rfl (Sx.ev 53 (.bool false)) rfl) hR.st0
         ·intro ac done u W Sx hR
          exact X.vl (X.pickF rfl (Sx.ev 50 (.bool false)) (Sx.ev 54 (.bool true))) hR.st0
         ·intro ac done u W Sx hR
          exact X.vl (X.move rfl (Sx.ev 55 (.bool true))) hR.st0
         ·intro ac done u W Sx hR
          exact X.skip (X.w2 rfl (Sx.yl 28 56 true (by kernel_rfl) rfl rfl) rfl) rfl (hR.skip rfl)
         ·intro ac done u W Sx hR
          exact X.skip (X.w2 rfl (Sx.yl 28 56 true (by kernel_rfl) rfl rfl) rfl) rfl (hR.skip rfl)
         ·intro ac done u W Sx hR
          exact X.skip (X.w2 rfl (Sx.yl 28 56 true (by kernel_rfl) rfl rfl) rfl) rfl (hR.skip rfl)
         ·intro ac done u W Sx hR
          exact X.skip (X.w2 rfl (Sx.yl 28 56 true (by kernel_rfl) rfl rfl) rfl) rfl (hR.skip rfl)
         ·intro ac done u W Sx hR
          exact X.vl (X.pickT rfl (Sx.ev 56 (.bool true)) (X.kc (.bool true) rfl)) hR.st0
         intro ac u w18 hs hd hl ho hR
         have g : Gr w10 w18 := hR.1
         replace F : Fr ac 63 [(1, Vp w.heap.size), (22, .slice (some pd9) n nc), (23, Vi n), (24, Vi i), (61, .bool true)] := X.fr hs hd hl _ (by kernel_rfl)
         clear hs hd hl ho hR
         replace G := G.trans g
         replace hC := hC.gr g
         replace GB_ := GB_.trans g
         replace hnd := hnd.gr g
         clear g
         refine X.thenN ?_
         refine Y.condT (F.ev 61 (.bool true)) ?_
         refine Y.seq ?_
         refine Y.lit (by kernel_rfl) ?_
         refine Y.pv F (X.assign rfl (X.kc (Vi 90) rfl)) ?_;clear F ac;intro ac F
         refine Y.nil ?_
         replace F : Fr ac 63 [(2, Vi 90)] := F.sub _
         refine X.thenN ?_
         refine Y.ret ?_
         refine X.blockR ?_
         refine X.thenR ?_
         refine X.thenR ?_
         refine X.blockR ?_
         refine X.thenR ?_
         exact Y.ret0 (v := Vi 90) F (Y.rs1 F rfl (by kernel_rfl)) ⟨by rw [(cluE_node hlen (i := i) (by omega) (by simp [nodeB, h11, h13, h15, h17, h4, h5, h6, h8]))], G⟩
        | true =>
         try rw [h17] at F
         refine Y.region F [some (Vp w7.heap.size), some (Vi (cv nd i 0)), some (Vp w.heap.size), some (Vi gr), some (Vi (shlV 1 (gr : Int))), some (Vi ((shlV 1 (gr : Int) : Int) - 1)), some (.bool true), some (.bool false), some (.bool false), some (.pointer (some ⟨w7.heap.size, 1, none⟩)), some (Vi (cv nd i 1)), some (.bool true), some (.bool false), some (.bool false), some (.bool false), some (.pointer (some ⟨w7.heap.size, 2, none⟩)), some (Vi (cv nd i 2)), some (.pointer (some ⟨w7.heap.size, 1, none⟩)), some (Vi (cv nd i 1)), some (.bool true), some (.bool false), some (.bool false), some (.bool false), some (.pointer (some ⟨w7.heap.size, 3, none⟩)), some (Vi (cv nd i 3)), some (.bool true), some (.bool false), some (.bool false), some (.bool false), some (.pointer (some ⟨w7.heap.size, 4, none⟩)), some (Vi (cv nd i 4)), some (.bool (withinB (cv nd i 4) 1 1000)), some (.bool (!(withinB (cv nd i 4) 1 1000))), some (.bool (!(withinB (cv nd i 4) 1 1000)))] [] rfl ⟨by kernel_rfl, of_decide_eq_true (by kernel_rfl), by kernel_rfl, by kernel_rfl, by kernel_rfl⟩ ⟨?_, ?_, ?_, ?_, ?_, ?_, ?_, ?_, ?_, ?_, ?_, ?_, ?_, ?_, ?_, ?_, ?_, ?_, ?_, ?_, ?_, ?_, ?_, ?_, ?_, ?_, ?_, ?_, ?_, ?_, ?_, ?_, ?_, ?_, trivial⟩ ?_
         ·intro ac done u W Sx hR
          exact X.vl (X.field rfl (Sx.ev 4 (Vp w7.heap.size)) (X.fld Try.underlying31 rfl (Try.siz3 _) rfl rfl)) hR.st0
         ·intro ac done u W Sx hR
          have g : Gr w10 W := hR.1
          exact X.vl (X.load rfl (Sx.ev 28 (Vp w7.heap.size)) (X.ld1 (Try.agg3 _) ((hC.gr g).at 8 rfl))) hR.st0
         ·intro ac done u W Sx hR
          exact X.vl (X.field rfl (Sx.ev 1 (Vp w.heap.size)) (X.fld Try.underlying24 rfl (Try.siz3 _) rfl rfl)) hR.st0
         ·intro ac done u W Sx hR
          have g : Gr w10 W := hR.1
          exact X.vl (X.load rfl (Sx.ev 30 (Vp w.heap.size)) (X.ld1 (Try.agg3 _) ((hC.gr g).at 0 rfl))) hR.st0
         ·intro ac done u W Sx hR
          exact X.vl (X.binop rfl (X.kc (Vi 1) rfl) (Sx.ev 31 (Vi gr)) (X.shlI Try.underlying3 rfl (by omega))) hR.st0
         ·intro ac done u W Sx hR
          exact X.vl (X.binop rfl (Sx.ev 32 (Vi (shlV 1 (gr : Int)))) (X.kc (Vi 1) rfl) (X.subI Try.underlying3 rfl (by omega) (by omega))) hR.st0
         ·intro ac done u W Sx hR
          refine X.call (X.w0 rfl) (X.enter (F := 54) rfl (X.kc (.func (.func 54) #[] #[]) rfl) (X.a3 (Sx.ev 29 (Vi (cv nd i 0))) (X.kc (Vi 0) rfl) (Sx.ev 33 (Vi ((shlV 1 (gr : Int) : Int) - 1)))) (enters_of Try.func54 (by kernel_rfl) rfl _)) (by have hq := within_any (cv nd i 0) 0 ((shlV 1 (gr : Int) : Int) - 1) W; rw [h11] at hq; exact hq) ?_
          rintro e W2 ⟨rfl, rfl⟩
          exact ⟨_, rfl, X.kn rfl, hR.step (Gr.refl _) rfl⟩
         ·intro ac done u W Sx hR
          exact X.vl (X.notB rfl (Sx.ev 34 (.bool true)) rfl) hR.st0
         ·intro ac done u W Sx hR
          exact X.vl (X.move rfl (Sx.ev 35 (.bool false))) hR.st0
         ·intro ac done u W Sx hR
          exact X.val (X.w1 rfl (Sx.yl 8 36 false (by kernel_rfl) rfl rfl)) rfl (X.field rfl (Sx.ev 4 (Vp w7.heap.size)) (X.fld Try.underlying31 rfl (Try.siz3 _) rfl rfl)) hR.st0
         ·intro ac done u W Sx hR
          have g : Gr w10 W := hR.1
          exact X.val (X.w1 rfl (Sx.yl 8 36 false (by kernel_rfl) rfl rfl)) rfl (X.load rfl (Sx.ev 37 (.pointer (some ⟨w7.heap.size, 1, none⟩))) (X.ld1 (Try.agg3 _) ((hC.gr g).at 9 rfl))) hR.st0
         ·intro ac done u W Sx hR
          refine X.call (X.w1 rfl (Sx.yl 8 36 false (by kernel_rfl) rfl rfl)) (X.enter (F := 54) rfl (X.kc (.func (.func 54) #[] #[]) rfl) (X.a3 (Sx.ev 38 (Vi (cv nd i 1))) (X.kc (Vi 0) rfl) (X.kc (Vi 10000) rfl)) (enters_of Try.func54 (by kernel_rfl) rfl _)) (by have hq := within_any (cv nd i 1) 0 10000 W; rw [h13] at hq; exact hq) ?_
          rintro e W2 ⟨rfl, rfl⟩
          exact ⟨_, rfl, X.kn rfl, hR.step (Gr.refl _) rfl⟩
         ·intro ac done u W Sx hR
          exact X.val (X.w1 rfl (Sx.yl 8 36 false (by kernel_rfl) rfl rfl)) rfl (X.notB rfl (Sx.ev 39 (.bool true)) rfl) hR.st0
         ·intro ac done u W Sx hR
          exact X.vl (X.pickF rfl (Sx.ev 36 (.bool false)) (Sx.ev 40 (.bool false))) hR.st0
         ·intro ac done u W Sx hR
          exact X.vl (X.move rfl (Sx.ev 41 (.bool false))) hR.st0
         ·intro ac done u W Sx hR
          exact X.val (X.w1 rfl (Sx.yl 14 42 false (by kernel_rfl) rfl rfl)) rfl (X.field rfl (Sx.ev 4 (Vp w7.heap.size)) (X.fld Try.underlying31 rfl (Try.siz3 _) rfl rfl)) hR.st0
         ·intro ac done u W Sx hR
          have g : Gr w10 W := hR.1
          exact X.val (X.w1 rfl (Sx.yl 14 42 false (by kernel_rfl) rfl rfl)) rfl (X.load rfl (Sx.ev 43 (.pointer (some ⟨w7.heap.size, 2, none⟩))) (X.ld1 (Try.agg3 _) ((hC.gr g).at 10 rfl))) hR.st0
         ·intro ac done u W Sx hR
          exact X.val (X.w1 rfl (Sx.yl 14 42 false (by kernel_rfl) rfl rfl)) rfl (X.field rfl (Sx.ev 4 (Vp w7.heap.size)) (X.fld Try.underlying31 rfl (Try.siz3 _) rfl rfl)) hR.st0
         ·intro ac done u W Sx hR
          have g : Gr w10 W := hR.1
          exact X.val (X.w1 rfl (Sx.yl 14 42 false (by kernel_rfl) rfl rfl)) rfl (X.load rfl (Sx.ev 45 (.pointer (some ⟨w7.heap.size, 1, none⟩))) (X.ld1 (Try.agg3 _) ((hC.gr g).at 9 rfl))) hR.st0
         ·intro ac done u W Sx hR
          refine X.call (X.w1 rfl (Sx.yl 14 42 false (by kernel_rfl) rfl rfl)) (X.enter (F := 54) rfl (X.kc (.func (.func 54) #[] #[]) rfl) (X.a3 (Sx.ev 44 (Vi (cv nd i 2))) (X.kc (Vi 0) rfl) (Sx.ev 46 (Vi (cv nd i 1)))) (enters_of Try.func54 (by kernel_rfl) rfl _)) (by have hq := within_any (cv nd i 2) 0 (cv nd i 1) W; rw [h15] at hq; exact hq) ?_
          rintro e W2 ⟨rfl, rfl⟩
          exact ⟨_, rfl, X.kn rfl, hR.step (Gr.refl _) rfl⟩
         ·intro ac done u W Sx hR
          exact X.val (X.w1 rfl (Sx.yl 14 42 false (by kernel_rfl) rfl rfl)) rfl (X.notB rfl (Sx.ev 47 (.bool true)) rfl) hR.st0
         ·intro ac done u W Sx hR
          exact X.vl (X.pickF rfl (Sx.ev 42 (.bool false)) (Sx.ev 48 (.bool false))) hR.st0
         ·intro ac done u W Sx hR
          exact X.vl (X.move rfl (Sx.ev 49 (.bool false))) hR.st0
         ·intro ac done u W Sx hR
          exact X.val (X.w1 rfl (Sx.yl 22 50 false (by kernel_rfl) rfl rfl)) rfl (X.field rfl (Sx.ev 4 (Vp w7.heap.size)) (X.fld Try.underlying31 rfl (Try.siz3 _) rfl rfl)) hR.st0
         ·intro ac done u W Sx hR
          have g : Gr w10 W := hR.1
          exact X.val (X.w1 rfl (Sx.yl 22 50 false (by kernel_rfl) rfl rfl)) rfl (X.load rfl (Sx.ev 51 (.pointer (some ⟨w7.heap.size, 3, none⟩))) (X.ld1 (Try.agg3 _) ((hC.gr g).at 11 rfl))) hR.st0
         ·intro ac done u W Sx hR
          refine X.call (X.w1 rfl (Sx.yl 22 50 false (by kernel_rfl) rfl rfl)) (X.enter (F := 54) rfl (X.kc (.func (.func 54) #[] #[]) rfl) (X.a3 (Sx.ev 52 (Vi (cv nd i 3))) (X.kc (Vi 0) rfl) (X.kc (Vi 20) rfl)) (enters_of Try.func54 (by kernel_rfl) rfl _)) (by have hq := within_any (cv nd i 3) 0 20 W; rw [h17] at hq; exact hq) ?_
          rintro e W2 ⟨rfl, rfl⟩
          exact ⟨_, rfl, X.kn rfl, hR.step (Gr.refl _) rfl⟩
         ·intro ac done u W Sx hR
          exact X.val (X.w1 rfl (Sx.yl 22 50 false (by kernel_rfl) rfl rfl)) rfl (X.notB rfl (Sx.ev 53 (.bool true)) rfl) hR.st0
         ·intro ac done u W Sx hR
          exact X.vl (X.pickF rfl (Sx.ev 50 (.bool false)) (Sx.ev 54 (.bool false))) hR.st0
         ·intro ac done u W Sx hR
          exact X.vl (X.move rfl (Sx.ev 55 (.bool false))) hR.st0
         ·intro ac done u W Sx hR
          exact X.val (X.w1 rfl (Sx.yl 28 56 false (by kernel_rfl) rfl rfl)) rfl (X.field rfl (Sx.ev 4 (Vp w7.heap.size)) (X.fld Try.underlying31 rfl (Try.siz3 _) rfl rfl)) hR.st0
         ·intro ac done u W Sx hR
          have g : Gr w10 W := hR.1
          exact X.val (X.w1 rfl (Sx.yl 28 56 false (by kernel_rfl) rfl rfl)) rfl (X.load rfl (Sx.ev 57 (.pointer (some ⟨w7.heap.size, 4, none⟩))) (X.ld1 (Try.agg3 _) ((hC.gr g).at 12 rfl))) hR.st0
         ·intro ac done u W Sx hR
          refine X.call (X.w1 rfl (Sx.yl 28 56 false (by kernel_rfl) rfl rfl)) (X.enter (F := 54) rfl (X.kc (.func (.func 54) #[] #[]) rfl) (X.a3 (Sx.ev 58 (Vi (cv nd i 4))) (X.kc (Vi 1) rfl) (X.kc (Vi 1000) rfl)) (enters_of Try.func54 (by kernel_rfl) rfl _)) (within_any (cv nd i 4) 1 1000 W) ?_
          rintro e W2 ⟨rfl, rfl⟩
          exact ⟨_, rfl, X.kn rfl, hR.step (Gr.refl _) rfl⟩
         ·intro ac done u W Sx hR
          exact X.val (X.w1 rfl (Sx.yl 28 56 false (by kernel_rfl) rfl rfl)) rfl (X.notB rfl (Sx.ev 59 (.bool (withinB (cv nd i 4) 1 1000))) rfl) hR.st0
         ·intro ac done u W Sx hR
          exact X.vl (X.pickF rfl (Sx.ev 56 (.bool false)) (Sx.ev 60 (.bool (!(withinB (cv nd i 4) 1 1000))))) hR.st0
         intro ac u w19 hs hd hl ho hR
         have g : Gr w10 w19 := hR.1
         replace F : Fr ac 63 [(1, Vp w.heap.size), (22, .slice (some pd9) n nc), (23, Vi n), (24, Vi i), (61, .bool (!(withinB (cv nd i 4) 1 1000)))] := X.fr hs hd hl _ (by kernel_rfl)
         clear hs hd hl ho hR
         replace G := G.trans g
         replace hC := hC.gr g
         replace GB_ := GB_.trans g
         replace hnd := hnd.gr g
         clear g
         refine X.thenN ?_
         cases h20 : withinB (cv nd i 4) 1 1000 with
         | false =>
          try rw [h20] at F
          refine Y.condT (F.ev 61 (.bool true)) ?_
          refine Y.seq ?_
          refine Y.lit (by kernel_rfl) ?_
          refine Y.pv F (X.assign rfl (X.kc (Vi 90) rfl)) ?_;clear F ac;intro ac F
          refine Y.nil ?_
          replace F : Fr ac 63 [(2, Vi 90)] := F.sub _
          refine X.thenN ?_
          refine Y.ret ?_
          refine X.blockR ?_
          refine X.thenR ?_
          refine X.thenR ?_
          refine X.blockR ?_
          refine X.thenR ?_
          exact Y.ret0 (v := Vi 90) F (Y.rs1 F rfl (by kernel_rfl)) ⟨by rw [(cluE_node hlen (i := i) (by omega) (by simp [nodeB, h11, h13, h15, h17, h20, h4, h5, h6, h8]))], G⟩
         | true =>
          try rw [h20] at F
          refine Y.condF (F.ev 61 (.bool false)) ?_
          refine Y.skip ?_
          refine X.blockN ?_
          refine X.thenN ?_
          refine Y.lit (by kernel_rfl) ?_
          refine Y.pv F (X.binop rfl (F.ev 24 (Vi i)) (X.kc (Vi 1) rfl) (X.addI Try.underlying3 rfl (by omega) (by omega))) ?_;clear F ac;intro ac F
          refine Y.pv F (X.move rfl (F.ev 62 (Vi ((i : Int) + 1)))) ?_;clear F ac;intro ac F
          refine Y.nil ?_
          replace F : Fr ac 63 [(1, Vp w.heap.size), (22, .slice (some pd9) n nc), (23, Vi n), (24, Vi ((i : Int) + 1))] := F.sub _
          refine X.thenN ?_
          refine ⟨_, ?_, i + 1, rfl, GB_, by omega, by simp [allN, hok, nodeB, h11, h13, h15, h17, h20], F.sub _⟩
          omega
   | true =>
    try rw [h6] at F
    have h6p : ((16 : Int) < n) := of_decide_eq_true h6
    refine Y.condT (F.ev 20 (.bool true)) ?_
    refine Y.seq ?_
    refine Y.lit (by kernel_rfl) ?_
    refine Y.pv F (X.assign rfl (X.kc (Vi 90) rfl)) ?_;clear F ac;intro ac F
    refine Y.nil ?_
    replace F : Fr ac 63 [(2, Vi 90)] := F.sub _
    refine X.thenN ?_
    refine Y.ret ?_
    refine X.thenR ?_
    exact Y.ret0 (v := Vi 90) F (Y.rs1 F rfl (by kernel_rfl)) ⟨by rw [(cluE_bad hlen (by simp [cluB, h4, h5, h6] <;> omega))], G⟩
set_option maxRecDepth 100000 in
set_option maxHeartbeats 1000000 in
theorem check2_any (na : Option Addr) (n nc : Nat) (gr hold : Int) (nd : List (List Int)) (w : World) (hnd : StAt w 5 na n nd) :
  Calls Try.prog 15 #[.agg #[Vi gr, Vi hold, .slice na n nc]] w fun e w' => e = .returned (Vi (cluE gr hold nd)) ∧ Gr w w' := by
 have G := Gr.refl w
 have hlen := hnd.len
 have hlt := hnd.lt
 refine Y.calls 68 Try.func15 rfl rfl ?_
 intro ac F0
 have F : Fr ac 68 [(0, .agg #[Vi gr, Vi hold, .slice na n nc])] := F0.sub _
 clear F0
 refine Y.seq ?_
 refine Y.lit (by kernel_rfl) ?_
 refine Y.pv F (X.box rfl (F.ev 0 (.agg #[Vi gr, Vi hold, .slice na n nc])) X.bx) ?_;clear F ac;intro ac F
 have g := Gr.alloc w (.cells #[Vi gr, Vi hold, .slice na n nc] 24)
 have hb := heap_alloc_new w (.cells #[Vi gr, Vi hold, .slice na n nc] 24)
 have hbl : w.heap.size < (w.alloc (.cells #[Vi gr, Vi hold, .slice na n nc] 24)).heap.size := by simp
 have hC2 : RCells (w.alloc (.cells #[Vi gr, Vi hold, .slice na n nc] 24)) [(Ad w.heap.size 0, Vi gr), (Ad w.heap.size 1, Vi hold), (Ad w.heap.size 2, .slice na n nc)] := (RCells.nil w).box (b := w.heap.size) #[Vi gr, Vi hold, .slice na n nc] 24 rfl
 generalize w.alloc (.cells #[Vi gr, Vi hold, .slice na n nc] 24) = w3 at *
 replace G := G.trans g
 have hC := hC2
 clear hC2
 replace hnd := hnd.gr g
 clear g hb hbl
 refine Y.pv F (X.assign rfl (X.kc (Vi 0) rfl)) ?_;clear F ac;intro ac F
 refine Y.nil ?_
 replace F : Fr ac 68 [(1, Vp w.heap.size)] := F.sub _
 refine X.thenN ?_
 refine Y.seq ?_
 refine Y.seq ?_
 refine Y.lit (by kernel_rfl) ?_
 refine Y.pv F (X.field rfl (F.ev 1 (Vp w.heap.size)) (X.fld Try.underlying24 rfl (Try.siz3 _) rfl rfl)) ?_;clear F ac;intro ac F
 refine Y.pv F (X.load rfl (F.ev 5 (Vp w.heap.size)) (X.ld1 (Try.agg3 _) (hC.at 0 rfl))) ?_;clear F ac;intro ac F
 refine Y.pcall F (X.w0 rfl) rfl (X.enter (F := 42) rfl (X.kc (.func (.func 42) #[] #[]) rfl) (X.a3 (F.ev 6 (Vi gr)) (X.kc (Vi 1) rfl) (X.kc (Vi 8) rfl)) (enters_of Try.func42 (by kernel_rfl) rfl _)) (within2_any gr 1 8 w3) ?_
 clear F ac
 rintro e w' ⟨rfl, hw_⟩
 obtain rfl : w3 = w' := hw_.symm
 clear hw_
 refine ⟨_, rfl, ?_⟩
 intro ac F
 refine Y.pv F (X.notB rfl (F.ev 7 (.bool (withinB gr 1 8))) rfl) ?_;clear F ac;intro ac F
 refine Y.pv F (X.move rfl (F.ev 8 (.bool (!(withinB gr 1 8))))) ?_;clear F ac;intro ac F
 cases h4 : withinB gr 1 8 with
 | false =>
  try rw [h4] at F
  refine Y.pskip F (X.w2 rfl (F.yl (j := 4) (d := 9) (b := true) rfl (by kernel_rfl)) rfl) rfl ?_;clear F ac;intro ac F
  refine Y.pskip F (X.w2 rfl (F.yl (j := 4) (d := 9) (b := true) rfl (by kernel_rfl)) rfl) rfl ?_;clear F ac;intro ac F
  refine Y.pskip F (X.w2 rfl (F.yl (j := 4) (d := 9) (b := true) rfl (by kernel_rfl)) rfl) rfl ?_;clear F ac;intro ac F
  refine Y.pskip F (X.w2 rfl (F.yl (j := 4) (d := 9) (b := true) rfl (by kernel_rfl)) rfl) rfl ?_;clear F ac;intro ac F
  refine Y.pv F (X.pickT rfl (F.ev 9 (.bool true)) (X.kc (.bool true) rfl)) ?_;clear F ac;intro ac F
  refine Y.pv F (X.move rfl (F.ev 14 (.bool true))) ?_;clear F ac;intro ac F
  refine Y.pskip F (X.w2 rfl (F.yl (j := 10) (d := 15) (b := true) rfl (by kernel_rfl)) rfl) rfl ?_;clear F ac;intro ac F
  refine Y.pskip F (X.w2 rfl (F.yl (j := 10) (d := 15) (b := true) rfl (by kernel_rfl)) rfl) rfl ?_;clear F ac;intro ac F
  refine Y.pskip F (X.w2 rfl (F.yl (j := 10) (d := 15) (b := true) rfl (by kernel_rfl)) rfl) rfl ?_;clear F ac;intro ac F
  refine Y.pskip F (X.w2 rfl (F.yl (j := 10) (d := 15) (b := true) rfl (by kernel_rfl)) rfl) rfl ?_;clear F ac;intro ac F
  refine Y.pv F (X.pickT rfl (F.ev 15 (.bool true)) (X.kc (.bool true) rfl)) ?_;clear F ac;intro ac F
  refine Y.nil ?_
  replace F : Fr ac 68 [(1, Vp w.heap.size), (20, .bool true)] := F.sub _
  refine X.thenN ?_
  refine Y.condT (F.ev 20 (.bool true)) ?_
  refine Y.seq ?_
  refine Y.lit (by kernel_rfl) ?_
  refine Y.pv F (X.assign rfl (X.kc (Vi 90) rfl)) ?_;clear F ac;intro ac F
  refine Y.nil ?_
  replace F : Fr ac 68 [(2, Vi 90)] := F.sub _
  refine X.thenN ?_
  refine Y.ret ?_
  refine X.thenR ?_
  exact Y.ret0 (v := Vi 90) F (Y.rs1 F rfl (by kernel_rfl)) ⟨by rw [(cluE_bad hlen (by simp [cluB, h4] <;> omega))], G⟩
 | true =>
  try rw [h4] at F
  have hgr := withinB_ok h4
  have hsh := shl_bd (g := gr) (by omega) (by omega)
  refine Y.pval F (X.w1 rfl (F.yl (j := 4) (d := 9) (b := false) rfl (by kernel_rfl))) rfl (X.field rfl (F.ev 1 (Vp w.heap.size)) (X.fld Try.underlying24 rfl (Try.siz3 _) rfl rfl)) ?_;clear F ac;intro ac F
  refine Y.pval F (X.w1 rfl (F.yl (j := 4) (d := 9) (b := false) rfl (by kernel_rfl))) rfl (X.load rfl (F.ev 10 (.pointer (some ⟨w.heap.size, 1, none⟩))) (X.ld1 (Try.agg3 _) (hC.at 1 rfl))) ?_;clear F ac;intro ac F
  refine Y.pcall F (X.w1 rfl (F.yl (j := 4) (d := 9) (b := false) rfl (by kernel_rfl))) rfl (X.enter (F := 42) rfl (X.kc (.func (.func 42) #[] #[]) rfl) (X.a3 (F.ev 11 (Vi hold)) (X.kc (Vi 1) rfl) (X.kc (Vi 100) rfl)) (enters_of Try.func42 (by kernel_rfl) rfl _)) (within2_any hold 1 100 w3) ?_
  clear F ac
  rintro e w' ⟨rfl, hw_⟩
  obtain rfl : w3 = w' := hw_.symm
  clear hw_
  refine ⟨_, rfl, ?_⟩
  intro ac F
  refine Y.pval F (X.w1 rfl (F.yl (j := 4) (d := 9) (b := false) rfl (by kernel_rfl))) rfl (X.notB rfl (F.ev 12 (.bool (withinB hold 1 100))) rfl) ?_;clear F ac;intro ac F
  refine Y.pv F (X.pickF rfl (F.ev 9 (.bool false)) (F.ev 13 (.bool (!(withinB hold 1 100))))) ?_;clear F ac;intro ac F
  refine Y.pv F (X.move rfl (F.ev 14 (.bool (!(withinB hold 1 100))))) ?_;clear F ac;intro ac F
  cases h5 : withinB hold 1 100 with
  | false =>
   try rw [h5] at F
   refine Y.pskip F (X.w2 rfl (F.yl (j := 10) (d := 15) (b := true) rfl (by kernel_rfl)) rfl) rfl ?_;clear F ac;intro ac F
   refine Y.pskip F (X.w2 rfl (F.yl (j := 10) (d := 15) (b := true) rfl (by kernel_rfl)) rfl) rfl ?_;clear F ac;intro ac F
   refine Y.pskip F (X.w2 rfl (F.yl (j := 10) (d := 15) (b := true) rfl (by kernel_rfl)) rfl) rfl ?_;clear F ac;intro ac F
   refine Y.pskip F (X.w2 rfl (F.yl (j := 10) (d := 15) (b := true) rfl (by kernel_rfl)) rfl) rfl ?_;clear F ac;intro ac F
   refine Y.pv F (X.pickT rfl (F.ev 15 (.bool true)) (X.kc (.bool true) rfl)) ?_;clear F ac;intro ac F
   refine Y.nil ?_
   replace F : Fr ac 68 [(1, Vp w.heap.size), (20, .bool true)] := F.sub _
   refine X.thenN ?_
   refine Y.condT (F.ev 20 (.bool true)) ?_
   refine Y.seq ?_
   refine Y.lit (by kernel_rfl) ?_
   refine Y.pv F (X.assign rfl (X.kc (Vi 90) rfl)) ?_;clear F ac;intro ac F
   refine Y.nil ?_
   replace F : Fr ac 68 [(2, Vi 90)] := F.sub _
   refine X.thenN ?_
   refine Y.ret ?_
   refine X.thenR ?_
   exact Y.ret0 (v := Vi 90) F (Y.rs1 F rfl (by kernel_rfl)) ⟨by rw [(cluE_bad hlen (by simp [cluB, h4, h5] <;> omega))], G⟩
  | true =>
   try rw [h5] at F
   refine Y.pval F (X.w1 rfl (F.yl (j := 10) (d := 15) (b := false) rfl (by kernel_rfl))) rfl (X.field rfl (F.ev 1 (Vp w.heap.size)) (X.fld Try.underlying24 rfl (Try.siz22 _) rfl rfl)) ?_;clear F ac;intro ac F
   refine Y.pval F (X.w1 rfl (F.yl (j := 10) (d := 15) (b := false) rfl (by kernel_rfl))) rfl (X.load rfl (F.ev 16 (.pointer (some ⟨w.heap.size, 2, none⟩))) (X.ld1 (Try.agg22 _) (hC.at 2 rfl))) ?_;clear F ac;intro ac F
   refine Y.pval F (X.w1 rfl (F.yl (j := 10) (d := 15) (b := false) rfl (by kernel_rfl))) rfl (X.len1 Try.underlying22 rfl (F.ev 17 (.slice na n nc))) ?_;clear F ac;intro ac F
   refine Y.pval F (X.w1 rfl (F.yl (j := 10) (d := 15) (b := false) rfl (by kernel_rfl))) rfl (X.binop rfl (F.ev 18 (Vi n)) (X.kc (Vi 16) rfl) (X.gtrI Try.underlying3 rfl)) ?_;clear F ac;intro ac F
   refine Y.pv F (X.pickF rfl (F.ev 15 (.bool false)) (F.ev 19 (.bool (decide ((16 : Int) < n))))) ?_;clear F ac;intro ac F
   refine Y.nil ?_
   replace F : Fr ac 68 [(1, Vp w.heap.size), (20, .bool (decide ((16 : Int) < n)))] := F.sub _
   refine X.thenN ?_
   cases h6 : decide ((16 : Int) < n) with
   | false =>
    try rw [h6] at F
    have h6p : ¬ ((16 : Int) < n) := of_decide_eq_false h6
    refine Y.condF (F.ev 20 (.bool false)) ?_
    refine Y.skip ?_
    refine X.thenN ?_
    refine Y.seq ?_
    refine Y.seq ?_
    refine Y.lit (by kernel_rfl) ?_
    refine Y.pv F (X.assign rfl (X.kc (Vi 0) rfl)) ?_;clear F ac;intro ac F
    refine Y.nil ?_
    replace F : Fr ac 68 [(1, Vp w.heap.size), (3, Vi 0)] := F.sub _
    refine X.thenN ?_
    refine Y.block ?_
    have hndB := hnd
    have hCB := hC
    have GB := G
    refine Y.loop (fun me_ ac wr => ∃ (i : Nat), me_ = n - i ∧ Gr w3 wr ∧ i ≤ n ∧ allN (nodeB gr nd) i = true ∧ Fr ac 68 [(1, Vp w.heap.size), (3, Vi i)]) _ ⟨0, rfl, Gr.refl _, Nat.zero_le _, rfl, F.sub _⟩ ?_
    clear F
    intro me_ ac w7 hI
    obtain ⟨i, rfl, gr, hi0, hok, F⟩ := hI
    replace G := GB.trans gr
    replace hC := hCB.gr gr
    replace hnd := hndB.gr gr
    have GB_ := gr
    clear gr
    refine Y.seq ?_
    refine Y.seq ?_
    refine Y.lit (by kernel_rfl) ?_
    refine Y.pv F (X.move rfl (F.ev 3 (Vi i))) ?_;clear F ac;intro ac F
    refine Y.pv F (X.field rfl (F.ev 1 (Vp w.heap.size)) (X.fld Try.underlying24 rfl (Try.siz22 _) rfl rfl)) ?_;clear F ac;intro ac F
    refine Y.pv F (X.load rfl (F.ev 22 (.pointer (some ⟨w.heap.size, 2, none⟩))) (X.ld1 (Try.agg22 _) (hC.at 2 rfl))) ?_;clear F ac;intro ac F
    refine Y.pv F (X.len1 Try.underlying22 rfl (F.ev 23 (.slice na n nc))) ?_;clear F ac;intro ac F
    refine Y.pv F (X.binop rfl (F.ev 21 (Vi i)) (F.ev 24 (Vi n)) (X.lssI Try.underlying3 rfl)) ?_;clear F ac;intro ac F
    refine Y.nil ?_
    replace F : Fr ac 68 [(1, Vp w.heap.size), (3, Vi i), (25, .bool (decide ((i : Int) < n)))] := F.sub _
    refine X.thenN ?_
    cases h8 : decide ((i : Int) < n) with
    | false =>
     try rw [h8] at F
     have h8p : ¬ ((i : Int) < n) := of_decide_eq_false h8
     have hin : i = n := by omega
     have hall : allN (nodeB gr nd) n = true := by rw [← hin]; exact hok
     refine Y.condF (F.ev 25 (.bool false)) ?_
     refine Y.exit ?_
     refine X.thenX ?_
     refine X.thenX ?_
     refine X.blockX ?_
     refine X.thenN ?_
     refine Y.seq ?_
     refine Y.lit (by kernel_rfl) ?_
     refine Y.pv F (X.assign rfl (X.kc (Vi 0) rfl)) ?_;clear F ac;intro ac F
     refine Y.nil ?_
     replace F : Fr ac 68 [(2, Vi 0)] := F.sub _
     refine X.thenN ?_
     refine Y.ret ?_
     exact Y.ret0 (v := Vi 0) F (Y.rs1 F rfl (by kernel_rfl)) ⟨by rw [(cluE_good hlen (by simp [cluB, h4, h5, h6, h8] <;> omega) hall)], G⟩
    | true =>
     try rw [h8] at F
     have h8p : ((i : Int) < n) := of_decide_eq_true h8
     have hi : i < n := by omega
     refine Y.condT (F.ev 25 (.bool true)) ?_
     refine Y.skip ?_
     refine X.thenN ?_
     refine Y.seq ?_
     refine Y.block ?_
     refine Y.seq ?_
     refine Y.lit (by kernel_rfl) ?_
     refine Y.pv F (X.field rfl (F.ev 1 (Vp w.heap.size)) (X.fld Try.underlying24 rfl (Try.siz22 _) rfl rfl)) ?_;clear F ac;intro ac F
     refine Y.pv F (X.load rfl (F.ev 28 (.pointer (some ⟨w.heap.size, 2, none⟩))) (X.ld1 (Try.agg22 _) (hC.at 2 rfl))) ?_;clear F ac;intro ac F
     refine Y.pv F (X.move rfl (F.ev 3 (Vi i))) ?_;clear F ac;intro ac F
     obtain ⟨pd9, pe9, -, -, pc9⟩ := hnd.at (j := i) (by omega)
     subst pe9
     replace hC : RCells w7 [(Ad w.heap.size 0, Vi gr), (Ad w.heap.size 1, Vi hold), (Ad w.heap.size 2, .slice (some pd9) n nc), (pd9.add (i * 5), Vi (cv nd i 0)), (⟨(pd9.add (i * 5)).block, (pd9.add (i * 5)).off + 1, none⟩, Vi (cv nd i 1)), (⟨(pd9.add (i * 5)).block, (pd9.add (i * 5)).off + 2, none⟩, Vi (cv nd i 2)), (⟨(pd9.add (i * 5)).block, (pd9.add (i * 5)).off + 3, none⟩, Vi (cv nd i 3)), (⟨(pd9.add (i * 5)).block, (pd9.add (i * 5)).off + 4, none⟩, Vi (cv nd i 4))] := hC.append ((RCells.cons (pc9 0 (by decide)) (RCells.cons (pc9 1 (by decide)) (RCells.cons (pc9 2 (by decide)) (RCells.cons (pc9 3 (by decide)) (RCells.cons (pc9 4 (by decide)) (RCells.nil _)))))))
     clear pc9
     refine Y.pv F (X.index rfl (F.ev 29 (.slice (some pd9) n nc)) (F.ev 30 (Vi i)) (X.idx (k := i) Try.underlying22 (Try.siz31 _) (by omega) (by omega) rfl)) ?_;clear F ac;intro ac F
     refine Y.pv F (X.load rfl (F.ev 31 (.pointer (some (pd9.add (i * 5))))) (X.ldN (Try.agg31 _) (Try.siz31 _) (Y.atz (pd9.add (i * 5)) (Y.AtFrom.cons (hC.at 3 rfl) (Y.AtFrom.cons (hC.at 4 rfl) (Y.AtFrom.cons (hC.at 5 rfl) (Y.AtFrom.cons (hC.at 6 rfl) (Y.AtFrom.cons (hC.at 7 rfl) (Y.AtFrom.nil _ _ _))))))))) ?_;clear F ac;intro ac F
     refine Y.pv F (Y.al rfl (Try.new31 _)) ?_;clear F ac;intro ac F
     refine Y.punit F (X.w0 rfl) rfl (X.store rfl (F.ev 4 (Vp w7.heap.size)) (F.ev 32 (.agg #[Vi (cv nd i 0), Vi (cv nd i 1), Vi (cv nd i 2), Vi (cv nd i 3), Vi (cv nd i 4)])) (Y.stNew [Vi (cv nd i 0), Vi (cv nd i 1), Vi (cv nd i 2), Vi (cv nd i 3), Vi (cv nd i 4)] [Vi 0, Vi 0, Vi 0, Vi 0, Vi 0] (Try.siz31 _) rfl rfl)) ?_;clear F ac;intro ac F
     have g := Gr.alloc w7 (.cells #[Vi (cv nd i 0), Vi (cv nd i 1), Vi (cv nd i 2), Vi (cv nd i 3), Vi (cv nd i 4)] 31)
     have hb := heap_alloc_new w7 (.cells #[Vi (cv nd i 0), Vi (cv nd i 1), Vi (cv nd i 2), Vi (cv nd i 3), Vi (cv nd i 4)] 31)
     have hbl : w7.heap.size < (w7.alloc (.cells #[Vi (cv nd i 0), Vi (cv nd i 1), Vi (cv nd i 2), Vi (cv nd i 3), Vi (cv nd i 4)] 31)).heap.size := by simp
     have hC2 : RCells (w7.alloc (.cells #[Vi (cv nd i 0), Vi (cv nd i 1), Vi (cv nd i 2), Vi (cv nd i 3), Vi (cv nd i 4)] 31)) [(Ad w.heap.size 0, Vi gr), (Ad w.heap.size 1, Vi hold), (Ad w.heap.size 2, .slice (some pd9) n nc), (pd9.add (i * 5), Vi (cv nd i 0)), (⟨(pd9.add (i * 5)).block, (pd9.add (i * 5)).off + 1, none⟩, Vi (cv nd i 1)), (⟨(pd9.add (i * 5)).block, (pd9.add (i * 5)).off + 2, none⟩, Vi (cv nd i 2)), (⟨(pd9.add (i * 5)).block, (pd9.add (i * 5)).off + 3, none⟩, Vi (cv nd i 3)), (⟨(pd9.add (i * 5)).block, (pd9.add (i * 5)).off + 4, none⟩, Vi (cv nd i 4)), (Ad w7.heap.size 0, Vi (cv nd i 0)), (Ad w7.heap.size 1, Vi (cv nd i 1)), (Ad w7.heap.size 2, Vi (cv nd i 2)), (Ad w7.heap.size 3, Vi (cv nd i 3)), (Ad w7.heap.size 4, Vi (cv nd i 4))] := hC.box (b := w7.heap.size) #[Vi (cv nd i 0), Vi (cv nd i 1), Vi (cv nd i 2), Vi (cv nd i 3), Vi (cv nd i 4)] 31 rfl
     generalize w7.alloc (.cells #[Vi (cv nd i 0), Vi (cv nd i 1), Vi (cv nd i 2), Vi (cv nd i 3), Vi (cv nd i 4)] 31) = w10 at *
     replace G := G.trans g
     replace hC := hC2
     clear hC2
     replace GB_ := GB_.trans g
     replace hnd := hnd.gr g
     clear g hb hbl
     refine Y.nil ?_
     replace F : Fr ac 68 [(1, Vp w.heap.size), (3, Vi i), (4, Vp w7.heap.size)] := F.sub _
     refine X.thenN ?_
     refine Y.seq ?_
     refine Y.lit (by kernel_rfl) ?_
     refine Y.pv F (X.field rfl (F.ev 4 (Vp w7.heap.size)) (X.fld Try.underlying31 rfl (Try.siz3 _) rfl rfl)) ?_;clear F ac;intro ac F
     refine Y.pv F (X.load rfl (F.ev 33 (Vp w7.heap.size)) (X.ld1 (Try.agg3 _) (hC.at 8 rfl))) ?_;clear F ac;intro ac F
     refine Y.pv F (X.field rfl (F.ev 1 (Vp w.heap.size)) (X.fld Try.underlying24 rfl (Try.siz3 _) rfl rfl)) ?_;clear F ac;intro ac F
     refine Y.pv F (X.load rfl (F.ev 35 (Vp w.heap.size)) (X.ld1 (Try.agg3 _) (hC.at 0 rfl))) ?_;clear F ac;intro ac F
     refine Y.pv F (X.conv rfl (F.ev 36 (Vi gr)) (X.cv54 Try.underlying3 Try.underlying54 (by omega))) ?_;clear F ac;intro ac F
     refine Y.pv F (X.binop rfl (X.kc (Vi 1) rfl) (F.ev 37 (.int .u64 gr)) (X.shlI Try.underlying3 rfl (by omega))) ?_;clear F ac;intro ac F
     refine Y.pv F (X.binop rfl (F.ev 38 (Vi (shlV 1 (gr : Int)))) (X.kc (Vi 1) rfl) (X.subI Try.underlying3 rfl (by omega) (by omega))) ?_;clear F ac;intro ac F
     refine Y.pcall F (X.w0 rfl) rfl (X.enter (F := 42) rfl (X.kc (.func (.func 42) #[] #[]) rfl) (X.a3 (F.ev 34 (Vi (cv nd i 0))) (X.kc (Vi 0) rfl) (F.ev 39 (Vi ((shlV 1 (gr : Int) : Int) - 1)))) (enters_of Try.func42 (by kernel_rfl) rfl _)) (within2_any (cv nd i 0) 0 ((shlV 1 (gr : Int) : Int) - 1) w10) ?_
     clear F ac
     rintro e w' ⟨rfl, hw_⟩
     obtain rfl : w10 = w' := hw_.symm
     clear hw_
     refine ⟨_, rfl, ?_⟩
     intro ac F
     refine Y.pv F (X.notB rfl (F.ev 40 (.bool (withinB (cv nd i 0) 0 ((shlV 1 (gr : Int) : Int) - 1)))) rfl) ?_;clear F ac;intro ac F
     refine Y.pv F (X.move rfl (F.ev 41 (.bool (!(withinB (cv nd i 0) 0 ((shlV 1 (gr : Int) : Int) - 1)))))) ?_;clear F ac;intro ac F
     cases h11 : withinB (cv nd i 0) 0 ((shlV 1 (gr : Int) : Int) - 1) with
     | false =>
      try rw [h11] at F
      refine Y.pskip F (X.w2 rfl (F.yl (j := 9) (d := 42) (b := true) rfl (by kernel_rfl)) rfl) rfl ?_;clear F ac;intro ac F
      refine Y.pskip F (X.w2 rfl (F.yl (j := 9) (d := 42) (b := true) rfl (by kernel_rfl)) rfl) rfl ?_;clear F ac;intro ac F
      refine Y.pskip F (X.w2 rfl (F.yl (j := 9) (d := 42) (b := true) rfl (by kernel_rfl)) rfl) rfl ?_;clear F ac;intro ac F
      refine Y.pskip F (X.w2 rfl (F.yl (j := 9) (d := 42) (b := true) rfl (by kernel_rfl)) rfl) rfl ?_;clear F ac;intro ac F
      refine Y.pv F (X.pickT rfl (F.ev 42 (.bool true)) (X.kc (.bool true) rfl)) ?_;clear F ac;intro ac F
      refine Y.pv F (X.move rfl (F.ev 47 (.bool true))) ?_;clear F ac;intro ac F
      refine Y.pskip F (X.w2 rfl (F.yl (j := 15) (d := 48) (b := true) rfl (by kernel_rfl)) rfl) rfl ?_;clear F ac;intro ac F
      refine Y.pskip F (X.w2 rfl (F.yl (j := 15) (d := 48) (b := true) rfl (by kernel_rfl)) rfl) rfl ?_;clear F ac;intro ac F
      refine Y.pskip F (X.w2 rfl (F.yl (j := 15) (d := 48) (b := true) rfl (by kernel_rfl)) rfl) rfl ?_;clear F ac;intro ac F
      refine Y.pskip F (X.w2 rfl (F.yl (j := 15) (d := 48) (b := true) rfl (by kernel_rfl)) rfl) rfl ?_;clear F ac;intro ac F
      refine Y.pskip F (X.w2 rfl (F.yl (j := 15) (d := 48) (b := true) rfl (by kernel_rfl)) rfl) rfl ?_;clear F ac;intro ac F
      refine Y.pskip F (X.w2 rfl (F.yl (j := 15) (d := 48) (b := true) rfl (by kernel_rfl)) rfl) rfl ?_;clear F ac;intro ac F
      refine Y.pv F (X.pickT rfl (F.ev 48 (.bool true)) (X.kc (.bool true) rfl)) ?_;clear F ac;intro ac F
      refine Y.pv F (X.move rfl (F.ev 55 (.bool true))) ?_;clear F ac;intro ac F
      refine Y.pskip F (X.w2 rfl (F.yl (j := 23) (d := 56) (b := true) rfl (by kernel_rfl)) rfl) rfl ?_;clear F ac;intro ac F
      refine Y.pskip F (X.w2 rfl (F.yl (j := 23) (d := 56) (b := true) rfl (by kernel_rfl)) rfl) rfl ?_;clear F ac;intro ac F
      refine Y.pskip F (X.w2 rfl (F.yl (j := 23) (d := 56) (b := true) rfl (by kernel_rfl)) rfl) rfl ?_;clear F ac;intro ac F
      refine Y.pskip F (X.w2 rfl (F.yl (j := 23) (d := 56) (b := true) rfl (by kernel_rfl)) rfl) rfl ?_;clear F ac;intro ac F
      refine Y.pv F (X.pickT rfl (F.ev 56 (.bool true)) (X.kc (.bool true) rfl)) ?_;clear F ac;intro ac F
      refine Y.pv F (X.move rfl (F.ev 61 (.bool true))) ?_;clear F ac;intro ac F
      refine Y.pskip F (X.w2 rfl (F.yl (j := 29) (d := 62) (b := true) rfl (by kernel_rfl)) rfl) rfl ?_;clear F ac;intro ac F
      refine Y.pskip F (X.w2 rfl (F.yl (j := 29) (d := 62) (b := true) rfl (by kernel_rfl)) rfl) rfl ?_;clear F ac;intro ac F
      refine Y.pskip F (X.w2 rfl (F.yl (j := 29) (d := 62) (b := true) rfl (by kernel_rfl)) rfl) rfl ?_;clear F ac;intro ac F
      refine Y.pskip F (X.w2 rfl (F.yl (j := 29) (d := 62) (b := true) rfl (by kernel_rfl)) rfl) rfl ?_;clear F ac;intro ac F
      refine Y.pv F (X.pickT rfl (F.ev 62 (.bool true)) (X.kc (.bool true) rfl)) ?_;clear F ac;intro ac F
      refine Y.nil ?_
      replace F : Fr ac 68 [(1, Vp w.heap.size), (3, Vi i), (67, .bool true)] := F.sub _
      refine X.thenN ?_
      refine Y.condT (F.ev 67 (.bool true)) ?_
      refine Y.seq ?_
      refine Y.lit (by kernel_rfl) ?_
      refine Y.pv F (X.assign rfl (X.kc (Vi 90) rfl)) ?_;clear F ac;intro ac F
      refine Y.nil ?_
      replace F : Fr ac 68 [(2, Vi 90)] := F.sub _
      refine X.thenN ?_
      refine Y.ret ?_
      refine X.blockR ?_
      refine X.thenR ?_
      refine X.thenR ?_
      refine X.blockR ?_
      refine X.thenR ?_
      exact Y.ret0 (v := Vi 90) F (Y.rs1 F rfl (by kernel_rfl)) ⟨by rw [(cluE_node hlen (i := i) (by omega) (by simp [nodeB, h11, h4, h5, h6, h8]))], G⟩
     | true =>
      try rw [h11] at F
      refine Y.pval F (X.w1 rfl (F.yl (j := 9) (d := 42) (b := false) rfl (by kernel_rfl))) rfl (X.field rfl (F.ev 4 (Vp w7.heap.size)) (X.fld Try.underlying31 rfl (Try.siz3 _) rfl rfl)) ?_;clear F ac;intro ac F
      refine Y.pval F (X.w1 rfl (F.yl (j := 9) (d := 42) (b := false) rfl (by kernel_rfl))) rfl (X.load rfl (F.ev 43 (.pointer (some ⟨w7.heap.size, 1, none⟩))) (X.ld1 (Try.agg3 _) (hC.at 9 rfl))) ?_;clear F ac;intro ac F
      refine Y.pcall F (X.w1 rfl (F.yl (j := 9) (d := 42) (b := false) rfl (by kernel_rfl))) rfl (X.enter (F := 42) rfl (X.kc (.func (.func 42) #[] #[]) rfl) (X.a3 (F.ev 44 (Vi (cv nd i 1))) (X.kc (Vi 0) rfl) (X.kc (Vi 10000) rfl)) (enters_of Try.func42 (by kernel_rfl) rfl _)) (within2_any (cv nd i 1) 0 10000 w10) ?_
      clear F ac
      rintro e w' ⟨rfl, hw_⟩
      obtain rfl : w10 = w' := hw_.symm
      clear hw_
      refine ⟨_, rfl, ?_⟩
      intro ac F
      refine Y.pval F (X.w1 rfl (F.yl (j := 9) (d := 42) (b := false) rfl (by kernel_rfl))) rfl (X.notB rfl (F.ev 45 (.bool (withinB (cv nd i 1) 0 10000))) rfl) ?_;clear F ac;intro ac F
      refine Y.pv F (X.pickF rfl (F.ev 42 (.bool false)) (F.ev 46 (.bool (!(withinB (cv nd i 1) 0 10000))))) ?_;clear F ac;intro ac F
      refine Y.pv F (X.move rfl (F.ev 47 (.bool (!(withinB (cv nd i 1) 0 10000))))) ?_;clear F ac;intro ac F
      cases h12 : withinB (cv nd i 1) 0 10000 with
      | false =>
       try rw [h12] at F
       refine Y.pskip F (X.w2 rfl (F.yl (j := 15) (d := 48) (b := true) rfl (by kernel_rfl)) rfl) rfl ?_;clear F ac;intro ac F
       refine Y.pskip F (X.w2 rfl (F.yl (j := 15) (d := 48) (b := true) rfl (by kernel_rfl)) rfl) rfl ?_;clear F ac;intro ac F
       refine Y.pskip F (X.w2 rfl (F.yl (j := 15) (d := 48) (b := true) rfl (by kernel_rfl)) rfl) rfl ?_;clear F ac;intro ac F
       refine Y.pskip F (X.w2 rfl (F.yl (j := 15) (d := 48) (b := true) rfl (by kernel_rfl)) rfl) rfl ?_;clear F ac;intro ac F
       refine Y.pskip F (X.w2 rfl (F.yl (j := 15) (d := 48) (b := true) rfl (by kernel_rfl)) rfl) rfl ?_;clear F ac;intro ac F
       refine Y.pskip F (X.w2 rfl (F.yl (j := 15) (d := 48) (b := true) rfl (by kernel_rfl)) rfl) rfl ?_;clear F ac;intro ac F
       refine Y.pv F (X.pickT rfl (F.ev 48 (.bool true)) (X.kc (.bool true) rfl)) ?_;clear F ac;intro ac F
       refine Y.pv F (X.move rfl (F.ev 55 (.bool true))) ?_;clear F ac;intro ac F
       refine Y.pskip F (X.w2 rfl (F.yl (j := 23) (d := 56) (b := true) rfl (by kernel_rfl)) rfl) rfl ?_;clear F ac;intro ac F
       refine Y.pskip F (X.w2 rfl (F.yl (j := 23) (d := 56) (b := true) rfl (by kernel_rfl)) rfl) rfl ?_;clear F ac;intro ac F
       refine Y.pskip F (X.w2 rfl (F.yl (j := 23) (d := 56) (b := true) rfl (by kernel_rfl)) rfl) rfl ?_;clear F ac;intro ac F
       refine Y.pskip F (X.w2 rfl (F.yl (j := 23) (d := 56) (b := true) rfl (by kernel_rfl)) rfl) rfl ?_;clear F ac;intro ac F
       refine Y.pv F (X.pickT rfl (F.ev 56 (.bool true)) (X.kc (.bool true) rfl)) ?_;clear F ac;intro ac F
       refine Y.pv F (X.move rfl (F.ev 61 (.bool true))) ?_;clear F ac;intro ac F
       refine Y.pskip F (X.w2 rfl (F.yl (j := 29) (d := 62) (b := true) rfl (by kernel_rfl)) rfl) rfl ?_;clear F ac;intro ac F
       refine Y.pskip F (X.w2 rfl (F.yl (j := 29) (d := 62) (b := true) rfl (by kernel_rfl)) rfl) rfl ?_;clear F ac;intro ac F
       refine Y.pskip F (X.w2 rfl (F.yl (j := 29) (d := 62) (b := true) rfl (by kernel_rfl)) rfl) rfl ?_;clear F ac;intro ac F
       refine Y.pskip F (X.w2 rfl (F.yl (j := 29) (d := 62) (b := true) rfl (by kernel_rfl)) rfl) rfl ?_;clear F ac;intro ac F
       refine Y.pv F (X.pickT rfl (F.ev 62 (.bool true)) (X.kc (.bool true) rfl)) ?_;clear F ac;intro ac F
       refine Y.nil ?_
       replace F : Fr ac 68 [(1, Vp w.heap.size), (3, Vi i), (67, .bool true)] := F.sub _
       refine X.thenN ?_
       refine Y.condT (F.ev 67 (.bool true)) ?_
       refine Y.seq ?_
       refine Y.lit (by kernel_rfl) ?_
       refine Y.pv F (X.assign rfl (X.kc (Vi 90) rfl)) ?_;clear F ac;intro ac F
       refine Y.nil ?_
       replace F : Fr ac 68 [(2, Vi 90)] := F.sub _
       refine X.thenN ?_
       refine Y.ret ?_
       refine X.blockR ?_
       refine X.thenR ?_
       refine X.thenR ?_
       refine X.blockR ?_
       refine X.thenR ?_
       exact Y.ret0 (v := Vi 90) F (Y.rs1 F rfl (by kernel_rfl)) ⟨by rw [(cluE_node hlen (i := i) (by omega) (by simp [nodeB, h11, h12, h4, h5, h6, h8]))], G⟩
      | true =>
       try rw [h12] at F
       have ha1 := withinB_ok h12
       refine Y.pval F (X.w1 rfl (F.yl (j := 15) (d := 48) (b := false) rfl (by kernel_rfl))) rfl (X.field rfl (F.ev 4 (Vp w7.heap.size)) (X.fld Try.underlying31 rfl (Try.siz3 _) rfl rfl)) ?_;clear F ac;intro ac F
       refine Y.pval F (X.w1 rfl (F.yl (j := 15) (d := 48) (b := false) rfl (by kernel_rfl))) rfl (X.load rfl (F.ev 49 (.pointer (some ⟨w7.heap.size, 2, none⟩))) (X.ld1 (Try.agg3 _) (hC.at 10 rfl))) ?_;clear F ac;intro ac F
       refine Y.pval F (X.w1 rfl (F.yl (j := 15) (d := 48) (b := false) rfl (by kernel_rfl))) rfl (X.field rfl (F.ev 4 (Vp w7.heap.size)) (X.fld Try.underlying31 rfl (Try.siz3 _) rfl rfl)) ?_;clear F ac;intro ac F
       refine Y.pval F (X.w1 rfl (F.yl (j := 15) (d := 48) (b := false) rfl (by kernel_rfl))) rfl (X.load rfl (F.ev 51 (.pointer (some ⟨w7.heap.size, 1, none⟩))) (X.ld1 (Try.agg3 _) (hC.at 9 rfl))) ?_;clear F ac;intro ac F
       refine Y.pcall F (X.w1 rfl (F.yl (j := 15) (d := 48) (b := false) rfl (by kernel_rfl))) rfl (X.enter (F := 42) rfl (X.kc (.func (.func 42) #[] #[]) rfl) (X.a3 (F.ev 50 (Vi (cv nd i 2))) (X.kc (Vi 0) rfl) (F.ev 52 (Vi (cv nd i 1)))) (enters_of Try.func42 (by kernel_rfl) rfl _)) (within2_any (cv nd i 2) 0 (cv nd i 1) w10) ?_
       clear F ac
       rintro e w' ⟨rfl, hw_⟩
       obtain rfl : w10 = w' := hw_.symm
       clear hw_
       refine ⟨_, rfl, ?_⟩
       intro ac F
       refine Y.pval F (X.w1 rfl (F.yl (j := 15) (d := 48) (b := false) rfl (by kernel_rfl))) rfl (X.notB rfl (F.ev 53 (.bool (withinB (cv nd i 2) 0 (cv nd i 1)))) rfl) ?_;clear F ac;intro ac F
       refine Y.pv F (X.pickF rfl (F.ev 48 (.bool false)) (F.ev 54 (.bool (!(withinB (cv nd i 2) 0 (cv nd i 1)))))) ?_;clear F ac;intro ac F
       refine Y.pv F (X.move rfl (F.ev 55 (.bool (!(withinB (cv nd i 2) 0 (cv nd i 1)))))) ?_;clear F ac;intro ac F
       cases h13 : withinB (cv nd i 2) 0 (cv nd i 1) with
       | false =>
        try rw [h13] at F
        refine Y.pskip F (X.w2 rfl (F.yl (j := 23) (d := 56) (b := true) rfl (by kernel_rfl)) rfl) rfl ?_;clear F ac;intro ac F
        refine Y.pskip F (X.w2 rfl (F.yl (j := 23) (d := 56) (b := true) rfl (by kernel_rfl)) rfl) rfl ?_;clear F ac;intro ac F
        refine Y.pskip F (X.w2 rfl (F.yl (j := 23) (d := 56) (b := true) rfl (by kernel_rfl)) rfl) rfl ?_;clear F ac;intro ac F
        refine Y.pskip F (X.w2 rfl (F.yl (j := 23) (d := 56) (b := true) rfl (by kernel_rfl)) rfl) rfl ?_;clear F ac;intro ac F
        refine Y.pv F (X.pickT rfl (F.ev 56 (.bool true)) (X.kc (.bool true) rfl)) ?_;clear F ac;intro ac F
        refine Y.pv F (X.move rfl (F.ev 61 (.bool true))) ?_;clear F ac;intro ac F
        refine Y.pskip F (X.w2 rfl (F.yl (j := 29) (d := 62) (b := true) rfl (by kernel_rfl)) rfl) rfl ?_;clear F ac;intro ac F
        refine Y.pskip F (X.w2 rfl (F.yl (j := 29) (d := 62) (b := true) rfl (by kernel_rfl)) rfl) rfl ?_;clear F ac;intro ac F
        refine Y.pskip F (X.w2 rfl (F.yl (j := 29) (d := 62) (b := true) rfl (by kernel_rfl)) rfl) rfl ?_;clear F ac;intro ac F
        refine Y.pskip F (X.w2 rfl (F.yl (j := 29) (d := 62) (b := true) rfl (by kernel_rfl)) rfl) rfl ?_;clear F ac;intro ac F
        refine Y.pv F (X.pickT rfl (F.ev 62 (.bool true)) (X.kc (.bool true) rfl)) ?_;clear F ac;intro ac F
        refine Y.nil ?_
        replace F : Fr ac 68 [(1, Vp w.heap.size), (3, Vi i), (67, .bool true)] := F.sub _
        refine X.thenN ?_
        refine Y.condT (F.ev 67 (.bool true)) ?_
        refine Y.seq ?_
        refine Y.lit (by kernel_rfl) ?_
        refine Y.pv F (X.assign rfl (X.kc (Vi 90) rfl)) ?_;clear F ac;intro ac F
        refine Y.nil ?_
        replace F : Fr ac 68 [(2, Vi 90)] := F.sub _
        refine X.thenN ?_
        refine Y.ret ?_
        refine X.blockR ?_
        refine X.thenR ?_
        refine X.thenR ?_
        refine X.blockR ?_
        refine X.thenR ?_
        exact Y.ret0 (v := Vi 90) F (Y.rs1 F rfl (by kernel_rfl)) ⟨by rw [(cluE_node hlen (i := i) (by omega) (by simp [nodeB, h11, h12, h13, h4, h5, h6, h8]))], G⟩
       | true =>
        try rw [h13] at F
        refine Y.pval F (X.w1 rfl (F.yl (j := 23) (d := 56) (b := false) rfl (by kernel_rfl))) rfl (X.field rfl (F.ev 4 (Vp w7.heap.size)) (X.fld Try.underlying31 rfl (Try.siz3 _) rfl rfl)) ?_;clear F ac;intro ac F
        refine Y.pval F (X.w1 rfl (F.yl (j := 23) (d := 56) (b := false) rfl (by kernel_rfl))) rfl (X.load rfl (F.ev 57 (.pointer (some ⟨w7.heap.size, 3, none⟩))) (X.ld1 (Try.agg3 _) (hC.at 11 rfl))) ?_;clear F ac;intro ac F
        refine Y.pcall F (X.w1 rfl (F.yl (j := 23) (d := 56) (b := false) rfl (by kernel_rfl))) rfl (X.enter (F := 42) rfl (X.kc (.func (.func 42) #[] #[]) rfl) (X.a3 (F.ev 58 (Vi (cv nd i 3))) (X.kc (Vi 0) rfl) (X.kc (Vi 20) rfl)) (enters_of Try.func42 (by kernel_rfl) rfl _)) (within2_any (cv nd i 3) 0 20 w10) ?_
        clear F ac
        rintro e w' ⟨rfl, hw_⟩
        obtain rfl : w10 = w' := hw_.symm
        clear hw_
        refine ⟨_, rfl, ?_⟩
        intro ac F
        refine Y.pval F (X.w1 rfl (F.yl (j := 23) (d := 56) (b := false) rfl (by kernel_rfl))) rfl (X.notB rfl (F.ev 59 (.bool (withinB (cv nd i 3) 0 20))) rfl) ?_;clear F ac;intro ac F
        refine Y.pv F (X.pickF rfl (F.ev 56 (.bool false)) (F.ev 60 (.bool (!(withinB (cv nd i 3) 0 20))))) ?_;clear F ac;intro ac F
        refine Y.pv F (X.move rfl (F.ev 61 (.bool (!(withinB (cv nd i 3) 0 20))))) ?_;clear F ac;intro ac F
        cases h14 : withinB (cv nd i 3) 0 20 with
        | false =>
         try rw [h14] at F
         refine Y.pskip F (X.w2 rfl (F.yl (j := 29) (d := 62) (b := true) rfl (by kernel_rfl)) rfl) rfl ?_;clear F ac;intro ac F
         refine Y.pskip F (X.w2 rfl (F.yl (j := 29) (d := 62) (b := true) rfl (by kernel_rfl)) rfl) rfl ?_;clear F ac;intro ac F
         refine Y.pskip F (X.w2 rfl (F.yl (j := 29) (d := 62) (b := true) rfl (by kernel_rfl)) rfl) rfl ?_;clear F ac;intro ac F
         refine Y.pskip F (X.w2 rfl (F.yl (j := 29) (d := 62) (b := true) rfl (by kernel_rfl)) rfl) rfl ?_;clear F ac;intro ac F
         refine Y.pv F (X.pickT rfl (F.ev 62 (.bool true)) (X.kc (.bool true) rfl)) ?_;clear F ac;intro ac F
         refine Y.nil ?_
         replace F : Fr ac 68 [(1, Vp w.heap.size), (3, Vi i), (67, .bool true)] := F.sub _
         refine X.thenN ?_
         refine Y.condT (F.ev 67 (.bool true)) ?_
         refine Y.seq ?_
         refine Y.lit (by kernel_rfl) ?_
         refine Y.pv F (X.assign rfl (X.kc (Vi 90) rfl)) ?_;clear F ac;intro ac F
         refine Y.nil ?_
         replace F : Fr ac 68 [(2, Vi 90)] := F.sub _
         refine X.thenN ?_
         refine Y.ret ?_
         refine X.blockR ?_
         refine X.thenR ?_
         refine X.thenR ?_
         refine X.blockR ?_
         refine X.thenR ?_
         exact Y.ret0 (v := Vi 90) F (Y.rs1 F rfl (by kernel_rfl)) ⟨by rw [(cluE_node hlen (i := i) (by omega) (by simp [nodeB, h11, h12, h13, h14, h4, h5, h6, h8]))], G⟩
        | true =>
         try rw [h14] at F
         refine Y.pval F (X.w1 rfl (F.yl (j := 29) (d := 62) (b := false) rfl (by kernel_rfl))) rfl (X.field rfl (F.ev 4 (Vp w7.heap.size)) (X.fld Try.underlying31 rfl (Try.siz3 _) rfl rfl)) ?_;clear F ac;intro ac F
         refine Y.pval F (X.w1 rfl (F.yl (j := 29) (d := 62) (b := false) rfl (by kernel_rfl))) rfl (X.load rfl (F.ev 63 (.pointer (some ⟨w7.heap.size, 4, none⟩))) (X.ld1 (Try.agg3 _) (hC.at 12 rfl))) ?_;clear F ac;intro ac F
         refine Y.pcall F (X.w1 rfl (F.yl (j := 29) (d := 62) (b := false) rfl (by kernel_rfl))) rfl (X.enter (F := 42) rfl (X.kc (.func (.func 42) #[] #[]) rfl) (X.a3 (F.ev 64 (Vi (cv nd i 4))) (X.kc (Vi 1) rfl) (X.kc (Vi 1000) rfl)) (enters_of Try.func42 (by kernel_rfl) rfl _)) (within2_any (cv nd i 4) 1 1000 w10) ?_
         clear F ac
         rintro e w' ⟨rfl, hw_⟩
         obtain rfl : w10 = w' := hw_.symm
         clear hw_
         refine ⟨_, rfl, ?_⟩
         intro ac F
         refine Y.pval F (X.w1 rfl (F.yl (j := 29) (d := 62) (b := false) rfl (by kernel_rfl))) rfl (X.notB rfl (F.ev 65 (.bool (withinB (cv nd i 4) 1 1000))) rfl) ?_;clear F ac;intro ac F
         refine Y.pv F (X.pickF rfl (F.ev 62 (.bool false)) (F.ev 66 (.bool (!(withinB (cv nd i 4) 1 1000))))) ?_;clear F ac;intro ac F
         refine Y.nil ?_
         replace F : Fr ac 68 [(1, Vp w.heap.size), (3, Vi i), (67, .bool (!(withinB (cv nd i 4) 1 1000)))] := F.sub _
         refine X.thenN ?_
         cases h15 : withinB (cv nd i 4) 1 1000 with
         | false =>
          try rw [h15] at F
          refine Y.condT (F.ev 67 (.bool true)) ?_
          refine Y.seq ?_
          refine Y.lit (by kernel_rfl) ?_
          refine Y.pv F (X.assign rfl (X.kc (Vi 90) rfl)) ?_;clear F ac;intro ac F
          refine Y.nil ?_
          replace F : Fr ac 68 [(2, Vi 90)] := F.sub _
          refine X.thenN ?_
          refine Y.ret ?_
          refine X.blockR ?_
          refine X.thenR ?_
          refine X.thenR ?_
          refine X.blockR ?_
          refine X.thenR ?_
          exact Y.ret0 (v := Vi 90) F (Y.rs1 F rfl (by kernel_rfl)) ⟨by rw [(cluE_node hlen (i := i) (by omega) (by simp [nodeB, h11, h12, h13, h14, h15, h4, h5, h6, h8]))], G⟩
         | true =>
          try rw [h15] at F
          refine Y.condF (F.ev 67 (.bool false)) ?_
          refine Y.skip ?_
          refine X.blockN ?_
          refine X.thenN ?_
          refine Y.lit (by kernel_rfl) ?_
          refine Y.pv F (X.move rfl (F.ev 3 (Vi i))) ?_;clear F ac;intro ac F
          refine Y.pv F (X.binop rfl (F.ev 26 (Vi i)) (X.kc (Vi 1) rfl) (X.addI Try.underlying3 rfl (by omega) (by omega))) ?_;clear F ac;intro ac F
          refine Y.pv F (X.assign rfl (F.ev 27 (Vi ((i : Int) + 1)))) ?_;clear F ac;intro ac F
          refine Y.nil ?_
          replace F : Fr ac 68 [(1, Vp w.heap.size), (3, Vi ((i : Int) + 1))] := F.sub _
          refine X.thenN ?_
          refine ⟨_, ?_, i + 1, rfl, GB_, by omega, by simp [allN, hok, nodeB, h11, h12, h13, h14, h15], F.sub _⟩
          omega
   | true =>
    try rw [h6] at F
    have h6p : ((16 : Int) < n) := of_decide_eq_true h6
    refine Y.condT (F.ev 20 (.bool true)) ?_
    refine Y.seq ?_
    refine Y.lit (by kernel_rfl) ?_
    refine Y.pv F (X.assign rfl (X.kc (Vi 90) rfl)) ?_;clear F ac;intro ac F
    refine Y.nil ?_
    replace F : Fr ac 68 [(2, Vi 90)] := F.sub _
    refine X.thenN ?_
    refine Y.ret ?_
    refine X.thenR ?_
    exact Y.ret0 (v := Vi 90) F (Y.rs1 F rfl (by kernel_rfl)) ⟨by rw [(cluE_bad hlen (by simp [cluB, h4, h5, h6] <;> omega))], G⟩
end Go.Proofs.Ytoalamakhjbedaa
