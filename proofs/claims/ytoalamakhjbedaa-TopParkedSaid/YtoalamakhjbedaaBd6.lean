/- Several texts of this claim in one file. (1) Contracts: Check, the program's and the reference's. (2) Contracts: the errors of ticks; a nudge that is right. -/
import Derived.Test.YtoalamakhjbedaaBd2
namespace Go.Proofs.Ytoalamakhjbedaa
set_option linter.unusedSimpArgs false
set_option linter.unusedVariables false
section
open Go.RowKit

set_option maxRecDepth 100000 in
set_option maxHeartbeats 1000000 in
theorem check_any (na : Option Addr) (n nc : Nat) (gr hold : Int) (nd : List (List Int)) (w : World) (hnd : StAt w 5 na n nd) :
  Calls Try.prog 25 #[.agg #[Vi gr, Vi hold, .slice na n nc]] w fun e w' => e = .returned (Vi (cluE gr hold nd)) ∧ Gr w w' := by
 have G := Gr.refl w
 have hlen := hnd.len
 have hlt := hnd.lt
 refine Y.calls 63 Try.func25 rfl rfl ?_
 intro ac F0
 have F : Fr ac 63 [(0, .agg #[Vi gr, Vi hold, .slice na n nc])] := F0.sub _
 clear F0
 refine Y.seq ?_
 refine Y.lit (by kernel_rfl) ?_
 refine Y.pv F (X.box rfl (F.ev 0 (.agg #[Vi gr, Vi hold, .slice na n nc])) X.bx) ?_;clear F ac;intro ac F
 have g := Gr.alloc w (.cells #[Vi gr, Vi hold, .slice na n nc] 24)
 have hb := heap_alloc_new w (.cells #[Vi gr, Vi hold, .slice na n nc] 24)
 have hbl : w.heap.size < (w.alloc (.cells #[Vi gr, Vi hold, .slice na n nc] 24)).heap.size := by simp
 have hC2 : RCells (w.alloc (.cells #[Vi gr, Vi hold, .slice na n nc] 24)) [(Ad w.heap.size 0, Vi gr), (Ad w.heap.size 1, Vi hold), (Ad w.heap.size 2, .slice na n nc)] := (RCells.nil w).box (b := w.heap.size) #[Vi gr, Vi hold, .slice na n nc] 24 rfl
 generalize w.alloc (.cells #[Vi gr, Vi hold, .slice na n nc] 24) = w3 at *
 replace G := G.trans g
 have hC := hC2
 clear hC2
 replace hnd := hnd.gr g
 clear g hb hbl
 refine Y.pv F (X.assign rfl (X.kc (Vi 0) rfl)) ?_;clear F ac;intro ac F
 refine Y.nil ?_
 replace F : Fr ac 63 [(1, Vp w.heap.size)] := F.sub _
 refine X.thenN ?_
 refine Y.seq ?_
 refine Y.seq ?_
 refine Y.lit (by kernel_rfl) ?_
 refine Y.pv F (X.field rfl (F.ev 1 (Vp w.heap.size)) (X.fld Try.underlying24 rfl (Try.siz3 _) rfl rfl)) ?_;clear F ac;intro ac F
 refine Y.pv F (X.load rfl (F.ev 5 (Vp w.heap.size)) (X.ld1 (Try.agg3 _) (hC.at 0 rfl))) ?_;clear F ac;intro ac F
 refine Y.pcall F (X.w0 rfl) rfl (X.enter (F := 54) rfl (X.kc (.func (.func 54) #[] #[]) rfl) (X.a3 (F.ev 6 (Vi gr)) (X.kc (Vi 1) rfl) (X.kc (Vi 8) rfl)) (enters_of Try.func54 (by kernel_rfl) rfl _)) (within_any gr 1 8 w3) ?_
 clear F ac
 rintro e w' ⟨rfl, hw_⟩
 obtain rfl : w3 = w' := hw_.symm
 clear hw_
 refine ⟨_, rfl, ?_⟩
 intro ac F
 refine Y.pv F (X.notB rfl (F.ev 7 (.bool (withinB gr 1 8))) rfl) ?_;clear F ac;intro ac F
 refine Y.pv F (X.move rfl (F.ev 8 (.bool (!(withinB gr 1 8))))) ?_;clear F ac;intro ac F
 cases h4 : withinB gr 1 8 with
 | false =>
  try rw [h4] at F
  refine Y.pskip F (X.w2 rfl (F.yl (j := 4) (d := 9) (b := true) rfl (by kernel_rfl)) rfl) rfl ?_;clear F ac;intro ac F
  refine Y.pskip F (X.w2 rfl (F.yl (j := 4) (d := 9) (b := true) rfl (by kernel_rfl)) rfl) rfl ?_;clear F ac;intro ac F
  refine Y.pskip F (X.w2 rfl (F.yl (j := 4) (d := 9) (b := true) rfl (by kernel_rfl)) rfl) rfl ?_;clear F ac;intro ac F
  refine Y.pskip F (X.w2 rfl (F.yl (j := 4) (d := 9) (b := true) rfl (by kernel_rfl)) rfl) rfl ?_;clear F ac;intro ac F
  refine Y.pv F (X.pickT rfl (F.ev 9 (.bool true)) (X.kc (.bool true) rfl)) ?_;clear F ac;intro ac F
  refine Y.pv F (X.move rfl (F.ev 14 (.bool true))) ?_;clear F ac;intro ac F
  refine Y.pskip F (X.w2 rfl (F.yl (j := 10) (d := 15) (b := true) rfl (by kernel_rfl)) rfl) rfl ?_;clear F ac;intro ac F
  refine Y.pskip F (X.w2 rfl (F.yl (j := 10) (d := 15) (b := true) rfl (by kernel_rfl)) rfl) rfl ?_;clear F ac;intro ac F
  refine Y.pskip F (X.w2 rfl (F.yl (j := 10) (d := 15) (b := true) rfl (by kernel_rfl)) rfl) rfl ?_;clear F ac;intro ac F
  refine Y.pskip F (X.w2 rfl (F.yl (j := 10) (d := 15) (b := true) rfl (by kernel_rfl)) rfl) rfl ?_;clear F ac;intro ac F
  refine Y.pv F (X.pickT rfl (F.ev 15 (.bool true)) (X.kc (.bool true) rfl)) ?_;clear F ac;intro ac F
  refine Y.nil ?_
  replace F : Fr ac 63 [(1, Vp w.heap.size), (20, .bool true)] := F.sub _
  refine X.thenN ?_
  refine Y.condT (F.ev 20 (.bool true)) ?_
  refine Y.seq ?_
  refine Y.lit (by kernel_rfl) ?_
  refine Y.pv F (X.assign rfl (X.kc (Vi 90) rfl)) ?_;clear F ac;intro ac F
  refine Y.nil ?_
  replace F : Fr ac 63 [(2, Vi 90)] := F.sub _
  refine X.thenN ?_
  refine Y.ret ?_
  refine X.thenR ?_
  exact Y.ret0 (v := Vi 90) F (Y.rs1 F rfl (by kernel_rfl)) ⟨by rw [(cluE_bad hlen (by simp [cluB, h4] <;> omega))], G⟩
 | true =>
  try rw [h4] at F
  have hgr := withinB_ok h4
  have hsh := shl_bd (g := gr) (by omega) (by omega)
  refine Y.pval F (X.w1 rfl (F.yl (j := 4) (d := 9) (b := false) rfl (by kernel_rfl))) rfl (X.field rfl (F.ev 1 (Vp w.heap.size)) (X.fld Try.underlying24 rfl (Try.siz3 _) rfl rfl)) ?_;clear F ac;intro ac F
  refine Y.pval F (X.w1 rfl (F.yl (j := 4) (d := 9) (b := false) rfl (by kernel_rfl))) rfl (X.load rfl (F.ev 10 (.pointer (some ⟨w.heap.size, 1, none⟩))) (X.ld1 (Try.agg3 _) (hC.at 1 rfl))) ?_;clear F ac;intro ac F
  refine Y.pcall F (X.w1 rfl (F.yl (j := 4) (d := 9) (b := false) rfl (by kernel_rfl))) rfl (X.enter (F := 54) rfl (X.kc (.func (.func 54) #[] #[]) rfl) (X.a3 (F.ev 11 (Vi hold)) (X.kc (Vi 1) rfl) (X.kc (Vi 100) rfl)) (enters_of Try.func54 (by kernel_rfl) rfl _)) (within_any hold 1 100 w3) ?_
  clear F ac
  rintro e w' ⟨rfl, hw_⟩
  obtain rfl : w3 = w' := hw_.symm
  clear hw_
  refine ⟨_, rfl, ?_⟩
  intro ac F
  refine Y.pval F (X.w1 rfl (F.yl (j := 4) (d := 9) (b := false) rfl (by kernel_rfl))) rfl (X.notB rfl (F.ev 12 (.bool (withinB hold 1 100))) rfl) ?_;clear F ac;intro ac F
  refine Y.pv F (X.pickF rfl (F.ev 9 (.bool false)) (F.ev 13 (.bool (!(withinB hold 1 100))))) ?_;clear F ac;intro ac F
  refine Y.pv F (X.move rfl (F.ev 14 (.bool (!(withinB hold 1 100))))) ?_;clear F ac;intro ac F
  cases h5 : withinB hold 1 100 with
  | false =>
   try rw [h5] at F
   refine Y.pskip F (X.w2 rfl (F.yl (j := 10) (d := 15) (b := true) rfl (by kernel_rfl)) rfl) rfl ?_;clear F ac;intro ac F
   refine Y.pskip F (X.w2 rfl (F.yl (j := 10) (d := 15) (b := true) rfl (by kernel_rfl)) rfl) rfl ?_;clear F ac;intro ac F
   refine Y.pskip F (X.w2 rfl (F.yl (j := 10) (d := 15) (b := true) rfl (by kernel_rfl)) rfl) rfl ?_;clear F ac;intro ac F
   refine Y.pskip F (X.w2 rfl (F.yl (j := 10) (d := 15) (b := true) rfl (by kernel_rfl)) rfl) rfl ?_;clear F ac;intro ac F
   refine Y.pv F (X.pickT rfl (F.ev 15 (.bool true)) (X.kc (.bool true) rfl)) ?_;clear F ac;intro ac F
   refine Y.nil ?_
   replace F : Fr ac 63 [(1, Vp w.heap.size), (20, .bool true)] := F.sub _
   refine X.thenN ?_
   refine Y.condT (F.ev 20 (.bool true)) ?_
   refine Y.seq ?_
   refine Y.lit (by kernel_rfl) ?_
   refine Y.pv F (X.assign rfl (X.kc (Vi 90) rfl)) ?_;clear F ac;intro ac F
   refine Y.nil ?_
   replace F : Fr ac 63 [(2, Vi 90)] := F.sub _
   refine X.thenN ?_
   refine Y.ret ?_
   refine X.thenR ?_
   exact Y.ret0 (v := Vi 90) F (Y.rs1 F rfl (by kernel_rfl)) ⟨by rw [(cluE_bad hlen (by simp [cluB, h4, h5] <;> omega))], G⟩
  | true =>
   try rw [h5] at F
   refine Y.pval F (X.w1 rfl (F.yl (j := 10) (d := 15) (b := false) rfl (by kernel_rfl))) rfl (X.field rfl (F.ev 1 (Vp w.heap.size)) (X.fld Try.underlying24 rfl (Try.siz22 _) rfl rfl)) ?_;clear F ac;intro ac F
   refine Y.pval F (X.w1 rfl (F.yl (j := 10) (d := 15) (b := false) rfl (by kernel_rfl))) rfl (X.load rfl (F.ev 16 (.pointer (some ⟨w.heap.size, 2, none⟩))) (X.ld1 (Try.agg22 _) (hC.at 2 rfl))) ?_;clear F ac;intro ac F
   refine Y.pval F (X.w1 rfl (F.yl (j := 10) (d := 15) (b := false) rfl (by kernel_rfl))) rfl (X.len1 Try.underlying22 rfl (F.ev 17 (.slice na n nc))) ?_;clear F ac;intro ac F
   refine Y.pval F (X.w1 rfl (F.yl (j := 10) (d := 15) (b := false) rfl (by kernel_rfl))) rfl (X.binop rfl (F.ev 18 (Vi n)) (X.kc (Vi 16) rfl) (X.gtrI Try.underlying3 rfl)) ?_;clear F ac;intro ac F
   refine Y.pv F (X.pickF rfl (F.ev 15 (.bool false)) (F.ev 19 (.bool (decide ((16 : Int) < n))))) ?_;clear F ac;intro ac F
   refine Y.nil ?_
   replace F : Fr ac 63 [(1, Vp w.heap.size), (20, .bool (decide ((16 : Int) < n)))] := F.sub _
   refine X.thenN ?_
   cases h6 : decide ((16 : Int) < n) with
   | false =>
    try rw [h6] at F
    have h6p : ¬ ((16 : Int) < n) := of_decide_eq_false h6
    refine Y.condF (F.ev 20 (.bool false)) ?_
    refine Y.skip ?_
    refine X.thenN ?_
    refine Y.seq ?_
    refine Y.seq ?_
    refine Y.lit (by kernel_rfl) ?_
    refine Y.pv F (X.field rfl (F.ev 1 (Vp w.heap.size)) (X.fld Try.underlying24 rfl (Try.siz22 _) rfl rfl)) ?_;clear F ac;intro ac F
    refine Y.pv F (X.load rfl (F.ev 21 (.pointer (some ⟨w.heap.size, 2, none⟩))) (X.ld1 (Try.agg22 _) (hC.at 2 rfl))) ?_;clear F ac;intro ac F
    refine Y.pv F (X.len1 Try.underlying22 rfl (F.ev 22 (.slice na n nc))) ?_;clear F ac;intro ac F
    refine Y.pv F (X.move rfl (X.kc (Vi 0) rfl)) ?_;clear F ac;intro ac F
    refine Y.nil ?_
    replace F : Fr ac 63 [(1, Vp w.heap.size), (22, .slice na n nc), (23, Vi n), (24, Vi 0)] := F.sub _
    refine X.thenN ?_
    refine Y.block ?_
    have hndB := hnd
    have hCB := hC
    have GB := G
    refine Y.loop (fun me_ ac wr => ∃ (i : Nat), me_ = n - i ∧ Gr w3 wr ∧ i ≤ n ∧ allN (nodeB gr nd) i = true ∧ Fr ac 63 [(1, Vp w.heap.size), (22, .slice na n nc), (23, Vi n), (24, Vi i)]) _ ⟨0, rfl, Gr.refl _, Nat.zero_le _, rfl, F.sub _⟩ ?_
    clear F
    intro me_ ac w7 hI
    obtain ⟨i, rfl, gr, hi0, hok, F⟩ := hI
    replace G := GB.trans gr
    replace hC := hCB.gr gr
    replace hnd := hndB.gr gr
    have GB_ := gr
    clear gr
    refine Y.seq ?_
    refine Y.lit (by kernel_rfl) ?_
    refine Y.pv F (X.binop rfl (F.ev 24 (Vi i)) (F.ev 23 (Vi n)) (X.lssI Try.underlying3 rfl)) ?_;clear F ac;intro ac F
    refine Y.nil ?_
    replace F : Fr ac 63 [(1, Vp w.heap.size), (22, .slice na n nc), (23, Vi n), (24, Vi i), (25, .bool (decide ((i : Int) < n)))] := F.sub _
    refine X.thenN ?_
    refine Y.seq ?_
    cases h8 : decide ((i : Int) < n) with
    | false =>
     try rw [h8] at F
     have h8p : ¬ ((i : Int) < n) := of_decide_eq_false h8
     have hin : i = n := by omega
     have hall : allN (nodeB gr nd) n = true := by rw [← hin]; exact hok
     refine Y.condF (F.ev 25 (.bool false)) ?_
     refine Y.exit ?_
     refine X.thenX ?_
     refine X.thenX ?_
     refine X.blockX ?_
     refine X.thenN ?_
     refine Y.seq ?_
     refine Y.lit (by kernel_rfl) ?_
     refine Y.pv F (X.assign rfl (X.kc (Vi 0) rfl)) ?_;clear F ac;intro ac F
     refine Y.nil ?_
     replace F : Fr ac 63 [(2, Vi 0)] := F.sub _
     refine X.thenN ?_
     refine Y.ret ?_
     exact Y.ret0 (v := Vi 0) F (Y.rs1 F rfl (by kernel_rfl)) ⟨by rw [(cluE_good hlen (by simp [cluB, h4, h5, h6, h8] <;> omega) hall)], G⟩
    | true =>
     try rw [h8] at F
     have h8p : ((i : Int) < n) := of_decide_eq_true h8
     have hi : i < n := by omega
     refine Y.condT (F.ev 25 (.bool true)) ?_
     refine Y.skip ?_
     refine X.thenN ?_
     refine Y.seq ?_
     refine Y.block ?_
     refine Y.seq ?_
     refine Y.lit (by kernel_rfl) ?_
     obtain ⟨pd9, pe9, -, -, pc9⟩ := hnd.at (j := i) (by omega)
     subst pe9
     replace hC : RCells w7 [(Ad w.heap.size 0, Vi gr), (Ad w.heap.size 1, Vi hold), (Ad w.heap.size 2, .slice (some pd9) n nc), (pd9.add (i * 5), Vi (cv nd i 0)), (⟨(pd9.add (i * 5)).block, (pd9.add (i * 5)).off + 1, none⟩, Vi (cv nd i 1)), (⟨(pd9.add (i * 5)).block, (pd9.add (i * 5)).off + 2, none⟩, Vi (cv nd i 2)), (⟨(pd9.add (i * 5)).block, (pd9.add (i * 5)).off + 3, none⟩, Vi (cv nd i 3)), (⟨(pd9.add (i * 5)).block, (pd9.add (i * 5)).off + 4, none⟩, Vi (cv nd i 4))] := hC.append ((RCells.cons (pc9 0 (by decide)) (RCells.cons (pc9 1 (by decide)) (RCells.cons (pc9 2 (by decide)) (RCells.cons (pc9 3 (by decide)) (RCells.cons (pc9 4 (by decide)) (RCells.nil _)))))))
     clear pc9
     refine Y.pv F (X.index rfl (F.ev 22 (.slice (some pd9) n nc)) (F.ev 24 (Vi i)) (X.idx (k := i) Try.underlying22 (Try.siz31 _) (by omega) (by omega) rfl)) ?_;clear F ac;intro ac F
     refine Y.pv F (X.load rfl (F.ev 26 (.pointer (some (pd9.add (i * 5))))) (X.ldN (Try.agg31 _) (Try.siz31 _) (Y.atz (pd9.add (i * 5)) (Y.AtFrom.cons (hC.at 3 rfl) (Y.AtFrom.cons (hC.at 4 rfl) (Y.AtFrom.cons (hC.at 5 rfl) (Y.AtFrom.cons (hC.at 6 rfl) (Y.AtFrom.cons (hC.at 7 rfl) (Y.AtFrom.nil _ _ _))))))))) ?_;clear F ac;intro ac F
     refine Y.pv F (Y.al rfl (Try.new31 _)) ?_;clear F ac;intro ac F
     refine Y.punit F (X.w0 rfl) rfl (X.store rfl (F.ev 4 (Vp w7.heap.size)) (F.ev 27 (.agg #[Vi (cv nd i 0), Vi (cv nd i 1), Vi (cv nd i 2), Vi (cv nd i 3), Vi (cv nd i 4)])) (Y.stNew [Vi (cv nd i 0), Vi (cv nd i 1), Vi (cv nd i 2), Vi (cv nd i 3), Vi (cv nd i 4)] [Vi 0, Vi 0, Vi 0, Vi 0, Vi 0] (Try.siz31 _) rfl rfl)) ?_;clear F ac;intro ac F
     have g := Gr.alloc w7 (.cells #[Vi (cv nd i 0), Vi (cv nd i 1), Vi (cv nd i 2), Vi (cv nd i 3), Vi (cv nd i 4)] 31)
     have hb := heap_alloc_new w7 (.cells #[Vi (cv nd i 0), Vi (cv nd i 1), Vi (cv nd i 2), Vi (cv nd i 3), Vi (cv nd i 4)] 31)
     have hbl : w7.heap.size < (w7.alloc (.cells #[Vi (cv nd i 0), Vi (cv nd i 1), Vi (cv nd i 2), Vi (cv nd i 3), Vi (cv nd i 4)] 31)).heap.size := by simp
     have hC2 : RCells (w7.alloc (.cells #[Vi (cv nd i 0), Vi (cv nd i 1), Vi (cv nd i 2), Vi (cv nd i 3), Vi (cv nd i 4)] 31)) [(Ad w.heap.size 0, Vi gr), (Ad w.heap.size 1, Vi hold), (Ad w.heap.size 2, .slice (some pd9) n nc), (pd9.add (i * 5), Vi (cv nd i 0)), (⟨(pd9.add (i * 5)).block, (pd9.add (i * 5)).off + 1, none⟩, Vi (cv nd i 1)), (⟨(pd9.add (i * 5)).block, (pd9.add (i * 5)).off + 2, none⟩, Vi (cv nd i 2)), (⟨(pd9.add (i * 5)).block, (pd9.add (i * 5)).off + 3, none⟩, Vi (cv nd i 3)), (⟨(pd9.add (i * 5)).block, (pd9.add (i * 5)).off + 4, none⟩, Vi (cv nd i 4)), (Ad w7.heap.size 0, Vi (cv nd i 0)), (Ad w7.heap.size 1, Vi (cv nd i 1)), (Ad w7.heap.size 2, Vi (cv nd i 2)), (Ad w7.heap.size 3, Vi (cv nd i 3)), (Ad w7.heap.size 4, Vi (cv nd i 4))] := hC.box (b := w7.heap.size) #[Vi (cv nd i 0), Vi (cv nd i 1), Vi (cv nd i 2), Vi (cv nd i 3), Vi (cv nd i 4)] 31 rfl
     generalize w7.alloc (.cells #[Vi (cv nd i 0), Vi (cv nd i 1), Vi (cv nd i 2), Vi (cv nd i 3), Vi (cv nd i 4)] 31) = w10 at *
     replace G := G.trans g
     replace hC := hC2
     clear hC2
     replace GB_ := GB_.trans g
     replace hnd := hnd.gr g
     clear g hb hbl
     refine Y.nil ?_
     replace F : Fr ac 63 [(1, Vp w.heap.size), (4, Vp w7.heap.size), (22, .slice (some pd9) n nc), (23, Vi n), (24, Vi i)] := F.sub _
     refine X.thenN ?_
     refine Y.seq ?_
     cases h11 : withinB (cv nd i 0) 0 ((shlV 1 (gr : Int) : Int) - 1) with
     | false =>
      try rw [h11] at F
      refine Y.region F [some (Vp w7.heap.size), some (Vi (cv nd i 0)), some (Vp w.heap.size), some (Vi gr), some (Vi (shlV 1 (gr : Int))), some (Vi ((shlV 1 (gr : Int) : Int) - 1)), some (.bool false), some (.bool true), some (.bool true), none, none, none, none, some (.bool true), some (.bool true), none, none, none, none, none, none, some (.bool true), some (.bool true), none, none, none, none, some (.bool true), some (.bool true), none, none, none, none, some (.bool true)] [] rfl ⟨by kernel_rfl, of_decide_eq_true (by kernel_rfl), by kernel_rfl, by kernel_rfl, by kernel_rfl⟩ ⟨?_, ?_, ?_, ?_, ?_, ?_, ?_, ?_, ?_, ?_, ?_, ?_, ?_, ?_, ?_, ?_, ?_, ?_, ?_, ?_, ?_, ?_, ?_, ?_, ?_, ?_, ?_, ?_, ?_, ?_, ?_, ?_, ?_, ?_, trivial⟩ ?_
      ·intro ac done u W Sx hR
       exact X.vl (X.field rfl (Sx.ev 4 (Vp w7.heap.size)) (X.fld Try.underlying31 rfl (Try.siz3 _) rfl rfl)) hR.st0
      ·intro ac done u W Sx hR
       have g : Gr w10 W := hR.1
       exact X.vl (X.load rfl (Sx.ev 28 (Vp w7.heap.size)) (X.ld1 (Try.agg3 _) ((hC.gr g).at 8 rfl))) hR.st0
      ·intro ac done u W Sx hR
       exact X.vl (X.field rfl (Sx.ev 1 (Vp w.heap.size)) (X.fld Try.underlying24 rfl (Try.siz3 _) rfl rfl)) hR.st0
      ·intro ac done u W Sx hR
       have g : Gr w10 W := hR.1
       exact X.vl (X.load rfl (Sx.ev 30 (Vp w.heap.size)) (X.ld1 (Try.agg3 _) ((hC.gr g).at 0 rfl))) hR.st0
      ·intro ac done u W Sx hR
       exact X.vl (X.binop rfl (X.kc (Vi 1) rfl) (Sx.ev 31 (Vi gr)) (X.shlI Try.underlying3 rfl (by omega))) hR.st0
      ·intro ac done u W Sx hR
       exact X.vl (X.binop rfl (Sx.ev 32 (Vi (shlV 1 (gr : Int)))) (X.kc (Vi 1) rfl) (X.subI Try.underlying3 rfl (by omega) (by omega))) hR.st0
      ·intro ac done u W Sx hR
       refine X.call (X.w0 rfl) (X.enter (F := 54) rfl (X.kc (.func (.func 54) #[] #[]) rfl) (X.a3 (Sx.ev 29 (Vi (cv nd i 0))) (X.kc (Vi 0) rfl) (Sx.ev 33 (Vi ((shlV 1 (gr : Int) : Int) - 1)))) (enters_of Try.func54 (by kernel_rfl) rfl _)) (by have hq := within_any (cv nd i 0) 0 ((shlV 1 (gr : Int) : Int) - 1) W; rw [h11] at hq; exact hq) ?_
       rintro e W2 ⟨rfl, rfl⟩
       exact ⟨_, rfl, X.kn rfl, hR.step (Gr.refl _) rfl⟩
      ·intro ac done u W Sx hR
       exact X.vl (X.notB rfl (Sx.ev 34 (.bool false)) rfl) hR.st0
      ·intro ac done u W Sx hR
       exact X.vl (X.move rfl (Sx.ev 35 (.bool true))) hR.st0
      ·intro ac done u W Sx hR
       exact X.skip (X.w2 rfl (Sx.yl 8 36 true (by kernel_rfl) rfl rfl) rfl) rfl (hR.skip rfl)
      ·intro ac done u W Sx hR
       exact X.skip (X.w2 rfl (Sx.yl 8 36 true (by kernel_rfl) rfl rfl) rfl) rfl (hR.skip rfl)
      ·intro ac done u W Sx hR
       exact X.skip (X.w2 rfl (Sx.yl 8 36 true (by kernel_rfl) rfl rfl) rfl) rfl (hR.skip rfl)
      ·intro ac done u W Sx hR
       exact X.skip (X.w2 rfl (Sx.yl 8 36 true (by kernel_rfl) rfl rfl) rfl) rfl (hR.skip rfl)
      ·intro ac done u W Sx hR
       exact X.vl (X.pickT rfl (Sx.ev 36 (.bool true)) (X.kc (.bool true) rfl)) hR.st0
      ·intro ac done u W Sx hR
       exact X.vl (X.move rfl (Sx.ev 41 (.bool true))) hR.st0
      ·intro ac done u W Sx hR
       exact X.skip (X.w2 rfl (Sx.yl 14 42 true (by kernel_rfl) rfl rfl) rfl) rfl (hR.skip rfl)
      ·intro ac done u W Sx hR
       exact X.skip (X.w2 rfl (Sx.yl 14 42 true (by kernel_rfl) rfl rfl) rfl) rfl (hR.skip rfl)
      ·intro ac done u W Sx hR
       exact X.skip (X.w2 rfl (Sx.yl 14 42 true (by kernel_rfl) rfl rfl) rfl) rfl (hR.skip rfl)
      ·intro ac done u W Sx hR
       exact X.skip (X.w2 rfl (Sx.yl 14 42 true (by kernel_rfl) rfl rfl) rfl) rfl (hR.skip rfl)
      ·intro ac done u W Sx hR
       exact X.skip (X.w2 rfl (Sx.yl 14 42 true (by kernel_rfl) rfl rfl) rfl) rfl (hR.skip rfl)
      ·intro ac done u W Sx hR
       exact X.skip (X.w2 rfl (Sx.yl 14 42 true (by kernel_rfl) rfl rfl) rfl) rfl (hR.skip rfl)
      ·intro ac done u W Sx hR
       exact X.vl (X.pickT rfl (Sx.ev 42 (.bool true)) (X.kc (.bool true) rfl)) hR.st0
      ·intro ac done u W Sx hR
       exact X.vl (X.move rfl (Sx.ev 49 (.bool true))) hR.st0
      ·intro ac done u W Sx hR
       exact X.skip (X.w2 rfl (Sx.yl 22 50 true (by kernel_rfl) rfl rfl) rfl) rfl (hR.skip rfl)
      ·intro ac done u W Sx hR
       exact X.skip (X.w2 rfl (Sx.yl 22 50 true (by kernel_rfl) rfl rfl) rfl) rfl (hR.skip rfl)
      ·intro ac done u W Sx hR
       exact X.skip (X.w2 rfl (Sx.yl 22 50 true (by kernel_rfl) rfl rfl) rfl) rfl (hR.skip rfl)
      ·intro ac done u W Sx hR
       exact X.skip (X.w2 rfl (Sx.yl 22 50 true (by kernel_rfl) rfl rfl) rfl) rfl (hR.skip rfl)
      ·intro ac done u W Sx hR
       exact X.vl (X.pickT rfl (Sx.ev 50 (.bool true)) (X.kc (.bool true) rfl)) hR.st0
      ·intro ac done u W Sx hR
       exact X.vl (X.move rfl (Sx.ev 55 (.bool true))) hR.st0
      ·intro ac done u W Sx hR
       exact X.skip (X.w2 rfl (Sx.yl 28 56 true (by kernel_rfl) rfl rfl) rfl) rfl (hR.skip rfl)
      ·intro ac done u W Sx hR
       exact X.skip (X.w2 rfl (Sx.yl 28 56 true (by kernel_rfl) rfl rfl) rfl) rfl (hR.skip rfl)
      ·intro ac done u W Sx hR
       exact X.skip (X.w2 rfl (Sx.yl 28 56 true (by kernel_rfl) rfl rfl) rfl) rfl (hR.skip rfl)
      ·intro ac done u W Sx hR
       exact X.skip (X.w2 rfl (Sx.yl 28 56 true (by kernel_rfl) rfl rfl) rfl) rfl (hR.skip rfl)
      ·intro ac done u W Sx hR
       exact X.vl (X.pickT rfl (Sx.ev 56 (.bool true)) (X.kc (.bool true) rfl)) hR.st0
      intro ac u w12 hs hd hl ho hR
      have g : Gr w10 w12 := hR.1
      replace F : Fr ac 63 [(1, Vp w.heap.size), (22, .slice (some pd9) n nc), (23, Vi n), (24, Vi i), (61, .bool true)] := X.fr hs hd hl _ (by kernel_rfl)
      clear hs hd hl ho hR
      replace G := G.trans g
      replace hC := hC.gr g
      replace GB_ := GB_.trans g
      replace hnd := hnd.gr g
      clear g
      refine X.thenN ?_
      refine Y.condT (F.ev 61 (.bool true)) ?_
      refine Y.seq ?_
      refine Y.lit (by kernel_rfl) ?_
      refine Y.pv F (X.assign rfl (X.kc (Vi 90) rfl)) ?_;clear F ac;intro ac F
      refine Y.nil ?_
      replace F : Fr ac 63 [(2, Vi 90)] := F.sub _
      refine X.thenN ?_
      refine Y.ret ?_
      refine X.blockR ?_
      refine X.thenR ?_
      refine X.thenR ?_
      refine X.blockR ?_
      refine X.thenR ?_
      exact Y.ret0 (v := Vi 90) F (Y.rs1 F rfl (by kernel_rfl)) ⟨by rw [(cluE_node hlen (i := i) (by omega) (by simp [nodeB, h11, h4, h5, h6, h8]))], G⟩
     | true =>
      try rw [h11] at F
      cases h13 : withinB (cv nd i 1) 0 10000 with
      | false =>
       try rw [h13] at F
       refine Y.region F [some (Vp w7.heap.size), some (Vi (cv nd i 0)), some (Vp w.heap.size), some (Vi gr), some (Vi (shlV 1 (gr : Int))), some (Vi ((shlV 1 (gr : Int) : Int) - 1)), some (.bool true), some (.bool false), some (.bool false), some (.pointer (some ⟨w7.heap.size, 1, none⟩)), some (Vi (cv nd i 1)), some (.bool false), some (.bool true), some (.bool true), some (.bool true), none, none, none, none, none, none, some (.bool true), some (.bool true), none, none, none, none, some (.bool true), some (.bool true), none, none, none, none, some (.bool true)] [] rfl ⟨by kernel_rfl, of_decide_eq_true (by kernel_rfl), by kernel_rfl, by kernel_rfl, by kernel_rfl⟩ ⟨?_, ?_, ?_, ?_, ?_, ?_, ?_, ?_, ?_, ?_, ?_, ?_, ?_, ?_, ?_, ?_, ?_, ?_, ?_, ?_, ?_, ?_, ?_, ?_, ?_, ?_, ?_, ?_, ?_, ?_, ?_, ?_, ?_, ?_, trivial⟩ ?_
       ·intro ac done u W Sx hR
        exact X.vl (X.field rfl (Sx.ev 4 (Vp w7.heap.size)) (X.fld Try.underlying31 rfl (Try.siz3 _) rfl rfl)) hR.st0
       ·intro ac done u W Sx hR
        have g : Gr w10 W := hR.1
        exact X.vl (X.load rfl (Sx.ev 28 (Vp w7.heap.size)) (X.ld1 (Try.agg3 _) ((hC.gr g).at 8 rfl))) hR.st0
       ·intro ac done u W Sx hR
        exact X.vl (X.field rfl (Sx.ev 1 (Vp w.heap.size)) (X.fld Try.underlying24 rfl (Try.siz3 _) rfl rfl)) hR.st0
       ·intro ac done u W Sx hR
        have g : Gr w10 W := hR.1
        exact X.vl (X.load rfl (Sx.ev 30 (Vp w.heap.size)) (X.ld1 (Try.agg3 _) ((hC.gr g).at 0 rfl))) hR.st0
       ·intro ac done u W Sx hR
        exact X.vl (X.binop rfl (X.kc (Vi 1) rfl) (Sx.ev 31 (Vi gr)) (X.shlI Try.underlying3 rfl (by omega))) hR.st0
       ·intro ac done u W Sx hR
        exact X.vl (X.binop rfl (Sx.ev 32 (Vi (shlV 1 (gr : Int)))) (X.kc (Vi 1) rfl) (X.subI Try.underlying3 rfl (by omega) (by omega))) hR.st0
       ·intro ac done u W Sx hR
        refine X.call (X.w0 rfl) (X.enter (F := 54) rfl (X.kc (.func (.func 54) #[] #[]) rfl) (X.a3 (Sx.ev 29 (Vi (cv nd i 0))) (X.kc (Vi 0) rfl) (Sx.ev 33 (Vi ((shlV 1 (gr : Int) : Int) - 1)))) (enters_of Try.func54 (by kernel_rfl) rfl _)) (by have hq := within_any (cv nd i 0) 0 ((shlV 1 (gr : Int) : Int) - 1) W; rw [h11] at hq; exact hq) ?_
        rintro e W2 ⟨rfl, rfl⟩
        exact ⟨_, rfl, X.kn rfl, hR.step (Gr.refl _) rfl⟩
       ·intro ac done u W Sx hR
        exact X.vl (X.notB rfl (Sx.ev 34 (.bool true)) rfl) hR.st0
       ·intro ac done u W Sx hR
        exact X.vl (X.move rfl (Sx.ev 35 (.bool false))) hR.st0
       ·intro ac done u W Sx hR
        exact X.val (X.w1 rfl (Sx.yl 8 36 false (by kernel_rfl) rfl rfl)) rfl (X.field rfl (Sx.ev 4 (Vp w7.heap.size)) (X.fld Try.underlying31 rfl (Try.siz3 _) rfl rfl)) hR.st0
       ·intro ac done u W Sx hR
        have g : Gr w10 W := hR.1
        exact X.val (X.w1 rfl (Sx.yl 8 36 false (by kernel_rfl) rfl rfl)) rfl (X.load rfl (Sx.ev 37 (.pointer (some ⟨w7.heap.size, 1, none⟩))) (X.ld1 (Try.agg3 _) ((hC.gr g).at 9 rfl))) hR.st0
       ·intro ac done u W Sx hR
        refine X.call (X.w1 rfl (Sx.yl 8 36 false (by kernel_rfl) rfl rfl)) (X.enter (F := 54) rfl (X.kc (.func (.func 54) #[] #[]) rfl) (X.a3 (Sx.ev 38 (Vi (cv nd i 1))) (X.kc (Vi 0) rfl) (X.kc (Vi 10000) rfl)) (enters_of Try.func54 (by kernel_rfl) rfl _)) (by have hq := within_any (cv nd i 1) 0 10000 W; rw [h13] at hq; exact hq) ?_
        rintro e W2 ⟨rfl, rfl⟩
        exact ⟨_, rfl, X.kn rfl, hR.step (Gr.refl _) rfl⟩
       ·intro ac done u W Sx hR
        exact X.val (X.w1 rfl (Sx.yl 8 36 false (by kernel_rfl) rfl rfl)) rfl (X.notB rfl (Sx.ev 39 (.bool false)) rfl) hR.st0
       ·intro ac done u W Sx hR
        exact X.vl (X.pickF rfl (Sx.ev 36 (.bool false)) (Sx.ev 40 (.bool true))) hR.st0
       ·intro ac done u W Sx hR
        exact X.vl (X.move rfl (Sx.ev 41 (.bool true))) hR.st0
       ·intro ac done u W Sx hR
        exact X.skip (X.w2 rfl (Sx.yl 14 42 true (by kernel_rfl) rfl rfl) rfl) rfl (hR.skip rfl)
       ·intro ac done u W Sx hR
        exact X.skip (X.w2 rfl (Sx.yl 14 42 true (by kernel_rfl) rfl rfl) rfl) rfl (hR.skip rfl)
       ·intro ac done u W Sx hR
        exact X.skip (X.w2 rfl (Sx.yl 14 42 true (by kernel_rfl) rfl rfl) rfl) rfl (hR.skip rfl)
       ·intro ac done u W Sx hR
        exact X.skip (X.w2 rfl (Sx.yl 14 42 true (by kernel_rfl) rfl rfl) rfl) rfl (hR.skip rfl)
       ·intro ac done u W Sx hR
        exact X.skip (X.w2 rfl (Sx.yl 14 42 true (by kernel_rfl) rfl rfl) rfl) rfl (hR.skip rfl)
       ·intro ac done u W Sx hR
        exact X.skip (X.w2 rfl (Sx.yl 14 42 true (by kernel_rfl) rfl rfl) rfl) rfl (hR.skip rfl)
       ·intro ac done u W Sx hR
        exact X.vl (X.pickT rfl (Sx.ev 42 (.bool true)) (X.kc (.bool true) rfl)) hR.st0
       ·intro ac done u W Sx hR
        exact X.vl (X.move rfl (Sx.ev 49 (.bool true))) hR.st0
       ·intro ac done u W Sx hR
        exact X.skip (X.w2 rfl (Sx.yl 22 50 true (by kernel_rfl) rfl rfl) rfl) rfl (hR.skip rfl)
       ·intro ac done u W Sx hR
        exact X.skip (X.w2 rfl (Sx.yl 22 50 true (by kernel_rfl) rfl rfl) rfl) rfl (hR.skip rfl)
       ·intro ac done u W Sx hR
        exact X.skip (X.w2 rfl (Sx.yl 22 50 true (by kernel_rfl) rfl rfl) rfl) rfl (hR.skip rfl)
       ·intro ac done u W Sx hR
        exact X.skip (X.w2 rfl (Sx.yl 22 50 true (by kernel_rfl) rfl rfl) rfl) rfl (hR.skip rfl)
       ·intro ac done u W Sx hR
        exact X.vl (X.pickT rfl (Sx.ev 50 (.bool true)) (X.kc (.bool true) rfl)) hR.st0
       ·intro ac done u W Sx hR
        exact X.vl (X.move rfl (Sx.ev 55 (.bool true))) hR.st0
       ·intro ac done u W Sx hR
        exact X.skip (X.w2 rfl (Sx.yl 28 56 true (by kernel_rfl) rfl rfl) rfl) rfl (hR.skip rfl)
       ·intro ac done u W Sx hR
        exact X.skip (X.w2 rfl (Sx.yl 28 56 true (by kernel_rfl) rfl rfl) rfl) rfl (hR.skip rfl)
       ·intro ac done u W Sx hR
        exact X.skip (X.w2 rfl (Sx.yl 28 56 true (by kernel_rfl) rfl rfl) rfl) rfl (hR.skip rfl)
       ·intro ac done u W Sx hR
        exact X.skip (X.w2 rfl (Sx.yl 28 56 true (by kernel_rfl) rfl rfl) rfl) rfl (hR.skip rfl)
       ·intro ac done u W Sx hR
        exact X.vl (X.pickT rfl (Sx.ev 56 (.bool true)) (X.kc (.bool true) rfl)) hR.st0
       intro ac u w14 hs hd hl ho hR
       have g : Gr w10 w14 := hR.1
       replace F : Fr ac 63 [(1, Vp w.heap.size), (22, .slice (some pd9) n nc), (23, Vi n), (24, Vi i), (61, .bool true)] := X.fr hs hd hl _ (by kernel_rfl)
       clear hs hd hl ho hR
       replace G := G.trans g
       replace hC := hC.gr g
       replace GB_ := GB_.trans g
       replace hnd := hnd.gr g
       clear g
       refine X.thenN ?_
       refine Y.condT (F.ev 61 (.bool true)) ?_
       refine Y.seq ?_
       refine Y.lit (by kernel_rfl) ?_
       refine Y.pv F (X.assign rfl (X.kc (Vi 90) rfl)) ?_;clear F ac;intro ac F
       refine Y.nil ?_
       replace F : Fr ac 63 [(2, Vi 90)] := F.sub _
       refine X.thenN ?_
       refine Y.ret ?_
       refine X.blockR ?_
       refine X.thenR ?_
       refine X.thenR ?_
       refine X.blockR ?_
       refine X.thenR ?_
       exact Y.ret0 (v := Vi 90) F (Y.rs1 F rfl (by kernel_rfl)) ⟨by rw [(cluE_node hlen (i := i) (by omega) (by simp [nodeB, h11, h13, h4, h5, h6, h8]))], G⟩
      | true =>
       try rw [h13] at F
       have ha1 := withinB_ok h13
       cases h15 : withinB (cv nd i 2) 0 (cv nd i 1) with
       | false =>
        try rw [h15] at F
        refine Y.region F [some (Vp w7.heap.size), some (Vi (cv nd i 0)), some (Vp w.heap.size), some (Vi gr), some (Vi (shlV 1 (gr : Int))), some (Vi ((shlV 1 (gr : Int) : Int) - 1)), some (.bool true), some (.bool false), some (.bool false), some (.pointer (some ⟨w7.heap.size, 1, none⟩)), some (Vi (cv nd i 1)), some (.bool true), some (.bool false), some (.bool false), some (.bool false), some (.pointer (some ⟨w7.heap.size, 2, none⟩)), some (Vi (cv nd i 2)), some (.pointer (some ⟨w7.heap.size, 1, none⟩)), some (Vi (cv nd i 1)), some (.bool false), some (.bool true), some (.bool true), some (.bool true), none, none, none, none, some (.bool true), some (.bool true), none, none, none, none, some (.bool true)] [] rfl ⟨by kernel_rfl, of_decide_eq_true (by kernel_rfl), by kernel_rfl, by kernel_rfl, by kernel_rfl⟩ ⟨?_, ?_, ?_, ?_, ?_, ?_, ?_, ?_, ?_, ?_, ?_, ?_, ?_, ?_, ?_, ?_, ?_, ?_, ?_, ?_, ?_, ?_, ?_, ?_, ?_, ?_, ?_, ?_, ?_, ?_, ?_, ?_, ?_, ?_, trivial⟩ ?_
        ·intro ac done u W Sx hR
         exact X.vl (X.field rfl (Sx.ev 4 (Vp w7.heap.size)) (X.fld Try.underlying31 rfl (Try.siz3 _) rfl rfl)) hR.st0
        ·intro ac done u W Sx hR
         have g : Gr w10 W := hR.1
         exact X.vl (X.load rfl (Sx.ev 28 (Vp w7.heap.size)) (X.ld1 (Try.agg3 _) ((hC.gr g).at 8 rfl))) hR.st0
        ·intro ac done u W Sx hR
         exact X.vl (X.field rfl (Sx.ev 1 (Vp w.heap.size)) (X.fld Try.underlying24 rfl (Try.siz3 _) rfl rfl)) hR.st0
        ·intro ac done u W Sx hR
         have g : Gr w10 W := hR.1
         exact X.vl (X.load rfl (Sx.ev 30 (Vp w.heap.size)) (X.ld1 (Try.agg3 _) ((hC.gr g).at 0 rfl))) hR.st0
        ·intro ac done u W Sx hR
         exact X.vl (X.binop rfl (X.kc (Vi 1) rfl) (Sx.ev 31 (Vi gr)) (X.shlI Try.underlying3 rfl (by omega))) hR.st0
        ·intro ac done u W Sx hR
         exact X.vl (X.binop rfl (Sx.ev 32 (Vi (shlV 1 (gr : Int)))) (X.kc (Vi 1) rfl) (X.subI Try.underlying3 rfl (by omega) (by omega))) hR.st0
        ·intro ac done u W Sx hR
         refine X.call (X.w0 rfl) (X.enter (F := 54) rfl (X.kc (.func (.func 54) #[] #[]) rfl) (X.a3 (Sx.ev 29 (Vi (cv nd i 0))) (X.kc (Vi 0) rfl) (Sx.ev 33 (Vi ((shlV 1 (gr : Int) : Int) - 1)))) (enters_of Try.func54 (by kernel_rfl) rfl _)) (by have hq := within_any (cv nd i 0) 0 ((shlV 1 (gr : Int) : Int) - 1) W; rw [h11] at hq; exact hq) ?_
         rintro e W2 ⟨rfl, rfl⟩
         exact ⟨_, rfl, X.kn rfl, hR.step (Gr.refl _) rfl⟩
        ·intro ac done u W Sx hR
         exact X.vl (X.notB rfl (Sx.ev 34 (.bool true)) rfl) hR.st0
        ·intro ac done u W Sx hR
         exact X.vl (X.move rfl (Sx.ev 35 (.bool false))) hR.st0
        ·intro ac done u W Sx hR
         exact X.val (X.w1 rfl (Sx.yl 8 36 false (by kernel_rfl) rfl rfl)) rfl (X.field rfl (Sx.ev 4 (Vp w7.heap.size)) (X.fld Try.underlying31 rfl (Try.siz3 _) rfl rfl)) hR.st0
        ·intro ac done u W Sx hR
         have g : Gr w10 W := hR.1
         exact X.val (X.w1 rfl (Sx.yl 8 36 false (by kernel_rfl) rfl rfl)) rfl (X.load rfl (Sx.ev 37 (.pointer (some ⟨w7.heap.size, 1, none⟩))) (X.ld1 (Try.agg3 _) ((hC.gr g).at 9 rfl))) hR.st0
        ·intro ac done u W Sx hR
         refine X.call (X.w1 rfl (Sx.yl 8 36 false (by kernel_rfl) rfl rfl)) (X.enter (F := 54) rfl (X.kc (.func (.func 54) #[] #[]) rfl) (X.a3 (Sx.ev 38 (Vi (cv nd i 1))) (X.kc (Vi 0) rfl) (X.kc (Vi 10000) rfl)) (enters_of Try.func54 (by kernel_rfl) rfl _)) (by have hq := within_any (cv nd i 1) 0 10000 W; rw [h13] at hq; exact hq) ?_
         rintro e W2 ⟨rfl, rfl⟩
         exact ⟨_, rfl, X.kn rfl, hR.step (Gr.refl _) rfl⟩
        ·intro ac done u W Sx hR
         exact X.val (X.w1 rfl (Sx.yl 8 36 false (by kernel_rfl) rfl rfl)) rfl (X.notB rfl (Sx.ev 39 (.bool true)) rfl) hR.st0
        ·intro ac done u W Sx hR
         exact X.vl (X.pickF rfl (Sx.ev 36 (.bool false)) (Sx.ev 40 (.bool false))) hR.st0
        ·intro ac done u W Sx hR
         exact X.vl (X.move rfl (Sx.ev 41 (.bool false))) hR.st0
        ·intro ac done u W Sx hR
         exact X.val (X.w1 rfl (Sx.yl 14 42 false (by kernel_rfl) rfl rfl)) rfl (X.field rfl (Sx.ev 4 (Vp w7.heap.size)) (X.fld Try.underlying31 rfl (Try.siz3 _) rfl rfl)) hR.st0
        ·intro ac done u W Sx hR
         have g : Gr w10 W := hR.1
         exact X.val (X.w1 rfl (Sx.yl 14 42 false (by kernel_rfl) rfl rfl)) rfl (X.load rfl (Sx.ev 43 (.pointer (some ⟨w7.heap.size, 2, none⟩))) (X.ld1 (Try.agg3 _) ((hC.gr g).at 10 rfl))) hR.st0
        ·intro ac done u W Sx hR
         exact X.val (X.w1 rfl (Sx.yl 14 42 false (by kernel_rfl) rfl rfl)) rfl (X.field rfl (Sx.ev 4 (Vp w7.heap.size)) (X.fld Try.underlying31 rfl (Try.siz3 _) rfl rfl)) hR.st0
        ·intro ac done u W Sx hR
         have g : Gr w10 W := hR.1
         exact X.val (X.w1 rfl (Sx.yl 14 42 false (by kernel_rfl) rfl rfl)) rfl (X.load rfl (Sx.ev 45 (.pointer (some ⟨w7.heap.size, 1, none⟩))) (X.ld1 (Try.agg3 _) ((hC.gr g).at 9 rfl))) hR.st0
        ·intro ac done u W Sx hR
         refine X.call (X.w1 rfl (Sx.yl 14 42 false (by kernel_rfl) rfl rfl)) (X.enter (F := 54) rfl (X.kc (.func (.func 54) #[] #[]) rfl) (X.a3 (Sx.ev 44 (Vi (cv nd i 2))) (X.kc (Vi 0) rfl) (Sx.ev 46 (Vi (cv nd i 1)))) (enters_of Try.func54 (by kernel_rfl) rfl _)) (by have hq := within_any (cv nd i 2) 0 (cv nd i 1) W; rw [h15] at hq; exact hq) ?_
         rintro e W2 ⟨rfl, rfl⟩
         exact ⟨_, rfl, X.kn rfl, hR.step (Gr.refl _) rfl⟩
        ·intro ac done u W Sx hR
         exact X.val (X.w1 rfl (Sx.yl 14 42 false (by kernel_rfl) rfl rfl)) rfl (X.notB rfl (Sx.ev 47 (.bool false)) rfl) hR.st0
        ·intro ac done u W Sx hR
         exact X.vl (X.pickF rfl (Sx.ev 42 (.bool false)) (Sx.ev 48 (.bool true))) hR.st0
        ·intro ac done u W Sx hR
         exact X.vl (X.move rfl (Sx.ev 49 (.bool true))) hR.st0
        ·intro ac done u W Sx hR
         exact X.skip (X.w2 rfl (Sx.yl 22 50 true (by kernel_rfl) rfl rfl) rfl) rfl (hR.skip rfl)
        ·intro ac done u W Sx hR
         exact X.skip (X.w2 rfl (Sx.yl 22 50 true (by kernel_rfl) rfl rfl) rfl) rfl (hR.skip rfl)
        ·intro ac done u W Sx hR
         exact X.skip (X.w2 rfl (Sx.yl 22 50 true (by kernel_rfl) rfl rfl) rfl) rfl (hR.skip rfl)
        ·intro ac done u W Sx hR
         exact X.skip (X.w2 rfl (Sx.yl 22 50 true (by kernel_rfl) rfl rfl) rfl) rfl (hR.skip rfl)
        ·intro ac done u W Sx hR
         exact X.vl (X.pickT rfl (Sx.ev 50 (.bool true)) (X.kc (.bool true) rfl)) hR.st0
        ·intro ac done u W Sx hR
         exact X.vl (X.move rfl (Sx.ev 55 (.bool true))) hR.st0
        ·intro ac done u W Sx hR
         exact X.skip (X.w2 rfl (Sx.yl 28 56 true (by kernel_rfl) rfl rfl) rfl) rfl (hR.skip rfl)
        ·intro ac done u W Sx hR
         exact X.skip (X.w2 rfl (Sx.yl 28 56 true (by kernel_rfl) rfl rfl) rfl) rfl (hR.skip rfl)
        ·intro ac done u W Sx hR
         exact X.skip (X.w2 rfl (Sx.yl 28 56 true (by kernel_rfl) rfl rfl) rfl) rfl (hR.skip rfl)
        ·intro ac done u W Sx hR
         exact X.skip (X.w2 rfl (Sx.yl 28 56 true (by kernel_rfl) rfl rfl) rfl) rfl (hR.skip rfl)
        ·intro ac done u W Sx hR
         exact X.vl (X.pickT rfl (Sx.ev 56 (.bool true)) (X.kc (.bool true) rfl)) hR.st0
        intro ac u w16 hs hd hl ho hR
        have g : Gr w10 w16 := hR.1
        replace F : Fr ac 63 [(1, Vp w.heap.size), (22, .slice (some pd9) n nc), (23, Vi n), (24, Vi i), (61, .bool true)] := X.fr hs hd hl _ (by kernel_rfl)
        clear hs hd hl ho hR
        replace G := G.trans g
        replace hC := hC.gr g
        replace GB_ := GB_.trans g
        replace hnd := hnd.gr g
        clear g
        refine X.thenN ?_
        refine Y.condT (F.ev 61 (.bool true)) ?_
        refine Y.seq ?_
        refine Y.lit (by kernel_rfl) ?_
        refine Y.pv F (X.assign rfl (X.kc (Vi 90) rfl)) ?_;clear F ac;intro ac F
        refine Y.nil ?_
        replace F : Fr ac 63 [(2, Vi 90)] := F.sub _
        refine X.thenN ?_
        refine Y.ret ?_
        refine X.blockR ?_
        refine X.thenR ?_
        refine X.thenR ?_
        refine X.blockR ?_
        refine X.thenR ?_
        exact Y.ret0 (v := Vi 90) F (Y.rs1 F rfl (by kernel_rfl)) ⟨by rw [(cluE_node hlen (i := i) (by omega) (by simp [nodeB, h11, h13, h15, h4, h5, h6, h8]))], G⟩
       | true =>
        try rw [h15] at F
        cases h17 : withinB (cv nd i 3) 0 20 with
        | false =>
         try rw [h17] at F
         refine Y.region F [some (Vp w7.heap.size), some (Vi (cv nd i 0)), some (Vp w.heap.size), some (Vi gr), some (Vi (shlV 1 (gr : Int))), some (Vi ((shlV 1 (gr : Int) : Int) - 1)), some (.bool true), some (.bool false), some (.bool false), some (.pointer (some ⟨w7.heap.size, 1, none⟩)), some (Vi (cv nd i 1)), some (.bool true), some (.bool false), some (.bool false), some (.bool false), some (.pointer (some ⟨w7.heap.size, 2, none⟩)), some (Vi (cv nd i 2)), some (.pointer (some ⟨w7.heap.size, 1, none⟩)), some (Vi (cv nd i 1)), some (.bool true), some (.bool false), some (.bool false), some (.bool false), some (.pointer (some ⟨w7.heap.size, 3, none⟩)), some (Vi (cv nd i 3)), some (.bool false), some (.bool true), some (.bool true), some (.bool true), none, none, none, none, some (.bool true)] [] rfl ⟨by kernel_rfl, of_decide_eq_true (by kernel_rfl), by kernel_rfl, by kernel_rfl, by kernel_rfl⟩ ⟨?_, ?_, ?_, ?_, ?_, ?_, ?_, ?_, ?_, ?_, ?_, ?_, ?_, ?_, ?_, ?_, ?_, ?_, ?_, ?_, ?_, ?_, ?_, ?_, ?_, ?_, ?_, ?_, ?_, ?_, ?_, ?_, ?_, ?_, trivial⟩ ?_
         ·intro ac done u W Sx hR
          exact X.vl (X.field rfl (Sx.ev 4 (Vp w7.heap.size)) (X.fld Try.underlying31 rfl (Try.siz3 _) rfl rfl)) hR.st0
         ·intro ac done u W Sx hR
          have g : Gr w10 W := hR.1
          exact X.vl (X.load rfl (Sx.ev 28 (Vp w7.heap.size)) (X.ld1 (Try.agg3 _) ((hC.gr g).at 8 rfl))) hR.st0
         ·intro ac done u W Sx hR
          exact X.vl (X.field rfl (Sx.ev 1 (Vp w.heap.size)) (X.fld Try.underlying24 rfl (Try.siz3 _) rfl rfl)) hR.st0
         ·intro ac done u W Sx hR
          have g : Gr w10 W := hR.1
          exact X.vl (X.load rfl (Sx.ev 30 (Vp w.heap.size)) (X.ld1 (Try.agg3 _) ((hC.gr g).at 0 rfl))) hR.st0
         ·intro ac done u W Sx hR
          exact X.vl (X.binop rfl (X.kc (Vi 1) rfl) (Sx.ev 31 (Vi gr)) (X.shlI Try.underlying3 rfl (by omega))) hR.st0
         ·intro ac done u W Sx hR
          exact X.vl (X.binop rfl (Sx.ev 32 (Vi (shlV 1 (gr : Int)))) (X.kc (Vi 1) rfl) (X.subI Try.underlying3 rfl (by omega) (by omega))) hR.st0
         ·intro ac done u W Sx hR
          refine X.call (X.w0 rfl) (X.enter (F := 54) rfl (X.kc (.func (.func 54) #[] #[]) rfl) (X.a3 (Sx.ev 29 (Vi (cv nd i 0))) (X.kc (Vi 0) rfl) (Sx.ev 33 (Vi ((shlV 1 (gr : Int) : Int) - 1)))) (enters_of Try.func54 (by kernel_rfl) rfl _)) (by have hq := within_any (cv nd i 0) 0 ((shlV 1 (gr : Int) : Int) - 1) W; rw [h11] at hq; exact hq) ?_
          rintro e W2 ⟨rfl, rfl⟩
          exact ⟨_, rfl, X.kn rfl, hR.step (Gr.refl _) rfl⟩
         ·intro ac done u W Sx hR
          exact X.vl (X.notB rfl (Sx.ev 34 (.bool true)) rfl) hR.st0
         ·intro ac done u W Sx hR
          exact X.vl (X.move rfl (Sx.ev 35 (.bool false))) hR.st0
         ·intro ac done u W Sx hR
          exact X.val (X.w1 rfl (Sx.yl 8 36 false (by kernel_rfl) rfl rfl)) rfl (X.field rfl (Sx.ev 4 (Vp w7.heap.size)) (X.fld Try.underlying31 rfl (Try.siz3 _) rfl rfl)) hR.st0
         ·intro ac done u W Sx hR
          have g : Gr w10 W := hR.1
          exact X.val (X.w1 rfl (Sx.yl 8 36 false (by kernel_rfl) rfl rfl)) rfl (X.load rfl (Sx.ev 37 (.pointer (some ⟨w7.heap.size, 1, none⟩))) (X.ld1 (Try.agg3 _) ((hC.gr g).at 9 rfl))) hR.st0
         ·intro ac done u W Sx hR
          refine X.call (X.w1 rfl (Sx.yl 8 36 false (by kernel_rfl) rfl rfl)) (X.enter (F := 54) rfl (X.kc (.func (.func 54) #[] #[]) rfl) (X.a3 (Sx.ev 38 (Vi (cv nd i 1))) (X.kc (Vi 0) rfl) (X.kc (Vi 10000) rfl)) (enters_of Try.func54 (by kernel_rfl) rfl _)) (by have hq := within_any (cv nd i 1) 0 10000 W; rw [h13] at hq; exact hq) ?_
          rintro e W2 ⟨rfl, rfl⟩
          exact ⟨_, rfl, X.kn rfl, hR.step (Gr.refl _) rfl⟩
         ·intro ac done u W Sx hR
          exact X.val (X.w1 rfl (Sx.yl 8 36 false (by kernel_rfl) rfl rfl)) rfl (X.notB rfl (Sx.ev 39 (.bool true)) rfl) hR.st0
         ·intro ac done u W Sx hR
          exact X.vl (X.pickF rfl (Sx.ev 36 (.bool false)) (Sx.ev 40 (.bool false))) hR.st0
         ·intro ac done u W Sx hR
          exact X.vl (X.move rfl (Sx.ev 41 (.bool false))) hR.st0
         ·intro ac done u W Sx hR
          exact X.val (X.w1 rfl (Sx.yl 14 42 false (by kernel_rfl) rfl rfl)) rfl (X.field rfl (Sx.ev 4 (Vp w7.heap.size)) (X.fld Try.underlying31 rfl (Try.siz3 _) rfl rfl)) hR.st0
         ·intro ac done u W Sx hR
          have g : Gr w10 W := hR.1
          exact X.val (X.w1 rfl (Sx.yl 14 42 false (by kernel_rfl) rfl rfl)) rfl (X.load rfl (Sx.ev 43 (.pointer (some ⟨w7.heap.size, 2, none⟩))) (X.ld1 (Try.agg3 _) ((hC.gr g).at 10 rfl))) hR.st0
         ·intro ac done u W Sx hR
          exact X.val (X.w1 rfl (Sx.yl 14 42 false (by kernel_rfl) rfl rfl)) rfl (X.field rfl (Sx.ev 4 (Vp w7.heap.size)) (X.fld Try.underlying31 rfl (Try.siz3 _) rfl rfl)) hR.st0
         ·intro ac done u W Sx hR
          have g : Gr w10 W := hR.1
          exact X.val (X.w1 rfl (Sx.yl 14 42 false (by kernel_rfl) rfl rfl)) rfl (X.load rfl (Sx.ev 45 (.pointer (some ⟨w7.heap.size, 1, none⟩))) (X.ld1 (Try.agg3 _) ((hC.gr g).at 9 rfl))) hR.st0
         ·intro ac done u W Sx hR
          refine X.call (X.w1 rfl (Sx.yl 14 42 false (by kernel_rfl) rfl rfl)) (X.enter (F := 54) rfl (X.kc (.func (.func 54) #[] #[]) rfl) (X.a3 (Sx.ev 44 (Vi (cv nd i 2))) (X.kc (Vi 0) rfl) (Sx.ev 46 (Vi (cv nd i 1)))) (enters_of Try.func54 (by kernel_rfl) rfl _)) (by have hq := within_any (cv nd i 2) 0 (cv nd i 1) W; rw [h15] at hq; exact hq) ?_
          rintro e W2 ⟨rfl, rfl⟩
          exact ⟨_, rfl, X.kn rfl, hR.step (Gr.refl _) rfl⟩
         ·intro ac done u W Sx hR
          exact X.val (X.w1 rfl (Sx.yl 14 42 false (by kernel_rfl) rfl rfl)) rfl (X.notB rfl (Sx.ev 47 (.bool true)) rfl) hR.st0
         ·intro ac done u W Sx hR
          exact X.vl (X.pickF rfl (Sx.ev 42 (.bool false)) (Sx.ev 48 (.bool false))) hR.st0
         ·intro ac done u W Sx hR
          exact X.vl (X.move rfl (Sx.ev 49 (.bool false))) hR.st0
         ·intro ac done u W Sx hR
          exact X.val (X.w1 rfl (Sx.yl 22 50 false (by kernel_rfl) rfl rfl)) rfl (X.field rfl (Sx.ev 4 (Vp w7.heap.size)) (X.fld Try.underlying31 rfl (Try.siz3 _) rfl rfl)) hR.st0
         ·intro ac done u W Sx hR
          have g : Gr w10 W := hR.1
          exact X.val (X.w1 rfl (Sx.yl 22 50 false (by kernel_rfl) rfl rfl)) rfl (X.load rfl (Sx.ev 51 (.pointer (some ⟨w7.heap.size, 3, none⟩))) (X.ld1 (Try.agg3 _) ((hC.gr g).at 11 rfl))) hR.st0
         ·intro ac done u W Sx hR
          refine X.call (X.w1 rfl (Sx.yl 22 50 false (by kernel_rfl) rfl rfl)) (X.enter (F := 54) rfl (X.kc (.func (.func 54) #[] #[]) rfl) (X.a3 (Sx.ev 52 (Vi (cv nd i 3))) (X.kc (Vi 0) rfl) (X.kc (Vi 20) rfl)) (enters_of Try.func54 (by kernel_rfl) rfl _)) (by have hq := within_any (cv nd i 3) 0 20 W; rw [h17] at hq; exact hq) ?_
          rintro e W2 ⟨rfl, rfl⟩
          exact ⟨_, rfl, X.kn rfl, hR.step (Gr.refl _) rfl⟩
         ·intro ac done u W Sx hR
          exact X.val (X.w1 rfl (Sx.yl 22 50 false (by kernel_rfl) rfl rfl)) rfl (X.notB rfl (Sx.ev 53 (.bool false)) rfl) hR.st0
         ·intro ac done u W Sx hR
          exact X.vl (X.pickF rfl (Sx.ev 50 (.bool false)) (Sx.ev 54 (.bool true))) hR.st0
         ·intro ac done u W Sx hR
          exact X.vl (X.move rfl (Sx.ev 55 (.bool true))) hR.st0
         ·intro ac done u W Sx hR
          exact X.skip (X.w2 rfl (Sx.yl 28 56 true (by kernel_rfl) rfl rfl) rfl) rfl (hR.skip rfl)
         ·intro ac done u W Sx hR
          exact X.skip (X.w2 rfl (Sx.yl 28 56 true (by kernel_rfl) rfl rfl) rfl) rfl (hR.skip rfl)
         ·intro ac done u W Sx hR
          exact X.skip (X.w2 rfl (Sx.yl 28 56 true (by kernel_rfl) rfl rfl) rfl) rfl (hR.skip rfl)
         ·intro ac done u W Sx hR
          exact X.skip (X.w2 rfl (Sx.yl 28 56 true (by kernel_rfl) rfl rfl) rfl) rfl (hR.skip rfl)
         ·intro ac done u W Sx hR
          exact X.vl (X.pickT rfl (Sx.ev 56 (.bool true)) (X.kc (.bool true) rfl)) hR.st0
         intro ac u w18 hs hd hl ho hR
         have g : Gr w10 w18 := hR.1
         replace F : Fr ac 63 [(1, Vp w.heap.size), (22, .slice (some pd9) n nc), (23, Vi n), (24, Vi i), (61, .bool true)] := X.fr hs hd hl _ (by kernel_rfl)
         clear hs hd hl ho hR
         replace G := G.trans g
         replace hC := hC.gr g
         replace GB_ := GB_.trans g
         replace hnd := hnd.gr g
         clear g
         refine X.thenN ?_
         refine Y.condT (F.ev 61 (.bool true)) ?_
         refine Y.seq ?_
         refine Y.lit (by kernel_rfl) ?_
         refine Y.pv F (X.assign rfl (X.kc (Vi 90) rfl)) ?_;clear F ac;intro ac F
         refine Y.nil ?_
         replace F : Fr ac 63 [(2, Vi 90)] := F.sub _
         refine X.thenN ?_
         refine Y.ret ?_
         refine X.blockR ?_
         refine X.thenR ?_
         refine X.thenR ?_
         refine X.blockR ?_
         refine X.thenR ?_
         exact Y.ret0 (v := Vi 90) F (Y.rs1 F rfl (by kernel_rfl)) ⟨by rw [(cluE_node hlen (i := i) (by omega) (by simp [nodeB, h11, h13, h15, h17, h4, h5, h6, h8]))], G⟩
        | true =>
         try rw [h17] at F
         refine Y.region F [some (Vp w7.heap.size), some (Vi (cv nd i 0)), some (Vp w.heap.size), some (Vi gr), some (Vi (shlV 1 (gr : Int))), some (Vi ((shlV 1 (gr : Int) : Int) - 1)), some (.bool true), some (.bool false), some (.bool false), some (.pointer (some ⟨w7.heap.size, 1, none⟩)), some (Vi (cv nd i 1)), some (.bool true), some (.bool false), some (.bool false), some (.bool false), some (.pointer (some ⟨w7.heap.size, 2, none⟩)), some (Vi (cv nd i 2)), some (.pointer (some ⟨w7.heap.size, 1, none⟩)), some (Vi (cv nd i 1)), some (.bool true), some (.bool false), some (.bool false), some (.bool false), some (.pointer (some ⟨w7.heap.size, 3, none⟩)), some (Vi (cv nd i 3)), some (.bool true), some (.bool false), some (.bool false), some (.bool false), some (.pointer (some ⟨w7.heap.size, 4, none⟩)), some (Vi (cv nd i 4)), some (.bool (withinB (cv nd i 4) 1 1000)), some (.bool (!(withinB (cv nd i 4) 1 1000))), some (.bool (!(withinB (cv nd i 4) 1 1000)))] [] rfl ⟨by kernel_rfl, of_decide_eq_true (by kernel_rfl), by kernel_rfl, by kernel_rfl, by kernel_rfl⟩ ⟨?_, ?_, ?_, ?_, ?_, ?_, ?_, ?_, ?_, ?_, ?_, ?_, ?_, ?_, ?_, ?_, ?_, ?_, ?_, ?_, ?_, ?_, ?_, ?_, ?_, ?_, ?_, ?_, ?_, ?_, ?_, ?_, ?_, ?_, trivial⟩ ?_
         ·intro ac done u W Sx hR
          exact X.vl (X.field rfl (Sx.ev 4 (Vp w7.heap.size)) (X.fld Try.underlying31 rfl (Try.siz3 _) rfl rfl)) hR.st0
         ·intro ac done u W Sx hR
          have g : Gr w10 W := hR.1
          exact X.vl (X.load rfl (Sx.ev 28 (Vp w7.heap.size)) (X.ld1 (Try.agg3 _) ((hC.gr g).at 8 rfl))) hR.st0
         ·intro ac done u W Sx hR
          exact X.vl (X.field rfl (Sx.ev 1 (Vp w.heap.size)) (X.fld Try.underlying24 rfl (Try.siz3 _) rfl rfl)) hR.st0
         ·intro ac done u W Sx hR
          have g : Gr w10 W := hR.1
          exact X.vl (X.load rfl (Sx.ev 30 (Vp w.heap.size)) (X.ld1 (Try.agg3 _) ((hC.gr g).at 0 rfl))) hR.st0
         ·intro ac done u W Sx hR
          exact X.vl (X.binop rfl (X.kc (Vi 1) rfl) (Sx.ev 31 (Vi gr)) (X.shlI Try.underlying3 rfl (by omega))) hR.st0
         ·intro ac done u W Sx hR
          exact X.vl (X.binop rfl (Sx.ev 32 (Vi (shlV 1 (gr : Int)))) (X.kc (Vi 1) rfl) (X.subI Try.underlying3 rfl (by omega) (by omega))) hR.st0
         ·intro ac done u W Sx hR
          refine X.call (X.w0 rfl) (X.enter (F := 54) rfl (X.kc (.func (.func 54) #[] #[]) rfl) (X.a3 (Sx.ev 29 (Vi (cv nd i 0))) (X.kc (Vi 0) rfl) (Sx.ev 33 (Vi ((shlV 1 (gr : Int) : Int) - 1)))) (enters_of Try.func54 (by kernel_rfl) rfl _)) (by have hq := within_any (cv nd i 0) 0 ((shlV 1 (gr : Int) : Int) - 1) W; rw [h11] at hq; exact hq) ?_
          rintro e W2 ⟨rfl, rfl⟩
          exact ⟨_, rfl, X.kn rfl, hR.step (Gr.refl _) rfl⟩
         ·intro ac done u W Sx hR
          exact X.vl (X.notB rfl (Sx.ev 34 (.bool true)) rfl) hR.st0
         ·intro ac done u W Sx hR
          exact X.vl (X.move rfl (Sx.ev 35 (.bool false))) hR.st0
         ·intro ac done u W Sx hR
          exact X.val (X.w1 rfl (Sx.yl 8 36 false (by kernel_rfl) rfl rfl)) rfl (X.field rfl (Sx.ev 4 (Vp w7.heap.size)) (X.fld Try.underlying31 rfl (Try.siz3 _) rfl rfl)) hR.st0
         ·intro ac done u W Sx hR
          have g : Gr w10 W := hR.1
          exact X.val (X.w1 rfl (Sx.yl 8 36 false (by kernel_rfl) rfl rfl)) rfl (X.load rfl (Sx.ev 37 (.pointer (some ⟨w7.heap.size, 1, none⟩))) (X.ld1 (Try.agg3 _) ((hC.gr g).at 9 rfl))) hR.st0
         ·intro ac done u W Sx hR
          refine X.call (X.w1 rfl (Sx.yl 8 36 false (by kernel_rfl) rfl rfl)) (X.enter (F := 54) rfl (X.kc (.func (.func 54) #[] #[]) rfl) (X.a3 (Sx.ev 38 (Vi (cv nd i 1))) (X.kc (Vi 0) rfl) (X.kc (Vi 10000) rfl)) (enters_of Try.func54 (by kernel_rfl) rfl _)) (by have hq := within_any (cv nd i 1) 0 10000 W; rw [h13] at hq; exact hq) ?_
          rintro e W2 ⟨rfl, rfl⟩
          exact ⟨_, rfl, X.kn rfl, hR.step (Gr.refl _) rfl⟩
         ·intro ac done u W Sx hR
          exact X.val (X.w1 rfl (Sx.yl 8 36 false (by kernel_rfl) rfl rfl)) rfl (X.notB rfl (Sx.ev 39 (.bool true)) rfl) hR.st0
         ·intro ac done u W Sx hR
          exact X.vl (X.pickF rfl (Sx.ev 36 (.bool false)) (Sx.ev 40 (.bool false))) hR.st0
         ·intro ac done u W Sx hR
          exact X.vl (X.move rfl (Sx.ev 41 (.bool false))) hR.st0
         ·intro ac done u W Sx hR
          exact X.val (X.w1 rfl (Sx.yl 14 42 false (by kernel_rfl) rfl rfl)) rfl (X.field rfl (Sx.ev 4 (Vp w7.heap.size)) (X.fld Try.underlying31 rfl (Try.siz3 _) rfl rfl)) hR.st0
         ·intro ac done u W Sx hR
          have g : Gr w10 W := hR.1
          exact X.val (X.w1 rfl (Sx.yl 14 42 false (by kernel_rfl) rfl rfl)) rfl (X.load rfl (Sx.ev 43 (.pointer (some ⟨w7.heap.size, 2, none⟩))) (X.ld1 (Try.agg3 _) ((hC.gr g).at 10 rfl))) hR.st0
         ·intro ac done u W Sx hR
          exact X.val (X.w1 rfl (Sx.yl 14 42 false (by kernel_rfl) rfl rfl)) rfl (X.field rfl (Sx.ev 4 (Vp w7.heap.size)) (X.fld Try.underlying31 rfl (Try.siz3 _) rfl rfl)) hR.st0
         ·intro ac done u W Sx hR
          have g : Gr w10 W := hR.1
          exact X.val (X.w1 rfl (Sx.yl 14 42 false (by kernel_rfl) rfl rfl)) rfl (X.load rfl (Sx.ev 45 (.pointer (some ⟨w7.heap.size, 1, none⟩))) (X.ld1 (Try.agg3 _) ((hC.gr g).at 9 rfl))) hR.st0
         ·intro ac done u W Sx hR
          refine X.call (X.w1 rfl (Sx.yl 14 42 false (by kernel_rfl) rfl rfl)) (X.enter (F := 54) rfl (X.kc (.func (.func 54) #[] #[]) rfl) (X.a3 (Sx.ev 44 (Vi (cv nd i 2))) (X.kc (Vi 0) rfl) (Sx.ev 46 (Vi (cv nd i 1)))) (enters_of Try.func54 (by kernel_rfl) rfl _)) (by have hq := within_any (cv nd i 2) 0 (cv nd i 1) W; rw [h15] at hq; exact hq) ?_
          rintro e W2 ⟨rfl, rfl⟩
          exact ⟨_, rfl, X.kn rfl, hR.step (Gr.refl _) rfl⟩
         ·intro ac done u W Sx hR
          exact X.val (X.w1 rfl (Sx.yl 14 42 false (by kernel_rfl) rfl rfl)) rfl (X.notB rfl (Sx.ev 47 (.bool true)) rfl) hR.st0
         ·intro ac done u W Sx hR
          exact X.vl (X.pickF rfl (Sx.ev 42 (.bool false)) (Sx.ev 48 (.bool false))) hR.st0
         ·intro ac done u W Sx hR
          exact X.vl (X.move rfl (Sx.ev 49 (.bool false))) hR.st0
         ·intro ac done u W Sx hR
          exact X.val (X.w1 rfl (Sx.yl 22 50 false (by kernel_rfl) rfl rfl)) rfl (X.field rfl (Sx.ev 4 (Vp w7.heap.size)) (X.fld Try.underlying31 rfl (Try.siz3 _) rfl rfl)) hR.st0
         ·intro ac done u W Sx hR
          have g : Gr w10 W := hR.1
          exact X.val (X.w1 rfl (Sx.yl 22 50 false (by kernel_rfl) rfl rfl)) rfl (X.load rfl (Sx.ev 51 (.pointer (some ⟨w7.heap.size, 3, none⟩))) (X.ld1 (Try.agg3 _) ((hC.gr g).at 11 rfl))) hR.st0
         ·intro ac done u W Sx hR
          refine X.call (X.w1 rfl (Sx.yl 22 50 false (by kernel_rfl) rfl rfl)) (X.enter (F := 54) rfl (X.kc (.func (.func 54) #[] #[]) rfl) (X.a3 (Sx.ev 52 (Vi (cv nd i 3))) (X.kc (Vi 0) rfl) (X.kc (Vi 20) rfl)) (enters_of Try.func54 (by kernel_rfl) rfl _)) (by have hq := within_any (cv nd i 3) 0 20 W; rw [h17] at hq; exact hq) ?_
          rintro e W2 ⟨rfl, rfl⟩
          exact ⟨_, rfl, X.kn rfl, hR.step (Gr.refl _) rfl⟩
         ·intro ac done u W Sx hR
          exact X.val (X.w1 rfl (Sx.yl 22 50 false (by kernel_rfl) rfl rfl)) rfl (X.notB rfl (Sx.ev 53 (.bool true)) rfl) hR.st0
         ·intro ac done u W Sx hR
          exact X.vl (X.pickF rfl (Sx.ev 50 (.bool false)) (Sx.ev 54 (.bool false))) hR.st0
         ·intro ac done u W Sx hR
          exact X.vl (X.move rfl (Sx.ev 55 (.bool false))) hR.st0
         ·intro ac done u W Sx hR
          exact X.val (X.w1 rfl (Sx.yl 28 56 false (by kernel_rfl) rfl rfl)) rfl (X.field rfl (Sx.ev 4 (Vp w7.heap.size)) (X.fld Try.underlying31 rfl (Try.siz3 _) rfl rfl)) hR.st0
         ·intro ac done u W Sx hR
          have g : Gr w10 W := hR.1
          exact X.val (X.w1 rfl (Sx.yl 28 56 false (by kernel_rfl) rfl rfl)) rfl (X.load rfl (Sx.ev 57 (.pointer (some ⟨w7.heap.size, 4, none⟩))) (X.ld1 (Try.agg3 _) ((hC.gr g).at 12 rfl))) hR.st0
         ·intro ac done u W Sx hR
          refine X.call (X.w1 rfl (Sx.yl 28 56 false (by kernel_rfl) rfl rfl)) (X.enter (F := 54) rfl (X.kc (.func (.func 54) #[] #[]) rfl) (X.a3 (Sx.ev 58 (Vi (cv nd i 4))) (X.kc (Vi 1) rfl) (X.kc (Vi 1000) rfl)) (enters_of Try.func54 (by kernel_rfl) rfl _)) (within_any (cv nd i 4) 1 1000 W) ?_
          rintro e W2 ⟨rfl, rfl⟩
          exact ⟨_, rfl, X.kn rfl, hR.step (Gr.refl _) rfl⟩
         ·intro ac done u W Sx hR
          exact X.val (X.w1 rfl (Sx.yl 28 56 false (by kernel_rfl) rfl rfl)) rfl (X.notB rfl (Sx.ev 59 (.bool (withinB (cv nd i 4) 1 1000))) rfl) hR.st0
         ·intro ac done u W Sx hR
          exact X.vl (X.pickF rfl (Sx.ev 56 (.bool false)) (Sx.ev 60 (.bool (!(withinB (cv nd i 4) 1 1000))))) hR.st0
         intro ac u w19 hs hd hl ho hR
         have g : Gr w10 w19 := hR.1
         replace F : Fr ac 63 [(1, Vp w.heap.size), (22, .slice (some pd9) n nc), (23, Vi n), (24, Vi i), (61, .bool (!(withinB (cv nd i 4) 1 1000)))] := X.fr hs hd hl _ (by kernel_rfl)
         clear hs hd hl ho hR
         replace G := G.trans g
         replace hC := hC.gr g
         replace GB_ := GB_.trans g
         replace hnd := hnd.gr g
         clear g
         refine X.thenN ?_
         cases h20 : withinB (cv nd i 4) 1 1000 with
         | false =>
          try rw [h20] at F
          refine Y.condT (F.ev 61 (.bool true)) ?_
          refine Y.seq ?_
          refine Y.lit (by kernel_rfl) ?_
          refine Y.pv F (X.assign rfl (X.kc (Vi 90) rfl)) ?_;clear F ac;intro ac F
          refine Y.nil ?_
          replace F : Fr ac 63 [(2, Vi 90)] := F.sub _
          refine X.thenN ?_
          refine Y.ret ?_
          refine X.blockR ?_
          refine X.thenR ?_
          refine X.thenR ?_
          refine X.blockR ?_
          refine X.thenR ?_
          exact Y.ret0 (v := Vi 90) F (Y.rs1 F rfl (by kernel_rfl)) ⟨by rw [(cluE_node hlen (i := i) (by omega) (by simp [nodeB, h11, h13, h15, h17, h20, h4, h5, h6, h8]))], G⟩
         | true =>
          try rw [h20] at F
          refine Y.condF (F.ev 61 (.bool false)) ?_
          refine Y.skip ?_
          refine X.blockN ?_
          refine X.thenN ?_
          refine Y.lit (by kernel_rfl) ?_
          refine Y.pv F (X.binop rfl (F.ev 24 (Vi i)) (X.kc (Vi 1) rfl) (X.addI Try.underlying3 rfl (by omega) (by omega))) ?_;clear F ac;intro ac F
          refine Y.pv F (X.move rfl (F.ev 62 (Vi ((i : Int) + 1)))) ?_;clear F ac;intro ac F
          refine Y.nil ?_
          replace F : Fr ac 63 [(1, Vp w.heap.size), (22, .slice (some pd9) n nc), (23, Vi n), (24, Vi ((i : Int) + 1))] := F.sub _
          refine X.thenN ?_
          refine ⟨_, ?_, i + 1, rfl, GB_, by omega, by simp [allN, hok, nodeB, h11, h13, h15, h17, h20], F.sub _⟩
          omega
   | true =>
    try rw [h6] at F
    have h6p : ((16 : Int) < n) := of_decide_eq_true h6
    refine Y.condT (F.ev 20 (.bool true)) ?_
    refine Y.seq ?_
    refine Y.lit (by kernel_rfl) ?_
    refine Y.pv F (X.assign rfl (X.kc (Vi 90) rfl)) ?_;clear F ac;intro ac F
    refine Y.nil ?_
    replace F : Fr ac 63 [(2, Vi 90)] := F.sub _
    refine X.thenN ?_
    refine Y.ret ?_
    refine X.thenR ?_
    exact Y.ret0 (v := Vi 90) F (Y.rs1 F rfl (by kernel_rfl)) ⟨by rw [(cluE_bad hlen (by simp [cluB, h4, h5, h6] <;> omega))], G⟩
end
section
open Go.RowKit

set_option maxRecDepth 100000 in
set_option maxHeartbeats 400000 in
theorem ticks_any (na : Option Addr) (n nc : Nat) (gr hold t : Int) (nd : List (List Int)) (w : World) (hnd : StAt w 5 na n nd) :
  Calls Try.prog 50 #[.agg #[Vi gr, Vi hold, .slice na n nc], Vi t] w fun e w' => e = .returned (Vi (ticksE gr hold nd t)) ∧ Gr w w' := by
 have G := Gr.refl w
 refine Y.calls 14 Try.func50 rfl rfl ?_
 intro ac F0
 have F : Fr ac 14 [(0, .agg #[Vi gr, Vi hold, .slice na n nc]), (1, Vi t)] := F0.sub _
 clear F0
 refine Y.seq ?_
 refine Y.lit (by kernel_rfl) ?_
 refine Y.pv F (X.box rfl (F.e 0 rfl) X.bx) ?_;clear F ac;intro ac F
 have g := Gr.alloc w (.cells #[Vi gr, Vi hold, .slice na n nc] 24)
 have hb := heap_alloc_new w (.cells #[Vi gr, Vi hold, .slice na n nc] 24)
 have hbl : w.heap.size < (w.alloc (.cells #[Vi gr, Vi hold, .slice na n nc] 24)).heap.size := by simp
 have hC2 : RCells (w.alloc (.cells #[Vi gr, Vi hold, .slice na n nc] 24)) [(Ad w.heap.size 0, Vi gr), (Ad w.heap.size 1, Vi hold), (Ad w.heap.size 2, .slice na n nc)] := (RCells.nil w).box (b := w.heap.size) #[Vi gr, Vi hold, .slice na n nc] 24 rfl
 generalize w.alloc (.cells #[Vi gr, Vi hold, .slice na n nc] 24) = w3 at *
 replace G := G.trans g
 have hC := hC2
 clear hC2
 replace hnd := hnd.gr g
 clear g hb hbl
 refine Y.pv F (X.assign rfl (X.kc (Vi 0) rfl)) ?_;clear F ac;intro ac F
 refine Y.nil ?_
 replace F : Fr ac 14 [(1, Vi t), (2, Vp w.heap.size)] := F.sub _
 refine X.thenN ?_
 refine Y.seq ?_
 refine Y.seq ?_
 refine Y.lit (by kernel_rfl) ?_
 refine Y.pv F (X.load rfl (F.e 2 rfl) (X.ldN (Try.agg24 _) (Try.siz24 _) (Y.atz (⟨w.heap.size, 0, none⟩) (Y.AtFrom.cons (hC.at 0 rfl) (Y.AtFrom.cons (hC.at 1 rfl) (Y.AtFrom.cons (hC.at 2 rfl) (Y.AtFrom.nil _ _ _))))))) ?_;clear F ac;intro ac F
 refine Y.pcall F (X.w0 rfl) rfl (X.enter (F := 25) rfl (X.kc (.func (.func 25) #[] #[]) rfl) (X.a1 (F.e 6 rfl)) (enters_of Try.func25 (by kernel_rfl) rfl _)) (check_any na n nc gr hold nd w3 hnd) ?_
 clear F ac
 rintro e w4 ⟨rfl, g⟩
 refine ⟨_, rfl, ?_⟩
 intro ac F
 replace G := G.trans g
 replace hC := hC.gr g
 replace hnd := hnd.gr g
 clear g
 refine Y.pv F (X.assign rfl (F.e 7 rfl)) ?_;clear F ac;intro ac F
 refine Y.nil ?_
 replace F : Fr ac 14 [(1, Vi t), (5, Vi (cluE gr hold nd))] := F.sub _
 refine X.thenN ?_
 refine Y.seq ?_
 refine Y.lit (by kernel_rfl) ?_
 refine Y.pv F (X.move rfl (F.e 5 rfl)) ?_;clear F ac;intro ac F
 refine Y.pv F (X.binop rfl (F.e 8 rfl) (X.kc (Vi 0) rfl) (X.neqI Try.underlying26 rfl)) ?_;clear F ac;intro ac F
 refine Y.nil ?_
 replace F : Fr ac 14 [(1, Vi t), (5, Vi (cluE gr hold nd)), (9, .bool ((cluE gr hold nd : Int) != 0))] := F.sub _
 refine X.thenN ?_
 cases h5 : ((cluE gr hold nd : Int) != 0) with
 | false =>
  try rw [h5] at F
  have h5p : (cluE gr hold nd : Int) = 0 := by simpa using h5
  refine Y.condF (F.e 9 rfl) ?_
  refine Y.skip ?_
  refine X.thenN ?_
  refine Y.seq ?_
  refine Y.seq ?_
  refine Y.lit (by kernel_rfl) ?_
  refine Y.pv F (X.move rfl (F.e 1 rfl)) ?_;clear F ac;intro ac F
  refine Y.pcall F (X.w0 rfl) rfl (X.enter (F := 54) rfl (X.kc (.func (.func 54) #[] #[]) rfl) (X.a3 (F.e 11 rfl) (X.kc (Vi 0) rfl) (X.kc (Vi 1000) rfl)) (enters_of Try.func54 (by kernel_rfl) rfl _)) (within_any t 0 1000 w4) ?_
  clear F ac
  rintro e w' ⟨rfl, hw_⟩
  obtain rfl : w4 = w' := hw_.symm
  clear hw_
  refine ⟨_, rfl, ?_⟩
  intro ac F
  refine Y.pv F (X.notB rfl (F.e 12 rfl) rfl) ?_;clear F ac;intro ac F
  refine Y.nil ?_
  replace F : Fr ac 14 [(13, .bool (!(withinB t 0 1000)))] := F.sub _
  refine X.thenN ?_
  cases h6 : withinB t 0 1000 with
  | false =>
   try rw [h6] at F
   refine Y.condT (F.e 13 rfl) ?_
   refine Y.seq ?_
   refine Y.lit (by kernel_rfl) ?_
   refine Y.pv F (X.assign rfl (X.kc (Vi 1) rfl)) ?_;clear F ac;intro ac F
   refine Y.nil ?_
   replace F : Fr ac 14 [(4, Vi 1)] := F.sub _
   refine X.thenN ?_
   refine Y.ret ?_
   refine X.thenR ?_
   have he : ¬ cluE gr hold nd ≠ 0 := by simpa using h5p
   exact Y.ret0 (v := Vi 1) F (Y.rs1 F rfl (by kernel_rfl)) ⟨by rw [ticksE, if_neg he]; simp [h6], G⟩
  | true =>
   try rw [h6] at F
   refine Y.condF (F.e 13 rfl) ?_
   refine Y.skip ?_
   refine X.thenN ?_
   refine Y.seq ?_
   refine Y.lit (by kernel_rfl) ?_
   refine Y.pv F (X.assign rfl (X.kc (Vi 0) rfl)) ?_;clear F ac;intro ac F
   refine Y.nil ?_
   replace F : Fr ac 14 [(4, Vi 0)] := F.sub _
   refine X.thenN ?_
   refine Y.ret ?_
   have he : ¬ cluE gr hold nd ≠ 0 := by simpa using h5p
   exact Y.ret0 (v := Vi 0) F (Y.rs1 F rfl (by kernel_rfl)) ⟨by rw [ticksE, if_neg he]; simp [h6], G⟩
 | true =>
  try rw [h5] at F
  have h5p : ¬ (cluE gr hold nd : Int) = 0 := by simpa using h5
  refine Y.condT (F.e 9 rfl) ?_
  refine Y.seq ?_
  refine Y.lit (by kernel_rfl) ?_
  refine Y.pv F (X.move rfl (F.e 5 rfl)) ?_;clear F ac;intro ac F
  refine Y.pv F (X.assign rfl (F.e 10 rfl)) ?_;clear F ac;intro ac F
  refine Y.nil ?_
  replace F : Fr ac 14 [(4, Vi (cluE gr hold nd))] := F.sub _
  refine X.thenN ?_
  refine Y.ret ?_
  refine X.thenR ?_
  have he : cluE gr hold nd ≠ 0 := by simpa using h5p
  exact Y.ret0 (v := Vi (cluE gr hold nd)) F (Y.rs1 F rfl (by kernel_rfl)) ⟨by rw [ticksE, if_pos he], G⟩
set_option maxRecDepth 100000 in
set_option maxHeartbeats 1000000 in
theorem right_any (na : Option Addr) (n nc : Nat) (gr hold t : Int) (nd : List (List Int)) (x : List Int) (w : World) (hnd : StAt w 5 na n nd) (hc : CluOk gr hold nd) (ht : 0 ≤ t ∧ t ≤ 1000) :
  Calls Try.prog 69 #[.agg #[Vi gr, Vi hold, .slice na n nc], Vi t, .agg #[Vi (nv x 0), Vi (nv x 1), Vi (nv x 2), Vi (nv x 3)]] w fun e w' => e = .returned (.bool (rightB gr nd t x)) ∧ Gr w w' := by
 have G := Gr.refl w
 have hlen := hnd.len
 have hlt := hnd.lt
 have h1 := hc.g1
 have h8 := hc.g8
 have h16 := hc.n16
 refine Y.calls 69 Try.func69 rfl rfl ?_
 intro ac F0
 have F : Fr ac 69 [(0, .agg #[Vi gr, Vi hold, .slice na n nc]), (1, Vi t), (2, .agg #[Vi (nv x 0), Vi (nv x 1), Vi (nv x 2), Vi (nv x 3)])] := F0.sub _
 clear F0
 refine Y.seq ?_
 refine Y.lit (by kernel_rfl) ?_
 refine Y.pv F (X.box rfl (F.e 0 rfl) X.bx) ?_;clear F ac;intro ac F
 have g := Gr.alloc w (.cells #[Vi gr, Vi hold, .slice na n nc] 24)
 have hb := heap_alloc_new w (.cells #[Vi gr, Vi hold, .slice na n nc] 24)
 have hbl : w.heap.size < (w.alloc (.cells #[Vi gr, Vi hold, .slice na n nc] 24)).heap.size := by simp
 have hC2 : RCells (w.alloc (.cells #[Vi gr, Vi hold, .slice na n nc] 24)) [(Ad w.heap.size 0, Vi gr), (Ad w.heap.size 1, Vi hold), (Ad w.heap.size 2, .slice na n nc)] := (RCells.nil w).box (b := w.heap.size) #[Vi gr, Vi hold, .slice na n nc] 24 rfl
 generalize w.alloc (.cells #[Vi gr, Vi hold, .slice na n nc] 24) = w3 at *
 replace G := G.trans g
 have hC := hC2
 clear hC2
 replace hnd := hnd.gr g
 clear g hb hbl
 refine Y.pv F (X.box rfl (F.e 2 rfl) X.bx) ?_;clear F ac;intro ac F
 have g := Gr.alloc w3 (.cells #[Vi (nv x 0), Vi (nv x 1), Vi (nv x 2), Vi (nv x 3)] 33)
 have hb := heap_alloc_new w3 (.cells #[Vi (nv x 0), Vi (nv x 1), Vi (nv x 2), Vi (nv x 3)] 33)
 have hbl : w3.heap.size < (w3.alloc (.cells #[Vi (nv x 0), Vi (nv x 1), Vi (nv x 2), Vi (nv x 3)] 33)).heap.size := by simp
 have hC2 : RCells (w3.alloc (.cells #[Vi (nv x 0), Vi (nv x 1), Vi (nv x 2), Vi (nv x 3)] 33)) [(Ad w.heap.size 0, Vi gr), (Ad w.heap.size 1, Vi hold), (Ad w.heap.size 2, .slice na n nc), (Ad w3.heap.size 0, Vi (nv x 0)), (Ad w3.heap.size 1, Vi (nv x 1)), (Ad w3.heap.size 2, Vi (nv x 2)), (Ad w3.heap.size 3, Vi (nv x 3))] := hC.box (b := w3.heap.size) #[Vi (nv x 0), Vi (nv x 1), Vi (nv x 2), Vi (nv x 3)] 33 rfl
 generalize w3.alloc (.cells #[Vi (nv x 0), Vi (nv x 1), Vi (nv x 2), Vi (nv x 3)] 33) = w4 at *
 replace G := G.trans g
 replace hC := hC2
 clear hC2
 replace hnd := hnd.gr g
 clear g hb hbl
 refine Y.pv F (X.assign rfl (X.kc (.bool false) rfl)) ?_;clear F ac;intro ac F
 refine Y.nil ?_
 replace F : Fr ac 69 [(1, Vi t), (3, Vp w.heap.size), (5, Vp w3.heap.size)] := F.sub _
 refine X.thenN ?_
 refine Y.seq ?_
 refine Y.seq ?_
 refine Y.lit (by kernel_rfl) ?_
 refine Y.pv F (X.field rfl (F.e 5 rfl) (X.fld Try.underlying33 rfl (Try.siz3 _) rfl rfl)) ?_;clear F ac;intro ac F
 refine Y.pv F (X.load rfl (F.e 7 rfl) (X.ld1 (Try.agg3 _) (hC.at 3 rfl))) ?_;clear F ac;intro ac F
 refine Y.pv F (X.move rfl (F.e 1 rfl)) ?_;clear F ac;intro ac F
 refine Y.pv F (X.binop rfl (F.e 9 rfl) (X.kc (Vi 1) rfl) (X.subI Try.underlying3 rfl (by omega) (by omega))) ?_;clear F ac;intro ac F
 refine Y.pcall F (X.w0 rfl) rfl (X.enter (F := 54) rfl (X.kc (.func (.func 54) #[] #[]) rfl) (X.a3 (F.e 8 rfl) (X.kc (Vi 0) rfl) (F.e 10 rfl)) (enters_of Try.func54 (by kernel_rfl) rfl _)) (within_any (nv x 0) 0 ((t : Int) - 1) w4) ?_
 clear F ac
 rintro e w' ⟨rfl, hw_⟩
 obtain rfl : w4 = w' := hw_.symm
 clear hw_
 refine ⟨_, rfl, ?_⟩
 intro ac F
 refine Y.pv F (X.notB rfl (F.e 11 rfl) rfl) ?_;clear F ac;intro ac F
 refine Y.pv F (X.move rfl (F.e 12 rfl)) ?_;clear F ac;intro ac F
 cases h5 : withinB (nv x 0) 0 ((t : Int) - 1) with
 | false =>
  try rw [h5] at F
  refine Y.pskip F (X.w2 rfl (F.yl (j := 6) (d := 13) (b := true) rfl (by kernel_rfl)) rfl) rfl ?_;clear F ac;intro ac F
  refine Y.pskip F (X.w2 rfl (F.yl (j := 6) (d := 13) (b := true) rfl (by kernel_rfl)) rfl) rfl ?_;clear F ac;intro ac F
  refine Y.pskip F (X.w2 rfl (F.yl (j := 6) (d := 13) (b := true) rfl (by kernel_rfl)) rfl) rfl ?_;clear F ac;intro ac F
  refine Y.pskip F (X.w2 rfl (F.yl (j := 6) (d := 13) (b := true) rfl (by kernel_rfl)) rfl) rfl ?_;clear F ac;intro ac F
  refine Y.pskip F (X.w2 rfl (F.yl (j := 6) (d := 13) (b := true) rfl (by kernel_rfl)) rfl) rfl ?_;clear F ac;intro ac F
  refine Y.pskip F (X.w2 rfl (F.yl (j := 6) (d := 13) (b := true) rfl (by kernel_rfl)) rfl) rfl ?_;clear F ac;intro ac F
  refine Y.pskip F (X.w2 rfl (F.yl (j := 6) (d := 13) (b := true) rfl (by kernel_rfl)) rfl) rfl ?_;clear F ac;intro ac F
  refine Y.pskip F (X.w2 rfl (F.yl (j := 6) (d := 13) (b := true) rfl (by kernel_rfl)) rfl) rfl ?_;clear F ac;intro ac F
  refine Y.pv F (X.pickT rfl (F.e 13 rfl) (X.kc (.bool true) rfl)) ?_;clear F ac;intro ac F
  refine Y.nil ?_
  replace F : Fr ac 69 [(3, Vp w.heap.size), (5, Vp w3.heap.size), (22, .bool true)] := F.sub _
  refine X.thenN ?_
  refine Y.condT (F.e 22 rfl) ?_
  refine Y.seq ?_
  refine Y.lit (by kernel_rfl) ?_
  refine Y.pv F (X.assign rfl (X.kc (.bool false) rfl)) ?_;clear F ac;intro ac F
  refine Y.nil ?_
  replace F : Fr ac 69 [(6, .bool false)] := F.sub _
  refine X.thenN ?_
  refine Y.ret ?_
  refine X.thenR ?_
  exact Y.ret0 (v := .bool false) F (Y.rs1 F rfl (by kernel_rfl)) ⟨by simp only [rightB, kindB, hlen]; simp [bitB, h5], G⟩
 | true =>
  try rw [h5] at F
  refine Y.pval F (X.w1 rfl (F.yl (j := 6) (d := 13) (b := false) rfl (by kernel_rfl))) rfl (X.field rfl (F.e 5 rfl) (X.fld Try.underlying33 rfl (Try.siz3 _) rfl rfl)) ?_;clear F ac;intro ac F
  refine Y.pval F (X.w1 rfl (F.yl (j := 6) (d := 13) (b := false) rfl (by kernel_rfl))) rfl (X.load rfl (F.e 14 rfl) (X.ld1 (Try.agg3 _) (hC.at 5 rfl))) ?_;clear F ac;intro ac F
  refine Y.pval F (X.w1 rfl (F.yl (j := 6) (d := 13) (b := false) rfl (by kernel_rfl))) rfl (X.field rfl (F.e 3 rfl) (X.fld Try.underlying24 rfl (Try.siz22 _) rfl rfl)) ?_;clear F ac;intro ac F
  refine Y.pval F (X.w1 rfl (F.yl (j := 6) (d := 13) (b := false) rfl (by kernel_rfl))) rfl (X.load rfl (F.e 16 rfl) (X.ld1 (Try.agg22 _) (hC.at 2 rfl))) ?_;clear F ac;intro ac F
  refine Y.pval F (X.w1 rfl (F.yl (j := 6) (d := 13) (b := false) rfl (by kernel_rfl))) rfl (X.len1 Try.underlying22 rfl (F.e 17 rfl)) ?_;clear F ac;intro ac F
  refine Y.pval F (X.w1 rfl (F.yl (j := 6) (d := 13) (b := false) rfl (by kernel_rfl))) rfl (X.binop rfl (F.e 18 rfl) (X.kc (Vi 1) rfl) (X.subI Try.underlying3 rfl (by omega) (by omega))) ?_;clear F ac;intro ac F
  refine Y.pcall F (X.w1 rfl (F.yl (j := 6) (d := 13) (b := false) rfl (by kernel_rfl))) rfl (X.enter (F := 54) rfl (X.kc (.func (.func 54) #[] #[]) rfl) (X.a3 (F.e 15 rfl) (X.kc (Vi 0) rfl) (F.e 19 rfl)) (enters_of Try.func54 (by kernel_rfl) rfl _)) (within_any (nv x 2) 0 ((n : Int) - 1) w4) ?_
  clear F ac
  rintro e w' ⟨rfl, hw_⟩
  obtain rfl : w4 = w' := hw_.symm
  clear hw_
  refine ⟨_, rfl, ?_⟩
  intro ac F
  refine Y.pval F (X.w1 rfl (F.yl (j := 6) (d := 13) (b := false) rfl (by kernel_rfl))) rfl (X.notB rfl (F.e 20 rfl) rfl) ?_;clear F ac;intro ac F
  refine Y.pv F (X.pickF rfl (F.e 13 rfl) (F.e 21 rfl)) ?_;clear F ac;intro ac F
  refine Y.nil ?_
  replace F : Fr ac 69 [(3, Vp w.heap.size), (5, Vp w3.heap.size), (22, .bool (!(withinB (nv x 2) 0 ((n : Int) - 1))))] := F.sub _
  refine X.thenN ?_
  cases h6 : withinB (nv x 2) 0 ((n : Int) - 1) with
  | false =>
   try rw [h6] at F
   refine Y.condT (F.e 22 rfl) ?_
   refine Y.seq ?_
   refine Y.lit (by kernel_rfl) ?_
   refine Y.pv F (X.assign rfl (X.kc (.bool false) rfl)) ?_;clear F ac;intro ac F
   refine Y.nil ?_
   replace F : Fr ac 69 [(6, .bool false)] := F.sub _
   refine X.thenN ?_
   refine Y.ret ?_
   refine X.thenR ?_
   exact Y.ret0 (v := .bool false) F (Y.rs1 F rfl (by kernel_rfl)) ⟨by simp only [rightB, kindB, hlen]; simp [bitB, h5, h6], G⟩
  | true =>
   try rw [h6] at F
   have hnn := withinB_ok h6
   refine Y.condF (F.e 22 rfl) ?_
   refine Y.skip ?_
   refine X.thenN ?_
   refine Y.seq ?_
   refine Y.seq ?_
   refine Y.lit (by kernel_rfl) ?_
   refine Y.pv F (X.field rfl (F.e 5 rfl) (X.fld Try.underlying33 rfl (Try.siz3 _) rfl rfl)) ?_;clear F ac;intro ac F
   refine Y.pv F (X.load rfl (F.e 23 rfl) (X.ld1 (Try.agg3 _) (hC.at 4 rfl))) ?_;clear F ac;intro ac F
   refine Y.nil ?_
   replace F : Fr ac 69 [(3, Vp w.heap.size), (5, Vp w3.heap.size), (24, Vi (nv x 1))] := F.sub _
   refine X.thenN ?_
   refine Y.block ?_
   refine Y.seq ?_
   refine Y.seq ?_
   refine Y.lit (by kernel_rfl) ?_
   refine Y.pv F (X.binop rfl (F.e 24 rfl) (X.kc (Vi 1) rfl) (X.eqlI Try.underlying3 rfl)) ?_;clear F ac;intro ac F
   refine Y.pv F (X.assign rfl (F.e 26 rfl)) ?_;clear F ac;intro ac F
   refine Y.nil ?_
   replace F : Fr ac 69 [(3, Vp w.heap.size), (5, Vp w3.heap.size), (24, Vi (nv x 1)), (25, .bool ((nv x 1 : Int) == 1))] := F.sub _
   refine X.thenN ?_
   cases h7 : ((nv x 1 : Int) == 1) with
   | false =>
    try rw [h7] at F
    have h7p : ¬ (nv x 1 : Int) = 1 := by simpa using h7
    refine Y.condF (F.e 25 rfl) ?_
    refine Y.lit (by kernel_rfl) ?_
    refine Y.pv F (X.binop rfl (F.e 24 rfl) (X.kc (Vi 2) rfl) (X.eqlI Try.underlying3 rfl)) ?_;clear F ac;intro ac F
    refine Y.pv F (X.assign rfl (F.e 27 rfl)) ?_;clear F ac;intro ac F
    refine Y.nil ?_
    replace F : Fr ac 69 [(3, Vp w.heap.size), (5, Vp w3.heap.size), (24, Vi (nv x 1)), (25, .bool ((nv x 1 : Int) == 2))] := F.sub _
    refine X.thenN ?_
    cases h8 : ((nv x 1 : Int) == 2) with
    | false =>
     try rw [h8] at F
     have h8p : ¬ (nv x 1 : Int) = 2 := by simpa using h8
     refine Y.condF (F.e 25 rfl) ?_
     refine Y.seq ?_
     refine Y.lit (by kernel_rfl) ?_
     refine Y.pv F (X.binop rfl (F.e 24 rfl) (X.kc (Vi 3) rfl) (X.eqlI Try.underlying3 rfl)) ?_;clear F ac;intro ac F
     refine Y.pv F (X.assign rfl (F.e 49 rfl)) ?_;clear F ac;intro ac F
     refine Y.nil ?_
     replace F : Fr ac 69 [(3, Vp w.heap.size), (5, Vp w3.heap.size), (24, Vi (nv x 1)), (48, .bool ((nv x 1 : Int) == 3))] := F.sub _
     refine X.thenN ?_
     cases h9 : ((nv x 1 : Int) == 3) with
     | false =>
      try rw [h9] at F
      have h9p : ¬ (nv x 1 : Int) = 3 := by simpa using h9
      refine Y.condF (F.e 48 rfl) ?_
      refine Y.seq ?_
      refine Y.lit (by kernel_rfl) ?_
      refine Y.pv F (X.binop rfl (F.e 24 rfl) (X.kc (Vi 4) rfl) (X.eqlI Try.underlying3 rfl)) ?_;clear F ac;intro ac F
      refine Y.pv F (X.assign rfl (F.e 54 rfl)) ?_;clear F ac;intro ac F
      refine Y.nil ?_
      replace F : Fr ac 69 [(3, Vp w.heap.size), (5, Vp w3.heap.size), (53, .bool ((nv x 1 : Int) == 4))] := F.sub _
      refine X.thenN ?_
      cases h10 : ((nv x 1 : Int) == 4) with
      | false =>
       try rw [h10] at F
       have h10p : ¬ (nv x 1 : Int) = 4 := by simpa using h10
       refine Y.condF (F.e 53 rfl) ?_
       refine Y.skip ?_
       refine X.blockN ?_
       refine X.thenN ?_
       refine Y.seq ?_
       refine Y.lit (by kernel_rfl) ?_
       refine Y.pv F (X.assign rfl (X.kc (.bool false) rfl)) ?_;clear F ac;intro ac F
       refine Y.nil ?_
       replace F : Fr ac 69 [(6, .bool false)] := F.sub _
       refine X.thenN ?_
       refine Y.ret ?_
       exact Y.ret0 (v := .bool false) F (Y.rs1 F rfl (by kernel_rfl)) ⟨by simp only [rightB, kindB, hlen]; simp [bitB, h10, h10p, h5, h6, h7, h7p, h8, h8p, h9, h9p], G⟩
      | true =>
       try rw [h10] at F
       have h10p : (nv x 1 : Int) = 4 := by simpa using h10
       refine Y.condT (F.e 53 rfl) ?_
       refine Y.seq ?_
       refine Y.lit (by kernel_rfl) ?_
       refine Y.pv F (X.field rfl (F.e 5 rfl) (X.fld Try.underlying33 rfl (Try.siz3 _) rfl rfl)) ?_;clear F ac;intro ac F
       refine Y.pv F (X.load rfl (F.e 55 rfl) (X.ld1 (Try.agg3 _) (hC.at 6 rfl))) ?_;clear F ac;intro ac F
       refine Y.pv F (X.field rfl (F.e 3 rfl) (X.fld Try.underlying24 rfl (Try.siz22 _) rfl rfl)) ?_;clear F ac;intro ac F
       refine Y.pv F (X.load rfl (F.e 57 rfl) (X.ld1 (Try.agg22 _) (hC.at 2 rfl))) ?_;clear F ac;intro ac F
       refine Y.pv F (X.len1 Try.underlying22 rfl (F.e 58 rfl)) ?_;clear F ac;intro ac F
       refine Y.pv F (X.binop rfl (F.e 59 rfl) (X.kc (Vi 1) rfl) (X.subI Try.underlying3 rfl (by omega) (by omega))) ?_;clear F ac;intro ac F
       refine Y.pcall F (X.w0 rfl) rfl (X.enter (F := 54) rfl (X.kc (.func (.func 54) #[] #[]) rfl) (X.a3 (F.e 56 rfl) (X.kc (Vi 0) rfl) (F.e 60 rfl)) (enters_of Try.func54 (by kernel_rfl) rfl _)) (within_any (nv x 3) 0 ((n : Int) - 1) w4) ?_
       clear F ac
       rintro e w' ⟨rfl, hw_⟩
       obtain rfl : w4 = w' := hw_.symm
       clear hw_
       refine ⟨_, rfl, ?_⟩
       intro ac F
       refine Y.pv F (X.move rfl (F.e 61 rfl)) ?_;clear F ac;intro ac F
       cases h11 : withinB (nv x 3) 0 ((n : Int) - 1) with
       | false =>
        try rw [h11] at F
        refine Y.pskip F (X.w2 rfl (F.yl (j := 7) (d := 62) (b := false) rfl (by kernel_rfl)) rfl) rfl ?_;clear F ac;intro ac F
        refine Y.pskip F (X.w2 rfl (F.yl (j := 7) (d := 62) (b := false) rfl (by kernel_rfl)) rfl) rfl ?_;clear F ac;intro ac F
        refine Y.pskip F (X.w2 rfl (F.yl (j := 7) (d := 62) (b := false) rfl (by kernel_rfl)) rfl) rfl ?_;clear F ac;intro ac F
        refine Y.pskip F (X.w2 rfl (F.yl (j := 7) (d := 62) (b := false) rfl (by kernel_rfl)) rfl) rfl ?_;clear F ac;intro ac F
        refine Y.pskip F (X.w2 rfl (F.yl (j := 7) (d := 62) (b := false) rfl (by kernel_rfl)) rfl) rfl ?_;clear F ac;intro ac F
        refine Y.pv F (X.pickF rfl (F.e 62 rfl) (X.kc (.bool false) rfl)) ?_;clear F ac;intro ac F
        refine Y.pv F (X.assign rfl (F.e 68 rfl)) ?_;clear F ac;intro ac F
        refine Y.nil ?_
        replace F : Fr ac 69 [(6, .bool false)] := F.sub _
        refine X.thenN ?_
        refine Y.ret ?_
        refine X.blockR ?_
        refine X.thenR ?_
        exact Y.ret0 (v := .bool false) F (Y.rs1 F rfl (by kernel_rfl)) ⟨by simp only [rightB, kindB, hlen]; simp [bitB, h10, h10p, h11, h5, h6, h7, h7p, h8, h8p, h9, h9p], G⟩
       | true =>
        try rw [h11] at F
        have hn3 := withinB_ok h11
        refine Y.pval F (X.w1 rfl (F.yl (j := 7) (d := 62) (b := true) rfl (by kernel_rfl))) rfl (X.field rfl (F.e 5 rfl) (X.fld Try.underlying33 rfl (Try.siz3 _) rfl rfl)) ?_;clear F ac;intro ac F
        refine Y.pval F (X.w1 rfl (F.yl (j := 7) (d := 62) (b := true) rfl (by kernel_rfl))) rfl (X.load rfl (F.e 63 rfl) (X.ld1 (Try.agg3 _) (hC.at 6 rfl))) ?_;clear F ac;intro ac F
        refine Y.pval F (X.w1 rfl (F.yl (j := 7) (d := 62) (b := true) rfl (by kernel_rfl))) rfl (X.field rfl (F.e 5 rfl) (X.fld Try.underlying33 rfl (Try.siz3 _) rfl rfl)) ?_;clear F ac;intro ac F
        refine Y.pval F (X.w1 rfl (F.yl (j := 7) (d := 62) (b := true) rfl (by kernel_rfl))) rfl (X.load rfl (F.e 65 rfl) (X.ld1 (Try.agg3 _) (hC.at 5 rfl))) ?_;clear F ac;intro ac F
        refine Y.pval F (X.w1 rfl (F.yl (j := 7) (d := 62) (b := true) rfl (by kernel_rfl))) rfl (X.binop rfl (F.e 64 rfl) (F.e 66 rfl) (X.neqI Try.underlying3 rfl)) ?_;clear F ac;intro ac F
        refine Y.pv F (X.pickT rfl (F.e 62 rfl) (F.e 67 rfl)) ?_;clear F ac;intro ac F
        refine Y.pv F (X.assign rfl (F.e 68 rfl)) ?_;clear F ac;intro ac F
        refine Y.nil ?_
        replace F : Fr ac 69 [(6, .bool ((nv x 3 : Int) != (nv x 2)))] := F.sub _
        refine X.thenN ?_
        refine Y.ret ?_
        refine X.blockR ?_
        refine X.thenR ?_
        exact Y.ret0 (v := .bool ((nv x 3 : Int) != (nv x 2))) F (Y.rs1 F rfl (by kernel_rfl)) ⟨by simp only [rightB, kindB, hlen]; simp [bitB, h10, h10p, h11, h5, h6, h7, h7p, h8, h8p, h9, h9p], G⟩
     | true =>
      try rw [h9] at F
      have h9p : (nv x 1 : Int) = 3 := by simpa using h9
      refine Y.condT (F.e 48 rfl) ?_
      refine Y.seq ?_
      refine Y.lit (by kernel_rfl) ?_
      refine Y.pv F (X.field rfl (F.e 5 rfl) (X.fld Try.underlying33 rfl (Try.siz3 _) rfl rfl)) ?_;clear F ac;intro ac F
      refine Y.pv F (X.load rfl (F.e 50 rfl) (X.ld1 (Try.agg3 _) (hC.at 6 rfl))) ?_;clear F ac;intro ac F
      refine Y.pv F (X.binop rfl (F.e 51 rfl) (X.kc (Vi 0) rfl) (X.eqlI Try.underlying3 rfl)) ?_;clear F ac;intro ac F
      refine Y.pv F (X.assign rfl (F.e 52 rfl)) ?_;clear F ac;intro ac F
      refine Y.nil ?_
      replace F : Fr ac 69 [(6, .bool ((nv x 3 : Int) == 0))] := F.sub _
      refine X.thenN ?_
      refine Y.ret ?_
      refine X.blockR ?_
      refine X.thenR ?_
      exact Y.ret0 (v := .bool ((nv x 3 : Int) == 0)) F (Y.rs1 F rfl (by kernel_rfl)) ⟨by simp only [rightB, kindB, hlen]; simp [bitB, h5, h6, h7, h7p, h8, h8p, h9, h9p], G⟩
    | true =>
     try rw [h8] at F
     have h8p : (nv x 1 : Int) = 2 := by simpa using h8
     refine Y.condT (F.e 25 rfl) ?_
     refine Y.seq ?_
     cases h12 : withinB (nv x 3) 0 ((gr : Int) - 1) with
     | false =>
      try rw [h12] at F
      refine Y.region F [some (.pointer (some ⟨w3.heap.size, 3, none⟩)), some (Vi (nv x 3)), some (Vp w.heap.size), some (Vi gr), some (Vi ((gr : Int) - 1)), some (.bool false), some (.bool false), none, none, none, none, none, none, none, none, none, none, none, none, some (.bool false), some (.bool false)] [] rfl ⟨by kernel_rfl, of_decide_eq_true (by kernel_rfl), by kernel_rfl, by kernel_rfl, by kernel_rfl⟩ ⟨?_, ?_, ?_, ?_, ?_, ?_, ?_, ?_, ?_, ?_, ?_, ?_, ?_, ?_, ?_, ?_, ?_, ?_, ?_, ?_, ?_, trivial⟩ ?_
      ·intro ac done u W Sx hR
       exact X.vl (X.field rfl (Sx.ev 5 (Vp w3.heap.size)) (X.fld Try.underlying33 rfl (Try.siz3 _) rfl rfl)) hR.st0
      ·intro ac done u W Sx hR
       have g : Gr w4 W := hR.1
       exact X.vl (X.load rfl (Sx.ev 28 (.pointer (some ⟨w3.heap.size, 3, none⟩))) (X.ld1 (Try.agg3 _) ((hC.gr g).at 6 rfl))) hR.st0
      ·intro ac done u W Sx hR
       exact X.vl (X.field rfl (Sx.ev 3 (Vp w.heap.size)) (X.fld Try.underlying24 rfl (Try.siz3 _) rfl rfl)) hR.st0
      ·intro ac done u W Sx hR
       have g : Gr w4 W := hR.1
       exact X.vl (X.load rfl (Sx.ev 30 (Vp w.heap.size)) (X.ld1 (Try.agg3 _) ((hC.gr g).at 0 rfl))) hR.st0
      ·intro ac done u W Sx hR
       exact X.vl (X.binop rfl (Sx.ev 31 (Vi gr)) (X.kc (Vi 1) rfl) (X.subI Try.underlying3 rfl (by omega) (by omega))) hR.st0
      ·intro ac done u W Sx hR
       refine X.call (X.w0 rfl) (X.enter (F := 54) rfl (X.kc (.func (.func 54) #[] #[]) rfl) (X.a3 (Sx.ev 29 (Vi (nv x 3))) (X.kc (Vi 0) rfl) (Sx.ev 32 (Vi ((gr : Int) - 1)))) (enters_of Try.func54 (by kernel_rfl) rfl _)) (by have hq := within_any (nv x 3) 0 ((gr : Int) - 1) W; rw [h12] at hq; exact hq) ?_
       rintro e W2 ⟨rfl, rfl⟩
       exact ⟨_, rfl, X.kn rfl, hR.step (Gr.refl _) rfl⟩
      ·intro ac done u W Sx hR
       exact X.vl (X.move rfl (Sx.ev 33 (.bool false))) hR.st0
      ·intro ac done u W Sx hR
       exact X.skip (X.w2 rfl (Sx.yl 6 34 false (by kernel_rfl) rfl rfl) rfl) rfl (hR.skip rfl)
      ·intro ac done u W Sx hR
       exact X.skip (X.w2 rfl (Sx.yl 6 34 false (by kernel_rfl) rfl rfl) rfl) rfl (hR.skip rfl)
      ·intro ac done u W Sx hR
       exact X.skip (X.w2 rfl (Sx.yl 6 34 false (by kernel_rfl) rfl rfl) rfl) rfl (hR.skip rfl)
      ·intro ac done u W Sx hR
       exact X.skip (X.w2 rfl (Sx.yl 6 34 false (by kernel_rfl) rfl rfl) rfl) rfl (hR.skip rfl)
      ·intro ac done u W Sx hR
       exact X.skip (X.w2 rfl (Sx.yl 6 34 false (by kernel_rfl) rfl rfl) rfl) rfl (hR.skip rfl)
      ·intro ac done u W Sx hR
       exact X.skip (X.w2 rfl (Sx.yl 6 34 false (by kernel_rfl) rfl rfl) rfl) rfl (hR.skip rfl)
      ·intro ac done u W Sx hR
       exact X.skip (X.w2 rfl (Sx.yl 6 34 false (by kernel_rfl) rfl rfl) rfl) rfl (hR.skip rfl)
      ·intro ac done u W Sx hR
       exact X.skip (X.w2 rfl (Sx.yl 6 34 false (by kernel_rfl) rfl rfl) rfl) rfl (hR.skip rfl)
      ·intro ac done u W Sx hR
       exact X.skip (X.w2 rfl (Sx.yl 6 34 false (by kernel_rfl) rfl rfl) rfl) rfl (hR.skip rfl)
      ·intro ac done u W Sx hR
       exact X.skip (X.w2 rfl (Sx.yl 6 34 false (by kernel_rfl) rfl rfl) rfl) rfl (hR.skip rfl)
      ·intro ac done u W Sx hR
       exact X.skip (X.w2 rfl (Sx.yl 6 34 false (by kernel_rfl) rfl rfl) rfl) rfl (hR.skip rfl)
      ·intro ac done u W Sx hR
       exact X.skip (X.w2 rfl (Sx.yl 6 34 false (by kernel_rfl) rfl rfl) rfl) rfl (hR.skip rfl)
      ·intro ac done u W Sx hR
       exact X.vl (X.pickF rfl (Sx.ev 34 (.bool false)) (X.kc (.bool false) rfl)) hR.st0
      ·intro ac done u W Sx hR
       exact X.vl (X.assign rfl (Sx.ev 47 (.bool false))) hR.st0
      intro ac u w13 hs hd hl ho hR
      have g : Gr w4 w13 := hR.1
      replace F : Fr ac 69 [(6, .bool false)] := X.fr hs hd hl _ (by kernel_rfl)
      clear hs hd hl ho hR
      replace G := G.trans g
      replace hC := hC.gr g
      replace hnd := hnd.gr g
      clear g
      refine X.thenN ?_
      refine Y.ret ?_
      refine X.blockR ?_
      refine X.thenR ?_
      exact Y.ret0 (v := .bool false) F (Y.rs1 F rfl (by kernel_rfl)) ⟨by simp only [rightB, kindB, hlen]; simp [bitB, h12, h5, h6, h7, h7p, h8, h8p], G⟩
     | true =>
      try rw [h12] at F
      have hn3 := withinB_ok h12
      obtain ⟨pd14, pe14, -, -, pc14⟩ := hnd.at (j := (nv x 2).toNat) (by omega)
      subst pe14
      replace hC : RCells w4 [(Ad w.heap.size 0, Vi gr), (Ad w.heap.size 1, Vi hold), (Ad w.heap.size 2, .slice (some pd14) n nc), (Ad w3.heap.size 0, Vi (nv x 0)), (Ad w3.heap.size 1, Vi (nv x 1)), (Ad w3.heap.size 2, Vi (nv x 2)), (Ad w3.heap.size 3, Vi (nv x 3)), (pd14.add (((nv x 2).toNat) * 5), Vi (cv nd ((nv x 2).toNat) 0)), (⟨(pd14.add (((nv x 2).toNat) * 5)).block, (pd14.add (((nv x 2).toNat) * 5)).off + 1, none⟩, Vi (cv nd ((nv x 2).toNat) 1)), (⟨(pd14.add (((nv x 2).toNat) * 5)).block, (pd14.add (((nv x 2).toNat) * 5)).off + 2, none⟩, Vi (cv nd ((nv x 2).toNat) 2)), (⟨(pd14.add (((nv x 2).toNat) * 5)).block, (pd14.add (((nv x 2).toNat) * 5)).off + 3, none⟩, Vi (cv nd ((nv x 2).toNat) 3)), (⟨(pd14.add (((nv x 2).toNat) * 5)).block, (pd14.add (((nv x 2).toNat) * 5)).off + 4, none⟩, Vi (cv nd ((nv x 2).toNat) 4))] := hC.append ((RCells.cons (pc14 0 (by decide)) (RCells.cons (pc14 1 (by decide)) (RCells.cons (pc14 2 (by decide)) (RCells.cons (pc14 3 (by decide)) (RCells.cons (pc14 4 (by decide)) (RCells.nil _)))))))
      clear pc14
      refine Y.region F [some (.pointer (some ⟨w3.heap.size, 3, none⟩)), some (Vi (nv x 3)), some (Vp w.heap.size), some (Vi gr), some (Vi ((gr : Int) - 1)), some (.bool true), some (.bool true), some (.pointer (some ⟨w.heap.size, 2, none⟩)), some (.slice (some pd14) n nc), some (.pointer (some ⟨w3.heap.size, 2, none⟩)), some (Vi (nv x 2)), some (.pointer (some (pd14.add (((nv x 2).toNat) * 5)))), some (.pointer (some (pd14.add (((nv x 2).toNat) * 5)))), some (Vi (cv nd ((nv x 2).toNat) 0)), some (.pointer (some ⟨w3.heap.size, 3, none⟩)), some (Vi (nv x 3)), some (Vi (shrV (cv nd ((nv x 2).toNat) 0 : Int) (nv x 3 : Int))), some (Vi (andV (shrV (cv nd ((nv x 2).toNat) 0 : Int) (nv x 3 : Int) : Int) 1)), some (.bool ((andV (shrV (cv nd ((nv x 2).toNat) 0 : Int) (nv x 3 : Int) : Int) 1 : Int) == 1)), some (.bool ((andV (shrV (cv nd ((nv x 2).toNat) 0 : Int) (nv x 3 : Int) : Int) 1 : Int) == 1)), some (.bool ((andV (shrV (cv nd ((nv x 2).toNat) 0 : Int) (nv x 3 : Int) : Int) 1 : Int) == 1))] [] rfl ⟨by kernel_rfl, of_decide_eq_true (by kernel_rfl), by kernel_rfl, by kernel_rfl, by kernel_rfl⟩ ⟨?_, ?_, ?_, ?_, ?_, ?_, ?_, ?_, ?_, ?_, ?_, ?_, ?_, ?_, ?_, ?_, ?_, ?_, ?_, ?_, ?_, trivial⟩ ?_
      ·intro ac done u W Sx hR
       exact X.vl (X.field rfl (Sx.ev 5 (Vp w3.heap.size)) (X.fld Try.underlying33 rfl (Try.siz3 _) rfl rfl)) hR.st0
      ·intro ac done u W Sx hR
       have g : Gr w4 W := hR.1
       exact X.vl (X.load rfl (Sx.ev 28 (.pointer (some ⟨w3.heap.size, 3, none⟩))) (X.ld1 (Try.agg3 _) ((hC.gr g).at 6 rfl))) hR.st0
      ·intro ac done u W Sx hR
       exact X.vl (X.field rfl (Sx.ev 3 (Vp w.heap.size)) (X.fld Try.underlying24 rfl (Try.siz3 _) rfl rfl)) hR.st0
      ·intro ac done u W Sx hR
       have g : Gr w4 W := hR.1
       exact X.vl (X.load rfl (Sx.ev 30 (Vp w.heap.size)) (X.ld1 (Try.agg3 _) ((hC.gr g).at 0 rfl))) hR.st0
      ·intro ac done u W Sx hR
       exact X.vl (X.binop rfl (Sx.ev 31 (Vi gr)) (X.kc (Vi 1) rfl) (X.subI Try.underlying3 rfl (by omega) (by omega))) hR.st0
      ·intro ac done u W Sx hR
       refine X.call (X.w0 rfl) (X.enter (F := 54) rfl (X.kc (.func (.func 54) #[] #[]) rfl) (X.a3 (Sx.ev 29 (Vi (nv x 3))) (X.kc (Vi 0) rfl) (Sx.ev 32 (Vi ((gr : Int) - 1)))) (enters_of Try.func54 (by kernel_rfl) rfl _)) (by have hq := within_any (nv x 3) 0 ((gr : Int) - 1) W; rw [h12] at hq; exact hq) ?_
       rintro e W2 ⟨rfl, rfl⟩
       exact ⟨_, rfl, X.kn rfl, hR.step (Gr.refl _) rfl⟩
      ·intro ac done u W Sx hR
       exact X.vl (X.move rfl (Sx.ev 33 (.bool true))) hR.st0
      ·intro ac done u W Sx hR
       exact X.val (X.w1 rfl (Sx.yl 6 34 true (by kernel_rfl) rfl rfl)) rfl (X.field rfl (Sx.ev 3 (Vp w.heap.size)) (X.fld Try.underlying24 rfl (Try.siz22 _) rfl rfl)) hR.st0
      ·intro ac done u W Sx hR
       have g : Gr w4 W := hR.1
       exact X.val (X.w1 rfl (Sx.yl 6 34 true (by kernel_rfl) rfl rfl)) rfl (X.load rfl (Sx.ev 35 (.pointer (some ⟨w.heap.size, 2, none⟩))) (X.ld1 (Try.agg22 _) ((hC.gr g).at 2 rfl))) hR.st0
      ·intro ac done u W Sx hR
       exact X.val (X.w1 rfl (Sx.yl 6 34 true (by kernel_rfl) rfl rfl)) rfl (X.field rfl (Sx.ev 5 (Vp w3.heap.size)) (X.fld Try.underlying33 rfl (Try.siz3 _) rfl rfl)) hR.st0
      ·intro ac done u W Sx hR
       have g : Gr w4 W := hR.1
       exact X.val (X.w1 rfl (Sx.yl 6 34 true (by kernel_rfl) rfl rfl)) rfl (X.load rfl (Sx.ev 37 (.pointer (some ⟨w3.heap.size, 2, none⟩))) (X.ld1 (Try.agg3 _) ((hC.gr g).at 5 rfl))) hR.st0
      ·intro ac done u W Sx hR
       exact X.val (X.w1 rfl (Sx.yl 6 34 true (by kernel_rfl) rfl rfl)) rfl (X.index rfl (Sx.ev 36 (.slice (some pd14) n nc)) (Sx.ev 38 (Vi (nv x 2))) (X.idx (k := (nv x 2).toNat) Try.underlying22 (Try.siz31 _) (by omega) (by omega) rfl)) hR.st0
      ·intro ac done u W Sx hR
       exact X.val (X.w1 rfl (Sx.yl 6 34 true (by kernel_rfl) rfl rfl)) rfl (X.field rfl (Sx.ev 39 (.pointer (some (pd14.add (((nv x 2).toNat) * 5))))) (X.fld Try.underlying31 rfl (Try.siz3 _) rfl rfl)) hR.st0
      ·intro ac done u W Sx hR
       have g : Gr w4 W := hR.1
       exact X.val (X.w1 rfl (Sx.yl 6 34 true (by kernel_rfl) rfl rfl)) rfl (X.load rfl (Sx.ev 40 (.pointer (some (pd14.add (((nv x 2).toNat) * 5))))) (X.ld1 (Try.agg3 _) ((hC.gr g).at 7 rfl))) hR.st0
      ·intro ac done u W Sx hR
       exact X.val (X.w1 rfl (Sx.yl 6 34 true (by kernel_rfl) rfl rfl)) rfl (X.field rfl (Sx.ev 5 (Vp w3.heap.size)) (X.fld Try.underlying33 rfl (Try.siz3 _) rfl rfl)) hR.st0
      ·intro ac done u W Sx hR
       have g : Gr w4 W := hR.1
       exact X.val (X.w1 rfl (Sx.yl 6 34 true (by kernel_rfl) rfl rfl)) rfl (X.load rfl (Sx.ev 42 (.pointer (some ⟨w3.heap.size, 3, none⟩))) (X.ld1 (Try.agg3 _) ((hC.gr g).at 6 rfl))) hR.st0
      ·intro ac done u W Sx hR
       exact X.val (X.w1 rfl (Sx.yl 6 34 true (by kernel_rfl) rfl rfl)) rfl (X.binop rfl (Sx.ev 41 (Vi (cv nd ((nv x 2).toNat) 0))) (Sx.ev 43 (Vi (nv x 3))) (X.shrI Try.underlying3 rfl (by omega))) hR.st0
      ·intro ac done u W Sx hR
       exact X.val (X.w1 rfl (Sx.yl 6 34 true (by kernel_rfl) rfl rfl)) rfl (X.binop rfl (Sx.ev 44 (Vi (shrV (cv nd ((nv x 2).toNat) 0 : Int) (nv x 3 : Int)))) (X.kc (Vi 1) rfl) (X.andI Try.underlying3 rfl)) hR.st0
      ·intro ac done u W Sx hR
       exact X.val (X.w1 rfl (Sx.yl 6 34 true (by kernel_rfl) rfl rfl)) rfl (X.binop rfl (Sx.ev 45 (Vi (andV (shrV (cv nd ((nv x 2).toNat) 0 : Int) (nv x 3 : Int) : Int) 1))) (X.kc (Vi 1) rfl) (X.eqlI Try.underlying3 rfl)) hR.st0
      ·intro ac done u W Sx hR
       exact X.vl (X.pickT rfl (Sx.ev 34 (.bool true)) (Sx.ev 46 (.bool ((andV (shrV (cv nd ((nv x 2).toNat) 0 : Int) (nv x 3 : Int) : Int) 1 : Int) == 1)))) hR.st0
      ·intro ac done u W Sx hR
       exact X.vl (X.assign rfl (Sx.ev 47 (.bool ((andV (shrV (cv nd ((nv x 2).toNat) 0 : Int) (nv x 3 : Int) : Int) 1 : Int) == 1)))) hR.st0
      intro ac u w15 hs hd hl ho hR
      have g : Gr w4 w15 := hR.1
      replace F : Fr ac 69 [(6, .bool ((andV (shrV (cv nd ((nv x 2).toNat) 0 : Int) (nv x 3 : Int) : Int) 1 : Int) == 1))] := X.fr hs hd hl _ (by kernel_rfl)
      clear hs hd hl ho hR
      replace G := G.trans g
      replace hC := hC.gr g
      replace hnd := hnd.gr g
      clear g
      refine X.thenN ?_
      refine Y.ret ?_
      refine X.blockR ?_
      refine X.thenR ?_
      exact Y.ret0 (v := .bool ((andV (shrV (cv nd ((nv x 2).toNat) 0 : Int) (nv x 3 : Int) : Int) 1 : Int) == 1)) F (Y.rs1 F rfl (by kernel_rfl)) ⟨by simp only [rightB, kindB, hlen]; simp [bitB, h12, h5, h6, h7, h7p, h8, h8p], G⟩
   | true =>
    try rw [h7] at F
    have h7p : (nv x 1 : Int) = 1 := by simpa using h7
    refine Y.condT (F.e 25 rfl) ?_
    refine Y.skip ?_
    refine X.thenN ?_
    refine Y.condT (F.e 25 rfl) ?_
    refine Y.seq ?_
    cases h16 : withinB (nv x 3) 0 ((gr : Int) - 1) with
    | false =>
     try rw [h16] at F
     refine Y.region F [some (.pointer (some ⟨w3.heap.size, 3, none⟩)), some (Vi (nv x 3)), some (Vp w.heap.size), some (Vi gr), some (Vi ((gr : Int) - 1)), some (.bool false), some (.bool false), none, none, none, none, none, none, none, none, none, none, none, none, some (.bool false), some (.bool false)] [] rfl ⟨by kernel_rfl, of_decide_eq_true (by kernel_rfl), by kernel_rfl, by kernel_rfl, by kernel_rfl⟩ ⟨?_, ?_, ?_, ?_, ?_, ?_, ?_, ?_, ?_, ?_, ?_, ?_, ?_, ?_, ?_, ?_, ?_, ?_, ?_, ?_, ?_, trivial⟩ ?_
     ·intro ac done u W Sx hR
      exact X.vl (X.field rfl (Sx.ev 5 (Vp w3.heap.size)) (X.fld Try.underlying33 rfl (Try.siz3 _) rfl rfl)) hR.st0
     ·intro ac done u W Sx hR
      have g : Gr w4 W := hR.1
      exact X.vl (X.load rfl (Sx.ev 28 (.pointer (some ⟨w3.heap.size, 3, none⟩))) (X.ld1 (Try.agg3 _) ((hC.gr g).at 6 rfl))) hR.st0
     ·intro ac done u W Sx hR
      exact X.vl (X.field rfl (Sx.ev 3 (Vp w.heap.size)) (X.fld Try.underlying24 rfl (Try.siz3 _) rfl rfl)) hR.st0
     ·intro ac done u W Sx hR
      have g : Gr w4 W := hR.1
      exact X.vl (X.load rfl (Sx.ev 30 (Vp w.heap.size)) (X.ld1 (Try.agg3 _) ((hC.gr g).at 0 rfl))) hR.st0
     ·intro ac done u W Sx hR
      exact X.vl (X.binop rfl (Sx.ev 31 (Vi gr)) (X.kc (Vi 1) rfl) (X.subI Try.underlying3 rfl (by omega) (by omega))) hR.st0
     ·intro ac done u W Sx hR
      refine X.call (X.w0 rfl) (X.enter (F := 54) rfl (X.kc (.func (.func 54) #[] #[]) rfl) (X.a3 (Sx.ev 29 (Vi (nv x 3))) (X.kc (Vi 0) rfl) (Sx.ev 32 (Vi ((gr : Int) - 1)))) (enters_of Try.func54 (by kernel_rfl) rfl _)) (by have hq := within_any (nv x 3) 0 ((gr : Int) - 1) W; rw [h16] at hq; exact hq) ?_
      rintro e W2 ⟨rfl, rfl⟩
      exact ⟨_, rfl, X.kn rfl, hR.step (Gr.refl _) rfl⟩
     ·intro ac done u W Sx hR
      exact X.vl (X.move rfl (Sx.ev 33 (.bool false))) hR.st0
     ·intro ac done u W Sx hR
      exact X.skip (X.w2 rfl (Sx.yl 6 34 false (by kernel_rfl) rfl rfl) rfl) rfl (hR.skip rfl)
     ·intro ac done u W Sx hR
      exact X.skip (X.w2 rfl (Sx.yl 6 34 false (by kernel_rfl) rfl rfl) rfl) rfl (hR.skip rfl)
     ·intro ac done u W Sx hR
      exact X.skip (X.w2 rfl (Sx.yl 6 34 false (by kernel_rfl) rfl rfl) rfl) rfl (hR.skip rfl)
     ·intro ac done u W Sx hR
      exact X.skip (X.w2 rfl (Sx.yl 6 34 false (by kernel_rfl) rfl rfl) rfl) rfl (hR.skip rfl)
     ·intro ac done u W Sx hR
      exact X.skip (X.w2 rfl (Sx.yl 6 34 false (by kernel_rfl) rfl rfl) rfl) rfl (hR.skip rfl)
     ·intro ac done u W Sx hR
      exact X.skip (X.w2 rfl (Sx.yl 6 34 false (by kernel_rfl) rfl rfl) rfl) rfl (hR.skip rfl)
     ·intro ac done u W Sx hR
      exact X.skip (X.w2 rfl (Sx.yl 6 34 false (by kernel_rfl) rfl rfl) rfl) rfl (hR.skip rfl)
     ·intro ac done u W Sx hR
      exact X.skip (X.w2 rfl (Sx.yl 6 34 false (by kernel_rfl) rfl rfl) rfl) rfl (hR.skip rfl)
     ·intro ac done u W Sx hR
      exact X.skip (X.w2 rfl (Sx.yl 6 34 false (by kernel_rfl) rfl rfl) rfl) rfl (hR.skip rfl)
     ·intro ac done u W Sx hR
      exact X.skip (X.w2 rfl (Sx.yl 6 34 false (by kernel_rfl) rfl rfl) rfl) rfl (hR.skip rfl)
     ·intro ac done u W Sx hR
      exact X.skip (X.w2 rfl (Sx.yl 6 34 false (by kernel_rfl) rfl rfl) rfl) rfl (hR.skip rfl)
     ·intro ac done u W Sx hR
      exact X.skip (X.w2 rfl (Sx.yl 6 34 false (by kernel_rfl) rfl rfl) rfl) rfl (hR.skip rfl)
     ·intro ac done u W Sx hR
      exact X.vl (X.pickF rfl (Sx.ev 34 (.bool false)) (X.kc (.bool false) rfl)) hR.st0
     ·intro ac done u W Sx hR
      exact X.vl (X.assign rfl (Sx.ev 47 (.bool false))) hR.st0
     intro ac u w17 hs hd hl ho hR
     have g : Gr w4 w17 := hR.1
     replace F : Fr ac 69 [(6, .bool false)] := X.fr hs hd hl _ (by kernel_rfl)
     clear hs hd hl ho hR
     replace G := G.trans g
     replace hC := hC.gr g
     replace hnd := hnd.gr g
     clear g
     refine X.thenN ?_
     refine Y.ret ?_
     refine X.blockR ?_
     refine X.thenR ?_
     exact Y.ret0 (v := .bool false) F (Y.rs1 F rfl (by kernel_rfl)) ⟨by simp only [rightB, kindB, hlen]; simp [bitB, h16, h5, h6, h7, h7p], G⟩
    | true =>
     try rw [h16] at F
     have hn3 := withinB_ok h16
     obtain ⟨pd18, pe18, -, -, pc18⟩ := hnd.at (j := (nv x 2).toNat) (by omega)
     subst pe18
     replace hC : RCells w4 [(Ad w.heap.size 0, Vi gr), (Ad w.heap.size 1, Vi hold), (Ad w.heap.size 2, .slice (some pd18) n nc), (Ad w3.heap.size 0, Vi (nv x 0)), (Ad w3.heap.size 1, Vi (nv x 1)), (Ad w3.heap.size 2, Vi (nv x 2)), (Ad w3.heap.size 3, Vi (nv x 3)), (pd18.add (((nv x 2).toNat) * 5), Vi (cv nd ((nv x 2).toNat) 0)), (⟨(pd18.add (((nv x 2).toNat) * 5)).block, (pd18.add (((nv x 2).toNat) * 5)).off + 1, none⟩, Vi (cv nd ((nv x 2).toNat) 1)), (⟨(pd18.add (((nv x 2).toNat) * 5)).block, (pd18.add (((nv x 2).toNat) * 5)).off + 2, none⟩, Vi (cv nd ((nv x 2).toNat) 2)), (⟨(pd18.add (((nv x 2).toNat) * 5)).block, (pd18.add (((nv x 2).toNat) * 5)).off + 3, none⟩, Vi (cv nd ((nv x 2).toNat) 3)), (⟨(pd18.add (((nv x 2).toNat) * 5)).block, (pd18.add (((nv x 2).toNat) * 5)).off + 4, none⟩, Vi (cv nd ((nv x 2).toNat) 4))] := hC.append ((RCells.cons (pc18 0 (by decide)) (RCells.cons (pc18 1 (by decide)) (RCells.cons (pc18 2 (by decide)) (RCells.cons (pc18 3 (by decide)) (RCells.cons (pc18 4 (by decide)) (RCells.nil _)))))))
     clear pc18
     refine Y.region F [some (.pointer (some ⟨w3.heap.size, 3, none⟩)), some (Vi (nv x 3)), some (Vp w.heap.size), some (Vi gr), some (Vi ((gr : Int) - 1)), some (.bool true), some (.bool true), some (.pointer (some ⟨w.heap.size, 2, none⟩)), some (.slice (some pd18) n nc), some (.pointer (some ⟨w3.heap.size, 2, none⟩)), some (Vi (nv x 2)), some (.pointer (some (pd18.add (((nv x 2).toNat) * 5)))), some (.pointer (some (pd18.add (((nv x 2).toNat) * 5)))), some (Vi (cv nd ((nv x 2).toNat) 0)), some (.pointer (some ⟨w3.heap.size, 3, none⟩)), some (Vi (nv x 3)), some (Vi (shrV (cv nd ((nv x 2).toNat) 0 : Int) (nv x 3 : Int))), some (Vi (andV (shrV (cv nd ((nv x 2).toNat) 0 : Int) (nv x 3 : Int) : Int) 1)), some (.bool ((andV (shrV (cv nd ((nv x 2).toNat) 0 : Int) (nv x 3 : Int) : Int) 1 : Int) == 1)), some (.bool ((andV (shrV (cv nd ((nv x 2).toNat) 0 : Int) (nv x 3 : Int) : Int) 1 : Int) == 1)), some (.bool ((andV (shrV (cv nd ((nv x 2).toNat) 0 : Int) (nv x 3 : Int) : Int) 1 : Int) == 1))] [] rfl ⟨by kernel_rfl, of_decide_eq_true (by kernel_rfl), by kernel_rfl, by kernel_rfl, by kernel_rfl⟩ ⟨?_, ?_, ?_, ?_, ?_, ?_, ?_, ?_, ?_, ?_, ?_, ?_, ?_, ?_, ?_, ?_, ?_, ?_, ?_, ?_, ?_, trivial⟩ ?_
     ·intro ac done u W Sx hR
      exact X.vl (X.field rfl (Sx.ev 5 (Vp w3.heap.size)) (X.fld Try.underlying33 rfl (Try.siz3 _) rfl rfl)) hR.st0
     ·intro ac done u W Sx hR
      have g : Gr w4 W := hR.1
      exact X.vl (X.load rfl (Sx.ev 28 (.pointer (some ⟨w3.heap.size, 3, none⟩))) (X.ld1 (Try.agg3 _) ((hC.gr g).at 6 rfl))) hR.st0
     ·intro ac done u W Sx hR
      exact X.vl (X.field rfl (Sx.ev 3 (Vp w.heap.size)) (X.fld Try.underlying24 rfl (Try.siz3 _) rfl rfl)) hR.st0
     ·intro ac done u W Sx hR
      have g : Gr w4 W := hR.1
      exact X.vl (X.load rfl (Sx.ev 30 (Vp w.heap.size)) (X.ld1 (Try.agg3 _) ((hC.gr g).at 0 rfl))) hR.st0
     ·intro ac done u W Sx hR
      exact X.vl (X.binop rfl (Sx.ev 31 (Vi gr)) (X.kc (Vi 1) rfl) (X.subI Try.underlying3 rfl (by omega) (by omega))) hR.st0
     ·intro ac done u W Sx hR
      refine X.call (X.w0 rfl) (X.enter (F := 54) rfl (X.kc (.func (.func 54) #[] #[]) rfl) (X.a3 (Sx.ev 29 (Vi (nv x 3))) (X.kc (Vi 0) rfl) (Sx.ev 32 (Vi ((gr : Int) - 1)))) (enters_of Try.func54 (by kernel_rfl) rfl _)) (by have hq := within_any (nv x 3) 0 ((gr : Int) - 1) W; rw [h16] at hq; exact hq) ?_
      rintro e W2 ⟨rfl, rfl⟩
      exact ⟨_, rfl, X.kn rfl, hR.step (Gr.refl _) rfl⟩
     ·intro ac done u W Sx hR
      exact X.vl (X.move rfl (Sx.ev 33 (.bool true))) hR.st0
     ·intro ac done u W Sx hR
      exact X.val (X.w1 rfl (Sx.yl 6 34 true (by kernel_rfl) rfl rfl)) rfl (X.field rfl (Sx.ev 3 (Vp w.heap.size)) (X.fld Try.underlying24 rfl (Try.siz22 _) rfl rfl)) hR.st0
     ·intro ac done u W Sx hR
      have g : Gr w4 W := hR.1
      exact X.val (X.w1 rfl (Sx.yl 6 34 true (by kernel_rfl) rfl rfl)) rfl (X.load rfl (Sx.ev 35 (.pointer (some ⟨w.heap.size, 2, none⟩))) (X.ld1 (Try.agg22 _) ((hC.gr g).at 2 rfl))) hR.st0
     ·intro ac done u W Sx hR
      exact X.val (X.w1 rfl (Sx.yl 6 34 true (by kernel_rfl) rfl rfl)) rfl (X.field rfl (Sx.ev 5 (Vp w3.heap.size)) (X.fld Try.underlying33 rfl (Try.siz3 _) rfl rfl)) hR.st0
     ·intro ac done u W Sx hR
      have g : Gr w4 W := hR.1
      exact X.val (X.w1 rfl (Sx.yl 6 34 true (by kernel_rfl) rfl rfl)) rfl (X.load rfl (Sx.ev 37 (.pointer (some ⟨w3.heap.size, 2, none⟩))) (X.ld1 (Try.agg3 _) ((hC.gr g).at 5 rfl))) hR.st0
     ·intro ac done u W Sx hR
      exact X.val (X.w1 rfl (Sx.yl 6 34 true (by kernel_rfl) rfl rfl)) rfl (X.index rfl (Sx.ev 36 (.slice (some pd18) n nc)) (Sx.ev 38 (Vi (nv x 2))) (X.idx (k := (nv x 2).toNat) Try.underlying22 (Try.siz31 _) (by omega) (by omega) rfl)) hR.st0
     ·intro ac done u W Sx hR
      exact X.val (X.w1 rfl (Sx.yl 6 34 true (by kernel_rfl) rfl rfl)) rfl (X.field rfl (Sx.ev 39 (.pointer (some (pd18.add (((nv x 2).toNat) * 5))))) (X.fld Try.underlying31 rfl (Try.siz3 _) rfl rfl)) hR.st0
     ·intro ac done u W Sx hR
      have g : Gr w4 W := hR.1
      exact X.val (X.w1 rfl (Sx.yl 6 34 true (by kernel_rfl) rfl rfl)) rfl (X.load rfl (Sx.ev 40 (.pointer (some (pd18.add (((nv x 2).toNat) * 5))))) (X.ld1 (Try.agg3 _) ((hC.gr g).at 7 rfl))) hR.st0
     ·intro ac done u W Sx hR
      exact X.val (X.w1 rfl (Sx.yl 6 34 true (by kernel_rfl) rfl rfl)) rfl (X.field rfl (Sx.ev 5 (Vp w3.heap.size)) (X.fld Try.underlying33 rfl (Try.siz3 _) rfl rfl)) hR.st0
     ·intro ac done u W Sx hR
      have g : Gr w4 W := hR.1
      exact X.val (X.w1 rfl (Sx.yl 6 34 true (by kernel_rfl) rfl rfl)) rfl (X.load rfl (Sx.ev 42 (.pointer (some ⟨w3.heap.size, 3, none⟩))) (X.ld1 (Try.agg3 _) ((hC.gr g).at 6 rfl))) hR.st0
     ·intro ac done u W Sx hR
      exact X.val (X.w1 rfl (Sx.yl 6 34 true (by kernel_rfl) rfl rfl)) rfl (X.binop rfl (Sx.ev 41 (Vi (cv nd ((nv x 2).toNat) 0))) (Sx.ev 43 (Vi (nv x 3))) (X.shrI Try.underlying3 rfl (by omega))) hR.st0
     ·intro ac done u W Sx hR
      exact X.val (X.w1 rfl (Sx.yl 6 34 true (by kernel_rfl) rfl rfl)) rfl (X.binop rfl (Sx.ev 44 (Vi (shrV (cv nd ((nv x 2).toNat) 0 : Int) (nv x 3 : Int)))) (X.kc (Vi 1) rfl) (X.andI Try.underlying3 rfl)) hR.st0
     ·intro ac done u W Sx hR
      exact X.val (X.w1 rfl (Sx.yl 6 34 true (by kernel_rfl) rfl rfl)) rfl (X.binop rfl (Sx.ev 45 (Vi (andV (shrV (cv nd ((nv x 2).toNat) 0 : Int) (nv x 3 : Int) : Int) 1))) (X.kc (Vi 1) rfl) (X.eqlI Try.underlying3 rfl)) hR.st0
     ·intro ac done u W Sx hR
      exact X.vl (X.pickT rfl (Sx.ev 34 (.bool true)) (Sx.ev 46 (.bool ((andV (shrV (cv nd ((nv x 2).toNat) 0 : Int) (nv x 3 : Int) : Int) 1 : Int) == 1)))) hR.st0
     ·intro ac done u W Sx hR
      exact X.vl (X.assign rfl (Sx.ev 47 (.bool ((andV (shrV (cv nd ((nv x 2).toNat) 0 : Int) (nv x 3 : Int) : Int) 1 : Int) == 1)))) hR.st0
     intro ac u w19 hs hd hl ho hR
     have g : Gr w4 w19 := hR.1
     replace F : Fr ac 69 [(6, .bool ((andV (shrV (cv nd ((nv x 2).toNat) 0 : Int) (nv x 3 : Int) : Int) 1 : Int) == 1))] := X.fr hs hd hl _ (by kernel_rfl)
     clear hs hd hl ho hR
     replace G := G.trans g
     replace hC := hC.gr g
     replace hnd := hnd.gr g
     clear g
     refine X.thenN ?_
     refine Y.ret ?_
     refine X.blockR ?_
     refine X.thenR ?_
     exact Y.ret0 (v := .bool ((andV (shrV (cv nd ((nv x 2).toNat) 0 : Int) (nv x 3 : Int) : Int) 1 : Int) == 1)) F (Y.rs1 F rfl (by kernel_rfl)) ⟨by simp only [rightB, kindB, hlen]; simp [bitB, h16, h5, h6, h7, h7p], G⟩
end
end Go.Proofs.Ytoalamakhjbedaa
