/- Several texts of this claim in one file. (1) Contracts of the reference: has, nudged. (2) The play of a cluster: what a tick does, in plain words. Nothing of the program is proved here. (3) If nothing is lost, who is asked for is awake. Nothing of the program is proved here. (4) Whom nobody asks for, and who hears no noise, is asleep. Nothing of the program is proved here. (5) A map keyed by states of two numbers: what a lookup and a store do. Nothing of the program is walked here. -/
import Derived.Test.YtoalamakhjbedaaBd5
import Derived.Test.YtoalamakhjbedaaBd3
import Derived.Test.YtoalamakhjbedaaBd2
import Derived.WideKeyArr
import Derived.MapKept
namespace Go.Proofs.Ytoalamakhjbedaa
section
open Go.RowKit

/-- what happens to a node in a tick -/
def hitB (l : List (List Int)) (t k a b : Int) (i : Nat) : Bool := cv l i 0 == t && (cv l i 1 == k && (cv l i 2 == a && cv l i 3 == b))
def hasB (l : List (List Int)) (t k a b : Int) : Bool := !(allN (fun i => !(hitB l t k a b i)) l.length)
theorem hasB_no {l : List (List Int)} {t k a b : Int} {m : Nat} (hl : l.length = m) (h : allN (fun i => !(hitB l t k a b i)) m = true) : hasB l t k a b = false := by unfold hasB; rw [hl, h]; rfl
theorem hasB_yes {l : List (List Int)} {t k a b : Int} {m i : Nat} (hl : l.length = m) (hi : i < m) (h : hitB l t k a b i = true) : hasB l t k a b = true := by
  unfold hasB
  rw [hl]
  cases hh : allN (fun i => !(hitB l t k a b i)) m with
  | false => rfl
  | true => have h2 := allN_iff.mp hh i hi; rw [h] at h2; cases h2
theorem rightB_cv (gr : Int) (nd : List (List Int)) (t : Int) (l : List (List Int)) (i : Nat) : rightB gr nd t (l[i]?.getD []) = (withinB (cv l i 0) 0 (t - 1) && (withinB (cv l i 2) 0 ((nd.length : Int) - 1) &&
    (if cv l i 1 = 1 ∨ cv l i 1 = 2 then withinB (cv l i 3) 0 (gr - 1) && bitB (cv nd (cv l i 2).toNat 0) (cv l i 3)
     else if cv l i 1 = 3 then cv l i 3 == 0 else if cv l i 1 = 4 then withinB (cv l i 3) 0 ((nd.length : Int) - 1) && cv l i 3 != cv l i 2 else false))) := rfl
theorem playE_all {gr hold t : Int} {nd l : List (List Int)} {m : Nat} (hl : l.length = m) (hE : ticksE gr hold nd t = 0) (h : m ≤ 200) (ha : allN (fun i => rightB gr nd t (l[i]?.getD [])) m = true) : playE gr hold nd t l = 0 := by
  unfold playE nudgeB
  rw [if_neg (by rw [hE]; simp), hl, ha, decide_eq_true h]; rfl
theorem playE_one {gr hold t : Int} {nd l : List (List Int)} {m i : Nat} (hl : l.length = m) (hE : ticksE gr hold nd t = 0) (hi : i < m) (h : rightB gr nd t (l[i]?.getD []) = false) : playE gr hold nd t l = 91 := by
  have h0 : allN (fun i => rightB gr nd t (l[i]?.getD [])) m = false := by
    cases hh : allN (fun i => rightB gr nd t (l[i]?.getD [])) m with
    | false => rfl
    | true => have h2 := allN_iff.mp hh i hi; rw [h] at h2; cases h2
  unfold playE nudgeB
  rw [if_neg (by rw [hE]; simp), hl, h0, Bool.and_false]; rfl
theorem playE_long {gr hold t : Int} {nd l : List (List Int)} {m : Nat} (hl : l.length = m) (hE : ticksE gr hold nd t = 0) (h : 200 < m) : playE gr hold nd t l = 91 := by
  unfold playE nudgeB
  rw [if_neg (by rw [hE]; simp), hl, decide_eq_false (by omega), Bool.false_and]; rfl

set_option maxRecDepth 100000 in
set_option maxHeartbeats 400000 in
theorem has_any (la : Option Addr) (m lc : Nat) (t k a b : Int) (l : List (List Int)) (w : World) (hl : StAt w 4 la m l) :
  Calls Try.prog 75 #[.slice la m lc, Vi t, Vi k, Vi a, Vi b] w fun e w' => e = .returned (.bool (hasB l t k a b)) ∧ Gr w w' := by
 have G := Gr.refl w
 have hlen := hl.len
 have hlm := hl.lt
 refine Y.calls 52 Try.func75 rfl rfl ?_
 intro ac F0
 have F : Fr ac 52 [(0, .slice la m lc), (1, Vi t), (2, Vi k), (3, Vi a), (4, Vi b)] := F0.sub _
 clear F0
 refine Y.seq ?_
 refine Y.lit (by kernel_rfl) ?_
 refine Y.pv F (X.assign rfl (X.kc (.bool false) rfl)) ?_;clear F ac;intro ac F
 refine Y.nil ?_
 replace F : Fr ac 52 [(0, .slice la m lc), (1, Vi t), (2, Vi k), (3, Vi a), (4, Vi b)] := F.sub _
 refine X.thenN ?_
 refine Y.seq ?_
 refine Y.seq ?_
 refine Y.lit (by kernel_rfl) ?_
 refine Y.pv F (X.assign rfl (X.kc (Vi 0) rfl)) ?_;clear F ac;intro ac F
 refine Y.nil ?_
 replace F : Fr ac 52 [(0, .slice la m lc), (1, Vi t), (2, Vi k), (3, Vi a), (4, Vi b), (11, Vi 0)] := F.sub _
 refine X.thenN ?_
 refine Y.block ?_
 have hlB := hl
 have GB := G
 refine Y.loop (fun me_ ac wr => ∃ (i : Nat), me_ = m - i ∧ Gr w wr ∧ i ≤ m ∧ allN (fun j => !(hitB l t k a b j)) i = true ∧ Fr ac 52 [(0, .slice la m lc), (1, Vi t), (2, Vi k), (3, Vi a), (4, Vi b), (11, Vi i)]) _ ⟨0, rfl, Gr.refl _, Nat.zero_le _, rfl, F.sub _⟩ ?_
 clear F
 intro me_ ac w3 hI
 obtain ⟨i, rfl, gr, hi0, hall, F⟩ := hI
 replace G := GB.trans gr
 replace hl := hlB.gr gr
 have GB_ := gr
 clear gr
 refine Y.seq ?_
 refine Y.seq ?_
 refine Y.lit (by kernel_rfl) ?_
 refine Y.pv F (X.move rfl (F.ev 11 (Vi i))) ?_;clear F ac;intro ac F
 refine Y.pv F (X.move rfl (F.ev 0 (.slice la m lc))) ?_;clear F ac;intro ac F
 refine Y.pv F (X.len1 Try.underlying25 rfl (F.ev 13 (.slice la m lc))) ?_;clear F ac;intro ac F
 refine Y.pv F (X.binop rfl (F.ev 12 (Vi i)) (F.ev 14 (Vi m)) (X.lssI Try.underlying3 rfl)) ?_;clear F ac;intro ac F
 refine Y.nil ?_
 replace F : Fr ac 52 [(0, .slice la m lc), (1, Vi t), (2, Vi k), (3, Vi a), (4, Vi b), (11, Vi i), (15, .bool (decide ((i : Int) < m)))] := F.sub _
 refine X.thenN ?_
 cases h4 : decide ((i : Int) < m) with
 | false =>
  try rw [h4] at F
  have h4p : ¬ ((i : Int) < m) := of_decide_eq_false h4
  have him : i = m := by omega
  rw [him] at hall
  refine Y.condF (F.ev 15 (.bool false)) ?_
  refine Y.exit ?_
  refine X.thenX ?_
  refine X.thenX ?_
  refine X.blockX ?_
  refine X.thenN ?_
  refine Y.seq ?_
  refine Y.lit (by kernel_rfl) ?_
  refine Y.pv F (X.assign rfl (X.kc (.bool false) rfl)) ?_;clear F ac;intro ac F
  refine Y.nil ?_
  replace F : Fr ac 52 [(10, .bool false)] := F.sub _
  refine X.thenN ?_
  refine Y.ret ?_
  exact Y.ret0 (v := .bool false) F (Y.rs1 F rfl (by kernel_rfl)) ⟨by rw [hasB_no hlen hall], G⟩
 | true =>
  try rw [h4] at F
  have h4p : ((i : Int) < m) := of_decide_eq_true h4
  refine Y.condT (F.ev 15 (.bool true)) ?_
  refine Y.skip ?_
  refine X.thenN ?_
  refine Y.seq ?_
  refine Y.block ?_
  refine Y.seq ?_
  refine Y.lit (by kernel_rfl) ?_
  refine Y.pv F (X.move rfl (F.ev 0 (.slice la m lc))) ?_;clear F ac;intro ac F
  refine Y.pv F (X.move rfl (F.ev 11 (Vi i))) ?_;clear F ac;intro ac F
  obtain ⟨pd5, pe5, -, -, pc5⟩ := hl.at (j := i) (by omega)
  subst pe5
  have hC : RCells w3 [(pd5.add (i * 4), Vi (cv l i 0)), (⟨(pd5.add (i * 4)).block, (pd5.add (i * 4)).off + 1, none⟩, Vi (cv l i 1)), (⟨(pd5.add (i * 4)).block, (pd5.add (i * 4)).off + 2, none⟩, Vi (cv l i 2)), (⟨(pd5.add (i * 4)).block, (pd5.add (i * 4)).off + 3, none⟩, Vi (cv l i 3))] := (RCells.cons (pc5 0 (by decide)) (RCells.cons (pc5 1 (by decide)) (RCells.cons (pc5 2 (by decide)) (RCells.cons (pc5 3 (by decide)) (RCells.nil _)))))
  clear pc5
  refine Y.pv F (X.index rfl (F.ev 18 (.slice (some pd5) m lc)) (F.ev 19 (Vi i)) (X.idx (k := i) Try.underlying25 (Try.siz33 _) (by omega) (by omega) rfl)) ?_;clear F ac;intro ac F
  refine Y.pv F (X.field rfl (F.ev 20 (.pointer (some (pd5.add (i * 4))))) (X.fld Try.underlying33 rfl (Try.siz3 _) rfl rfl)) ?_;clear F ac;intro ac F
  refine Y.pv F (X.load rfl (F.ev 21 (.pointer (some (pd5.add (i * 4))))) (X.ld1 (Try.agg3 _) (hC.at 0 rfl))) ?_;clear F ac;intro ac F
  refine Y.pv F (X.move rfl (F.ev 1 (Vi t))) ?_;clear F ac;intro ac F
  refine Y.pv F (X.binop rfl (F.ev 22 (Vi (cv l i 0))) (F.ev 23 (Vi t)) (X.eqlI Try.underlying3 rfl)) ?_;clear F ac;intro ac F
  refine Y.pv F (X.move rfl (F.ev 24 (.bool ((cv l i 0 : Int) == t)))) ?_;clear F ac;intro ac F
  cases h6 : ((cv l i 0 : Int) == t) with
  | false =>
   try rw [h6] at F
   have h6p : ¬ (cv l i 0 : Int) = t := by simpa using h6
   refine Y.pskip F (X.w2 rfl (F.yl (j := 7) (d := 25) (b := false) rfl (by kernel_rfl)) rfl) rfl ?_;clear F ac;intro ac F
   refine Y.pskip F (X.w2 rfl (F.yl (j := 7) (d := 25) (b := false) rfl (by kernel_rfl)) rfl) rfl ?_;clear F ac;intro ac F
   refine Y.pskip F (X.w2 rfl (F.yl (j := 7) (d := 25) (b := false) rfl (by kernel_rfl)) rfl) rfl ?_;clear F ac;intro ac F
   refine Y.pskip F (X.w2 rfl (F.yl (j := 7) (d := 25) (b := false) rfl (by kernel_rfl)) rfl) rfl ?_;clear F ac;intro ac F
   refine Y.pskip F (X.w2 rfl (F.yl (j := 7) (d := 25) (b := false) rfl (by kernel_rfl)) rfl) rfl ?_;clear F ac;intro ac F
   refine Y.pskip F (X.w2 rfl (F.yl (j := 7) (d := 25) (b := false) rfl (by kernel_rfl)) rfl) rfl ?_;clear F ac;intro ac F
   refine Y.pskip F (X.w2 rfl (F.yl (j := 7) (d := 25) (b := false) rfl (by kernel_rfl)) rfl) rfl ?_;clear F ac;intro ac F
   refine Y.pv F (X.pickF rfl (F.ev 25 (.bool false)) (X.kc (.bool false) rfl)) ?_;clear F ac;intro ac F
   refine Y.pv F (X.move rfl (F.ev 33 (.bool false))) ?_;clear F ac;intro ac F
   refine Y.pskip F (X.w2 rfl (F.yl (j := 16) (d := 34) (b := false) rfl (by kernel_rfl)) rfl) rfl ?_;clear F ac;intro ac F
   refine Y.pskip F (X.w2 rfl (F.yl (j := 16) (d := 34) (b := false) rfl (by kernel_rfl)) rfl) rfl ?_;clear F ac;intro ac F
   refine Y.pskip F (X.w2 rfl (F.yl (j := 16) (d := 34) (b := false) rfl (by kernel_rfl)) rfl) rfl ?_;clear F ac;intro ac F
   refine Y.pskip F (X.w2 rfl (F.yl (j := 16) (d := 34) (b := false) rfl (by kernel_rfl)) rfl) rfl ?_;clear F ac;intro ac F
   refine Y.pskip F (X.w2 rfl (F.yl (j := 16) (d := 34) (b := false) rfl (by kernel_rfl)) rfl) rfl ?_;clear F ac;intro ac F
   refine Y.pskip F (X.w2 rfl (F.yl (j := 16) (d := 34) (b := false) rfl (by kernel_rfl)) rfl) rfl ?_;clear F ac;intro ac F
   refine Y.pskip F (X.w2 rfl (F.yl (j := 16) (d := 34) (b := false) rfl (by kernel_rfl)) rfl) rfl ?_;clear F ac;intro ac F
   refine Y.pv F (X.pickF rfl (F.ev 34 (.bool false)) (X.kc (.bool false) rfl)) ?_;clear F ac;intro ac F
   refine Y.pv F (X.move rfl (F.ev 42 (.bool false))) ?_;clear F ac;intro ac F
   refine Y.pskip F (X.w2 rfl (F.yl (j := 25) (d := 43) (b := false) rfl (by kernel_rfl)) rfl) rfl ?_;clear F ac;intro ac F
   refine Y.pskip F (X.w2 rfl (F.yl (j := 25) (d := 43) (b := false) rfl (by kernel_rfl)) rfl) rfl ?_;clear F ac;intro ac F
   refine Y.pskip F (X.w2 rfl (F.yl (j := 25) (d := 43) (b := false) rfl (by kernel_rfl)) rfl) rfl ?_;clear F ac;intro ac F
   refine Y.pskip F (X.w2 rfl (F.yl (j := 25) (d := 43) (b := false) rfl (by kernel_rfl)) rfl) rfl ?_;clear F ac;intro ac F
   refine Y.pskip F (X.w2 rfl (F.yl (j := 25) (d := 43) (b := false) rfl (by kernel_rfl)) rfl) rfl ?_;clear F ac;intro ac F
   refine Y.pskip F (X.w2 rfl (F.yl (j := 25) (d := 43) (b := false) rfl (by kernel_rfl)) rfl) rfl ?_;clear F ac;intro ac F
   refine Y.pskip F (X.w2 rfl (F.yl (j := 25) (d := 43) (b := false) rfl (by kernel_rfl)) rfl) rfl ?_;clear F ac;intro ac F
   refine Y.pv F (X.pickF rfl (F.ev 43 (.bool false)) (X.kc (.bool false) rfl)) ?_;clear F ac;intro ac F
   refine Y.nil ?_
   replace F : Fr ac 52 [(0, .slice (some pd5) m lc), (1, Vi t), (2, Vi k), (3, Vi a), (4, Vi b), (11, Vi i), (51, .bool false)] := F.sub _
   refine X.thenN ?_
   refine Y.condF (F.ev 51 (.bool false)) ?_
   refine Y.skip ?_
   refine X.blockN ?_
   refine X.thenN ?_
   refine Y.lit (by kernel_rfl) ?_
   refine Y.pv F (X.move rfl (F.ev 11 (Vi i))) ?_;clear F ac;intro ac F
   refine Y.pv F (X.binop rfl (F.ev 16 (Vi i)) (X.kc (Vi 1) rfl) (X.addI Try.underlying3 rfl (by omega) (by omega))) ?_;clear F ac;intro ac F
   refine Y.pv F (X.assign rfl (F.ev 17 (Vi ((i : Int) + 1)))) ?_;clear F ac;intro ac F
   refine Y.nil ?_
   replace F : Fr ac 52 [(0, .slice (some pd5) m lc), (1, Vi t), (2, Vi k), (3, Vi a), (4, Vi b), (11, Vi ((i : Int) + 1))] := F.sub _
   refine X.thenN ?_
   refine ⟨_, ?_, i + 1, rfl, GB_, by omega, by simp only [allN, hall, Bool.true_and]; simp [hitB, h6], F.sub _⟩
   omega
  | true =>
   try rw [h6] at F
   have h6p : (cv l i 0 : Int) = t := by simpa using h6
   refine Y.pval F (X.w1 rfl (F.yl (j := 7) (d := 25) (b := true) rfl (by kernel_rfl))) rfl (X.move rfl (F.ev 0 (.slice (some pd5) m lc))) ?_;clear F ac;intro ac F
   refine Y.pval F (X.w1 rfl (F.yl (j := 7) (d := 25) (b := true) rfl (by kernel_rfl))) rfl (X.move rfl (F.ev 11 (Vi i))) ?_;clear F ac;intro ac F
   refine Y.pval F (X.w1 rfl (F.yl (j := 7) (d := 25) (b := true) rfl (by kernel_rfl))) rfl (X.index rfl (F.ev 26 (.slice (some pd5) m lc)) (F.ev 27 (Vi i)) (X.idx (k := i) Try.underlying25 (Try.siz33 _) (by omega) (by omega) rfl)) ?_;clear F ac;intro ac F
   refine Y.pval F (X.w1 rfl (F.yl (j := 7) (d := 25) (b := true) rfl (by kernel_rfl))) rfl (X.field rfl (F.ev 28 (.pointer (some (pd5.add (i * 4))))) (X.fld Try.underlying33 rfl (Try.siz3 _) rfl rfl)) ?_;clear F ac;intro ac F
   refine Y.pval F (X.w1 rfl (F.yl (j := 7) (d := 25) (b := true) rfl (by kernel_rfl))) rfl (X.load rfl (F.ev 29 (.pointer (some (⟨(pd5.add (i * 4)).block, (pd5.add (i * 4)).off + 1, none⟩)))) (X.ld1 (Try.agg3 _) (hC.at 1 rfl))) ?_;clear F ac;intro ac F
   refine Y.pval F (X.w1 rfl (F.yl (j := 7) (d := 25) (b := true) rfl (by kernel_rfl))) rfl (X.move rfl (F.ev 2 (Vi k))) ?_;clear F ac;intro ac F
   refine Y.pval F (X.w1 rfl (F.yl (j := 7) (d := 25) (b := true) rfl (by kernel_rfl))) rfl (X.binop rfl (F.ev 30 (Vi (cv l i 1))) (F.ev 31 (Vi k)) (X.eqlI Try.underlying3 rfl)) ?_;clear F ac;intro ac F
   refine Y.pv F (X.pickT rfl (F.ev 25 (.bool true)) (F.ev 32 (.bool ((cv l i 1 : Int) == k)))) ?_;clear F ac;intro ac F
   refine Y.pv F (X.move rfl (F.ev 33 (.bool ((cv l i 1 : Int) == k)))) ?_;clear F ac;intro ac F
   cases h7 : ((cv l i 1 : Int) == k) with
   | false =>
    try rw [h7] at F
    have h7p : ¬ (cv l i 1 : Int) = k := by simpa using h7
    refine Y.pskip F (X.w2 rfl (F.yl (j := 16) (d := 34) (b := false) rfl (by kernel_rfl)) rfl) rfl ?_;clear F ac;intro ac F
    refine Y.pskip F (X.w2 rfl (F.yl (j := 16) (d := 34) (b := false) rfl (by kernel_rfl)) rfl) rfl ?_;clear F ac;intro ac F
    refine Y.pskip F (X.w2 rfl (F.yl (j := 16) (d := 34) (b := false) rfl (by kernel_rfl)) rfl) rfl ?_;clear F ac;intro ac F
    refine Y.pskip F (X.w2 rfl (F.yl (j := 16) (d := 34) (b := false) rfl (by kernel_rfl)) rfl) rfl ?_;clear F ac;intro ac F
    refine Y.pskip F (X.w2 rfl (F.yl (j := 16) (d := 34) (b := false) rfl (by kernel_rfl)) rfl) rfl ?_;clear F ac;intro ac F
    refine Y.pskip F (X.w2 rfl (F.yl (j := 16) (d := 34) (b := false) rfl (by kernel_rfl)) rfl) rfl ?_;clear F ac;intro ac F
    refine Y.pskip F (X.w2 rfl (F.yl (j := 16) (d := 34) (b := false) rfl (by kernel_rfl)) rfl) rfl ?_;clear F ac;intro ac F
    refine Y.pv F (X.pickF rfl (F.ev 34 (.bool false)) (X.kc (.bool false) rfl)) ?_;clear F ac;intro ac F
    refine Y.pv F (X.move rfl (F.ev 42 (.bool false))) ?_;clear F ac;intro ac F
    refine Y.pskip F (X.w2 rfl (F.yl (j := 25) (d := 43) (b := false) rfl (by kernel_rfl)) rfl) rfl ?_;clear F ac;intro ac F
    refine Y.pskip F (X.w2 rfl (F.yl (j := 25) (d := 43) (b := false) rfl (by kernel_rfl)) rfl) rfl ?_;clear F ac;intro ac F
    refine Y.pskip F (X.w2 rfl (F.yl (j := 25) (d := 43) (b := false) rfl (by kernel_rfl)) rfl) rfl ?_;clear F ac;intro ac F
    refine Y.pskip F (X.w2 rfl (F.yl (j := 25) (d := 43) (b := false) rfl (by kernel_rfl)) rfl) rfl ?_;clear F ac;intro ac F
    refine Y.pskip F (X.w2 rfl (F.yl (j := 25) (d := 43) (b := false) rfl (by kernel_rfl)) rfl) rfl ?_;clear F ac;intro ac F
    refine Y.pskip F (X.w2 rfl (F.yl (j := 25) (d := 43) (b := false) rfl (by kernel_rfl)) rfl) rfl ?_;clear F ac;intro ac F
    refine Y.pskip F (X.w2 rfl (F.yl (j := 25) (d := 43) (b := false) rfl (by kernel_rfl)) rfl) rfl ?_;clear F ac;intro ac F
    refine Y.pv F (X.pickF rfl (F.ev 43 (.bool false)) (X.kc (.bool false) rfl)) ?_;clear F ac;intro ac F
    refine Y.nil ?_
    replace F : Fr ac 52 [(0, .slice (some pd5) m lc), (1, Vi t), (2, Vi k), (3, Vi a), (4, Vi b), (11, Vi i), (51, .bool false)] := F.sub _
    refine X.thenN ?_
    refine Y.condF (F.ev 51 (.bool false)) ?_
    refine Y.skip ?_
    refine X.blockN ?_
    refine X.thenN ?_
    refine Y.lit (by kernel_rfl) ?_
    refine Y.pv F (X.move rfl (F.ev 11 (Vi i))) ?_;clear F ac;intro ac F
    refine Y.pv F (X.binop rfl (F.ev 16 (Vi i)) (X.kc (Vi 1) rfl) (X.addI Try.underlying3 rfl (by omega) (by omega))) ?_;clear F ac;intro ac F
    refine Y.pv F (X.assign rfl (F.ev 17 (Vi ((i : Int) + 1)))) ?_;clear F ac;intro ac F
    refine Y.nil ?_
    replace F : Fr ac 52 [(0, .slice (some pd5) m lc), (1, Vi t), (2, Vi k), (3, Vi a), (4, Vi b), (11, Vi ((i : Int) + 1))] := F.sub _
    refine X.thenN ?_
    refine ⟨_, ?_, i + 1, rfl, GB_, by omega, by simp only [allN, hall, Bool.true_and]; simp [hitB, h6, h7], F.sub _⟩
    omega
   | true =>
    try rw [h7] at F
    have h7p : (cv l i 1 : Int) = k := by simpa using h7
    refine Y.pval F (X.w1 rfl (F.yl (j := 16) (d := 34) (b := true) rfl (by kernel_rfl))) rfl (X.move rfl (F.ev 0 (.slice (some pd5) m lc))) ?_;clear F ac;intro ac F
    refine Y.pval F (X.w1 rfl (F.yl (j := 16) (d := 34) (b := true) rfl (by kernel_rfl))) rfl (X.move rfl (F.ev 11 (Vi i))) ?_;clear F ac;intro ac F
    refine Y.pval F (X.w1 rfl (F.yl (j := 16) (d := 34) (b := true) rfl (by kernel_rfl))) rfl (X.index rfl (F.ev 35 (.slice (some pd5) m lc)) (F.ev 36 (Vi i)) (X.idx (k := i) Try.underlying25 (Try.siz33 _) (by omega) (by omega) rfl)) ?_;clear F ac;intro ac F
    refine Y.pval F (X.w1 rfl (F.yl (j := 16) (d := 34) (b := true) rfl (by kernel_rfl))) rfl (X.field rfl (F.ev 37 (.pointer (some (pd5.add (i * 4))))) (X.fld Try.underlying33 rfl (Try.siz3 _) rfl rfl)) ?_;clear F ac;intro ac F
    refine Y.pval F (X.w1 rfl (F.yl (j := 16) (d := 34) (b := true) rfl (by kernel_rfl))) rfl (X.load rfl (F.ev 38 (.pointer (some (⟨(pd5.add (i * 4)).block, (pd5.add (i * 4)).off + 2, none⟩)))) (X.ld1 (Try.agg3 _) (hC.at 2 rfl))) ?_;clear F ac;intro ac F
    refine Y.pval F (X.w1 rfl (F.yl (j := 16) (d := 34) (b := true) rfl (by kernel_rfl))) rfl (X.move rfl (F.ev 3 (Vi a))) ?_;clear F ac;intro ac F
    refine Y.pval F (X.w1 rfl (F.yl (j := 16) (d := 34) (b := true) rfl (by kernel_rfl))) rfl (X.binop rfl (F.ev 39 (Vi (cv l i 2))) (F.ev 40 (Vi a)) (X.eqlI Try.underlying3 rfl)) ?_;clear F ac;intro ac F
    refine Y.pv F (X.pickT rfl (F.ev 34 (.bool true)) (F.ev 41 (.bool ((cv l i 2 : Int) == a)))) ?_;clear F ac;intro ac F
    refine Y.pv F (X.move rfl (F.ev 42 (.bool ((cv l i 2 : Int) == a)))) ?_;clear F ac;intro ac F
    cases h8 : ((cv l i 2 : Int) == a) with
    | false =>
     try rw [h8] at F
     have h8p : ¬ (cv l i 2 : Int) = a := by simpa using h8
     refine Y.pskip F (X.w2 rfl (F.yl (j := 25) (d := 43) (b := false) rfl (by kernel_rfl)) rfl) rfl ?_;clear F ac;intro ac F
     refine Y.pskip F (X.w2 rfl (F.yl (j := 25) (d := 43) (b := false) rfl (by kernel_rfl)) rfl) rfl ?_;clear F ac;intro ac F
     refine Y.pskip F (X.w2 rfl (F.yl (j := 25) (d := 43) (b := false) rfl (by kernel_rfl)) rfl) rfl ?_;clear F ac;intro ac F
     refine Y.pskip F (X.w2 rfl (F.yl (j := 25) (d := 43) (b := false) rfl (by kernel_rfl)) rfl) rfl ?_;clear F ac;intro ac F
     refine Y.pskip F (X.w2 rfl (F.yl (j := 25) (d := 43) (b := false) rfl (by kernel_rfl)) rfl) rfl ?_;clear F ac;intro ac F
     refine Y.pskip F (X.w2 rfl (F.yl (j := 25) (d := 43) (b := false) rfl (by kernel_rfl)) rfl) rfl ?_;clear F ac;intro ac F
     refine Y.pskip F (X.w2 rfl (F.yl (j := 25) (d := 43) (b := false) rfl (by kernel_rfl)) rfl) rfl ?_;clear F ac;intro ac F
     refine Y.pv F (X.pickF rfl (F.ev 43 (.bool false)) (X.kc (.bool false) rfl)) ?_;clear F ac;intro ac F
     refine Y.nil ?_
     replace F : Fr ac 52 [(0, .slice (some pd5) m lc), (1, Vi t), (2, Vi k), (3, Vi a), (4, Vi b), (11, Vi i), (51, .bool false)] := F.sub _
     refine X.thenN ?_
     refine Y.condF (F.ev 51 (.bool false)) ?_
     refine Y.skip ?_
     refine X.blockN ?_
     refine X.thenN ?_
     refine Y.lit (by kernel_rfl) ?_
     refine Y.pv F (X.move rfl (F.ev 11 (Vi i))) ?_;clear F ac;intro ac F
     refine Y.pv F (X.binop rfl (F.ev 16 (Vi i)) (X.kc (Vi 1) rfl) (X.addI Try.underlying3 rfl (by omega) (by omega))) ?_;clear F ac;intro ac F
     refine Y.pv F (X.assign rfl (F.ev 17 (Vi ((i : Int) + 1)))) ?_;clear F ac;intro ac F
     refine Y.nil ?_
     replace F : Fr ac 52 [(0, .slice (some pd5) m lc), (1, Vi t), (2, Vi k), (3, Vi a), (4, Vi b), (11, Vi ((i : Int) + 1))] := F.sub _
     refine X.thenN ?_
     refine ⟨_, ?_, i + 1, rfl, GB_, by omega, by simp only [allN, hall, Bool.true_and]; simp [hitB, h6, h7, h8], F.sub _⟩
     omega
    | true =>
     try rw [h8] at F
     have h8p : (cv l i 2 : Int) = a := by simpa using h8
     refine Y.pval F (X.w1 rfl (F.yl (j := 25) (d := 43) (b := true) rfl (by kernel_rfl))) rfl (X.move rfl (F.ev 0 (.slice (some pd5) m lc))) ?_;clear F ac;intro ac F
     refine Y.pval F (X.w1 rfl (F.yl (j := 25) (d := 43) (b := true) rfl (by kernel_rfl))) rfl (X.move rfl (F.ev 11 (Vi i))) ?_;clear F ac;intro ac F
     refine Y.pval F (X.w1 rfl (F.yl (j := 25) (d := 43) (b := true) rfl (by kernel_rfl))) rfl (X.index rfl (F.ev 44 (.slice (some pd5) m lc)) (F.ev 45 (Vi i)) (X.idx (k := i) Try.underlying25 (Try.siz33 _) (by omega) (by omega) rfl)) ?_;clear F ac;intro ac F
     refine Y.pval F (X.w1 rfl (F.yl (j := 25) (d := 43) (b := true) rfl (by kernel_rfl))) rfl (X.field rfl (F.ev 46 (.pointer (some (pd5.add (i * 4))))) (X.fld Try.underlying33 rfl (Try.siz3 _) rfl rfl)) ?_;clear F ac;intro ac F
     refine Y.pval F (X.w1 rfl (F.yl (j := 25) (d := 43) (b := true) rfl (by kernel_rfl))) rfl (X.load rfl (F.ev 47 (.pointer (some (⟨(pd5.add (i * 4)).block, (pd5.add (i * 4)).off + 3, none⟩)))) (X.ld1 (Try.agg3 _) (hC.at 3 rfl))) ?_;clear F ac;intro ac F
     refine Y.pval F (X.w1 rfl (F.yl (j := 25) (d := 43) (b := true) rfl (by kernel_rfl))) rfl (X.move rfl (F.ev 4 (Vi b))) ?_;clear F ac;intro ac F
     refine Y.pval F (X.w1 rfl (F.yl (j := 25) (d := 43) (b := true) rfl (by kernel_rfl))) rfl (X.binop rfl (F.ev 48 (Vi (cv l i 3))) (F.ev 49 (Vi b)) (X.eqlI Try.underlying3 rfl)) ?_;clear F ac;intro ac F
     refine Y.pv F (X.pickT rfl (F.ev 43 (.bool true)) (F.ev 50 (.bool ((cv l i 3 : Int) == b)))) ?_;clear F ac;intro ac F
     refine Y.nil ?_
     replace F : Fr ac 52 [(0, .slice (some pd5) m lc), (1, Vi t), (2, Vi k), (3, Vi a), (4, Vi b), (11, Vi i), (51, .bool ((cv l i 3 : Int) == b))] := F.sub _
     refine X.thenN ?_
     cases h9 : ((cv l i 3 : Int) == b) with
     | false =>
      try rw [h9] at F
      have h9p : ¬ (cv l i 3 : Int) = b := by simpa using h9
      refine Y.condF (F.ev 51 (.bool false)) ?_
      refine Y.skip ?_
      refine X.blockN ?_
      refine X.thenN ?_
      refine Y.lit (by kernel_rfl) ?_
      refine Y.pv F (X.move rfl (F.ev 11 (Vi i))) ?_;clear F ac;intro ac F
      refine Y.pv F (X.binop rfl (F.ev 16 (Vi i)) (X.kc (Vi 1) rfl) (X.addI Try.underlying3 rfl (by omega) (by omega))) ?_;clear F ac;intro ac F
      refine Y.pv F (X.assign rfl (F.ev 17 (Vi ((i : Int) + 1)))) ?_;clear F ac;intro ac F
      refine Y.nil ?_
      replace F : Fr ac 52 [(0, .slice (some pd5) m lc), (1, Vi t), (2, Vi k), (3, Vi a), (4, Vi b), (11, Vi ((i : Int) + 1))] := F.sub _
      refine X.thenN ?_
      refine ⟨_, ?_, i + 1, rfl, GB_, by omega, by simp only [allN, hall, Bool.true_and]; simp [hitB, h6, h7, h8, h9], F.sub _⟩
      omega
     | true =>
      try rw [h9] at F
      have h9p : (cv l i 3 : Int) = b := by simpa using h9
      refine Y.condT (F.ev 51 (.bool true)) ?_
      refine Y.seq ?_
      refine Y.lit (by kernel_rfl) ?_
      refine Y.pv F (X.assign rfl (X.kc (.bool true) rfl)) ?_;clear F ac;intro ac F
      refine Y.nil ?_
      replace F : Fr ac 52 [(10, .bool true)] := F.sub _
      refine X.thenN ?_
      refine Y.ret ?_
      refine X.blockR ?_
      refine X.thenR ?_
      refine X.thenR ?_
      refine X.blockR ?_
      refine X.thenR ?_
      exact Y.ret0 (v := .bool true) F (Y.rs1 F rfl (by kernel_rfl)) ⟨by rw [hasB_yes hlen (i := i) (by omega) (by simp [hitB, h6, h7, h8, h9])], G⟩

set_option maxRecDepth 100000 in
set_option maxHeartbeats 1000000 in
theorem nudged2_any (na la : Option Addr) (n nc m lc : Nat) (gr hold t : Int) (nd l : List (List Int)) (w : World) (hnd : StAt w 5 na n nd) (hl : StAt w 4 la m l) :
  Calls Try.prog 55 #[.agg #[Vi gr, Vi hold, .slice na n nc], Vi t, .slice la m lc] w fun e w' => e = .returned (Vi (playE gr hold nd t l)) ∧ Gr w w' := by
 have G := Gr.refl w
 have hlen := hl.len
 have hlm := hl.lt
 have hndl := hnd.len
 have hndt := hnd.lt
 refine Y.calls 92 Try.func55 rfl rfl ?_
 intro ac F0
 have F : Fr ac 92 [(0, .agg #[Vi gr, Vi hold, .slice na n nc]), (1, Vi t), (2, .slice la m lc)] := F0.sub _
 clear F0
 refine Y.seq ?_
 refine Y.lit (by kernel_rfl) ?_
 refine Y.pv F (X.box rfl (F.ev 0 (.agg #[Vi gr, Vi hold, .slice na n nc])) X.bx) ?_;clear F ac;intro ac F
 have g := Gr.alloc w (.cells #[Vi gr, Vi hold, .slice na n nc] 24)
 have hb := heap_alloc_new w (.cells #[Vi gr, Vi hold, .slice na n nc] 24)
 have hbl : w.heap.size < (w.alloc (.cells #[Vi gr, Vi hold, .slice na n nc] 24)).heap.size := by simp
 have hC2 : RCells (w.alloc (.cells #[Vi gr, Vi hold, .slice na n nc] 24)) [(Ad w.heap.size 0, Vi gr), (Ad w.heap.size 1, Vi hold), (Ad w.heap.size 2, .slice na n nc)] := (RCells.nil w).box (b := w.heap.size) #[Vi gr, Vi hold, .slice na n nc] 24 rfl
 generalize w.alloc (.cells #[Vi gr, Vi hold, .slice na n nc] 24) = w3 at *
 replace G := G.trans g
 have hC := hC2
 clear hC2
 replace hnd := hnd.gr g
 replace hl := hl.gr g
 clear g hb hbl
 refine Y.pv F (X.assign rfl (X.kc (Vi 0) rfl)) ?_;clear F ac;intro ac F
 refine Y.nil ?_
 replace F : Fr ac 92 [(1, Vi t), (2, .slice la m lc), (3, Vp w.heap.size)] := F.sub _
 refine X.thenN ?_
 refine Y.seq ?_
 refine Y.seq ?_
 refine Y.lit (by kernel_rfl) ?_
 refine Y.pv F (X.load rfl (F.ev 3 (Vp w.heap.size)) (X.ldN (Try.agg24 _) (Try.siz24 _) (Y.atz (⟨w.heap.size, 0, none⟩) (Y.AtFrom.cons (hC.at 0 rfl) (Y.AtFrom.cons (hC.at 1 rfl) (Y.AtFrom.cons (hC.at 2 rfl) (Y.AtFrom.nil _ _ _))))))) ?_;clear F ac;intro ac F
 refine Y.pv F (X.move rfl (F.ev 1 (Vi t))) ?_;clear F ac;intro ac F
 refine Y.pcall F (X.w0 rfl) rfl (X.enter (F := 52) rfl (X.kc (.func (.func 52) #[] #[]) rfl) (X.a2 (F.ev 11 (.agg #[Vi gr, Vi hold, .slice na n nc])) (F.ev 12 (Vi t))) (enters_of Try.func52 (by kernel_rfl) rfl _)) (ticks2_any na n nc gr hold t nd w3 hnd) ?_
 clear F ac
 rintro e w4 ⟨rfl, g⟩
 refine ⟨_, rfl, ?_⟩
 intro ac F
 replace G := G.trans g
 replace hC := hC.gr g
 replace hnd := hnd.gr g
 replace hl := hl.gr g
 clear g
 refine Y.pv F (X.assign rfl (F.ev 13 (Vi (ticksE gr hold nd t)))) ?_;clear F ac;intro ac F
 refine Y.nil ?_
 replace F : Fr ac 92 [(1, Vi t), (2, .slice la m lc), (3, Vp w.heap.size), (7, Vi (ticksE gr hold nd t))] := F.sub _
 refine X.thenN ?_
 refine Y.seq ?_
 refine Y.lit (by kernel_rfl) ?_
 refine Y.pv F (X.move rfl (F.ev 7 (Vi (ticksE gr hold nd t)))) ?_;clear F ac;intro ac F
 refine Y.pv F (X.binop rfl (F.ev 14 (Vi (ticksE gr hold nd t))) (X.kc (Vi 0) rfl) (X.neqI Try.underlying26 rfl)) ?_;clear F ac;intro ac F
 refine Y.nil ?_
 replace F : Fr ac 92 [(1, Vi t), (2, .slice la m lc), (3, Vp w.heap.size), (7, Vi (ticksE gr hold nd t)), (15, .bool ((ticksE gr hold nd t : Int) != 0))] := F.sub _
 refine X.thenN ?_
 cases h5 : ((ticksE gr hold nd t : Int) != 0) with
 | false =>
  try rw [h5] at F
  have h5p : (ticksE gr hold nd t : Int) = 0 := by simpa using h5
  have hE : ticksE gr hold nd t = 0 := by simpa using h5p
  have hok := (ticksE_ok hE).1
  have ht := (ticksE_ok hE).2
  have hg1 := hok.g1
  have hg8 := hok.g8
  have h16 : n ≤ 16 := by have := hok.n16; rw [hndl] at this; exact this
  refine Y.condF (F.ev 15 (.bool false)) ?_
  refine Y.skip ?_
  refine X.thenN ?_
  refine Y.seq ?_
  refine Y.seq ?_
  refine Y.lit (by kernel_rfl) ?_
  refine Y.pv F (X.move rfl (F.ev 2 (.slice la m lc))) ?_;clear F ac;intro ac F
  refine Y.pv F (X.len1 Try.underlying25 rfl (F.ev 17 (.slice la m lc))) ?_;clear F ac;intro ac F
  refine Y.pv F (X.binop rfl (F.ev 18 (Vi m)) (X.kc (Vi 200) rfl) (X.gtrI Try.underlying3 rfl)) ?_;clear F ac;intro ac F
  refine Y.nil ?_
  replace F : Fr ac 92 [(1, Vi t), (2, .slice la m lc), (3, Vp w.heap.size), (19, .bool (decide ((200 : Int) < m)))] := F.sub _
  refine X.thenN ?_
  cases h6 : decide ((200 : Int) < m) with
  | false =>
   try rw [h6] at F
   have h6p : ¬ ((200 : Int) < m) := of_decide_eq_false h6
   refine Y.condF (F.ev 19 (.bool false)) ?_
   refine Y.skip ?_
   refine X.thenN ?_
   refine Y.seq ?_
   refine Y.seq ?_
   refine Y.lit (by kernel_rfl) ?_
   refine Y.pv F (X.assign rfl (X.kc (Vi 0) rfl)) ?_;clear F ac;intro ac F
   refine Y.nil ?_
   replace F : Fr ac 92 [(1, Vi t), (2, .slice la m lc), (3, Vp w.heap.size), (8, Vi 0)] := F.sub _
   refine X.thenN ?_
   refine Y.block ?_
   have hndB := hnd
   have hlB := hl
   have hCB := hC
   have GB := G
   refine Y.loop (fun me_ ac wr => ∃ (i : Nat), me_ = m - i ∧ Gr w4 wr ∧ i ≤ m ∧ allN (fun i => rightB gr nd t (l[i]?.getD [])) i = true ∧ Fr ac 92 [(1, Vi t), (2, .slice la m lc), (3, Vp w.heap.size), (8, Vi i)]) _ ⟨0, rfl, Gr.refl _, Nat.zero_le _, rfl, F.sub _⟩ ?_
   clear F
   intro me_ ac w7 hI
   obtain ⟨i, rfl, gr, hi0, hall, F⟩ := hI
   replace G := GB.trans gr
   replace hC := hCB.gr gr
   replace hnd := hndB.gr gr
   replace hl := hlB.gr gr
   have GB_ := gr
   clear gr
   refine Y.seq ?_
   refine Y.seq ?_
   refine Y.lit (by kernel_rfl) ?_
   refine Y.pv F (X.move rfl (F.ev 8 (Vi i))) ?_;clear F ac;intro ac F
   refine Y.pv F (X.move rfl (F.ev 2 (.slice la m lc))) ?_;clear F ac;intro ac F
   refine Y.pv F (X.len1 Try.underlying25 rfl (F.ev 21 (.slice la m lc))) ?_;clear F ac;intro ac F
   refine Y.pv F (X.binop rfl (F.ev 20 (Vi i)) (F.ev 22 (Vi m)) (X.lssI Try.underlying3 rfl)) ?_;clear F ac;intro ac F
   refine Y.nil ?_
   replace F : Fr ac 92 [(1, Vi t), (2, .slice la m lc), (3, Vp w.heap.size), (8, Vi i), (23, .bool (decide ((i : Int) < m)))] := F.sub _
   refine X.thenN ?_
   cases h8 : decide ((i : Int) < m) with
   | false =>
    try rw [h8] at F
    have h8p : ¬ ((i : Int) < m) := of_decide_eq_false h8
    have him : i = m := by omega
    rw [him] at hall
    refine Y.condF (F.ev 23 (.bool false)) ?_
    refine Y.exit ?_
    refine X.thenX ?_
    refine X.thenX ?_
    refine X.blockX ?_
    refine X.thenN ?_
    refine Y.seq ?_
    refine Y.lit (by kernel_rfl) ?_
    refine Y.pv F (X.assign rfl (X.kc (Vi 0) rfl)) ?_;clear F ac;intro ac F
    refine Y.nil ?_
    replace F : Fr ac 92 [(6, Vi 0)] := F.sub _
    refine X.thenN ?_
    refine Y.ret ?_
    exact Y.ret0 (v := Vi 0) F (Y.rs1 F rfl (by kernel_rfl)) ⟨by rw [playE_all hlen hE (by omega) hall], G⟩
   | true =>
    try rw [h8] at F
    have h8p : ((i : Int) < m) := of_decide_eq_true h8
    refine Y.condT (F.ev 23 (.bool true)) ?_
    refine Y.skip ?_
    refine X.thenN ?_
    refine Y.seq ?_
    refine Y.block ?_
    refine Y.seq ?_
    refine Y.lit (by kernel_rfl) ?_
    refine Y.pv F (X.move rfl (F.ev 2 (.slice la m lc))) ?_;clear F ac;intro ac F
    refine Y.pv F (X.move rfl (F.ev 8 (Vi i))) ?_;clear F ac;intro ac F
    obtain ⟨pd9, pe9, -, -, pc9⟩ := hl.at (j := i) (by omega)
    subst pe9
    replace hC : RCells w7 [(Ad w.heap.size 0, Vi gr), (Ad w.heap.size 1, Vi hold), (Ad w.heap.size 2, .slice na n nc), (pd9.add (i * 4), Vi (cv l i 0)), (⟨(pd9.add (i * 4)).block, (pd9.add (i * 4)).off + 1, none⟩, Vi (cv l i 1)), (⟨(pd9.add (i * 4)).block, (pd9.add (i * 4)).off + 2, none⟩, Vi (cv l i 2)), (⟨(pd9.add (i * 4)).block, (pd9.add (i * 4)).off + 3, none⟩, Vi (cv l i 3))] := hC.append ((RCells.cons (pc9 0 (by decide)) (RCells.cons (pc9 1 (by decide)) (RCells.cons (pc9 2 (by decide)) (RCells.cons (pc9 3 (by decide)) (RCells.nil _))))))
    clear pc9
    refine Y.pv F (X.index rfl (F.ev 26 (.slice (some pd9) m lc)) (F.ev 27 (Vi i)) (X.idx (k := i) Try.underlying25 (Try.siz33 _) (by omega) (by omega) rfl)) ?_;clear F ac;intro ac F
    refine Y.pv F (X.load rfl (F.ev 28 (.pointer (some (pd9.add (i * 4))))) (X.ldN (Try.agg33 _) (Try.siz33 _) (Y.atz (pd9.add (i * 4)) (Y.AtFrom.cons (hC.at 3 rfl) (Y.AtFrom.cons (hC.at 4 rfl) (Y.AtFrom.cons (hC.at 5 rfl) (Y.AtFrom.cons (hC.at 6 rfl) (Y.AtFrom.nil _ _ _)))))))) ?_;clear F ac;intro ac F
    refine Y.pv F (Y.al rfl (Try.new33 _)) ?_;clear F ac;intro ac F
    refine Y.punit F (X.w0 rfl) rfl (X.store rfl (F.ev 9 (Vp w7.heap.size)) (F.ev 29 (.agg #[Vi (cv l i 0), Vi (cv l i 1), Vi (cv l i 2), Vi (cv l i 3)])) (Y.stNew [Vi (cv l i 0), Vi (cv l i 1), Vi (cv l i 2), Vi (cv l i 3)] [Vi 0, Vi 0, Vi 0, Vi 0] (Try.siz33 _) rfl rfl)) ?_;clear F ac;intro ac F
    have g := Gr.alloc w7 (.cells #[Vi (cv l i 0), Vi (cv l i 1), Vi (cv l i 2), Vi (cv l i 3)] 33)
    have hb := heap_alloc_new w7 (.cells #[Vi (cv l i 0), Vi (cv l i 1), Vi (cv l i 2), Vi (cv l i 3)] 33)
    have hbl : w7.heap.size < (w7.alloc (.cells #[Vi (cv l i 0), Vi (cv l i 1), Vi (cv l i 2), Vi (cv l i 3)] 33)).heap.size := by simp
    have hC2 : RCells (w7.alloc (.cells #[Vi (cv l i 0), Vi (cv l i 1), Vi (cv l i 2), Vi (cv l i 3)] 33)) [(Ad w.heap.size 0, Vi gr), (Ad w.heap.size 1, Vi hold), (Ad w.heap.size 2, .slice na n nc), (pd9.add (i * 4), Vi (cv l i 0)), (⟨(pd9.add (i * 4)).block, (pd9.add (i * 4)).off + 1, none⟩, Vi (cv l i 1)), (⟨(pd9.add (i * 4)).block, (pd9.add (i * 4)).off + 2, none⟩, Vi (cv l i 2)), (⟨(pd9.add (i * 4)).block, (pd9.add (i * 4)).off + 3, none⟩, Vi (cv l i 3)), (Ad w7.heap.size 0, Vi (cv l i 0)), (Ad w7.heap.size 1, Vi (cv l i 1)), (Ad w7.heap.size 2, Vi (cv l i 2)), (Ad w7.heap.size 3, Vi (cv l i 3))] := hC.box (b := w7.heap.size) #[Vi (cv l i 0), Vi (cv l i 1), Vi (cv l i 2), Vi (cv l i 3)] 33 rfl
    generalize w7.alloc (.cells #[Vi (cv l i 0), Vi (cv l i 1), Vi (cv l i 2), Vi (cv l i 3)] 33) = w10 at *
    replace G := G.trans g
    replace hC := hC2
    clear hC2
    replace GB_ := GB_.trans g
    replace hnd := hnd.gr g
    replace hl := hl.gr g
    clear g hb hbl
    refine Y.nil ?_
    replace F : Fr ac 92 [(1, Vi t), (2, .slice (some pd9) m lc), (3, Vp w.heap.size), (8, Vi i), (9, Vp w7.heap.size)] := F.sub _
    refine X.thenN ?_
    refine Y.seq ?_
    refine Y.seq ?_
    refine Y.lit (by kernel_rfl) ?_
    refine Y.pv F (X.field rfl (F.ev 9 (Vp w7.heap.size)) (X.fld Try.underlying33 rfl (Try.siz3 _) rfl rfl)) ?_;clear F ac;intro ac F
    refine Y.pv F (X.load rfl (F.ev 30 (Vp w7.heap.size)) (X.ld1 (Try.agg3 _) (hC.at 7 rfl))) ?_;clear F ac;intro ac F
    refine Y.pv F (X.move rfl (F.ev 1 (Vi t))) ?_;clear F ac;intro ac F
    refine Y.pv F (X.binop rfl (F.ev 32 (Vi t)) (X.kc (Vi 1) rfl) (X.subI Try.underlying3 rfl (by omega) (by omega))) ?_;clear F ac;intro ac F
    refine Y.pcall F (X.w0 rfl) rfl (X.enter (F := 42) rfl (X.kc (.func (.func 42) #[] #[]) rfl) (X.a3 (F.ev 31 (Vi (cv l i 0))) (X.kc (Vi 0) rfl) (F.ev 33 (Vi ((t : Int) - 1)))) (enters_of Try.func42 (by kernel_rfl) rfl _)) (within2_any (cv l i 0) 0 ((t : Int) - 1) w10) ?_
    clear F ac
    rintro e w' ⟨rfl, hw_⟩
    obtain rfl : w10 = w' := hw_.symm
    clear hw_
    refine ⟨_, rfl, ?_⟩
    intro ac F
    refine Y.pv F (X.notB rfl (F.ev 34 (.bool (withinB (cv l i 0) 0 ((t : Int) - 1)))) rfl) ?_;clear F ac;intro ac F
    refine Y.pv F (X.move rfl (F.ev 35 (.bool (!(withinB (cv l i 0) 0 ((t : Int) - 1)))))) ?_;clear F ac;intro ac F
    cases h11 : withinB (cv l i 0) 0 ((t : Int) - 1) with
    | false =>
     try rw [h11] at F
     refine Y.pskip F (X.w2 rfl (F.yl (j := 6) (d := 36) (b := true) rfl (by kernel_rfl)) rfl) rfl ?_;clear F ac;intro ac F
     refine Y.pskip F (X.w2 rfl (F.yl (j := 6) (d := 36) (b := true) rfl (by kernel_rfl)) rfl) rfl ?_;clear F ac;intro ac F
     refine Y.pskip F (X.w2 rfl (F.yl (j := 6) (d := 36) (b := true) rfl (by kernel_rfl)) rfl) rfl ?_;clear F ac;intro ac F
     refine Y.pskip F (X.w2 rfl (F.yl (j := 6) (d := 36) (b := true) rfl (by kernel_rfl)) rfl) rfl ?_;clear F ac;intro ac F
     refine Y.pskip F (X.w2 rfl (F.yl (j := 6) (d := 36) (b := true) rfl (by kernel_rfl)) rfl) rfl ?_;clear F ac;intro ac F
     refine Y.pskip F (X.w2 rfl (F.yl (j := 6) (d := 36) (b := true) rfl (by kernel_rfl)) rfl) rfl ?_;clear F ac;intro ac F
     refine Y.pskip F (X.w2 rfl (F.yl (j := 6) (d := 36) (b := true) rfl (by kernel_rfl)) rfl) rfl ?_;clear F ac;intro ac F
     refine Y.pskip F (X.w2 rfl (F.yl (j := 6) (d := 36) (b := true) rfl (by kernel_rfl)) rfl) rfl ?_;clear F ac;intro ac F
     refine Y.pv F (X.pickT rfl (F.ev 36 (.bool true)) (X.kc (.bool true) rfl)) ?_;clear F ac;intro ac F
     refine Y.nil ?_
     replace F : Fr ac 92 [(1, Vi t), (2, .slice (some pd9) m lc), (3, Vp w.heap.size), (8, Vi i), (9, Vp w7.heap.size), (45, .bool true)] := F.sub _
     refine X.thenN ?_
     refine Y.condT (F.ev 45 (.bool true)) ?_
     refine Y.seq ?_
     refine Y.lit (by kernel_rfl) ?_
     refine Y.pv F (X.assign rfl (X.kc (Vi 91) rfl)) ?_;clear F ac;intro ac F
     refine Y.nil ?_
     replace F : Fr ac 92 [(6, Vi 91)] := F.sub _
     refine X.thenN ?_
     refine Y.ret ?_
     refine X.thenR ?_
     refine X.blockR ?_
     refine X.thenR ?_
     refine X.thenR ?_
     refine X.blockR ?_
     refine X.thenR ?_
     exact Y.ret0 (v := Vi 91) F (Y.rs1 F rfl (by kernel_rfl)) ⟨by rw [playE_one hlen hE (i := i) (by omega) (by rw [rightB_cv, hndl]; simp [h11])], G⟩
    | true =>
     try rw [h11] at F
     refine Y.pval F (X.w1 rfl (F.yl (j := 6) (d := 36) (b := false) rfl (by kernel_rfl))) rfl (X.field rfl (F.ev 9 (Vp w7.heap.size)) (X.fld Try.underlying33 rfl (Try.siz3 _) rfl rfl)) ?_;clear F ac;intro ac F
     refine Y.pval F (X.w1 rfl (F.yl (j := 6) (d := 36) (b := false) rfl (by kernel_rfl))) rfl (X.load rfl (F.ev 37 (.pointer (some ⟨w7.heap.size, 2, none⟩))) (X.ld1 (Try.agg3 _) (hC.at 9 rfl))) ?_;clear F ac;intro ac F
     refine Y.pval F (X.w1 rfl (F.yl (j := 6) (d := 36) (b := false) rfl (by kernel_rfl))) rfl (X.field rfl (F.ev 3 (Vp w.heap.size)) (X.fld Try.underlying24 rfl (Try.siz22 _) rfl rfl)) ?_;clear F ac;intro ac F
     refine Y.pval F (X.w1 rfl (F.yl (j := 6) (d := 36) (b := false) rfl (by kernel_rfl))) rfl (X.load rfl (F.ev 39 (.pointer (some ⟨w.heap.size, 2, none⟩))) (X.ld1 (Try.agg22 _) (hC.at 2 rfl))) ?_;clear F ac;intro ac F
     refine Y.pval F (X.w1 rfl (F.yl (j := 6) (d := 36) (b := false) rfl (by kernel_rfl))) rfl (X.len1 Try.underlying22 rfl (F.ev 40 (.slice na n nc))) ?_;clear F ac;intro ac F
     refine Y.pval F (X.w1 rfl (F.yl (j := 6) (d := 36) (b := false) rfl (by kernel_rfl))) rfl (X.binop rfl (F.ev 41 (Vi n)) (X.kc (Vi 1) rfl) (X.subI Try.underlying3 rfl (by omega) (by omega))) ?_;clear F ac;intro ac F
     refine Y.pcall F (X.w1 rfl (F.yl (j := 6) (d := 36) (b := false) rfl (by kernel_rfl))) rfl (X.enter (F := 42) rfl (X.kc (.func (.func 42) #[] #[]) rfl) (X.a3 (F.ev 38 (Vi (cv l i 2))) (X.kc (Vi 0) rfl) (F.ev 42 (Vi ((n : Int) - 1)))) (enters_of Try.func42 (by kernel_rfl) rfl _)) (within2_any (cv l i 2) 0 ((n : Int) - 1) w10) ?_
     clear F ac
     rintro e w' ⟨rfl, hw_⟩
     obtain rfl : w10 = w' := hw_.symm
     clear hw_
     refine ⟨_, rfl, ?_⟩
     intro ac F
     refine Y.pval F (X.w1 rfl (F.yl (j := 6) (d := 36) (b := false) rfl (by kernel_rfl))) rfl (X.notB rfl (F.ev 43 (.bool (withinB (cv l i 2) 0 ((n : Int) - 1)))) rfl) ?_;clear F ac;intro ac F
     refine Y.pv F (X.pickF rfl (F.ev 36 (.bool false)) (F.ev 44 (.bool (!(withinB (cv l i 2) 0 ((n : Int) - 1)))))) ?_;clear F ac;intro ac F
     refine Y.nil ?_
     replace F : Fr ac 92 [(1, Vi t), (2, .slice (some pd9) m lc), (3, Vp w.heap.size), (8, Vi i), (9, Vp w7.heap.size), (45, .bool (!(withinB (cv l i 2) 0 ((n : Int) - 1))))] := F.sub _
     refine X.thenN ?_
     cases h12 : withinB (cv l i 2) 0 ((n : Int) - 1) with
     | false =>
      try rw [h12] at F
      refine Y.condT (F.ev 45 (.bool true)) ?_
      refine Y.seq ?_
      refine Y.lit (by kernel_rfl) ?_
      refine Y.pv F (X.assign rfl (X.kc (Vi 91) rfl)) ?_;clear F ac;intro ac F
      refine Y.nil ?_
      replace F : Fr ac 92 [(6, Vi 91)] := F.sub _
      refine X.thenN ?_
      refine Y.ret ?_
      refine X.thenR ?_
      refine X.blockR ?_
      refine X.thenR ?_
      refine X.thenR ?_
      refine X.blockR ?_
      refine X.thenR ?_
      exact Y.ret0 (v := Vi 91) F (Y.rs1 F rfl (by kernel_rfl)) ⟨by rw [playE_one hlen hE (i := i) (by omega) (by rw [rightB_cv, hndl]; simp [h11, h12])], G⟩
     | true =>
      try rw [h12] at F
      have hnn := withinB_ok h12
      refine Y.condF (F.ev 45 (.bool false)) ?_
      refine Y.skip ?_
      refine X.thenN ?_
      refine Y.seq ?_
      refine Y.lit (by kernel_rfl) ?_
      refine Y.pv F (X.assign rfl (X.kc (.bool false) rfl)) ?_;clear F ac;intro ac F
      refine Y.nil ?_
      replace F : Fr ac 92 [(1, Vi t), (2, .slice (some pd9) m lc), (3, Vp w.heap.size), (8, Vi i), (9, Vp w7.heap.size), (10, .bool false)] := F.sub _
      refine X.thenN ?_
      refine Y.seq ?_
      refine Y.seq ?_
      refine Y.lit (by kernel_rfl) ?_
      refine Y.pv F (X.field rfl (F.ev 9 (Vp w7.heap.size)) (X.fld Try.underlying33 rfl (Try.siz3 _) rfl rfl)) ?_;clear F ac;intro ac F
      refine Y.pv F (X.load rfl (F.ev 46 (.pointer (some ⟨w7.heap.size, 1, none⟩))) (X.ld1 (Try.agg3 _) (hC.at 8 rfl))) ?_;clear F ac;intro ac F
      refine Y.nil ?_
      replace F : Fr ac 92 [(1, Vi t), (2, .slice (some pd9) m lc), (3, Vp w.heap.size), (8, Vi i), (9, Vp w7.heap.size), (10, .bool false), (47, Vi (cv l i 1))] := F.sub _
      refine X.thenN ?_
      refine Y.block ?_
      refine Y.seq ?_
      refine Y.seq ?_
      refine Y.lit (by kernel_rfl) ?_
      refine Y.pv F (X.binop rfl (F.ev 47 (Vi (cv l i 1))) (X.kc (Vi 1) rfl) (X.eqlI Try.underlying3 rfl)) ?_;clear F ac;intro ac F
      refine Y.pv F (X.assign rfl (F.ev 49 (.bool ((cv l i 1 : Int) == 1)))) ?_;clear F ac;intro ac F
      refine Y.nil ?_
      replace F : Fr ac 92 [(1, Vi t), (2, .slice (some pd9) m lc), (3, Vp w.heap.size), (8, Vi i), (9, Vp w7.heap.size), (10, .bool false), (47, Vi (cv l i 1)), (48, .bool ((cv l i 1 : Int) == 1))] := F.sub _
      refine X.thenN ?_
      cases h13 : ((cv l i 1 : Int) == 1) with
      | false =>
       try rw [h13] at F
       have h13p : ¬ (cv l i 1 : Int) = 1 := by simpa using h13
       refine Y.condF (F.ev 48 (.bool false)) ?_
       refine Y.lit (by kernel_rfl) ?_
       refine Y.pv F (X.binop rfl (F.ev 47 (Vi (cv l i 1))) (X.kc (Vi 2) rfl) (X.eqlI Try.underlying3 rfl)) ?_;clear F ac;intro ac F
       refine Y.pv F (X.assign rfl (F.ev 50 (.bool ((cv l i 1 : Int) == 2)))) ?_;clear F ac;intro ac F
       refine Y.nil ?_
       replace F : Fr ac 92 [(1, Vi t), (2, .slice (some pd9) m lc), (3, Vp w.heap.size), (8, Vi i), (9, Vp w7.heap.size), (10, .bool false), (47, Vi (cv l i 1)), (48, .bool ((cv l i 1 : Int) == 2))] := F.sub _
       refine X.thenN ?_
       cases h14 : ((cv l i 1 : Int) == 2) with
       | false =>
        try rw [h14] at F
        have h14p : ¬ (cv l i 1 : Int) = 2 := by simpa using h14
        refine Y.condF (F.ev 48 (.bool false)) ?_
        refine Y.seq ?_
        refine Y.lit (by kernel_rfl) ?_
        refine Y.pv F (X.binop rfl (F.ev 47 (Vi (cv l i 1))) (X.kc (Vi 3) rfl) (X.eqlI Try.underlying3 rfl)) ?_;clear F ac;intro ac F
        refine Y.pv F (X.assign rfl (F.ev 70 (.bool ((cv l i 1 : Int) == 3)))) ?_;clear F ac;intro ac F
        refine Y.nil ?_
        replace F : Fr ac 92 [(1, Vi t), (2, .slice (some pd9) m lc), (3, Vp w.heap.size), (8, Vi i), (9, Vp w7.heap.size), (10, .bool false), (47, Vi (cv l i 1)), (69, .bool ((cv l i 1 : Int) == 3))] := F.sub _
        refine X.thenN ?_
        cases h15 : ((cv l i 1 : Int) == 3) with
        | false =>
         try rw [h15] at F
         have h15p : ¬ (cv l i 1 : Int) = 3 := by simpa using h15
         refine Y.condF (F.ev 69 (.bool false)) ?_
         refine Y.seq ?_
         refine Y.lit (by kernel_rfl) ?_
         refine Y.pv F (X.binop rfl (F.ev 47 (Vi (cv l i 1))) (X.kc (Vi 4) rfl) (X.eqlI Try.underlying3 rfl)) ?_;clear F ac;intro ac F
         refine Y.pv F (X.assign rfl (F.ev 75 (.bool ((cv l i 1 : Int) == 4)))) ?_;clear F ac;intro ac F
         refine Y.nil ?_
         replace F : Fr ac 92 [(1, Vi t), (2, .slice (some pd9) m lc), (3, Vp w.heap.size), (8, Vi i), (9, Vp w7.heap.size), (10, .bool false), (74, .bool ((cv l i 1 : Int) == 4))] := F.sub _
         refine X.thenN ?_
         cases h16 : ((cv l i 1 : Int) == 4) with
         | false =>
          try rw [h16] at F
          have h16p : ¬ (cv l i 1 : Int) = 4 := by simpa using h16
          refine Y.condF (F.ev 74 (.bool false)) ?_
          refine Y.skip ?_
          refine X.blockN ?_
          refine X.thenN ?_
          refine Y.seq ?_
          refine Y.lit (by kernel_rfl) ?_
          refine Y.pv F (X.move rfl (F.ev 10 (.bool false))) ?_;clear F ac;intro ac F
          refine Y.pv F (X.notB rfl (F.ev 90 (.bool false)) rfl) ?_;clear F ac;intro ac F
          refine Y.nil ?_
          replace F : Fr ac 92 [(1, Vi t), (2, .slice (some pd9) m lc), (3, Vp w.heap.size), (8, Vi i), (91, .bool true)] := F.sub _
          refine X.thenN ?_
          refine Y.condT (F.ev 91 (.bool true)) ?_
          refine Y.seq ?_
          refine Y.lit (by kernel_rfl) ?_
          refine Y.pv F (X.assign rfl (X.kc (Vi 91) rfl)) ?_;clear F ac;intro ac F
          refine Y.nil ?_
          replace F : Fr ac 92 [(6, Vi 91)] := F.sub _
          refine X.thenN ?_
          refine Y.ret ?_
          refine X.blockR ?_
          refine X.thenR ?_
          refine X.thenR ?_
          refine X.blockR ?_
          refine X.thenR ?_
          exact Y.ret0 (v := Vi 91) F (Y.rs1 F rfl (by kernel_rfl)) ⟨by rw [playE_one hlen hE (i := i) (by omega) (by rw [rightB_cv, hndl]; simp [h11, h12, h13, h13p, h14, h14p, h15, h15p, h16, h16p])], G⟩
         | true =>
          try rw [h16] at F
          have h16p : (cv l i 1 : Int) = 4 := by simpa using h16
          refine Y.condT (F.ev 74 (.bool true)) ?_
          refine Y.lit (by kernel_rfl) ?_
          refine Y.pv F (X.field rfl (F.ev 9 (Vp w7.heap.size)) (X.fld Try.underlying33 rfl (Try.siz3 _) rfl rfl)) ?_;clear F ac;intro ac F
          refine Y.pv F (X.load rfl (F.ev 76 (.pointer (some ⟨w7.heap.size, 3, none⟩))) (X.ld1 (Try.agg3 _) (hC.at 10 rfl))) ?_;clear F ac;intro ac F
          refine Y.pv F (X.field rfl (F.ev 3 (Vp w.heap.size)) (X.fld Try.underlying24 rfl (Try.siz22 _) rfl rfl)) ?_;clear F ac;intro ac F
          refine Y.pv F (X.load rfl (F.ev 78 (.pointer (some ⟨w.heap.size, 2, none⟩))) (X.ld1 (Try.agg22 _) (hC.at 2 rfl))) ?_;clear F ac;intro ac F
          refine Y.pv F (X.len1 Try.underlying22 rfl (F.ev 79 (.slice na n nc))) ?_;clear F ac;intro ac F
          refine Y.pv F (X.binop rfl (F.ev 80 (Vi n)) (X.kc (Vi 1) rfl) (X.subI Try.underlying3 rfl (by omega) (by omega))) ?_;clear F ac;intro ac F
          refine Y.pcall F (X.w0 rfl) rfl (X.enter (F := 42) rfl (X.kc (.func (.func 42) #[] #[]) rfl) (X.a3 (F.ev 77 (Vi (cv l i 3))) (X.kc (Vi 0) rfl) (F.ev 81 (Vi ((n : Int) - 1)))) (enters_of Try.func42 (by kernel_rfl) rfl _)) (within2_any (cv l i 3) 0 ((n : Int) - 1) w10) ?_
          clear F ac
          rintro e w' ⟨rfl, hw_⟩
          obtain rfl : w10 = w' := hw_.symm
          clear hw_
          refine ⟨_, rfl, ?_⟩
          intro ac F
          refine Y.pv F (X.move rfl (F.ev 82 (.bool (withinB (cv l i 3) 0 ((n : Int) - 1))))) ?_;clear F ac;intro ac F
          cases h17 : withinB (cv l i 3) 0 ((n : Int) - 1) with
          | false =>
           try rw [h17] at F
           refine Y.pskip F (X.w2 rfl (F.yl (j := 7) (d := 83) (b := false) rfl (by kernel_rfl)) rfl) rfl ?_;clear F ac;intro ac F
           refine Y.pskip F (X.w2 rfl (F.yl (j := 7) (d := 83) (b := false) rfl (by kernel_rfl)) rfl) rfl ?_;clear F ac;intro ac F
           refine Y.pskip F (X.w2 rfl (F.yl (j := 7) (d := 83) (b := false) rfl (by kernel_rfl)) rfl) rfl ?_;clear F ac;intro ac F
           refine Y.pskip F (X.w2 rfl (F.yl (j := 7) (d := 83) (b := false) rfl (by kernel_rfl)) rfl) rfl ?_;clear F ac;intro ac F
           refine Y.pskip F (X.w2 rfl (F.yl (j := 7) (d := 83) (b := false) rfl (by kernel_rfl)) rfl) rfl ?_;clear F ac;intro ac F
           refine Y.pv F (X.pickF rfl (F.ev 83 (.bool false)) (X.kc (.bool false) rfl)) ?_;clear F ac;intro ac F
           refine Y.pv F (X.assign rfl (F.ev 89 (.bool false))) ?_;clear F ac;intro ac F
           refine Y.nil ?_
           replace F : Fr ac 92 [(1, Vi t), (2, .slice (some pd9) m lc), (3, Vp w.heap.size), (8, Vi i), (10, .bool false)] := F.sub _
           refine X.blockN ?_
           refine X.thenN ?_
           refine Y.seq ?_
           refine Y.lit (by kernel_rfl) ?_
           refine Y.pv F (X.move rfl (F.ev 10 (.bool false))) ?_;clear F ac;intro ac F
           refine Y.pv F (X.notB rfl (F.ev 90 (.bool false)) rfl) ?_;clear F ac;intro ac F
           refine Y.nil ?_
           replace F : Fr ac 92 [(1, Vi t), (2, .slice (some pd9) m lc), (3, Vp w.heap.size), (8, Vi i), (91, .bool true)] := F.sub _
           refine X.thenN ?_
           refine Y.condT (F.ev 91 (.bool true)) ?_
           refine Y.seq ?_
           refine Y.lit (by kernel_rfl) ?_
           refine Y.pv F (X.assign rfl (X.kc (Vi 91) rfl)) ?_;clear F ac;intro ac F
           refine Y.nil ?_
           replace F : Fr ac 92 [(6, Vi 91)] := F.sub _
           refine X.thenN ?_
           refine Y.ret ?_
           refine X.blockR ?_
           refine X.thenR ?_
           refine X.thenR ?_
           refine X.blockR ?_
           refine X.thenR ?_
           exact Y.ret0 (v := Vi 91) F (Y.rs1 F rfl (by kernel_rfl)) ⟨by rw [playE_one hlen hE (i := i) (by omega) (by rw [rightB_cv, hndl]; simp [h11, h12, h13, h13p, h14, h14p, h15, h15p, h16, h16p, h17])], G⟩
          | true =>
           try rw [h17] at F
           have hn3 := withinB_ok h17
           refine Y.pval F (X.w1 rfl (F.yl (j := 7) (d := 83) (b := true) rfl (by kernel_rfl))) rfl (X.field rfl (F.ev 9 (Vp w7.heap.size)) (X.fld Try.underlying33 rfl (Try.siz3 _) rfl rfl)) ?_;clear F ac;intro ac F
           refine Y.pval F (X.w1 rfl (F.yl (j := 7) (d := 83) (b := true) rfl (by kernel_rfl))) rfl (X.load rfl (F.ev 84 (.pointer (some ⟨w7.heap.size, 3, none⟩))) (X.ld1 (Try.agg3 _) (hC.at 10 rfl))) ?_;clear F ac;intro ac F
           refine Y.pval F (X.w1 rfl (F.yl (j := 7) (d := 83) (b := true) rfl (by kernel_rfl))) rfl (X.field rfl (F.ev 9 (Vp w7.heap.size)) (X.fld Try.underlying33 rfl (Try.siz3 _) rfl rfl)) ?_;clear F ac;intro ac F
           refine Y.pval F (X.w1 rfl (F.yl (j := 7) (d := 83) (b := true) rfl (by kernel_rfl))) rfl (X.load rfl (F.ev 86 (.pointer (some ⟨w7.heap.size, 2, none⟩))) (X.ld1 (Try.agg3 _) (hC.at 9 rfl))) ?_;clear F ac;intro ac F
           refine Y.pval F (X.w1 rfl (F.yl (j := 7) (d := 83) (b := true) rfl (by kernel_rfl))) rfl (X.binop rfl (F.ev 85 (Vi (cv l i 3))) (F.ev 87 (Vi (cv l i 2))) (X.neqI Try.underlying3 rfl)) ?_;clear F ac;intro ac F
           refine Y.pv F (X.pickT rfl (F.ev 83 (.bool true)) (F.ev 88 (.bool ((cv l i 3 : Int) != (cv l i 2))))) ?_;clear F ac;intro ac F
           refine Y.pv F (X.assign rfl (F.ev 89 (.bool ((cv l i 3 : Int) != (cv l i 2))))) ?_;clear F ac;intro ac F
           refine Y.nil ?_
           replace F : Fr ac 92 [(1, Vi t), (2, .slice (some pd9) m lc), (3, Vp w.heap.size), (8, Vi i), (10, .bool ((cv l i 3 : Int) != (cv l i 2)))] := F.sub _
           refine X.blockN ?_
           refine X.thenN ?_
           refine Y.seq ?_
           refine Y.lit (by kernel_rfl) ?_
           refine Y.pv F (X.move rfl (F.ev 10 (.bool ((cv l i 3 : Int) != (cv l i 2))))) ?_;clear F ac;intro ac F
           refine Y.pv F (X.notB rfl (F.ev 90 (.bool ((cv l i 3 : Int) != (cv l i 2)))) rfl) ?_;clear F ac;intro ac F
           refine Y.nil ?_
           replace F : Fr ac 92 [(1, Vi t), (2, .slice (some pd9) m lc), (3, Vp w.heap.size), (8, Vi i), (91, .bool (!((cv l i 3 : Int) != (cv l i 2))))] := F.sub _
           refine X.thenN ?_
           cases h18 : (cv l i 3 : Int) != (cv l i 2) with
           | false =>
            try rw [h18] at F
            have h18p : (cv l i 3 : Int) = (cv l i 2) := by simpa using h18
            refine Y.condT (F.ev 91 (.bool true)) ?_
            refine Y.seq ?_
            refine Y.lit (by kernel_rfl) ?_
            refine Y.pv F (X.assign rfl (X.kc (Vi 91) rfl)) ?_;clear F ac;intro ac F
            refine Y.nil ?_
            replace F : Fr ac 92 [(6, Vi 91)] := F.sub _
            refine X.thenN ?_
            refine Y.ret ?_
            refine X.blockR ?_
            refine X.thenR ?_
            refine X.thenR ?_
            refine X.blockR ?_
            refine X.thenR ?_
            exact Y.ret0 (v := Vi 91) F (Y.rs1 F rfl (by kernel_rfl)) ⟨by rw [playE_one hlen hE (i := i) (by omega) (by rw [rightB_cv, hndl]; simp [h11, h12, h13, h13p, h14, h14p, h15, h15p, h16, h16p, h17, h18, h18p])], G⟩
           | true =>
            try rw [h18] at F
            have h18p : ¬ (cv l i 3 : Int) = (cv l i 2) := by simpa using h18
            refine Y.condF (F.ev 91 (.bool false)) ?_
            refine Y.skip ?_
            refine X.blockN ?_
            refine X.thenN ?_
            refine Y.lit (by kernel_rfl) ?_
            refine Y.pv F (X.move rfl (F.ev 8 (Vi i))) ?_;clear F ac;intro ac F
            refine Y.pv F (X.binop rfl (F.ev 24 (Vi i)) (X.kc (Vi 1) rfl) (X.addI Try.underlying3 rfl (by omega) (by omega))) ?_;clear F ac;intro ac F
            refine Y.pv F (X.assign rfl (F.ev 25 (Vi ((i : Int) + 1)))) ?_;clear F ac;intro ac F
            refine Y.nil ?_
            replace F : Fr ac 92 [(1, Vi t), (2, .slice (some pd9) m lc), (3, Vp w.heap.size), (8, Vi ((i : Int) + 1))] := F.sub _
            refine X.thenN ?_
            refine ⟨_, ?_, i + 1, rfl, GB_, by omega, by simp only [allN, hall, Bool.true_and]; rw [rightB_cv, hndl]; simp [h11, h12, h13, h13p, h14, h14p, h15, h15p, h16, h16p, h17, h18, h18p], F.sub _⟩
            omega
        | true =>
         try rw [h15] at F
         have h15p : (cv l i 1 : Int) = 3 := by simpa using h15
         refine Y.condT (F.ev 69 (.bool true)) ?_
         refine Y.lit (by kernel_rfl) ?_
         refine Y.pv F (X.field rfl (F.ev 9 (Vp w7.heap.size)) (X.fld Try.underlying33 rfl (Try.siz3 _) rfl rfl)) ?_;clear F ac;intro ac F
         refine Y.pv F (X.load rfl (F.ev 71 (.pointer (some ⟨w7.heap.size, 3, none⟩))) (X.ld1 (Try.agg3 _) (hC.at 10 rfl))) ?_;clear F ac;intro ac F
         refine Y.pv F (X.binop rfl (F.ev 72 (Vi (cv l i 3))) (X.kc (Vi 0) rfl) (X.eqlI Try.underlying3 rfl)) ?_;clear F ac;intro ac F
         refine Y.pv F (X.assign rfl (F.ev 73 (.bool ((cv l i 3 : Int) == 0)))) ?_;clear F ac;intro ac F
         refine Y.nil ?_
         replace F : Fr ac 92 [(1, Vi t), (2, .slice (some pd9) m lc), (3, Vp w.heap.size), (8, Vi i), (10, .bool ((cv l i 3 : Int) == 0))] := F.sub _
         refine X.blockN ?_
         refine X.thenN ?_
         refine Y.seq ?_
         refine Y.lit (by kernel_rfl) ?_
         refine Y.pv F (X.move rfl (F.ev 10 (.bool ((cv l i 3 : Int) == 0)))) ?_;clear F ac;intro ac F
         refine Y.pv F (X.notB rfl (F.ev 90 (.bool ((cv l i 3 : Int) == 0))) rfl) ?_;clear F ac;intro ac F
         refine Y.nil ?_
         replace F : Fr ac 92 [(1, Vi t), (2, .slice (some pd9) m lc), (3, Vp w.heap.size), (8, Vi i), (91, .bool (!((cv l i 3 : Int) == 0)))] := F.sub _
         refine X.thenN ?_
         cases h19 : (cv l i 3 : Int) == 0 with
         | false =>
          try rw [h19] at F
          refine Y.condT (F.ev 91 (.bool true)) ?_
          refine Y.seq ?_
          refine Y.lit (by kernel_rfl) ?_
          refine Y.pv F (X.assign rfl (X.kc (Vi 91) rfl)) ?_;clear F ac;intro ac F
          refine Y.nil ?_
          replace F : Fr ac 92 [(6, Vi 91)] := F.sub _
          refine X.thenN ?_
          refine Y.ret ?_
          refine X.blockR ?_
          refine X.thenR ?_
          refine X.thenR ?_
          refine X.blockR ?_
          refine X.thenR ?_
          exact Y.ret0 (v := Vi 91) F (Y.rs1 F rfl (by kernel_rfl)) ⟨by rw [playE_one hlen hE (i := i) (by omega) (by rw [rightB_cv, hndl]; simp [h11, h12, h13, h13p, h14, h14p, h15, h15p, h19])], G⟩
         | true =>
          try rw [h19] at F
          refine Y.condF (F.ev 91 (.bool false)) ?_
          refine Y.skip ?_
          refine X.blockN ?_
          refine X.thenN ?_
          refine Y.lit (by kernel_rfl) ?_
          refine Y.pv F (X.move rfl (F.ev 8 (Vi i))) ?_;clear F ac;intro ac F
          refine Y.pv F (X.binop rfl (F.ev 24 (Vi i)) (X.kc (Vi 1) rfl) (X.addI Try.underlying3 rfl (by omega) (by omega))) ?_;clear F ac;intro ac F
          refine Y.pv F (X.assign rfl (F.ev 25 (Vi ((i : Int) + 1)))) ?_;clear F ac;intro ac F
          refine Y.nil ?_
          replace F : Fr ac 92 [(1, Vi t), (2, .slice (some pd9) m lc), (3, Vp w.heap.size), (8, Vi ((i : Int) + 1))] := F.sub _
          refine X.thenN ?_
          refine ⟨_, ?_, i + 1, rfl, GB_, by omega, by simp only [allN, hall, Bool.true_and]; rw [rightB_cv, hndl]; simp [h11, h12, h13, h13p, h14, h14p, h15, h15p, h19], F.sub _⟩
          omega
       | true =>
        try rw [h14] at F
        have h14p : (cv l i 1 : Int) = 2 := by simpa using h14
        refine Y.condT (F.ev 48 (.bool true)) ?_
        cases h20 : withinB (cv l i 3) 0 ((gr : Int) - 1) with
        | false =>
         try rw [h20] at F
         refine Y.region F [some (.pointer (some ⟨w7.heap.size, 3, none⟩)), some (Vi (cv l i 3)), some (Vp w.heap.size), some (Vi gr), some (Vi ((gr : Int) - 1)), some (.bool false), some (.bool false), none, none, none, none, none, none, none, none, none, none, some (.bool false), some (.bool false)] [] rfl ⟨by kernel_rfl, of_decide_eq_true (by kernel_rfl), by kernel_rfl, by kernel_rfl, by kernel_rfl⟩ ⟨?_, ?_, ?_, ?_, ?_, ?_, ?_, ?_, ?_, ?_, ?_, ?_, ?_, ?_, ?_, ?_, ?_, ?_, ?_, trivial⟩ ?_
         ·intro ac done u W Sx hR
          exact X.vl (X.field rfl (Sx.ev 9 (Vp w7.heap.size)) (X.fld Try.underlying33 rfl (Try.siz3 _) rfl rfl)) hR.st0
         ·intro ac done u W Sx hR
          have g : Gr w10 W := hR.1
          exact X.vl (X.load rfl (Sx.ev 51 (.pointer (some ⟨w7.heap.size, 3, none⟩))) (X.ld1 (Try.agg3 _) ((hC.gr g).at 10 rfl))) hR.st0
         ·intro ac done u W Sx hR
          exact X.vl (X.field rfl (Sx.ev 3 (Vp w.heap.size)) (X.fld Try.underlying24 rfl (Try.siz3 _) rfl rfl)) hR.st0
         ·intro ac done u W Sx hR
          have g : Gr w10 W := hR.1
          exact X.vl (X.load rfl (Sx.ev 53 (Vp w.heap.size)) (X.ld1 (Try.agg3 _) ((hC.gr g).at 0 rfl))) hR.st0
         ·intro ac done u W Sx hR
          exact X.vl (X.binop rfl (Sx.ev 54 (Vi gr)) (X.kc (Vi 1) rfl) (X.subI Try.underlying3 rfl (by omega) (by omega))) hR.st0
         ·intro ac done u W Sx hR
          refine X.call (X.w0 rfl) (X.enter (F := 42) rfl (X.kc (.func (.func 42) #[] #[]) rfl) (X.a3 (Sx.ev 52 (Vi (cv l i 3))) (X.kc (Vi 0) rfl) (Sx.ev 55 (Vi ((gr : Int) - 1)))) (enters_of Try.func42 (by kernel_rfl) rfl _)) (by have hq := within2_any (cv l i 3) 0 ((gr : Int) - 1) W; rw [h20] at hq; exact hq) ?_
          rintro e W2 ⟨rfl, rfl⟩
          exact ⟨_, rfl, X.kn rfl, hR.step (Gr.refl _) rfl⟩
         ·intro ac done u W Sx hR
          exact X.vl (X.move rfl (Sx.ev 56 (.bool false))) hR.st0
         ·intro ac done u W Sx hR
          exact X.skip (X.w2 rfl (Sx.yl 6 57 false (by kernel_rfl) rfl rfl) rfl) rfl (hR.skip rfl)
         ·intro ac done u W Sx hR
          exact X.skip (X.w2 rfl (Sx.yl 6 57 false (by kernel_rfl) rfl rfl) rfl) rfl (hR.skip rfl)
         ·intro ac done u W Sx hR
          exact X.skip (X.w2 rfl (Sx.yl 6 57 false (by kernel_rfl) rfl rfl) rfl) rfl (hR.skip rfl)
         ·intro ac done u W Sx hR
          exact X.skip (X.w2 rfl (Sx.yl 6 57 false (by kernel_rfl) rfl rfl) rfl) rfl (hR.skip rfl)
         ·intro ac done u W Sx hR
          exact X.skip (X.w2 rfl (Sx.yl 6 57 false (by kernel_rfl) rfl rfl) rfl) rfl (hR.skip rfl)
         ·intro ac done u W Sx hR
          exact X.skip (X.w2 rfl (Sx.yl 6 57 false (by kernel_rfl) rfl rfl) rfl) rfl (hR.skip rfl)
         ·intro ac done u W Sx hR
          exact X.skip (X.w2 rfl (Sx.yl 6 57 false (by kernel_rfl) rfl rfl) rfl) rfl (hR.skip rfl)
         ·intro ac done u W Sx hR
          exact X.skip (X.w2 rfl (Sx.yl 6 57 false (by kernel_rfl) rfl rfl) rfl) rfl (hR.skip rfl)
         ·intro ac done u W Sx hR
          exact X.skip (X.w2 rfl (Sx.yl 6 57 false (by kernel_rfl) rfl rfl) rfl) rfl (hR.skip rfl)
         ·intro ac done u W Sx hR
          exact X.skip (X.w2 rfl (Sx.yl 6 57 false (by kernel_rfl) rfl rfl) rfl) rfl (hR.skip rfl)
         ·intro ac done u W Sx hR
          exact X.vl (X.pickF rfl (Sx.ev 57 (.bool false)) (X.kc (.bool false) rfl)) hR.st0
         ·intro ac done u W Sx hR
          exact X.vl (X.assign rfl (Sx.ev 68 (.bool false))) hR.st0
         intro ac u w21 hs hd hl ho hR
         have g : Gr w10 w21 := hR.1
         replace F : Fr ac 92 [(1, Vi t), (2, .slice (some pd9) m lc), (3, Vp w.heap.size), (8, Vi i), (10, .bool false)] := X.fr hs hd hl _ (by kernel_rfl)
         clear hs hd hl ho hR
         replace G := G.trans g
         replace hC := hC.gr g
         replace GB_ := GB_.trans g
         replace hnd := hnd.gr g
         replace hl := hl.gr g
         clear g
         refine X.blockN ?_
         refine X.thenN ?_
         refine Y.seq ?_
         refine Y.lit (by kernel_rfl) ?_
         refine Y.pv F (X.move rfl (F.ev 10 (.bool false))) ?_;clear F ac;intro ac F
         refine Y.pv F (X.notB rfl (F.ev 90 (.bool false)) rfl) ?_;clear F ac;intro ac F
         refine Y.nil ?_
         replace F : Fr ac 92 [(1, Vi t), (2, .slice (some pd9) m lc), (3, Vp w.heap.size), (8, Vi i), (91, .bool true)] := F.sub _
         refine X.thenN ?_
         refine Y.condT (F.ev 91 (.bool true)) ?_
         refine Y.seq ?_
         refine Y.lit (by kernel_rfl) ?_
         refine Y.pv F (X.assign rfl (X.kc (Vi 91) rfl)) ?_;clear F ac;intro ac F
         refine Y.nil ?_
         replace F : Fr ac 92 [(6, Vi 91)] := F.sub _
         refine X.thenN ?_
         refine Y.ret ?_
         refine X.blockR ?_
         refine X.thenR ?_
         refine X.thenR ?_
         refine X.blockR ?_
         refine X.thenR ?_
         exact Y.ret0 (v := Vi 91) F (Y.rs1 F rfl (by kernel_rfl)) ⟨by rw [playE_one hlen hE (i := i) (by omega) (by rw [rightB_cv, hndl]; simp [h11, h12, h13, h13p, h14, h14p, h20])], G⟩
        | true =>
         try rw [h20] at F
         have hn3 := withinB_ok h20
         obtain ⟨pd22, pe22, -, -, pc22⟩ := hnd.at (j := (cv l i 2).toNat) (by omega)
         subst pe22
         replace hC : RCells w10 [(Ad w.heap.size 0, Vi gr), (Ad w.heap.size 1, Vi hold), (Ad w.heap.size 2, .slice (some pd22) n nc), (pd9.add (i * 4), Vi (cv l i 0)), (⟨(pd9.add (i * 4)).block, (pd9.add (i * 4)).off + 1, none⟩, Vi (cv l i 1)), (⟨(pd9.add (i * 4)).block, (pd9.add (i * 4)).off + 2, none⟩, Vi (cv l i 2)), (⟨(pd9.add (i * 4)).block, (pd9.add (i * 4)).off + 3, none⟩, Vi (cv l i 3)), (Ad w7.heap.size 0, Vi (cv l i 0)), (Ad w7.heap.size 1, Vi (cv l i 1)), (Ad w7.heap.size 2, Vi (cv l i 2)), (Ad w7.heap.size 3, Vi (cv l i 3)), (pd22.add (((cv l i 2).toNat) * 5), Vi (cv nd ((cv l i 2).toNat) 0)), (⟨(pd22.add (((cv l i 2).toNat) * 5)).block, (pd22.add (((cv l i 2).toNat) * 5)).off + 1, none⟩, Vi (cv nd ((cv l i 2).toNat) 1)), (⟨(pd22.add (((cv l i 2).toNat) * 5)).block, (pd22.add (((cv l i 2).toNat) * 5)).off + 2, none⟩, Vi (cv nd ((cv l i 2).toNat) 2)), (⟨(pd22.add (((cv l i 2).toNat) * 5)).block, (pd22.add (((cv l i 2).toNat) * 5)).off + 3, none⟩, Vi (cv nd ((cv l i 2).toNat) 3)), (⟨(pd22.add (((cv l i 2).toNat) * 5)).block, (pd22.add (((cv l i 2).toNat) * 5)).off + 4, none⟩, Vi (cv nd ((cv l i 2).toNat) 4))] := hC.append ((RCells.cons (pc22 0 (by decide)) (RCells.cons (pc22 1 (by decide)) (RCells.cons (pc22 2 (by decide)) (RCells.cons (pc22 3 (by decide)) (RCells.cons (pc22 4 (by decide)) (RCells.nil _)))))))
         clear pc22
         refine Y.region F [some (.pointer (some ⟨w7.heap.size, 3, none⟩)), some (Vi (cv l i 3)), some (Vp w.heap.size), some (Vi gr), some (Vi ((gr : Int) - 1)), some (.bool true), some (.bool true), some (.pointer (some ⟨w.heap.size, 2, none⟩)), some (.slice (some pd22) n nc), some (.pointer (some ⟨w7.heap.size, 2, none⟩)), some (Vi (cv l i 2)), some (.pointer (some (pd22.add (((cv l i 2).toNat) * 5)))), some (.pointer (some (pd22.add (((cv l i 2).toNat) * 5)))), some (Vi (cv nd ((cv l i 2).toNat) 0)), some (.pointer (some ⟨w7.heap.size, 3, none⟩)), some (Vi (cv l i 3)), some (.bool (bitB (cv nd ((cv l i 2).toNat) 0) (cv l i 3))), some (.bool (bitB (cv nd ((cv l i 2).toNat) 0) (cv l i 3))), some (.bool (bitB (cv nd ((cv l i 2).toNat) 0) (cv l i 3)))] [] rfl ⟨by kernel_rfl, of_decide_eq_true (by kernel_rfl), by kernel_rfl, by kernel_rfl, by kernel_rfl⟩ ⟨?_, ?_, ?_, ?_, ?_, ?_, ?_, ?_, ?_, ?_, ?_, ?_, ?_, ?_, ?_, ?_, ?_, ?_, ?_, trivial⟩ ?_
         ·intro ac done u W Sx hR
          exact X.vl (X.field rfl (Sx.ev 9 (Vp w7.heap.size)) (X.fld Try.underlying33 rfl (Try.siz3 _) rfl rfl)) hR.st0
         ·intro ac done u W Sx hR
          have g : Gr w10 W := hR.1
          exact X.vl (X.load rfl (Sx.ev 51 (.pointer (some ⟨w7.heap.size, 3, none⟩))) (X.ld1 (Try.agg3 _) ((hC.gr g).at 10 rfl))) hR.st0
         ·intro ac done u W Sx hR
          exact X.vl (X.field rfl (Sx.ev 3 (Vp w.heap.size)) (X.fld Try.underlying24 rfl (Try.siz3 _) rfl rfl)) hR.st0
         ·intro ac done u W Sx hR
          have g : Gr w10 W := hR.1
          exact X.vl (X.load rfl (Sx.ev 53 (Vp w.heap.size)) (X.ld1 (Try.agg3 _) ((hC.gr g).at 0 rfl))) hR.st0
         ·intro ac done u W Sx hR
          exact X.vl (X.binop rfl (Sx.ev 54 (Vi gr)) (X.kc (Vi 1) rfl) (X.subI Try.underlying3 rfl (by omega) (by omega))) hR.st0
         ·intro ac done u W Sx hR
          refine X.call (X.w0 rfl) (X.enter (F := 42) rfl (X.kc (.func (.func 42) #[] #[]) rfl) (X.a3 (Sx.ev 52 (Vi (cv l i 3))) (X.kc (Vi 0) rfl) (Sx.ev 55 (Vi ((gr : Int) - 1)))) (enters_of Try.func42 (by kernel_rfl) rfl _)) (by have hq := within2_any (cv l i 3) 0 ((gr : Int) - 1) W; rw [h20] at hq; exact hq) ?_
          rintro e W2 ⟨rfl, rfl⟩
          exact ⟨_, rfl, X.kn rfl, hR.step (Gr.refl _) rfl⟩
         ·intro ac done u W Sx hR
          exact X.vl (X.move rfl (Sx.ev 56 (.bool true))) hR.st0
         ·intro ac done u W Sx hR
          exact X.val (X.w1 rfl (Sx.yl 6 57 true (by kernel_rfl) rfl rfl)) rfl (X.field rfl (Sx.ev 3 (Vp w.heap.size)) (X.fld Try.underlying24 rfl (Try.siz22 _) rfl rfl)) hR.st0
         ·intro ac done u W Sx hR
          have g : Gr w10 W := hR.1
          exact X.val (X.w1 rfl (Sx.yl 6 57 true (by kernel_rfl) rfl rfl)) rfl (X.load rfl (Sx.ev 58 (.pointer (some ⟨w.heap.size, 2, none⟩))) (X.ld1 (Try.agg22 _) ((hC.gr g).at 2 rfl))) hR.st0
         ·intro ac done u W Sx hR
          exact X.val (X.w1 rfl (Sx.yl 6 57 true (by kernel_rfl) rfl rfl)) rfl (X.field rfl (Sx.ev 9 (Vp w7.heap.size)) (X.fld Try.underlying33 rfl (Try.siz3 _) rfl rfl)) hR.st0
         ·intro ac done u W Sx hR
          have g : Gr w10 W := hR.1
          exact X.val (X.w1 rfl (Sx.yl 6 57 true (by kernel_rfl) rfl rfl)) rfl (X.load rfl (Sx.ev 60 (.pointer (some ⟨w7.heap.size, 2, none⟩))) (X.ld1 (Try.agg3 _) ((hC.gr g).at 9 rfl))) hR.st0
         ·intro ac done u W Sx hR
          exact X.val (X.w1 rfl (Sx.yl 6 57 true (by kernel_rfl) rfl rfl)) rfl (X.index rfl (Sx.ev 59 (.slice (some pd22) n nc)) (Sx.ev 61 (Vi (cv l i 2))) (X.idx (k := (cv l i 2).toNat) Try.underlying22 (Try.siz31 _) (by omega) (by omega) rfl)) hR.st0
         ·intro ac done u W Sx hR
          exact X.val (X.w1 rfl (Sx.yl 6 57 true (by kernel_rfl) rfl rfl)) rfl (X.field rfl (Sx.ev 62 (.pointer (some (pd22.add (((cv l i 2).toNat) * 5))))) (X.fld Try.underlying31 rfl (Try.siz3 _) rfl rfl)) hR.st0
         ·intro ac done u W Sx hR
          have g : Gr w10 W := hR.1
          exact X.val (X.w1 rfl (Sx.yl 6 57 true (by kernel_rfl) rfl rfl)) rfl (X.load rfl (Sx.ev 63 (.pointer (some (pd22.add (((cv l i 2).toNat) * 5))))) (X.ld1 (Try.agg3 _) ((hC.gr g).at 11 rfl))) hR.st0
         ·intro ac done u W Sx hR
          exact X.val (X.w1 rfl (Sx.yl 6 57 true (by kernel_rfl) rfl rfl)) rfl (X.field rfl (Sx.ev 9 (Vp w7.heap.size)) (X.fld Try.underlying33 rfl (Try.siz3 _) rfl rfl)) hR.st0
         ·intro ac done u W Sx hR
          have g : Gr w10 W := hR.1
          exact X.val (X.w1 rfl (Sx.yl 6 57 true (by kernel_rfl) rfl rfl)) rfl (X.load rfl (Sx.ev 65 (.pointer (some ⟨w7.heap.size, 3, none⟩))) (X.ld1 (Try.agg3 _) ((hC.gr g).at 10 rfl))) hR.st0
         ·intro ac done u W Sx hR
          refine X.call (X.w1 rfl (Sx.yl 6 57 true (by kernel_rfl) rfl rfl)) (X.enter (F := 58) rfl (X.kc (.func (.func 58) #[] #[]) rfl) (X.a2 (Sx.ev 64 (Vi (cv nd ((cv l i 2).toNat) 0))) (Sx.ev 66 (Vi (cv l i 3)))) (enters_of Try.func58 (by kernel_rfl) rfl _)) (bit2_any (cv nd ((cv l i 2).toNat) 0) (cv l i 3) W (by omega)) ?_
          rintro e W2 ⟨rfl, rfl⟩
          exact ⟨_, rfl, X.kn rfl, hR.step (Gr.refl _) rfl⟩
         ·intro ac done u W Sx hR
          exact X.vl (X.pickT rfl (Sx.ev 57 (.bool true)) (Sx.ev 67 (.bool (bitB (cv nd ((cv l i 2).toNat) 0) (cv l i 3))))) hR.st0
         ·intro ac done u W Sx hR
          exact X.vl (X.assign rfl (Sx.ev 68 (.bool (bitB (cv nd ((cv l i 2).toNat) 0) (cv l i 3))))) hR.st0
         intro ac u w23 hs hd hl ho hR
         have g : Gr w10 w23 := hR.1
         replace F : Fr ac 92 [(1, Vi t), (2, .slice (some pd9) m lc), (3, Vp w.heap.size), (8, Vi i), (10, .bool (bitB (cv nd ((cv l i 2).toNat) 0) (cv l i 3)))] := X.fr hs hd hl _ (by kernel_rfl)
         clear hs hd hl ho hR
         replace G := G.trans g
         replace hC := hC.gr g
         replace GB_ := GB_.trans g
         replace hnd := hnd.gr g
         replace hl := hl.gr g
         clear g
         refine X.blockN ?_
         refine X.thenN ?_
         refine Y.seq ?_
         refine Y.lit (by kernel_rfl) ?_
         refine Y.pv F (X.move rfl (F.ev 10 (.bool (bitB (cv nd ((cv l i 2).toNat) 0) (cv l i 3))))) ?_;clear F ac;intro ac F
         refine Y.pv F (X.notB rfl (F.ev 90 (.bool (bitB (cv nd ((cv l i 2).toNat) 0) (cv l i 3)))) rfl) ?_;clear F ac;intro ac F
         refine Y.nil ?_
         replace F : Fr ac 92 [(1, Vi t), (2, .slice (some pd9) m lc), (3, Vp w.heap.size), (8, Vi i), (91, .bool (!(bitB (cv nd ((cv l i 2).toNat) 0) (cv l i 3))))] := F.sub _
         refine X.thenN ?_
         cases h24 : bitB (cv nd ((cv l i 2).toNat) 0) (cv l i 3) with
         | false =>
          try rw [h24] at F
          refine Y.condT (F.ev 91 (.bool true)) ?_
          refine Y.seq ?_
          refine Y.lit (by kernel_rfl) ?_
          refine Y.pv F (X.assign rfl (X.kc (Vi 91) rfl)) ?_;clear F ac;intro ac F
          refine Y.nil ?_
          replace F : Fr ac 92 [(6, Vi 91)] := F.sub _
          refine X.thenN ?_
          refine Y.ret ?_
          refine X.blockR ?_
          refine X.thenR ?_
          refine X.thenR ?_
          refine X.blockR ?_
          refine X.thenR ?_
          exact Y.ret0 (v := Vi 91) F (Y.rs1 F rfl (by kernel_rfl)) ⟨by rw [playE_one hlen hE (i := i) (by omega) (by rw [rightB_cv, hndl]; simp [h11, h12, h13, h13p, h14, h14p, h20, h24])], G⟩
         | true =>
          try rw [h24] at F
          refine Y.condF (F.ev 91 (.bool false)) ?_
          refine Y.skip ?_
          refine X.blockN ?_
          refine X.thenN ?_
          refine Y.lit (by kernel_rfl) ?_
          refine Y.pv F (X.move rfl (F.ev 8 (Vi i))) ?_;clear F ac;intro ac F
          refine Y.pv F (X.binop rfl (F.ev 24 (Vi i)) (X.kc (Vi 1) rfl) (X.addI Try.underlying3 rfl (by omega) (by omega))) ?_;clear F ac;intro ac F
          refine Y.pv F (X.assign rfl (F.ev 25 (Vi ((i : Int) + 1)))) ?_;clear F ac;intro ac F
          refine Y.nil ?_
          replace F : Fr ac 92 [(1, Vi t), (2, .slice (some pd9) m lc), (3, Vp w.heap.size), (8, Vi ((i : Int) + 1))] := F.sub _
          refine X.thenN ?_
          refine ⟨_, ?_, i + 1, rfl, GB_, by omega, by simp only [allN, hall, Bool.true_and]; rw [rightB_cv, hndl]; simp [h11, h12, h13, h13p, h14, h14p, h20, h24], F.sub _⟩
          omega
      | true =>
       try rw [h13] at F
       have h13p : (cv l i 1 : Int) = 1 := by simpa using h13
       refine Y.condT (F.ev 48 (.bool true)) ?_
       refine Y.skip ?_
       refine X.thenN ?_
       refine Y.condT (F.ev 48 (.bool true)) ?_
       cases h25 : withinB (cv l i 3) 0 ((gr : Int) - 1) with
       | false =>
        try rw [h25] at F
        refine Y.region F [some (.pointer (some ⟨w7.heap.size, 3, none⟩)), some (Vi (cv l i 3)), some (Vp w.heap.size), some (Vi gr), some (Vi ((gr : Int) - 1)), some (.bool false), some (.bool false), none, none, none, none, none, none, none, none, none, none, some (.bool false), some (.bool false)] [] rfl ⟨by kernel_rfl, of_decide_eq_true (by kernel_rfl), by kernel_rfl, by kernel_rfl, by kernel_rfl⟩ ⟨?_, ?_, ?_, ?_, ?_, ?_, ?_, ?_, ?_, ?_, ?_, ?_, ?_, ?_, ?_, ?_, ?_, ?_, ?_, trivial⟩ ?_
        ·intro ac done u W Sx hR
         exact X.vl (X.field rfl (Sx.ev 9 (Vp w7.heap.size)) (X.fld Try.underlying33 rfl (Try.siz3 _) rfl rfl)) hR.st0
        ·intro ac done u W Sx hR
         have g : Gr w10 W := hR.1
         exact X.vl (X.load rfl (Sx.ev 51 (.pointer (some ⟨w7.heap.size, 3, none⟩))) (X.ld1 (Try.agg3 _) ((hC.gr g).at 10 rfl))) hR.st0
        ·intro ac done u W Sx hR
         exact X.vl (X.field rfl (Sx.ev 3 (Vp w.heap.size)) (X.fld Try.underlying24 rfl (Try.siz3 _) rfl rfl)) hR.st0
        ·intro ac done u W Sx hR
         have g : Gr w10 W := hR.1
         exact X.vl (X.load rfl (Sx.ev 53 (Vp w.heap.size)) (X.ld1 (Try.agg3 _) ((hC.gr g).at 0 rfl))) hR.st0
        ·intro ac done u W Sx hR
         exact X.vl (X.binop rfl (Sx.ev 54 (Vi gr)) (X.kc (Vi 1) rfl) (X.subI Try.underlying3 rfl (by omega) (by omega))) hR.st0
        ·intro ac done u W Sx hR
         refine X.call (X.w0 rfl) (X.enter (F := 42) rfl (X.kc (.func (.func 42) #[] #[]) rfl) (X.a3 (Sx.ev 52 (Vi (cv l i 3))) (X.kc (Vi 0) rfl) (Sx.ev 55 (Vi ((gr : Int) - 1)))) (enters_of Try.func42 (by kernel_rfl) rfl _)) (by have hq := within2_any (cv l i 3) 0 ((gr : Int) - 1) W; rw [h25] at hq; exact hq) ?_
         rintro e W2 ⟨rfl, rfl⟩
         exact ⟨_, rfl, X.kn rfl, hR.step (Gr.refl _) rfl⟩
        ·intro ac done u W Sx hR
         exact X.vl (X.move rfl (Sx.ev 56 (.bool false))) hR.st0
        ·intro ac done u W Sx hR
         exact X.skip (X.w2 rfl (Sx.yl 6 57 false (by kernel_rfl) rfl rfl) rfl) rfl (hR.skip rfl)
        ·intro ac done u W Sx hR
         exact X.skip (X.w2 rfl (Sx.yl 6 57 false (by kernel_rfl) rfl rfl) rfl) rfl (hR.skip rfl)
        ·intro ac done u W Sx hR
         exact X.skip (X.w2 rfl (Sx.yl 6 57 false (by kernel_rfl) rfl rfl) rfl) rfl (hR.skip rfl)
        ·intro ac done u W Sx hR
         exact X.skip (X.w2 rfl (Sx.yl 6 57 false (by kernel_rfl) rfl rfl) rfl) rfl (hR.skip rfl)
        ·intro ac done u W Sx hR
         exact X.skip (X.w2 rfl (Sx.yl 6 57 false (by kernel_rfl) rfl rfl) rfl) rfl (hR.skip rfl)
        ·intro ac done u W Sx hR
         exact X.skip (X.w2 rfl (Sx.yl 6 57 false (by kernel_rfl) rfl rfl) rfl) rfl (hR.skip rfl)
        ·intro ac done u W Sx hR
         exact X.skip (X.w2 rfl (Sx.yl 6 57 false (by kernel_rfl) rfl rfl) rfl) rfl (hR.skip rfl)
        ·intro ac done u W Sx hR
         exact X.skip (X.w2 rfl (Sx.yl 6 57 false (by kernel_rfl) rfl rfl) rfl) rfl (hR.skip rfl)
        ·intro ac done u W Sx hR
         exact X.skip (X.w2 rfl (Sx.yl 6 57 false (by kernel_rfl) rfl rfl) rfl) rfl (hR.skip rfl)
        ·intro ac done u W Sx hR
         exact X.skip (X.w2 rfl (Sx.yl 6 57 false (by kernel_rfl) rfl rfl) rfl) rfl (hR.skip rfl)
        ·intro ac done u W Sx hR
         exact X.vl (X.pickF rfl (Sx.ev 57 (.bool false)) (X.kc (.bool false) rfl)) hR.st0
        ·intro ac done u W Sx hR
         exact X.vl (X.assign rfl (Sx.ev 68 (.bool false))) hR.st0
        intro ac u w26 hs hd hl ho hR
        have g : Gr w10 w26 := hR.1
        replace F : Fr ac 92 [(1, Vi t), (2, .slice (some pd9) m lc), (3, Vp w.heap.size), (8, Vi i), (10, .bool false)] := X.fr hs hd hl _ (by kernel_rfl)
        clear hs hd hl ho hR
        replace G := G.trans g
        replace hC := hC.gr g
        replace GB_ := GB_.trans g
        replace hnd := hnd.gr g
        replace hl := hl.gr g
        clear g
        refine X.blockN ?_
        refine X.thenN ?_
        refine Y.seq ?_
        refine Y.lit (by kernel_rfl) ?_
        refine Y.pv F (X.move rfl (F.ev 10 (.bool false))) ?_;clear F ac;intro ac F
        refine Y.pv F (X.notB rfl (F.ev 90 (.bool false)) rfl) ?_;clear F ac;intro ac F
        refine Y.nil ?_
        replace F : Fr ac 92 [(1, Vi t), (2, .slice (some pd9) m lc), (3, Vp w.heap.size), (8, Vi i), (91, .bool true)] := F.sub _
        refine X.thenN ?_
        refine Y.condT (F.ev 91 (.bool true)) ?_
        refine Y.seq ?_
        refine Y.lit (by kernel_rfl) ?_
        refine Y.pv F (X.assign rfl (X.kc (Vi 91) rfl)) ?_;clear F ac;intro ac F
        refine Y.nil ?_
        replace F : Fr ac 92 [(6, Vi 91)] := F.sub _
        refine X.thenN ?_
        refine Y.ret ?_
        refine X.blockR ?_
        refine X.thenR ?_
        refine X.thenR ?_
        refine X.blockR ?_
        refine X.thenR ?_
        exact Y.ret0 (v := Vi 91) F (Y.rs1 F rfl (by kernel_rfl)) ⟨by rw [playE_one hlen hE (i := i) (by omega) (by rw [rightB_cv, hndl]; simp [h11, h12, h13, h13p, h25])], G⟩
       | true =>
        try rw [h25] at F
        have hn3 := withinB_ok h25
        obtain ⟨pd27, pe27, -, -, pc27⟩ := hnd.at (j := (cv l i 2).toNat) (by omega)
        subst pe27
        replace hC : RCells w10 [(Ad w.heap.size 0, Vi gr), (Ad w.heap.size 1, Vi hold), (Ad w.heap.size 2, .slice (some pd27) n nc), (pd9.add (i * 4), Vi (cv l i 0)), (⟨(pd9.add (i * 4)).block, (pd9.add (i * 4)).off + 1, none⟩, Vi (cv l i 1)), (⟨(pd9.add (i * 4)).block, (pd9.add (i * 4)).off + 2, none⟩, Vi (cv l i 2)), (⟨(pd9.add (i * 4)).block, (pd9.add (i * 4)).off + 3, none⟩, Vi (cv l i 3)), (Ad w7.heap.size 0, Vi (cv l i 0)), (Ad w7.heap.size 1, Vi (cv l i 1)), (Ad w7.heap.size 2, Vi (cv l i 2)), (Ad w7.heap.size 3, Vi (cv l i 3)), (pd27.add (((cv l i 2).toNat) * 5), Vi (cv nd ((cv l i 2).toNat) 0)), (⟨(pd27.add (((cv l i 2).toNat) * 5)).block, (pd27.add (((cv l i 2).toNat) * 5)).off + 1, none⟩, Vi (cv nd ((cv l i 2).toNat) 1)), (⟨(pd27.add (((cv l i 2).toNat) * 5)).block, (pd27.add (((cv l i 2).toNat) * 5)).off + 2, none⟩, Vi (cv nd ((cv l i 2).toNat) 2)), (⟨(pd27.add (((cv l i 2).toNat) * 5)).block, (pd27.add (((cv l i 2).toNat) * 5)).off + 3, none⟩, Vi (cv nd ((cv l i 2).toNat) 3)), (⟨(pd27.add (((cv l i 2).toNat) * 5)).block, (pd27.add (((cv l i 2).toNat) * 5)).off + 4, none⟩, Vi (cv nd ((cv l i 2).toNat) 4))] := hC.append ((RCells.cons (pc27 0 (by decide)) (RCells.cons (pc27 1 (by decide)) (RCells.cons (pc27 2 (by decide)) (RCells.cons (pc27 3 (by decide)) (RCells.cons (pc27 4 (by decide)) (RCells.nil _)))))))
        clear pc27
        refine Y.region F [some (.pointer (some ⟨w7.heap.size, 3, none⟩)), some (Vi (cv l i 3)), some (Vp w.heap.size), some (Vi gr), some (Vi ((gr : Int) - 1)), some (.bool true), some (.bool true), some (.pointer (some ⟨w.heap.size, 2, none⟩)), some (.slice (some pd27) n nc), some (.pointer (some ⟨w7.heap.size, 2, none⟩)), some (Vi (cv l i 2)), some (.pointer (some (pd27.add (((cv l i 2).toNat) * 5)))), some (.pointer (some (pd27.add (((cv l i 2).toNat) * 5)))), some (Vi (cv nd ((cv l i 2).toNat) 0)), some (.pointer (some ⟨w7.heap.size, 3, none⟩)), some (Vi (cv l i 3)), some (.bool (bitB (cv nd ((cv l i 2).toNat) 0) (cv l i 3))), some (.bool (bitB (cv nd ((cv l i 2).toNat) 0) (cv l i 3))), some (.bool (bitB (cv nd ((cv l i 2).toNat) 0) (cv l i 3)))] [] rfl ⟨by kernel_rfl, of_decide_eq_true (by kernel_rfl), by kernel_rfl, by kernel_rfl, by kernel_rfl⟩ ⟨?_, ?_, ?_, ?_, ?_, ?_, ?_, ?_, ?_, ?_, ?_, ?_, ?_, ?_, ?_, ?_, ?_, ?_, ?_, trivial⟩ ?_
        ·intro ac done u W Sx hR
         exact X.vl (X.field rfl (Sx.ev 9 (Vp w7.heap.size)) (X.fld Try.underlying33 rfl (Try.siz3 _) rfl rfl)) hR.st0
        ·intro ac done u W Sx hR
         have g : Gr w10 W := hR.1
         exact X.vl (X.load rfl (Sx.ev 51 (.pointer (some ⟨w7.heap.size, 3, none⟩))) (X.ld1 (Try.agg3 _) ((hC.gr g).at 10 rfl))) hR.st0
        ·intro ac done u W Sx hR
         exact X.vl (X.field rfl (Sx.ev 3 (Vp w.heap.size)) (X.fld Try.underlying24 rfl (Try.siz3 _) rfl rfl)) hR.st0
        ·intro ac done u W Sx hR
         have g : Gr w10 W := hR.1
         exact X.vl (X.load rfl (Sx.ev 53 (Vp w.heap.size)) (X.ld1 (Try.agg3 _) ((hC.gr g).at 0 rfl))) hR.st0
        ·intro ac done u W Sx hR
         exact X.vl (X.binop rfl (Sx.ev 54 (Vi gr)) (X.kc (Vi 1) rfl) (X.subI Try.underlying3 rfl (by omega) (by omega))) hR.st0
        ·intro ac done u W Sx hR
         refine X.call (X.w0 rfl) (X.enter (F := 42) rfl (X.kc (.func (.func 42) #[] #[]) rfl) (X.a3 (Sx.ev 52 (Vi (cv l i 3))) (X.kc (Vi 0) rfl) (Sx.ev 55 (Vi ((gr : Int) - 1)))) (enters_of Try.func42 (by kernel_rfl) rfl _)) (by have hq := within2_any (cv l i 3) 0 ((gr : Int) - 1) W; rw [h25] at hq; exact hq) ?_
         rintro e W2 ⟨rfl, rfl⟩
         exact ⟨_, rfl, X.kn rfl, hR.step (Gr.refl _) rfl⟩
        ·intro ac done u W Sx hR
         exact X.vl (X.move rfl (Sx.ev 56 (.bool true))) hR.st0
        ·intro ac done u W Sx hR
         exact X.val (X.w1 rfl (Sx.yl 6 57 true (by kernel_rfl) rfl rfl)) rfl (X.field rfl (Sx.ev 3 (Vp w.heap.size)) (X.fld Try.underlying24 rfl (Try.siz22 _) rfl rfl)) hR.st0
        ·intro ac done u W Sx hR
         have g : Gr w10 W := hR.1
         exact X.val (X.w1 rfl (Sx.yl 6 57 true (by kernel_rfl) rfl rfl)) rfl (X.load rfl (Sx.ev 58 (.pointer (some ⟨w.heap.size, 2, none⟩))) (X.ld1 (Try.agg22 _) ((hC.gr g).at 2 rfl))) hR.st0
        ·intro ac done u W Sx hR
         exact X.val (X.w1 rfl (Sx.yl 6 57 true (by kernel_rfl) rfl rfl)) rfl (X.field rfl (Sx.ev 9 (Vp w7.heap.size)) (X.fld Try.underlying33 rfl (Try.siz3 _) rfl rfl)) hR.st0
        ·intro ac done u W Sx hR
         have g : Gr w10 W := hR.1
         exact X.val (X.w1 rfl (Sx.yl 6 57 true (by kernel_rfl) rfl rfl)) rfl (X.load rfl (Sx.ev 60 (.pointer (some ⟨w7.heap.size, 2, none⟩))) (X.ld1 (Try.agg3 _) ((hC.gr g).at 9 rfl))) hR.st0
        ·intro ac done u W Sx hR
         exact X.val (X.w1 rfl (Sx.yl 6 57 true (by kernel_rfl) rfl rfl)) rfl (X.index rfl (Sx.ev 59 (.slice (some pd27) n nc)) (Sx.ev 61 (Vi (cv l i 2))) (X.idx (k := (cv l i 2).toNat) Try.underlying22 (Try.siz31 _) (by omega) (by omega) rfl)) hR.st0
        ·intro ac done u W Sx hR
         exact X.val (X.w1 rfl (Sx.yl 6 57 true (by kernel_rfl) rfl rfl)) rfl (X.field rfl (Sx.ev 62 (.pointer (some (pd27.add (((cv l i 2).toNat) * 5))))) (X.fld Try.underlying31 rfl (Try.siz3 _) rfl rfl)) hR.st0
        ·intro ac done u W Sx hR
         have g : Gr w10 W := hR.1
         exact X.val (X.w1 rfl (Sx.yl 6 57 true (by kernel_rfl) rfl rfl)) rfl (X.load rfl (Sx.ev 63 (.pointer (some (pd27.add (((cv l i 2).toNat) * 5))))) (X.ld1 (Try.agg3 _) ((hC.gr g).at 11 rfl))) hR.st0
        ·intro ac done u W Sx hR
         exact X.val (X.w1 rfl (Sx.yl 6 57 true (by kernel_rfl) rfl rfl)) rfl (X.field rfl (Sx.ev 9 (Vp w7.heap.size)) (X.fld Try.underlying33 rfl (Try.siz3 _) rfl rfl)) hR.st0
        ·intro ac done u W Sx hR
         have g : Gr w10 W := hR.1
         exact X.val (X.w1 rfl (Sx.yl 6 57 true (by kernel_rfl) rfl rfl)) rfl (X.load rfl (Sx.ev 65 (.pointer (some ⟨w7.heap.size, 3, none⟩))) (X.ld1 (Try.agg3 _) ((hC.gr g).at 10 rfl))) hR.st0
        ·intro ac done u W Sx hR
         refine X.call (X.w1 rfl (Sx.yl 6 57 true (by kernel_rfl) rfl rfl)) (X.enter (F := 58) rfl (X.kc (.func (.func 58) #[] #[]) rfl) (X.a2 (Sx.ev 64 (Vi (cv nd ((cv l i 2).toNat) 0))) (Sx.ev 66 (Vi (cv l i 3)))) (enters_of Try.func58 (by kernel_rfl) rfl _)) (bit2_any (cv nd ((cv l i 2).toNat) 0) (cv l i 3) W (by omega)) ?_
         rintro e W2 ⟨rfl, rfl⟩
         exact ⟨_, rfl, X.kn rfl, hR.step (Gr.refl _) rfl⟩
        ·intro ac done u W Sx hR
         exact X.vl (X.pickT rfl (Sx.ev 57 (.bool true)) (Sx.ev 67 (.bool (bitB (cv nd ((cv l i 2).toNat) 0) (cv l i 3))))) hR.st0
        ·intro ac done u W Sx hR
         exact X.vl (X.assign rfl (Sx.ev 68 (.bool (bitB (cv nd ((cv l i 2).toNat) 0) (cv l i 3))))) hR.st0
        intro ac u w28 hs hd hl ho hR
        have g : Gr w10 w28 := hR.1
        replace F : Fr ac 92 [(1, Vi t), (2, .slice (some pd9) m lc), (3, Vp w.heap.size), (8, Vi i), (10, .bool (bitB (cv nd ((cv l i 2).toNat) 0) (cv l i 3)))] := X.fr hs hd hl _ (by kernel_rfl)
        clear hs hd hl ho hR
        replace G := G.trans g
        replace hC := hC.gr g
        replace GB_ := GB_.trans g
        replace hnd := hnd.gr g
        replace hl := hl.gr g
        clear g
        refine X.blockN ?_
        refine X.thenN ?_
        refine Y.seq ?_
        refine Y.lit (by kernel_rfl) ?_
        refine Y.pv F (X.move rfl (F.ev 10 (.bool (bitB (cv nd ((cv l i 2).toNat) 0) (cv l i 3))))) ?_;clear F ac;intro ac F
        refine Y.pv F (X.notB rfl (F.ev 90 (.bool (bitB (cv nd ((cv l i 2).toNat) 0) (cv l i 3)))) rfl) ?_;clear F ac;intro ac F
        refine Y.nil ?_
        replace F : Fr ac 92 [(1, Vi t), (2, .slice (some pd9) m lc), (3, Vp w.heap.size), (8, Vi i), (91, .bool (!(bitB (cv nd ((cv l i 2).toNat) 0) (cv l i 3))))] := F.sub _
        refine X.thenN ?_
        cases h29 : bitB (cv nd ((cv l i 2).toNat) 0) (cv l i 3) with
        | false =>
         try rw [h29] at F
         refine Y.condT (F.ev 91 (.bool true)) ?_
         refine Y.seq ?_
         refine Y.lit (by kernel_rfl) ?_
         refine Y.pv F (X.assign rfl (X.kc (Vi 91) rfl)) ?_;clear F ac;intro ac F
         refine Y.nil ?_
         replace F : Fr ac 92 [(6, Vi 91)] := F.sub _
         refine X.thenN ?_
         refine Y.ret ?_
         refine X.blockR ?_
         refine X.thenR ?_
         refine X.thenR ?_
         refine X.blockR ?_
         refine X.thenR ?_
         exact Y.ret0 (v := Vi 91) F (Y.rs1 F rfl (by kernel_rfl)) ⟨by rw [playE_one hlen hE (i := i) (by omega) (by rw [rightB_cv, hndl]; simp [h11, h12, h13, h13p, h25, h29])], G⟩
        | true =>
         try rw [h29] at F
         refine Y.condF (F.ev 91 (.bool false)) ?_
         refine Y.skip ?_
         refine X.blockN ?_
         refine X.thenN ?_
         refine Y.lit (by kernel_rfl) ?_
         refine Y.pv F (X.move rfl (F.ev 8 (Vi i))) ?_;clear F ac;intro ac F
         refine Y.pv F (X.binop rfl (F.ev 24 (Vi i)) (X.kc (Vi 1) rfl) (X.addI Try.underlying3 rfl (by omega) (by omega))) ?_;clear F ac;intro ac F
         refine Y.pv F (X.assign rfl (F.ev 25 (Vi ((i : Int) + 1)))) ?_;clear F ac;intro ac F
         refine Y.nil ?_
         replace F : Fr ac 92 [(1, Vi t), (2, .slice (some pd9) m lc), (3, Vp w.heap.size), (8, Vi ((i : Int) + 1))] := F.sub _
         refine X.thenN ?_
         refine ⟨_, ?_, i + 1, rfl, GB_, by omega, by simp only [allN, hall, Bool.true_and]; rw [rightB_cv, hndl]; simp [h11, h12, h13, h13p, h25, h29], F.sub _⟩
         omega
  | true =>
   try rw [h6] at F
   have h6p : ((200 : Int) < m) := of_decide_eq_true h6
   refine Y.condT (F.ev 19 (.bool true)) ?_
   refine Y.seq ?_
   refine Y.lit (by kernel_rfl) ?_
   refine Y.pv F (X.assign rfl (X.kc (Vi 91) rfl)) ?_;clear F ac;intro ac F
   refine Y.nil ?_
   replace F : Fr ac 92 [(6, Vi 91)] := F.sub _
   refine X.thenN ?_
   refine Y.ret ?_
   refine X.thenR ?_
   exact Y.ret0 (v := Vi 91) F (Y.rs1 F rfl (by kernel_rfl)) ⟨by rw [playE_long hlen hE (by omega)], G⟩
 | true =>
  try rw [h5] at F
  have h5p : ¬ (ticksE gr hold nd t : Int) = 0 := by simpa using h5
  have hE : ¬ ticksE gr hold nd t = 0 := by simpa using h5p
  refine Y.condT (F.ev 15 (.bool true)) ?_
  refine Y.seq ?_
  refine Y.lit (by kernel_rfl) ?_
  refine Y.pv F (X.move rfl (F.ev 7 (Vi (ticksE gr hold nd t)))) ?_;clear F ac;intro ac F
  refine Y.pv F (X.assign rfl (F.ev 16 (Vi (ticksE gr hold nd t)))) ?_;clear F ac;intro ac F
  refine Y.nil ?_
  replace F : Fr ac 92 [(6, Vi (ticksE gr hold nd t))] := F.sub _
  refine X.thenN ?_
  refine Y.ret ?_
  refine X.thenR ?_
  exact Y.ret0 (v := Vi (ticksE gr hold nd t)) F (Y.rs1 F rfl (by kernel_rfl)) ⟨by rw [playE, if_pos hE], G⟩
end
section
set_option linter.unusedVariables false
open Go.RowKit

theorem foldl_keep {σ α : Type} {f : σ → α → σ} {P : σ → Prop} : ∀ (L : List α) (s : σ), P s → (∀ x ∈ L, ∀ s, P s → P (f s x)) → P (L.foldl f s)
  | [], s, h, _ => h
  | x :: L, s, h, hf => foldl_keep L (f s x) (hf x (by simp) s h) (fun y hy => hf y (by simp [hy]))

section
variable {hold : Int} {gr n : Nat} {l : List (List Int)} {s : PS}
/-- what askS, disturbS, sendS and passS leave alone -/
theorem askX_ne (x : List Int) {a j : Nat} (h : j ≠ 5) : askX s x a j = s a j := by
  unfold askX askA
  split
  · rw [up_ne _ _ (.inr h), up_ne _ _ (.inr h)]
  · rw [up_ne _ _ (.inr h)]
theorem askS_ne (t : Int) {a j : Nat} (h : j ≠ 5) : askS l t s a j = s a j :=
  foldl_keep (P := fun z : PS => z a j = s a j) _ _ rfl (fun x _ z hz => by rw [askX_ne x h]; exact hz)
theorem refill_ne (t : Int) {a j k : Nat} (h : j ≠ 15) : itN (refill1 t) k s a j = s a j :=
  itN_keep (P := fun z : PS => z a j = s a j) rfl k (fun i z _ hz => by
    unfold refill1
    split
    · rw [up_ne _ _ (.inr h)]; exact hz
    · exact hz)
theorem noise_ne (L : List (List Int)) {a j : Nat} (h : j ≠ 15) (h2 : j ≠ 14) : L.foldl (noiseX hold) s a j = s a j :=
  foldl_keep (P := fun z : PS => z a j = s a j) _ _ rfl (fun x _ z hz => by
    unfold noiseX
    split
    · rw [up_ne _ _ (.inr h2), up_ne _ _ (.inr h)]; exact hz
    · exact hz)
theorem disturb_ne (t : Int) {a j : Nat} (h : j ≠ 15) (h2 : j ≠ 14) : disturbS hold l n t s a j = s a j := by
  unfold disturbS; rw [noise_ne _ h h2, refill_ne t h]
theorem sendS_lo {lost : Nat → Nat → Bool} {k i j : Nat} (h : j < 6 ∨ 15 ≤ j) (hg : gr ≤ 9) : sendS hold gr k lost s i j = s i j := by
  unfold sendS
  exact itN_keep (P := fun z : PS => z i j = s i j) rfl k (fun q z _ hz => by rw [send3_lo h hg]; exact hz)
/-- whether a node is awake in a tick: one of its timers runs -/
def anyB (p : Nat → Bool) : Nat → Bool
  | 0 => false
  | m + 1 => anyB p m || p m
theorem anyB_iff {p : Nat → Bool} : ∀ {m : Nat}, anyB p m = true ↔ ∃ k, k < m ∧ p k = true
  | 0 => by simp [anyB]
  | m + 1 => by
    simp only [anyB, Bool.or_eq_true, anyB_iff (m := m)]
    constructor
    · rintro (⟨k, h, h'⟩ | h)
      · exact ⟨k, by omega, h'⟩
      · exact ⟨m, by omega, h⟩
    · rintro ⟨k, h, h'⟩
      by_cases e : k = m
      · subst e; exact .inr h'
      · exact .inl ⟨k, by omega, h'⟩
def awB (s : PS) (i : Nat) : Bool := anyB (fun k => decide (0 < s i (6 + k))) 9
theorem awB_iff {s : PS} {i : Nat} : awB s i = true ↔ ∃ k, k < 9 ∧ 0 < s i (6 + k) := by
  unfold awB; rw [anyB_iff]; simp
theorem passN_part (i : Nat) : ∀ m, m ≤ 9 → (itN (pass1 i) m (up s i 16 0) i 16 = if anyB (fun k => decide (0 < s i (6 + k))) m then 1 else 0) ∧
    (∀ k, k < 9 → itN (pass1 i) m (up s i 16 0) i (6 + k) = if k < m ∧ 0 < s i (6 + k) then s i (6 + k) - 1 else s i (6 + k))
  | 0, _ => ⟨by rw [itN_zero, up_same]; rfl, fun k hk => by rw [itN_zero, up_ne _ _ (by omega), if_neg (by omega)]⟩
  | m + 1, hm => by
    obtain ⟨h1, h2⟩ := passN_part i m (by omega)
    rw [itN_succ]
    have h3 := h2 m (by omega)
    rw [if_neg (by omega)] at h3
    generalize itN (pass1 i) m (up s i 16 0) = z at *
    by_cases hp : 0 < s i (6 + m)
    · rw [pass1_pos (by rw [h3]; exact hp)]
      refine ⟨?_, fun k hk => ?_⟩
      · rw [up_ne _ _ (by omega), up_same]; simp [anyB, hp]
      · by_cases e : k = m
        · subst e; rw [up_same, h3, if_pos ⟨by omega, hp⟩]
        · rw [up_ne _ _ (by omega), up_ne _ _ (by omega), h2 k hk]
          by_cases e2 : k < m ∧ 0 < s i (6 + k)
          · rw [if_pos e2, if_pos ⟨by omega, e2.2⟩]
          · rw [if_neg e2, if_neg (by omega)]
    · rw [pass1_neg (by rw [h3]; exact hp)]
      refine ⟨?_, fun k hk => ?_⟩
      · rw [h1]; simp [anyB, hp]
      · rw [h2 k hk]
        by_cases e2 : k < m ∧ 0 < s i (6 + k)
        · rw [if_pos e2, if_pos ⟨by omega, e2.2⟩]
        · rw [if_neg e2, if_neg]
          rintro ⟨h, h'⟩
          by_cases ek : k = m
          · subst ek; exact hp h'
          · exact e2 ⟨by omega, h'⟩
theorem passN_aw (i : Nat) : passN i s i 16 = if awB s i then 1 else 0 := by
  have := (passN_part (s := s) i 9 (Nat.le_refl _)).1
  unfold passN awB
  exact this
theorem passN_tm (i : Nat) {k : Nat} (hk : k < 9) : passN i s i (6 + k) = if 0 < s i (6 + k) then s i (6 + k) - 1 else s i (6 + k) := by
  have := (passN_part (s := s) i 9 (Nat.le_refl _)).2 k hk
  unfold passN
  rw [this]
  by_cases e : 0 < s i (6 + k) <;> simp [e, hk]
theorem passN_ne {i a j : Nat} (h : a ≠ i ∨ j < 6 ∨ j = 15) : passN i s a j = s a j := by
  unfold passN
  exact itN_keep (P := fun z : PS => z a j = s a j) (up_ne _ _ (by omega)) 9 (fun k z hk hz => by rw [pass1_hi (by omega)]; exact hz)
theorem awB_congr {s z : PS} {i : Nat} (h : ∀ j, s i j = z i j) : awB s i = awB z i := by
  unfold awB
  simp only [h]
/-- the nodes that are awake: as a number -/
theorem pass_part : ∀ m, m ≤ 62 → (∀ a j, m ≤ a → (itN pass2 m (s, 0)).1 a j = s a j) ∧ (∀ a, a < m → ∀ j, (itN pass2 m (s, 0)).1 a j = passN a s a j) ∧
    (∃ R : Nat, (itN pass2 m (s, 0)).2 = R ∧ R < 2 ^ m ∧ ∀ i, i < m → R.testBit i = awB s i)
  | 0, _ => ⟨fun _ _ _ => rfl, fun a h => absurd h (Nat.not_lt_zero _), 0, rfl, by decide, fun i h => absurd h (Nat.not_lt_zero _)⟩
  | m + 1, hm => by
    obtain ⟨h1, h2, R, h3, h4, h5⟩ := pass_part m (by omega)
    rw [itN_succ]
    generalize itN pass2 m (s, 0) = z at *
    have hz : ∀ j, passN m z.1 m j = passN m s m j := fun j => by
      by_cases ej : j < 6 ∨ j = 15
      · rw [passN_ne (.inr ej), passN_ne (.inr ej), h1 m j (Nat.le_refl _)]
      · by_cases e16 : j = 16
        · subst e16; rw [passN_aw, passN_aw, awB_congr (fun j => h1 m j (Nat.le_refl _))]
        · by_cases e9 : j < 15
          · have e : j = 6 + (j - 6) := by omega
            rw [e, passN_tm m (by omega), passN_tm m (by omega), h1 m _ (Nat.le_refl _)]
          · have hk : ∀ q : PS, passN m q m j = q m j := fun q => by
              unfold passN
              exact itN_keep (P := fun z : PS => z m j = q m j) (up_ne _ _ (by omega)) 9 (fun k z hk hz => by rw [pass1_hi (by omega)]; exact hz)
            rw [hk, hk, h1 m j (Nat.le_refl _)]
    refine ⟨fun a j ha => ?_, fun a ha j => ?_, ?_⟩
    · show passN m z.1 a j = s a j
      rw [passN_ne (.inl (by omega))]; exact h1 a j (by omega)
    · show passN m z.1 a j = passN a s a j
      by_cases e : a = m
      · subst e; exact hz j
      · rw [passN_ne (.inl e)]; exact h2 a (by omega) j
    · show ∃ R : Nat, (if passN m z.1 m 16 = 0 then z.2 else orV z.2 (shlV 1 m)) = R ∧ _
      rw [hz 16, passN_aw, h3]
      have hp : (2 : Nat) ^ m < 2 ^ 63 := Nat.pow_lt_pow_right (by decide) (by omega)
      have hp1 : (2 : Nat) ^ m * 2 = 2 ^ (m + 1) := (Nat.pow_succ 2 m).symm
      cases ha : awB s m with
      | false =>
        refine ⟨R, by simp, by omega, fun i hi => ?_⟩
        by_cases e : i = m
        · subst e; rw [ha]; exact Nat.testBit_lt_two_pow h4
        · exact h5 i (by omega)
      | true =>
        have h2p : (2 : Nat) ^ 63 = 9223372036854775808 := by decide
        refine ⟨R ||| 2 ^ m, ?_, Nat.or_lt_two_pow (by omega) (by omega), fun i hi => ?_⟩
        · rw [if_neg (by decide), shl_nat (by omega), or_nat (by omega) (by omega)]
        · rw [Nat.testBit_or, Nat.testBit_two_pow]
          by_cases e : i = m
          · subst e; simp [ha]
          · rw [h5 i (by omega)]; simp [Ne.symm e]
theorem passS_st {a : Nat} (hn : n ≤ 62) (ha : a < n) (j : Nat) : (passS n s).1 a j = passN a s a j := (pass_part n hn).2.1 a ha j
end
/-- the state of a play before a tick, behind its asking, its noise, its sending -/
def askT (hold : Int) (gr n : Nat) (l : List (List Int)) (s : PS) (t : Nat) : PS := askS l t (runFrom hold gr n l s t).s
def disT (hold : Int) (gr n : Nat) (l : List (List Int)) (s : PS) (t : Nat) : PS := disturbS hold l n t (askT hold gr n l s t)
def sndT (hold : Int) (gr n : Nat) (l : List (List Int)) (s : PS) (t : Nat) : PS := sendS hold gr n (lostF l t) (disT hold gr n l s t)
section
variable {hold : Int} {gr n : Nat} {l : List (List Int)} {s : PS}
theorem run_st {a : Nat} (hn : n ≤ 62) (ha : a < n) (t j : Nat) : (runFrom hold gr n l s (t + 1)).s a j = passN a (sndT hold gr n l s t) a j := passS_st hn ha j
/-- what a node is made of stays -/
theorem run_lo (hg : gr ≤ 8) (hn : n ≤ 62) {a j : Nat} (ha : a < n) (hj : j < 5) : ∀ t, (runFrom hold gr n l s t).s a j = s a j
  | 0 => rfl
  | t + 1 => by
    rw [run_st hn ha, passN_ne (.inr (.inl (by omega)))]
    show sendS hold gr n _ _ a j = _
    rw [sendS_lo (.inl (by omega)) (by omega)]
    show disturbS hold l n t _ a j = _
    rw [disturb_ne _ (by omega) (by omega)]
    show askS l t _ a j = _
    rw [askS_ne _ (by omega), run_lo hg hn ha hj t]
end
theorem ask_or {v g : Int} (hv : ∃ A : Nat, v = A ∧ A < 256) (h0 : 0 ≤ g) (h8 : g < 8) : ∃ A : Nat, orV v (shlV 1 g) = A ∧ A < 256 := by
  obtain ⟨A, rfl, hA⟩ := hv
  obtain ⟨k, rfl⟩ : ∃ k : Nat, g = k := ⟨g.toNat, by omega⟩
  have h2 : 2 ^ k < 2 ^ 8 := Nat.pow_lt_pow_right (by decide) (by omega)
  have h3 : (2 : Nat) ^ 8 = 256 := by decide
  exact ⟨A ||| 2 ^ k, by rw [shl_nat (by omega), or_nat (by omega) (by omega)], Nat.or_lt_two_pow (n := 8) (by omega) (by omega)⟩
theorem ask_anot {v g : Int} (hv : ∃ A : Nat, v = A ∧ A < 256) (h0 : 0 ≤ g) (h8 : g < 8) : ∃ A : Nat, anotV v (shlV 1 g) = A ∧ A < 256 := by
  obtain ⟨A, rfl, hA⟩ := hv
  obtain ⟨k, rfl⟩ : ∃ k : Nat, g = k := ⟨g.toNat, by omega⟩
  have h2 : 2 ^ k < 2 ^ 8 := Nat.pow_lt_pow_right (by decide) (by omega)
  have h3 : (2 : Nat) ^ 8 = 256 := by decide
  rw [shl_nat (by omega)]
  obtain ⟨c, h1, h2, _⟩ := anot_nat (a := A) (b := 2 ^ k) (by omega) (by omega)
  exact ⟨c, h1, by omega⟩
/-- the valid nudges of a play -/
def NuAll (gr : Int) (nd : List (List Int)) (t : Int) (l : List (List Int)) : Prop := ∀ x ∈ l, NuOk gr nd t x
section
variable {hold : Int} {g n : Nat} {l : List (List Int)} {s : PS}
end
end
section
set_option linter.unusedVariables false
open Go.RowKit

theorem and_bitB {a b k : Nat} (ha : a < 9223372036854775808) (hb : b < 9223372036854775808) : bitB (andV a b) k = (a.testBit k && b.testBit k) := by
  rw [and_nat ha hb, bit_nat (Nat.lt_of_le_of_lt Nat.and_le_left ha), Nat.testBit_and]
/-- the groups of a node, as a number -/
theorem CluOk.groups {gr hold : Int} {nd : List (List Int)} (h : CluOk gr hold nd) {i : Nat} (hi : i < nd.length) : ∃ G : Nat, cv nd i 0 = G ∧ G < 256 ∧ ∀ b, G.testBit b = true → b < gr.toNat := by
  have h1 := h.gro i hi
  have hg1 := h.g1
  have hg8 := h.g8
  obtain ⟨g, rfl⟩ : ∃ g : Nat, gr = g := ⟨gr.toNat, by omega⟩
  rw [shl_nat (by omega)] at h1
  obtain ⟨G, hG⟩ : ∃ G : Nat, cv nd i 0 = G := ⟨(cv nd i 0).toNat, by omega⟩
  rw [hG] at h1 ⊢
  have h2 : (2 : Nat) ^ g ≤ 2 ^ 8 := Nat.pow_le_pow_right (by decide) (by omega)
  have h3 : (2 : Nat) ^ 8 = 256 := by decide
  refine ⟨G, rfl, by omega, fun b hb => ?_⟩
  refine Classical.byContradiction fun hn => ?_
  have hbg : g ≤ b := by
    have : ((g : Nat) : Int).toNat = g := rfl
    omega
  have h4 : G < 2 ^ b := Nat.lt_of_lt_of_le (by omega : G < 2 ^ g) (Nat.pow_le_pow_right (by decide) hbg)
  rw [Nat.testBit_lt_two_pow h4] at hb
  cases hb
theorem playOk_nus {gr hold t : Int} {nd l : List (List Int)} (h : PlayOk gr hold nd t l) : NuAll gr nd t l := fun x hx => by
  obtain ⟨i, hi, rfl⟩ := List.getElem_of_mem hx
  have := h.nu i hi
  rwa [List.getElem?_eq_getElem hi] at this
section
variable {gr hold t : Int} {nd l : List (List Int)}
end
theorem andV_comm (x y : Int) : andV x y = andV y x := by
  unfold andV; rw [BitVec.and_comm]
end
section
set_option linter.unusedVariables false
open Go.RowKit
section
variable {hold : Int} {gr n : Nat} {l : List (List Int)} {s z : PS}
end
section
variable {gr hold t : Int} {nd l : List (List Int)}
end
end
section
set_option linter.unusedVariables false
open Go.RowKit
theorem Try.klaw72 : WideMaps.KeyLaw Try.prog 72 := Go.deep_law (m := 2) (by omega) (by kernel_rfl) (by kernel_rfl) (by kernel_rfl)
/-- a state as a key -/
def keyS (t x : Int) : Value := .agg #[.int .i64 t, .int .i64 x]
def SmallS (t x : Int) : Prop := 0 ≤ t ∧ t ≤ 1000000 ∧ 0 ≤ x ∧ x ≤ 1000000
theorem keyOf_keyS {t x : Int} (h : SmallS t x) : ∃ l, keyOf Try.prog 72 (keyS t x) = some l := by
  have h0 : (Lit.int .i64 t).wf = true := by obtain ⟨_, _, _, _⟩ := h; simp [Lit.wf, IntKind.min, IntKind.max, IntKind.signed, IntKind.bits]; omega
  have h1 : (Lit.int .i64 x).wf = true := by obtain ⟨_, _, _, _⟩ := h; simp [Lit.wf, IntKind.min, IntKind.max, IntKind.signed, IntKind.bits]; omega
  unfold keyOf keyS
  rw [Try.underlying72]
  simp only
  rw [if_pos (by kernel_rfl)]
  have hs : ∃ m, Try.prog.types.size = m + 1 := ⟨Try.prog.types.size - 1, by kernel_rfl⟩
  obtain ⟨m, hm⟩ := hs
  rw [hm]
  have c1 : Try.prog.cellsOf 72 = 2 := by kernel_rfl
  have c2 : Try.prog.cellsOf 3 = 1 := by kernel_rfl
  simp [Program.keyLits, Try.underlying72, Try.underlying3, c1, c2, Value.cells, List.range, List.range.loop, h0, h1]
theorem keyS_inj {t x u y : Int} (h : keyS t x = keyS u y) : t = u ∧ x = y := by
  unfold keyS at h
  injection h with h
  simpa using h
/-- block m is a map whose keys are states, and whose values are good for them -/
def Memo (W : World) (m : Nat) (G : Int → Int → Value → Prop) : Prop := ∃ es clk, W.heap[m]? = some (.map es clk) ∧ ∀ e ∈ es.toList, ∃ t x, e.key = keyS t x ∧ SmallS t x ∧ G t x e.val
theorem Memo.lt {W : World} {m : Nat} {G : Int → Int → Value → Prop} (h : Memo W m G) : m < W.heap.size := by
  obtain ⟨es, clk, hb, _⟩ := h
  exact (Array.getElem?_eq_some_iff.1 hb).1
theorem Memo.only {S : Nat → Prop} {W W' : World} {m : Nat} {G : Int → Int → Value → Prop} (h : Memo W m G) (g : Only S W W') (hs : ¬ S m) : Memo W' m G := by
  have hlt := h.lt
  obtain ⟨es, clk, hm, hall⟩ := h
  exact ⟨es, clk, (g.block m hlt hs).trans hm, hall⟩
theorem Memo.gr {W W' : World} {m : Nat} {G : Int → Int → Value → Prop} (h : Memo W m G) (g : Gr W W') : Memo W' m G := h.only (g.only (fun _ => False)) (fun h => h)
theorem memo_new {W : World} {m : Nat} {G : Int → Int → Value → Prop} (h : W.heap[m]? = some (.map #[] 0)) : Memo W m G := ⟨_, _, h, fun e he => by simp at he⟩
/-- a store of a value that is good for the state -/
theorem memo_store {W : World} {m t e : Nat} {G : Int → Int → Value → Prop} {v : Value} {a x : Int} (ht : Try.prog.underlying t = some (.map 72 e)) (h : Memo W m G) (hs : SmallS a x) (hG : G a x v) :
    ∃ W', (Instr.mapUpdate t (.map (some m)) (keyS a x) v).run Try.prog W = .ok () W' ∧ Memo W' m G ∧ Only (fun b => b = m) W W' := by
  obtain ⟨es, clk, hb, hall⟩ := h
  obtain ⟨l, hl⟩ := keyOf_keyS hs
  have K := Try.klaw72
  have hlt : m < W.heap.size := (Array.getElem?_eq_some_iff.1 hb).1
  have hset : ∀ o, (setObj m o).run Try.prog W = .ok () (W.putObj m o) := fun o => by
    simp [setObj, Sem.run, hb, World.putObj]
  rcases K.find W hl es.toList (fun e he => by obtain ⟨t', x', h1, h2, _⟩ := hall e he; rw [h1]; exact keyOf_keyS h2) with ⟨h1, h2⟩ | ⟨j, e0, h1, h2, h3⟩
  · refine ⟨W.putObj m (.map (es.push { key := keyS a x, val := v, born := clk }) (clk + 1)), by simp [Instr.mapUpdate, run_underlying ht, MapKept.run_getObj_map hb, K.check W _ hl, h1, Result.andThen, hset], ⟨es.push { key := keyS a x, val := v, born := clk }, clk + 1, World.putObj_heap_same hlt, ?_⟩, putObj_only _ _ _⟩
    intro e he
    simp at he
    rcases he with he | he
    · exact hall e (by simpa using he)
    · subst he; exact ⟨a, x, rfl, hs, hG⟩
  · have hj : es[j]? = some e0 := by simpa using h2
    have hst := K.stays W hl
    refine ⟨W.putObj m (.map (es.modify j fun e => { e with key := keyS a x, val := v }) clk), by simp [Instr.mapUpdate, run_underlying ht, MapKept.run_getObj_map hb, K.check W _ hl, h1, Result.andThen, hset, hj, h3, hst], ⟨es.modify j fun e => { e with key := keyS a x, val := v }, clk, World.putObj_heap_same hlt, ?_⟩, putObj_only _ _ _⟩
    intro e he
    rw [List.mem_iff_getElem?] at he
    obtain ⟨i, hi⟩ := he
    rw [Array.toList_modify, List.getElem?_modify] at hi
    by_cases hji : j = i
    · simp [hji] at hi
      obtain ⟨x', _, rfl⟩ := hi
      exact ⟨a, x, rfl, hs, hG⟩
    · simp [hji] at hi
      exact hall e (List.mem_of_getElem? (by simpa using hi))
end
end Go.Proofs.Ytoalamakhjbedaa
