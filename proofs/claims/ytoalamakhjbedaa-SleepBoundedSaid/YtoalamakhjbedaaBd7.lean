/- Several texts of this claim in one file. (1) Contract: newParked. (2) Contracts: Check, the program's and the reference's. -/
import Derived.Test.YtoalamakhjbedaaBd6
import Derived.Test.YtoalamakhjbedaaBd2
namespace Go.Proofs.Ytoalamakhjbedaa
section
open Go.RowKit

/-- a new map -/
def MP.mkm (B : Nat) : Y.MP := ⟨fun v W => ∃ m, v = .map (some m) ∧ W.heap[m]? = some (.map #[] 0) ∧ B ≤ m, fun _ _ _ ⟨m, h1, h2, h3⟩ g => ⟨m, h1, (g.below.block _ (Array.getElem?_eq_some_iff.1 h2).1).trans h2, h3⟩⟩
def MP.mka (B : Nat) (a b c d e f g : Int) : Y.MP := ⟨fun v W => ∃ m, v = .agg #[.int .i64 a, .int .i64 b, .int .i64 c, .int .i64 d, .int .i64 e, .int .i64 f, .int .i64 g, .map (some m)] ∧ W.heap[m]? = some (.map #[] 0) ∧ B ≤ m, fun _ _ _ ⟨m, h1, h2, h3⟩ g => ⟨m, h1, (g.below.block _ (Array.getElem?_eq_some_iff.1 h2).1).trans h2, h3⟩⟩
def MP.mkb (B : Nat) (a b c d e f g : Int) : Y.MP := ⟨fun v W => ∃ q m, v = .pointer (some ⟨q, 0, none⟩) ∧ Pq W q a b c d e f g m ∧ W.heap[m]? = some (.map #[] 0) ∧ B ≤ q ∧ B ≤ m ∧ ¬ q = m, fun _ _ _ ⟨q, m, h1, h2, h3, h4⟩ g => ⟨q, m, h1, h2.gr g, (g.below.block _ (Array.getElem?_eq_some_iff.1 h3).1).trans h3, h4⟩⟩
theorem pq_new {a b c d e f g : Int} {m : Nat} (W : World) : Pq (W.alloc (.cells #[.int .i64 a, .int .i64 b, .int .i64 c, .int .i64 d, .int .i64 e, .int .i64 f, .int .i64 g, .map (some m)] 110)) W.heap.size a b c d e f g m :=
  (RCells.nil W).box (b := W.heap.size) #[.int .i64 a, .int .i64 b, .int .i64 c, .int .i64 d, .int .i64 e, .int .i64 f, .int .i64 g, .map (some m)] 110 rfl
/-- a node's numbers -/
def ndV (nd : List (List Int)) (hold : Int) (i : Nat) (T : Int) : Nd := ⟨cv nd i 1, cv nd i 2, cv nd i 3, cv nd i 4, hold, T⟩
theorem ndOk_of {gr hold : Int} {nd : List (List Int)} (h : CluOk gr hold nd) {i : Nat} {T : Int} (hi : i < nd.length) (h0 : 0 ≤ T) (h1 : T ≤ 1001) : NdOk (ndV nd hold i T) := by
  have a := h.awk i hi
  have b := h.asl i hi
  have c := h.bud i hi
  have d := h.ref i hi
  have e := h.h1
  have f := h.h100
  exact ⟨b.1, b.2, a.2, c.1, c.2, d.1, d.2, e, by show hold ≤ 103; omega, h0, h1⟩
def sumN (nd : List (List Int)) (hold T : Int) : Nat → Int
  | 0 => 0
  | i + 1 => sumN nd hold T i + (bestV (ndV nd hold i T) 0 (cv nd i 3)).1
def sumP (nd : List (List Int)) (hold T : Int) : Int := sumN nd hold T nd.length
theorem sumN_bd {gr hold : Int} {nd : List (List Int)} (h : CluOk gr hold nd) {T : Int} (h0 : 0 ≤ T) (h1 : T ≤ 1001) : ∀ i, i ≤ nd.length → 0 ≤ sumN nd hold T i ∧ sumN nd hold T i ≤ i * 11000000
  | 0, _ => by simp [sumN]
  | i + 1, hi => by
    have ih := sumN_bd h h0 h1 i (by omega)
    have c := h.bud i (by omega)
    have := bestV_bd (ndOk_of h (i := i) (by omega) h0 h1) (t := 0) (x := cv nd i 3) (by omega) c.1 (Int.le_refl _)
    simp only [sumN]
    omega
def nodeE (gr hold : Int) (nd : List (List Int)) (i T : Int) : Int := if ticksE gr hold nd T ≠ 0 then ticksE gr hold nd T else if withinB i 0 ((nd.length : Int) - 1) then 0 else 1
def parkV (gr hold : Int) (nd : List (List Int)) (T : Int) : Int := if ticksE gr hold nd T = 0 then sumP nd hold T else 0

set_option maxRecDepth 100000 in
set_option maxHeartbeats 400000 in
theorem newp_any (na : Option Addr) (n nc : Nat) (hold : Int) (i : Nat) (T gr : Int) (nd : List (List Int)) (w : World) (hnd : StAt w 5 na n nd) (hi : i < n) :
  Calls Try.prog 47 #[.agg #[.int .i64 gr, .int .i64 hold, .slice na n nc], .int .i64 i, .int .i64 T] w fun e w' => ∃ q m, e = .returned (.pointer (some ⟨q, 0, none⟩)) ∧ Pq w' q (cv nd i 0) (ndV nd hold i T).aw (ndV nd hold i T).za (ndV nd hold i T).bu (ndV nd hold i T).re (ndV nd hold i T).hold (ndV nd hold i T).T m ∧ Memo w' m (gdV (ndV nd hold i T)) ∧ w.heap.size ≤ q ∧ w.heap.size ≤ m ∧ ¬ q = m ∧ Gr w w' := by
 have G := Gr.refl w
 refine Y.calls 18 Try.func47 rfl rfl ?_
 intro ac F0
 have F : Fr ac 18 [(0, .agg #[.int .i64 gr, .int .i64 hold, .slice na n nc]), (1, .int .i64 i), (2, .int .i64 T)] := F0.sub _
 clear F0
 refine Y.seq ?_
 refine Y.lit (by kernel_rfl) ?_
 refine Y.pval F (X.w0 rfl) rfl (X.box rfl (F.ev 0 (.agg #[.int .i64 gr, .int .i64 hold, .slice na n nc])) X.bx) ?_
 clear F ac
 intro ac F
 have g := Gr.alloc w (.cells #[.int .i64 gr, .int .i64 hold, .slice na n nc] 24)
 have hb := heap_alloc_new w (.cells #[.int .i64 gr, .int .i64 hold, .slice na n nc] 24)
 have hbl : w.heap.size < (w.alloc (.cells #[.int .i64 gr, .int .i64 hold, .slice na n nc] 24)).heap.size := by simp
 have hC2 : RCells (w.alloc (.cells #[.int .i64 gr, .int .i64 hold, .slice na n nc] 24)) [(⟨w.heap.size, 0, none⟩, .int .i64 gr), (⟨w.heap.size, 1, none⟩, .int .i64 hold), (⟨w.heap.size, 2, none⟩, .slice na n nc)] := (RCells.nil w).box (b := w.heap.size) #[.int .i64 gr, .int .i64 hold, .slice na n nc] 24 rfl
 generalize w.alloc (.cells #[.int .i64 gr, .int .i64 hold, .slice na n nc] 24) = w3 at *
 replace G := G.trans g
 have hC := hC2
 clear hC2
 replace hnd := hnd.gr g
 clear g hb hbl
 refine Y.pval F (X.w0 rfl) rfl (X.assign rfl (X.kc (.pointer none) rfl)) ?_
 clear F ac
 intro ac F
 refine Y.nil ?_
 replace F : Fr ac 18 [(0, .agg #[.int .i64 gr, .int .i64 hold, .slice na n nc]), (1, .int .i64 i), (2, .int .i64 T), (3, .pointer (some ⟨w.heap.size, 0, none⟩)), (6, .pointer none)] := F.sub _
 refine X.thenN ?_
 refine Y.seq ?_
 obtain ⟨pd4, pe4, -, -, pc4⟩ := hnd.at (j := i) (by omega)
 subst pe4
 replace hC : RCells w3 [(⟨w.heap.size, 0, none⟩, .int .i64 gr), (⟨w.heap.size, 1, none⟩, .int .i64 hold), (⟨w.heap.size, 2, none⟩, .slice (some pd4) n nc), (pd4.add (i * 5), .int .i64 (cv nd i 0)), (⟨(pd4.add (i * 5)).block, (pd4.add (i * 5)).off + 1, none⟩, .int .i64 (cv nd i 1)), (⟨(pd4.add (i * 5)).block, (pd4.add (i * 5)).off + 2, none⟩, .int .i64 (cv nd i 2)), (⟨(pd4.add (i * 5)).block, (pd4.add (i * 5)).off + 3, none⟩, .int .i64 (cv nd i 3)), (⟨(pd4.add (i * 5)).block, (pd4.add (i * 5)).off + 4, none⟩, .int .i64 (cv nd i 4))] := hC.append ((RCells.cons (pc4 0 (by decide)) (RCells.cons (pc4 1 (by decide)) (RCells.cons (pc4 2 (by decide)) (RCells.cons (pc4 3 (by decide)) (RCells.cons (pc4 4 (by decide)) (RCells.nil _)))))))
 clear pc4
 have G0_ := G
 refine Y.region F [some (.pointer (some ⟨w.heap.size, 2, none⟩)), some (.slice (some pd4) n nc), some (.int .i64 i), some (.pointer (some (pd4.add (i * 5)))), some (.agg #[.int .i64 (cv nd i 0), .int .i64 (cv nd i 1), .int .i64 (cv nd i 2), .int .i64 (cv nd i 3), .int .i64 (cv nd i 4)]), some (.pointer (some ⟨w.heap.size, 1, none⟩)), some (.int .i64 hold), some (.int .i64 T), none, none, none, none] [(8, MP.mkm w3.heap.size), (9, MP.mka w3.heap.size (cv nd i 0) (cv nd i 1) (cv nd i 2) (cv nd i 3) (cv nd i 4) hold T), (10, MP.mkb w3.heap.size (cv nd i 0) (cv nd i 1) (cv nd i 2) (cv nd i 3) (cv nd i 4) hold T), (11, MP.mkb w3.heap.size (cv nd i 0) (cv nd i 1) (cv nd i 2) (cv nd i 3) (cv nd i 4) hold T)] rfl ⟨by kernel_rfl, of_decide_eq_true (by kernel_rfl), by kernel_rfl, by kernel_rfl, by kernel_rfl⟩ ⟨?_, ?_, ?_, ?_, ?_, ?_, ?_, ?_, ?_, ?_, ?_, ?_, trivial⟩ ?_
 ·intro ac done u W Sx hR
  exact X.val (X.w0 rfl) rfl (X.field rfl (Sx.ev 3 (.pointer (some ⟨w.heap.size, 0, none⟩))) (X.fld Try.underlying24 rfl (Try.siz22 _) rfl rfl)) (hR.step (Gr.refl _) rfl)
 ·intro ac done u W Sx hR
  have g : Gr w3 W := hR.1
  exact X.val (X.w0 rfl) rfl (X.load rfl (Sx.ev 7 (.pointer (some ⟨w.heap.size, 2, none⟩))) (X.ld1 (Try.agg22 _) ((hC.gr g).at 2 rfl))) (hR.step (Gr.refl _) rfl)
 ·intro ac done u W Sx hR
  exact X.val (X.w0 rfl) rfl (X.move rfl (Sx.ev 1 (.int .i64 i))) (hR.step (Gr.refl _) rfl)
 ·intro ac done u W Sx hR
  exact X.val (X.w0 rfl) rfl (X.index rfl (Sx.ev 8 (.slice (some pd4) n nc)) (Sx.ev 9 (.int .i64 i)) (X.idx (k := i) Try.underlying22 (Try.siz31 _) (by omega) (by omega) rfl)) (hR.step (Gr.refl _) rfl)
 ·intro ac done u W Sx hR
  have g : Gr w3 W := hR.1
  exact X.val (X.w0 rfl) rfl (X.load rfl (Sx.ev 10 (.pointer (some (pd4.add (i * 5))))) (X.ldN (Try.agg31 _) (Try.siz31 _) (Y.atz (pd4.add (i * 5)) (Y.AtFrom.cons ((hC.gr g).at 3 rfl) (Y.AtFrom.cons ((hC.gr g).at 4 rfl) (Y.AtFrom.cons ((hC.gr g).at 5 rfl) (Y.AtFrom.cons ((hC.gr g).at 6 rfl) (Y.AtFrom.cons ((hC.gr g).at 7 rfl) (Y.AtFrom.nil _ _ _))))))))) (hR.step (Gr.refl _) rfl)
 ·intro ac done u W Sx hR
  exact X.val (X.w0 rfl) rfl (X.field rfl (Sx.ev 3 (.pointer (some ⟨w.heap.size, 0, none⟩))) (X.fld Try.underlying24 rfl (Try.siz3 _) rfl rfl)) (hR.step (Gr.refl _) rfl)
 ·intro ac done u W Sx hR
  have g : Gr w3 W := hR.1
  exact X.val (X.w0 rfl) rfl (X.load rfl (Sx.ev 12 (.pointer (some ⟨w.heap.size, 1, none⟩))) (X.ld1 (Try.agg3 _) ((hC.gr g).at 1 rfl))) (hR.step (Gr.refl _) rfl)
 ·intro ac done u W Sx hR
  exact X.val (X.w0 rfl) rfl (X.move rfl (Sx.ev 2 (.int .i64 T))) (hR.step (Gr.refl _) rfl)
 ·intro ac done u W Sx hR
  have g : Gr w3 W := hR.1
  exact X.valN (X.w0 rfl) rfl (X.mm rfl) (hR.new (q := MP.mkm w3.heap.size) (Gr.alloc _ _) rfl ⟨_, rfl, World.alloc_heap_new _ _, g.size⟩)
 ·intro ac done u W Sx hR
  obtain ⟨mm5, e8, hm5, hB5⟩ := hR.get (i := 8) (MP.mkm w3.heap.size) rfl (Sx.an 8 (by kernel_rfl))
  exact X.valN (X.w0 rfl) rfl (Y.bd rfl (Y.bd4 (Sx.ev 11 (.agg #[.int .i64 (cv nd i 0), .int .i64 (cv nd i 1), .int .i64 (cv nd i 2), .int .i64 (cv nd i 3), .int .i64 (cv nd i 4)])) (Sx.ev 13 (.int .i64 hold)) (Sx.ev 14 (.int .i64 T)) ((Sx.own 8 15 rfl).trans e8)) (Try.bd110 _ _ _ _ _ _ _ _ _)) (hR.new (q := MP.mka w3.heap.size (cv nd i 0) (cv nd i 1) (cv nd i 2) (cv nd i 3) (cv nd i 4) hold T) (Gr.refl _) rfl ⟨_, rfl, hm5, hB5⟩)
 ·intro ac done u W Sx hR
  have g : Gr w3 W := hR.1
  obtain ⟨mm6, e9, hm6, hB6⟩ := hR.get (i := 9) (MP.mka w3.heap.size (cv nd i 0) (cv nd i 1) (cv nd i 2) (cv nd i 3) (cv nd i 4) hold T) rfl (Sx.an 9 (by kernel_rfl))
  exact X.valN (X.w0 rfl) rfl (X.box rfl ((Sx.own 9 16 rfl).trans e9) X.bx) (hR.new (q := MP.mkb w3.heap.size (cv nd i 0) (cv nd i 1) (cv nd i 2) (cv nd i 3) (cv nd i 4) hold T) (Gr.alloc _ _) rfl ⟨_, _, rfl, pq_new W, (Below.heap_alloc _ _ _ (Array.getElem?_eq_some_iff.1 hm6).1).trans hm6, g.size, hB6, fun e => by have := (Array.getElem?_eq_some_iff.1 hm6).1; omega⟩)
 ·intro ac done u W Sx hR
  obtain ⟨qq7, mm7, e10, hP7, hm7, hA7, hB7, hN7⟩ := hR.get (i := 10) (MP.mkb w3.heap.size (cv nd i 0) (cv nd i 1) (cv nd i 2) (cv nd i 3) (cv nd i 4) hold T) rfl (Sx.an 10 (by kernel_rfl))
  exact X.valN (X.w0 rfl) rfl (X.assign rfl (Sx.own 10 17 rfl)) (hR.new (q := MP.mkb w3.heap.size (cv nd i 0) (cv nd i 1) (cv nd i 2) (cv nd i 3) (cv nd i 4) hold T) (Gr.refl _) rfl ⟨_, _, e10, hP7, hm7, hA7, hB7, hN7⟩)
 intro ac u w9 hs hd hl ho hR
 have g : Gr w3 w9 := hR.1
 obtain ⟨mm5, e8, hm5, hB5⟩ := hR.get (i := 8) (MP.mkm w3.heap.size) rfl rfl
 obtain ⟨mm6, e9, hm6, hB6⟩ := hR.get (i := 9) (MP.mka w3.heap.size (cv nd i 0) (cv nd i 1) (cv nd i 2) (cv nd i 3) (cv nd i 4) hold T) rfl rfl
 obtain ⟨qq7, mm7, e10, hP7, hm7, hA7, hB7, hN7⟩ := hR.get (i := 10) (MP.mkb w3.heap.size (cv nd i 0) (cv nd i 1) (cv nd i 2) (cv nd i 3) (cv nd i 4) hold T) rfl rfl
 obtain ⟨qq8, mm8, e11, hP8, hm8, hA8, hB8, hN8⟩ := hR.get (i := 11) (MP.mkb w3.heap.size (cv nd i 0) (cv nd i 1) (cv nd i 2) (cv nd i 3) (cv nd i 4) hold T) rfl rfl
 replace F : Fr ac 18 [(0, .agg #[.int .i64 gr, .int .i64 hold, .slice (some pd4) n nc]), (1, .int .i64 i), (2, .int .i64 T), (3, .pointer (some ⟨w.heap.size, 0, none⟩))] := X.fr hs hd hl _ (by kernel_rfl)
 replace F := F.add (ho 11 6 rfl) e11
 replace F : Fr ac 18 [(0, .agg #[.int .i64 gr, .int .i64 hold, .slice (some pd4) n nc]), (1, .int .i64 i), (2, .int .i64 T), (3, .pointer (some ⟨w.heap.size, 0, none⟩)), (6, .pointer (some ⟨qq8, 0, none⟩))] := F.sub _
 clear e8 e9 e10 e11
 clear hs hd hl ho hR
 replace G := G.trans g
 replace hC := hC.gr g
 replace hnd := hnd.gr g
 clear g
 have hA8_ : w.heap.size ≤ qq8 := by have := G0_.size; omega
 have hB8_ : w.heap.size ≤ mm8 := by have := G0_.size; omega
 refine X.thenN ?_
 refine Y.ret ?_
 exact Y.ret0 F (Y.rs1 F rfl (by kernel_rfl)) ⟨_, _, rfl, hP8.gr (Gr.refl _), memo_new hm8, hA8_, hB8_, hN8, G⟩
end
section
open Go.RowKit

set_option maxRecDepth 100000 in
set_option maxHeartbeats 1000000 in
theorem check_any (na : Option Addr) (n nc : Nat) (gr hold : Int) (nd : List (List Int)) (w : World) (hnd : StAt w 5 na n nd) :
  Calls Try.prog 25 #[.agg #[.int .i64 gr, .int .i64 hold, .slice na n nc]] w fun e w' => e = .returned (.int .i64 (cluE gr hold nd)) ∧ Gr w w' := by
 have G := Gr.refl w
 have hlen := hnd.len
 have hlt := hnd.lt
 refine Y.calls 63 Try.func25 rfl rfl ?_
 intro ac F0
 have F : Fr ac 63 [(0, .agg #[.int .i64 gr, .int .i64 hold, .slice na n nc])] := F0.sub _
 clear F0
 refine Y.seq ?_
 refine Y.lit (by kernel_rfl) ?_
 refine Y.pval F (X.w0 rfl) rfl (X.box rfl (F.ev 0 (.agg #[.int .i64 gr, .int .i64 hold, .slice na n nc])) X.bx) ?_
 clear F ac
 intro ac F
 have g := Gr.alloc w (.cells #[.int .i64 gr, .int .i64 hold, .slice na n nc] 24)
 have hb := heap_alloc_new w (.cells #[.int .i64 gr, .int .i64 hold, .slice na n nc] 24)
 have hbl : w.heap.size < (w.alloc (.cells #[.int .i64 gr, .int .i64 hold, .slice na n nc] 24)).heap.size := by simp
 have hC2 : RCells (w.alloc (.cells #[.int .i64 gr, .int .i64 hold, .slice na n nc] 24)) [(⟨w.heap.size, 0, none⟩, .int .i64 gr), (⟨w.heap.size, 1, none⟩, .int .i64 hold), (⟨w.heap.size, 2, none⟩, .slice na n nc)] := (RCells.nil w).box (b := w.heap.size) #[.int .i64 gr, .int .i64 hold, .slice na n nc] 24 rfl
 generalize w.alloc (.cells #[.int .i64 gr, .int .i64 hold, .slice na n nc] 24) = w3 at *
 replace G := G.trans g
 have hC := hC2
 clear hC2
 replace hnd := hnd.gr g
 clear g hb hbl
 refine Y.pval F (X.w0 rfl) rfl (X.assign rfl (X.kc (.int .i64 0) rfl)) ?_
 clear F ac
 intro ac F
 refine Y.nil ?_
 replace F : Fr ac 63 [(0, .agg #[.int .i64 gr, .int .i64 hold, .slice na n nc]), (1, .pointer (some ⟨w.heap.size, 0, none⟩)), (2, .int .i64 0)] := F.sub _
 refine X.thenN ?_
 refine Y.seq ?_
 refine Y.seq ?_
 refine Y.lit (by kernel_rfl) ?_
 refine Y.pval F (X.w0 rfl) rfl (X.field rfl (F.ev 1 (.pointer (some ⟨w.heap.size, 0, none⟩))) (X.fld Try.underlying24 rfl (Try.siz3 _) rfl rfl)) ?_
 clear F ac
 intro ac F
 refine Y.pval F (X.w0 rfl) rfl (X.load rfl (F.ev 5 (.pointer (some ⟨w.heap.size, 0, none⟩))) (X.ld1 (Try.agg3 _) (hC.at 0 rfl))) ?_
 clear F ac
 intro ac F
 refine Y.pcall F (X.w0 rfl) rfl (X.enter (F := 54) rfl (X.kc (.func (.func 54) #[] #[]) rfl) (X.a3 (F.ev 6 (.int .i64 gr)) (X.kc (.int .i64 1) rfl) (X.kc (.int .i64 8) rfl)) (enters_of Try.func54 (by kernel_rfl) rfl _)) (within_any gr 1 8 w3) ?_
 clear F ac
 rintro e w' ⟨rfl, hw_⟩
 obtain rfl : w3 = w' := hw_.symm
 clear hw_
 refine ⟨_, rfl, ?_⟩
 intro ac F
 refine Y.pval F (X.w0 rfl) rfl (X.notB rfl (F.ev 7 (.bool (withinB gr 1 8))) rfl) ?_
 clear F ac
 intro ac F
 refine Y.pval F (X.w0 rfl) rfl (X.move rfl (F.ev 8 (.bool (!(withinB gr 1 8))))) ?_
 clear F ac
 intro ac F
 cases h4 : withinB gr 1 8 with
 | false =>
  try rw [h4] at F
  refine Y.pskip F (X.w2 rfl (F.yl (j := 4) (d := 9) (b := true) rfl (by kernel_rfl)) rfl) rfl ?_
  clear F ac
  intro ac F
  refine Y.pskip F (X.w2 rfl (F.yl (j := 4) (d := 9) (b := true) rfl (by kernel_rfl)) rfl) rfl ?_
  clear F ac
  intro ac F
  refine Y.pskip F (X.w2 rfl (F.yl (j := 4) (d := 9) (b := true) rfl (by kernel_rfl)) rfl) rfl ?_
  clear F ac
  intro ac F
  refine Y.pskip F (X.w2 rfl (F.yl (j := 4) (d := 9) (b := true) rfl (by kernel_rfl)) rfl) rfl ?_
  clear F ac
  intro ac F
  refine Y.pval F (X.w0 rfl) rfl (X.pickT rfl (F.ev 9 (.bool true)) (X.kc (.bool true) rfl)) ?_
  clear F ac
  intro ac F
  refine Y.pval F (X.w0 rfl) rfl (X.move rfl (F.ev 14 (.bool true))) ?_
  clear F ac
  intro ac F
  refine Y.pskip F (X.w2 rfl (F.yl (j := 10) (d := 15) (b := true) rfl (by kernel_rfl)) rfl) rfl ?_
  clear F ac
  intro ac F
  refine Y.pskip F (X.w2 rfl (F.yl (j := 10) (d := 15) (b := true) rfl (by kernel_rfl)) rfl) rfl ?_
  clear F ac
  intro ac F
  refine Y.pskip F (X.w2 rfl (F.yl (j := 10) (d := 15) (b := true) rfl (by kernel_rfl)) rfl) rfl ?_
  clear F ac
  intro ac F
  refine Y.pskip F (X.w2 rfl (F.yl (j := 10) (d := 15) (b := true) rfl (by kernel_rfl)) rfl) rfl ?_
  clear F ac
  intro ac F
  refine Y.pval F (X.w0 rfl) rfl (X.pickT rfl (F.ev 15 (.bool true)) (X.kc (.bool true) rfl)) ?_
  clear F ac
  intro ac F
  refine Y.nil ?_
  replace F : Fr ac 63 [(0, .agg #[.int .i64 gr, .int .i64 hold, .slice na n nc]), (1, .pointer (some ⟨w.heap.size, 0, none⟩)), (2, .int .i64 0), (20, .bool true)] := F.sub _
  refine X.thenN ?_
  refine Y.condT (F.ev 20 (.bool true)) ?_
  refine Y.seq ?_
  refine Y.lit (by kernel_rfl) ?_
  refine Y.pval F (X.w0 rfl) rfl (X.assign rfl (X.kc (.int .i64 90) rfl)) ?_
  clear F ac
  intro ac F
  refine Y.nil ?_
  replace F : Fr ac 63 [(0, .agg #[.int .i64 gr, .int .i64 hold, .slice na n nc]), (1, .pointer (some ⟨w.heap.size, 0, none⟩)), (2, .int .i64 90), (20, .bool true)] := F.sub _
  refine X.thenN ?_
  refine Y.ret ?_
  refine X.thenR ?_
  exact Y.ret0 (v := .int .i64 90) F (Y.rs1 F rfl (by kernel_rfl)) ⟨by rw [(cluE_bad hlen (by simp [cluB, h4] <;> omega))], G⟩
 | true =>
  try rw [h4] at F
  have hgr := withinB_ok h4
  have hsh := shl_bd (g := gr) (by omega) (by omega)
  refine Y.pval F (X.w1 rfl (F.yl (j := 4) (d := 9) (b := false) rfl (by kernel_rfl))) rfl (X.field rfl (F.ev 1 (.pointer (some ⟨w.heap.size, 0, none⟩))) (X.fld Try.underlying24 rfl (Try.siz3 _) rfl rfl)) ?_
  clear F ac
  intro ac F
  refine Y.pval F (X.w1 rfl (F.yl (j := 4) (d := 9) (b := false) rfl (by kernel_rfl))) rfl (X.load rfl (F.ev 10 (.pointer (some ⟨w.heap.size, 1, none⟩))) (X.ld1 (Try.agg3 _) (hC.at 1 rfl))) ?_
  clear F ac
  intro ac F
  refine Y.pcall F (X.w1 rfl (F.yl (j := 4) (d := 9) (b := false) rfl (by kernel_rfl))) rfl (X.enter (F := 54) rfl (X.kc (.func (.func 54) #[] #[]) rfl) (X.a3 (F.ev 11 (.int .i64 hold)) (X.kc (.int .i64 1) rfl) (X.kc (.int .i64 100) rfl)) (enters_of Try.func54 (by kernel_rfl) rfl _)) (within_any hold 1 100 w3) ?_
  clear F ac
  rintro e w' ⟨rfl, hw_⟩
  obtain rfl : w3 = w' := hw_.symm
  clear hw_
  refine ⟨_, rfl, ?_⟩
  intro ac F
  refine Y.pval F (X.w1 rfl (F.yl (j := 4) (d := 9) (b := false) rfl (by kernel_rfl))) rfl (X.notB rfl (F.ev 12 (.bool (withinB hold 1 100))) rfl) ?_
  clear F ac
  intro ac F
  refine Y.pval F (X.w0 rfl) rfl (X.pickF rfl (F.ev 9 (.bool false)) (F.ev 13 (.bool (!(withinB hold 1 100))))) ?_
  clear F ac
  intro ac F
  refine Y.pval F (X.w0 rfl) rfl (X.move rfl (F.ev 14 (.bool (!(withinB hold 1 100))))) ?_
  clear F ac
  intro ac F
  cases h5 : withinB hold 1 100 with
  | false =>
   try rw [h5] at F
   refine Y.pskip F (X.w2 rfl (F.yl (j := 10) (d := 15) (b := true) rfl (by kernel_rfl)) rfl) rfl ?_
   clear F ac
   intro ac F
   refine Y.pskip F (X.w2 rfl (F.yl (j := 10) (d := 15) (b := true) rfl (by kernel_rfl)) rfl) rfl ?_
   clear F ac
   intro ac F
   refine Y.pskip F (X.w2 rfl (F.yl (j := 10) (d := 15) (b := true) rfl (by kernel_rfl)) rfl) rfl ?_
   clear F ac
   intro ac F
   refine Y.pskip F (X.w2 rfl (F.yl (j := 10) (d := 15) (b := true) rfl (by kernel_rfl)) rfl) rfl ?_
   clear F ac
   intro ac F
   refine Y.pval F (X.w0 rfl) rfl (X.pickT rfl (F.ev 15 (.bool true)) (X.kc (.bool true) rfl)) ?_
   clear F ac
   intro ac F
   refine Y.nil ?_
   replace F : Fr ac 63 [(0, .agg #[.int .i64 gr, .int .i64 hold, .slice na n nc]), (1, .pointer (some ⟨w.heap.size, 0, none⟩)), (2, .int .i64 0), (20, .bool true)] := F.sub _
   refine X.thenN ?_
   refine Y.condT (F.ev 20 (.bool true)) ?_
   refine Y.seq ?_
   refine Y.lit (by kernel_rfl) ?_
   refine Y.pval F (X.w0 rfl) rfl (X.assign rfl (X.kc (.int .i64 90) rfl)) ?_
   clear F ac
   intro ac F
   refine Y.nil ?_
   replace F : Fr ac 63 [(0, .agg #[.int .i64 gr, .int .i64 hold, .slice na n nc]), (1, .pointer (some ⟨w.heap.size, 0, none⟩)), (2, .int .i64 90), (20, .bool true)] := F.sub _
   refine X.thenN ?_
   refine Y.ret ?_
   refine X.thenR ?_
   exact Y.ret0 (v := .int .i64 90) F (Y.rs1 F rfl (by kernel_rfl)) ⟨by rw [(cluE_bad hlen (by simp [cluB, h4, h5] <;> omega))], G⟩
  | true =>
   try rw [h5] at F
   refine Y.pval F (X.w1 rfl (F.yl (j := 10) (d := 15) (b := false) rfl (by kernel_rfl))) rfl (X.field rfl (F.ev 1 (.pointer (some ⟨w.heap.size, 0, none⟩))) (X.fld Try.underlying24 rfl (Try.siz22 _) rfl rfl)) ?_
   clear F ac
   intro ac F
   refine Y.pval F (X.w1 rfl (F.yl (j := 10) (d := 15) (b := false) rfl (by kernel_rfl))) rfl (X.load rfl (F.ev 16 (.pointer (some ⟨w.heap.size, 2, none⟩))) (X.ld1 (Try.agg22 _) (hC.at 2 rfl))) ?_
   clear F ac
   intro ac F
   refine Y.pval F (X.w1 rfl (F.yl (j := 10) (d := 15) (b := false) rfl (by kernel_rfl))) rfl (X.len1 Try.underlying22 rfl (F.ev 17 (.slice na n nc))) ?_
   clear F ac
   intro ac F
   refine Y.pval F (X.w1 rfl (F.yl (j := 10) (d := 15) (b := false) rfl (by kernel_rfl))) rfl (X.binop rfl (F.ev 18 (.int .i64 n)) (X.kc (.int .i64 16) rfl) (X.gtrI Try.underlying3 rfl)) ?_
   clear F ac
   intro ac F
   refine Y.pval F (X.w0 rfl) rfl (X.pickF rfl (F.ev 15 (.bool false)) (F.ev 19 (.bool (decide ((16 : Int) < n))))) ?_
   clear F ac
   intro ac F
   refine Y.nil ?_
   replace F : Fr ac 63 [(0, .agg #[.int .i64 gr, .int .i64 hold, .slice na n nc]), (1, .pointer (some ⟨w.heap.size, 0, none⟩)), (2, .int .i64 0), (20, .bool (decide ((16 : Int) < n)))] := F.sub _
   refine X.thenN ?_
   cases h6 : decide ((16 : Int) < n) with
   | false =>
    try rw [h6] at F
    have h6p : ¬ ((16 : Int) < n) := of_decide_eq_false h6
    refine Y.condF (F.ev 20 (.bool false)) ?_
    refine Y.skip ?_
    refine X.thenN ?_
    refine Y.seq ?_
    refine Y.seq ?_
    refine Y.lit (by kernel_rfl) ?_
    refine Y.pval F (X.w0 rfl) rfl (X.field rfl (F.ev 1 (.pointer (some ⟨w.heap.size, 0, none⟩))) (X.fld Try.underlying24 rfl (Try.siz22 _) rfl rfl)) ?_
    clear F ac
    intro ac F
    refine Y.pval F (X.w0 rfl) rfl (X.load rfl (F.ev 21 (.pointer (some ⟨w.heap.size, 2, none⟩))) (X.ld1 (Try.agg22 _) (hC.at 2 rfl))) ?_
    clear F ac
    intro ac F
    refine Y.pval F (X.w0 rfl) rfl (X.len1 Try.underlying22 rfl (F.ev 22 (.slice na n nc))) ?_
    clear F ac
    intro ac F
    refine Y.pval F (X.w0 rfl) rfl (X.move rfl (X.kc (.int .i64 0) rfl)) ?_
    clear F ac
    intro ac F
    refine Y.nil ?_
    replace F : Fr ac 63 [(0, .agg #[.int .i64 gr, .int .i64 hold, .slice na n nc]), (1, .pointer (some ⟨w.heap.size, 0, none⟩)), (2, .int .i64 0), (20, .bool false), (22, .slice na n nc), (23, .int .i64 n), (24, .int .i64 0)] := F.sub _
    refine X.thenN ?_
    refine Y.block ?_
    have hndB := hnd
    have hCB := hC
    have GB := G
    refine Y.loop (fun me_ ac wr => ∃ (i : Nat), me_ = n - i ∧ Gr w3 wr ∧ i ≤ n ∧ allN (nodeB gr nd) i = true ∧ Fr ac 63 [(0, .agg #[.int .i64 gr, .int .i64 hold, .slice na n nc]), (1, .pointer (some ⟨w.heap.size, 0, none⟩)), (20, .bool false), (22, .slice na n nc), (23, .int .i64 n), (24, .int .i64 i)]) _ ⟨0, rfl, Gr.refl _, Nat.zero_le _, rfl, F.sub _⟩ ?_
    clear F
    intro me_ ac w7 hI
    obtain ⟨i, rfl, gr, hi0, hok, F⟩ := hI
    replace G := GB.trans gr
    replace hC := hCB.gr gr
    replace hnd := hndB.gr gr
    have GB_ := gr
    clear gr
    refine Y.seq ?_
    refine Y.lit (by kernel_rfl) ?_
    refine Y.pval F (X.w0 rfl) rfl (X.binop rfl (F.ev 24 (.int .i64 i)) (F.ev 23 (.int .i64 n)) (X.lssI Try.underlying3 rfl)) ?_
    clear F ac
    intro ac F
    refine Y.nil ?_
    replace F : Fr ac 63 [(0, .agg #[.int .i64 gr, .int .i64 hold, .slice na n nc]), (1, .pointer (some ⟨w.heap.size, 0, none⟩)), (20, .bool false), (22, .slice na n nc), (23, .int .i64 n), (24, .int .i64 i), (25, .bool (decide ((i : Int) < n)))] := F.sub _
    refine X.thenN ?_
    refine Y.seq ?_
    cases h8 : decide ((i : Int) < n) with
    | false =>
     try rw [h8] at F
     have h8p : ¬ ((i : Int) < n) := of_decide_eq_false h8
     have hin : i = n := by omega
     have hall : allN (nodeB gr nd) n = true := by rw [← hin]; exact hok
     refine Y.condF (F.ev 25 (.bool false)) ?_
     refine Y.exit ?_
     refine X.thenX ?_
     refine X.thenX ?_
     refine X.blockX ?_
     refine X.thenN ?_
     refine Y.seq ?_
     refine Y.lit (by kernel_rfl) ?_
     refine Y.pval F (X.w0 rfl) rfl (X.assign rfl (X.kc (.int .i64 0) rfl)) ?_
     clear F ac
     intro ac F
     refine Y.nil ?_
     replace F : Fr ac 63 [(0, .agg #[.int .i64 gr, .int .i64 hold, .slice na n nc]), (1, .pointer (some ⟨w.heap.size, 0, none⟩)), (2, .int .i64 0), (20, .bool false), (22, .slice na n nc), (23, .int .i64 n), (24, .int .i64 i), (25, .bool false)] := F.sub _
     refine X.thenN ?_
     refine Y.ret ?_
     exact Y.ret0 (v := .int .i64 0) F (Y.rs1 F rfl (by kernel_rfl)) ⟨by rw [(cluE_good hlen (by simp [cluB, h4, h5, h6, h8] <;> omega) hall)], G⟩
    | true =>
     try rw [h8] at F
     have h8p : ((i : Int) < n) := of_decide_eq_true h8
     have hi : i < n := by omega
     refine Y.condT (F.ev 25 (.bool true)) ?_
     refine Y.skip ?_
     refine X.thenN ?_
     refine Y.seq ?_
     refine Y.block ?_
     refine Y.seq ?_
     refine Y.lit (by kernel_rfl) ?_
     obtain ⟨pd9, pe9, -, -, pc9⟩ := hnd.at (j := i) (by omega)
     subst pe9
     replace hC : RCells w7 [(⟨w.heap.size, 0, none⟩, .int .i64 gr), (⟨w.heap.size, 1, none⟩, .int .i64 hold), (⟨w.heap.size, 2, none⟩, .slice (some pd9) n nc), (pd9.add (i * 5), .int .i64 (cv nd i 0)), (⟨(pd9.add (i * 5)).block, (pd9.add (i * 5)).off + 1, none⟩, .int .i64 (cv nd i 1)), (⟨(pd9.add (i * 5)).block, (pd9.add (i * 5)).off + 2, none⟩, .int .i64 (cv nd i 2)), (⟨(pd9.add (i * 5)).block, (pd9.add (i * 5)).off + 3, none⟩, .int .i64 (cv nd i 3)), (⟨(pd9.add (i * 5)).block, (pd9.add (i * 5)).off + 4, none⟩, .int .i64 (cv nd i 4))] := hC.append ((RCells.cons (pc9 0 (by decide)) (RCells.cons (pc9 1 (by decide)) (RCells.cons (pc9 2 (by decide)) (RCells.cons (pc9 3 (by decide)) (RCells.cons (pc9 4 (by decide)) (RCells.nil _)))))))
     clear pc9
     refine Y.pval F (X.w0 rfl) rfl (X.index rfl (F.ev 22 (.slice (some pd9) n nc)) (F.ev 24 (.int .i64 i)) (X.idx (k := i) Try.underlying22 (Try.siz31 _) (by omega) (by omega) rfl)) ?_
     clear F ac
     intro ac F
     refine Y.pval F (X.w0 rfl) rfl (X.load rfl (F.ev 26 (.pointer (some (pd9.add (i * 5))))) (X.ldN (Try.agg31 _) (Try.siz31 _) (Y.atz (pd9.add (i * 5)) (Y.AtFrom.cons (hC.at 3 rfl) (Y.AtFrom.cons (hC.at 4 rfl) (Y.AtFrom.cons (hC.at 5 rfl) (Y.AtFrom.cons (hC.at 6 rfl) (Y.AtFrom.cons (hC.at 7 rfl) (Y.AtFrom.nil _ _ _))))))))) ?_
     clear F ac
     intro ac F
     refine Y.pval F (X.w0 rfl) rfl (Y.al rfl (Try.new31 _)) ?_
     clear F ac
     intro ac F
     refine Y.punit F (X.w0 rfl) rfl (X.store rfl (F.ev 4 (.pointer (some ⟨w7.heap.size, 0, none⟩))) (F.ev 27 (.agg #[.int .i64 (cv nd i 0), .int .i64 (cv nd i 1), .int .i64 (cv nd i 2), .int .i64 (cv nd i 3), .int .i64 (cv nd i 4)])) (Y.stNew [.int .i64 (cv nd i 0), .int .i64 (cv nd i 1), .int .i64 (cv nd i 2), .int .i64 (cv nd i 3), .int .i64 (cv nd i 4)] [.int .i64 0, .int .i64 0, .int .i64 0, .int .i64 0, .int .i64 0] (Try.siz31 _) rfl rfl)) ?_
     clear F ac
     intro ac F
     have g := Gr.alloc w7 (.cells #[.int .i64 (cv nd i 0), .int .i64 (cv nd i 1), .int .i64 (cv nd i 2), .int .i64 (cv nd i 3), .int .i64 (cv nd i 4)] 31)
     have hb := heap_alloc_new w7 (.cells #[.int .i64 (cv nd i 0), .int .i64 (cv nd i 1), .int .i64 (cv nd i 2), .int .i64 (cv nd i 3), .int .i64 (cv nd i 4)] 31)
     have hbl : w7.heap.size < (w7.alloc (.cells #[.int .i64 (cv nd i 0), .int .i64 (cv nd i 1), .int .i64 (cv nd i 2), .int .i64 (cv nd i 3), .int .i64 (cv nd i 4)] 31)).heap.size := by simp
     have hC2 : RCells (w7.alloc (.cells #[.int .i64 (cv nd i 0), .int .i64 (cv nd i 1), .int .i64 (cv nd i 2), .int .i64 (cv nd i 3), .int .i64 (cv nd i 4)] 31)) [(⟨w.heap.size, 0, none⟩, .int .i64 gr), (⟨w.heap.size, 1, none⟩, .int .i64 hold), (⟨w.heap.size, 2, none⟩, .slice (some pd9) n nc), (pd9.add (i * 5), .int .i64 (cv nd i 0)), (⟨(pd9.add (i * 5)).block, (pd9.add (i * 5)).off + 1, none⟩, .int .i64 (cv nd i 1)), (⟨(pd9.add (i * 5)).block, (pd9.add (i * 5)).off + 2, none⟩, .int .i64 (cv nd i 2)), (⟨(pd9.add (i * 5)).block, (pd9.add (i * 5)).off + 3, none⟩, .int .i64 (cv nd i 3)), (⟨(pd9.add (i * 5)).block, (pd9.add (i * 5)).off + 4, none⟩, .int .i64 (cv nd i 4)), (⟨w7.heap.size, 0, none⟩, .int .i64 (cv nd i 0)), (⟨w7.heap.size, 1, none⟩, .int .i64 (cv nd i 1)), (⟨w7.heap.size, 2, none⟩, .int .i64 (cv nd i 2)), (⟨w7.heap.size, 3, none⟩, .int .i64 (cv nd i 3)), (⟨w7.heap.size, 4, none⟩, .int .i64 (cv nd i 4))] := hC.box (b := w7.heap.size) #[.int .i64 (cv nd i 0), .int .i64 (cv nd i 1), .int .i64 (cv nd i 2), .int .i64 (cv nd i 3), .int .i64 (cv nd i 4)] 31 rfl
     generalize w7.alloc (.cells #[.int .i64 (cv nd i 0), .int .i64 (cv nd i 1), .int .i64 (cv nd i 2), .int .i64 (cv nd i 3), .int .i64 (cv nd i 4)] 31) = w10 at *
     replace G := G.trans g
     replace hC := hC2
     clear hC2
     replace GB_ := GB_.trans g
     replace hnd := hnd.gr g
     clear g hb hbl
     refine Y.nil ?_
     replace F : Fr ac 63 [(0, .agg #[.int .i64 gr, .int .i64 hold, .slice (some pd9) n nc]), (1, .pointer (some ⟨w.heap.size, 0, none⟩)), (4, .pointer (some ⟨w7.heap.size, 0, none⟩)), (20, .bool false), (22, .slice (some pd9) n nc), (23, .int .i64 n), (24, .int .i64 i), (25, .bool true)] := F.sub _
     refine X.thenN ?_
     refine Y.seq ?_
     cases h11 : withinB (cv nd i 0) 0 ((shlV 1 (gr : Int) : Int) - 1) with
     | false =>
      try rw [h11] at F
      refine Y.region F [some (.pointer (some ⟨w7.heap.size, 0, none⟩)), some (.int .i64 (cv nd i 0)), some (.pointer (some ⟨w.heap.size, 0, none⟩)), some (.int .i64 gr), some (.int .i64 (shlV 1 (gr : Int))), some (.int .i64 ((shlV 1 (gr : Int) : Int) - 1)), some (.bool false), some (.bool true), some (.bool true), none, none, none, none, some (.bool true), some (.bool true), none, none, none, none, none, none, some (.bool true), some (.bool true), none, none, none, none, some (.bool true), some (.bool true), none, none, none, none, some (.bool true)] [] rfl ⟨by kernel_rfl, of_decide_eq_true (by kernel_rfl), by kernel_rfl, by kernel_rfl, by kernel_rfl⟩ ⟨?_, ?_, ?_, ?_, ?_, ?_, ?_, ?_, ?_, ?_, ?_, ?_, ?_, ?_, ?_, ?_, ?_, ?_, ?_, ?_, ?_, ?_, ?_, ?_, ?_, ?_, ?_, ?_, ?_, ?_, ?_, ?_, ?_, ?_, trivial⟩ ?_
      ·intro ac done u W Sx hR
       exact X.val (X.w0 rfl) rfl (X.field rfl (Sx.ev 4 (.pointer (some ⟨w7.heap.size, 0, none⟩))) (X.fld Try.underlying31 rfl (Try.siz3 _) rfl rfl)) (hR.step (Gr.refl _) rfl)
      ·intro ac done u W Sx hR
       have g : Gr w10 W := hR.1
       exact X.val (X.w0 rfl) rfl (X.load rfl (Sx.ev 28 (.pointer (some ⟨w7.heap.size, 0, none⟩))) (X.ld1 (Try.agg3 _) ((hC.gr g).at 8 rfl))) (hR.step (Gr.refl _) rfl)
      ·intro ac done u W Sx hR
       exact X.val (X.w0 rfl) rfl (X.field rfl (Sx.ev 1 (.pointer (some ⟨w.heap.size, 0, none⟩))) (X.fld Try.underlying24 rfl (Try.siz3 _) rfl rfl)) (hR.step (Gr.refl _) rfl)
      ·intro ac done u W Sx hR
       have g : Gr w10 W := hR.1
       exact X.val (X.w0 rfl) rfl (X.load rfl (Sx.ev 30 (.pointer (some ⟨w.heap.size, 0, none⟩))) (X.ld1 (Try.agg3 _) ((hC.gr g).at 0 rfl))) (hR.step (Gr.refl _) rfl)
      ·intro ac done u W Sx hR
       exact X.val (X.w0 rfl) rfl (X.binop rfl (X.kc (.int .i64 1) rfl) (Sx.ev 31 (.int .i64 gr)) (X.shlI Try.underlying3 rfl (by omega))) (hR.step (Gr.refl _) rfl)
      ·intro ac done u W Sx hR
       exact X.val (X.w0 rfl) rfl (X.binop rfl (Sx.ev 32 (.int .i64 (shlV 1 (gr : Int)))) (X.kc (.int .i64 1) rfl) (X.subI Try.underlying3 rfl (by omega) (by omega))) (hR.step (Gr.refl _) rfl)
      ·intro ac done u W Sx hR
       refine X.call (X.w0 rfl) (X.enter (F := 54) rfl (X.kc (.func (.func 54) #[] #[]) rfl) (X.a3 (Sx.ev 29 (.int .i64 (cv nd i 0))) (X.kc (.int .i64 0) rfl) (Sx.ev 33 (.int .i64 ((shlV 1 (gr : Int) : Int) - 1)))) (enters_of Try.func54 (by kernel_rfl) rfl _)) (by have hq := within_any (cv nd i 0) 0 ((shlV 1 (gr : Int) : Int) - 1) W; rw [h11] at hq; exact hq) ?_
       rintro e W2 ⟨rfl, rfl⟩
       exact ⟨_, rfl, X.kn rfl, hR.step (Gr.refl _) rfl⟩
      ·intro ac done u W Sx hR
       exact X.val (X.w0 rfl) rfl (X.notB rfl (Sx.ev 34 (.bool false)) rfl) (hR.step (Gr.refl _) rfl)
      ·intro ac done u W Sx hR
       exact X.val (X.w0 rfl) rfl (X.move rfl (Sx.ev 35 (.bool true))) (hR.step (Gr.refl _) rfl)
      ·intro ac done u W Sx hR
       exact X.skip (X.w2 rfl (Sx.yl 8 36 true (by kernel_rfl) rfl rfl) rfl) rfl (hR.skip rfl)
      ·intro ac done u W Sx hR
       exact X.skip (X.w2 rfl (Sx.yl 8 36 true (by kernel_rfl) rfl rfl) rfl) rfl (hR.skip rfl)
      ·intro ac done u W Sx hR
       exact X.skip (X.w2 rfl (Sx.yl 8 36 true (by kernel_rfl) rfl rfl) rfl) rfl (hR.skip rfl)
      ·intro ac done u W Sx hR
       exact X.skip (X.w2 rfl (Sx.yl 8 36 true (by kernel_rfl) rfl rfl) rfl) rfl (hR.skip rfl)
      ·intro ac done u W Sx hR
       exact X.val (X.w0 rfl) rfl (X.pickT rfl (Sx.ev 36 (.bool true)) (X.kc (.bool true) rfl)) (hR.step (Gr.refl _) rfl)
      ·intro ac done u W Sx hR
       exact X.val (X.w0 rfl) rfl (X.move rfl (Sx.ev 41 (.bool true))) (hR.step (Gr.refl _) rfl)
      ·intro ac done u W Sx hR
       exact X.skip (X.w2 rfl (Sx.yl 14 42 true (by kernel_rfl) rfl rfl) rfl) rfl (hR.skip rfl)
      ·intro ac done u W Sx hR
       exact X.skip (X.w2 rfl (Sx.yl 14 42 true (by kernel_rfl) rfl rfl) rfl) rfl (hR.skip rfl)
      ·intro ac done u W Sx hR
       exact X.skip (X.w2 rfl (Sx.yl 14 42 true (by kernel_rfl) rfl rfl) rfl) rfl (hR.skip rfl)
      ·intro ac done u W Sx hR
       exact X.skip (X.w2 rfl (Sx.yl 14 42 true (by kernel_rfl) rfl rfl) rfl) rfl (hR.skip rfl)
      ·intro ac done u W Sx hR
       exact X.skip (X.w2 rfl (Sx.yl 14 42 true (by kernel_rfl) rfl rfl) rfl) rfl (hR.skip rfl)
      ·intro ac done u W Sx hR
       exact X.skip (X.w2 rfl (Sx.yl 14 42 true (by kernel_rfl) rfl rfl) rfl) rfl (hR.skip rfl)
      ·intro ac done u W Sx hR
       exact X.val (X.w0 rfl) rfl (X.pickT rfl (Sx.ev 42 (.bool true)) (X.kc (.bool true) rfl)) (hR.step (Gr.refl _) rfl)
      ·intro ac done u W Sx hR
       exact X.val (X.w0 rfl) rfl (X.move rfl (Sx.ev 49 (.bool true))) (hR.step (Gr.refl _) rfl)
      ·intro ac done u W Sx hR
       exact X.skip (X.w2 rfl (Sx.yl 22 50 true (by kernel_rfl) rfl rfl) rfl) rfl (hR.skip rfl)
      ·intro ac done u W Sx hR
       exact X.skip (X.w2 rfl (Sx.yl 22 50 true (by kernel_rfl) rfl rfl) rfl) rfl (hR.skip rfl)
      ·intro ac done u W Sx hR
       exact X.skip (X.w2 rfl (Sx.yl 22 50 true (by kernel_rfl) rfl rfl) rfl) rfl (hR.skip rfl)
      ·intro ac done u W Sx hR
       exact X.skip (X.w2 rfl (Sx.yl 22 50 true (by kernel_rfl) rfl rfl) rfl) rfl (hR.skip rfl)
      ·intro ac done u W Sx hR
       exact X.val (X.w0 rfl) rfl (X.pickT rfl (Sx.ev 50 (.bool true)) (X.kc (.bool true) rfl)) (hR.step (Gr.refl _) rfl)
      ·intro ac done u W Sx hR
       exact X.val (X.w0 rfl) rfl (X.move rfl (Sx.ev 55 (.bool true))) (hR.step (Gr.refl _) rfl)
      ·intro ac done u W Sx hR
       exact X.skip (X.w2 rfl (Sx.yl 28 56 true (by kernel_rfl) rfl rfl) rfl) rfl (hR.skip rfl)
      ·intro ac done u W Sx hR
       exact X.skip (X.w2 rfl (Sx.yl 28 56 true (by kernel_rfl) rfl rfl) rfl) rfl (hR.skip rfl)
      ·intro ac done u W Sx hR
       exact X.skip (X.w2 rfl (Sx.yl 28 56 true (by kernel_rfl) rfl rfl) rfl) rfl (hR.skip rfl)
      ·intro ac done u W Sx hR
       exact X.skip (X.w2 rfl (Sx.yl 28 56 true (by kernel_rfl) rfl rfl) rfl) rfl (hR.skip rfl)
      ·intro ac done u W Sx hR
       exact X.val (X.w0 rfl) rfl (X.pickT rfl (Sx.ev 56 (.bool true)) (X.kc (.bool true) rfl)) (hR.step (Gr.refl _) rfl)
      intro ac u w12 hs hd hl ho hR
      have g : Gr w10 w12 := hR.1
      replace F : Fr ac 63 [(0, .agg #[.int .i64 gr, .int .i64 hold, .slice (some pd9) n nc]), (1, .pointer (some ⟨w.heap.size, 0, none⟩)), (4, .pointer (some ⟨w7.heap.size, 0, none⟩)), (20, .bool false), (22, .slice (some pd9) n nc), (23, .int .i64 n), (24, .int .i64 i), (25, .bool true), (61, .bool true)] := X.fr hs hd hl _ (by kernel_rfl)
      clear hs hd hl ho hR
      replace G := G.trans g
      replace hC := hC.gr g
      replace GB_ := GB_.trans g
      replace hnd := hnd.gr g
      clear g
      refine X.thenN ?_
      refine Y.condT (F.ev 61 (.bool true)) ?_
      refine Y.seq ?_
      refine Y.lit (by kernel_rfl) ?_
      refine Y.pval F (X.w0 rfl) rfl (X.assign rfl (X.kc (.int .i64 90) rfl)) ?_
      clear F ac
      intro ac F
      refine Y.nil ?_
      replace F : Fr ac 63 [(0, .agg #[.int .i64 gr, .int .i64 hold, .slice (some pd9) n nc]), (1, .pointer (some ⟨w.heap.size, 0, none⟩)), (2, .int .i64 90), (4, .pointer (some ⟨w7.heap.size, 0, none⟩)), (20, .bool false), (22, .slice (some pd9) n nc), (23, .int .i64 n), (24, .int .i64 i), (25, .bool true), (61, .bool true)] := F.sub _
      refine X.thenN ?_
      refine Y.ret ?_
      refine X.blockR ?_
      refine X.thenR ?_
      refine X.thenR ?_
      refine X.blockR ?_
      refine X.thenR ?_
      exact Y.ret0 (v := .int .i64 90) F (Y.rs1 F rfl (by kernel_rfl)) ⟨by rw [(cluE_node hlen (i := i) (by omega) (by simp [nodeB, h11, h4, h5, h6, h8]))], G⟩
     | true =>
      try rw [h11] at F
      cases h13 : withinB (cv nd i 1) 0 10000 with
      | false =>
       try rw [h13] at F
       refine Y.region F [some (.pointer (some ⟨w7.heap.size, 0, none⟩)), some (.int .i64 (cv nd i 0)), some (.pointer (some ⟨w.heap.size, 0, none⟩)), some (.int .i64 gr), some (.int .i64 (shlV 1 (gr : Int))), some (.int .i64 ((shlV 1 (gr : Int) : Int) - 1)), some (.bool true), some (.bool false), some (.bool false), some (.pointer (some ⟨w7.heap.size, 1, none⟩)), some (.int .i64 (cv nd i 1)), some (.bool false), some (.bool true), some (.bool true), some (.bool true), none, none, none, none, none, none, some (.bool true), some (.bool true), none, none, none, none, some (.bool true), some (.bool true), none, none, none, none, some (.bool true)] [] rfl ⟨by kernel_rfl, of_decide_eq_true (by kernel_rfl), by kernel_rfl, by kernel_rfl, by kernel_rfl⟩ ⟨?_, ?_, ?_, ?_, ?_, ?_, ?_, ?_, ?_, ?_, ?_, ?_, ?_, ?_, ?_, ?_, ?_, ?_, ?_, ?_, ?_, ?_, ?_, ?_, ?_, ?_, ?_, ?_, ?_, ?_, ?_, ?_, ?_, ?_, trivial⟩ ?_
       ·intro ac done u W Sx hR
        exact X.val (X.w0 rfl) rfl (X.field rfl (Sx.ev 4 (.pointer (some ⟨w7.heap.size, 0, none⟩))) (X.fld Try.underlying31 rfl (Try.siz3 _) rfl rfl)) (hR.step (Gr.refl _) rfl)
       ·intro ac done u W Sx hR
        have g : Gr w10 W := hR.1
        exact X.val (X.w0 rfl) rfl (X.load rfl (Sx.ev 28 (.pointer (some ⟨w7.heap.size, 0, none⟩))) (X.ld1 (Try.agg3 _) ((hC.gr g).at 8 rfl))) (hR.step (Gr.refl _) rfl)
       ·intro ac done u W Sx hR
        exact X.val (X.w0 rfl) rfl (X.field rfl (Sx.ev 1 (.pointer (some ⟨w.heap.size, 0, none⟩))) (X.fld Try.underlying24 rfl (Try.siz3 _) rfl rfl)) (hR.step (Gr.refl _) rfl)
       ·intro ac done u W Sx hR
        have g : Gr w10 W := hR.1
        exact X.val (X.w0 rfl) rfl (X.load rfl (Sx.ev 30 (.pointer (some ⟨w.heap.size, 0, none⟩))) (X.ld1 (Try.agg3 _) ((hC.gr g).at 0 rfl))) (hR.step (Gr.refl _) rfl)
       ·intro ac done u W Sx hR
        exact X.val (X.w0 rfl) rfl (X.binop rfl (X.kc (.int .i64 1) rfl) (Sx.ev 31 (.int .i64 gr)) (X.shlI Try.underlying3 rfl (by omega))) (hR.step (Gr.refl _) rfl)
       ·intro ac done u W Sx hR
        exact X.val (X.w0 rfl) rfl (X.binop rfl (Sx.ev 32 (.int .i64 (shlV 1 (gr : Int)))) (X.kc (.int .i64 1) rfl) (X.subI Try.underlying3 rfl (by omega) (by omega))) (hR.step (Gr.refl _) rfl)
       ·intro ac done u W Sx hR
        refine X.call (X.w0 rfl) (X.enter (F := 54) rfl (X.kc (.func (.func 54) #[] #[]) rfl) (X.a3 (Sx.ev 29 (.int .i64 (cv nd i 0))) (X.kc (.int .i64 0) rfl) (Sx.ev 33 (.int .i64 ((shlV 1 (gr : Int) : Int) - 1)))) (enters_of Try.func54 (by kernel_rfl) rfl _)) (by have hq := within_any (cv nd i 0) 0 ((shlV 1 (gr : Int) : Int) - 1) W; rw [h11] at hq; exact hq) ?_
        rintro e W2 ⟨rfl, rfl⟩
        exact ⟨_, rfl, X.kn rfl, hR.step (Gr.refl _) rfl⟩
       ·intro ac done u W Sx hR
        exact X.val (X.w0 rfl) rfl (X.notB rfl (Sx.ev 34 (.bool true)) rfl) (hR.step (Gr.refl _) rfl)
       ·intro ac done u W Sx hR
        exact X.val (X.w0 rfl) rfl (X.move rfl (Sx.ev 35 (.bool false))) (hR.step (Gr.refl _) rfl)
       ·intro ac done u W Sx hR
        exact X.val (X.w1 rfl (Sx.yl 8 36 false (by kernel_rfl) rfl rfl)) rfl (X.field rfl (Sx.ev 4 (.pointer (some ⟨w7.heap.size, 0, none⟩))) (X.fld Try.underlying31 rfl (Try.siz3 _) rfl rfl)) (hR.step (Gr.refl _) rfl)
       ·intro ac done u W Sx hR
        have g : Gr w10 W := hR.1
        exact X.val (X.w1 rfl (Sx.yl 8 36 false (by kernel_rfl) rfl rfl)) rfl (X.load rfl (Sx.ev 37 (.pointer (some ⟨w7.heap.size, 1, none⟩))) (X.ld1 (Try.agg3 _) ((hC.gr g).at 9 rfl))) (hR.step (Gr.refl _) rfl)
       ·intro ac done u W Sx hR
        refine X.call (X.w1 rfl (Sx.yl 8 36 false (by kernel_rfl) rfl rfl)) (X.enter (F := 54) rfl (X.kc (.func (.func 54) #[] #[]) rfl) (X.a3 (Sx.ev 38 (.int .i64 (cv nd i 1))) (X.kc (.int .i64 0) rfl) (X.kc (.int .i64 10000) rfl)) (enters_of Try.func54 (by kernel_rfl) rfl _)) (by have hq := within_any (cv nd i 1) 0 10000 W; rw [h13] at hq; exact hq) ?_
        rintro e W2 ⟨rfl, rfl⟩
        exact ⟨_, rfl, X.kn rfl, hR.step (Gr.refl _) rfl⟩
       ·intro ac done u W Sx hR
        exact X.val (X.w1 rfl (Sx.yl 8 36 false (by kernel_rfl) rfl rfl)) rfl (X.notB rfl (Sx.ev 39 (.bool false)) rfl) (hR.step (Gr.refl _) rfl)
       ·intro ac done u W Sx hR
        exact X.val (X.w0 rfl) rfl (X.pickF rfl (Sx.ev 36 (.bool false)) (Sx.ev 40 (.bool true))) (hR.step (Gr.refl _) rfl)
       ·intro ac done u W Sx hR
        exact X.val (X.w0 rfl) rfl (X.move rfl (Sx.ev 41 (.bool true))) (hR.step (Gr.refl _) rfl)
       ·intro ac done u W Sx hR
        exact X.skip (X.w2 rfl (Sx.yl 14 42 true (by kernel_rfl) rfl rfl) rfl) rfl (hR.skip rfl)
       ·intro ac done u W Sx hR
        exact X.skip (X.w2 rfl (Sx.yl 14 42 true (by kernel_rfl) rfl rfl) rfl) rfl (hR.skip rfl)
       ·intro ac done u W Sx hR
        exact X.skip (X.w2 rfl (Sx.yl 14 42 true (by kernel_rfl) rfl rfl) rfl) rfl (hR.skip rfl)
       ·intro ac done u W Sx hR
        exact X.skip (X.w2 rfl (Sx.yl 14 42 true (by kernel_rfl) rfl rfl) rfl) rfl (hR.skip rfl)
       ·intro ac done u W Sx hR
        exact X.skip (X.w2 rfl (Sx.yl 14 42 true (by kernel_rfl) rfl rfl) rfl) rfl (hR.skip rfl)
       ·intro ac done u W Sx hR
        exact X.skip (X.w2 rfl (Sx.yl 14 42 true (by kernel_rfl) rfl rfl) rfl) rfl (hR.skip rfl)
       ·intro ac done u W Sx hR
        exact X.val (X.w0 rfl) rfl (X.pickT rfl (Sx.ev 42 (.bool true)) (X.kc (.bool true) rfl)) (hR.step (Gr.refl _) rfl)
       ·intro ac done u W Sx hR
        exact X.val (X.w0 rfl) rfl (X.move rfl (Sx.ev 49 (.bool true))) (hR.step (Gr.refl _) rfl)
       ·intro ac done u W Sx hR
        exact X.skip (X.w2 rfl (Sx.yl 22 50 true (by kernel_rfl) rfl rfl) rfl) rfl (hR.skip rfl)
       ·intro ac done u W Sx hR
        exact X.skip (X.w2 rfl (Sx.yl 22 50 true (by kernel_rfl) rfl rfl) rfl) rfl (hR.skip rfl)
       ·intro ac done u W Sx hR
        exact X.skip (X.w2 rfl (Sx.yl 22 50 true (by kernel_rfl) rfl rfl) rfl) rfl (hR.skip rfl)
       ·intro ac done u W Sx hR
        exact X.skip (X.w2 rfl (Sx.yl 22 50 true (by kernel_rfl) rfl rfl) rfl) rfl (hR.skip rfl)
       ·intro ac done u W Sx hR
        exact X.val (X.w0 rfl) rfl (X.pickT rfl (Sx.ev 50 (.bool true)) (X.kc (.bool true) rfl)) (hR.step (Gr.refl _) rfl)
       ·intro ac done u W Sx hR
        exact X.val (X.w0 rfl) rfl (X.move rfl (Sx.ev 55 (.bool true))) (hR.step (Gr.refl _) rfl)
       ·intro ac done u W Sx hR
        exact X.skip (X.w2 rfl (Sx.yl 28 56 true (by kernel_rfl) rfl rfl) rfl) rfl (hR.skip rfl)
       ·intro ac done u W Sx hR
        exact X.skip (X.w2 rfl (Sx.yl 28 56 true (by kernel_rfl) rfl rfl) rfl) rfl (hR.skip rfl)
       ·intro ac done u W Sx hR
        exact X.skip (X.w2 rfl (Sx.yl 28 56 true (by kernel_rfl) rfl rfl) rfl) rfl (hR.skip rfl)
       ·intro ac done u W Sx hR
        exact X.skip (X.w2 rfl (Sx.yl 28 56 true (by kernel_rfl) rfl rfl) rfl) rfl (hR.skip rfl)
       ·intro ac done u W Sx hR
        exact X.val (X.w0 rfl) rfl (X.pickT rfl (Sx.ev 56 (.bool true)) (X.kc (.bool true) rfl)) (hR.step (Gr.refl _) rfl)
       intro ac u w14 hs hd hl ho hR
       have g : Gr w10 w14 := hR.1
       replace F : Fr ac 63 [(0, .agg #[.int .i64 gr, .int .i64 hold, .slice (some pd9) n nc]), (1, .pointer (some ⟨w.heap.size, 0, none⟩)), (4, .pointer (some ⟨w7.heap.size, 0, none⟩)), (20, .bool false), (22, .slice (some pd9) n nc), (23, .int .i64 n), (24, .int .i64 i), (25, .bool true), (61, .bool true)] := X.fr hs hd hl _ (by kernel_rfl)
       clear hs hd hl ho hR
       replace G := G.trans g
       replace hC := hC.gr g
       replace GB_ := GB_.trans g
       replace hnd := hnd.gr g
       clear g
       refine X.thenN ?_
       refine Y.condT (F.ev 61 (.bool true)) ?_
       refine Y.seq ?_
       refine Y.lit (by kernel_rfl) ?_
       refine Y.pval F (X.w0 rfl) rfl (X.assign rfl (X.kc (.int .i64 90) rfl)) ?_
       clear F ac
       intro ac F
       refine Y.nil ?_
       replace F : Fr ac 63 [(0, .agg #[.int .i64 gr, .int .i64 hold, .slice (some pd9) n nc]), (1, .pointer (some ⟨w.heap.size, 0, none⟩)), (2, .int .i64 90), (4, .pointer (some ⟨w7.heap.size, 0, none⟩)), (20, .bool false), (22, .slice (some pd9) n nc), (23, .int .i64 n), (24, .int .i64 i), (25, .bool true), (61, .bool true)] := F.sub _
       refine X.thenN ?_
       refine Y.ret ?_
       refine X.blockR ?_
       refine X.thenR ?_
       refine X.thenR ?_
       refine X.blockR ?_
       refine X.thenR ?_
       exact Y.ret0 (v := .int .i64 90) F (Y.rs1 F rfl (by kernel_rfl)) ⟨by rw [(cluE_node hlen (i := i) (by omega) (by simp [nodeB, h11, h13, h4, h5, h6, h8]))], G⟩
      | true =>
       try rw [h13] at F
       have ha1 := withinB_ok h13
       cases h15 : withinB (cv nd i 2) 0 (cv nd i 1) with
       | false =>
        try rw [h15] at F
        refine Y.region F [some (.pointer (some ⟨w7.heap.size, 0, none⟩)), some (.int .i64 (cv nd i 0)), some (.pointer (some ⟨w.heap.size, 0, none⟩)), some (.int .i64 gr), some (.int .i64 (shlV 1 (gr : Int))), some (.int .i64 ((shlV 1 (gr : Int) : Int) - 1)), some (.bool true), some (.bool false), some (.bool false), some (.pointer (some ⟨w7.heap.size, 1, none⟩)), some (.int .i64 (cv nd i 1)), some (.bool true), some (.bool false), some (.bool false), some (.bool false), some (.pointer (some ⟨w7.heap.size, 2, none⟩)), some (.int .i64 (cv nd i 2)), some (.pointer (some ⟨w7.heap.size, 1, none⟩)), some (.int .i64 (cv nd i 1)), some (.bool false), some (.bool true), some (.bool true), some (.bool true), none, none, none, none, some (.bool true), some (.bool true), none, none, none, none, some (.bool true)] [] rfl ⟨by kernel_rfl, of_decide_eq_true (by kernel_rfl), by kernel_rfl, by kernel_rfl, by kernel_rfl⟩ ⟨?_, ?_, ?_, ?_, ?_, ?_, ?_, ?_, ?_, ?_, ?_, ?_, ?_, ?_, ?_, ?_, ?_, ?_, ?_, ?_, ?_, ?_, ?_, ?_, ?_, ?_, ?_, ?_, ?_, ?_, ?_, ?_, ?_, ?_, trivial⟩ ?_
        ·intro ac done u W Sx hR
         exact X.val (X.w0 rfl) rfl (X.field rfl (Sx.ev 4 (.pointer (some ⟨w7.heap.size, 0, none⟩))) (X.fld Try.underlying31 rfl (Try.siz3 _) rfl rfl)) (hR.step (Gr.refl _) rfl)
        ·intro ac done u W Sx hR
         have g : Gr w10 W := hR.1
         exact X.val (X.w0 rfl) rfl (X.load rfl (Sx.ev 28 (.pointer (some ⟨w7.heap.size, 0, none⟩))) (X.ld1 (Try.agg3 _) ((hC.gr g).at 8 rfl))) (hR.step (Gr.refl _) rfl)
        ·intro ac done u W Sx hR
         exact X.val (X.w0 rfl) rfl (X.field rfl (Sx.ev 1 (.pointer (some ⟨w.heap.size, 0, none⟩))) (X.fld Try.underlying24 rfl (Try.siz3 _) rfl rfl)) (hR.step (Gr.refl _) rfl)
        ·intro ac done u W Sx hR
         have g : Gr w10 W := hR.1
         exact X.val (X.w0 rfl) rfl (X.load rfl (Sx.ev 30 (.pointer (some ⟨w.heap.size, 0, none⟩))) (X.ld1 (Try.agg3 _) ((hC.gr g).at 0 rfl))) (hR.step (Gr.refl _) rfl)
        ·intro ac done u W Sx hR
         exact X.val (X.w0 rfl) rfl (X.binop rfl (X.kc (.int .i64 1) rfl) (Sx.ev 31 (.int .i64 gr)) (X.shlI Try.underlying3 rfl (by omega))) (hR.step (Gr.refl _) rfl)
        ·intro ac done u W Sx hR
         exact X.val (X.w0 rfl) rfl (X.binop rfl (Sx.ev 32 (.int .i64 (shlV 1 (gr : Int)))) (X.kc (.int .i64 1) rfl) (X.subI Try.underlying3 rfl (by omega) (by omega))) (hR.step (Gr.refl _) rfl)
        ·intro ac done u W Sx hR
         refine X.call (X.w0 rfl) (X.enter (F := 54) rfl (X.kc (.func (.func 54) #[] #[]) rfl) (X.a3 (Sx.ev 29 (.int .i64 (cv nd i 0))) (X.kc (.int .i64 0) rfl) (Sx.ev 33 (.int .i64 ((shlV 1 (gr : Int) : Int) - 1)))) (enters_of Try.func54 (by kernel_rfl) rfl _)) (by have hq := within_any (cv nd i 0) 0 ((shlV 1 (gr : Int) : Int) - 1) W; rw [h11] at hq; exact hq) ?_
         rintro e W2 ⟨rfl, rfl⟩
         exact ⟨_, rfl, X.kn rfl, hR.step (Gr.refl _) rfl⟩
        ·intro ac done u W Sx hR
         exact X.val (X.w0 rfl) rfl (X.notB rfl (Sx.ev 34 (.bool true)) rfl) (hR.step (Gr.refl _) rfl)
        ·intro ac done u W Sx hR
         exact X.val (X.w0 rfl) rfl (X.move rfl (Sx.ev 35 (.bool false))) (hR.step (Gr.refl _) rfl)
        ·intro ac done u W Sx hR
         exact X.val (X.w1 rfl (Sx.yl 8 36 false (by kernel_rfl) rfl rfl)) rfl (X.field rfl (Sx.ev 4 (.pointer (some ⟨w7.heap.size, 0, none⟩))) (X.fld Try.underlying31 rfl (Try.siz3 _) rfl rfl)) (hR.step (Gr.refl _) rfl)
        ·intro ac done u W Sx hR
         have g : Gr w10 W := hR.1
         exact X.val (X.w1 rfl (Sx.yl 8 36 false (by kernel_rfl) rfl rfl)) rfl (X.load rfl (Sx.ev 37 (.pointer (some ⟨w7.heap.size, 1, none⟩))) (X.ld1 (Try.agg3 _) ((hC.gr g).at 9 rfl))) (hR.step (Gr.refl _) rfl)
        ·intro ac done u W Sx hR
         refine X.call (X.w1 rfl (Sx.yl 8 36 false (by kernel_rfl) rfl rfl)) (X.enter (F := 54) rfl (X.kc (.func (.func 54) #[] #[]) rfl) (X.a3 (Sx.ev 38 (.int .i64 (cv nd i 1))) (X.kc (.int .i64 0) rfl) (X.kc (.int .i64 10000) rfl)) (enters_of Try.func54 (by kernel_rfl) rfl _)) (by have hq := within_any (cv nd i 1) 0 10000 W; rw [h13] at hq; exact hq) ?_
         rintro e W2 ⟨rfl, rfl⟩
         exact ⟨_, rfl, X.kn rfl, hR.step (Gr.refl _) rfl⟩
        ·intro ac done u W Sx hR
         exact X.val (X.w1 rfl (Sx.yl 8 36 false (by kernel_rfl) rfl rfl)) rfl (X.notB rfl (Sx.ev 39 (.bool true)) rfl) (hR.step (Gr.refl _) rfl)
        ·intro ac done u W Sx hR
         exact X.val (X.w0 rfl) rfl (X.pickF rfl (Sx.ev 36 (.bool false)) (Sx.ev 40 (.bool false))) (hR.step (Gr.refl _) rfl)
        ·intro ac done u W Sx hR
         exact X.val (X.w0 rfl) rfl (X.move rfl (Sx.ev 41 (.bool false))) (hR.step (Gr.refl _) rfl)
        ·intro ac done u W Sx hR
         exact X.val (X.w1 rfl (Sx.yl 14 42 false (by kernel_rfl) rfl rfl)) rfl (X.field rfl (Sx.ev 4 (.pointer (some ⟨w7.heap.size, 0, none⟩))) (X.fld Try.underlying31 rfl (Try.siz3 _) rfl rfl)) (hR.step (Gr.refl _) rfl)
        ·intro ac done u W Sx hR
         have g : Gr w10 W := hR.1
         exact X.val (X.w1 rfl (Sx.yl 14 42 false (by kernel_rfl) rfl rfl)) rfl (X.load rfl (Sx.ev 43 (.pointer (some ⟨w7.heap.size, 2, none⟩))) (X.ld1 (Try.agg3 _) ((hC.gr g).at 10 rfl))) (hR.step (Gr.refl _) rfl)
        ·intro ac done u W Sx hR
         exact X.val (X.w1 rfl (Sx.yl 14 42 false (by kernel_rfl) rfl rfl)) rfl (X.field rfl (Sx.ev 4 (.pointer (some ⟨w7.heap.size, 0, none⟩))) (X.fld Try.underlying31 rfl (Try.siz3 _) rfl rfl)) (hR.step (Gr.refl _) rfl)
        ·intro ac done u W Sx hR
         have g : Gr w10 W := hR.1
         exact X.val (X.w1 rfl (Sx.yl 14 42 false (by kernel_rfl) rfl rfl)) rfl (X.load rfl (Sx.ev 45 (.pointer (some ⟨w7.heap.size, 1, none⟩))) (X.ld1 (Try.agg3 _) ((hC.gr g).at 9 rfl))) (hR.step (Gr.refl _) rfl)
        ·intro ac done u W Sx hR
         refine X.call (X.w1 rfl (Sx.yl 14 42 false (by kernel_rfl) rfl rfl)) (X.enter (F := 54) rfl (X.kc (.func (.func 54) #[] #[]) rfl) (X.a3 (Sx.ev 44 (.int .i64 (cv nd i 2))) (X.kc (.int .i64 0) rfl) (Sx.ev 46 (.int .i64 (cv nd i 1)))) (enters_of Try.func54 (by kernel_rfl) rfl _)) (by have hq := within_any (cv nd i 2) 0 (cv nd i 1) W; rw [h15] at hq; exact hq) ?_
         rintro e W2 ⟨rfl, rfl⟩
         exact ⟨_, rfl, X.kn rfl, hR.step (Gr.refl _) rfl⟩
        ·intro ac done u W Sx hR
         exact X.val (X.w1 rfl (Sx.yl 14 42 false (by kernel_rfl) rfl rfl)) rfl (X.notB rfl (Sx.ev 47 (.bool false)) rfl) (hR.step (Gr.refl _) rfl)
        ·intro ac done u W Sx hR
         exact X.val (X.w0 rfl) rfl (X.pickF rfl (Sx.ev 42 (.bool false)) (Sx.ev 48 (.bool true))) (hR.step (Gr.refl _) rfl)
        ·intro ac done u W Sx hR
         exact X.val (X.w0 rfl) rfl (X.move rfl (Sx.ev 49 (.bool true))) (hR.step (Gr.refl _) rfl)
        ·intro ac done u W Sx hR
         exact X.skip (X.w2 rfl (Sx.yl 22 50 true (by kernel_rfl) rfl rfl) rfl) rfl (hR.skip rfl)
        ·intro ac done u W Sx hR
         exact X.skip (X.w2 rfl (Sx.yl 22 50 true (by kernel_rfl) rfl rfl) rfl) rfl (hR.skip rfl)
        ·intro ac done u W Sx hR
         exact X.skip (X.w2 rfl (Sx.yl 22 50 true (by kernel_rfl) rfl rfl) rfl) rfl (hR.skip rfl)
        ·intro ac done u W Sx hR
         exact X.skip (X.w2 rfl (Sx.yl 22 50 true (by kernel_rfl) rfl rfl) rfl) rfl (hR.skip rfl)
        ·intro ac done u W Sx hR
         exact X.val (X.w0 rfl) rfl (X.pickT rfl (Sx.ev 50 (.bool true)) (X.kc (.bool true) rfl)) (hR.step (Gr.refl _) rfl)
        ·intro ac done u W Sx hR
         exact X.val (X.w0 rfl) rfl (X.move rfl (Sx.ev 55 (.bool true))) (hR.step (Gr.refl _) rfl)
        ·intro ac done u W Sx hR
         exact X.skip (X.w2 rfl (Sx.yl 28 56 true (by kernel_rfl) rfl rfl) rfl) rfl (hR.skip rfl)
        ·intro ac done u W Sx hR
         exact X.skip (X.w2 rfl (Sx.yl 28 56 true (by kernel_rfl) rfl rfl) rfl) rfl (hR.skip rfl)
        ·intro ac done u W Sx hR
         exact X.skip (X.w2 rfl (Sx.yl 28 56 true (by kernel_rfl) rfl rfl) rfl) rfl (hR.skip rfl)
        ·intro ac done u W Sx hR
         exact X.skip (X.w2 rfl (Sx.yl 28 56 true (by kernel_rfl) rfl rfl) rfl) rfl (hR.skip rfl)
        ·intro ac done u W Sx hR
         exact X.val (X.w0 rfl) rfl (X.pickT rfl (Sx.ev 56 (.bool true)) (X.kc (.bool true) rfl)) (hR.step (Gr.refl _) rfl)
        intro ac u w16 hs hd hl ho hR
        have g : Gr w10 w16 := hR.1
        replace F : Fr ac 63 [(0, .agg #[.int .i64 gr, .int .i64 hold, .slice (some pd9) n nc]), (1, .pointer (some ⟨w.heap.size, 0, none⟩)), (4, .pointer (some ⟨w7.heap.size, 0, none⟩)), (20, .bool false), (22, .slice (some pd9) n nc), (23, .int .i64 n), (24, .int .i64 i), (25, .bool true), (61, .bool true)] := X.fr hs hd hl _ (by kernel_rfl)
        clear hs hd hl ho hR
        replace G := G.trans g
        replace hC := hC.gr g
        replace GB_ := GB_.trans g
        replace hnd := hnd.gr g
        clear g
        refine X.thenN ?_
        refine Y.condT (F.ev 61 (.bool true)) ?_
        refine Y.seq ?_
        refine Y.lit (by kernel_rfl) ?_
        refine Y.pval F (X.w0 rfl) rfl (X.assign rfl (X.kc (.int .i64 90) rfl)) ?_
        clear F ac
        intro ac F
        refine Y.nil ?_
        replace F : Fr ac 63 [(0, .agg #[.int .i64 gr, .int .i64 hold, .slice (some pd9) n nc]), (1, .pointer (some ⟨w.heap.size, 0, none⟩)), (2, .int .i64 90), (4, .pointer (some ⟨w7.heap.size, 0, none⟩)), (20, .bool false), (22, .slice (some pd9) n nc), (23, .int .i64 n), (24, .int .i64 i), (25, .bool true), (61, .bool true)] := F.sub _
        refine X.thenN ?_
        refine Y.ret ?_
        refine X.blockR ?_
        refine X.thenR ?_
        refine X.thenR ?_
        refine X.blockR ?_
        refine X.thenR ?_
        exact Y.ret0 (v := .int .i64 90) F (Y.rs1 F rfl (by kernel_rfl)) ⟨by rw [(cluE_node hlen (i := i) (by omega) (by simp [nodeB, h11, h13, h15, h4, h5, h6, h8]))], G⟩
       | true =>
        try rw [h15] at F
        cases h17 : withinB (cv nd i 3) 0 20 with
        | false =>
         try rw [h17] at F
         refine Y.region F [some (.pointer (some ⟨w7.heap.size, 0, none⟩)), some (.int .i64 (cv nd i 0)), some (.pointer (some ⟨w.heap.size, 0, none⟩)), some (.int .i64 gr), some (.int .i64 (shlV 1 (gr : Int))), some (.int .i64 ((shlV 1 (gr : Int) : Int) - 1)), some (.bool true), some (.bool false), some (.bool false), some (.pointer (some ⟨w7.heap.size, 1, none⟩)), some (.int .i64 (cv nd i 1)), some (.bool true), some (.bool false), some (.bool false), some (.bool false), some (.pointer (some ⟨w7.heap.size, 2, none⟩)), some (.int .i64 (cv nd i 2)), some (.pointer (some ⟨w7.heap.size, 1, none⟩)), some (.int .i64 (cv nd i 1)), some (.bool true), some (.bool false), some (.bool false), some (.bool false), some (.pointer (some ⟨w7.heap.size, 3, none⟩)), some (.int .i64 (cv nd i 3)), some (.bool false), some (.bool true), some (.bool true), some (.bool true), none, none, none, none, some (.bool true)] [] rfl ⟨by kernel_rfl, of_decide_eq_true (by kernel_rfl), by kernel_rfl, by kernel_rfl, by kernel_rfl⟩ ⟨?_, ?_, ?_, ?_, ?_, ?_, ?_, ?_, ?_, ?_, ?_, ?_, ?_, ?_, ?_, ?_, ?_, ?_, ?_, ?_, ?_, ?_, ?_, ?_, ?_, ?_, ?_, ?_, ?_, ?_, ?_, ?_, ?_, ?_, trivial⟩ ?_
         ·intro ac done u W Sx hR
          exact X.val (X.w0 rfl) rfl (X.field rfl (Sx.ev 4 (.pointer (some ⟨w7.heap.size, 0, none⟩))) (X.fld Try.underlying31 rfl (Try.siz3 _) rfl rfl)) (hR.step (Gr.refl _) rfl)
         ·intro ac done u W Sx hR
          have g : Gr w10 W := hR.1
          exact X.val (X.w0 rfl) rfl (X.load rfl (Sx.ev 28 (.pointer (some ⟨w7.heap.size, 0, none⟩))) (X.ld1 (Try.agg3 _) ((hC.gr g).at 8 rfl))) (hR.step (Gr.refl _) rfl)
         ·intro ac done u W Sx hR
          exact X.val (X.w0 rfl) rfl (X.field rfl (Sx.ev 1 (.pointer (some ⟨w.heap.size, 0, none⟩))) (X.fld Try.underlying24 rfl (Try.siz3 _) rfl rfl)) (hR.step (Gr.refl _) rfl)
         ·intro ac done u W Sx hR
          have g : Gr w10 W := hR.1
          exact X.val (X.w0 rfl) rfl (X.load rfl (Sx.ev 30 (.pointer (some ⟨w.heap.size, 0, none⟩))) (X.ld1 (Try.agg3 _) ((hC.gr g).at 0 rfl))) (hR.step (Gr.refl _) rfl)
         ·intro ac done u W Sx hR
          exact X.val (X.w0 rfl) rfl (X.binop rfl (X.kc (.int .i64 1) rfl) (Sx.ev 31 (.int .i64 gr)) (X.shlI Try.underlying3 rfl (by omega))) (hR.step (Gr.refl _) rfl)
         ·intro ac done u W Sx hR
          exact X.val (X.w0 rfl) rfl (X.binop rfl (Sx.ev 32 (.int .i64 (shlV 1 (gr : Int)))) (X.kc (.int .i64 1) rfl) (X.subI Try.underlying3 rfl (by omega) (by omega))) (hR.step (Gr.refl _) rfl)
         ·intro ac done u W Sx hR
          refine X.call (X.w0 rfl) (X.enter (F := 54) rfl (X.kc (.func (.func 54) #[] #[]) rfl) (X.a3 (Sx.ev 29 (.int .i64 (cv nd i 0))) (X.kc (.int .i64 0) rfl) (Sx.ev 33 (.int .i64 ((shlV 1 (gr : Int) : Int) - 1)))) (enters_of Try.func54 (by kernel_rfl) rfl _)) (by have hq := within_any (cv nd i 0) 0 ((shlV 1 (gr : Int) : Int) - 1) W; rw [h11] at hq; exact hq) ?_
          rintro e W2 ⟨rfl, rfl⟩
          exact ⟨_, rfl, X.kn rfl, hR.step (Gr.refl _) rfl⟩
         ·intro ac done u W Sx hR
          exact X.val (X.w0 rfl) rfl (X.notB rfl (Sx.ev 34 (.bool true)) rfl) (hR.step (Gr.refl _) rfl)
         ·intro ac done u W Sx hR
          exact X.val (X.w0 rfl) rfl (X.move rfl (Sx.ev 35 (.bool false))) (hR.step (Gr.refl _) rfl)
         ·intro ac done u W Sx hR
          exact X.val (X.w1 rfl (Sx.yl 8 36 false (by kernel_rfl) rfl rfl)) rfl (X.field rfl (Sx.ev 4 (.pointer (some ⟨w7.heap.size, 0, none⟩))) (X.fld Try.underlying31 rfl (Try.siz3 _) rfl rfl)) (hR.step (Gr.refl _) rfl)
         ·intro ac done u W Sx hR
          have g : Gr w10 W := hR.1
          exact X.val (X.w1 rfl (Sx.yl 8 36 false (by kernel_rfl) rfl rfl)) rfl (X.load rfl (Sx.ev 37 (.pointer (some ⟨w7.heap.size, 1, none⟩))) (X.ld1 (Try.agg3 _) ((hC.gr g).at 9 rfl))) (hR.step (Gr.refl _) rfl)
         ·intro ac done u W Sx hR
          refine X.call (X.w1 rfl (Sx.yl 8 36 false (by kernel_rfl) rfl rfl)) (X.enter (F := 54) rfl (X.kc (.func (.func 54) #[] #[]) rfl) (X.a3 (Sx.ev 38 (.int .i64 (cv nd i 1))) (X.kc (.int .i64 0) rfl) (X.kc (.int .i64 10000) rfl)) (enters_of Try.func54 (by kernel_rfl) rfl _)) (by have hq := within_any (cv nd i 1) 0 10000 W; rw [h13] at hq; exact hq) ?_
          rintro e W2 ⟨rfl, rfl⟩
          exact ⟨_, rfl, X.kn rfl, hR.step (Gr.refl _) rfl⟩
         ·intro ac done u W Sx hR
          exact X.val (X.w1 rfl (Sx.yl 8 36 false (by kernel_rfl) rfl rfl)) rfl (X.notB rfl (Sx.ev 39 (.bool true)) rfl) (hR.step (Gr.refl _) rfl)
         ·intro ac done u W Sx hR
          exact X.val (X.w0 rfl) rfl (X.pickF rfl (Sx.ev 36 (.bool false)) (Sx.ev 40 (.bool false))) (hR.step (Gr.refl _) rfl)
         ·intro ac done u W Sx hR
          exact X.val (X.w0 rfl) rfl (X.move rfl (Sx.ev 41 (.bool false))) (hR.step (Gr.refl _) rfl)
         ·intro ac done u W Sx hR
          exact X.val (X.w1 rfl (Sx.yl 14 42 false (by kernel_rfl) rfl rfl)) rfl (X.field rfl (Sx.ev 4 (.pointer (some ⟨w7.heap.size, 0, none⟩))) (X.fld Try.underlying31 rfl (Try.siz3 _) rfl rfl)) (hR.step (Gr.refl _) rfl)
         ·intro ac done u W Sx hR
          have g : Gr w10 W := hR.1
          exact X.val (X.w1 rfl (Sx.yl 14 42 false (by kernel_rfl) rfl rfl)) rfl (X.load rfl (Sx.ev 43 (.pointer (some ⟨w7.heap.size, 2, none⟩))) (X.ld1 (Try.agg3 _) ((hC.gr g).at 10 rfl))) (hR.step (Gr.refl _) rfl)
         ·intro ac done u W Sx hR
          exact X.val (X.w1 rfl (Sx.yl 14 42 false (by kernel_rfl) rfl rfl)) rfl (X.field rfl (Sx.ev 4 (.pointer (some ⟨w7.heap.size, 0, none⟩))) (X.fld Try.underlying31 rfl (Try.siz3 _) rfl rfl)) (hR.step (Gr.refl _) rfl)
         ·intro ac done u W Sx hR
          have g : Gr w10 W := hR.1
          exact X.val (X.w1 rfl (Sx.yl 14 42 false (by kernel_rfl) rfl rfl)) rfl (X.load rfl (Sx.ev 45 (.pointer (some ⟨w7.heap.size, 1, none⟩))) (X.ld1 (Try.agg3 _) ((hC.gr g).at 9 rfl))) (hR.step (Gr.refl _) rfl)
         ·intro ac done u W Sx hR
          refine X.call (X.w1 rfl (Sx.yl 14 42 false (by kernel_rfl) rfl rfl)) (X.enter (F := 54) rfl (X.kc (.func (.func 54) #[] #[]) rfl) (X.a3 (Sx.ev 44 (.int .i64 (cv nd i 2))) (X.kc (.int .i64 0) rfl) (Sx.ev 46 (.int .i64 (cv nd i 1)))) (enters_of Try.func54 (by kernel_rfl) rfl _)) (by have hq := within_any (cv nd i 2) 0 (cv nd i 1) W; rw [h15] at hq; exact hq) ?_
          rintro e W2 ⟨rfl, rfl⟩
          exact ⟨_, rfl, X.kn rfl, hR.step (Gr.refl _) rfl⟩
         ·intro ac done u W Sx hR
          exact X.val (X.w1 rfl (Sx.yl 14 42 false (by kernel_rfl) rfl rfl)) rfl (X.notB rfl (Sx.ev 47 (.bool true)) rfl) (hR.step (Gr.refl _) rfl)
         ·intro ac done u W Sx hR
          exact X.val (X.w0 rfl) rfl (X.pickF rfl (Sx.ev 42 (.bool false)) (Sx.ev 48 (.bool false))) (hR.step (Gr.refl _) rfl)
         ·intro ac done u W Sx hR
          exact X.val (X.w0 rfl) rfl (X.move rfl (Sx.ev 49 (.bool false))) (hR.step (Gr.refl _) rfl)
         ·intro ac done u W Sx hR
          exact X.val (X.w1 rfl (Sx.yl 22 50 false (by kernel_rfl) rfl rfl)) rfl (X.field rfl (Sx.ev 4 (.pointer (some ⟨w7.heap.size, 0, none⟩))) (X.fld Try.underlying31 rfl (Try.siz3 _) rfl rfl)) (hR.step (Gr.refl _) rfl)
         ·intro ac done u W Sx hR
          have g : Gr w10 W := hR.1
          exact X.val (X.w1 rfl (Sx.yl 22 50 false (by kernel_rfl) rfl rfl)) rfl (X.load rfl (Sx.ev 51 (.pointer (some ⟨w7.heap.size, 3, none⟩))) (X.ld1 (Try.agg3 _) ((hC.gr g).at 11 rfl))) (hR.step (Gr.refl _) rfl)
         ·intro ac done u W Sx hR
          refine X.call (X.w1 rfl (Sx.yl 22 50 false (by kernel_rfl) rfl rfl)) (X.enter (F := 54) rfl (X.kc (.func (.func 54) #[] #[]) rfl) (X.a3 (Sx.ev 52 (.int .i64 (cv nd i 3))) (X.kc (.int .i64 0) rfl) (X.kc (.int .i64 20) rfl)) (enters_of Try.func54 (by kernel_rfl) rfl _)) (by have hq := within_any (cv nd i 3) 0 20 W; rw [h17] at hq; exact hq) ?_
          rintro e W2 ⟨rfl, rfl⟩
          exact ⟨_, rfl, X.kn rfl, hR.step (Gr.refl _) rfl⟩
         ·intro ac done u W Sx hR
          exact X.val (X.w1 rfl (Sx.yl 22 50 false (by kernel_rfl) rfl rfl)) rfl (X.notB rfl (Sx.ev 53 (.bool false)) rfl) (hR.step (Gr.refl _) rfl)
         ·intro ac done u W Sx hR
          exact X.val (X.w0 rfl) rfl (X.pickF rfl (Sx.ev 50 (.bool false)) (Sx.ev 54 (.bool true))) (hR.step (Gr.refl _) rfl)
         ·intro ac done u W Sx hR
          exact X.val (X.w0 rfl) rfl (X.move rfl (Sx.ev 55 (.bool true))) (hR.step (Gr.refl _) rfl)
         ·intro ac done u W Sx hR
          exact X.skip (X.w2 rfl (Sx.yl 28 56 true (by kernel_rfl) rfl rfl) rfl) rfl (hR.skip rfl)
         ·intro ac done u W Sx hR
          exact X.skip (X.w2 rfl (Sx.yl 28 56 true (by kernel_rfl) rfl rfl) rfl) rfl (hR.skip rfl)
         ·intro ac done u W Sx hR
          exact X.skip (X.w2 rfl (Sx.yl 28 56 true (by kernel_rfl) rfl rfl) rfl) rfl (hR.skip rfl)
         ·intro ac done u W Sx hR
          exact X.skip (X.w2 rfl (Sx.yl 28 56 true (by kernel_rfl) rfl rfl) rfl) rfl (hR.skip rfl)
         ·intro ac done u W Sx hR
          exact X.val (X.w0 rfl) rfl (X.pickT rfl (Sx.ev 56 (.bool true)) (X.kc (.bool true) rfl)) (hR.step (Gr.refl _) rfl)
         intro ac u w18 hs hd hl ho hR
         have g : Gr w10 w18 := hR.1
         replace F : Fr ac 63 [(0, .agg #[.int .i64 gr, .int .i64 hold, .slice (some pd9) n nc]), (1, .pointer (some ⟨w.heap.size, 0, none⟩)), (4, .pointer (some ⟨w7.heap.size, 0, none⟩)), (20, .bool false), (22, .slice (some pd9) n nc), (23, .int .i64 n), (24, .int .i64 i), (25, .bool true), (61, .bool true)] := X.fr hs hd hl _ (by kernel_rfl)
         clear hs hd hl ho hR
         replace G := G.trans g
         replace hC := hC.gr g
         replace GB_ := GB_.trans g
         replace hnd := hnd.gr g
         clear g
         refine X.thenN ?_
         refine Y.condT (F.ev 61 (.bool true)) ?_
         refine Y.seq ?_
         refine Y.lit (by kernel_rfl) ?_
         refine Y.pval F (X.w0 rfl) rfl (X.assign rfl (X.kc (.int .i64 90) rfl)) ?_
         clear F ac
         intro ac F
         refine Y.nil ?_
         replace F : Fr ac 63 [(0, .agg #[.int .i64 gr, .int .i64 hold, .slice (some pd9) n nc]), (1, .pointer (some ⟨w.heap.size, 0, none⟩)), (2, .int .i64 90), (4, .pointer (some ⟨w7.heap.size, 0, none⟩)), (20, .bool false), (22, .slice (some pd9) n nc), (23, .int .i64 n), (24, .int .i64 i), (25, .bool true), (61, .bool true)] := F.sub _
         refine X.thenN ?_
         refine Y.ret ?_
         refine X.blockR ?_
         refine X.thenR ?_
         refine X.thenR ?_
         refine X.blockR ?_
         refine X.thenR ?_
         exact Y.ret0 (v := .int .i64 90) F (Y.rs1 F rfl (by kernel_rfl)) ⟨by rw [(cluE_node hlen (i := i) (by omega) (by simp [nodeB, h11, h13, h15, h17, h4, h5, h6, h8]))], G⟩
        | true =>
         try rw [h17] at F
         refine Y.region F [some (.pointer (some ⟨w7.heap.size, 0, none⟩)), some (.int .i64 (cv nd i 0)), some (.pointer (some ⟨w.heap.size, 0, none⟩)), some (.int .i64 gr), some (.int .i64 (shlV 1 (gr : Int))), some (.int .i64 ((shlV 1 (gr : Int) : Int) - 1)), some (.bool true), some (.bool false), some (.bool false), some (.pointer (some ⟨w7.heap.size, 1, none⟩)), some (.int .i64 (cv nd i 1)), some (.bool true), some (.bool false), some (.bool false), some (.bool false), some (.pointer (some ⟨w7.heap.size, 2, none⟩)), some (.int .i64 (cv nd i 2)), some (.pointer (some ⟨w7.heap.size, 1, none⟩)), some (.int .i64 (cv nd i 1)), some (.bool true), some (.bool false), some (.bool false), some (.bool false), some (.pointer (some ⟨w7.heap.size, 3, none⟩)), some (.int .i64 (cv nd i 3)), some (.bool true), some (.bool false), some (.bool false), some (.bool false), some (.pointer (some ⟨w7.heap.size, 4, none⟩)), some (.int .i64 (cv nd i 4)), some (.bool (withinB (cv nd i 4) 1 1000)), some (.bool (!(withinB (cv nd i 4) 1 1000))), some (.bool (!(withinB (cv nd i 4) 1 1000)))] [] rfl ⟨by kernel_rfl, of_decide_eq_true (by kernel_rfl), by kernel_rfl, by kernel_rfl, by kernel_rfl⟩ ⟨?_, ?_, ?_, ?_, ?_, ?_, ?_, ?_, ?_, ?_, ?_, ?_, ?_, ?_, ?_, ?_, ?_, ?_, ?_, ?_, ?_, ?_, ?_, ?_, ?_, ?_, ?_, ?_, ?_, ?_, ?_, ?_, ?_, ?_, trivial⟩ ?_
         ·intro ac done u W Sx hR
          exact X.val (X.w0 rfl) rfl (X.field rfl (Sx.ev 4 (.pointer (some ⟨w7.heap.size, 0, none⟩))) (X.fld Try.underlying31 rfl (Try.siz3 _) rfl rfl)) (hR.step (Gr.refl _) rfl)
         ·intro ac done u W Sx hR
          have g : Gr w10 W := hR.1
          exact X.val (X.w0 rfl) rfl (X.load rfl (Sx.ev 28 (.pointer (some ⟨w7.heap.size, 0, none⟩))) (X.ld1 (Try.agg3 _) ((hC.gr g).at 8 rfl))) (hR.step (Gr.refl _) rfl)
         ·intro ac done u W Sx hR
          exact X.val (X.w0 rfl) rfl (X.field rfl (Sx.ev 1 (.pointer (some ⟨w.heap.size, 0, none⟩))) (X.fld Try.underlying24 rfl (Try.siz3 _) rfl rfl)) (hR.step (Gr.refl _) rfl)
         ·intro ac done u W Sx hR
          have g : Gr w10 W := hR.1
          exact X.val (X.w0 rfl) rfl (X.load rfl (Sx.ev 30 (.pointer (some ⟨w.heap.size, 0, none⟩))) (X.ld1 (Try.agg3 _) ((hC.gr g).at 0 rfl))) (hR.step (Gr.refl _) rfl)
         ·intro ac done u W Sx hR
          exact X.val (X.w0 rfl) rfl (X.binop rfl (X.kc (.int .i64 1) rfl) (Sx.ev 31 (.int .i64 gr)) (X.shlI Try.underlying3 rfl (by omega))) (hR.step (Gr.refl _) rfl)
         ·intro ac done u W Sx hR
          exact X.val (X.w0 rfl) rfl (X.binop rfl (Sx.ev 32 (.int .i64 (shlV 1 (gr : Int)))) (X.kc (.int .i64 1) rfl) (X.subI Try.underlying3 rfl (by omega) (by omega))) (hR.step (Gr.refl _) rfl)
         ·intro ac done u W Sx hR
          refine X.call (X.w0 rfl) (X.enter (F := 54) rfl (X.kc (.func (.func 54) #[] #[]) rfl) (X.a3 (Sx.ev 29 (.int .i64 (cv nd i 0))) (X.kc (.int .i64 0) rfl) (Sx.ev 33 (.int .i64 ((shlV 1 (gr : Int) : Int) - 1)))) (enters_of Try.func54 (by kernel_rfl) rfl _)) (by have hq := within_any (cv nd i 0) 0 ((shlV 1 (gr : Int) : Int) - 1) W; rw [h11] at hq; exact hq) ?_
          rintro e W2 ⟨rfl, rfl⟩
          exact ⟨_, rfl, X.kn rfl, hR.step (Gr.refl _) rfl⟩
         ·intro ac done u W Sx hR
          exact X.val (X.w0 rfl) rfl (X.notB rfl (Sx.ev 34 (.bool true)) rfl) (hR.step (Gr.refl _) rfl)
         ·intro ac done u W Sx hR
          exact X.val (X.w0 rfl) rfl (X.move rfl (Sx.ev 35 (.bool false))) (hR.step (Gr.refl _) rfl)
         ·intro ac done u W Sx hR
          exact X.val (X.w1 rfl (Sx.yl 8 36 false (by kernel_rfl) rfl rfl)) rfl (X.field rfl (Sx.ev 4 (.pointer (some ⟨w7.heap.size, 0, none⟩))) (X.fld Try.underlying31 rfl (Try.siz3 _) rfl rfl)) (hR.step (Gr.refl _) rfl)
         ·intro ac done u W Sx hR
          have g : Gr w10 W := hR.1
          exact X.val (X.w1 rfl (Sx.yl 8 36 false (by kernel_rfl) rfl rfl)) rfl (X.load rfl (Sx.ev 37 (.pointer (some ⟨w7.heap.size, 1, none⟩))) (X.ld1 (Try.agg3 _) ((hC.gr g).at 9 rfl))) (hR.step (Gr.refl _) rfl)
         ·intro ac done u W Sx hR
          refine X.call (X.w1 rfl (Sx.yl 8 36 false (by kernel_rfl) rfl rfl)) (X.enter (F := 54) rfl (X.kc (.func (.func 54) #[] #[]) rfl) (X.a3 (Sx.ev 38 (.int .i64 (cv nd i 1))) (X.kc (.int .i64 0) rfl) (X.kc (.int .i64 10000) rfl)) (enters_of Try.func54 (by kernel_rfl) rfl _)) (by have hq := within_any (cv nd i 1) 0 10000 W; rw [h13] at hq; exact hq) ?_
          rintro e W2 ⟨rfl, rfl⟩
          exact ⟨_, rfl, X.kn rfl, hR.step (Gr.refl _) rfl⟩
         ·intro ac done u W Sx hR
          exact X.val (X.w1 rfl (Sx.yl 8 36 false (by kernel_rfl) rfl rfl)) rfl (X.notB rfl (Sx.ev 39 (.bool true)) rfl) (hR.step (Gr.refl _) rfl)
         ·intro ac done u W Sx hR
          exact X.val (X.w0 rfl) rfl (X.pickF rfl (Sx.ev 36 (.bool false)) (Sx.ev 40 (.bool false))) (hR.step (Gr.refl _) rfl)
         ·intro ac done u W Sx hR
          exact X.val (X.w0 rfl) rfl (X.move rfl (Sx.ev 41 (.bool false))) (hR.step (Gr.refl _) rfl)
         ·intro ac done u W Sx hR
          exact X.val (X.w1 rfl (Sx.yl 14 42 false (by kernel_rfl) rfl rfl)) rfl (X.field rfl (Sx.ev 4 (.pointer (some ⟨w7.heap.size, 0, none⟩))) (X.fld Try.underlying31 rfl (Try.siz3 _) rfl rfl)) (hR.step (Gr.refl _) rfl)
         ·intro ac done u W Sx hR
          have g : Gr w10 W := hR.1
          exact X.val (X.w1 rfl (Sx.yl 14 42 false (by kernel_rfl) rfl rfl)) rfl (X.load rfl (Sx.ev 43 (.pointer (some ⟨w7.heap.size, 2, none⟩))) (X.ld1 (Try.agg3 _) ((hC.gr g).at 10 rfl))) (hR.step (Gr.refl _) rfl)
         ·intro ac done u W Sx hR
          exact X.val (X.w1 rfl (Sx.yl 14 42 false (by kernel_rfl) rfl rfl)) rfl (X.field rfl (Sx.ev 4 (.pointer (some ⟨w7.heap.size, 0, none⟩))) (X.fld Try.underlying31 rfl (Try.siz3 _) rfl rfl)) (hR.step (Gr.refl _) rfl)
         ·intro ac done u W Sx hR
          have g : Gr w10 W := hR.1
          exact X.val (X.w1 rfl (Sx.yl 14 42 false (by kernel_rfl) rfl rfl)) rfl (X.load rfl (Sx.ev 45 (.pointer (some ⟨w7.heap.size, 1, none⟩))) (X.ld1 (Try.agg3 _) ((hC.gr g).at 9 rfl))) (hR.step (Gr.refl _) rfl)
         ·intro ac done u W Sx hR
          refine X.call (X.w1 rfl (Sx.yl 14 42 false (by kernel_rfl) rfl rfl)) (X.enter (F := 54) rfl (X.kc (.func (.func 54) #[] #[]) rfl) (X.a3 (Sx.ev 44 (.int .i64 (cv nd i 2))) (X.kc (.int .i64 0) rfl) (Sx.ev 46 (.int .i64 (cv nd i 1)))) (enters_of Try.func54 (by kernel_rfl) rfl _)) (by have hq := within_any (cv nd i 2) 0 (cv nd i 1) W; rw [h15] at hq; exact hq) ?_
          rintro e W2 ⟨rfl, rfl⟩
          exact ⟨_, rfl, X.kn rfl, hR.step (Gr.refl _) rfl⟩
         ·intro ac done u W Sx hR
          exact X.val (X.w1 rfl (Sx.yl 14 42 false (by kernel_rfl) rfl rfl)) rfl (X.notB rfl (Sx.ev 47 (.bool true)) rfl) (hR.step (Gr.refl _) rfl)
         ·intro ac done u W Sx hR
          exact X.val (X.w0 rfl) rfl (X.pickF rfl (Sx.ev 42 (.bool false)) (Sx.ev 48 (.bool false))) (hR.step (Gr.refl _) rfl)
         ·intro ac done u W Sx hR
          exact X.val (X.w0 rfl) rfl (X.move rfl (Sx.ev 49 (.bool false))) (hR.step (Gr.refl _) rfl)
         ·intro ac done u W Sx hR
          exact X.val (X.w1 rfl (Sx.yl 22 50 false (by kernel_rfl) rfl rfl)) rfl (X.field rfl (Sx.ev 4 (.pointer (some ⟨w7.heap.size, 0, none⟩))) (X.fld Try.underlying31 rfl (Try.siz3 _) rfl rfl)) (hR.step (Gr.refl _) rfl)
         ·intro ac done u W Sx hR
          have g : Gr w10 W := hR.1
          exact X.val (X.w1 rfl (Sx.yl 22 50 false (by kernel_rfl) rfl rfl)) rfl (X.load rfl (Sx.ev 51 (.pointer (some ⟨w7.heap.size, 3, none⟩))) (X.ld1 (Try.agg3 _) ((hC.gr g).at 11 rfl))) (hR.step (Gr.refl _) rfl)
         ·intro ac done u W Sx hR
          refine X.call (X.w1 rfl (Sx.yl 22 50 false (by kernel_rfl) rfl rfl)) (X.enter (F := 54) rfl (X.kc (.func (.func 54) #[] #[]) rfl) (X.a3 (Sx.ev 52 (.int .i64 (cv nd i 3))) (X.kc (.int .i64 0) rfl) (X.kc (.int .i64 20) rfl)) (enters_of Try.func54 (by kernel_rfl) rfl _)) (by have hq := within_any (cv nd i 3) 0 20 W; rw [h17] at hq; exact hq) ?_
          rintro e W2 ⟨rfl, rfl⟩
          exact ⟨_, rfl, X.kn rfl, hR.step (Gr.refl _) rfl⟩
         ·intro ac done u W Sx hR
          exact X.val (X.w1 rfl (Sx.yl 22 50 false (by kernel_rfl) rfl rfl)) rfl (X.notB rfl (Sx.ev 53 (.bool true)) rfl) (hR.step (Gr.refl _) rfl)
         ·intro ac done u W Sx hR
          exact X.val (X.w0 rfl) rfl (X.pickF rfl (Sx.ev 50 (.bool false)) (Sx.ev 54 (.bool false))) (hR.step (Gr.refl _) rfl)
         ·intro ac done u W Sx hR
          exact X.val (X.w0 rfl) rfl (X.move rfl (Sx.ev 55 (.bool false))) (hR.step (Gr.refl _) rfl)
         ·intro ac done u W Sx hR
          exact X.val (X.w1 rfl (Sx.yl 28 56 false (by kernel_rfl) rfl rfl)) rfl (X.field rfl (Sx.ev 4 (.pointer (some ⟨w7.heap.size, 0, none⟩))) (X.fld Try.underlying31 rfl (Try.siz3 _) rfl rfl)) (hR.step (Gr.refl _) rfl)
         ·intro ac done u W Sx hR
          have g : Gr w10 W := hR.1
          exact X.val (X.w1 rfl (Sx.yl 28 56 false (by kernel_rfl) rfl rfl)) rfl (X.load rfl (Sx.ev 57 (.pointer (some ⟨w7.heap.size, 4, none⟩))) (X.ld1 (Try.agg3 _) ((hC.gr g).at 12 rfl))) (hR.step (Gr.refl _) rfl)
         ·intro ac done u W Sx hR
          refine X.call (X.w1 rfl (Sx.yl 28 56 false (by kernel_rfl) rfl rfl)) (X.enter (F := 54) rfl (X.kc (.func (.func 54) #[] #[]) rfl) (X.a3 (Sx.ev 58 (.int .i64 (cv nd i 4))) (X.kc (.int .i64 1) rfl) (X.kc (.int .i64 1000) rfl)) (enters_of Try.func54 (by kernel_rfl) rfl _)) (within_any (cv nd i 4) 1 1000 W) ?_
          rintro e W2 ⟨rfl, rfl⟩
          exact ⟨_, rfl, X.kn rfl, hR.step (Gr.refl _) rfl⟩
         ·intro ac done u W Sx hR
          exact X.val (X.w1 rfl (Sx.yl 28 56 false (by kernel_rfl) rfl rfl)) rfl (X.notB rfl (Sx.ev 59 (.bool (withinB (cv nd i 4) 1 1000))) rfl) (hR.step (Gr.refl _) rfl)
         ·intro ac done u W Sx hR
          exact X.val (X.w0 rfl) rfl (X.pickF rfl (Sx.ev 56 (.bool false)) (Sx.ev 60 (.bool (!(withinB (cv nd i 4) 1 1000))))) (hR.step (Gr.refl _) rfl)
         intro ac u w19 hs hd hl ho hR
         have g : Gr w10 w19 := hR.1
         replace F : Fr ac 63 [(0, .agg #[.int .i64 gr, .int .i64 hold, .slice (some pd9) n nc]), (1, .pointer (some ⟨w.heap.size, 0, none⟩)), (4, .pointer (some ⟨w7.heap.size, 0, none⟩)), (20, .bool false), (22, .slice (some pd9) n nc), (23, .int .i64 n), (24, .int .i64 i), (25, .bool true), (61, .bool (!(withinB (cv nd i 4) 1 1000)))] := X.fr hs hd hl _ (by kernel_rfl)
         clear hs hd hl ho hR
         replace G := G.trans g
         replace hC := hC.gr g
         replace GB_ := GB_.trans g
         replace hnd := hnd.gr g
         clear g
         refine X.thenN ?_
         cases h20 : withinB (cv nd i 4) 1 1000 with
         | false =>
          try rw [h20] at F
          refine Y.condT (F.ev 61 (.bool true)) ?_
          refine Y.seq ?_
          refine Y.lit (by kernel_rfl) ?_
          refine Y.pval F (X.w0 rfl) rfl (X.assign rfl (X.kc (.int .i64 90) rfl)) ?_
          clear F ac
          intro ac F
          refine Y.nil ?_
          replace F : Fr ac 63 [(0, .agg #[.int .i64 gr, .int .i64 hold, .slice (some pd9) n nc]), (1, .pointer (some ⟨w.heap.size, 0, none⟩)), (2, .int .i64 90), (4, .pointer (some ⟨w7.heap.size, 0, none⟩)), (20, .bool false), (22, .slice (some pd9) n nc), (23, .int .i64 n), (24, .int .i64 i), (25, .bool true), (61, .bool true)] := F.sub _
          refine X.thenN ?_
          refine Y.ret ?_
          refine X.blockR ?_
          refine X.thenR ?_
          refine X.thenR ?_
          refine X.blockR ?_
          refine X.thenR ?_
          exact Y.ret0 (v := .int .i64 90) F (Y.rs1 F rfl (by kernel_rfl)) ⟨by rw [(cluE_node hlen (i := i) (by omega) (by simp [nodeB, h11, h13, h15, h17, h20, h4, h5, h6, h8]))], G⟩
         | true =>
          try rw [h20] at F
          refine Y.condF (F.ev 61 (.bool false)) ?_
          refine Y.skip ?_
          refine X.blockN ?_
          refine X.thenN ?_
          refine Y.lit (by kernel_rfl) ?_
          refine Y.pval F (X.w0 rfl) rfl (X.binop rfl (F.ev 24 (.int .i64 i)) (X.kc (.int .i64 1) rfl) (X.addI Try.underlying3 rfl (by omega) (by omega))) ?_
          clear F ac
          intro ac F
          refine Y.pval F (X.w0 rfl) rfl (X.move rfl (F.ev 62 (.int .i64 ((i : Int) + 1)))) ?_
          clear F ac
          intro ac F
          refine Y.nil ?_
          replace F : Fr ac 63 [(0, .agg #[.int .i64 gr, .int .i64 hold, .slice (some pd9) n nc]), (1, .pointer (some ⟨w.heap.size, 0, none⟩)), (4, .pointer (some ⟨w7.heap.size, 0, none⟩)), (20, .bool false), (22, .slice (some pd9) n nc), (23, .int .i64 n), (24, .int .i64 ((i : Int) + 1)), (25, .bool true), (61, .bool false)] := F.sub _
          refine X.thenN ?_
          refine ⟨_, ?_, i + 1, rfl, GB_, by omega, by simp [allN, hok, nodeB, h11, h13, h15, h17, h20], F.sub _⟩
          omega
   | true =>
    try rw [h6] at F
    have h6p : ((16 : Int) < n) := of_decide_eq_true h6
    refine Y.condT (F.ev 20 (.bool true)) ?_
    refine Y.seq ?_
    refine Y.lit (by kernel_rfl) ?_
    refine Y.pval F (X.w0 rfl) rfl (X.assign rfl (X.kc (.int .i64 90) rfl)) ?_
    clear F ac
    intro ac F
    refine Y.nil ?_
    replace F : Fr ac 63 [(0, .agg #[.int .i64 gr, .int .i64 hold, .slice na n nc]), (1, .pointer (some ⟨w.heap.size, 0, none⟩)), (2, .int .i64 90), (20, .bool true)] := F.sub _
    refine X.thenN ?_
    refine Y.ret ?_
    refine X.thenR ?_
    exact Y.ret0 (v := .int .i64 90) F (Y.rs1 F rfl (by kernel_rfl)) ⟨by rw [(cluE_bad hlen (by simp [cluB, h4, h5, h6] <;> omega))], G⟩
end
end Go.Proofs.Ytoalamakhjbedaa
