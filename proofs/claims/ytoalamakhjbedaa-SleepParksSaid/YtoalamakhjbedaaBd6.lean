/- Contract: newParked. -/
import Derived.Test.YtoalamakhjbedaaBd5
namespace Go.Proofs.Ytoalamakhjbedaa
open Go.RowKit

/-- a new map -/
def MP.mkm (B : Nat) : Y.MP := ⟨fun v W => ∃ m, v = .map (some m) ∧ W.heap[m]? = some (.map #[] 0) ∧ B ≤ m, fun _ _ _ ⟨m, h1, h2, h3⟩ g => ⟨m, h1, (g.below.block _ (Array.getElem?_eq_some_iff.1 h2).1).trans h2, h3⟩⟩
def MP.mka (B : Nat) (a b c d e f g : Int) : Y.MP := ⟨fun v W => ∃ m, v = .agg #[.int .i64 a, .int .i64 b, .int .i64 c, .int .i64 d, .int .i64 e, .int .i64 f, .int .i64 g, .map (some m)] ∧ W.heap[m]? = some (.map #[] 0) ∧ B ≤ m, fun _ _ _ ⟨m, h1, h2, h3⟩ g => ⟨m, h1, (g.below.block _ (Array.getElem?_eq_some_iff.1 h2).1).trans h2, h3⟩⟩
def MP.mkb (B : Nat) (a b c d e f g : Int) : Y.MP := ⟨fun v W => ∃ q m, v = .pointer (some ⟨q, 0, none⟩) ∧ Pq W q a b c d e f g m ∧ W.heap[m]? = some (.map #[] 0) ∧ B ≤ q ∧ B ≤ m ∧ ¬ q = m, fun _ _ _ ⟨q, m, h1, h2, h3, h4⟩ g => ⟨q, m, h1, h2.gr g, (g.below.block _ (Array.getElem?_eq_some_iff.1 h3).1).trans h3, h4⟩⟩
theorem pq_new {a b c d e f g : Int} {m : Nat} (W : World) : Pq (W.alloc (.cells #[.int .i64 a, .int .i64 b, .int .i64 c, .int .i64 d, .int .i64 e, .int .i64 f, .int .i64 g, .map (some m)] 110)) W.heap.size a b c d e f g m :=
  (RCells.nil W).box (b := W.heap.size) #[.int .i64 a, .int .i64 b, .int .i64 c, .int .i64 d, .int .i64 e, .int .i64 f, .int .i64 g, .map (some m)] 110 rfl
/-- a node's numbers -/
def ndV (nd : List (List Int)) (hold : Int) (i : Nat) (T : Int) : Nd := ⟨cv nd i 1, cv nd i 2, cv nd i 3, cv nd i 4, hold, T⟩
theorem ndOk_of {gr hold : Int} {nd : List (List Int)} (h : CluOk gr hold nd) {i : Nat} {T : Int} (hi : i < nd.length) (h0 : 0 ≤ T) (h1 : T ≤ 1001) : NdOk (ndV nd hold i T) := by
  have a := h.awk i hi
  have b := h.asl i hi
  have c := h.bud i hi
  have d := h.ref i hi
  have e := h.h1
  have f := h.h100
  exact ⟨b.1, b.2, a.2, c.1, c.2, d.1, d.2, e, by show hold ≤ 103; omega, h0, h1⟩
def sumN (nd : List (List Int)) (hold T : Int) : Nat → Int
  | 0 => 0
  | i + 1 => sumN nd hold T i + (bestV (ndV nd hold i T) 0 (cv nd i 3)).1
def sumP (nd : List (List Int)) (hold T : Int) : Int := sumN nd hold T nd.length
theorem sumN_bd {gr hold : Int} {nd : List (List Int)} (h : CluOk gr hold nd) {T : Int} (h0 : 0 ≤ T) (h1 : T ≤ 1001) : ∀ i, i ≤ nd.length → 0 ≤ sumN nd hold T i ∧ sumN nd hold T i ≤ i * 11000000
  | 0, _ => by simp [sumN]
  | i + 1, hi => by
    have ih := sumN_bd h h0 h1 i (by omega)
    have c := h.bud i (by omega)
    have := bestV_bd (ndOk_of h (i := i) (by omega) h0 h1) (t := 0) (x := cv nd i 3) (by omega) c.1 (Int.le_refl _)
    simp only [sumN]
    omega
def nodeE (gr hold : Int) (nd : List (List Int)) (i T : Int) : Int := if ticksE gr hold nd T ≠ 0 then ticksE gr hold nd T else if withinB i 0 ((nd.length : Int) - 1) then 0 else 1
def parkV (gr hold : Int) (nd : List (List Int)) (T : Int) : Int := if ticksE gr hold nd T = 0 then sumP nd hold T else 0

set_option maxRecDepth 100000 in
set_option maxHeartbeats 400000 in
theorem newp_any (na : Option Addr) (n nc : Nat) (hold : Int) (i : Nat) (T gr : Int) (nd : List (List Int)) (w : World) (hnd : StAt w 5 na n nd) (hi : i < n) :
  Calls Try.prog 47 #[.agg #[.int .i64 gr, .int .i64 hold, .slice na n nc], .int .i64 i, .int .i64 T] w fun e w' => ∃ q m, e = .returned (.pointer (some ⟨q, 0, none⟩)) ∧ Pq w' q (cv nd i 0) (ndV nd hold i T).aw (ndV nd hold i T).za (ndV nd hold i T).bu (ndV nd hold i T).re (ndV nd hold i T).hold (ndV nd hold i T).T m ∧ Memo w' m (gdV (ndV nd hold i T)) ∧ w.heap.size ≤ q ∧ w.heap.size ≤ m ∧ ¬ q = m ∧ Gr w w' := by
 have G := Gr.refl w
 refine Y.calls 18 Try.func47 rfl rfl ?_
 intro ac F0
 have F : Fr ac 18 [(0, .agg #[.int .i64 gr, .int .i64 hold, .slice na n nc]), (1, .int .i64 i), (2, .int .i64 T)] := F0.sub _
 clear F0
 refine Y.seq ?_
 refine Y.lit (by kernel_rfl) ?_
 refine Y.pval F (X.w0 rfl) rfl (X.box rfl (F.ev 0 (.agg #[.int .i64 gr, .int .i64 hold, .slice na n nc])) X.bx) ?_
 clear F ac
 intro ac F
 have g := Gr.alloc w (.cells #[.int .i64 gr, .int .i64 hold, .slice na n nc] 24)
 have hb := heap_alloc_new w (.cells #[.int .i64 gr, .int .i64 hold, .slice na n nc] 24)
 have hbl : w.heap.size < (w.alloc (.cells #[.int .i64 gr, .int .i64 hold, .slice na n nc] 24)).heap.size := by simp
 have hC2 : RCells (w.alloc (.cells #[.int .i64 gr, .int .i64 hold, .slice na n nc] 24)) [(⟨w.heap.size, 0, none⟩, .int .i64 gr), (⟨w.heap.size, 1, none⟩, .int .i64 hold), (⟨w.heap.size, 2, none⟩, .slice na n nc)] := (RCells.nil w).box (b := w.heap.size) #[.int .i64 gr, .int .i64 hold, .slice na n nc] 24 rfl
 generalize w.alloc (.cells #[.int .i64 gr, .int .i64 hold, .slice na n nc] 24) = w3 at *
 replace G := G.trans g
 have hC := hC2
 clear hC2
 replace hnd := hnd.gr g
 clear g hb hbl
 refine Y.pval F (X.w0 rfl) rfl (X.assign rfl (X.kc (.pointer none) rfl)) ?_
 clear F ac
 intro ac F
 refine Y.nil ?_
 replace F : Fr ac 18 [(0, .agg #[.int .i64 gr, .int .i64 hold, .slice na n nc]), (1, .int .i64 i), (2, .int .i64 T), (3, .pointer (some ⟨w.heap.size, 0, none⟩)), (6, .pointer none)] := F.sub _
 refine X.thenN ?_
 refine Y.seq ?_
 obtain ⟨pd4, pe4, -, -, pc4⟩ := hnd.at (j := i) (by omega)
 subst pe4
 replace hC : RCells w3 [(⟨w.heap.size, 0, none⟩, .int .i64 gr), (⟨w.heap.size, 1, none⟩, .int .i64 hold), (⟨w.heap.size, 2, none⟩, .slice (some pd4) n nc), (pd4.add (i * 5), .int .i64 (cv nd i 0)), (⟨(pd4.add (i * 5)).block, (pd4.add (i * 5)).off + 1, none⟩, .int .i64 (cv nd i 1)), (⟨(pd4.add (i * 5)).block, (pd4.add (i * 5)).off + 2, none⟩, .int .i64 (cv nd i 2)), (⟨(pd4.add (i * 5)).block, (pd4.add (i * 5)).off + 3, none⟩, .int .i64 (cv nd i 3)), (⟨(pd4.add (i * 5)).block, (pd4.add (i * 5)).off + 4, none⟩, .int .i64 (cv nd i 4))] := hC.append ((RCells.cons (pc4 0 (by decide)) (RCells.cons (pc4 1 (by decide)) (RCells.cons (pc4 2 (by decide)) (RCells.cons (pc4 3 (by decide)) (RCells.cons (pc4 4 (by decide)) (RCells.nil _)))))))
 clear pc4
 have G0_ := G
 refine Y.region F [some (.pointer (some ⟨w.heap.size, 2, none⟩)), some (.slice (some pd4) n nc), some (.int .i64 i), some (.pointer (some (pd4.add (i * 5)))), some (.agg #[.int .i64 (cv nd i 0), .int .i64 (cv nd i 1), .int .i64 (cv nd i 2), .int .i64 (cv nd i 3), .int .i64 (cv nd i 4)]), some (.pointer (some ⟨w.heap.size, 1, none⟩)), some (.int .i64 hold), some (.int .i64 T), none, none, none, none] [(8, MP.mkm w3.heap.size), (9, MP.mka w3.heap.size (cv nd i 0) (cv nd i 1) (cv nd i 2) (cv nd i 3) (cv nd i 4) hold T), (10, MP.mkb w3.heap.size (cv nd i 0) (cv nd i 1) (cv nd i 2) (cv nd i 3) (cv nd i 4) hold T), (11, MP.mkb w3.heap.size (cv nd i 0) (cv nd i 1) (cv nd i 2) (cv nd i 3) (cv nd i 4) hold T)] rfl ⟨by kernel_rfl, of_decide_eq_true (by kernel_rfl), by kernel_rfl, by kernel_rfl, by kernel_rfl⟩ ⟨?_, ?_, ?_, ?_, ?_, ?_, ?_, ?_, ?_, ?_, ?_, ?_, trivial⟩ ?_
 ·intro ac done u W Sx hR
  exact X.val (X.w0 rfl) rfl (X.field rfl (Sx.ev 3 (.pointer (some ⟨w.heap.size, 0, none⟩))) (X.fld Try.underlying24 rfl (Try.siz22 _) rfl rfl)) (hR.step (Gr.refl _) rfl)
 ·intro ac done u W Sx hR
  have g : Gr w3 W := hR.1
  exact X.val (X.w0 rfl) rfl (X.load rfl (Sx.ev 7 (.pointer (some ⟨w.heap.size, 2, none⟩))) (X.ld1 (Try.agg22 _) ((hC.gr g).at 2 rfl))) (hR.step (Gr.refl _) rfl)
 ·intro ac done u W Sx hR
  exact X.val (X.w0 rfl) rfl (X.move rfl (Sx.ev 1 (.int .i64 i))) (hR.step (Gr.refl _) rfl)
 ·intro ac done u W Sx hR
  exact X.val (X.w0 rfl) rfl (X.index rfl (Sx.ev 8 (.slice (some pd4) n nc)) (Sx.ev 9 (.int .i64 i)) (X.idx (k := i) Try.underlying22 (Try.siz31 _) (by omega) (by omega) rfl)) (hR.step (Gr.refl _) rfl)
 ·intro ac done u W Sx hR
  have g : Gr w3 W := hR.1
  exact X.val (X.w0 rfl) rfl (X.load rfl (Sx.ev 10 (.pointer (some (pd4.add (i * 5))))) (X.ldN (Try.agg31 _) (Try.siz31 _) (Y.atz (pd4.add (i * 5)) (Y.AtFrom.cons ((hC.gr g).at 3 rfl) (Y.AtFrom.cons ((hC.gr g).at 4 rfl) (Y.AtFrom.cons ((hC.gr g).at 5 rfl) (Y.AtFrom.cons ((hC.gr g).at 6 rfl) (Y.AtFrom.cons ((hC.gr g).at 7 rfl) (Y.AtFrom.nil _ _ _))))))))) (hR.step (Gr.refl _) rfl)
 ·intro ac done u W Sx hR
  exact X.val (X.w0 rfl) rfl (X.field rfl (Sx.ev 3 (.pointer (some ⟨w.heap.size, 0, none⟩))) (X.fld Try.underlying24 rfl (Try.siz3 _) rfl rfl)) (hR.step (Gr.refl _) rfl)
 ·intro ac done u W Sx hR
  have g : Gr w3 W := hR.1
  exact X.val (X.w0 rfl) rfl (X.load rfl (Sx.ev 12 (.pointer (some ⟨w.heap.size, 1, none⟩))) (X.ld1 (Try.agg3 _) ((hC.gr g).at 1 rfl))) (hR.step (Gr.refl _) rfl)
 ·intro ac done u W Sx hR
  exact X.val (X.w0 rfl) rfl (X.move rfl (Sx.ev 2 (.int .i64 T))) (hR.step (Gr.refl _) rfl)
 ·intro ac done u W Sx hR
  have g : Gr w3 W := hR.1
  exact X.valN (X.w0 rfl) rfl (X.mm rfl) (hR.new (q := MP.mkm w3.heap.size) (Gr.alloc _ _) rfl ⟨_, rfl, World.alloc_heap_new _ _, g.size⟩)
 ·intro ac done u W Sx hR
  obtain ⟨mm5, e8, hm5, hB5⟩ := hR.get (i := 8) (MP.mkm w3.heap.size) rfl (Sx.an 8 (by kernel_rfl))
  exact X.valN (X.w0 rfl) rfl (Y.bd rfl (Y.bd4 (Sx.ev 11 (.agg #[.int .i64 (cv nd i 0), .int .i64 (cv nd i 1), .int .i64 (cv nd i 2), .int .i64 (cv nd i 3), .int .i64 (cv nd i 4)])) (Sx.ev 13 (.int .i64 hold)) (Sx.ev 14 (.int .i64 T)) ((Sx.own 8 15 rfl).trans e8)) (Try.bd110 _ _ _ _ _ _ _ _ _)) (hR.new (q := MP.mka w3.heap.size (cv nd i 0) (cv nd i 1) (cv nd i 2) (cv nd i 3) (cv nd i 4) hold T) (Gr.refl _) rfl ⟨_, rfl, hm5, hB5⟩)
 ·intro ac done u W Sx hR
  have g : Gr w3 W := hR.1
  obtain ⟨mm6, e9, hm6, hB6⟩ := hR.get (i := 9) (MP.mka w3.heap.size (cv nd i 0) (cv nd i 1) (cv nd i 2) (cv nd i 3) (cv nd i 4) hold T) rfl (Sx.an 9 (by kernel_rfl))
  exact X.valN (X.w0 rfl) rfl (X.box rfl ((Sx.own 9 16 rfl).trans e9) X.bx) (hR.new (q := MP.mkb w3.heap.size (cv nd i 0) (cv nd i 1) (cv nd i 2) (cv nd i 3) (cv nd i 4) hold T) (Gr.alloc _ _) rfl ⟨_, _, rfl, pq_new W, (Below.heap_alloc _ _ _ (Array.getElem?_eq_some_iff.1 hm6).1).trans hm6, g.size, hB6, fun e => by have := (Array.getElem?_eq_some_iff.1 hm6).1; omega⟩)
 ·intro ac done u W Sx hR
  obtain ⟨qq7, mm7, e10, hP7, hm7, hA7, hB7, hN7⟩ := hR.get (i := 10) (MP.mkb w3.heap.size (cv nd i 0) (cv nd i 1) (cv nd i 2) (cv nd i 3) (cv nd i 4) hold T) rfl (Sx.an 10 (by kernel_rfl))
  exact X.valN (X.w0 rfl) rfl (X.assign rfl (Sx.own 10 17 rfl)) (hR.new (q := MP.mkb w3.heap.size (cv nd i 0) (cv nd i 1) (cv nd i 2) (cv nd i 3) (cv nd i 4) hold T) (Gr.refl _) rfl ⟨_, _, e10, hP7, hm7, hA7, hB7, hN7⟩)
 intro ac u w9 hs hd hl ho hR
 have g : Gr w3 w9 := hR.1
 obtain ⟨mm5, e8, hm5, hB5⟩ := hR.get (i := 8) (MP.mkm w3.heap.size) rfl rfl
 obtain ⟨mm6, e9, hm6, hB6⟩ := hR.get (i := 9) (MP.mka w3.heap.size (cv nd i 0) (cv nd i 1) (cv nd i 2) (cv nd i 3) (cv nd i 4) hold T) rfl rfl
 obtain ⟨qq7, mm7, e10, hP7, hm7, hA7, hB7, hN7⟩ := hR.get (i := 10) (MP.mkb w3.heap.size (cv nd i 0) (cv nd i 1) (cv nd i 2) (cv nd i 3) (cv nd i 4) hold T) rfl rfl
 obtain ⟨qq8, mm8, e11, hP8, hm8, hA8, hB8, hN8⟩ := hR.get (i := 11) (MP.mkb w3.heap.size (cv nd i 0) (cv nd i 1) (cv nd i 2) (cv nd i 3) (cv nd i 4) hold T) rfl rfl
 replace F : Fr ac 18 [(0, .agg #[.int .i64 gr, .int .i64 hold, .slice (some pd4) n nc]), (1, .int .i64 i), (2, .int .i64 T), (3, .pointer (some ⟨w.heap.size, 0, none⟩))] := X.fr hs hd hl _ (by kernel_rfl)
 replace F := F.add (ho 11 6 rfl) e11
 replace F : Fr ac 18 [(0, .agg #[.int .i64 gr, .int .i64 hold, .slice (some pd4) n nc]), (1, .int .i64 i), (2, .int .i64 T), (3, .pointer (some ⟨w.heap.size, 0, none⟩)), (6, .pointer (some ⟨qq8, 0, none⟩))] := F.sub _
 clear e8 e9 e10 e11
 clear hs hd hl ho hR
 replace G := G.trans g
 replace hC := hC.gr g
 replace hnd := hnd.gr g
 clear g
 have hA8_ : w.heap.size ≤ qq8 := by have := G0_.size; omega
 have hB8_ : w.heap.size ≤ mm8 := by have := G0_.size; omega
 refine X.thenN ?_
 refine Y.ret ?_
 exact Y.ret0 F (Y.rs1 F rfl (by kernel_rfl)) ⟨_, _, rfl, hP8.gr (Gr.refl _), memo_new hm8, hA8_, hB8_, hN8, G⟩
end Go.Proofs.Ytoalamakhjbedaa
