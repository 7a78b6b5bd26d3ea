/- Several texts of this claim in one file. (1) Contract: newParked. (2) Contracts: sum, Parked. (3) Contracts: checkNode, Worst. (4) The greatest energy of a parked node, tick by tick; what a node takes in a play beyond the calls is no more. Nothing of the program is proved here. (5) Contract: Noises. (6) A parked node takes at most what Worst says, and just that with the noise of Noises. Nothing of the program is proved here. (7) The reference's play in plain words, and that it is the program's. Nothing of the program is walked here. (8) The greatest number of awake ticks, as a table; tables of rows of numbers. Nothing of the program is walked here. (9) Contract: the asks of a tick. -/
import Derived.Test.YtoalamakhjbedaaBd8
import Derived.Test.YtoalamakhjbedaaBd5
import Derived.Test.YtoalamakhjbedaaBd6
import Derived.Laws.StructEq
import Derived.Laws.MakeOwn
import Derived.Test.YtoalamakhjbedaaBd3
namespace Go.Proofs.Ytoalamakhjbedaa
section
open Go.RowKit

/-- a new map -/
def MP.mkm (B : Nat) : Y.MP := ⟨fun v W => ∃ m, v = .map (some m) ∧ W.heap[m]? = some (.map #[] 0) ∧ B ≤ m, fun _ _ _ ⟨m, h1, h2, h3⟩ g => ⟨m, h1, (g.below.block _ (Array.getElem?_eq_some_iff.1 h2).1).trans h2, h3⟩⟩
def MP.mka (B : Nat) (a b c d e f g : Int) : Y.MP := ⟨fun v W => ∃ m, v = .agg #[.int .i64 a, .int .i64 b, .int .i64 c, .int .i64 d, .int .i64 e, .int .i64 f, .int .i64 g, .map (some m)] ∧ W.heap[m]? = some (.map #[] 0) ∧ B ≤ m, fun _ _ _ ⟨m, h1, h2, h3⟩ g => ⟨m, h1, (g.below.block _ (Array.getElem?_eq_some_iff.1 h2).1).trans h2, h3⟩⟩
def MP.mkb (B : Nat) (a b c d e f g : Int) : Y.MP := ⟨fun v W => ∃ q m, v = .pointer (some ⟨q, 0, none⟩) ∧ Pq W q a b c d e f g m ∧ W.heap[m]? = some (.map #[] 0) ∧ B ≤ q ∧ B ≤ m ∧ ¬ q = m, fun _ _ _ ⟨q, m, h1, h2, h3, h4⟩ g => ⟨q, m, h1, h2.gr g, (g.below.block _ (Array.getElem?_eq_some_iff.1 h3).1).trans h3, h4⟩⟩
theorem pq_new {a b c d e f g : Int} {m : Nat} (W : World) : Pq (W.alloc (.cells #[.int .i64 a, .int .i64 b, .int .i64 c, .int .i64 d, .int .i64 e, .int .i64 f, .int .i64 g, .map (some m)] 110)) W.heap.size a b c d e f g m :=
  (RCells.nil W).box (b := W.heap.size) #[Vi a, Vi b, Vi c, Vi d, Vi e, Vi f, Vi g, .map (some m)] 110 rfl
/-- a node's numbers -/
def ndV (nd : List (List Int)) (hold : Int) (i : Nat) (T : Int) : Nd := ⟨cv nd i 1, cv nd i 2, cv nd i 3, cv nd i 4, hold, T⟩
theorem ndOk_of {gr hold : Int} {nd : List (List Int)} (h : CluOk gr hold nd) {i : Nat} {T : Int} (hi : i < nd.length) (h0 : 0 ≤ T) (h1 : T ≤ 1001) : NdOk (ndV nd hold i T) := by
  have a := h.awk i hi
  have b := h.asl i hi
  have c := h.bud i hi
  have d := h.ref i hi
  have e := h.h1
  have f := h.h100
  exact ⟨b.1, b.2, a.2, c.1, c.2, d.1, d.2, e, by show hold ≤ 103; omega, h0, h1⟩
def sumN (nd : List (List Int)) (hold T : Int) : Nat → Int
  | 0 => 0
  | i + 1 => sumN nd hold T i + (bestV (ndV nd hold i T) 0 (cv nd i 3)).1
def sumP (nd : List (List Int)) (hold T : Int) : Int := sumN nd hold T nd.length
theorem sumN_bd {gr hold : Int} {nd : List (List Int)} (h : CluOk gr hold nd) {T : Int} (h0 : 0 ≤ T) (h1 : T ≤ 1001) : ∀ i, i ≤ nd.length → 0 ≤ sumN nd hold T i ∧ sumN nd hold T i ≤ i * 11000000
  | 0, _ => by simp [sumN]
  | i + 1, hi => by
    have ih := sumN_bd h h0 h1 i (by omega)
    have c := h.bud i (by omega)
    have := bestV_bd (ndOk_of h (i := i) (by omega) h0 h1) (t := 0) (x := cv nd i 3) (by omega) c.1 (Int.le_refl _)
    simp only [sumN]
    omega
def parkV (gr hold : Int) (nd : List (List Int)) (T : Int) : Int := if ticksE gr hold nd T = 0 then sumP nd hold T else 0

set_option maxRecDepth 100000 in
set_option maxHeartbeats 400000 in
theorem newp_any (na : Option Addr) (n nc : Nat) (hold : Int) (i : Nat) (T gr : Int) (nd : List (List Int)) (w : World) (hnd : StAt w 5 na n nd) (hi : i < n) :
  Calls Try.prog 47 #[.agg #[Vi gr, Vi hold, .slice na n nc], Vi i, Vi T] w fun e w' => ∃ q m, e = .returned (Vp q) ∧ Pq w' q (cv nd i 0) (ndV nd hold i T).aw (ndV nd hold i T).za (ndV nd hold i T).bu (ndV nd hold i T).re (ndV nd hold i T).hold (ndV nd hold i T).T m ∧ Memo w' m (gdV (ndV nd hold i T)) ∧ w.heap.size ≤ q ∧ w.heap.size ≤ m ∧ ¬ q = m ∧ Gr w w' := by
 have G := Gr.refl w
 refine Y.calls 18 Try.func47 rfl rfl ?_
 intro ac F0
 have F : Fr ac 18 [(0, .agg #[Vi gr, Vi hold, .slice na n nc]), (1, Vi i), (2, Vi T)] := F0.sub _
 clear F0
 refine Y.seq ?_
 refine Y.lit (by kernel_rfl) ?_
 refine Y.pv F (X.box rfl (F.e 0 rfl) X.bx) ?_;clear F ac;intro ac F
 have g := Gr.alloc w (.cells #[Vi gr, Vi hold, .slice na n nc] 24)
 have hb := heap_alloc_new w (.cells #[Vi gr, Vi hold, .slice na n nc] 24)
 have hbl : w.heap.size < (w.alloc (.cells #[Vi gr, Vi hold, .slice na n nc] 24)).heap.size := by simp
 have hC2 : RCells (w.alloc (.cells #[Vi gr, Vi hold, .slice na n nc] 24)) [(Ad w.heap.size 0, Vi gr), (Ad w.heap.size 1, Vi hold), (Ad w.heap.size 2, .slice na n nc)] := (RCells.nil w).box (b := w.heap.size) #[Vi gr, Vi hold, .slice na n nc] 24 rfl
 generalize w.alloc (.cells #[Vi gr, Vi hold, .slice na n nc] 24) = w3 at *
 replace G := G.trans g
 have hC := hC2
 clear hC2
 replace hnd := hnd.gr g
 clear g hb hbl
 refine Y.pv F (X.assign rfl (X.kc (.pointer none) rfl)) ?_;clear F ac;intro ac F
 refine Y.nil ?_
 replace F : Fr ac 18 [(0, .agg #[Vi gr, Vi hold, .slice na n nc]), (1, Vi i), (2, Vi T), (3, Vp w.heap.size), (6, .pointer none)] := F.sub _
 refine X.thenN ?_
 refine Y.seq ?_
 obtain ⟨pd4, pe4, -, -, pc4⟩ := hnd.at (j := i) (by omega)
 subst pe4
 replace hC : RCells w3 [(Ad w.heap.size 0, Vi gr), (Ad w.heap.size 1, Vi hold), (Ad w.heap.size 2, .slice (some pd4) n nc), (pd4.add (i * 5), Vi (cv nd i 0)), (⟨(pd4.add (i * 5)).block, (pd4.add (i * 5)).off + 1, none⟩, Vi (cv nd i 1)), (⟨(pd4.add (i * 5)).block, (pd4.add (i * 5)).off + 2, none⟩, Vi (cv nd i 2)), (⟨(pd4.add (i * 5)).block, (pd4.add (i * 5)).off + 3, none⟩, Vi (cv nd i 3)), (⟨(pd4.add (i * 5)).block, (pd4.add (i * 5)).off + 4, none⟩, Vi (cv nd i 4))] := hC.append ((RCells.cons (pc4 0 (by decide)) (RCells.cons (pc4 1 (by decide)) (RCells.cons (pc4 2 (by decide)) (RCells.cons (pc4 3 (by decide)) (RCells.cons (pc4 4 (by decide)) (RCells.nil _)))))))
 clear pc4
 have G0_ := G
 refine Y.region F [some (.pointer (some ⟨w.heap.size, 2, none⟩)), some (.slice (some pd4) n nc), some (Vi i), some (.pointer (some (pd4.add (i * 5)))), some (.agg #[Vi (cv nd i 0), Vi (cv nd i 1), Vi (cv nd i 2), Vi (cv nd i 3), Vi (cv nd i 4)]), some (.pointer (some ⟨w.heap.size, 1, none⟩)), some (Vi hold), some (Vi T), none, none, none, none] [(8, MP.mkm w3.heap.size), (9, MP.mka w3.heap.size (cv nd i 0) (cv nd i 1) (cv nd i 2) (cv nd i 3) (cv nd i 4) hold T), (10, MP.mkb w3.heap.size (cv nd i 0) (cv nd i 1) (cv nd i 2) (cv nd i 3) (cv nd i 4) hold T), (11, MP.mkb w3.heap.size (cv nd i 0) (cv nd i 1) (cv nd i 2) (cv nd i 3) (cv nd i 4) hold T)] rfl ⟨by kernel_rfl, of_decide_eq_true (by kernel_rfl), by kernel_rfl, by kernel_rfl, by kernel_rfl⟩ ⟨?_, ?_, ?_, ?_, ?_, ?_, ?_, ?_, ?_, ?_, ?_, ?_, trivial⟩ ?_
 ·intro ac done u W Sx hR
  exact X.vl (X.field rfl (Sx.ev 3 (Vp w.heap.size)) (X.fld Try.underlying24 rfl (Try.siz22 _) rfl rfl)) hR.st0
 ·intro ac done u W Sx hR
  have g : Gr w3 W := hR.1
  exact X.vl (X.load rfl (Sx.ev 7 (.pointer (some ⟨w.heap.size, 2, none⟩))) (X.ld1 (Try.agg22 _) ((hC.gr g).at 2 rfl))) hR.st0
 ·intro ac done u W Sx hR
  exact X.vl (X.move rfl (Sx.ev 1 (Vi i))) hR.st0
 ·intro ac done u W Sx hR
  exact X.vl (X.index rfl (Sx.ev 8 (.slice (some pd4) n nc)) (Sx.ev 9 (Vi i)) (X.idx (k := i) Try.underlying22 (Try.siz31 _) (by omega) (by omega) rfl)) hR.st0
 ·intro ac done u W Sx hR
  have g : Gr w3 W := hR.1
  exact X.vl (X.load rfl (Sx.ev 10 (.pointer (some (pd4.add (i * 5))))) (X.ldN (Try.agg31 _) (Try.siz31 _) (Y.atz (pd4.add (i * 5)) (Y.AtFrom.cons ((hC.gr g).at 3 rfl) (Y.AtFrom.cons ((hC.gr g).at 4 rfl) (Y.AtFrom.cons ((hC.gr g).at 5 rfl) (Y.AtFrom.cons ((hC.gr g).at 6 rfl) (Y.AtFrom.cons ((hC.gr g).at 7 rfl) (Y.AtFrom.nil _ _ _))))))))) hR.st0
 ·intro ac done u W Sx hR
  exact X.vl (X.field rfl (Sx.ev 3 (Vp w.heap.size)) (X.fld Try.underlying24 rfl (Try.siz3 _) rfl rfl)) hR.st0
 ·intro ac done u W Sx hR
  have g : Gr w3 W := hR.1
  exact X.vl (X.load rfl (Sx.ev 12 (.pointer (some ⟨w.heap.size, 1, none⟩))) (X.ld1 (Try.agg3 _) ((hC.gr g).at 1 rfl))) hR.st0
 ·intro ac done u W Sx hR
  exact X.vl (X.move rfl (Sx.ev 2 (Vi T))) hR.st0
 ·intro ac done u W Sx hR
  have g : Gr w3 W := hR.1
  exact X.valN (X.w0 rfl) rfl (X.mm rfl) (hR.new (q := MP.mkm w3.heap.size) (Gr.alloc _ _) rfl ⟨_, rfl, World.alloc_heap_new _ _, g.size⟩)
 ·intro ac done u W Sx hR
  obtain ⟨mm5, e8, hm5, hB5⟩ := hR.get (i := 8) (MP.mkm w3.heap.size) rfl (Sx.an 8 (by kernel_rfl))
  exact X.valN (X.w0 rfl) rfl (Y.bd rfl (Y.bd4 (Sx.ev 11 (.agg #[Vi (cv nd i 0), Vi (cv nd i 1), Vi (cv nd i 2), Vi (cv nd i 3), Vi (cv nd i 4)])) (Sx.ev 13 (Vi hold)) (Sx.ev 14 (Vi T)) ((Sx.own 8 15 rfl).trans e8)) (Try.bd110 _ _ _ _ _ _ _ _ _)) (hR.new (q := MP.mka w3.heap.size (cv nd i 0) (cv nd i 1) (cv nd i 2) (cv nd i 3) (cv nd i 4) hold T) (Gr.refl _) rfl ⟨_, rfl, hm5, hB5⟩)
 ·intro ac done u W Sx hR
  have g : Gr w3 W := hR.1
  obtain ⟨mm6, e9, hm6, hB6⟩ := hR.get (i := 9) (MP.mka w3.heap.size (cv nd i 0) (cv nd i 1) (cv nd i 2) (cv nd i 3) (cv nd i 4) hold T) rfl (Sx.an 9 (by kernel_rfl))
  exact X.valN (X.w0 rfl) rfl (X.box rfl ((Sx.own 9 16 rfl).trans e9) X.bx) (hR.new (q := MP.mkb w3.heap.size (cv nd i 0) (cv nd i 1) (cv nd i 2) (cv nd i 3) (cv nd i 4) hold T) (Gr.alloc _ _) rfl ⟨_, _, rfl, pq_new W, (Below.heap_alloc _ _ _ (Array.getElem?_eq_some_iff.1 hm6).1).trans hm6, g.size, hB6, fun e => by have := (Array.getElem?_eq_some_iff.1 hm6).1; omega⟩)
 ·intro ac done u W Sx hR
  obtain ⟨qq7, mm7, e10, hP7, hm7, hA7, hB7, hN7⟩ := hR.get (i := 10) (MP.mkb w3.heap.size (cv nd i 0) (cv nd i 1) (cv nd i 2) (cv nd i 3) (cv nd i 4) hold T) rfl (Sx.an 10 (by kernel_rfl))
  exact X.valN (X.w0 rfl) rfl (X.assign rfl (Sx.own 10 17 rfl)) (hR.new (q := MP.mkb w3.heap.size (cv nd i 0) (cv nd i 1) (cv nd i 2) (cv nd i 3) (cv nd i 4) hold T) (Gr.refl _) rfl ⟨_, _, e10, hP7, hm7, hA7, hB7, hN7⟩)
 intro ac u w9 hs hd hl ho hR
 have g : Gr w3 w9 := hR.1
 obtain ⟨mm5, e8, hm5, hB5⟩ := hR.get (i := 8) (MP.mkm w3.heap.size) rfl rfl
 obtain ⟨mm6, e9, hm6, hB6⟩ := hR.get (i := 9) (MP.mka w3.heap.size (cv nd i 0) (cv nd i 1) (cv nd i 2) (cv nd i 3) (cv nd i 4) hold T) rfl rfl
 obtain ⟨qq7, mm7, e10, hP7, hm7, hA7, hB7, hN7⟩ := hR.get (i := 10) (MP.mkb w3.heap.size (cv nd i 0) (cv nd i 1) (cv nd i 2) (cv nd i 3) (cv nd i 4) hold T) rfl rfl
 obtain ⟨qq8, mm8, e11, hP8, hm8, hA8, hB8, hN8⟩ := hR.get (i := 11) (MP.mkb w3.heap.size (cv nd i 0) (cv nd i 1) (cv nd i 2) (cv nd i 3) (cv nd i 4) hold T) rfl rfl
 replace F : Fr ac 18 [(0, .agg #[Vi gr, Vi hold, .slice (some pd4) n nc]), (1, Vi i), (2, Vi T), (3, Vp w.heap.size)] := X.fr hs hd hl _ (by kernel_rfl)
 replace F := F.add (ho 11 6 rfl) e11
 replace F : Fr ac 18 [(0, .agg #[Vi gr, Vi hold, .slice (some pd4) n nc]), (1, Vi i), (2, Vi T), (3, Vp w.heap.size), (6, Vp qq8)] := F.sub _
 clear e8 e9 e10 e11
 clear hs hd hl ho hR
 replace G := G.trans g
 replace hC := hC.gr g
 replace hnd := hnd.gr g
 clear g
 have hA8_ : w.heap.size ≤ qq8 := by have := G0_.size; omega
 have hB8_ : w.heap.size ≤ mm8 := by have := G0_.size; omega
 refine X.thenN ?_
 refine Y.ret ?_
 exact Y.ret0 F (Y.rs1 F rfl (by kernel_rfl)) ⟨_, _, rfl, hP8.gr (Gr.refl _), memo_new hm8, hA8_, hB8_, hN8, G⟩
end
section
open Go.RowKit

set_option maxRecDepth 100000 in
set_option maxHeartbeats 1000000 in
theorem sum_any (na : Option Addr) (n nc : Nat) (gr hold T : Int) (nd : List (List Int)) (w : World) (hnd : StAt w 5 na n nd) (hc : CluOk gr hold nd) (hT : 0 ≤ T ∧ T ≤ 1001) :
  Calls Try.prog 51 #[.agg #[Vi gr, Vi hold, .slice na n nc], Vi T] w fun e w' => e = .returned (Vi (sumP nd hold T)) ∧ Gr w w' := by
 have G := Gr.refl w
 have hnd0 := hnd
 have hlen := hnd.len
 have h16 := hc.n16
 refine Y.calls 26 Try.func51 rfl rfl ?_
 intro ac F0
 have F : Fr ac 26 [(0, .agg #[Vi gr, Vi hold, .slice na n nc]), (1, Vi T)] := F0.sub _
 clear F0
 refine Y.seq ?_
 refine Y.lit (by kernel_rfl) ?_
 refine Y.pv F (X.box rfl (F.e 0 rfl) X.bx) ?_;clear F ac;intro ac F
 have g := Gr.alloc w (.cells #[Vi gr, Vi hold, .slice na n nc] 24)
 have hb := heap_alloc_new w (.cells #[Vi gr, Vi hold, .slice na n nc] 24)
 have hbl : w.heap.size < (w.alloc (.cells #[Vi gr, Vi hold, .slice na n nc] 24)).heap.size := by simp
 have hC2 : RCells (w.alloc (.cells #[Vi gr, Vi hold, .slice na n nc] 24)) [(Ad w.heap.size 0, Vi gr), (Ad w.heap.size 1, Vi hold), (Ad w.heap.size 2, .slice na n nc)] := (RCells.nil w).box (b := w.heap.size) #[Vi gr, Vi hold, .slice na n nc] 24 rfl
 generalize w.alloc (.cells #[Vi gr, Vi hold, .slice na n nc] 24) = w3 at *
 replace G := G.trans g
 have hC := hC2
 clear hC2
 replace hnd := hnd.gr g
 clear g hb hbl
 refine Y.pv F (X.assign rfl (X.kc (Vi 0) rfl)) ?_;clear F ac;intro ac F
 refine Y.nil ?_
 replace F : Fr ac 26 [(0, .agg #[Vi gr, Vi hold, .slice na n nc]), (1, Vi T), (2, Vp w.heap.size), (4, Vi 0)] := F.sub _
 refine X.thenN ?_
 refine Y.seq ?_
 refine Y.seq ?_
 refine Y.lit (by kernel_rfl) ?_
 refine Y.pv F (X.field rfl (F.e 2 rfl) (X.fld Try.underlying24 rfl (Try.siz22 _) rfl rfl)) ?_;clear F ac;intro ac F
 refine Y.pv F (X.load rfl (F.e 7 rfl) (X.ld1 (Try.agg22 _) (hC.at 2 rfl))) ?_;clear F ac;intro ac F
 refine Y.pv F (X.len1 Try.underlying22 rfl (F.e 8 rfl)) ?_;clear F ac;intro ac F
 refine Y.pv F (X.move rfl (X.kc (Vi 0) rfl)) ?_;clear F ac;intro ac F
 refine Y.nil ?_
 replace F : Fr ac 26 [(0, .agg #[Vi gr, Vi hold, .slice na n nc]), (1, Vi T), (2, Vp w.heap.size), (4, Vi 0), (9, Vi n), (10, Vi 0)] := F.sub _
 refine X.thenN ?_
 refine Y.block ?_
 have hndB := hnd
 have hCB := hC
 have GB := G
 refine Y.loop (fun me_ ac wr => ∃ (i : Nat), me_ = n - i ∧ Gr w3 wr ∧ i ≤ n ∧ Fr ac 26 [(0, .agg #[Vi gr, Vi hold, .slice na n nc]), (1, Vi T), (2, Vp w.heap.size), (4, Vi (sumN nd hold T i)), (9, Vi n), (10, Vi i)]) _ ⟨0, rfl, Gr.refl _, Nat.zero_le _, F.sub _⟩ ?_
 clear F
 intro me_ ac w4 hI
 obtain ⟨i, rfl, gr, hi, F⟩ := hI
 replace G := GB.trans gr
 replace hC := hCB.gr gr
 replace hnd := hndB.gr gr
 have GB_ := gr
 clear gr
 refine Y.seq ?_
 refine Y.lit (by kernel_rfl) ?_
 refine Y.pv F (X.binop rfl (F.e 10 rfl) (F.e 9 rfl) (X.lssI Try.underlying3 rfl)) ?_;clear F ac;intro ac F
 refine Y.nil ?_
 replace F : Fr ac 26 [(0, .agg #[Vi gr, Vi hold, .slice na n nc]), (1, Vi T), (2, Vp w.heap.size), (4, Vi (sumN nd hold T i)), (9, Vi n), (10, Vi i), (11, .bool (decide ((i : Int) < n)))] := F.sub _
 refine X.thenN ?_
 refine Y.seq ?_
 cases h5 : decide ((i : Int) < n) with
 | false =>
  try rw [h5] at F
  have h5p : ¬ ((i : Int) < n) := of_decide_eq_false h5
  obtain rfl : n = i := by omega
  refine Y.condF (F.e 11 rfl) ?_
  refine Y.exit ?_
  refine X.thenX ?_
  refine X.thenX ?_
  refine X.blockX ?_
  refine X.thenN ?_
  refine Y.seq ?_
  refine Y.lit (by kernel_rfl) ?_
  refine Y.pv F (X.move rfl (F.e 4 rfl)) ?_;clear F ac;intro ac F
  refine Y.pv F (X.assign rfl (F.e 25 rfl)) ?_;clear F ac;intro ac F
  refine Y.nil ?_
  replace F : Fr ac 26 [(0, .agg #[Vi gr, Vi hold, .slice na n nc]), (1, Vi T), (2, Vp w.heap.size), (4, Vi (sumN nd hold T n)), (9, Vi n), (10, Vi n), (11, .bool false)] := F.sub _
  refine X.thenN ?_
  refine Y.ret ?_
  exact Y.ret0 (v := Vi (sumN nd hold T n)) F (Y.rs1 F rfl (by kernel_rfl)) ⟨by rw [sumP, hlen], G⟩
 | true =>
  try rw [h5] at F
  have h5p : ((i : Int) < n) := of_decide_eq_true h5
  have hi2 : i < n := by omega
  have hsb := sumN_bd hc hT.1 hT.2 i (by omega)
  refine Y.condT (F.e 11 rfl) ?_
  refine Y.skip ?_
  refine X.thenN ?_
  refine Y.seq ?_
  refine Y.block ?_
  refine Y.seq ?_
  refine Y.lit (by kernel_rfl) ?_
  refine Y.pv F (X.move rfl (F.e 10 rfl)) ?_;clear F ac;intro ac F
  refine Y.pv F (X.assign rfl (F.e 12 rfl)) ?_;clear F ac;intro ac F
  refine Y.nil ?_
  replace F : Fr ac 26 [(0, .agg #[Vi gr, Vi hold, .slice na n nc]), (1, Vi T), (2, Vp w.heap.size), (4, Vi (sumN nd hold T i)), (5, Vi i), (9, Vi n), (10, Vi i), (11, .bool true)] := F.sub _
  refine X.thenN ?_
  refine Y.seq ?_
  refine Y.lit (by kernel_rfl) ?_
  refine Y.pv F (X.load rfl (F.e 2 rfl) (X.ldN (Try.agg24 _) (Try.siz24 _) (Y.atz (⟨w.heap.size, 0, none⟩) (Y.AtFrom.cons (hC.at 0 rfl) (Y.AtFrom.cons (hC.at 1 rfl) (Y.AtFrom.cons (hC.at 2 rfl) (Y.AtFrom.nil _ _ _))))))) ?_;clear F ac;intro ac F
  refine Y.pv F (X.move rfl (F.e 5 rfl)) ?_;clear F ac;intro ac F
  refine Y.pv F (X.move rfl (F.e 1 rfl)) ?_;clear F ac;intro ac F
  have hcb : w.heap.size < w4.heap.size := lt_cell (hC.at 0 rfl)
  have hgs_GB_ := GB_.size
  have hgsw := G.size
  have hno := ndOk_of hc (i := i) (T := T) (by omega) hT.1 hT.2
  refine Y.pcall F (X.w0 rfl) rfl (X.enter (F := 47) rfl (X.kc (.func (.func 47) #[] #[]) rfl) (X.a3 (F.e 13 rfl) (F.e 14 rfl) (F.e 15 rfl)) (enters_of Try.func47 (by kernel_rfl) rfl _)) (newp_any na n nc hold i T gr nd w4 hnd (by omega)) ?_
  clear F ac
  rintro e w6 ⟨bq, bm, rfl, hq, hM, hbq, hbmB, hbm, g⟩
  refine ⟨_, rfl, ?_⟩
  intro ac F
  replace G := G.trans g
  replace hC := hC.gr g
  replace GB_ := GB_.trans g
  replace hnd := hnd.gr g
  clear g
  refine Y.pv F (X.assign rfl (F.e 16 rfl)) ?_;clear F ac;intro ac F
  refine Y.nil ?_
  replace F : Fr ac 26 [(0, .agg #[Vi gr, Vi hold, .slice na n nc]), (1, Vi T), (2, Vp w.heap.size), (4, Vi (sumN nd hold T i)), (5, Vi i), (6, Vp bq), (9, Vi n), (10, Vi i), (11, .bool true)] := F.sub _
  refine X.thenN ?_
  refine Y.lit (by kernel_rfl) ?_
  refine Y.pv F (X.move rfl (F.e 4 rfl)) ?_;clear F ac;intro ac F
  refine Y.pv F (X.move rfl (F.e 6 rfl)) ?_;clear F ac;intro ac F
  refine Y.pv F (X.move rfl (F.e 6 rfl)) ?_;clear F ac;intro ac F
  refine Y.pcall F (X.w0 rfl) rfl (X.enter (F := 49) rfl (X.kc (.func (.func 49) #[] #[]) rfl) (X.a1 (F.e 19 rfl)) (enters_of Try.func49 (by kernel_rfl) rfl _)) (start_any bq bm _ (ndV nd hold i T) w6 hq) ?_
  clear F ac
  rintro e w7 ⟨rfl, g⟩
  refine ⟨_, rfl, ?_⟩
  intro ac F
  replace G := G.trans g
  replace hC := hC.gr g
  replace GB_ := GB_.trans g
  replace hnd := hnd.gr g
  replace hq := hq.gr g
  replace hM := hM.gr g
  clear g
  have hbb := hc.bud i (by omega)
  have hbv := bestV_bd hno (t := 0) (x := cv nd i 3) (by omega) hbb.1 (Int.le_refl _)
  refine Y.pcall F (X.w0 rfl) rfl (X.enter (F := 48) rfl (X.kc (.func (.func 48) #[] #[]) rfl) (X.a2 (F.e 18 rfl) (F.e 20 rfl)) (enters_of Try.func48 (by kernel_rfl) rfl _)) (best_any bq bm _ (ndV nd hold i T) hno hbm 10000 0 (cv nd i 3) w7 (by omega) ⟨by omega, by omega⟩ ⟨hbb.1, Int.le_refl _⟩ hq hM) ?_
  clear F ac
  rintro e w8 ⟨rfl, hon, -⟩
  refine ⟨_, rfl, ?_⟩
  intro ac F
  replace hC := (hC.kc hon 0 rfl (hC.kc hon 1 rfl (hC.kc hon 2 rfl (RCells.nil _))))
  replace G := Y.Only.up G hon (by omega)
  replace hnd := hnd0.gr G
  clear hq hM
  replace GB_ := Y.Only.up GB_ hon (by omega)
  clear hon
  refine Y.pv F (Y.fldv (vs := [Vi ((bestV (ndV nd hold i T) 0 (cv nd i 3)).1), Vi ((bestV (ndV nd hold i T) 0 (cv nd i 3)).2)]) rfl (F.e 21 rfl) Try.underlying69 rfl (Try.agg3 _) rfl) ?_;clear F ac;intro ac F
  refine Y.pv F (X.binop rfl (F.e 17 rfl) (F.e 22 rfl) (X.addI Try.underlying3 rfl (by omega) (by omega))) ?_;clear F ac;intro ac F
  refine Y.pv F (X.assign rfl (F.e 23 rfl)) ?_;clear F ac;intro ac F
  refine Y.nil ?_
  replace F : Fr ac 26 [(0, .agg #[Vi gr, Vi hold, .slice na n nc]), (1, Vi T), (2, Vp w.heap.size), (4, Vi ((sumN nd hold T i : Int) + ((bestV (ndV nd hold i T) 0 (cv nd i 3)).1))), (5, Vi i), (6, Vp bq), (9, Vi n), (10, Vi i), (11, .bool true)] := F.sub _
  refine X.blockN ?_
  refine X.thenN ?_
  refine Y.lit (by kernel_rfl) ?_
  refine Y.pv F (X.binop rfl (F.e 10 rfl) (X.kc (Vi 1) rfl) (X.addI Try.underlying3 rfl (by omega) (by omega))) ?_;clear F ac;intro ac F
  refine Y.pv F (X.move rfl (F.e 24 rfl)) ?_;clear F ac;intro ac F
  refine Y.nil ?_
  replace F : Fr ac 26 [(0, .agg #[Vi gr, Vi hold, .slice na n nc]), (1, Vi T), (2, Vp w.heap.size), (4, Vi ((sumN nd hold T i : Int) + ((bestV (ndV nd hold i T) 0 (cv nd i 3)).1))), (5, Vi i), (6, Vp bq), (9, Vi n), (10, Vi ((i : Int) + 1)), (11, .bool true)] := F.sub _
  refine X.thenN ?_
  refine ⟨_, ?_, i + 1, rfl, GB_, by omega, F.sub _⟩
  omega
set_option maxRecDepth 100000 in
set_option maxHeartbeats 400000 in
theorem parked_any (na : Option Addr) (n nc : Nat) (gr hold T : Int) (nd : List (List Int)) (w : World) (hnd : StAt w 5 na n nd) :
  Calls Try.prog 21 #[.agg #[Vi gr, Vi hold, .slice na n nc], Vi T] w fun e w' => e = .returned (.tuple #[Vi (parkV gr hold nd T), Vi (ticksE gr hold nd T)]) ∧ Gr w w' := by
 have G := Gr.refl w
 have hnd0 := hnd
 have hlen := hnd.len
 refine Y.calls 16 Try.func21 rfl rfl ?_
 intro ac F0
 have F : Fr ac 16 [(0, .agg #[Vi gr, Vi hold, .slice na n nc]), (1, Vi T)] := F0.sub _
 clear F0
 refine Y.seq ?_
 refine Y.lit (by kernel_rfl) ?_
 refine Y.pv F (X.box rfl (F.e 0 rfl) X.bx) ?_;clear F ac;intro ac F
 have g := Gr.alloc w (.cells #[Vi gr, Vi hold, .slice na n nc] 24)
 have hb := heap_alloc_new w (.cells #[Vi gr, Vi hold, .slice na n nc] 24)
 have hbl : w.heap.size < (w.alloc (.cells #[Vi gr, Vi hold, .slice na n nc] 24)).heap.size := by simp
 have hC2 : RCells (w.alloc (.cells #[Vi gr, Vi hold, .slice na n nc] 24)) [(Ad w.heap.size 0, Vi gr), (Ad w.heap.size 1, Vi hold), (Ad w.heap.size 2, .slice na n nc)] := (RCells.nil w).box (b := w.heap.size) #[Vi gr, Vi hold, .slice na n nc] 24 rfl
 generalize w.alloc (.cells #[Vi gr, Vi hold, .slice na n nc] 24) = w3 at *
 replace G := G.trans g
 have hC := hC2
 clear hC2
 replace hnd := hnd.gr g
 clear g hb hbl
 refine Y.pv F (X.assign rfl (X.kc (Vi 0) rfl)) ?_;clear F ac;intro ac F
 refine Y.pv F (X.assign rfl (X.kc (Vi 0) rfl)) ?_;clear F ac;intro ac F
 refine Y.nil ?_
 replace F : Fr ac 16 [(0, .agg #[Vi gr, Vi hold, .slice na n nc]), (1, Vi T), (2, Vp w.heap.size), (4, Vi 0), (5, Vi 0)] := F.sub _
 refine X.thenN ?_
 refine Y.seq ?_
 refine Y.seq ?_
 refine Y.lit (by kernel_rfl) ?_
 refine Y.pv F (X.load rfl (F.e 2 rfl) (X.ldN (Try.agg24 _) (Try.siz24 _) (Y.atz (⟨w.heap.size, 0, none⟩) (Y.AtFrom.cons (hC.at 0 rfl) (Y.AtFrom.cons (hC.at 1 rfl) (Y.AtFrom.cons (hC.at 2 rfl) (Y.AtFrom.nil _ _ _))))))) ?_;clear F ac;intro ac F
 refine Y.pv F (X.move rfl (F.e 1 rfl)) ?_;clear F ac;intro ac F
 refine Y.pcall F (X.w0 rfl) rfl (X.enter (F := 50) rfl (X.kc (.func (.func 50) #[] #[]) rfl) (X.a2 (F.e 7 rfl) (F.e 8 rfl)) (enters_of Try.func50 (by kernel_rfl) rfl _)) (ticks_any na n nc gr hold T nd w3 hnd) ?_
 clear F ac
 rintro e w4 ⟨rfl, g⟩
 refine ⟨_, rfl, ?_⟩
 intro ac F
 replace G := G.trans g
 replace hC := hC.gr g
 replace hnd := hnd.gr g
 clear g
 refine Y.pv F (X.assign rfl (F.e 9 rfl)) ?_;clear F ac;intro ac F
 refine Y.nil ?_
 replace F : Fr ac 16 [(0, .agg #[Vi gr, Vi hold, .slice na n nc]), (1, Vi T), (2, Vp w.heap.size), (4, Vi 0), (5, Vi 0), (6, Vi (ticksE gr hold nd T))] := F.sub _
 refine X.thenN ?_
 refine Y.seq ?_
 refine Y.lit (by kernel_rfl) ?_
 refine Y.pv F (X.move rfl (F.e 6 rfl)) ?_;clear F ac;intro ac F
 refine Y.pv F (X.binop rfl (F.e 10 rfl) (X.kc (Vi 0) rfl) (X.neqI Try.underlying26 rfl)) ?_;clear F ac;intro ac F
 refine Y.nil ?_
 replace F : Fr ac 16 [(0, .agg #[Vi gr, Vi hold, .slice na n nc]), (1, Vi T), (2, Vp w.heap.size), (4, Vi 0), (5, Vi 0), (6, Vi (ticksE gr hold nd T)), (11, .bool ((ticksE gr hold nd T : Int) != 0))] := F.sub _
 refine X.thenN ?_
 cases h5 : ((ticksE gr hold nd T : Int) != 0) with
 | false =>
  try rw [h5] at F
  have h5p : (ticksE gr hold nd T : Int) = 0 := by simpa using h5
  have hE : ticksE gr hold nd T = 0 := by simpa using h5p
  have hc := (ticksE_ok hE).1
  have htt := (ticksE_ok hE).2
  refine Y.condF (F.e 11 rfl) ?_
  refine Y.skip ?_
  refine X.thenN ?_
  refine Y.seq ?_
  refine Y.lit (by kernel_rfl) ?_
  refine Y.pv F (X.load rfl (F.e 2 rfl) (X.ldN (Try.agg24 _) (Try.siz24 _) (Y.atz (⟨w.heap.size, 0, none⟩) (Y.AtFrom.cons (hC.at 0 rfl) (Y.AtFrom.cons (hC.at 1 rfl) (Y.AtFrom.cons (hC.at 2 rfl) (Y.AtFrom.nil _ _ _))))))) ?_;clear F ac;intro ac F
  refine Y.pv F (X.move rfl (F.e 1 rfl)) ?_;clear F ac;intro ac F
  refine Y.pcall F (X.w0 rfl) rfl (X.enter (F := 51) rfl (X.kc (.func (.func 51) #[] #[]) rfl) (X.a2 (F.e 13 rfl) (F.e 14 rfl)) (enters_of Try.func51 (by kernel_rfl) rfl _)) (sum_any na n nc gr hold T nd w4 hnd hc ⟨by omega, by omega⟩) ?_
  clear F ac
  rintro e w6 ⟨rfl, g⟩
  refine ⟨_, rfl, ?_⟩
  intro ac F
  replace G := G.trans g
  replace hC := hC.gr g
  replace hnd := hnd.gr g
  clear g
  refine Y.pv F (X.assign rfl (F.e 15 rfl)) ?_;clear F ac;intro ac F
  refine Y.pv F (X.assign rfl (X.kc (Vi 0) rfl)) ?_;clear F ac;intro ac F
  refine Y.nil ?_
  replace F : Fr ac 16 [(0, .agg #[Vi gr, Vi hold, .slice na n nc]), (1, Vi T), (2, Vp w.heap.size), (4, Vi (sumP nd hold T)), (5, Vi 0), (6, Vi (ticksE gr hold nd T)), (11, .bool false)] := F.sub _
  refine X.thenN ?_
  refine Y.ret ?_
  exact Y.ret0 (v := .tuple #[Vi (sumP nd hold T), Vi 0]) F (Y.rs2 F rfl (by kernel_rfl) (by kernel_rfl)) ⟨by rw [parkV, if_pos hE, hE], G⟩
 | true =>
  try rw [h5] at F
  have h5p : ¬ (ticksE gr hold nd T : Int) = 0 := by simpa using h5
  have hE : ¬ ticksE gr hold nd T = 0 := by simpa using h5p
  refine Y.condT (F.e 11 rfl) ?_
  refine Y.seq ?_
  refine Y.lit (by kernel_rfl) ?_
  refine Y.pv F (X.move rfl (F.e 6 rfl)) ?_;clear F ac;intro ac F
  refine Y.pv F (X.assign rfl (X.kc (Vi 0) rfl)) ?_;clear F ac;intro ac F
  refine Y.pv F (X.assign rfl (F.e 12 rfl)) ?_;clear F ac;intro ac F
  refine Y.nil ?_
  replace F : Fr ac 16 [(0, .agg #[Vi gr, Vi hold, .slice na n nc]), (1, Vi T), (2, Vp w.heap.size), (4, Vi 0), (5, Vi (ticksE gr hold nd T)), (6, Vi (ticksE gr hold nd T)), (11, .bool true)] := F.sub _
  refine X.thenN ?_
  refine Y.ret ?_
  refine X.thenR ?_
  exact Y.ret0 (v := .tuple #[Vi 0, Vi (ticksE gr hold nd T)]) F (Y.rs2 F rfl (by kernel_rfl) (by kernel_rfl)) ⟨by rw [parkV, if_neg hE], G⟩
end
section
open Go.RowKit
end
section
set_option linter.unusedVariables false
open Go.RowKit
section
variable {gr hold t : Int} {nd l : List (List Int)}
end
section
variable {gr hold t : Int} {nd l : List (List Int)}
end
end
section
open Go.RowKit

section
variable {p : Nd} {t x : Int}
end
end
section
set_option linter.unusedVariables false
open Go.RowKit
section
variable {gr hold t : Int} {nd l : List (List Int)}
end
section
variable {gr hold t : Int} {nd l : List (List Int)}
end
section
variable {gr hold t : Int} {nd : List (List Int)} {D : List Int}
end
end
section
set_option linter.unusedVariables false
open Go.RowKit

def askR (l : List (List Int)) (t : Int) (k : Nat) (s : PS) : PS :=
  if cv l k 0 = t ∧ cv l k 1 = 1 then up s (cv l k 2).toNat 5 (orV (s (cv l k 2).toNat 5) (shlV 1 (cv l k 3)))
  else if cv l k 0 = t ∧ cv l k 1 = 2 then up s (cv l k 2).toNat 5 (anotV (s (cv l k 2).toNat 5) (shlV 1 (cv l k 3))) else s
def nzR (hold : Int) (l : List (List Int)) (t : Int) (i : Nat) (s : PS) : PS := if hasB l t 3 i 0 = true ∧ s i 16 = 0 ∧ 0 < s i 15 then up (up s i 15 (s i 15 - 1)) i 14 hold else s
def dis1 (hold : Int) (l : List (List Int)) (t : Int) (i : Nat) (s : PS) : PS := nzR hold l t i (refill1 t i s)
def sndR1 (hold : Int) (l : List (List Int)) (t : Int) (a b g : Nat) (s : PS) : PS := if bitB (s a 5) g = true ∧ bitB (s b 0) g = true ∧ hasB l t 4 a b = false then up s b (6 + g) hold else s
def sndR2 (hold : Int) (l : List (List Int)) (t : Int) (gr a b : Nat) (s : PS) : PS := itN (sndR1 hold l t a b) gr s
def sndR3 (hold : Int) (l : List (List Int)) (t : Int) (gr n a : Nat) (s : PS) : PS := itN (sndR2 hold l t gr a) n s
def tmR (i g : Nat) (s : PS) : PS := up (up s i 16 (if s i 16 ≠ 0 ∨ 0 < s i (6 + g) then 1 else 0)) i (6 + g) (max 0 (s i (6 + g) - 1))
def aw0 (i : Nat) (s : PS) : PS := up s i 16 (if 0 < s i 14 then 1 else 0)
def pasR (gr i : Nat) (s : PS) : PS := up (itN (tmR i) gr (aw0 i s)) i 14 (max 0 (itN (tmR i) gr (aw0 i s) i 14 - 1))
def pasP (gr i : Nat) (p : PS × Int) : PS × Int := (pasR gr i p.1, if pasR gr i p.1 i 16 = 0 then p.2 else orV p.2 (shlV 1 i))
def tickA (l : List (List Int)) (t : Nat) (s : PS) : PS := itN (askR l t) l.length s
def tickD (hold : Int) (n : Nat) (l : List (List Int)) (t : Nat) (s : PS) : PS := itN (dis1 hold l t) n (tickA l t s)
def tickE (hold : Int) (gr n : Nat) (l : List (List Int)) (t : Nat) (s : PS) : PS := itN (sndR3 hold l t gr n) n (tickD hold n l t s)
def tickR (hold : Int) (gr n : Nat) (l : List (List Int)) (t : Nat) (p : PR) : PR :=
  ⟨(itN (pasP gr) n (tickE hold gr n l t p.s, 0)).1, p.asked ++ [asksG n (tickA l t p.s)], p.rows ++ [(itN (pasP gr) n (tickE hold gr n l t p.s, 0)).2]⟩

/- the end of a tick -/
theorem tm_part {s : PS} (i : Nat) : ∀ m, m ≤ 8 → (itN (tmR i) m (aw0 i s) i 16 = if 0 < s i 14 ∨ anyB (fun k => decide (0 < s i (6 + k))) m = true then 1 else 0) ∧
    (∀ k, k < 9 → itN (tmR i) m (aw0 i s) i (6 + k) = if k < m then max 0 (s i (6 + k) - 1) else s i (6 + k)) ∧ (∀ a j, (a ≠ i ∨ j < 6 ∨ j = 15 ∨ 16 < j) → itN (tmR i) m (aw0 i s) a j = s a j)
  | 0, _ => by
    refine ⟨?_, fun k hk => ?_, fun a j h => ?_⟩
    · show up s i 16 _ i 16 = _
      rw [up_same]; simp [anyB]
    · show up s i 16 _ i (6 + k) = _
      rw [up_ne _ _ (.inr (by omega)), if_neg (by omega)]
    · show up s i 16 _ a j = _
      rw [up_ne _ _ (by omega)]
  | m + 1, hm => by
    obtain ⟨h1, h2, h3⟩ := tm_part (s := s) i m (by omega)
    rw [itN_succ]
    have h4 := h2 m (by omega)
    rw [if_neg (by omega)] at h4
    generalize itN (tmR i) m (aw0 i s) = z at *
    unfold tmR
    refine ⟨?_, fun k hk => ?_, fun a j h => ?_⟩
    · rw [up_ne _ _ (.inr (by omega)), up_same, h1, h4]
      simp only [anyB, Bool.or_eq_true, decide_eq_true_eq]
      by_cases e1 : 0 < s i 14 ∨ anyB (fun k => decide (0 < s i (6 + k))) m = true
      · rw [if_pos e1, if_pos (.inl (by omega)), if_pos]
        rcases e1 with e | e
        · exact .inl e
        · exact .inr (.inl e)
      · rw [if_neg e1]
        by_cases e2 : 0 < s i (6 + m)
        · rw [if_pos (.inr e2), if_pos (.inr (.inr e2))]
        · rw [if_neg (by omega), if_neg]
          rintro (e | e | e)
          · exact e1 (.inl e)
          · exact e1 (.inr e)
          · exact e2 e
    · by_cases e : k = m
      · subst e; rw [up_same, h4, if_pos (by omega)]
      · rw [up_ne _ _ (.inr (by omega)), up_ne _ _ (.inr (by omega)), h2 k hk]
        by_cases e2 : k < m
        · rw [if_pos e2, if_pos (by omega)]
        · rw [if_neg e2, if_neg (by omega)]
    · rw [up_ne _ _ (by omega), up_ne _ _ (by omega)]; exact h3 a j h
theorem pasR_eq {s : PS} {gr i : Nat} (hg : gr ≤ 8) (h0 : ∀ k, k < 9 → 0 ≤ s i (6 + k)) (hz : ∀ k, gr ≤ k → k < 8 → s i (6 + k) = 0) : pasR gr i s = passN i s := by
  obtain ⟨h1, h2, h3⟩ := tm_part (s := s) i gr hg
  funext a j
  unfold pasR
  by_cases ea : a = i ∧ 6 ≤ j ∧ j ≤ 14
  · obtain ⟨rfl, e1, e2⟩ := ea
    obtain ⟨k, rfl⟩ : ∃ k, j = 6 + k := ⟨j - 6, by omega⟩
    have h4 := h0 k (by omega)
    rw [passN_tm _ (by omega)]
    by_cases e8 : k = 8
    · subst e8
      rw [up_same, h2 8 (by omega), if_neg (by omega)]
      split <;> omega
    · rw [up_ne _ _ (.inr (by omega)), h2 k (by omega)]
      by_cases ek : k < gr
      · rw [if_pos ek]; split <;> omega
      · rw [if_neg ek, hz k (by omega) (by omega)]; rfl
  · by_cases e16 : a = i ∧ j = 16
    · obtain ⟨rfl, rfl⟩ := e16
      rw [up_ne _ _ (.inr (by omega)), h1, passN_aw]
      have he : (0 < s a 14 ∨ anyB (fun k => decide (0 < s a (6 + k))) gr = true) ↔ awB s a = true := by
        rw [awB_iff, anyB_iff]
        constructor
        · rintro (e | ⟨k, e1, e2⟩)
          · exact ⟨8, by omega, e⟩
          · exact ⟨k, by omega, by simpa using e2⟩
        · rintro ⟨k, e1, e2⟩
          by_cases e8 : k = 8
          · subst e8; exact .inl e2
          · refine .inr ⟨k, ?_, by simpa using e2⟩
            refine Classical.byContradiction fun hn => ?_
            have := hz k (by omega) (by omega)
            omega
      by_cases e : awB s a = true
      · rw [if_pos (he.2 e), if_pos e]
      · rw [if_neg (fun x => e (he.1 x)), if_neg e]
    · rw [up_ne _ _ (by omega)]
      by_cases e : a ≠ i ∨ j < 6 ∨ j = 15
      · rw [h3 a j (by omega), passN_ne e]
      · rw [h3 a j (by omega)]
        have ha : a = i := by omega
        subst ha
        unfold passN
        refine (itN_keep (P := fun z : PS => z a j = s a j) (up_ne _ _ (.inr (by omega))) 9 (fun k z hk hzz => ?_)).symm
        unfold pass1
        split
        · rw [up_ne _ _ (.inr (by omega)), up_ne _ _ (.inr (by omega))]; exact hzz
        · exact hzz
theorem pas_eq {s : PS} {gr n : Nat} (hn : n ≤ 62) (hg : gr ≤ 8) (h0 : ∀ i, i < n → ∀ k, k < 9 → 0 ≤ s i (6 + k)) (hz : ∀ i, i < n → ∀ k, gr ≤ k → k < 8 → s i (6 + k) = 0) : ∀ m, m ≤ n → itN (pasP gr) m (s, 0) = itN pass2 m (s, 0)
  | 0, _ => rfl
  | m + 1, hm => by
    have ih := pas_eq hn hg h0 hz m (by omega)
    rw [itN_succ, itN_succ, ih]
    have hp := (pass_part (s := s) m (by omega)).1
    generalize itN pass2 m (s, 0) = z at *
    unfold pasP pass2
    rw [pasR_eq hg (fun k hk => by rw [hp m _ (Nat.le_refl _)]; exact h0 m (by omega) k hk) (fun k h1 h2 => by rw [hp m _ (Nat.le_refl _)]; exact hz m (by omega) k h1 h2)]

/- the asks -/
theorem foldl_itN {σ α : Type} (f : σ → α → σ) (d : α) : ∀ (L : List α) (s : σ), L.foldl f s = itN (fun k s => f s (L[k]?.getD d)) L.length s := by
  intro L
  have key : ∀ m, m ≤ L.length → ∀ s, (L.take m).foldl f s = itN (fun k s => f s (L[k]?.getD d)) m s := by
    intro m
    induction m with
    | zero => intro _ s; simp [itN_zero]
    | succ m ih =>
      intro hm s
      rw [itN_succ, ← ih (by omega) s, List.take_add_one, List.foldl_append]
      have : L[m]? = some L[m] := List.getElem?_eq_getElem (by omega)
      rw [this]; rfl
  intro s
  have := key L.length (Nat.le_refl _) s
  rwa [List.take_length] at this
theorem foldl_filter {σ α : Type} (f : σ → α → σ) (p : α → Bool) : ∀ (L : List α) (s : σ), (L.filter p).foldl f s = L.foldl (fun s x => if p x then f s x else s) s
  | [], s => rfl
  | x :: L, s => by
    by_cases h : p x = true
    · rw [List.filter_cons_of_pos h, List.foldl_cons, List.foldl_cons, if_pos h]; exact foldl_filter f p L _
    · rw [List.filter_cons_of_neg h, List.foldl_cons, if_neg h]; exact foldl_filter f p L _
theorem anot_or {v g : Int} (hv : ∃ A : Nat, v = A ∧ A < 256) (h0 : 0 ≤ g) (h8 : g < 8) : anotV (orV v (shlV 1 g)) (shlV 1 g) = anotV v (shlV 1 g) := by
  obtain ⟨A, rfl, hA⟩ := hv
  obtain ⟨k, rfl⟩ : ∃ k : Nat, g = k := ⟨g.toNat, by omega⟩
  have hk : k < 8 := by omega
  have : ∀ A : Fin 256, ∀ k : Fin 8, anotV (orV (A.val : Int) (shlV 1 (k.val : Int))) (shlV 1 (k.val : Int)) = anotV (A.val : Int) (shlV 1 (k.val : Int)) := by decide +kernel
  exact this ⟨A, hA⟩ ⟨k, hk⟩
theorem itN_congr {σ : Type} {f g : Nat → σ → σ} {s : σ} {P : σ → Prop} (hs : P s) : ∀ n, (∀ k z, k < n → P z → f k z = g k z ∧ P (g k z)) → itN f n s = itN g n s ∧ P (itN g n s)
  | 0, _ => ⟨rfl, hs⟩
  | n + 1, h => by
    obtain ⟨h1, h2⟩ := itN_congr hs n (fun k z hk => h k z (by omega))
    rw [itN_succ, itN_succ, h1]
    exact h n _ (by omega) h2
def AskN (n : Nat) (s : PS) : Prop := ∀ i, i < n → ∃ A : Nat, s i 5 = A ∧ A < 256
theorem AskN.up {n : Nat} {s : PS} (h : AskN n s) {i : Nat} {v : Int} (hv : ∃ A : Nat, v = A ∧ A < 256) : AskN n (up s i 5 v) := fun a ha => by
  by_cases e : a = i
  · subst e; rw [up_same]; exact hv
  · rw [up_ne _ _ (.inl e)]; exact h a ha
theorem tickA_eq {gr tt : Int} {nd l : List (List Int)} {n : Nat} (hg8 : gr ≤ 8) (hnu : NuAll gr nd tt l) (hnl : nd.length = n) {s : PS} (hs : AskN n s) (t : Nat) : tickA l t s = askS l t s ∧ AskN n (askS l t s) := by
  unfold tickA askS picks
  rw [foldl_filter, foldl_itN _ []]
  refine (itN_congr (P := AskN n) hs _ (fun k z hk hz => ?_))
  have hx := hnu (l[k]?.getD []) (by rw [List.getElem?_eq_getElem hk]; exact List.getElem_mem hk)
  have hxn : (nv (l[k]?.getD []) 2).toNat < n := by have := hx.n0; have := hx.n1; omega
  have hc : ∀ r, cv l k r = nv (l[k]?.getD []) r := fun r => rfl
  unfold askR
  simp only [hc]
  generalize l[k]?.getD [] = x at *
  by_cases e0 : nv x 0 = t
  · by_cases e1 : nv x 1 = 1
    · have hp : pickB t [1, 2] x = true := by simp [pickB, e0, e1]
      rw [if_pos ⟨e0, e1⟩, if_pos hp]
      unfold askX
      rw [if_neg (by rw [e1]; decide)]
      have ha := hx.ask (.inl e1)
      exact ⟨rfl, hz.up (ask_or (hz _ hxn) ha.1 (by omega))⟩
    · by_cases e2 : nv x 1 = 2
      · have hp : pickB t [1, 2] x = true := by simp [pickB, e0, e2]
        rw [if_neg (fun e => e1 e.2), if_pos ⟨e0, e2⟩, if_pos hp]
        have ha := hx.ask (.inr e2)
        have e9 : askX z x = Go.Proofs.Ytoalamakhjbedaa.up z (nv x 2).toNat 5 (anotV (z (nv x 2).toNat 5) (shlV 1 (nv x 3))) := by
          unfold askX askA
          rw [if_pos e2, up_same, anot_or (hz _ hxn) ha.1 (by omega), up_up]
        rw [e9]
        exact ⟨rfl, hz.up (ask_anot (hz _ hxn) ha.1 (by omega))⟩
      · have hp : ¬ pickB t [1, 2] x = true := by simp [pickB, e1, e2]
        rw [if_neg (fun e => e1 e.2), if_neg (fun e => e2 e.2), if_neg hp]
        exact ⟨rfl, hz⟩
  · have hp : ¬ pickB t [1, 2] x = true := by simp [pickB, e0]
    rw [if_neg (fun e => e0 e.1), if_neg (fun e => e0 e.1), if_neg hp]
    exact ⟨rfl, hz⟩

/- the noise -/
theorem hasB_iff {l : List (List Int)} {t k a b : Int} : hasB l t k a b = true ↔ ∃ x ∈ l, nv x 0 = t ∧ nv x 1 = k ∧ nv x 2 = a ∧ nv x 3 = b := by
  unfold hasB
  constructor
  · intro h
    refine Classical.byContradiction fun hn => ?_
    have : allN (fun i => !(hitB l t k a b i)) l.length = true := allN_iff.2 fun i hi => by
      cases hh : hitB l t k a b i with
      | false => rfl
      | true =>
        refine absurd ⟨l[i]?.getD [], ?_, ?_⟩ hn
        · rw [List.getElem?_eq_getElem hi]; exact List.getElem_mem hi
        · have h9 : cv l i 0 = t ∧ cv l i 1 = k ∧ cv l i 2 = a ∧ cv l i 3 = b := by simpa [hitB] using hh
          exact h9
    rw [this] at h; cases h
  · rintro ⟨x, hx, h1⟩
    obtain ⟨i, hi, rfl⟩ := List.getElem_of_mem hx
    cases ha : allN (fun i => !(hitB l t k a b i)) l.length with
    | false => rfl
    | true =>
      have := allN_iff.1 ha i hi
      have hh : hitB l t k a b i = true := by
        unfold hitB cv
        rw [List.getElem?_eq_getElem hi]
        show (nv l[i] 0 == t && (nv l[i] 1 == k && (nv l[i] 2 == a && nv l[i] 3 == b))) = true
        simp [h1]
      rw [hh] at this; cases this
theorem noise_at {hold : Int} (hh : 1 ≤ hold) {z : PS} {i : Nat} (L : List (List Int)) (j : Nat) : (L.foldl (noiseX hold) z) i j = if (∃ x ∈ L, (nv x 2).toNat = i) ∧ z i 16 = 0 ∧ 0 < z i 15 ∧ z i 14 = 0 then up (up z i 15 (z i 15 - 1)) i 14 hold i j else z i j := by
  induction L generalizing z with
  | nil => rw [if_neg (by simp)]; rfl
  | cons x L ih =>
    rw [List.foldl_cons, ih]
    by_cases ei : (nv x 2).toNat = i
    · by_cases e : z i 16 = 0 ∧ 0 < z i 15 ∧ z i 14 = 0
      · have e2 : noiseX hold z x = up (up z i 15 (z i 15 - 1)) i 14 hold := by
          have := noiseX_pos (hold := hold) (s := z) (x := x) (by rw [ei]; exact e.1) (by rw [ei]; exact e.2.1) (by rw [ei]; exact e.2.2)
          rwa [ei] at this
        rw [e2, if_neg (by rw [up_same]; omega), if_pos ⟨⟨x, by simp, ei⟩, e⟩]
      · have e2 : noiseX hold z x = z := noiseX_neg (by rw [ei]; exact e)
        rw [e2, if_neg (fun q => e q.2), if_neg (fun q => e q.2)]
    · have e2 : ∀ b, noiseX hold z x i b = z i b := fun b => by
        unfold noiseX
        split
        · rw [up_ne _ _ (.inl (Ne.symm ei)), up_ne _ _ (.inl (Ne.symm ei))]
        · rfl
      have e3 : (∃ y ∈ x :: L, (nv y 2).toNat = i) ↔ ∃ y ∈ L, (nv y 2).toNat = i := by simp [ei]
      have e4 : up (up (noiseX hold z x) i 15 (z i 15 - 1)) i 14 hold i j = up (up z i 15 (z i 15 - 1)) i 14 hold i j := by
        unfold up; simp [e2]
      simp only [e2, e3, e4]
theorem refill_at {t : Int} {m : Nat} {z y : PS} (h : ∀ j, z m j = y m j) (j : Nat) : refill1 t m z m j = refill1 t m y m j := by
  by_cases hc : 0 < t ∧ t % y m 4 = 0
  · rw [refill1_pos hc.1 (by rw [h]; exact hc.2), refill1_pos hc.1 hc.2, h 15, h 3]; unfold up; simp [h]
  · rw [refill1_neg (by rw [h]; exact hc), refill1_neg hc]; exact h j
theorem nz_at {hold : Int} {l : List (List Int)} {t : Int} {m : Nat} {z y : PS} (h : ∀ j, z m j = y m j) (j : Nat) : nzR hold l t m z m j = nzR hold l t m y m j := by
  unfold nzR
  by_cases hc : hasB l t 3 m 0 = true ∧ y m 16 = 0 ∧ 0 < y m 15
  · rw [if_pos (by rw [h, h]; exact hc), if_pos hc, h 15]; unfold up; simp [h]
  · rw [if_neg (by rw [h, h]; exact hc), if_neg hc]; exact h j
theorem dis_part {hold : Int} {l : List (List Int)} {t : Int} {s : PS} : ∀ m, (∀ a j, m ≤ a → itN (dis1 hold l t) m s a j = s a j) ∧ (∀ a j, a < m → itN (dis1 hold l t) m s a j = dis1 hold l t a s a j)
  | 0 => ⟨fun _ _ _ => rfl, fun a j h => absurd h (Nat.not_lt_zero _)⟩
  | m + 1 => by
    obtain ⟨h1, h2⟩ := dis_part (hold := hold) (l := l) (t := t) (s := s) m
    rw [itN_succ]
    have hne : ∀ (z : PS) a j, a ≠ m → dis1 hold l t m z a j = z a j := fun z a j h => by
      unfold dis1 nzR refill1
      split <;> split <;> simp only [up_ne _ _ (Or.inl h)]
    have hat : ∀ (z y : PS), (∀ j, z m j = y m j) → ∀ j, dis1 hold l t m z m j = dis1 hold l t m y m j := fun z y h j => nz_at (fun j => refill_at h j) j
    refine ⟨fun a j h => ?_, fun a j h => ?_⟩
    · rw [hne _ a j (by omega)]; exact h1 a j (by omega)
    · by_cases e : a = m
      · subst e; exact hat _ _ (fun j => h1 a j (Nat.le_refl _)) j
      · rw [hne _ a j e]; exact h2 a j (by omega)
theorem refill_part {t : Int} {s : PS} : ∀ m, (∀ a j, m ≤ a → itN (refill1 t) m s a j = s a j) ∧ (∀ a j, a < m → itN (refill1 t) m s a j = refill1 t a s a j)
  | 0 => ⟨fun _ _ _ => rfl, fun a j h => absurd h (Nat.not_lt_zero _)⟩
  | m + 1 => by
    obtain ⟨h1, h2⟩ := refill_part (t := t) (s := s) m
    rw [itN_succ]
    have hne : ∀ (z : PS) a j, a ≠ m → refill1 t m z a j = z a j := fun z a j h => by
      unfold refill1
      split
      · rw [up_ne _ _ (.inl h)]
      · rfl
    have hat : ∀ (z y : PS), (∀ j, z m j = y m j) → ∀ j, refill1 t m z m j = refill1 t m y m j := fun z y h j => refill_at h j
    refine ⟨fun a j h => ?_, fun a j h => ?_⟩
    · rw [hne _ a j (by omega)]; exact h1 a j (by omega)
    · by_cases e : a = m
      · subst e; exact hat _ _ (fun j => h1 a j (Nat.le_refl _)) j
      · rw [hne _ a j e]; exact h2 a j (by omega)
theorem tickD_eq {hold gr tt : Int} {nd l : List (List Int)} {n : Nat} (hh : 1 ≤ hold) (hnu : NuAll gr nd tt l) (hnl : nd.length = n) {s : PS} (hq : ∀ i, i < n → s i 16 = 0 → s i 14 = 0) (t : Nat) : itN (dis1 hold l t) n s = disturbS hold l n t s := by
  funext a j
  unfold disturbS
  rw [noise_at hh]
  have hmem : (∃ x ∈ picks l t [3], (nv x 2).toNat = a) ↔ hasB l t 3 a 0 = true := by
    rw [hasB_iff]
    constructor
    · rintro ⟨x, hx, e⟩
      unfold picks at hx
      obtain ⟨hx1, hx2⟩ := List.mem_filter.1 hx
      have hu := hnu x hx1
      unfold pickB at hx2
      simp at hx2
      have := hu.n0
      exact ⟨x, hx1, hx2.1, hx2.2, by omega, hu.noi hx2.2⟩
    · rintro ⟨x, hx, h0, h1, h2, h3⟩
      refine ⟨x, List.mem_filter.2 ⟨hx, by simp [pickB, h0, h1]⟩, by rw [h2]; rfl⟩
  by_cases ha : a < n
  · rw [(dis_part n).2 a j ha]
    have hr : ∀ b, itN (refill1 t) n s a b = refill1 t a s a b := fun b => (refill_part n).2 a b ha
    have h16 : refill1 t a s a 16 = s a 16 := by
      unfold refill1
      split
      · rw [up_ne _ _ (.inr (by decide))]
      · rfl
    have h14 : refill1 t a s a 14 = s a 14 := by
      unfold refill1
      split
      · rw [up_ne _ _ (.inr (by decide))]
      · rfl
    have hup : ∀ v, up (up (itN (refill1 t) n s) a 15 v) a 14 hold a j = up (up (refill1 t a s) a 15 v) a 14 hold a j := fun v => by
      unfold up
      simp [hr]
    simp only [hr, hmem, hup]
    unfold dis1 nzR
    by_cases e : hasB l t 3 a 0 = true ∧ refill1 t a s a 16 = 0 ∧ 0 < refill1 t a s a 15
    · rw [if_pos e, if_pos ⟨e.1, e.2.1, e.2.2, by rw [h14]; exact hq a ha (by rw [← h16]; exact e.2.1)⟩]
    · rw [if_neg e, if_neg (fun x => e ⟨x.1, x.2.1, x.2.2.1⟩)]
  · rw [(dis_part n).1 a j (by omega), (refill_part n).1 a j (by omega), if_neg]
    rintro ⟨⟨x, hx, e⟩, _⟩
    have hu := hnu x (List.mem_filter.1 hx).1
    have h1 := hu.n0
    have h2 := hu.n1
    omega

/- what is sent -/
theorem lost_fold {a b : Nat} : ∀ (L : List (List Int)) (f : Nat → Nat → Bool), (L.foldl lostX f) a b = true ↔ f a b = true ∨ ∃ x ∈ L, a = (nv x 2).toNat ∧ b = (nv x 3).toNat
  | [], f => by simp
  | x :: L, f => by
    rw [List.foldl_cons, lost_fold L]
    unfold lostX
    by_cases e : a = (nv x 2).toNat ∧ b = (nv x 3).toNat
    · rw [if_pos e]; simp [e]
    · rw [if_neg e]
      constructor
      · rintro (h | ⟨y, hy, h⟩)
        · exact .inl h
        · exact .inr ⟨y, by simp [hy], h⟩
      · rintro (h | ⟨y, hy, h⟩)
        · exact .inl h
        · rcases List.mem_cons.1 hy with e2 | e2
          · subst e2; exact absurd h e
          · exact .inr ⟨y, e2, h⟩
theorem lost_has {gr tt : Int} {nd l : List (List Int)} (hnu : NuAll gr nd tt l) (t : Nat) (a b : Nat) : lostF l t a b = hasB l t 4 a b := by
  rw [Bool.eq_iff_iff, hasB_iff]
  unfold lostF
  rw [lost_fold]
  constructor
  · rintro (h | ⟨x, hx, h1, h2⟩)
    · cases h
    · unfold picks at hx
      obtain ⟨hx1, hx2⟩ := List.mem_filter.1 hx
      unfold pickB at hx2
      simp at hx2
      have hu := hnu x hx1
      have h3 := hu.n0
      have h4 := hu.los hx2.2
      exact ⟨x, hx1, hx2.1, hx2.2, by omega, by omega⟩
  · rintro ⟨x, hx, h0, h1, h2, h3⟩
    exact .inr ⟨x, List.mem_filter.2 ⟨hx, by simp [pickB, h0, h1]⟩, by rw [h2]; rfl, by rw [h3]; rfl⟩
def GrpN (n : Nat) (s : PS) : Prop := ∀ i, i < n → ∃ G : Nat, s i 0 = G ∧ G < 256
theorem bit_and2 {x y : Int} (hx : ∃ A : Nat, x = A ∧ A < 256) (hy : ∃ A : Nat, y = A ∧ A < 256) (g : Nat) : bitB (andV x y) g = (bitB x g && bitB y g) := by
  obtain ⟨A, rfl, hA⟩ := hx
  obtain ⟨B, rfl, hB⟩ := hy
  rw [and_bitB (by omega) (by omega), bit_nat (by omega), bit_nat (by omega)]
theorem tickE_eq {hold gr tt : Int} {nd l : List (List Int)} {n g : Nat} (hnu : NuAll gr nd tt l) {s : PS} (h1 : AskN n s) (h2 : GrpN n s) (t : Nat) : itN (sndR3 hold l t g n) n s = sendS hold g n (lostF l t) s := by
  have hP : ∀ z : PS, AskN n z ∧ GrpN n z → ∀ b q v, AskN n (up z b (6 + q) v) ∧ GrpN n (up z b (6 + q) v) := fun z hz b q v =>
    ⟨fun i hi => by rw [up_ne _ _ (.inr (by omega))]; exact hz.1 i hi, fun i hi => by rw [up_ne _ _ (.inr (by omega))]; exact hz.2 i hi⟩
  refine (itN_congr (P := fun z => AskN n z ∧ GrpN n z) ⟨h1, h2⟩ n (fun a z ha hz => ?_)).1
  refine itN_congr (P := fun z => AskN n z ∧ GrpN n z) hz n (fun b z hb hz => ?_)
  refine itN_congr (P := fun z => AskN n z ∧ GrpN n z) hz g (fun q z hq hz => ?_)
  unfold sndR1 send1
  rw [lost_has hnu, bit_and2 (hz.1 a ha) (hz.2 b hb)]
  by_cases e : bitB (z a 5) q = true ∧ bitB (z b 0) q = true ∧ hasB l t 4 a b = false
  · rw [if_pos e, if_pos ⟨e.2.2, by rw [e.1, e.2.1]; rfl⟩]
    exact ⟨rfl, hP z hz b q hold⟩
  · rw [if_neg e, if_neg (fun x => e ⟨by have := x.2; simp at this; exact this.1, by have := x.2; simp at this; exact this.2, x.1⟩)]
    exact ⟨rfl, hz⟩
theorem send_hi {hold : Int} {lost : Nat → Nat → Bool} {g n i k : Nat} {s : PS} (hk : g ≤ k) : sendS hold g n lost s i (6 + k) = s i (6 + k) := by
  unfold sendS
  refine itN_keep (P := fun z : PS => z i (6 + k) = s i (6 + k)) rfl n (fun a z _ hz => ?_)
  unfold send3
  refine itN_keep (P := fun z : PS => z i (6 + k) = s i (6 + k)) hz n (fun b z _ hz => ?_)
  unfold send2
  refine itN_keep (P := fun z : PS => z i (6 + k) = s i (6 + k)) hz g (fun q z hq hz => ?_)
  unfold send1
  split
  · rw [up_ne _ _ (.inr (by omega))]; exact hz
  · exact hz

/- a tick, and the ticks -/
structure TOk (n g : Nat) (s : PS) : Prop where
  ok : SOk n s
  ask : AskN n s
  grp : GrpN n s
  q : ∀ i, i < n → s i 16 = 0 → s i 14 = 0
  z : ∀ i, i < n → ∀ k, g ≤ k → k < 8 → s i (6 + k) = 0
theorem tickR_eq {hold gr tt : Int} {nd l : List (List Int)} {n g : Nat} (hh : 1 ≤ hold) (hh2 : hold ≤ 100) (hg : g ≤ 8) (hg8 : gr ≤ 8) (hn : n ≤ 62) (hnu : NuAll gr nd tt l) (hnl : nd.length = n) {p : PR} (h : TOk n g p.s) (t : Nat) :
    tickR hold g n l t p = tick hold g n l t p ∧ TOk n g (tick hold g n l t p).s := by
  have hlt : ∀ x ∈ l, (nv x 2).toNat < n := fun x hx => by have := (hnu x hx).n0; have := (hnu x hx).n1; omega
  obtain ⟨a1, a2⟩ := tickA_eq hg8 hnu hnl h.ask t
  have a3 : GrpN n (askS l t p.s) := fun i hi => by rw [askS_ne _ (by decide)]; exact h.grp i hi
  have o1 := h.ok.askS l t
  have d1 : tickD hold n l t p.s = disturbS hold l n t (askS l t p.s) := by
    unfold tickD
    rw [a1]
    exact tickD_eq hh hnu hnl (fun i hi => by rw [askS_ne _ (by decide), askS_ne _ (by decide)]; exact h.q i hi) t
  have o2 := o1.disturb hh hh2 hlt t
  have d2 : AskN n (disturbS hold l n t (askS l t p.s)) := fun i hi => by rw [disturb_ne _ (by decide) (by decide)]; exact a2 i hi
  have d3 : GrpN n (disturbS hold l n t (askS l t p.s)) := fun i hi => by rw [disturb_ne _ (by decide) (by decide)]; exact a3 i hi
  have e1 : tickE hold g n l t p.s = sendS hold g n (lostF l t) (disturbS hold l n t (askS l t p.s)) := by
    unfold tickE
    rw [d1]
    exact tickE_eq hnu d2 d3 t
  have o3 := o2.send hh hh2 (lost := lostF l t) (gr := g) (k := n)
  have z3 : ∀ i, i < n → ∀ k, g ≤ k → k < 8 → sendS hold g n (lostF l t) (disturbS hold l n t (askS l t p.s)) i (6 + k) = 0 := fun i hi k h1 h2 => by
    rw [send_hi h1, disturb_ne _ (by omega) (by omega), askS_ne _ (by omega)]; exact h.z i hi k h1 h2
  have p1 := pas_eq (s := sendS hold g n (lostF l t) (disturbS hold l n t (askS l t p.s))) (gr := g) (n := n) hn hg (fun i hi k hk => (o3.t i hi (6 + k) (by omega) (by omega)).1) z3 n (Nat.le_refl _)
  refine ⟨?_, ?_⟩
  · show PR.mk _ _ _ = PR.mk _ _ _
    rw [e1, p1, a1]; rfl
  · have hs : (tick hold g n l t p).s = (passS n (sendS hold g n (lostF l t) (disturbS hold l n t (askS l t p.s)))).1 := rfl
    have o4 : SOk n (tick hold g n l t p).s := h.ok.tick hh hh2 hlt t
    have hat : ∀ i, i < n → ∀ j, (tick hold g n l t p).s i j = passN i (sendS hold g n (lostF l t) (disturbS hold l n t (askS l t p.s))) i j := fun i hi j => passS_st hn hi j
    refine ⟨o4, fun i hi => ?_, fun i hi => ?_, fun i hi h16 => ?_, fun i hi k h1 h2 => ?_⟩
    · rw [hat i hi, passN_ne (.inr (.inl (by decide))), sendS_lo (.inl (by decide)) (by omega)]; exact d2 i hi
    · rw [hat i hi, passN_ne (.inr (.inl (by decide))), sendS_lo (.inl (by decide)) (by omega)]; exact d3 i hi
    · rw [hat i hi, passN_aw] at h16
      have hno : ¬ awB (sendS hold g n (lostF l t) (disturbS hold l n t (askS l t p.s))) i = true := fun e => by rw [if_pos e] at h16; cases h16
      have h3 : ¬ 0 < sendS hold g n (lostF l t) (disturbS hold l n t (askS l t p.s)) i 14 := fun e => hno (awB_iff.2 ⟨8, by omega, e⟩)
      have h4 := (o3.t i hi 14 (by omega) (by omega)).1
      rw [hat i hi, passN_tm i (k := 8) (by omega), if_neg h3]
      exact Int.le_antisymm (Int.not_lt.1 h3) h4
    · rw [hat i hi, passN_tm i (by omega), z3 i hi k h1 h2]; rfl
def runR (hold : Int) (g n : Nat) (l nd : List (List Int)) (t : Nat) : PR := itN (tickR hold g n l) t ⟨startS nd, [], []⟩
theorem runR_eq {hold gr tt : Int} {nd l : List (List Int)} (hc : CluOk gr hold nd) (hnu : NuAll gr nd tt l) (t : Nat) : runR hold gr.toNat nd.length l nd t = runFrom hold gr.toNat nd.length l (startS nd) t ∧ TOk nd.length gr.toNat (runFrom hold gr.toNat nd.length l (startS nd) t).s := by
  have h16 := hc.n16
  have hg8 := hc.g8
  refine itN_congr (P := fun p : PR => TOk nd.length gr.toNat p.s) ?_ t (fun k p _ hp => tickR_eq hc.h1 hc.h100 (by omega) hg8 (by omega) hnu rfl hp k)
  refine ⟨SOk.start hc, fun i hi => ⟨0, rfl, by decide⟩, fun i hi => ?_, fun i hi _ => rfl, fun i hi k h1 h2 => ?_⟩
  · obtain ⟨G, h1, h2, _⟩ := hc.groups hi
    exact ⟨G, h1, h2⟩
  · show (if 6 + k < 5 then cv nd i (6 + k) else if 6 + k = 15 then cv nd i 3 else 0) = 0
    rw [if_neg (by omega), if_neg (by omega)]
end
section
set_option linter.unusedVariables false
open Go.RowKit
section
variable {W W' : World} {tb T N z hi B : Nat} {p : Nd}
end
theorem make34 (W : World) {N : Nat} {x : Int} (hx : x = N) (hN : N ≤ 1000000) : ∃ W', (Instr.makeSlice 34 (.int .i64 x) (.int .i64 x)).run Try.prog W = .ok (.slice (some ⟨W.heap.size, 0, none⟩) N N) W' ∧ OwnP W' W.heap.size N (EV (fun _ => 0)) ∧ Gr W W' := by
  subst hx
  obtain ⟨i, hi, h0, h1, h2⟩ := info_parts Try.info3
  have hr := run_make (P := Try.prog) W 34 3 i _ Try.underlying34 hi h0 .i64 .i64 N N (by omega) (Int.le_refl _) (by rw [h2]; omega) (by omega)
  simp only [Int.toNat_natCast, h1] at hr
  refine ⟨_, hr, ⟨_, _, World.alloc_heap_new _ _, by rw [size_madeCells]; omega, fun k hk => ?_⟩, Gr.alloc _ _⟩
  unfold madeCells EV
  simp only [Value.cells, Array.getElem?_map]
  rw [Array.getElem?_eq_getElem (by simpa using hk)]
  simp [Nat.mod_one]
end
section
open Go.RowKit

set_option maxRecDepth 100000 in
set_option maxHeartbeats 1000000 in
theorem ask_any (wB w : World) (bp bn : Nat) (gr hold : Int) (na la pa : Option Addr) (n nc m lc cap : Nat) (l : List (List Int)) (s : PS) (t : Int) (hP : PlE wB w bp bn gr hold na la pa n nc m lc cap l) (hS : OwnP w bn (n * 17) (NV s)) (h16 : n ≤ 16) (hn : ∃ nd : List (List Int), ∃ tt : Int, nd.length = n ∧ gr ≤ 8 ∧ ∀ x ∈ l, NuOk gr nd tt x) :
  Calls Try.prog 70 #[Vp bp, Vi t] w fun e w' => e = .returned (Vi (asksG n (askS l t s))) ∧ Only (fun b => b = bn) w w' ∧ OwnP w' bn (n * 17) (NV (askS l t s)) := by
 have G := Gr.refl w
 have hE := Only.refl (fun b => b = bn) w
 have hC := hP.p
 have hpb := hP.pb
 have hnb := hP.nb
 have hgb := hP.g.size
 have hpe := hP.ne
 have hplt := hP.lt
 have hnlt := hS.lt
 obtain ⟨nd, tt, hndl, hg8, hnu⟩ := hn
 refine Y.calls 59 Try.func70 rfl rfl ?_
 intro ac F0
 have F : Fr ac 59 [(0, Vp bp), (1, Vi t)] := F0.sub _
 clear F0
 refine Y.seq ?_
 refine Y.lit (by kernel_rfl) ?_
 refine Y.pv F (X.box rfl (F.e 0 rfl) (Y.bx1 rfl)) ?_;clear F ac;intro ac F
 have hq3 : bn < w.heap.size := hS.lt
 have hq4 : bp < w.heap.size := lt_cell (hC.at 0 rfl)
 have g := Gr.alloc w (.cells #[Vp bp] 60)
 have hb := heap_alloc_new w (.cells #[Vp bp] 60)
 have hbl : w.heap.size < (w.alloc (.cells #[Vp bp] 60)).heap.size := by simp
 have hC2 : RCells (w.alloc (.cells #[Vp bp] 60)) [(Ad bp 0, Vi gr), (Ad bp 1, Vi hold), (Ad bp 2, .slice na n nc), (Ad bp 3, .slice la m lc), (Ad bp 4, .slice pa n cap), (Ad w.heap.size 0, Vp bp)] := hC.box (b := w.heap.size) #[Vp bp] 60 rfl
 generalize w.alloc (.cells #[Vp bp] 60) = w5 at *
 replace G := G.trans g
 replace hC := hC2
 clear hC2
 replace hE := hE.thenGr g
 replace hP := hP.gr g
 replace hS := hS.gr g
 clear g hb hbl
 refine Y.pv F (X.assign rfl (X.kc (Vi 0) rfl)) ?_;clear F ac;intro ac F
 refine Y.nil ?_
 replace F : Fr ac 59 [(0, Vp bp), (1, Vi t), (2, Vp w.heap.size), (4, Vi 0)] := F.sub _
 refine X.thenN ?_
 refine Y.seq ?_
 refine Y.seq ?_
 refine Y.lit (by kernel_rfl) ?_
 refine Y.pv F (X.load rfl (F.e 2 rfl) (X.ld1 (Try.agg60 _) (hC.at 5 rfl))) ?_;clear F ac;intro ac F
 refine Y.pv F (X.move rfl (F.e 1 rfl)) ?_;clear F ac;intro ac F
 refine Y.pv F (X.bs rfl (X.b2 (X.kc (Vi 1) rfl) (X.kc (Vi 2) rfl)) (Try.bs34_2 1 2 _)) ?_;clear F ac;intro ac F
 have hq6 : bn < w5.heap.size := hS.lt
 have hq7 : bp < w5.heap.size := lt_cell (hC.at 0 rfl)
 have hq8 : w.heap.size < w5.heap.size := lt_cell (hC.at 5 rfl)
 have g := Gr.alloc w5 (.cells #[Vi 1, Vi 2] 3)
 have hb := heap_alloc_new w5 (.cells #[Vi 1, Vi 2] 3)
 have hbl : w5.heap.size < (w5.alloc (.cells #[Vi 1, Vi 2] 3)).heap.size := by simp
 have hC2 : RCells (w5.alloc (.cells #[Vi 1, Vi 2] 3)) [(Ad bp 0, Vi gr), (Ad bp 1, Vi hold), (Ad bp 2, .slice na n nc), (Ad bp 3, .slice la m lc), (Ad bp 4, .slice pa n cap), (Ad w.heap.size 0, Vp bp), (Ad w5.heap.size 0, Vi 1), (Ad w5.heap.size 1, Vi 2)] := hC.box (b := w5.heap.size) #[Vi 1, Vi 2] 3 rfl
 generalize w5.alloc (.cells #[Vi 1, Vi 2] 3) = w9 at *
 replace G := G.trans g
 replace hC := hC2
 clear hC2
 replace hE := hE.thenGr g
 replace hP := hP.gr g
 replace hS := hS.gr g
 have hks := (ints_two (hC.at 6 rfl) (hC.at 7 rfl) : Ints w9 (some ⟨w5.heap.size, 0, none⟩) 2 [1, 2])
 clear g hb hbl
 refine Y.pcall F (X.w0 rfl) rfl (X.enter (F := 84) rfl (X.kc (.func (.func 84) #[] #[]) rfl) (X.a3 (F.e 9 rfl) (F.e 10 rfl) (F.e 11 rfl)) (enters_of Try.func84 (by kernel_rfl) rfl _)) (at_any bp t (some ⟨w5.heap.size, 0, none⟩) 2 2 w9) ?_
 have hq10 : bn < w9.heap.size := hS.lt
 have hq11 : bp < w9.heap.size := lt_cell (hC.at 0 rfl)
 have hq12 : w.heap.size < w9.heap.size := lt_cell (hC.at 5 rfl)
 have hq13 : w5.heap.size < w9.heap.size := lt_cell (hC.at 6 rfl)
 clear F ac
 rintro e w14 ⟨bx, bt, bk, rfl, cx, ct, ck, hb1, ⟨hb2, hb3⟩, g⟩
 refine ⟨_, rfl, ?_⟩
 intro ac F
 replace G := G.trans g
 replace hC := hC.gr g
 replace hE := hE.thenGr g
 replace hP := hP.gr g
 replace hS := hS.gr g
 replace hks := hks.gr g
 clear g
 replace hC : RCells w14 [(Ad bp 0, Vi gr), (Ad bp 1, Vi hold), (Ad bp 2, .slice na n nc), (Ad bp 3, .slice la m lc), (Ad bp 4, .slice pa n cap), (Ad w.heap.size 0, Vp bp), (Ad w5.heap.size 0, Vi 1), (Ad w5.heap.size 1, Vi 2), (Ad bx 0, Vp bp), (Ad bt 0, Vi t), (Ad bk 0, .slice (some ⟨w5.heap.size, 0, none⟩) 2 2)] := hC.append ((RCells.cons cx (RCells.cons ct (RCells.cons ck (RCells.nil _)))))
 refine Y.nil ?_
 replace F : Fr ac 59 [(0, Vp bp), (1, Vi t), (2, Vp w.heap.size), (4, Vi 0), (12, .func (.func 96) #[] #[Vp bx, Vp bt, Vp bk])] := F.sub _
 refine X.thenN ?_
 refine Y.block ?_
 replace F : Fr ac 59 [(0, Vp bp), (1, Vi t), (2, Vp w.heap.size), (4, Vi 0), (12, .func (.func 96) #[] #[Vp bx, Vp bt, Vp bk])] := F.sub _
 have hq15 : bn < w14.heap.size := hS.lt
 have hq16 : bk < w14.heap.size := lt_cell (hC.at 10 rfl)
 have hq17 : bp < w14.heap.size := lt_cell (hC.at 0 rfl)
 have hq18 : bt < w14.heap.size := lt_cell (hC.at 9 rfl)
 have hq19 : bx < w14.heap.size := lt_cell (hC.at 8 rfl)
 have hq20 : w.heap.size < w14.heap.size := lt_cell (hC.at 5 rfl)
 have hq21 : w5.heap.size < w14.heap.size := lt_cell (hC.at 6 rfl)
 have hPb := hP.pb
 have hPn := hP.nb
 have hPe := hP.ne
 have hgB := hP.g.size
 have hmut : bn < w14.heap.size := hS.lt
 have hkb : w5.heap.size < w14.heap.size := lt_cell (hC.at 6 rfl)
 refine Y.atRange (D := []) F (by decide) (by decide) rfl rfl rfl rfl rfl rfl rfl (F.ev 12 _) (fun b => b = bn) (fun b e => by rw [e]; exact hmut) (hP.ate (hC.at 8 rfl) (hC.at 9 rfl) (hC.at 10 rfl) hks hkb (fun b e => by subst e; exact ⟨by omega, by omega, by omega, by omega, by omega, by omega⟩)) (fun xs W => OwnP W bn (n * 17) (NV (xs.foldl askX s))) hS (fun xs W W2 h g => h.only g (by omega)) ?_ ?_
 ·have hP_r := hP
  have hC_r := hC
  clear F ac G hP hC hE
  clear hS
  intro pre x w22 ac xb hQ hS hpre hx4 hxb hN F
  have hP := hP_r.on hQ
  have hC : RCells w22 [(Ad bp 0, Vi gr), (Ad bp 1, Vi hold), (Ad bp 2, .slice na n nc), (Ad bp 3, .slice la m lc), (Ad bp 4, .slice pa n cap), (Ad w.heap.size 0, Vp bp), (Ad xb 0, Vi (nv x 0)), (Ad xb 1, Vi (nv x 1)), (Ad xb 2, Vi (nv x 2)), (Ad xb 3, Vi (nv x 3))] := (hC_r.kc hQ 0 rfl (hC_r.kc hQ 1 rfl (hC_r.kc hQ 2 rfl (hC_r.kc hQ 3 rfl (hC_r.kc hQ 4 rfl (hC_r.kc hQ 5 rfl hN))))))
  have G := Gr.refl w22
  have hR_ := Only.refl (fun b => b = bn) w22
  replace F : Fr ac 59 [(0, Vp bp), (1, Vi t), (2, Vp w.heap.size), (4, Vi 0), (5, Vp xb), (12, .func (.func 96) #[] #[Vp bx, Vp bt, Vp bk]), (13, .agg #[Vi (nv x 0), Vi (nv x 1), Vi (nv x 2), Vi (nv x 3)])] := F.sub _
  have hnx := hnu x (mem_pre hpre)
  have hxn := hnx.n0
  have hxn1 := hnx.n1
  have hpk := pick_pre hpre
  have hxa := hnx.ask (by simpa [pickB] using hpk.2)
  have hx30 := hxa.1
  have hx31 := hxa.2.1
  refine Y.block ?_
  refine Y.seq ?_
  obtain rfl : pa = some ⟨bn, 0, none⟩ := hP.hpa (by omega)
  refine Y.region F [some (Vp bp), some (Vp bp), some (.pointer (some ⟨bp, 4, none⟩)), some (.slice (some ⟨bn, 0, none⟩) n cap), some (.pointer (some ⟨xb, 2, none⟩)), some (Vi (nv x 2)), some (.pointer (some ⟨bn, ((nv x 2).toNat) * 17, none⟩)), some (.pointer (some ⟨bn, ((nv x 2).toNat) * 17, none⟩))] [] rfl ⟨by kernel_rfl, of_decide_eq_true (by kernel_rfl), by kernel_rfl, by kernel_rfl, by kernel_rfl⟩ ⟨?_, ?_, ?_, ?_, ?_, ?_, ?_, ?_, trivial⟩ ?_
  ·intro ac done u W Sx hR
   have g : Gr w22 W := hR.1
   exact X.vl (X.load rfl (Sx.ev 2 (Vp w.heap.size)) (X.ld1 (Try.agg60 _) ((hC.gr g).at 5 rfl))) hR.st0
  ·intro ac done u W Sx hR
   exact X.vl (Y.nilC rfl (Sx.ev 14 (Vp bp))) hR.st0
  ·intro ac done u W Sx hR
   exact X.vl (X.field rfl (Sx.ev 15 (Vp bp)) (X.fld Try.underlying101 rfl (Try.siz99 _) rfl rfl)) hR.st0
  ·intro ac done u W Sx hR
   have g : Gr w22 W := hR.1
   exact X.vl (X.load rfl (Sx.ev 16 (.pointer (some ⟨bp, 4, none⟩))) (X.ld1 (Try.agg99 _) ((hC.gr g).at 4 rfl))) hR.st0
  ·intro ac done u W Sx hR
   exact X.vl (X.field rfl (Sx.ev 5 (Vp xb)) (X.fld Try.underlying33 rfl (Try.siz3 _) rfl rfl)) hR.st0
  ·intro ac done u W Sx hR
   have g : Gr w22 W := hR.1
   exact X.vl (X.load rfl (Sx.ev 18 (.pointer (some ⟨xb, 2, none⟩))) (X.ld1 (Try.agg3 _) ((hC.gr g).at 8 rfl))) hR.st0
  ·intro ac done u W Sx hR
   exact X.vl (X.index rfl (Sx.ev 17 (.slice (some ⟨bn, 0, none⟩) n cap)) (Sx.ev 19 (Vi (nv x 2))) (X.idx (k := (nv x 2).toNat) Try.underlying99 (Try.siz104 _) (by omega) (by omega) (addr_add0 _ _))) hR.st0
  ·intro ac done u W Sx hR
   exact X.vl (X.assign rfl (Sx.ev 20 (.pointer (some ⟨bn, ((nv x 2).toNat) * 17, none⟩)))) hR.st0
  intro ac u w23 hs hd hl ho hR
  have g : Gr w22 w23 := hR.1
  replace F : Fr ac 59 [(0, Vp bp), (1, Vi t), (2, Vp w.heap.size), (4, Vi 0), (5, Vp xb), (6, .pointer (some ⟨bn, ((nv x 2).toNat) * 17, none⟩)), (12, .func (.func 96) #[] #[Vp bx, Vp bt, Vp bk]), (13, .agg #[Vi (nv x 0), Vi (nv x 1), Vi (nv x 2), Vi (nv x 3)])] := X.fr hs hd hl _ (by kernel_rfl)
  clear hs hd hl ho hR
  replace G := G.trans g
  replace hC := hC.gr g
  replace hQ := hQ.thenGr g
  replace hR_ := hR_.thenGr g
  replace hP := hP.gr g
  replace hS := hS.gr g
  clear g
  refine X.thenN ?_
  refine Y.seq ?_
  replace hC : RCells w23 [(Ad bp 0, Vi gr), (Ad bp 1, Vi hold), (Ad bp 2, .slice na n nc), (Ad bp 3, .slice la m lc), (Ad bp 4, .slice (some ⟨bn, 0, none⟩) n cap), (Ad w.heap.size 0, Vp bp), (Ad xb 0, Vi (nv x 0)), (Ad xb 1, Vi (nv x 1)), (Ad xb 2, Vi (nv x 2)), (Ad xb 3, Vi (nv x 3)), (⟨bn, ((nv x 2).toNat) * 17 + 5, none⟩, Vi ((pre.foldl askX s) ((nv x 2).toNat) 5))] := hC.append ((RCells.cons ((hS.cell (k := ((nv x 2).toNat) * 17 + 5) (by omega)).trans (congrArg some (NV_int (pre.foldl askX s) ((nv x 2).toNat) 5 (by decide)))) (RCells.nil _)))
  refine Y.regionS F [some (.pointer (some ⟨bn, ((nv x 2).toNat) * 17, none⟩)), some (.pointer (some ⟨bn, ((nv x 2).toNat) * 17, none⟩)), some (.pointer (some ⟨bn, ((nv x 2).toNat) * 17 + 5, none⟩)), some (Vi ((pre.foldl askX s) ((nv x 2).toNat) 5)), some (.pointer (some ⟨xb, 3, none⟩)), some (Vi (nv x 3)), some (Vi (shlV 1 (nv x 3 : Int))), some (Vi (orV ((pre.foldl askX s) ((nv x 2).toNat) 5 : Int) (shlV 1 (nv x 3 : Int) : Int))), some (.pointer (some ⟨bn, ((nv x 2).toNat) * 17, none⟩)), some (.pointer (some ⟨bn, ((nv x 2).toNat) * 17 + 5, none⟩)), none] [] 10 (fun _ W => Only (fun x => x = bn) w23 W ∧ OwnP W bn (n * 17) (NV (up (pre.foldl askX s) ((nv x 2).toNat) 5 (orV ((pre.foldl askX s) ((nv x 2).toNat) 5 : Int) (shlV 1 (nv x 3 : Int) : Int) : Int)))) rfl ⟨by kernel_rfl, of_decide_eq_true (by kernel_rfl), by kernel_rfl, by kernel_rfl, by kernel_rfl⟩ (of_decide_eq_true (by kernel_rfl)) ⟨?_, ?_, ?_, ?_, ?_, ?_, ?_, ?_, ?_, ?_, ?_, trivial⟩ ?_
  ·intro ac done u W Sx hT
   have hs := Sx.no 10 (by kernel_rfl)
   have hR := hT.1 hs
   exact X.vl (X.move rfl (Sx.ev 6 (.pointer (some ⟨bn, ((nv x 2).toNat) * 17, none⟩)))) (Y.RT.of hs rfl hR.st0)
  ·intro ac done u W Sx hT
   have hs := Sx.no 10 (by kernel_rfl)
   have hR := hT.1 hs
   exact X.vl (Y.nilC rfl (Sx.ev 21 (.pointer (some ⟨bn, ((nv x 2).toNat) * 17, none⟩)))) (Y.RT.of hs rfl hR.st0)
  ·intro ac done u W Sx hT
   have hs := Sx.no 10 (by kernel_rfl)
   have hR := hT.1 hs
   exact X.vl (X.field rfl (Sx.ev 22 (.pointer (some ⟨bn, ((nv x 2).toNat) * 17, none⟩))) (X.fld Try.underlying104 rfl (Try.siz3 _) rfl rfl)) (Y.RT.of hs rfl hR.st0)
  ·intro ac done u W Sx hT
   have hs := Sx.no 10 (by kernel_rfl)
   have hR := hT.1 hs
   have g : Gr w23 W := hR.1
   exact X.vl (X.load rfl (Sx.ev 23 (.pointer (some ⟨bn, ((nv x 2).toNat) * 17 + 5, none⟩))) (X.ld1 (Try.agg3 _) ((hC.gr g).at 10 rfl))) (Y.RT.of hs rfl hR.st0)
  ·intro ac done u W Sx hT
   have hs := Sx.no 10 (by kernel_rfl)
   have hR := hT.1 hs
   exact X.vl (X.field rfl (Sx.ev 5 (Vp xb)) (X.fld Try.underlying33 rfl (Try.siz3 _) rfl rfl)) (Y.RT.of hs rfl hR.st0)
  ·intro ac done u W Sx hT
   have hs := Sx.no 10 (by kernel_rfl)
   have hR := hT.1 hs
   have g : Gr w23 W := hR.1
   exact X.vl (X.load rfl (Sx.ev 25 (.pointer (some ⟨xb, 3, none⟩))) (X.ld1 (Try.agg3 _) ((hC.gr g).at 9 rfl))) (Y.RT.of hs rfl hR.st0)
  ·intro ac done u W Sx hT
   have hs := Sx.no 10 (by kernel_rfl)
   have hR := hT.1 hs
   exact X.vl (X.binop rfl (X.kc (Vi 1) rfl) (Sx.ev 26 (Vi (nv x 3))) (X.shlI Try.underlying3 rfl (by omega))) (Y.RT.of hs rfl hR.st0)
  ·intro ac done u W Sx hT
   have hs := Sx.no 10 (by kernel_rfl)
   have hR := hT.1 hs
   exact X.vl (X.binop rfl (Sx.ev 24 (Vi ((pre.foldl askX s) ((nv x 2).toNat) 5))) (Sx.ev 27 (Vi (shlV 1 (nv x 3 : Int)))) (X.orI Try.underlying3 rfl)) (Y.RT.of hs rfl hR.st0)
  ·intro ac done u W Sx hT
   have hs := Sx.no 10 (by kernel_rfl)
   have hR := hT.1 hs
   exact X.vl (Y.nilC rfl (Sx.ev 21 (.pointer (some ⟨bn, ((nv x 2).toNat) * 17, none⟩)))) (Y.RT.of hs rfl hR.st0)
  ·intro ac done u W Sx hT
   have hs := Sx.no 10 (by kernel_rfl)
   have hR := hT.1 hs
   exact X.vl (X.field rfl (Sx.ev 29 (.pointer (some ⟨bn, ((nv x 2).toNat) * 17, none⟩))) (X.fld Try.underlying104 rfl (Try.siz3 _) rfl rfl)) (Y.RT.of hs rfl hR.st0)
  ·intro ac done u W Sx hT
   have hR := hT.1 Sx.nd
   have g : Gr w23 W := hR.1
   have hS2 := (hS.gr g).set (k := ((nv x 2).toNat) * 17 + 5) (Vi (orV ((pre.foldl askX s) ((nv x 2).toNat) 5 : Int) (shlV 1 (nv x 3 : Int) : Int)))
   rw [NV_up _ _ _ (by decide)] at hS2
   exact X.unit (X.w0 rfl) rfl (X.store rfl (Sx.ev 30 (.pointer (some ⟨bn, ((nv x 2).toNat) * 17 + 5, none⟩))) (Sx.ev 28 (Vi (orV ((pre.foldl askX s) ((nv x 2).toNat) 5 : Int) (shlV 1 (nv x 3 : Int) : Int)))) ((hS.gr g).st1 (Try.siz3 _) rfl rfl (by omega))) (Y.RT.fin ⟨(g.only _).trans (Y.set_only _ _ _ _), hS2⟩)
  rintro ac u w24 hs hd hl_ ho ⟨hon, hS2⟩
  replace F : Fr ac 59 [(0, Vp bp), (1, Vi t), (2, Vp w.heap.size), (4, Vi 0), (5, Vp xb), (6, .pointer (some ⟨bn, ((nv x 2).toNat) * 17, none⟩)), (12, .func (.func 96) #[] #[Vp bx, Vp bt, Vp bk]), (13, .agg #[Vi (nv x 0), Vi (nv x 1), Vi (nv x 2), Vi (nv x 3)])] := X.fr hs hd hl_ _ (by kernel_rfl)
  clear hs hd hl_ ho
  replace hP := hP.on hon
  replace hC := (hC.kc hon 0 rfl (hC.kc hon 1 rfl (hC.kc hon 2 rfl (hC.kc hon 3 rfl (hC.kc hon 4 rfl (hC.kc hon 5 rfl (hC.kc hon 6 rfl (hC.kc hon 7 rfl (hC.kc hon 8 rfl (hC.kc hon 9 rfl (RCells.nil _)))))))))))
  replace hQ := hQ.step hon (.inl rfl)
  replace hR_ := hR_.step hon (.inl rfl)
  replace G := Gr.refl w24
  replace hS : OwnP w24 bn (n * 17) (NV (up (pre.foldl askX s) ((nv x 2).toNat) 5 (orV ((pre.foldl askX s) ((nv x 2).toNat) 5 : Int) (shlV 1 (nv x 3 : Int) : Int) : Int))) := hS2
  clear hS2 hon
  refine X.thenN ?_
  refine Y.seq ?_
  refine Y.lit (by kernel_rfl) ?_
  refine Y.pv F (X.field rfl (F.e 5 rfl) (X.fld Try.underlying33 rfl (Try.siz3 _) rfl rfl)) ?_;clear F ac;intro ac F
  refine Y.pv F (X.load rfl (F.e 31 rfl) (X.ld1 (Try.agg3 _) (hC.at 7 rfl))) ?_;clear F ac;intro ac F
  refine Y.pv F (X.binop rfl (F.e 32 rfl) (X.kc (Vi 2) rfl) (X.eqlI Try.underlying3 rfl)) ?_;clear F ac;intro ac F
  refine Y.nil ?_
  replace F : Fr ac 59 [(0, Vp bp), (1, Vi t), (2, Vp w.heap.size), (4, Vi 0), (5, Vp xb), (6, .pointer (some ⟨bn, ((nv x 2).toNat) * 17, none⟩)), (12, .func (.func 96) #[] #[Vp bx, Vp bt, Vp bk]), (13, .agg #[Vi (nv x 0), Vi (nv x 1), Vi (nv x 2), Vi (nv x 3)]), (33, .bool ((nv x 1 : Int) == 2))] := F.sub _
  refine X.thenN ?_
  cases h25 : ((nv x 1 : Int) == 2) with
  | false =>
   try rw [h25] at F
   have h25p : ¬ (nv x 1 : Int) = 2 := by simpa using h25
   refine Y.condF (F.e 33 rfl) ?_
   refine Y.skip ?_
   refine X.blockN ?_
   exact ⟨hR_, hQ, by rw [List.foldl_append]; exact (by show OwnP _ _ _ (NV (askX _ x)); unfold askX; rw [if_neg (by simpa using h25)]; exact hS)⟩
  | true =>
   try rw [h25] at F
   have h25p : (nv x 1 : Int) = 2 := by simpa using h25
   refine Y.condT (F.e 33 rfl) ?_
   replace hC : RCells w24 [(Ad bp 0, Vi gr), (Ad bp 1, Vi hold), (Ad bp 2, .slice na n nc), (Ad bp 3, .slice la m lc), (Ad bp 4, .slice (some ⟨bn, 0, none⟩) n cap), (Ad w.heap.size 0, Vp bp), (Ad xb 0, Vi (nv x 0)), (Ad xb 1, Vi (nv x 1)), (Ad xb 2, Vi (nv x 2)), (Ad xb 3, Vi (nv x 3)), (⟨bn, ((nv x 2).toNat) * 17 + 5, none⟩, Vi ((up (pre.foldl askX s) ((nv x 2).toNat) 5 (orV ((pre.foldl askX s) ((nv x 2).toNat) 5 : Int) (shlV 1 (nv x 3 : Int) : Int) : Int)) ((nv x 2).toNat) 5))] := hC.append ((RCells.cons ((hS.cell (k := ((nv x 2).toNat) * 17 + 5) (by omega)).trans (congrArg some (NV_int (up (pre.foldl askX s) ((nv x 2).toNat) 5 (orV ((pre.foldl askX s) ((nv x 2).toNat) 5 : Int) (shlV 1 (nv x 3 : Int) : Int) : Int)) ((nv x 2).toNat) 5 (by decide)))) (RCells.nil _)))
   refine Y.regionS F [some (.pointer (some ⟨bn, ((nv x 2).toNat) * 17, none⟩)), some (.pointer (some ⟨bn, ((nv x 2).toNat) * 17, none⟩)), some (.pointer (some ⟨bn, ((nv x 2).toNat) * 17 + 5, none⟩)), some (Vi ((up (pre.foldl askX s) ((nv x 2).toNat) 5 (orV ((pre.foldl askX s) ((nv x 2).toNat) 5 : Int) (shlV 1 (nv x 3 : Int) : Int) : Int)) ((nv x 2).toNat) 5)), some (.pointer (some ⟨xb, 3, none⟩)), some (Vi (nv x 3)), some (Vi (shlV 1 (nv x 3 : Int))), some (Vi (anotV ((up (pre.foldl askX s) ((nv x 2).toNat) 5 (orV ((pre.foldl askX s) ((nv x 2).toNat) 5 : Int) (shlV 1 (nv x 3 : Int) : Int) : Int)) ((nv x 2).toNat) 5 : Int) (shlV 1 (nv x 3 : Int) : Int))), some (.pointer (some ⟨bn, ((nv x 2).toNat) * 17, none⟩)), some (.pointer (some ⟨bn, ((nv x 2).toNat) * 17 + 5, none⟩)), none] [] 10 (fun _ W => Only (fun x => x = bn) w24 W ∧ OwnP W bn (n * 17) (NV (up (up (pre.foldl askX s) ((nv x 2).toNat) 5 (orV ((pre.foldl askX s) ((nv x 2).toNat) 5 : Int) (shlV 1 (nv x 3 : Int) : Int) : Int)) ((nv x 2).toNat) 5 (anotV ((up (pre.foldl askX s) ((nv x 2).toNat) 5 (orV ((pre.foldl askX s) ((nv x 2).toNat) 5 : Int) (shlV 1 (nv x 3 : Int) : Int) : Int)) ((nv x 2).toNat) 5 : Int) (shlV 1 (nv x 3 : Int) : Int) : Int)))) rfl ⟨by kernel_rfl, of_decide_eq_true (by kernel_rfl), by kernel_rfl, by kernel_rfl, by kernel_rfl⟩ (of_decide_eq_true (by kernel_rfl)) ⟨?_, ?_, ?_, ?_, ?_, ?_, ?_, ?_, ?_, ?_, ?_, trivial⟩ ?_
   ·intro ac done u W Sx hT
    have hs := Sx.no 10 (by kernel_rfl)
    have hR := hT.1 hs
    exact X.vl (X.move rfl (Sx.ev 6 (.pointer (some ⟨bn, ((nv x 2).toNat) * 17, none⟩)))) (Y.RT.of hs rfl hR.st0)
   ·intro ac done u W Sx hT
    have hs := Sx.no 10 (by kernel_rfl)
    have hR := hT.1 hs
    exact X.vl (Y.nilC rfl (Sx.ev 34 (.pointer (some ⟨bn, ((nv x 2).toNat) * 17, none⟩)))) (Y.RT.of hs rfl hR.st0)
   ·intro ac done u W Sx hT
    have hs := Sx.no 10 (by kernel_rfl)
    have hR := hT.1 hs
    exact X.vl (X.field rfl (Sx.ev 35 (.pointer (some ⟨bn, ((nv x 2).toNat) * 17, none⟩))) (X.fld Try.underlying104 rfl (Try.siz3 _) rfl rfl)) (Y.RT.of hs rfl hR.st0)
   ·intro ac done u W Sx hT
    have hs := Sx.no 10 (by kernel_rfl)
    have hR := hT.1 hs
    have g : Gr w24 W := hR.1
    exact X.vl (X.load rfl (Sx.ev 36 (.pointer (some ⟨bn, ((nv x 2).toNat) * 17 + 5, none⟩))) (X.ld1 (Try.agg3 _) ((hC.gr g).at 10 rfl))) (Y.RT.of hs rfl hR.st0)
   ·intro ac done u W Sx hT
    have hs := Sx.no 10 (by kernel_rfl)
    have hR := hT.1 hs
    exact X.vl (X.field rfl (Sx.ev 5 (Vp xb)) (X.fld Try.underlying33 rfl (Try.siz3 _) rfl rfl)) (Y.RT.of hs rfl hR.st0)
   ·intro ac done u W Sx hT
    have hs := Sx.no 10 (by kernel_rfl)
    have hR := hT.1 hs
    have g : Gr w24 W := hR.1
    exact X.vl (X.load rfl (Sx.ev 38 (.pointer (some ⟨xb, 3, none⟩))) (X.ld1 (Try.agg3 _) ((hC.gr g).at 9 rfl))) (Y.RT.of hs rfl hR.st0)
   ·intro ac done u W Sx hT
    have hs := Sx.no 10 (by kernel_rfl)
    have hR := hT.1 hs
    exact X.vl (X.binop rfl (X.kc (Vi 1) rfl) (Sx.ev 39 (Vi (nv x 3))) (X.shlI Try.underlying3 rfl (by omega))) (Y.RT.of hs rfl hR.st0)
   ·intro ac done u W Sx hT
    have hs := Sx.no 10 (by kernel_rfl)
    have hR := hT.1 hs
    exact X.vl (X.binop rfl (Sx.ev 37 (Vi ((up (pre.foldl askX s) ((nv x 2).toNat) 5 (orV ((pre.foldl askX s) ((nv x 2).toNat) 5 : Int) (shlV 1 (nv x 3 : Int) : Int) : Int)) ((nv x 2).toNat) 5))) (Sx.ev 40 (Vi (shlV 1 (nv x 3 : Int)))) (X.andNotI Try.underlying3 rfl)) (Y.RT.of hs rfl hR.st0)
   ·intro ac done u W Sx hT
    have hs := Sx.no 10 (by kernel_rfl)
    have hR := hT.1 hs
    exact X.vl (Y.nilC rfl (Sx.ev 34 (.pointer (some ⟨bn, ((nv x 2).toNat) * 17, none⟩)))) (Y.RT.of hs rfl hR.st0)
   ·intro ac done u W Sx hT
    have hs := Sx.no 10 (by kernel_rfl)
    have hR := hT.1 hs
    exact X.vl (X.field rfl (Sx.ev 42 (.pointer (some ⟨bn, ((nv x 2).toNat) * 17, none⟩))) (X.fld Try.underlying104 rfl (Try.siz3 _) rfl rfl)) (Y.RT.of hs rfl hR.st0)
   ·intro ac done u W Sx hT
    have hR := hT.1 Sx.nd
    have g : Gr w24 W := hR.1
    have hS2 := (hS.gr g).set (k := ((nv x 2).toNat) * 17 + 5) (Vi (anotV ((up (pre.foldl askX s) ((nv x 2).toNat) 5 (orV ((pre.foldl askX s) ((nv x 2).toNat) 5 : Int) (shlV 1 (nv x 3 : Int) : Int) : Int)) ((nv x 2).toNat) 5 : Int) (shlV 1 (nv x 3 : Int) : Int)))
    rw [NV_up _ _ _ (by decide)] at hS2
    exact X.unit (X.w0 rfl) rfl (X.store rfl (Sx.ev 43 (.pointer (some ⟨bn, ((nv x 2).toNat) * 17 + 5, none⟩))) (Sx.ev 41 (Vi (anotV ((up (pre.foldl askX s) ((nv x 2).toNat) 5 (orV ((pre.foldl askX s) ((nv x 2).toNat) 5 : Int) (shlV 1 (nv x 3 : Int) : Int) : Int)) ((nv x 2).toNat) 5 : Int) (shlV 1 (nv x 3 : Int) : Int)))) ((hS.gr g).st1 (Try.siz3 _) rfl rfl (by omega))) (Y.RT.fin ⟨(g.only _).trans (Y.set_only _ _ _ _), hS2⟩)
   rintro ac u w26 hs hd hl_ ho ⟨hon, hS2⟩
   replace F : Fr ac 59 [(0, Vp bp), (1, Vi t), (2, Vp w.heap.size), (4, Vi 0), (5, Vp xb), (6, .pointer (some ⟨bn, ((nv x 2).toNat) * 17, none⟩)), (12, .func (.func 96) #[] #[Vp bx, Vp bt, Vp bk]), (13, .agg #[Vi (nv x 0), Vi (nv x 1), Vi (nv x 2), Vi (nv x 3)]), (33, .bool true)] := X.fr hs hd hl_ _ (by kernel_rfl)
   clear hs hd hl_ ho
   replace hP := hP.on hon
   replace hC := (hC.kc hon 0 rfl (hC.kc hon 1 rfl (hC.kc hon 2 rfl (hC.kc hon 3 rfl (hC.kc hon 4 rfl (hC.kc hon 5 rfl (hC.kc hon 6 rfl (hC.kc hon 7 rfl (hC.kc hon 8 rfl (hC.kc hon 9 rfl (RCells.nil _)))))))))))
   replace hQ := hQ.step hon (.inl rfl)
   replace hR_ := hR_.step hon (.inl rfl)
   replace G := Gr.refl w26
   replace hS : OwnP w26 bn (n * 17) (NV (up (up (pre.foldl askX s) ((nv x 2).toNat) 5 (orV ((pre.foldl askX s) ((nv x 2).toNat) 5 : Int) (shlV 1 (nv x 3 : Int) : Int) : Int)) ((nv x 2).toNat) 5 (anotV ((up (pre.foldl askX s) ((nv x 2).toNat) 5 (orV ((pre.foldl askX s) ((nv x 2).toNat) 5 : Int) (shlV 1 (nv x 3 : Int) : Int) : Int)) ((nv x 2).toNat) 5 : Int) (shlV 1 (nv x 3 : Int) : Int) : Int))) := hS2
   clear hS2 hon
   refine X.blockN ?_
   exact ⟨hR_, hQ, by rw [List.foldl_append]; exact (by show OwnP _ _ _ (NV (askX _ x)); unfold askX; rw [if_pos (by simpa using h25)]; exact hS)⟩
 have hE_r := hE
 have hP_r := hP
 have hC_r := hC
 clear F ac G hP hC hS
 intro w27 ac hQ hS2 hk F
 have hS := hS2
 clear hS2
 replace hE := hE_r.trans hQ
 have hP := hP_r.on hQ
 have hC := (hC_r.kc hQ 0 rfl (hC_r.kc hQ 1 rfl (hC_r.kc hQ 2 rfl (hC_r.kc hQ 3 rfl (hC_r.kc hQ 4 rfl (hC_r.kc hQ 5 rfl (RCells.nil _)))))))
 clear hC_r hP_r
 have G := Gr.refl w27
 have hmk : Mk1 w27 w14.heap.size := hk
 clear hk
 have hmlt : w14.heap.size < w27.heap.size := hmk.lt
 refine X.blockN ?_
 refine X.thenN ?_
 refine Y.seq ?_
 refine Y.seq ?_
 refine Y.lit (by kernel_rfl) ?_
 refine Y.pv F (X.load rfl (F.e 2 rfl) (X.ld1 (Try.agg60 _) (hC.at 5 rfl))) ?_;clear F ac;intro ac F
 refine Y.pv F (Y.nilC rfl (F.e 44 rfl)) ?_;clear F ac;intro ac F
 refine Y.pv F (X.field rfl (F.e 45 rfl) (X.fld Try.underlying101 rfl (Try.siz99 _) rfl rfl)) ?_;clear F ac;intro ac F
 refine Y.pv F (X.load rfl (F.e 46 rfl) (X.ld1 (Try.agg99 _) (hC.at 4 rfl))) ?_;clear F ac;intro ac F
 refine Y.pv F (X.len1 Try.underlying99 rfl (F.e 47 rfl)) ?_;clear F ac;intro ac F
 refine Y.pv F (X.move rfl (X.kc (Vi 0) rfl)) ?_;clear F ac;intro ac F
 refine Y.nil ?_
 replace F : Fr ac 59 [(0, Vp bp), (1, Vi t), (2, Vp w.heap.size), (4, Vi 0), (12, .func (.func 96) #[] #[Vp bx, Vp bt, Vp bk]), (47, .slice pa n cap), (48, Vi n), (49, Vi 0)] [{ target := .collected w14.heap.size, args := #[] }] := F.sub _
 refine X.thenN ?_
 refine Y.block ?_
 have hE_1 := hE
 have hmk_1 := hmk
 have hP_1 := hP
 have hC_1 := hC
 refine Y.loop (fun me_ ac wr => ∃ (i : Nat), me_ = n - i ∧ i ≤ n ∧ Only (fun b => b = bn) w27 wr ∧ OwnP wr bn (n * 17) (NV (askS l t s)) ∧ Fr ac 59 [(0, Vp bp), (1, Vi t), (2, Vp w.heap.size), (4, Vi (asksG i (askS l t s))), (12, .func (.func 96) #[] #[Vp bx, Vp bt, Vp bk]), (47, .slice pa n cap), (48, Vi n), (49, Vi i)] [{ target := .collected w14.heap.size, args := #[] }]) _ ⟨0, rfl, Nat.zero_le _, Only.refl _ _, hS, F.sub _⟩ ?_
 clear F hP hC hS ac hE hmk
 intro me_ ac w28 hI
 obtain ⟨i, rfl, hi, hI1, hS, F⟩ := hI
 have hP := hP_1.on hI1
 have hE := hE_1.trans hI1
 have hmk := hmk_1.only hI1 (by show ¬ _ = _; omega)
 have hC := (hC_1.kc hI1 0 rfl (hC_1.kc hI1 1 rfl (hC_1.kc hI1 2 rfl (hC_1.kc hI1 3 rfl (hC_1.kc hI1 4 rfl (hC_1.kc hI1 5 rfl (RCells.nil _)))))))
 replace G := Gr.refl w28
 refine Y.seq ?_
 refine Y.lit (by kernel_rfl) ?_
 refine Y.pv F (X.binop rfl (F.e 49 rfl) (F.e 48 rfl) (X.lssI Try.underlying3 rfl)) ?_;clear F ac;intro ac F
 refine Y.nil ?_
 replace F : Fr ac 59 [(0, Vp bp), (1, Vi t), (2, Vp w.heap.size), (4, Vi (asksG i (askS l t s))), (12, .func (.func 96) #[] #[Vp bx, Vp bt, Vp bk]), (47, .slice pa n cap), (48, Vi n), (49, Vi i), (50, .bool (decide ((i : Int) < n)))] [{ target := .collected w14.heap.size, args := #[] }] := F.sub _
 refine X.thenN ?_
 refine Y.seq ?_
 cases h29 : decide ((i : Int) < n) with
 | false =>
  try rw [h29] at F
  have h29p : ¬ ((i : Int) < n) := of_decide_eq_false h29
  obtain rfl : n = i := by omega
  refine Y.condF (F.e 50 rfl) ?_
  refine Y.exit ?_
  refine X.thenX ?_
  refine X.thenX ?_
  refine X.blockX ?_
  refine X.thenN ?_
  refine Y.seq ?_
  refine Y.lit (by kernel_rfl) ?_
  refine Y.pv F (X.move rfl (F.e 4 rfl)) ?_;clear F ac;intro ac F
  refine Y.pv F (X.assign rfl (F.e 58 rfl)) ?_;clear F ac;intro ac F
  refine Y.nil ?_
  replace F : Fr ac 59 [(0, Vp bp), (1, Vi t), (2, Vp w.heap.size), (4, Vi (asksG n (askS l t s))), (12, .func (.func 96) #[] #[Vp bx, Vp bt, Vp bk]), (47, .slice pa n cap), (48, Vi n), (49, Vi n), (50, .bool false)] [{ target := .collected w14.heap.size, args := #[] }] := F.sub _
  refine X.thenN ?_
  refine Y.ret ?_
  exact ret_mark (v := Vi (asksG n (askS l t s))) F hmk (Y.rs1 F rfl (by kernel_rfl)) (fun W2 hW2 => ⟨rfl, hE.step hW2 (.inr (by omega)), hS.only hW2 (by show ¬ _ = _; omega)⟩)
 | true =>
  try rw [h29] at F
  have h29p : ((i : Int) < n) := of_decide_eq_true h29
  refine Y.condT (F.e 50 rfl) ?_
  refine Y.skip ?_
  refine X.thenN ?_
  refine Y.seq ?_
  refine Y.block ?_
  refine Y.seq ?_
  refine Y.lit (by kernel_rfl) ?_
  obtain rfl : pa = some ⟨bn, 0, none⟩ := hP.hpa (by omega)
  refine Y.pv F (X.index rfl (F.e 47 rfl) (F.e 49 rfl) (X.idx (k := i) Try.underlying99 (Try.siz104 _) (by omega) (by omega) (addr_add0 _ _))) ?_;clear F ac;intro ac F
  replace hC : RCells w28 [(Ad bp 0, Vi gr), (Ad bp 1, Vi hold), (Ad bp 2, .slice na n nc), (Ad bp 3, .slice la m lc), (Ad bp 4, .slice (some ⟨bn, 0, none⟩) n cap), (Ad w.heap.size 0, Vp bp), (⟨bn, i * 17, none⟩, Vi ((askS l t s) i 0))] := hC.append ((RCells.cons ((hS.cell (k := i * 17 + 0) (by omega)).trans (congrArg some (NV_int (askS l t s) i 0 (by decide)))) (RCells.nil _)))
  replace hC : RCells w28 [(Ad bp 0, Vi gr), (Ad bp 1, Vi hold), (Ad bp 2, .slice na n nc), (Ad bp 3, .slice la m lc), (Ad bp 4, .slice (some ⟨bn, 0, none⟩) n cap), (Ad w.heap.size 0, Vp bp), (⟨bn, i * 17, none⟩, Vi ((askS l t s) i 0)), (⟨bn, i * 17 + 1, none⟩, Vi ((askS l t s) i 1))] := hC.append ((RCells.cons ((hS.cell (k := i * 17 + 1) (by omega)).trans (congrArg some (NV_int (askS l t s) i 1 (by decide)))) (RCells.nil _)))
  replace hC : RCells w28 [(Ad bp 0, Vi gr), (Ad bp 1, Vi hold), (Ad bp 2, .slice na n nc), (Ad bp 3, .slice la m lc), (Ad bp 4, .slice (some ⟨bn, 0, none⟩) n cap), (Ad w.heap.size 0, Vp bp), (⟨bn, i * 17, none⟩, Vi ((askS l t s) i 0)), (⟨bn, i * 17 + 1, none⟩, Vi ((askS l t s) i 1)), (⟨bn, i * 17 + 2, none⟩, Vi ((askS l t s) i 2))] := hC.append ((RCells.cons ((hS.cell (k := i * 17 + 2) (by omega)).trans (congrArg some (NV_int (askS l t s) i 2 (by decide)))) (RCells.nil _)))
  replace hC : RCells w28 [(Ad bp 0, Vi gr), (Ad bp 1, Vi hold), (Ad bp 2, .slice na n nc), (Ad bp 3, .slice la m lc), (Ad bp 4, .slice (some ⟨bn, 0, none⟩) n cap), (Ad w.heap.size 0, Vp bp), (⟨bn, i * 17, none⟩, Vi ((askS l t s) i 0)), (⟨bn, i * 17 + 1, none⟩, Vi ((askS l t s) i 1)), (⟨bn, i * 17 + 2, none⟩, Vi ((askS l t s) i 2)), (⟨bn, i * 17 + 3, none⟩, Vi ((askS l t s) i 3))] := hC.append ((RCells.cons ((hS.cell (k := i * 17 + 3) (by omega)).trans (congrArg some (NV_int (askS l t s) i 3 (by decide)))) (RCells.nil _)))
  replace hC : RCells w28 [(Ad bp 0, Vi gr), (Ad bp 1, Vi hold), (Ad bp 2, .slice na n nc), (Ad bp 3, .slice la m lc), (Ad bp 4, .slice (some ⟨bn, 0, none⟩) n cap), (Ad w.heap.size 0, Vp bp), (⟨bn, i * 17, none⟩, Vi ((askS l t s) i 0)), (⟨bn, i * 17 + 1, none⟩, Vi ((askS l t s) i 1)), (⟨bn, i * 17 + 2, none⟩, Vi ((askS l t s) i 2)), (⟨bn, i * 17 + 3, none⟩, Vi ((askS l t s) i 3)), (⟨bn, i * 17 + 4, none⟩, Vi ((askS l t s) i 4))] := hC.append ((RCells.cons ((hS.cell (k := i * 17 + 4) (by omega)).trans (congrArg some (NV_int (askS l t s) i 4 (by decide)))) (RCells.nil _)))
  replace hC : RCells w28 [(Ad bp 0, Vi gr), (Ad bp 1, Vi hold), (Ad bp 2, .slice na n nc), (Ad bp 3, .slice la m lc), (Ad bp 4, .slice (some ⟨bn, 0, none⟩) n cap), (Ad w.heap.size 0, Vp bp), (⟨bn, i * 17, none⟩, Vi ((askS l t s) i 0)), (⟨bn, i * 17 + 1, none⟩, Vi ((askS l t s) i 1)), (⟨bn, i * 17 + 2, none⟩, Vi ((askS l t s) i 2)), (⟨bn, i * 17 + 3, none⟩, Vi ((askS l t s) i 3)), (⟨bn, i * 17 + 4, none⟩, Vi ((askS l t s) i 4)), (⟨bn, i * 17 + 5, none⟩, Vi ((askS l t s) i 5))] := hC.append ((RCells.cons ((hS.cell (k := i * 17 + 5) (by omega)).trans (congrArg some (NV_int (askS l t s) i 5 (by decide)))) (RCells.nil _)))
  replace hC : RCells w28 [(Ad bp 0, Vi gr), (Ad bp 1, Vi hold), (Ad bp 2, .slice na n nc), (Ad bp 3, .slice la m lc), (Ad bp 4, .slice (some ⟨bn, 0, none⟩) n cap), (Ad w.heap.size 0, Vp bp), (⟨bn, i * 17, none⟩, Vi ((askS l t s) i 0)), (⟨bn, i * 17 + 1, none⟩, Vi ((askS l t s) i 1)), (⟨bn, i * 17 + 2, none⟩, Vi ((askS l t s) i 2)), (⟨bn, i * 17 + 3, none⟩, Vi ((askS l t s) i 3)), (⟨bn, i * 17 + 4, none⟩, Vi ((askS l t s) i 4)), (⟨bn, i * 17 + 5, none⟩, Vi ((askS l t s) i 5)), (⟨bn, i * 17 + 6, none⟩, Vi ((askS l t s) i 6))] := hC.append ((RCells.cons ((hS.cell (k := i * 17 + 6) (by omega)).trans (congrArg some (NV_int (askS l t s) i 6 (by decide)))) (RCells.nil _)))
  replace hC : RCells w28 [(Ad bp 0, Vi gr), (Ad bp 1, Vi hold), (Ad bp 2, .slice na n nc), (Ad bp 3, .slice la m lc), (Ad bp 4, .slice (some ⟨bn, 0, none⟩) n cap), (Ad w.heap.size 0, Vp bp), (⟨bn, i * 17, none⟩, Vi ((askS l t s) i 0)), (⟨bn, i * 17 + 1, none⟩, Vi ((askS l t s) i 1)), (⟨bn, i * 17 + 2, none⟩, Vi ((askS l t s) i 2)), (⟨bn, i * 17 + 3, none⟩, Vi ((askS l t s) i 3)), (⟨bn, i * 17 + 4, none⟩, Vi ((askS l t s) i 4)), (⟨bn, i * 17 + 5, none⟩, Vi ((askS l t s) i 5)), (⟨bn, i * 17 + 6, none⟩, Vi ((askS l t s) i 6)), (⟨bn, i * 17 + 7, none⟩, Vi ((askS l t s) i 7))] := hC.append ((RCells.cons ((hS.cell (k := i * 17 + 7) (by omega)).trans (congrArg some (NV_int (askS l t s) i 7 (by decide)))) (RCells.nil _)))
  replace hC : RCells w28 [(Ad bp 0, Vi gr), (Ad bp 1, Vi hold), (Ad bp 2, .slice na n nc), (Ad bp 3, .slice la m lc), (Ad bp 4, .slice (some ⟨bn, 0, none⟩) n cap), (Ad w.heap.size 0, Vp bp), (⟨bn, i * 17, none⟩, Vi ((askS l t s) i 0)), (⟨bn, i * 17 + 1, none⟩, Vi ((askS l t s) i 1)), (⟨bn, i * 17 + 2, none⟩, Vi ((askS l t s) i 2)), (⟨bn, i * 17 + 3, none⟩, Vi ((askS l t s) i 3)), (⟨bn, i * 17 + 4, none⟩, Vi ((askS l t s) i 4)), (⟨bn, i * 17 + 5, none⟩, Vi ((askS l t s) i 5)), (⟨bn, i * 17 + 6, none⟩, Vi ((askS l t s) i 6)), (⟨bn, i * 17 + 7, none⟩, Vi ((askS l t s) i 7)), (⟨bn, i * 17 + 8, none⟩, Vi ((askS l t s) i 8))] := hC.append ((RCells.cons ((hS.cell (k := i * 17 + 8) (by omega)).trans (congrArg some (NV_int (askS l t s) i 8 (by decide)))) (RCells.nil _)))
  replace hC : RCells w28 [(Ad bp 0, Vi gr), (Ad bp 1, Vi hold), (Ad bp 2, .slice na n nc), (Ad bp 3, .slice la m lc), (Ad bp 4, .slice (some ⟨bn, 0, none⟩) n cap), (Ad w.heap.size 0, Vp bp), (⟨bn, i * 17, none⟩, Vi ((askS l t s) i 0)), (⟨bn, i * 17 + 1, none⟩, Vi ((askS l t s) i 1)), (⟨bn, i * 17 + 2, none⟩, Vi ((askS l t s) i 2)), (⟨bn, i * 17 + 3, none⟩, Vi ((askS l t s) i 3)), (⟨bn, i * 17 + 4, none⟩, Vi ((askS l t s) i 4)), (⟨bn, i * 17 + 5, none⟩, Vi ((askS l t s) i 5)), (⟨bn, i * 17 + 6, none⟩, Vi ((askS l t s) i 6)), (⟨bn, i * 17 + 7, none⟩, Vi ((askS l t s) i 7)), (⟨bn, i * 17 + 8, none⟩, Vi ((askS l t s) i 8)), (⟨bn, i * 17 + 9, none⟩, Vi ((askS l t s) i 9))] := hC.append ((RCells.cons ((hS.cell (k := i * 17 + 9) (by omega)).trans (congrArg some (NV_int (askS l t s) i 9 (by decide)))) (RCells.nil _)))
  replace hC : RCells w28 [(Ad bp 0, Vi gr), (Ad bp 1, Vi hold), (Ad bp 2, .slice na n nc), (Ad bp 3, .slice la m lc), (Ad bp 4, .slice (some ⟨bn, 0, none⟩) n cap), (Ad w.heap.size 0, Vp bp), (⟨bn, i * 17, none⟩, Vi ((askS l t s) i 0)), (⟨bn, i * 17 + 1, none⟩, Vi ((askS l t s) i 1)), (⟨bn, i * 17 + 2, none⟩, Vi ((askS l t s) i 2)), (⟨bn, i * 17 + 3, none⟩, Vi ((askS l t s) i 3)), (⟨bn, i * 17 + 4, none⟩, Vi ((askS l t s) i 4)), (⟨bn, i * 17 + 5, none⟩, Vi ((askS l t s) i 5)), (⟨bn, i * 17 + 6, none⟩, Vi ((askS l t s) i 6)), (⟨bn, i * 17 + 7, none⟩, Vi ((askS l t s) i 7)), (⟨bn, i * 17 + 8, none⟩, Vi ((askS l t s) i 8)), (⟨bn, i * 17 + 9, none⟩, Vi ((askS l t s) i 9)), (⟨bn, i * 17 + 10, none⟩, Vi ((askS l t s) i 10))] := hC.append ((RCells.cons ((hS.cell (k := i * 17 + 10) (by omega)).trans (congrArg some (NV_int (askS l t s) i 10 (by decide)))) (RCells.nil _)))
  replace hC : RCells w28 [(Ad bp 0, Vi gr), (Ad bp 1, Vi hold), (Ad bp 2, .slice na n nc), (Ad bp 3, .slice la m lc), (Ad bp 4, .slice (some ⟨bn, 0, none⟩) n cap), (Ad w.heap.size 0, Vp bp), (⟨bn, i * 17, none⟩, Vi ((askS l t s) i 0)), (⟨bn, i * 17 + 1, none⟩, Vi ((askS l t s) i 1)), (⟨bn, i * 17 + 2, none⟩, Vi ((askS l t s) i 2)), (⟨bn, i * 17 + 3, none⟩, Vi ((askS l t s) i 3)), (⟨bn, i * 17 + 4, none⟩, Vi ((askS l t s) i 4)), (⟨bn, i * 17 + 5, none⟩, Vi ((askS l t s) i 5)), (⟨bn, i * 17 + 6, none⟩, Vi ((askS l t s) i 6)), (⟨bn, i * 17 + 7, none⟩, Vi ((askS l t s) i 7)), (⟨bn, i * 17 + 8, none⟩, Vi ((askS l t s) i 8)), (⟨bn, i * 17 + 9, none⟩, Vi ((askS l t s) i 9)), (⟨bn, i * 17 + 10, none⟩, Vi ((askS l t s) i 10)), (⟨bn, i * 17 + 11, none⟩, Vi ((askS l t s) i 11))] := hC.append ((RCells.cons ((hS.cell (k := i * 17 + 11) (by omega)).trans (congrArg some (NV_int (askS l t s) i 11 (by decide)))) (RCells.nil _)))
  replace hC : RCells w28 [(Ad bp 0, Vi gr), (Ad bp 1, Vi hold), (Ad bp 2, .slice na n nc), (Ad bp 3, .slice la m lc), (Ad bp 4, .slice (some ⟨bn, 0, none⟩) n cap), (Ad w.heap.size 0, Vp bp), (⟨bn, i * 17, none⟩, Vi ((askS l t s) i 0)), (⟨bn, i * 17 + 1, none⟩, Vi ((askS l t s) i 1)), (⟨bn, i * 17 + 2, none⟩, Vi ((askS l t s) i 2)), (⟨bn, i * 17 + 3, none⟩, Vi ((askS l t s) i 3)), (⟨bn, i * 17 + 4, none⟩, Vi ((askS l t s) i 4)), (⟨bn, i * 17 + 5, none⟩, Vi ((askS l t s) i 5)), (⟨bn, i * 17 + 6, none⟩, Vi ((askS l t s) i 6)), (⟨bn, i * 17 + 7, none⟩, Vi ((askS l t s) i 7)), (⟨bn, i * 17 + 8, none⟩, Vi ((askS l t s) i 8)), (⟨bn, i * 17 + 9, none⟩, Vi ((askS l t s) i 9)), (⟨bn, i * 17 + 10, none⟩, Vi ((askS l t s) i 10)), (⟨bn, i * 17 + 11, none⟩, Vi ((askS l t s) i 11)), (⟨bn, i * 17 + 12, none⟩, Vi ((askS l t s) i 12))] := hC.append ((RCells.cons ((hS.cell (k := i * 17 + 12) (by omega)).trans (congrArg some (NV_int (askS l t s) i 12 (by decide)))) (RCells.nil _)))
  replace hC : RCells w28 [(Ad bp 0, Vi gr), (Ad bp 1, Vi hold), (Ad bp 2, .slice na n nc), (Ad bp 3, .slice la m lc), (Ad bp 4, .slice (some ⟨bn, 0, none⟩) n cap), (Ad w.heap.size 0, Vp bp), (⟨bn, i * 17, none⟩, Vi ((askS l t s) i 0)), (⟨bn, i * 17 + 1, none⟩, Vi ((askS l t s) i 1)), (⟨bn, i * 17 + 2, none⟩, Vi ((askS l t s) i 2)), (⟨bn, i * 17 + 3, none⟩, Vi ((askS l t s) i 3)), (⟨bn, i * 17 + 4, none⟩, Vi ((askS l t s) i 4)), (⟨bn, i * 17 + 5, none⟩, Vi ((askS l t s) i 5)), (⟨bn, i * 17 + 6, none⟩, Vi ((askS l t s) i 6)), (⟨bn, i * 17 + 7, none⟩, Vi ((askS l t s) i 7)), (⟨bn, i * 17 + 8, none⟩, Vi ((askS l t s) i 8)), (⟨bn, i * 17 + 9, none⟩, Vi ((askS l t s) i 9)), (⟨bn, i * 17 + 10, none⟩, Vi ((askS l t s) i 10)), (⟨bn, i * 17 + 11, none⟩, Vi ((askS l t s) i 11)), (⟨bn, i * 17 + 12, none⟩, Vi ((askS l t s) i 12)), (⟨bn, i * 17 + 13, none⟩, Vi ((askS l t s) i 13))] := hC.append ((RCells.cons ((hS.cell (k := i * 17 + 13) (by omega)).trans (congrArg some (NV_int (askS l t s) i 13 (by decide)))) (RCells.nil _)))
  replace hC : RCells w28 [(Ad bp 0, Vi gr), (Ad bp 1, Vi hold), (Ad bp 2, .slice na n nc), (Ad bp 3, .slice la m lc), (Ad bp 4, .slice (some ⟨bn, 0, none⟩) n cap), (Ad w.heap.size 0, Vp bp), (⟨bn, i * 17, none⟩, Vi ((askS l t s) i 0)), (⟨bn, i * 17 + 1, none⟩, Vi ((askS l t s) i 1)), (⟨bn, i * 17 + 2, none⟩, Vi ((askS l t s) i 2)), (⟨bn, i * 17 + 3, none⟩, Vi ((askS l t s) i 3)), (⟨bn, i * 17 + 4, none⟩, Vi ((askS l t s) i 4)), (⟨bn, i * 17 + 5, none⟩, Vi ((askS l t s) i 5)), (⟨bn, i * 17 + 6, none⟩, Vi ((askS l t s) i 6)), (⟨bn, i * 17 + 7, none⟩, Vi ((askS l t s) i 7)), (⟨bn, i * 17 + 8, none⟩, Vi ((askS l t s) i 8)), (⟨bn, i * 17 + 9, none⟩, Vi ((askS l t s) i 9)), (⟨bn, i * 17 + 10, none⟩, Vi ((askS l t s) i 10)), (⟨bn, i * 17 + 11, none⟩, Vi ((askS l t s) i 11)), (⟨bn, i * 17 + 12, none⟩, Vi ((askS l t s) i 12)), (⟨bn, i * 17 + 13, none⟩, Vi ((askS l t s) i 13)), (⟨bn, i * 17 + 14, none⟩, Vi ((askS l t s) i 14))] := hC.append ((RCells.cons ((hS.cell (k := i * 17 + 14) (by omega)).trans (congrArg some (NV_int (askS l t s) i 14 (by decide)))) (RCells.nil _)))
  replace hC : RCells w28 [(Ad bp 0, Vi gr), (Ad bp 1, Vi hold), (Ad bp 2, .slice na n nc), (Ad bp 3, .slice la m lc), (Ad bp 4, .slice (some ⟨bn, 0, none⟩) n cap), (Ad w.heap.size 0, Vp bp), (⟨bn, i * 17, none⟩, Vi ((askS l t s) i 0)), (⟨bn, i * 17 + 1, none⟩, Vi ((askS l t s) i 1)), (⟨bn, i * 17 + 2, none⟩, Vi ((askS l t s) i 2)), (⟨bn, i * 17 + 3, none⟩, Vi ((askS l t s) i 3)), (⟨bn, i * 17 + 4, none⟩, Vi ((askS l t s) i 4)), (⟨bn, i * 17 + 5, none⟩, Vi ((askS l t s) i 5)), (⟨bn, i * 17 + 6, none⟩, Vi ((askS l t s) i 6)), (⟨bn, i * 17 + 7, none⟩, Vi ((askS l t s) i 7)), (⟨bn, i * 17 + 8, none⟩, Vi ((askS l t s) i 8)), (⟨bn, i * 17 + 9, none⟩, Vi ((askS l t s) i 9)), (⟨bn, i * 17 + 10, none⟩, Vi ((askS l t s) i 10)), (⟨bn, i * 17 + 11, none⟩, Vi ((askS l t s) i 11)), (⟨bn, i * 17 + 12, none⟩, Vi ((askS l t s) i 12)), (⟨bn, i * 17 + 13, none⟩, Vi ((askS l t s) i 13)), (⟨bn, i * 17 + 14, none⟩, Vi ((askS l t s) i 14)), (⟨bn, i * 17 + 15, none⟩, Vi ((askS l t s) i 15))] := hC.append ((RCells.cons ((hS.cell (k := i * 17 + 15) (by omega)).trans (congrArg some (NV_int (askS l t s) i 15 (by decide)))) (RCells.nil _)))
  replace hC : RCells w28 [(Ad bp 0, Vi gr), (Ad bp 1, Vi hold), (Ad bp 2, .slice na n nc), (Ad bp 3, .slice la m lc), (Ad bp 4, .slice (some ⟨bn, 0, none⟩) n cap), (Ad w.heap.size 0, Vp bp), (⟨bn, i * 17, none⟩, Vi ((askS l t s) i 0)), (⟨bn, i * 17 + 1, none⟩, Vi ((askS l t s) i 1)), (⟨bn, i * 17 + 2, none⟩, Vi ((askS l t s) i 2)), (⟨bn, i * 17 + 3, none⟩, Vi ((askS l t s) i 3)), (⟨bn, i * 17 + 4, none⟩, Vi ((askS l t s) i 4)), (⟨bn, i * 17 + 5, none⟩, Vi ((askS l t s) i 5)), (⟨bn, i * 17 + 6, none⟩, Vi ((askS l t s) i 6)), (⟨bn, i * 17 + 7, none⟩, Vi ((askS l t s) i 7)), (⟨bn, i * 17 + 8, none⟩, Vi ((askS l t s) i 8)), (⟨bn, i * 17 + 9, none⟩, Vi ((askS l t s) i 9)), (⟨bn, i * 17 + 10, none⟩, Vi ((askS l t s) i 10)), (⟨bn, i * 17 + 11, none⟩, Vi ((askS l t s) i 11)), (⟨bn, i * 17 + 12, none⟩, Vi ((askS l t s) i 12)), (⟨bn, i * 17 + 13, none⟩, Vi ((askS l t s) i 13)), (⟨bn, i * 17 + 14, none⟩, Vi ((askS l t s) i 14)), (⟨bn, i * 17 + 15, none⟩, Vi ((askS l t s) i 15)), (⟨bn, i * 17 + 16, none⟩, .bool (bz ((askS l t s) i 16)))] := hC.append ((RCells.cons ((hS.cell (k := i * 17 + 16) (by omega)).trans (congrArg some (NV_bool (askS l t s) i))) (RCells.nil _)))
  refine Y.pv F (X.load rfl (F.e 51 rfl) (X.ldN (Try.agg104 _) (Try.siz104 _) (Y.atz (⟨bn, i * 17, none⟩) (Y.AtFrom.cons (hC.at 6 rfl) (Y.AtFrom.cons (hC.at 7 rfl) (Y.AtFrom.cons (hC.at 8 rfl) (Y.AtFrom.cons (hC.at 9 rfl) (Y.AtFrom.cons (hC.at 10 rfl) (Y.AtFrom.cons (hC.at 11 rfl) (Y.AtFrom.cons (hC.at 12 rfl) (Y.AtFrom.cons (hC.at 13 rfl) (Y.AtFrom.cons (hC.at 14 rfl) (Y.AtFrom.cons (hC.at 15 rfl) (Y.AtFrom.cons (hC.at 16 rfl) (Y.AtFrom.cons (hC.at 17 rfl) (Y.AtFrom.cons (hC.at 18 rfl) (Y.AtFrom.cons (hC.at 19 rfl) (Y.AtFrom.cons (hC.at 20 rfl) (Y.AtFrom.cons (hC.at 21 rfl) (Y.AtFrom.cons (hC.at 22 rfl) (Y.AtFrom.nil _ _ _))))))))))))))))))))) ?_;clear F ac;intro ac F
  refine Y.pv F (Y.al rfl (Try.new104 _)) ?_;clear F ac;intro ac F
  refine Y.punit F (X.w0 rfl) rfl (X.store rfl (F.e 8 rfl) (F.e 52 rfl) (Y.stNew [Vi ((askS l t s) i 0), Vi ((askS l t s) i 1), Vi ((askS l t s) i 2), Vi ((askS l t s) i 3), Vi ((askS l t s) i 4), Vi ((askS l t s) i 5), Vi ((askS l t s) i 6), Vi ((askS l t s) i 7), Vi ((askS l t s) i 8), Vi ((askS l t s) i 9), Vi ((askS l t s) i 10), Vi ((askS l t s) i 11), Vi ((askS l t s) i 12), Vi ((askS l t s) i 13), Vi ((askS l t s) i 14), Vi ((askS l t s) i 15), .bool (bz ((askS l t s) i 16))] [Vi 0, Vi 0, Vi 0, Vi 0, Vi 0, Vi 0, Vi 0, Vi 0, Vi 0, Vi 0, Vi 0, Vi 0, Vi 0, Vi 0, Vi 0, Vi 0, .bool false] (Try.siz104 _) rfl rfl)) ?_;clear F ac;intro ac F
  have hq30 : bn < w28.heap.size := hS.lt
  have hq31 : bp < w28.heap.size := lt_cell (hC.at 0 rfl)
  have hq32 : w.heap.size < w28.heap.size := lt_cell (hC.at 5 rfl)
  have g := Gr.alloc w28 (.cells #[Vi ((askS l t s) i 0), Vi ((askS l t s) i 1), Vi ((askS l t s) i 2), Vi ((askS l t s) i 3), Vi ((askS l t s) i 4), Vi ((askS l t s) i 5), Vi ((askS l t s) i 6), Vi ((askS l t s) i 7), Vi ((askS l t s) i 8), Vi ((askS l t s) i 9), Vi ((askS l t s) i 10), Vi ((askS l t s) i 11), Vi ((askS l t s) i 12), Vi ((askS l t s) i 13), Vi ((askS l t s) i 14), Vi ((askS l t s) i 15), .bool (bz ((askS l t s) i 16))] 104)
  have hb := heap_alloc_new w28 (.cells #[Vi ((askS l t s) i 0), Vi ((askS l t s) i 1), Vi ((askS l t s) i 2), Vi ((askS l t s) i 3), Vi ((askS l t s) i 4), Vi ((askS l t s) i 5), Vi ((askS l t s) i 6), Vi ((askS l t s) i 7), Vi ((askS l t s) i 8), Vi ((askS l t s) i 9), Vi ((askS l t s) i 10), Vi ((askS l t s) i 11), Vi ((askS l t s) i 12), Vi ((askS l t s) i 13), Vi ((askS l t s) i 14), Vi ((askS l t s) i 15), .bool (bz ((askS l t s) i 16))] 104)
  have hbl : w28.heap.size < (w28.alloc (.cells #[Vi ((askS l t s) i 0), Vi ((askS l t s) i 1), Vi ((askS l t s) i 2), Vi ((askS l t s) i 3), Vi ((askS l t s) i 4), Vi ((askS l t s) i 5), Vi ((askS l t s) i 6), Vi ((askS l t s) i 7), Vi ((askS l t s) i 8), Vi ((askS l t s) i 9), Vi ((askS l t s) i 10), Vi ((askS l t s) i 11), Vi ((askS l t s) i 12), Vi ((askS l t s) i 13), Vi ((askS l t s) i 14), Vi ((askS l t s) i 15), .bool (bz ((askS l t s) i 16))] 104)).heap.size := by simp
  have hC2 : RCells (w28.alloc (.cells #[Vi ((askS l t s) i 0), Vi ((askS l t s) i 1), Vi ((askS l t s) i 2), Vi ((askS l t s) i 3), Vi ((askS l t s) i 4), Vi ((askS l t s) i 5), Vi ((askS l t s) i 6), Vi ((askS l t s) i 7), Vi ((askS l t s) i 8), Vi ((askS l t s) i 9), Vi ((askS l t s) i 10), Vi ((askS l t s) i 11), Vi ((askS l t s) i 12), Vi ((askS l t s) i 13), Vi ((askS l t s) i 14), Vi ((askS l t s) i 15), .bool (bz ((askS l t s) i 16))] 104)) [(Ad bp 0, Vi gr), (Ad bp 1, Vi hold), (Ad bp 2, .slice na n nc), (Ad bp 3, .slice la m lc), (Ad bp 4, .slice (some ⟨bn, 0, none⟩) n cap), (Ad w.heap.size 0, Vp bp), (⟨bn, i * 17, none⟩, Vi ((askS l t s) i 0)), (⟨bn, i * 17 + 1, none⟩, Vi ((askS l t s) i 1)), (⟨bn, i * 17 + 2, none⟩, Vi ((askS l t s) i 2)), (⟨bn, i * 17 + 3, none⟩, Vi ((askS l t s) i 3)), (⟨bn, i * 17 + 4, none⟩, Vi ((askS l t s) i 4)), (⟨bn, i * 17 + 5, none⟩, Vi ((askS l t s) i 5)), (⟨bn, i * 17 + 6, none⟩, Vi ((askS l t s) i 6)), (⟨bn, i * 17 + 7, none⟩, Vi ((askS l t s) i 7)), (⟨bn, i * 17 + 8, none⟩, Vi ((askS l t s) i 8)), (⟨bn, i * 17 + 9, none⟩, Vi ((askS l t s) i 9)), (⟨bn, i * 17 + 10, none⟩, Vi ((askS l t s) i 10)), (⟨bn, i * 17 + 11, none⟩, Vi ((askS l t s) i 11)), (⟨bn, i * 17 + 12, none⟩, Vi ((askS l t s) i 12)), (⟨bn, i * 17 + 13, none⟩, Vi ((askS l t s) i 13)), (⟨bn, i * 17 + 14, none⟩, Vi ((askS l t s) i 14)), (⟨bn, i * 17 + 15, none⟩, Vi ((askS l t s) i 15)), (⟨bn, i * 17 + 16, none⟩, .bool (bz ((askS l t s) i 16))), (Ad w28.heap.size 0, Vi ((askS l t s) i 0)), (Ad w28.heap.size 1, Vi ((askS l t s) i 1)), (Ad w28.heap.size 2, Vi ((askS l t s) i 2)), (Ad w28.heap.size 3, Vi ((askS l t s) i 3)), (Ad w28.heap.size 4, Vi ((askS l t s) i 4)), (Ad w28.heap.size 5, Vi ((askS l t s) i 5)), (Ad w28.heap.size 6, Vi ((askS l t s) i 6)), (Ad w28.heap.size 7, Vi ((askS l t s) i 7)), (Ad w28.heap.size 8, Vi ((askS l t s) i 8)), (Ad w28.heap.size 9, Vi ((askS l t s) i 9)), (Ad w28.heap.size 10, Vi ((askS l t s) i 10)), (Ad w28.heap.size 11, Vi ((askS l t s) i 11)), (Ad w28.heap.size 12, Vi ((askS l t s) i 12)), (Ad w28.heap.size 13, Vi ((askS l t s) i 13)), (Ad w28.heap.size 14, Vi ((askS l t s) i 14)), (Ad w28.heap.size 15, Vi ((askS l t s) i 15)), (Ad w28.heap.size 16, .bool (bz ((askS l t s) i 16)))] := hC.box (b := w28.heap.size) #[Vi ((askS l t s) i 0), Vi ((askS l t s) i 1), Vi ((askS l t s) i 2), Vi ((askS l t s) i 3), Vi ((askS l t s) i 4), Vi ((askS l t s) i 5), Vi ((askS l t s) i 6), Vi ((askS l t s) i 7), Vi ((askS l t s) i 8), Vi ((askS l t s) i 9), Vi ((askS l t s) i 10), Vi ((askS l t s) i 11), Vi ((askS l t s) i 12), Vi ((askS l t s) i 13), Vi ((askS l t s) i 14), Vi ((askS l t s) i 15), .bool (bz ((askS l t s) i 16))] 104 rfl
  generalize w28.alloc (.cells #[Vi ((askS l t s) i 0), Vi ((askS l t s) i 1), Vi ((askS l t s) i 2), Vi ((askS l t s) i 3), Vi ((askS l t s) i 4), Vi ((askS l t s) i 5), Vi ((askS l t s) i 6), Vi ((askS l t s) i 7), Vi ((askS l t s) i 8), Vi ((askS l t s) i 9), Vi ((askS l t s) i 10), Vi ((askS l t s) i 11), Vi ((askS l t s) i 12), Vi ((askS l t s) i 13), Vi ((askS l t s) i 14), Vi ((askS l t s) i 15), .bool (bz ((askS l t s) i 16))] 104) = w33 at *
  replace G := G.trans g
  replace hC := hC2
  clear hC2
  replace hE := hE.thenGr g
  replace hI1 := hI1.thenGr g
  replace hP := hP.gr g
  replace hmk := hmk.gr g
  replace hS := hS.gr g
  clear g hb hbl
  refine Y.nil ?_
  replace F : Fr ac 59 [(0, Vp bp), (1, Vi t), (2, Vp w.heap.size), (4, Vi (asksG i (askS l t s))), (8, Vp w28.heap.size), (12, .func (.func 96) #[] #[Vp bx, Vp bt, Vp bk]), (47, .slice (some ⟨bn, 0, none⟩) n cap), (48, Vi n), (49, Vi i), (50, .bool true)] [{ target := .collected w14.heap.size, args := #[] }] := F.sub _
  refine X.thenN ?_
  refine Y.lit (by kernel_rfl) ?_
  refine Y.pv F (X.move rfl (F.e 4 rfl)) ?_;clear F ac;intro ac F
  refine Y.pv F (X.field rfl (F.e 8 rfl) (X.fld Try.underlying104 rfl (Try.siz3 _) rfl rfl)) ?_;clear F ac;intro ac F
  refine Y.pv F (X.load rfl (F.e 54 rfl) (X.ld1 (Try.agg3 _) (hC.at 28 rfl))) ?_;clear F ac;intro ac F
  refine Y.pv F (X.binop rfl (F.e 53 rfl) (F.e 55 rfl) (X.orI Try.underlying3 rfl)) ?_;clear F ac;intro ac F
  refine Y.pv F (X.assign rfl (F.e 56 rfl)) ?_;clear F ac;intro ac F
  refine Y.nil ?_
  replace F : Fr ac 59 [(0, Vp bp), (1, Vi t), (2, Vp w.heap.size), (4, Vi (orV (asksG i (askS l t s) : Int) ((askS l t s) i 5 : Int))), (8, Vp w28.heap.size), (12, .func (.func 96) #[] #[Vp bx, Vp bt, Vp bk]), (47, .slice (some ⟨bn, 0, none⟩) n cap), (48, Vi n), (49, Vi i), (50, .bool true)] [{ target := .collected w14.heap.size, args := #[] }] := F.sub _
  refine X.blockN ?_
  refine X.thenN ?_
  refine Y.lit (by kernel_rfl) ?_
  refine Y.pv F (X.binop rfl (F.e 49 rfl) (X.kc (Vi 1) rfl) (X.addI Try.underlying3 rfl (by omega) (by omega))) ?_;clear F ac;intro ac F
  refine Y.pv F (X.move rfl (F.e 57 rfl)) ?_;clear F ac;intro ac F
  refine Y.nil ?_
  replace F : Fr ac 59 [(0, Vp bp), (1, Vi t), (2, Vp w.heap.size), (4, Vi (orV (asksG i (askS l t s) : Int) ((askS l t s) i 5 : Int))), (8, Vp w28.heap.size), (12, .func (.func 96) #[] #[Vp bx, Vp bt, Vp bk]), (47, .slice (some ⟨bn, 0, none⟩) n cap), (48, Vi n), (49, Vi ((i : Int) + 1)), (50, .bool true)] [{ target := .collected w14.heap.size, args := #[] }] := F.sub _
  refine X.thenN ?_
  refine ⟨_, ?_, i + 1, rfl, by omega, hI1, hS, F.sub _⟩
  omega
end
end Go.Proofs.Ytoalamakhjbedaa
