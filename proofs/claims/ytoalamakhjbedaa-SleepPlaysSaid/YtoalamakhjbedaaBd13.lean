/- Contract: the reference's play. -/
import Derived.Test.YtoalamakhjbedaaBd12
namespace Go.Proofs.Ytoalamakhjbedaa
open Go.RowKit

set_option maxRecDepth 100000 in
set_option maxHeartbeats 2000000 in
theorem play2_any (na la : Option Addr) (n nc m lc T K : Nat) (hold : Int) (nd l : List (List Int)) (w : World) (hnd : StAt w 5 na n nd) (hl : StAt w 4 la m l) (hok : CluOk K hold nd) (hnu : NuAll K nd T l) (hT : T ≤ 1000) :
  Calls Try.prog 56 #[.agg #[Vi K, Vi hold, .slice na n nc], Vi T, .slice la m lc] w fun e w' => ∃ a1 c1 a2 c2, e = .returned (.tuple #[.slice a1 T c1, .slice a2 T c2]) ∧ Ints w' a1 T (runFrom hold K n l (startS nd) T).rows ∧ Ints w' a2 T (runFrom hold K n l (startS nd) T).asked ∧ Gr w w' := by
 have G := Gr.refl w
 have hlen := hl.len
 have hlm := hl.lt
 have hndl := hnd.len
 have hndt := hnd.lt
 have hh1 := hok.h1
 have hh2 := hok.h100
 have h16 : n ≤ 16 := by have := hok.n16; omega
 have hK8 : K ≤ 8 := by have := hok.g8; omega
 have hK1 : 1 ≤ K := by have := hok.g1; omega
 refine Y.calls 334 Try.func56 rfl rfl ?_
 intro ac F0
 have F : Fr ac 334 [(0, .agg #[Vi K, Vi hold, .slice na n nc]), (1, Vi T), (2, .slice la m lc)] := F0.sub _
 clear F0
 refine Y.seq ?_
 refine Y.lit (by kernel_rfl) ?_
 refine Y.pv F (X.box rfl (F.ev 0 (.agg #[Vi K, Vi hold, .slice na n nc])) X.bx) ?_;clear F ac;intro ac F
 have g := Gr.alloc w (.cells #[Vi K, Vi hold, .slice na n nc] 24)
 have hb := heap_alloc_new w (.cells #[Vi K, Vi hold, .slice na n nc] 24)
 have hbl : w.heap.size < (w.alloc (.cells #[Vi K, Vi hold, .slice na n nc] 24)).heap.size := by simp
 have hC2 : RCells (w.alloc (.cells #[Vi K, Vi hold, .slice na n nc] 24)) [(Ad w.heap.size 0, Vi K), (Ad w.heap.size 1, Vi hold), (Ad w.heap.size 2, .slice na n nc)] := (RCells.nil w).box (b := w.heap.size) #[Vi K, Vi hold, .slice na n nc] 24 rfl
 generalize w.alloc (.cells #[Vi K, Vi hold, .slice na n nc] 24) = w3 at *
 replace G := G.trans g
 have hC := hC2
 clear hC2
 replace hnd := hnd.gr g
 replace hl := hl.gr g
 clear g hb hbl
 refine Y.pv F (X.assign rfl (X.kc (.slice none 0 0) rfl)) ?_;clear F ac;intro ac F
 refine Y.pv F (X.assign rfl (X.kc (.slice none 0 0) rfl)) ?_;clear F ac;intro ac F
 refine Y.nil ?_
 replace F : Fr ac 334 [(1, Vi T), (2, .slice la m lc), (3, Vp w.heap.size)] := F.sub _
 refine X.thenN ?_
 refine Y.seq ?_
 refine Y.lit (by kernel_rfl) ?_
 refine Y.pv F (X.assign rfl (X.kc (.slice none 0 0) rfl)) ?_;clear F ac;intro ac F
 refine Y.nil ?_
 replace F : Fr ac 334 [(1, Vi T), (2, .slice la m lc), (3, Vp w.heap.size), (8, .slice none 0 0)] := F.sub _
 refine X.thenN ?_
 refine Y.seq ?_
 refine Y.seq ?_
 refine Y.lit (by kernel_rfl) ?_
 refine Y.pv F (X.assign rfl (X.kc (Vi 0) rfl)) ?_;clear F ac;intro ac F
 refine Y.nil ?_
 replace F : Fr ac 334 [(1, Vi T), (2, .slice la m lc), (3, Vp w.heap.size), (8, .slice none 0 0), (9, Vi 0)] := F.sub _
 refine X.thenN ?_
 refine Y.block ?_
 have hnd1 := hnd
 have hl1 := hl
 have hC1 := hC
 have G1 := G
 generalize w3 = W1 at *
 refine Y.loop (fun me_ ac wr => ∃ (i : Nat) (f : Nat → Nat) (v : Value), me_ = n - i ∧ i ≤ n ∧ Qst W1 wr n K nd f v i ∧ Fr ac 334 [(1, Vi T), (2, .slice la m lc), (3, Vp w.heap.size), (8, v), (9, Vi i)]) _ ⟨0, _, _, rfl, Nat.zero_le _, Qst.nil, F.sub _⟩ ?_
 clear F hC G hnd hl ac
 intro me_ ac w4 hI
 obtain ⟨i, f, v, rfl, hi, hQ, F⟩ := hI
 have G := G1.trans hQ.g
 have hC := hC1.gr hQ.g
 have hnd := hnd1.gr hQ.g
 have hl := hl1.gr hQ.g
 refine Y.seq ?_
 refine Y.seq ?_
 refine Y.lit (by kernel_rfl) ?_
 refine Y.pv F (X.move rfl (F.ev 9 (Vi i))) ?_;clear F ac;intro ac F
 refine Y.pv F (X.field rfl (F.ev 3 (Vp w.heap.size)) (X.fld Try.underlying24 rfl (Try.siz22 _) rfl rfl)) ?_;clear F ac;intro ac F
 refine Y.pv F (X.load rfl (F.ev 24 (.pointer (some ⟨w.heap.size, 2, none⟩))) (X.ld1 (Try.agg22 _) (hC.at 2 rfl))) ?_;clear F ac;intro ac F
 refine Y.pv F (X.len1 Try.underlying22 rfl (F.ev 25 (.slice na n nc))) ?_;clear F ac;intro ac F
 refine Y.pv F (X.binop rfl (F.ev 23 (Vi i)) (F.ev 26 (Vi n)) (X.lssI Try.underlying3 rfl)) ?_;clear F ac;intro ac F
 refine Y.nil ?_
 replace F : Fr ac 334 [(1, Vi T), (2, .slice la m lc), (3, Vp w.heap.size), (8, v), (9, Vi i), (27, .bool (decide ((i : Int) < n)))] := F.sub _
 refine X.thenN ?_
 cases h5 : decide ((i : Int) < n) with
 | false =>
  try rw [h5] at F
  have h5p : ¬ ((i : Int) < n) := of_decide_eq_false h5
  obtain rfl : n = i := by omega
  obtain ⟨bn, pa, cap, hve, hpa, hN⟩ := hQ.done hK8
  subst hve
  clear hQ
  refine Y.condF (F.ev 27 (.bool false)) ?_
  refine Y.exit ?_
  refine X.thenX ?_
  refine X.thenX ?_
  refine X.blockX ?_
  refine X.thenN ?_
  refine Y.seq ?_
  refine Y.lit (by kernel_rfl) ?_
  refine Y.pv F (X.assign rfl (X.kc (.slice none 0 0) rfl)) ?_;clear F ac;intro ac F
  refine Y.pv F (X.assign rfl (X.kc (.slice none 0 0) rfl)) ?_;clear F ac;intro ac F
  refine Y.nil ?_
  replace F : Fr ac 334 [(1, Vi T), (2, .slice la m lc), (3, Vp w.heap.size), (8, .slice pa n cap), (10, .slice none 0 0), (11, .slice none 0 0)] := F.sub _
  refine X.thenN ?_
  refine Y.seq ?_
  refine Y.seq ?_
  refine Y.lit (by kernel_rfl) ?_
  refine Y.pv F (X.assign rfl (X.kc (Vi 0) rfl)) ?_;clear F ac;intro ac F
  refine Y.nil ?_
  replace F : Fr ac 334 [(1, Vi T), (2, .slice la m lc), (3, Vp w.heap.size), (8, .slice pa n cap), (10, .slice none 0 0), (11, .slice none 0 0), (12, Vi 0)] := F.sub _
  refine X.thenN ?_
  refine Y.block ?_
  refine Y.loop (fun me_ ac wr => ∃ (t : Nat) (v1 v2 : Value), me_ = T - t ∧ t ≤ T ∧ Pst W1 wr bn n K f ((runR hold K n l nd t).s) v1 v2 t t ((runR hold K n l nd t).rows) ((runR hold K n l nd t).asked) ∧ Fr ac 334 [(1, Vi T), (2, .slice la m lc), (3, Vp w.heap.size), (8, .slice pa n cap), (10, v1), (11, v2), (12, Vi t)]) _ ⟨0, _, _, rfl, Nat.zero_le _, hN, F.sub _⟩ ?_
  clear F hC G hnd hl hN ac
  intro me_ ac w6 hI
  obtain ⟨t, v1, v2, rfl, ht, hN, F⟩ := hI
  have G := G1.trans hN.g
  have hC := hC1.gr hN.g
  have hnd := hnd1.gr hN.g
  have hl := hl1.gr hN.g
  have hk0 := (runR_kok hok hnu hndl t).1
  refine Y.seq ?_
  refine Y.seq ?_
  refine Y.lit (by kernel_rfl) ?_
  refine Y.pv F (X.move rfl (F.ev 12 (Vi t))) ?_;clear F ac;intro ac F
  refine Y.pv F (X.move rfl (F.ev 1 (Vi T))) ?_;clear F ac;intro ac F
  refine Y.pv F (X.binop rfl (F.ev 43 (Vi t)) (F.ev 44 (Vi T)) (X.lssI Try.underlying3 rfl)) ?_;clear F ac;intro ac F
  refine Y.nil ?_
  replace F : Fr ac 334 [(1, Vi T), (2, .slice la m lc), (3, Vp w.heap.size), (8, .slice pa n cap), (10, v1), (11, v2), (12, Vi t), (45, .bool (decide ((t : Int) < T)))] := F.sub _
  refine X.thenN ?_
  cases h7 : decide ((t : Int) < T) with
  | false =>
   try rw [h7] at F
   have h7p : ¬ ((t : Int) < T) := of_decide_eq_false h7
   obtain rfl : T = t := by omega
   refine Y.condF (F.ev 45 (.bool false)) ?_
   refine Y.exit ?_
   refine X.thenX ?_
   refine X.thenX ?_
   refine X.blockX ?_
   refine X.thenN ?_
   refine Y.seq ?_
   refine Y.lit (by kernel_rfl) ?_
   refine Y.pv F (X.move rfl (F.ev 10 (v1))) ?_;clear F ac;intro ac F
   refine Y.pv F (X.move rfl (F.ev 11 (v2))) ?_;clear F ac;intro ac F
   refine Y.pv F (X.assign rfl (F.ev 332 (v1))) ?_;clear F ac;intro ac F
   refine Y.pv F (X.assign rfl (F.ev 333 (v2))) ?_;clear F ac;intro ac F
   refine Y.nil ?_
   replace F : Fr ac 334 [(6, v1), (7, v2)] := F.sub _
   refine X.thenN ?_
   refine Y.ret ?_
   have hrk := (runR_kok hok hnu hndl T).2
   have hlr := runFrom_len (hold := hold) (gr := K) (n := n) (l := l) (s := startS nd) T
   rw [hrk] at hN
   obtain ⟨a1, c1, rfl, hI1⟩ := (show OwnR _ _ 3 1 _ (runFrom hold K n l (startS nd) T).rows.length _ by rw [hlr.2]; exact hN.r).ints (by omega)
   obtain ⟨a2, c2, rfl, hI2⟩ := (show OwnR _ _ 3 1 _ (runFrom hold K n l (startS nd) T).asked.length _ by rw [hlr.1]; exact hN.a).ints (by omega)
   rw [hlr.2] at hI1 F
   rw [hlr.1] at hI2 F
   exact Y.ret0 (v := .tuple #[.slice a1 T c1, .slice a2 T c2]) F (Y.rs2 F rfl (by kernel_rfl) (by kernel_rfl)) ⟨_, _, _, _, rfl, hI1, hI2, G⟩
  | true =>
   try rw [h7] at F
   have h7p : ((t : Int) < T) := of_decide_eq_true h7
   have ht2 : t < T := by omega
   refine Y.condT (F.ev 45 (.bool true)) ?_
   refine Y.skip ?_
   refine X.thenN ?_
   refine Y.seq ?_
   refine Y.block ?_
   refine Y.seq ?_
   refine Y.lit (by kernel_rfl) ?_
   refine Y.pv F (X.assign rfl (X.kc (Vi 0) rfl)) ?_;clear F ac;intro ac F
   refine Y.pv F (X.assign rfl (X.kc (Vi 0) rfl)) ?_;clear F ac;intro ac F
   refine Y.nil ?_
   replace F : Fr ac 334 [(1, Vi T), (2, .slice la m lc), (3, Vp w.heap.size), (8, .slice pa n cap), (10, v1), (11, v2), (12, Vi t), (13, Vi 0), (14, Vi 0)] := F.sub _
   refine X.thenN ?_
   refine Y.seq ?_
   refine Y.seq ?_
   refine Y.lit (by kernel_rfl) ?_
   refine Y.pv F (X.assign rfl (X.kc (Vi 0) rfl)) ?_;clear F ac;intro ac F
   refine Y.nil ?_
   replace F : Fr ac 334 [(1, Vi T), (2, .slice la m lc), (3, Vp w.heap.size), (8, .slice pa n cap), (10, v1), (11, v2), (12, Vi t), (13, Vi 0), (14, Vi 0), (15, Vi 0)] := F.sub _
   refine X.thenN ?_
   refine Y.block ?_
   refine Y.loop (fun me_ ac wr => ∃ (k : Nat), me_ = m - k ∧ k ≤ m ∧ Pst W1 wr bn n K f (itN (askR l t) k (runR hold K n l nd t).s) v1 v2 t t ((runR hold K n l nd t).rows) ((runR hold K n l nd t).asked) ∧ Fr ac 334 [(1, Vi T), (2, .slice la m lc), (3, Vp w.heap.size), (8, .slice pa n cap), (10, v1), (11, v2), (12, Vi t), (13, Vi 0), (14, Vi 0), (15, Vi k)]) _ ⟨0, rfl, Nat.zero_le _, hN, F.sub _⟩ ?_
   clear F hC G hnd hl hN ac
   intro me_ ac w8 hI
   obtain ⟨k, rfl, hk, hN, F⟩ := hI
   have G := G1.trans hN.g
   have hC := hC1.gr hN.g
   have hnd := hnd1.gr hN.g
   have hl := hl1.gr hN.g
   refine Y.seq ?_
   refine Y.seq ?_
   refine Y.lit (by kernel_rfl) ?_
   refine Y.pv F (X.move rfl (F.ev 15 (Vi k))) ?_;clear F ac;intro ac F
   refine Y.pv F (X.move rfl (F.ev 2 (.slice la m lc))) ?_;clear F ac;intro ac F
   refine Y.pv F (X.len1 Try.underlying25 rfl (F.ev 49 (.slice la m lc))) ?_;clear F ac;intro ac F
   refine Y.pv F (X.binop rfl (F.ev 48 (Vi k)) (F.ev 50 (Vi m)) (X.lssI Try.underlying3 rfl)) ?_;clear F ac;intro ac F
   refine Y.nil ?_
   replace F : Fr ac 334 [(1, Vi T), (2, .slice la m lc), (3, Vp w.heap.size), (8, .slice pa n cap), (10, v1), (11, v2), (12, Vi t), (13, Vi 0), (14, Vi 0), (15, Vi k), (51, .bool (decide ((k : Int) < m)))] := F.sub _
   refine X.thenN ?_
   cases h9 : decide ((k : Int) < m) with
   | false =>
    try rw [h9] at F
    have h9p : ¬ ((k : Int) < m) := of_decide_eq_false h9
    obtain rfl : m = k := by omega
    refine Y.condF (F.ev 51 (.bool false)) ?_
    refine Y.exit ?_
    refine X.thenX ?_
    refine X.thenX ?_
    refine X.blockX ?_
    refine X.thenN ?_
    refine Y.seq ?_
    refine Y.seq ?_
    refine Y.lit (by kernel_rfl) ?_
    refine Y.pv F (X.assign rfl (X.kc (Vi 0) rfl)) ?_;clear F ac;intro ac F
    refine Y.nil ?_
    replace F : Fr ac 334 [(1, Vi T), (2, .slice la m lc), (3, Vp w.heap.size), (8, .slice pa n cap), (10, v1), (11, v2), (12, Vi t), (13, Vi 0), (14, Vi 0), (16, Vi 0)] := F.sub _
    refine X.thenN ?_
    refine Y.block ?_
    refine Y.loop (fun me_ ac wr => ∃ (j : Nat), me_ = n - j ∧ j ≤ n ∧ Pst W1 wr bn n K f (itN (dis1 hold l t) j (tickA l t (runR hold K n l nd t).s)) v1 v2 t t ((runR hold K n l nd t).rows) ((runR hold K n l nd t).asked) ∧ Fr ac 334 [(1, Vi T), (2, .slice la m lc), (3, Vp w.heap.size), (8, .slice pa n cap), (10, v1), (11, v2), (12, Vi t), (13, Vi 0), (14, Vi (itN (fun i a => orV a ((tickA l t (runR hold K n l nd t).s) i 5)) j 0)), (16, Vi j)]) _ ⟨0, rfl, Nat.zero_le _, (by unfold tickA; rw [hlen]; exact hN), F.sub _⟩ ?_
    clear F hC G hnd hl hN ac
    intro me_ ac w10 hI
    obtain ⟨j, rfl, hj, hN, F⟩ := hI
    have G := G1.trans hN.g
    have hC := hC1.gr hN.g
    have hnd := hnd1.gr hN.g
    have hl := hl1.gr hN.g
    have hk1 : KOk n nd (itN (dis1 hold l t) j (tickA l t (runR hold K n l nd t).s)) := (hk0.it l.length (fun i z _ hz => hz.askR t i)).it j (fun i z _ hz => hz.dis1 hh1 hh2 t (by omega))
    refine Y.seq ?_
    refine Y.seq ?_
    refine Y.lit (by kernel_rfl) ?_
    refine Y.pv F (X.move rfl (F.ev 16 (Vi j))) ?_;clear F ac;intro ac F
    refine Y.pv F (X.move rfl (F.ev 8 (.slice pa n cap))) ?_;clear F ac;intro ac F
    refine Y.pv F (X.len1 Try.underlying113 rfl (F.ev 123 (.slice pa n cap))) ?_;clear F ac;intro ac F
    refine Y.pv F (X.binop rfl (F.ev 122 (Vi j)) (F.ev 124 (Vi n)) (X.lssI Try.underlying3 rfl)) ?_;clear F ac;intro ac F
    refine Y.nil ?_
    replace F : Fr ac 334 [(1, Vi T), (2, .slice la m lc), (3, Vp w.heap.size), (8, .slice pa n cap), (10, v1), (11, v2), (12, Vi t), (13, Vi 0), (14, Vi (itN (fun i a => orV a ((tickA l t (runR hold K n l nd t).s) i 5)) j 0)), (16, Vi j), (125, .bool (decide ((j : Int) < n)))] := F.sub _
    refine X.thenN ?_
    cases h11 : decide ((j : Int) < n) with
    | false =>
     try rw [h11] at F
     have h11p : ¬ ((j : Int) < n) := of_decide_eq_false h11
     obtain rfl : n = j := by omega
     refine Y.condF (F.ev 125 (.bool false)) ?_
     refine Y.exit ?_
     refine X.thenX ?_
     refine X.thenX ?_
     refine X.blockX ?_
     refine X.thenN ?_
     refine Y.seq ?_
     refine Y.seq ?_
     refine Y.lit (by kernel_rfl) ?_
     refine Y.pv F (X.assign rfl (X.kc (Vi 0) rfl)) ?_;clear F ac;intro ac F
     refine Y.nil ?_
     replace F : Fr ac 334 [(1, Vi T), (2, .slice la m lc), (3, Vp w.heap.size), (8, .slice pa n cap), (10, v1), (11, v2), (12, Vi t), (13, Vi 0), (14, Vi (itN (fun i a => orV a ((tickA l t (runR hold K n l nd t).s) i 5)) n 0)), (17, Vi 0)] := F.sub _
     refine X.thenN ?_
     refine Y.block ?_
     refine Y.loop (fun me_ ac wr => ∃ (z : Nat), me_ = n - z ∧ z ≤ n ∧ Pst W1 wr bn n K f (itN (sndR3 hold l t K n) z (tickD hold n l t (runR hold K n l nd t).s)) v1 v2 t t ((runR hold K n l nd t).rows) ((runR hold K n l nd t).asked) ∧ Fr ac 334 [(1, Vi T), (2, .slice la m lc), (3, Vp w.heap.size), (8, .slice pa n cap), (10, v1), (11, v2), (12, Vi t), (13, Vi 0), (14, Vi (itN (fun i a => orV a ((tickA l t (runR hold K n l nd t).s) i 5)) n 0)), (17, Vi z)]) _ ⟨0, rfl, Nat.zero_le _, hN, F.sub _⟩ ?_
     clear F hC G hnd hl hN ac
     intro me_ ac w12 hI
     obtain ⟨z, rfl, hz, hN, F⟩ := hI
     have G := G1.trans hN.g
     have hC := hC1.gr hN.g
     have hnd := hnd1.gr hN.g
     have hl := hl1.gr hN.g
     have hk2 : KOk n nd (itN (sndR3 hold l t K n) z (tickD hold n l t (runR hold K n l nd t).s)) := ((hk0.it l.length (fun i z _ hz => hz.askR t i)).it n (fun i z hi hz => hz.dis1 hh1 hh2 t hi)).it z (fun i z _ hz => hz.snd3 hh1 hh2 t K i)
     refine Y.seq ?_
     refine Y.seq ?_
     refine Y.lit (by kernel_rfl) ?_
     refine Y.pv F (X.move rfl (F.ev 17 (Vi z))) ?_;clear F ac;intro ac F
     refine Y.pv F (X.move rfl (F.ev 8 (.slice pa n cap))) ?_;clear F ac;intro ac F
     refine Y.pv F (X.len1 Try.underlying113 rfl (F.ev 200 (.slice pa n cap))) ?_;clear F ac;intro ac F
     refine Y.pv F (X.binop rfl (F.ev 199 (Vi z)) (F.ev 201 (Vi n)) (X.lssI Try.underlying3 rfl)) ?_;clear F ac;intro ac F
     refine Y.nil ?_
     replace F : Fr ac 334 [(1, Vi T), (2, .slice la m lc), (3, Vp w.heap.size), (8, .slice pa n cap), (10, v1), (11, v2), (12, Vi t), (13, Vi 0), (14, Vi (itN (fun i a => orV a ((tickA l t (runR hold K n l nd t).s) i 5)) n 0)), (17, Vi z), (202, .bool (decide ((z : Int) < n)))] := F.sub _
     refine X.thenN ?_
     cases h13 : decide ((z : Int) < n) with
     | false =>
      try rw [h13] at F
      have h13p : ¬ ((z : Int) < n) := of_decide_eq_false h13
      obtain rfl : n = z := by omega
      refine Y.condF (F.ev 202 (.bool false)) ?_
      refine Y.exit ?_
      refine X.thenX ?_
      refine X.thenX ?_
      refine X.blockX ?_
      refine X.thenN ?_
      refine Y.seq ?_
      refine Y.seq ?_
      refine Y.lit (by kernel_rfl) ?_
      refine Y.pv F (X.assign rfl (X.kc (Vi 0) rfl)) ?_;clear F ac;intro ac F
      refine Y.nil ?_
      replace F : Fr ac 334 [(1, Vi T), (2, .slice la m lc), (3, Vp w.heap.size), (8, .slice pa n cap), (10, v1), (11, v2), (12, Vi t), (13, Vi 0), (14, Vi (itN (fun i a => orV a ((tickA l t (runR hold K n l nd t).s) i 5)) n 0)), (20, Vi 0)] := F.sub _
      refine X.thenN ?_
      refine Y.block ?_
      refine Y.loop (fun me_ ac wr => ∃ (y : Nat), me_ = n - y ∧ y ≤ n ∧ Pst W1 wr bn n K f ((itN (pasP K) y ((tickE hold K n l t (runR hold K n l nd t).s), 0)).1) v1 v2 t t ((runR hold K n l nd t).rows) ((runR hold K n l nd t).asked) ∧ Fr ac 334 [(1, Vi T), (2, .slice la m lc), (3, Vp w.heap.size), (8, .slice pa n cap), (10, v1), (11, v2), (12, Vi t), (13, Vi ((itN (pasP K) y ((tickE hold K n l t (runR hold K n l nd t).s), 0)).2)), (14, Vi (itN (fun i a => orV a ((tickA l t (runR hold K n l nd t).s) i 5)) n 0)), (20, Vi y)]) _ ⟨0, rfl, Nat.zero_le _, hN, F.sub _⟩ ?_
      clear F hC G hnd hl hN ac
      intro me_ ac w14 hI
      obtain ⟨y, rfl, hy, hN, F⟩ := hI
      have G := G1.trans hN.g
      have hC := hC1.gr hN.g
      have hnd := hnd1.gr hN.g
      have hl := hl1.gr hN.g
      have hk5 : KOk n nd (itN (pasP K) y ((tickE hold K n l t (runR hold K n l nd t).s), 0)).1 := itN_keep (P := fun p : PS × Int => KOk n nd p.1) (((hk0.it l.length (fun i z _ hz => hz.askR t i)).it n (fun i z hi hz => hz.dis1 hh1 hh2 t hi)).it n (fun i z _ hz => hz.snd3 hh1 hh2 t K i)) y (fun i p hi hp => hp.pasP (by omega) hK8)
      refine Y.seq ?_
      refine Y.seq ?_
      refine Y.lit (by kernel_rfl) ?_
      refine Y.pv F (X.move rfl (F.ev 20 (Vi y))) ?_;clear F ac;intro ac F
      refine Y.pv F (X.move rfl (F.ev 8 (.slice pa n cap))) ?_;clear F ac;intro ac F
      refine Y.pv F (X.len1 Try.underlying113 rfl (F.ev 252 (.slice pa n cap))) ?_;clear F ac;intro ac F
      refine Y.pv F (X.binop rfl (F.ev 251 (Vi y)) (F.ev 253 (Vi n)) (X.lssI Try.underlying3 rfl)) ?_;clear F ac;intro ac F
      refine Y.nil ?_
      replace F : Fr ac 334 [(1, Vi T), (2, .slice la m lc), (3, Vp w.heap.size), (8, .slice pa n cap), (10, v1), (11, v2), (12, Vi t), (13, Vi ((itN (pasP K) y ((tickE hold K n l t (runR hold K n l nd t).s), 0)).2)), (14, Vi (itN (fun i a => orV a ((tickA l t (runR hold K n l nd t).s) i 5)) n 0)), (20, Vi y), (254, .bool (decide ((y : Int) < n)))] := F.sub _
      refine X.thenN ?_
      cases h15 : decide ((y : Int) < n) with
      | false =>
       try rw [h15] at F
       have h15p : ¬ ((y : Int) < n) := of_decide_eq_false h15
       obtain rfl : n = y := by omega
       refine Y.condF (F.ev 254 (.bool false)) ?_
       refine Y.exit ?_
       refine X.thenX ?_
       refine X.thenX ?_
       refine X.blockX ?_
       refine X.thenN ?_
       refine Y.seq ?_
       refine Y.lit (by kernel_rfl) ?_
       refine Y.pv F (X.move rfl (F.ev 10 (v1))) ?_;clear F ac;intro ac F
       refine Y.pv F (X.move rfl (F.ev 13 (Vi ((itN (pasP K) n ((tickE hold K n l t (runR hold K n l nd t).s), 0)).2)))) ?_;clear F ac;intro ac F
       refine Y.pv F (X.bs rfl (X.b1 (F.ev 325 (Vi ((itN (pasP K) n ((tickE hold K n l t (runR hold K n l nd t).s), 0)).2)))) (Try.bs34_1 ((itN (pasP K) n ((tickE hold K n l t (runR hold K n l nd t).s), 0)).2) _)) ?_;clear F ac;intro ac F
       have g := Gr.alloc w14 (.cells #[Vi ((itN (pasP K) n ((tickE hold K n l t (runR hold K n l nd t).s), 0)).2)] 3)
       have hb := heap_alloc_new w14 (.cells #[Vi ((itN (pasP K) n ((tickE hold K n l t (runR hold K n l nd t).s), 0)).2)] 3)
       have hbl : w14.heap.size < (w14.alloc (.cells #[Vi ((itN (pasP K) n ((tickE hold K n l t (runR hold K n l nd t).s), 0)).2)] 3)).heap.size := by simp
       generalize w14.alloc (.cells #[Vi ((itN (pasP K) n ((tickE hold K n l t (runR hold K n l nd t).s), 0)).2)] 3) = w16 at *
       replace G := G.trans g
       replace hC := hC.gr g
       replace hnd := hnd.gr g
       replace hl := hl.gr g
       replace hN := hN.gr g
       have hbk := hb
       clear g hb hbl
       refine Y.wpL_plain rfl fun _ hK => wp_pushV Try.underlying34 Try.info3 rfl (by decide) rfl (F.ev 324 (v1)) (F.ev 326 (.slice (some ⟨w14.heap.size, 0, none⟩) 1 1)) hN.r (m := 1) (news := [Vi ((itN (pasP K) n ((tickE hold K n l t (runR hold K n l nd t).s), 0)).2)]) rfl (cells_at (vs := [Vi ((itN (pasP K) n ((tickE hold K n l t (runR hold K n l nd t).s), 0)).2)]) hbk) rfl (by omega) (by decide) hN.g.size (fun v1' w17 hO' hon hat => hK _ _ ?_)
       refine Y.pput F rfl ?_
       clear F ac hbk
       intro ac F
       have hN2 := hN.push1 hO' hon hat
       clear hN hC G hnd hl hO' hon hat
       have hN := hN2
       clear hN2
       have G := G1.trans hN.g
       have hC := hC1.gr hN.g
       have hnd := hnd1.gr hN.g
       have hl := hl1.gr hN.g
       refine Y.pv F (X.assign rfl (F.ev 327 (v1'))) ?_;clear F ac;intro ac F
       refine Y.nil ?_
       replace F : Fr ac 334 [(1, Vi T), (2, .slice la m lc), (3, Vp w.heap.size), (8, .slice pa n cap), (10, v1'), (11, v2), (12, Vi t), (14, Vi (itN (fun i a => orV a ((tickA l t (runR hold K n l nd t).s) i 5)) n 0))] := F.sub _
       refine X.thenN ?_
       refine Y.lit (by kernel_rfl) ?_
       refine Y.pv F (X.move rfl (F.ev 11 (v2))) ?_;clear F ac;intro ac F
       refine Y.pv F (X.move rfl (F.ev 14 (Vi (itN (fun i a => orV a ((tickA l t (runR hold K n l nd t).s) i 5)) n 0)))) ?_;clear F ac;intro ac F
       refine Y.pv F (X.bs rfl (X.b1 (F.ev 329 (Vi (itN (fun i a => orV a ((tickA l t (runR hold K n l nd t).s) i 5)) n 0)))) (Try.bs34_1 (itN (fun i a => orV a ((tickA l t (runR hold K n l nd t).s) i 5)) n 0) _)) ?_;clear F ac;intro ac F
       have g := Gr.alloc w17 (.cells #[Vi (itN (fun i a => orV a ((tickA l t (runR hold K n l nd t).s) i 5)) n 0)] 3)
       have hb := heap_alloc_new w17 (.cells #[Vi (itN (fun i a => orV a ((tickA l t (runR hold K n l nd t).s) i 5)) n 0)] 3)
       have hbl : w17.heap.size < (w17.alloc (.cells #[Vi (itN (fun i a => orV a ((tickA l t (runR hold K n l nd t).s) i 5)) n 0)] 3)).heap.size := by simp
       generalize w17.alloc (.cells #[Vi (itN (fun i a => orV a ((tickA l t (runR hold K n l nd t).s) i 5)) n 0)] 3) = w18 at *
       replace G := G.trans g
       replace hC := hC.gr g
       replace hnd := hnd.gr g
       replace hl := hl.gr g
       replace hN := hN.gr g
       have hbk := hb
       clear g hb hbl
       refine Y.wpL_plain rfl fun _ hK => wp_pushV Try.underlying34 Try.info3 rfl (by decide) rfl (F.ev 328 (v2)) (F.ev 330 (.slice (some ⟨w17.heap.size, 0, none⟩) 1 1)) hN.a (m := 1) (news := [Vi (itN (fun i a => orV a ((tickA l t (runR hold K n l nd t).s) i 5)) n 0)]) rfl (cells_at (vs := [Vi (itN (fun i a => orV a ((tickA l t (runR hold K n l nd t).s) i 5)) n 0)]) hbk) rfl (by omega) (by decide) hN.g.size (fun v2' w19 hO' hon hat => hK _ _ ?_)
       refine Y.pput F rfl ?_
       clear F ac hbk
       intro ac F
       have hN2 := hN.push2 hO' hon hat
       clear hN hC G hnd hl hO' hon hat
       have hN := hN2
       clear hN2
       have G := G1.trans hN.g
       have hC := hC1.gr hN.g
       have hnd := hnd1.gr hN.g
       have hl := hl1.gr hN.g
       refine Y.pv F (X.assign rfl (F.ev 331 (v2'))) ?_;clear F ac;intro ac F
       refine Y.nil ?_
       replace F : Fr ac 334 [(1, Vi T), (2, .slice la m lc), (3, Vp w.heap.size), (8, .slice pa n cap), (10, v1'), (11, v2'), (12, Vi t)] := F.sub _
       refine X.blockN ?_
       refine X.thenN ?_
       refine Y.lit (by kernel_rfl) ?_
       refine Y.pv F (X.move rfl (F.ev 12 (Vi t))) ?_;clear F ac;intro ac F
       refine Y.pv F (X.binop rfl (F.ev 46 (Vi t)) (X.kc (Vi 1) rfl) (X.addI Try.underlying3 rfl (by omega) (by omega))) ?_;clear F ac;intro ac F
       refine Y.pv F (X.assign rfl (F.ev 47 (Vi ((t : Int) + 1)))) ?_;clear F ac;intro ac F
       refine Y.nil ?_
       replace F : Fr ac 334 [(1, Vi T), (2, .slice la m lc), (3, Vp w.heap.size), (8, .slice pa n cap), (10, v1'), (11, v2'), (12, Vi ((t : Int) + 1))] := F.sub _
       refine X.thenN ?_
       refine ⟨_, ?_, t + 1, v1', v2', rfl, by omega, hN, F.sub _⟩
       omega
      | true =>
       try rw [h15] at F
       have h15p : ((y : Int) < n) := of_decide_eq_true h15
       have hy2 : y < n := by omega
       refine Y.condT (F.ev 254 (.bool true)) ?_
       refine Y.skip ?_
       refine X.thenN ?_
       refine Y.seq ?_
       refine Y.block ?_
       refine Y.seq ?_
       refine Y.lit (by kernel_rfl) ?_
       refine Y.pv F (X.move rfl (F.ev 8 (.slice pa n cap))) ?_;clear F ac;intro ac F
       refine Y.pv F (X.move rfl (F.ev 20 (Vi y))) ?_;clear F ac;intro ac F
       obtain rfl : pa = some ⟨bn, 0, none⟩ := hpa (by omega)
       refine Y.pv F (X.index rfl (F.ev 257 (.slice (some ⟨bn, 0, none⟩) n cap)) (F.ev 258 (Vi y)) (X.idx (k := y) Try.underlying113 (Try.siz115 _) (by omega) (by omega) (addr_add0 _ _))) ?_;clear F ac;intro ac F
       refine Y.pv F (X.assign rfl (F.ev 259 (.pointer (some ⟨bn, y * 5, none⟩)))) ?_;clear F ac;intro ac F
       refine Y.nil ?_
       replace F : Fr ac 334 [(1, Vi T), (2, .slice la m lc), (3, Vp w.heap.size), (8, .slice (some ⟨bn, 0, none⟩) n cap), (10, v1), (11, v2), (12, Vi t), (13, Vi ((itN (pasP K) y ((tickE hold K n l t (runR hold K n l nd t).s), 0)).2)), (14, Vi (itN (fun i a => orV a ((tickA l t (runR hold K n l nd t).s) i 5)) n 0)), (20, Vi y), (21, .pointer (some ⟨bn, y * 5, none⟩))] := F.sub _
       refine X.thenN ?_
       refine Y.seq ?_
       refine Y.lit (by kernel_rfl) ?_
       refine Y.pv F (X.move rfl (F.ev 21 (.pointer (some ⟨bn, y * 5, none⟩)))) ?_;clear F ac;intro ac F
       refine Y.pv F (X.move rfl (F.ev 21 (.pointer (some ⟨bn, y * 5, none⟩)))) ?_;clear F ac;intro ac F
       refine Y.pv F (Y.nilC rfl (F.ev 261 (.pointer (some ⟨bn, y * 5, none⟩)))) ?_;clear F ac;intro ac F
       refine Y.pv F (X.field rfl (F.ev 262 (.pointer (some ⟨bn, y * 5, none⟩))) (X.fld Try.underlying115 rfl (Try.siz3 _) rfl rfl)) ?_;clear F ac;intro ac F
       replace hC : RCells w14 [(Ad w.heap.size 0, Vi K), (Ad w.heap.size 1, Vi hold), (Ad w.heap.size 2, .slice na n nc), (⟨bn, y * 5 + 2, none⟩, Vi (((itN (pasP K) y ((tickE hold K n l t (runR hold K n l nd t).s), 0)).1) y 14))] := hC.append ((RCells.cons (hN.c2 (i := y) (by omega)) (RCells.nil _)))
       refine Y.pv F (X.load rfl (F.ev 263 (.pointer (some ⟨bn, y * 5 + 2, none⟩))) (X.ld1 (Try.agg3 _) (hC.at 3 rfl))) ?_;clear F ac;intro ac F
       refine Y.pv F (X.binop rfl (F.ev 264 (Vi (((itN (pasP K) y ((tickE hold K n l t (runR hold K n l nd t).s), 0)).1) y 14))) (X.kc (Vi 0) rfl) (X.gtrI Try.underlying3 rfl)) ?_;clear F ac;intro ac F
       refine Y.pv F (Y.nilC rfl (F.ev 260 (.pointer (some ⟨bn, y * 5, none⟩)))) ?_;clear F ac;intro ac F
       refine Y.pv F (X.field rfl (F.ev 266 (.pointer (some ⟨bn, y * 5, none⟩))) (X.fld Try.underlying115 rfl (Try.siz4 _) rfl rfl)) ?_;clear F ac;intro ac F
       refine Y.punit F (X.w0 rfl) rfl (X.store rfl (F.ev 267 (.pointer (some ⟨bn, y * 5 + 4, none⟩))) (F.ev 265 (.bool (decide ((0 : Int) < (((itN (pasP K) y ((tickE hold K n l t (runR hold K n l nd t).s), 0)).1) y 14))))) ((hN.o (by omega)).st1 (Try.siz4 _) rfl rfl (by omega))) ?_;clear F ac;intro ac F
       have hN2 : Pst W1 (w14.setCell ⟨bn, y * 5 + 4, none⟩ (.bool (decide ((0 : Int) < (((itN (pasP K) y ((tickE hold K n l t (runR hold K n l nd t).s), 0)).1) y 14))))) bn n K f (up ((itN (pasP K) y ((tickE hold K n l t (runR hold K n l nd t).s), 0)).1) y 16 (if (decide ((0 : Int) < (((itN (pasP K) y ((tickE hold K n l t (runR hold K n l nd t).s), 0)).1) y 14))) = true then 1 else 0)) v1 v2 t t ((runR hold K n l nd t).rows) ((runR hold K n l nd t).asked) := hN.setB (i := y) (by omega) (decide ((0 : Int) < (((itN (pasP K) y ((tickE hold K n l t (runR hold K n l nd t).s), 0)).1) y 14)))
       generalize w14.setCell ⟨bn, y * 5 + 4, none⟩ (.bool (decide ((0 : Int) < (((itN (pasP K) y ((tickE hold K n l t (runR hold K n l nd t).s), 0)).1) y 14)))) = w20 at *
       clear hN hC G hnd hl
       have hN := hN2
       clear hN2
       have G := G1.trans hN.g
       have hC := hC1.gr hN.g
       have hnd := hnd1.gr hN.g
       have hl := hl1.gr hN.g
       replace hN : Pst W1 w20 bn n K f (aw0 y (itN (pasP K) y ((tickE hold K n l t (runR hold K n l nd t).s), 0)).1) v1 v2 t t ((runR hold K n l nd t).rows) ((runR hold K n l nd t).asked) := by rw [← aw0_eq]; exact hN
       replace hC := hC1.gr hN.g
       refine Y.nil ?_
       replace F : Fr ac 334 [(1, Vi T), (2, .slice la m lc), (3, Vp w.heap.size), (8, .slice (some ⟨bn, 0, none⟩) n cap), (10, v1), (11, v2), (12, Vi t), (13, Vi ((itN (pasP K) y ((tickE hold K n l t (runR hold K n l nd t).s), 0)).2)), (14, Vi (itN (fun i a => orV a ((tickA l t (runR hold K n l nd t).s) i 5)) n 0)), (20, Vi y), (21, .pointer (some ⟨bn, y * 5, none⟩))] := F.sub _
       refine X.thenN ?_
       refine Y.seq ?_
       refine Y.seq ?_
       refine Y.lit (by kernel_rfl) ?_
       refine Y.pv F (X.assign rfl (X.kc (Vi 0) rfl)) ?_;clear F ac;intro ac F
       refine Y.nil ?_
       replace F : Fr ac 334 [(1, Vi T), (2, .slice la m lc), (3, Vp w.heap.size), (8, .slice (some ⟨bn, 0, none⟩) n cap), (10, v1), (11, v2), (12, Vi t), (13, Vi ((itN (pasP K) y ((tickE hold K n l t (runR hold K n l nd t).s), 0)).2)), (14, Vi (itN (fun i a => orV a ((tickA l t (runR hold K n l nd t).s) i 5)) n 0)), (20, Vi y), (21, .pointer (some ⟨bn, y * 5, none⟩)), (22, Vi 0)] := F.sub _
       refine X.thenN ?_
       refine Y.block ?_
       refine Y.loop (fun me_ ac wr => ∃ (N : Nat), me_ = K - N ∧ N ≤ K ∧ Pst W1 wr bn n K f (itN (tmR y) N (aw0 y (itN (pasP K) y ((tickE hold K n l t (runR hold K n l nd t).s), 0)).1)) v1 v2 t t ((runR hold K n l nd t).rows) ((runR hold K n l nd t).asked) ∧ Fr ac 334 [(1, Vi T), (2, .slice la m lc), (3, Vp w.heap.size), (8, .slice (some ⟨bn, 0, none⟩) n cap), (10, v1), (11, v2), (12, Vi t), (13, Vi ((itN (pasP K) y ((tickE hold K n l t (runR hold K n l nd t).s), 0)).2)), (14, Vi (itN (fun i a => orV a ((tickA l t (runR hold K n l nd t).s) i 5)) n 0)), (20, Vi y), (21, .pointer (some ⟨bn, y * 5, none⟩)), (22, Vi N)]) _ ⟨0, rfl, Nat.zero_le _, hN, F.sub _⟩ ?_
       clear F hC G hnd hl hN ac
       intro me_ ac w21 hI
       obtain ⟨N, rfl, hN, hN, F⟩ := hI
       have G := G1.trans hN.g
       have hC := hC1.gr hN.g
       have hnd := hnd1.gr hN.g
       have hl := hl1.gr hN.g
       have hk6 : KOk n nd (itN (tmR y) N (aw0 y (itN (pasP K) y ((tickE hold K n l t (runR hold K n l nd t).s), 0)).1)) := (hk5.aw0 y).it N (fun i z hi hz => hz.tmR (by omega) (by omega))
       refine Y.seq ?_
       refine Y.seq ?_
       refine Y.lit (by kernel_rfl) ?_
       refine Y.pv F (X.move rfl (F.ev 22 (Vi N))) ?_;clear F ac;intro ac F
       refine Y.pv F (X.field rfl (F.ev 3 (Vp w.heap.size)) (X.fld Try.underlying24 rfl (Try.siz3 _) rfl rfl)) ?_;clear F ac;intro ac F
       refine Y.pv F (X.load rfl (F.ev 269 (Vp w.heap.size)) (X.ld1 (Try.agg3 _) (hC.at 0 rfl))) ?_;clear F ac;intro ac F
       refine Y.pv F (X.binop rfl (F.ev 268 (Vi N)) (F.ev 270 (Vi K)) (X.lssI Try.underlying3 rfl)) ?_;clear F ac;intro ac F
       refine Y.nil ?_
       replace F : Fr ac 334 [(1, Vi T), (2, .slice la m lc), (3, Vp w.heap.size), (8, .slice (some ⟨bn, 0, none⟩) n cap), (10, v1), (11, v2), (12, Vi t), (13, Vi ((itN (pasP K) y ((tickE hold K n l t (runR hold K n l nd t).s), 0)).2)), (14, Vi (itN (fun i a => orV a ((tickA l t (runR hold K n l nd t).s) i 5)) n 0)), (20, Vi y), (21, .pointer (some ⟨bn, y * 5, none⟩)), (22, Vi N), (271, .bool (decide ((N : Int) < K)))] := F.sub _
       refine X.thenN ?_
       cases h22 : decide ((N : Int) < K) with
       | false =>
        try rw [h22] at F
        have h22p : ¬ ((N : Int) < K) := of_decide_eq_false h22
        obtain rfl : K = N := by omega
        have hb9 := hk6.ok.t y (by omega) 14 (by decide) (by decide)
        refine Y.condF (F.ev 271 (.bool false)) ?_
        refine Y.exit ?_
        refine X.thenX ?_
        refine X.thenX ?_
        refine X.blockX ?_
        refine X.thenN ?_
        refine Y.seq ?_
        refine Y.lit (by kernel_rfl) ?_
        refine Y.pv F (X.move rfl (F.ev 21 (.pointer (some ⟨bn, y * 5, none⟩)))) ?_;clear F ac;intro ac F
        refine Y.pv F (X.move rfl (F.ev 21 (.pointer (some ⟨bn, y * 5, none⟩)))) ?_;clear F ac;intro ac F
        refine Y.pv F (Y.nilC rfl (F.ev 307 (.pointer (some ⟨bn, y * 5, none⟩)))) ?_;clear F ac;intro ac F
        refine Y.pv F (X.field rfl (F.ev 308 (.pointer (some ⟨bn, y * 5, none⟩))) (X.fld Try.underlying115 rfl (Try.siz3 _) rfl rfl)) ?_;clear F ac;intro ac F
        replace hC : RCells w21 [(Ad w.heap.size 0, Vi K), (Ad w.heap.size 1, Vi hold), (Ad w.heap.size 2, .slice na n nc), (⟨bn, y * 5 + 2, none⟩, Vi ((itN (tmR y) K (aw0 y (itN (pasP K) y ((tickE hold K n l t (runR hold K n l nd t).s), 0)).1)) y 14))] := hC.append ((RCells.cons (hN.c2 (i := y) (by omega)) (RCells.nil _)))
        refine Y.pv F (X.load rfl (F.ev 309 (.pointer (some ⟨bn, y * 5 + 2, none⟩))) (X.ld1 (Try.agg3 _) (hC.at 3 rfl))) ?_;clear F ac;intro ac F
        refine Y.pv F (X.binop rfl (F.ev 310 (Vi ((itN (tmR y) K (aw0 y (itN (pasP K) y ((tickE hold K n l t (runR hold K n l nd t).s), 0)).1)) y 14))) (X.kc (Vi 1) rfl) (X.subI Try.underlying3 rfl (by omega) (by omega))) ?_;clear F ac;intro ac F
        refine Y.pv F (Y.max2 rfl (X.kc (Vi 0) rfl) (F.ev 311 (Vi (((itN (tmR y) K (aw0 y (itN (pasP K) y ((tickE hold K n l t (runR hold K n l nd t).s), 0)).1)) y 14 : Int) - 1)))) ?_;clear F ac;intro ac F
        refine Y.pv F (Y.nilC rfl (F.ev 306 (.pointer (some ⟨bn, y * 5, none⟩)))) ?_;clear F ac;intro ac F
        refine Y.pv F (X.field rfl (F.ev 313 (.pointer (some ⟨bn, y * 5, none⟩))) (X.fld Try.underlying115 rfl (Try.siz3 _) rfl rfl)) ?_;clear F ac;intro ac F
        refine Y.punit F (X.w0 rfl) rfl (X.store rfl (F.ev 314 (.pointer (some ⟨bn, y * 5 + 2, none⟩))) (F.ev 312 (Vi (max (0 : Int) (((itN (tmR y) K (aw0 y (itN (pasP K) y ((tickE hold K n l t (runR hold K n l nd t).s), 0)).1)) y 14 : Int) - 1 : Int)))) ((hN.o (by omega)).st1 (Try.siz3 _) rfl rfl (by omega))) ?_;clear F ac;intro ac F
        have hN2 : Pst W1 (w21.setCell ⟨bn, y * 5 + 2, none⟩ (Vi (max (0 : Int) (((itN (tmR y) K (aw0 y (itN (pasP K) y ((tickE hold K n l t (runR hold K n l nd t).s), 0)).1)) y 14 : Int) - 1 : Int)))) bn n K f (up (itN (tmR y) K (aw0 y (itN (pasP K) y ((tickE hold K n l t (runR hold K n l nd t).s), 0)).1)) y 14 ((max (0 : Int) (((itN (tmR y) K (aw0 y (itN (pasP K) y ((tickE hold K n l t (runR hold K n l nd t).s), 0)).1)) y 14 : Int) - 1 : Int)) : Int)) v1 v2 t t ((runR hold K n l nd t).rows) ((runR hold K n l nd t).asked) := hN.setI (i := y) (c := 2) (j := 14) (by omega) (by unfold qc; omega) ((max (0 : Int) (((itN (tmR y) K (aw0 y (itN (pasP K) y ((tickE hold K n l t (runR hold K n l nd t).s), 0)).1)) y 14 : Int) - 1 : Int)))
        generalize w21.setCell ⟨bn, y * 5 + 2, none⟩ (Vi (max (0 : Int) (((itN (tmR y) K (aw0 y (itN (pasP K) y ((tickE hold K n l t (runR hold K n l nd t).s), 0)).1)) y 14 : Int) - 1 : Int))) = w23 at *
        clear hN hC G hnd hl
        have hN := hN2
        clear hN2
        have G := G1.trans hN.g
        have hC := hC1.gr hN.g
        have hnd := hnd1.gr hN.g
        have hl := hl1.gr hN.g
        replace hN : Pst W1 w23 bn n K f (pasR K y (itN (pasP K) y ((tickE hold K n l t (runR hold K n l nd t).s), 0)).1) v1 v2 t t ((runR hold K n l nd t).rows) ((runR hold K n l nd t).asked) := hN
        replace hC := hC1.gr hN.g
        refine Y.nil ?_
        replace F : Fr ac 334 [(1, Vi T), (2, .slice la m lc), (3, Vp w.heap.size), (8, .slice (some ⟨bn, 0, none⟩) n cap), (10, v1), (11, v2), (12, Vi t), (13, Vi ((itN (pasP K) y ((tickE hold K n l t (runR hold K n l nd t).s), 0)).2)), (14, Vi (itN (fun i a => orV a ((tickA l t (runR hold K n l nd t).s) i 5)) n 0)), (20, Vi y), (21, .pointer (some ⟨bn, y * 5, none⟩))] := F.sub _
        refine X.thenN ?_
        refine Y.seq ?_
        refine Y.lit (by kernel_rfl) ?_
        refine Y.pv F (X.move rfl (F.ev 21 (.pointer (some ⟨bn, y * 5, none⟩)))) ?_;clear F ac;intro ac F
        refine Y.pv F (Y.nilC rfl (F.ev 315 (.pointer (some ⟨bn, y * 5, none⟩)))) ?_;clear F ac;intro ac F
        refine Y.pv F (X.field rfl (F.ev 316 (.pointer (some ⟨bn, y * 5, none⟩))) (X.fld Try.underlying115 rfl (Try.siz4 _) rfl rfl)) ?_;clear F ac;intro ac F
        replace hC : RCells w23 [(Ad w.heap.size 0, Vi K), (Ad w.heap.size 1, Vi hold), (Ad w.heap.size 2, .slice na n nc), (⟨bn, y * 5 + 4, none⟩, .bool (bz ((pasR K y (itN (pasP K) y ((tickE hold K n l t (runR hold K n l nd t).s), 0)).1) y 16)))] := hC.append ((RCells.cons (hN.c4 (i := y) (by omega)) (RCells.nil _)))
        refine Y.pv F (X.load rfl (F.ev 317 (.pointer (some ⟨bn, y * 5 + 4, none⟩))) (X.ld1 (Try.agg4 _) (hC.at 3 rfl))) ?_;clear F ac;intro ac F
        refine Y.nil ?_
        replace F : Fr ac 334 [(1, Vi T), (2, .slice la m lc), (3, Vp w.heap.size), (8, .slice (some ⟨bn, 0, none⟩) n cap), (10, v1), (11, v2), (12, Vi t), (13, Vi ((itN (pasP K) y ((tickE hold K n l t (runR hold K n l nd t).s), 0)).2)), (14, Vi (itN (fun i a => orV a ((tickA l t (runR hold K n l nd t).s) i 5)) n 0)), (20, Vi y), (318, .bool (bz ((pasR K y (itN (pasP K) y ((tickE hold K n l t (runR hold K n l nd t).s), 0)).1) y 16)))] := F.sub _
        refine X.thenN ?_
        cases h24 : bz ((pasR K y (itN (pasP K) y ((tickE hold K n l t (runR hold K n l nd t).s), 0)).1) y 16) with
        | false =>
         try rw [h24] at F
         refine Y.condF (F.ev 318 (.bool false)) ?_
         refine Y.skip ?_
         refine X.blockN ?_
         refine X.thenN ?_
         refine Y.lit (by kernel_rfl) ?_
         refine Y.pv F (X.move rfl (F.ev 20 (Vi y))) ?_;clear F ac;intro ac F
         refine Y.pv F (X.binop rfl (F.ev 255 (Vi y)) (X.kc (Vi 1) rfl) (X.addI Try.underlying3 rfl (by omega) (by omega))) ?_;clear F ac;intro ac F
         refine Y.pv F (X.assign rfl (F.ev 256 (Vi ((y : Int) + 1)))) ?_;clear F ac;intro ac F
         refine Y.nil ?_
         replace F : Fr ac 334 [(1, Vi T), (2, .slice la m lc), (3, Vp w.heap.size), (8, .slice (some ⟨bn, 0, none⟩) n cap), (10, v1), (11, v2), (12, Vi t), (13, Vi ((itN (pasP K) y ((tickE hold K n l t (runR hold K n l nd t).s), 0)).2)), (14, Vi (itN (fun i a => orV a ((tickA l t (runR hold K n l nd t).s) i 5)) n 0)), (20, Vi ((y : Int) + 1))] := F.sub _
         refine X.thenN ?_
         refine ⟨_, ?_, y + 1, rfl, by omega, hN, (by rw [show (itN (pasP K) (y + 1) ((tickE hold K n l t (runR hold K n l nd t).s), 0)).2 = (itN (pasP K) y ((tickE hold K n l t (runR hold K n l nd t).s), 0)).2 from if_pos (show pasR K y (itN (pasP K) y ((tickE hold K n l t (runR hold K n l nd t).s), 0)).1 y 16 = 0 from bz_false h24)]; exact F.sub _)⟩
         omega
        | true =>
         try rw [h24] at F
         refine Y.condT (F.ev 318 (.bool true)) ?_
         refine Y.lit (by kernel_rfl) ?_
         refine Y.pv F (X.move rfl (F.ev 13 (Vi ((itN (pasP K) y ((tickE hold K n l t (runR hold K n l nd t).s), 0)).2)))) ?_;clear F ac;intro ac F
         refine Y.pv F (X.move rfl (F.ev 20 (Vi y))) ?_;clear F ac;intro ac F
         refine Y.pv F (X.conv rfl (F.ev 320 (Vi y)) (X.cv54 Try.underlying3 Try.underlying54 (by omega))) ?_;clear F ac;intro ac F
         refine Y.pv F (X.binop rfl (X.kc (Vi 1) rfl) (F.ev 321 (.int .u64 y)) (X.shlI Try.underlying3 rfl (by omega))) ?_;clear F ac;intro ac F
         refine Y.pv F (X.binop rfl (F.ev 319 (Vi ((itN (pasP K) y ((tickE hold K n l t (runR hold K n l nd t).s), 0)).2))) (F.ev 322 (Vi (shlV 1 (y : Int)))) (X.orI Try.underlying3 rfl)) ?_;clear F ac;intro ac F
         refine Y.pv F (X.assign rfl (F.ev 323 (Vi (orV ((itN (pasP K) y ((tickE hold K n l t (runR hold K n l nd t).s), 0)).2 : Int) (shlV 1 (y : Int) : Int))))) ?_;clear F ac;intro ac F
         refine Y.nil ?_
         replace F : Fr ac 334 [(1, Vi T), (2, .slice la m lc), (3, Vp w.heap.size), (8, .slice (some ⟨bn, 0, none⟩) n cap), (10, v1), (11, v2), (12, Vi t), (13, Vi (orV ((itN (pasP K) y ((tickE hold K n l t (runR hold K n l nd t).s), 0)).2 : Int) (shlV 1 (y : Int) : Int))), (14, Vi (itN (fun i a => orV a ((tickA l t (runR hold K n l nd t).s) i 5)) n 0)), (20, Vi y)] := F.sub _
         refine X.blockN ?_
         refine X.thenN ?_
         refine Y.lit (by kernel_rfl) ?_
         refine Y.pv F (X.move rfl (F.ev 20 (Vi y))) ?_;clear F ac;intro ac F
         refine Y.pv F (X.binop rfl (F.ev 255 (Vi y)) (X.kc (Vi 1) rfl) (X.addI Try.underlying3 rfl (by omega) (by omega))) ?_;clear F ac;intro ac F
         refine Y.pv F (X.assign rfl (F.ev 256 (Vi ((y : Int) + 1)))) ?_;clear F ac;intro ac F
         refine Y.nil ?_
         replace F : Fr ac 334 [(1, Vi T), (2, .slice la m lc), (3, Vp w.heap.size), (8, .slice (some ⟨bn, 0, none⟩) n cap), (10, v1), (11, v2), (12, Vi t), (13, Vi (orV ((itN (pasP K) y ((tickE hold K n l t (runR hold K n l nd t).s), 0)).2 : Int) (shlV 1 (y : Int) : Int))), (14, Vi (itN (fun i a => orV a ((tickA l t (runR hold K n l nd t).s) i 5)) n 0)), (20, Vi ((y : Int) + 1))] := F.sub _
         refine X.thenN ?_
         refine ⟨_, ?_, y + 1, rfl, by omega, hN, (by rw [show (itN (pasP K) (y + 1) ((tickE hold K n l t (runR hold K n l nd t).s), 0)).2 = orV (itN (pasP K) y ((tickE hold K n l t (runR hold K n l nd t).s), 0)).2 (shlV 1 y) from if_neg (show ¬ pasR K y (itN (pasP K) y ((tickE hold K n l t (runR hold K n l nd t).s), 0)).1 y 16 = 0 from bz_true h24)]; exact F.sub _)⟩
         omega
       | true =>
        try rw [h22] at F
        have h22p : ((N : Int) < K) := of_decide_eq_true h22
        have hN2 : N < K := by omega
        have hb6 := hk6.ok.t y hy2 (6 + N) (by omega) (by omega)
        refine Y.condT (F.ev 271 (.bool true)) ?_
        refine Y.skip ?_
        refine X.thenN ?_
        refine Y.seq ?_
        refine Y.block ?_
        refine Y.seq ?_
        refine Y.lit (by kernel_rfl) ?_
        refine Y.pv F (X.move rfl (F.ev 21 (.pointer (some ⟨bn, y * 5, none⟩)))) ?_;clear F ac;intro ac F
        refine Y.pv F (X.move rfl (F.ev 21 (.pointer (some ⟨bn, y * 5, none⟩)))) ?_;clear F ac;intro ac F
        refine Y.pv F (Y.nilC rfl (F.ev 275 (.pointer (some ⟨bn, y * 5, none⟩)))) ?_;clear F ac;intro ac F
        refine Y.pv F (X.field rfl (F.ev 276 (.pointer (some ⟨bn, y * 5, none⟩))) (X.fld Try.underlying115 rfl (Try.siz4 _) rfl rfl)) ?_;clear F ac;intro ac F
        replace hC : RCells w21 [(Ad w.heap.size 0, Vi K), (Ad w.heap.size 1, Vi hold), (Ad w.heap.size 2, .slice na n nc), (⟨bn, y * 5 + 4, none⟩, .bool (bz ((itN (tmR y) N (aw0 y (itN (pasP K) y ((tickE hold K n l t (runR hold K n l nd t).s), 0)).1)) y 16)))] := hC.append ((RCells.cons (hN.c4 (i := y) (by omega)) (RCells.nil _)))
        refine Y.pv F (X.load rfl (F.ev 277 (.pointer (some ⟨bn, y * 5 + 4, none⟩))) (X.ld1 (Try.agg4 _) (hC.at 3 rfl))) ?_;clear F ac;intro ac F
        refine Y.pv F (X.move rfl (F.ev 278 (.bool (bz ((itN (tmR y) N (aw0 y (itN (pasP K) y ((tickE hold K n l t (runR hold K n l nd t).s), 0)).1)) y 16))))) ?_;clear F ac;intro ac F
        cases h25 : bz ((itN (tmR y) N (aw0 y (itN (pasP K) y ((tickE hold K n l t (runR hold K n l nd t).s), 0)).1)) y 16) with
        | false =>
         try rw [h25] at F
         refine Y.pval F (X.w1 rfl (F.yl (j := 5) (d := 279) (b := false) rfl (by kernel_rfl))) rfl (X.move rfl (F.ev 21 (.pointer (some ⟨bn, y * 5, none⟩)))) ?_;clear F ac;intro ac F
         refine Y.pval F (X.w1 rfl (F.yl (j := 5) (d := 279) (b := false) rfl (by kernel_rfl))) rfl (Y.nilC rfl (F.ev 280 (.pointer (some ⟨bn, y * 5, none⟩)))) ?_;clear F ac;intro ac F
         refine Y.pval F (X.w1 rfl (F.yl (j := 5) (d := 279) (b := false) rfl (by kernel_rfl))) rfl (X.field rfl (F.ev 281 (.pointer (some ⟨bn, y * 5, none⟩))) (X.fld Try.underlying115 rfl (Try.siz34 _) rfl rfl)) ?_;clear F ac;intro ac F
         replace hC : RCells w21 [(Ad w.heap.size 0, Vi K), (Ad w.heap.size 1, Vi hold), (Ad w.heap.size 2, .slice na n nc), (⟨bn, y * 5 + 4, none⟩, .bool (bz ((itN (tmR y) N (aw0 y (itN (pasP K) y ((tickE hold K n l t (runR hold K n l nd t).s), 0)).1)) y 16))), (⟨bn, y * 5 + 1, none⟩, .slice (some ⟨f y, 0, none⟩) K K)] := hC.append ((RCells.cons (hN.c1 (i := y) (by omega)) (RCells.nil _)))
         refine Y.pval F (X.w1 rfl (F.yl (j := 5) (d := 279) (b := false) rfl (by kernel_rfl))) rfl (X.load rfl (F.ev 282 (.pointer (some ⟨bn, y * 5 + 1, none⟩))) (X.ld1 (Try.agg34 _) (hC.at 4 rfl))) ?_;clear F ac;intro ac F
         refine Y.pval F (X.w1 rfl (F.yl (j := 5) (d := 279) (b := false) rfl (by kernel_rfl))) rfl (X.move rfl (F.ev 22 (Vi N))) ?_;clear F ac;intro ac F
         refine Y.pval F (X.w1 rfl (F.yl (j := 5) (d := 279) (b := false) rfl (by kernel_rfl))) rfl (X.index rfl (F.ev 283 (.slice (some ⟨f y, 0, none⟩) K K)) (F.ev 284 (Vi N)) (X.idx (k := N) Try.underlying34 (Try.siz3 _) (by omega) (by omega) (addr_ownR _ _))) ?_;clear F ac;intro ac F
         replace hC : RCells w21 [(Ad w.heap.size 0, Vi K), (Ad w.heap.size 1, Vi hold), (Ad w.heap.size 2, .slice na n nc), (⟨bn, y * 5 + 4, none⟩, .bool (bz ((itN (tmR y) N (aw0 y (itN (pasP K) y ((tickE hold K n l t (runR hold K n l nd t).s), 0)).1)) y 16))), (⟨bn, y * 5 + 1, none⟩, .slice (some ⟨f y, 0, none⟩) K K), (⟨f y, N, none⟩, Vi ((itN (tmR y) N (aw0 y (itN (pasP K) y ((tickE hold K n l t (runR hold K n l nd t).s), 0)).1)) y (6 + N)))] := hC.append ((RCells.cons (hN.ct (i := y) (q := N) (by omega) (by omega)) (RCells.nil _)))
         refine Y.pval F (X.w1 rfl (F.yl (j := 5) (d := 279) (b := false) rfl (by kernel_rfl))) rfl (X.load rfl (F.ev 285 (.pointer (some ⟨f y, N, none⟩))) (X.ld1 (Try.agg3 _) (hC.at 5 rfl))) ?_;clear F ac;intro ac F
         refine Y.pval F (X.w1 rfl (F.yl (j := 5) (d := 279) (b := false) rfl (by kernel_rfl))) rfl (X.binop rfl (F.ev 286 (Vi ((itN (tmR y) N (aw0 y (itN (pasP K) y ((tickE hold K n l t (runR hold K n l nd t).s), 0)).1)) y (6 + N)))) (X.kc (Vi 0) rfl) (X.gtrI Try.underlying3 rfl)) ?_;clear F ac;intro ac F
         refine Y.pv F (X.pickF rfl (F.ev 279 (.bool false)) (F.ev 287 (.bool (decide ((0 : Int) < ((itN (tmR y) N (aw0 y (itN (pasP K) y ((tickE hold K n l t (runR hold K n l nd t).s), 0)).1)) y (6 + N))))))) ?_;clear F ac;intro ac F
         refine Y.pv F (Y.nilC rfl (F.ev 274 (.pointer (some ⟨bn, y * 5, none⟩)))) ?_;clear F ac;intro ac F
         refine Y.pv F (X.field rfl (F.ev 289 (.pointer (some ⟨bn, y * 5, none⟩))) (X.fld Try.underlying115 rfl (Try.siz4 _) rfl rfl)) ?_;clear F ac;intro ac F
         refine Y.punit F (X.w0 rfl) rfl (X.store rfl (F.ev 290 (.pointer (some ⟨bn, y * 5 + 4, none⟩))) (F.ev 288 (.bool (decide ((0 : Int) < ((itN (tmR y) N (aw0 y (itN (pasP K) y ((tickE hold K n l t (runR hold K n l nd t).s), 0)).1)) y (6 + N)))))) ((hN.o (by omega)).st1 (Try.siz4 _) rfl rfl (by omega))) ?_;clear F ac;intro ac F
         have hN2 : Pst W1 (w21.setCell ⟨bn, y * 5 + 4, none⟩ (.bool (decide ((0 : Int) < ((itN (tmR y) N (aw0 y (itN (pasP K) y ((tickE hold K n l t (runR hold K n l nd t).s), 0)).1)) y (6 + N)))))) bn n K f (up (itN (tmR y) N (aw0 y (itN (pasP K) y ((tickE hold K n l t (runR hold K n l nd t).s), 0)).1)) y 16 (if (decide ((0 : Int) < ((itN (tmR y) N (aw0 y (itN (pasP K) y ((tickE hold K n l t (runR hold K n l nd t).s), 0)).1)) y (6 + N)))) = true then 1 else 0)) v1 v2 t t ((runR hold K n l nd t).rows) ((runR hold K n l nd t).asked) := hN.setB (i := y) (by omega) (decide ((0 : Int) < ((itN (tmR y) N (aw0 y (itN (pasP K) y ((tickE hold K n l t (runR hold K n l nd t).s), 0)).1)) y (6 + N))))
         generalize w21.setCell ⟨bn, y * 5 + 4, none⟩ (.bool (decide ((0 : Int) < ((itN (tmR y) N (aw0 y (itN (pasP K) y ((tickE hold K n l t (runR hold K n l nd t).s), 0)).1)) y (6 + N))))) = w26 at *
         clear hN hC G hnd hl
         have hN := hN2
         clear hN2
         have G := G1.trans hN.g
         have hC := hC1.gr hN.g
         have hnd := hnd1.gr hN.g
         have hl := hl1.gr hN.g
         replace hN : Pst W1 w26 bn n K f (tm1 y N (itN (tmR y) N (aw0 y (itN (pasP K) y ((tickE hold K n l t (runR hold K n l nd t).s), 0)).1))) v1 v2 t t ((runR hold K n l nd t).rows) ((runR hold K n l nd t).asked) := by rw [← tm1_f (bz_false h25)]; exact hN
         replace hC := hC1.gr hN.g
         have hk8 := hk6.tm1 y N
         have hb8 := hk8.ok.t y hy2 (6 + N) (by omega) (by omega)
         refine Y.nil ?_
         replace F : Fr ac 334 [(1, Vi T), (2, .slice la m lc), (3, Vp w.heap.size), (8, .slice (some ⟨bn, 0, none⟩) n cap), (10, v1), (11, v2), (12, Vi t), (13, Vi ((itN (pasP K) y ((tickE hold K n l t (runR hold K n l nd t).s), 0)).2)), (14, Vi (itN (fun i a => orV a ((tickA l t (runR hold K n l nd t).s) i 5)) n 0)), (20, Vi y), (21, .pointer (some ⟨bn, y * 5, none⟩)), (22, Vi N)] := F.sub _
         refine X.thenN ?_
         replace hC : RCells w26 [(Ad w.heap.size 0, Vi K), (Ad w.heap.size 1, Vi hold), (Ad w.heap.size 2, .slice na n nc), (⟨bn, y * 5 + 1, none⟩, .slice (some ⟨f y, 0, none⟩) K K)] := hC.append ((RCells.cons (hN.c1 (i := y) (by omega)) (RCells.nil _)))
         replace hC : RCells w26 [(Ad w.heap.size 0, Vi K), (Ad w.heap.size 1, Vi hold), (Ad w.heap.size 2, .slice na n nc), (⟨bn, y * 5 + 1, none⟩, .slice (some ⟨f y, 0, none⟩) K K), (⟨f y, N, none⟩, Vi ((tm1 y N (itN (tmR y) N (aw0 y (itN (pasP K) y ((tickE hold K n l t (runR hold K n l nd t).s), 0)).1))) y (6 + N)))] := hC.append ((RCells.cons (hN.ct (i := y) (q := N) (by omega) (by omega)) (RCells.nil _)))
         refine Y.regionS F [some (.pointer (some ⟨bn, y * 5, none⟩)), some (.pointer (some ⟨bn, y * 5, none⟩)), some (.pointer (some ⟨bn, y * 5 + 1, none⟩)), some (.slice (some ⟨f y, 0, none⟩) K K), some (Vi N), some (.pointer (some ⟨bn, y * 5, none⟩)), some (.pointer (some ⟨bn, y * 5, none⟩)), some (.pointer (some ⟨bn, y * 5 + 1, none⟩)), some (.slice (some ⟨f y, 0, none⟩) K K), some (Vi N), some (.pointer (some ⟨f y, N, none⟩)), some (Vi ((tm1 y N (itN (tmR y) N (aw0 y (itN (pasP K) y ((tickE hold K n l t (runR hold K n l nd t).s), 0)).1))) y (6 + N))), some (Vi (((tm1 y N (itN (tmR y) N (aw0 y (itN (pasP K) y ((tickE hold K n l t (runR hold K n l nd t).s), 0)).1))) y (6 + N) : Int) - 1)), some (Vi (max (0 : Int) (((tm1 y N (itN (tmR y) N (aw0 y (itN (pasP K) y ((tickE hold K n l t (runR hold K n l nd t).s), 0)).1))) y (6 + N) : Int) - 1 : Int))), some (.pointer (some ⟨f y, N, none⟩)), none] [] 15 (fun _ W => Pst W1 W bn n K f (up (tm1 y N (itN (tmR y) N (aw0 y (itN (pasP K) y ((tickE hold K n l t (runR hold K n l nd t).s), 0)).1))) y (6 + N) ((max (0 : Int) (((tm1 y N (itN (tmR y) N (aw0 y (itN (pasP K) y ((tickE hold K n l t (runR hold K n l nd t).s), 0)).1))) y (6 + N) : Int) - 1 : Int)) : Int)) v1 v2 t t ((runR hold K n l nd t).rows) ((runR hold K n l nd t).asked)) rfl ⟨by kernel_rfl, of_decide_eq_true (by kernel_rfl), by kernel_rfl, by kernel_rfl, by kernel_rfl⟩ (of_decide_eq_true (by kernel_rfl)) ⟨?_, ?_, ?_, ?_, ?_, ?_, ?_, ?_, ?_, ?_, ?_, ?_, ?_, ?_, ?_, ?_, trivial⟩ ?_
         ·intro ac done u W Sx hT
          have hs := Sx.no 15 (by kernel_rfl)
          have hR := hT.1 hs
          exact X.vl (X.move rfl (Sx.ev 21 (.pointer (some ⟨bn, y * 5, none⟩)))) (Y.RT.of hs rfl hR.st0)
         ·intro ac done u W Sx hT
          have hs := Sx.no 15 (by kernel_rfl)
          have hR := hT.1 hs
          exact X.vl (Y.nilC rfl (Sx.ev 291 (.pointer (some ⟨bn, y * 5, none⟩)))) (Y.RT.of hs rfl hR.st0)
         ·intro ac done u W Sx hT
          have hs := Sx.no 15 (by kernel_rfl)
          have hR := hT.1 hs
          exact X.vl (X.field rfl (Sx.ev 292 (.pointer (some ⟨bn, y * 5, none⟩))) (X.fld Try.underlying115 rfl (Try.siz34 _) rfl rfl)) (Y.RT.of hs rfl hR.st0)
         ·intro ac done u W Sx hT
          have hs := Sx.no 15 (by kernel_rfl)
          have hR := hT.1 hs
          have g : Gr w26 W := hR.1
          exact X.vl (X.load rfl (Sx.ev 293 (.pointer (some ⟨bn, y * 5 + 1, none⟩))) (X.ld1 (Try.agg34 _) ((hC.gr g).at 3 rfl))) (Y.RT.of hs rfl hR.st0)
         ·intro ac done u W Sx hT
          have hs := Sx.no 15 (by kernel_rfl)
          have hR := hT.1 hs
          exact X.vl (X.move rfl (Sx.ev 22 (Vi N))) (Y.RT.of hs rfl hR.st0)
         ·intro ac done u W Sx hT
          have hs := Sx.no 15 (by kernel_rfl)
          have hR := hT.1 hs
          exact X.vl (X.move rfl (Sx.ev 21 (.pointer (some ⟨bn, y * 5, none⟩)))) (Y.RT.of hs rfl hR.st0)
         ·intro ac done u W Sx hT
          have hs := Sx.no 15 (by kernel_rfl)
          have hR := hT.1 hs
          exact X.vl (Y.nilC rfl (Sx.ev 296 (.pointer (some ⟨bn, y * 5, none⟩)))) (Y.RT.of hs rfl hR.st0)
         ·intro ac done u W Sx hT
          have hs := Sx.no 15 (by kernel_rfl)
          have hR := hT.1 hs
          exact X.vl (X.field rfl (Sx.ev 297 (.pointer (some ⟨bn, y * 5, none⟩))) (X.fld Try.underlying115 rfl (Try.siz34 _) rfl rfl)) (Y.RT.of hs rfl hR.st0)
         ·intro ac done u W Sx hT
          have hs := Sx.no 15 (by kernel_rfl)
          have hR := hT.1 hs
          have g : Gr w26 W := hR.1
          exact X.vl (X.load rfl (Sx.ev 298 (.pointer (some ⟨bn, y * 5 + 1, none⟩))) (X.ld1 (Try.agg34 _) ((hC.gr g).at 3 rfl))) (Y.RT.of hs rfl hR.st0)
         ·intro ac done u W Sx hT
          have hs := Sx.no 15 (by kernel_rfl)
          have hR := hT.1 hs
          exact X.vl (X.move rfl (Sx.ev 22 (Vi N))) (Y.RT.of hs rfl hR.st0)
         ·intro ac done u W Sx hT
          have hs := Sx.no 15 (by kernel_rfl)
          have hR := hT.1 hs
          exact X.vl (X.index rfl (Sx.ev 299 (.slice (some ⟨f y, 0, none⟩) K K)) (Sx.ev 300 (Vi N)) (X.idx (k := N) Try.underlying34 (Try.siz3 _) (by omega) (by omega) (addr_ownR _ _))) (Y.RT.of hs rfl hR.st0)
         ·intro ac done u W Sx hT
          have hs := Sx.no 15 (by kernel_rfl)
          have hR := hT.1 hs
          have g : Gr w26 W := hR.1
          exact X.vl (X.load rfl (Sx.ev 301 (.pointer (some ⟨f y, N, none⟩))) (X.ld1 (Try.agg3 _) ((hC.gr g).at 4 rfl))) (Y.RT.of hs rfl hR.st0)
         ·intro ac done u W Sx hT
          have hs := Sx.no 15 (by kernel_rfl)
          have hR := hT.1 hs
          exact X.vl (X.binop rfl (Sx.ev 302 (Vi ((tm1 y N (itN (tmR y) N (aw0 y (itN (pasP K) y ((tickE hold K n l t (runR hold K n l nd t).s), 0)).1))) y (6 + N)))) (X.kc (Vi 1) rfl) (X.subI Try.underlying3 rfl (by omega) (by omega))) (Y.RT.of hs rfl hR.st0)
         ·intro ac done u W Sx hT
          have hs := Sx.no 15 (by kernel_rfl)
          have hR := hT.1 hs
          exact X.vl (Y.max2 rfl (X.kc (Vi 0) rfl) (Sx.ev 303 (Vi (((tm1 y N (itN (tmR y) N (aw0 y (itN (pasP K) y ((tickE hold K n l t (runR hold K n l nd t).s), 0)).1))) y (6 + N) : Int) - 1)))) (Y.RT.of hs rfl hR.st0)
         ·intro ac done u W Sx hT
          have hs := Sx.no 15 (by kernel_rfl)
          have hR := hT.1 hs
          exact X.vl (X.index rfl (Sx.ev 294 (.slice (some ⟨f y, 0, none⟩) K K)) (Sx.ev 295 (Vi N)) (X.idx (k := N) Try.underlying34 (Try.siz3 _) (by omega) (by omega) (addr_ownR _ _))) (Y.RT.of hs rfl hR.st0)
         ·intro ac done u W Sx hT
          have hR := hT.1 Sx.nd
          have g : Gr w26 W := hR.1
          have hNg := hN.gr g
          exact X.unit (X.w0 rfl) rfl (X.store rfl (Sx.ev 305 (.pointer (some ⟨f y, N, none⟩))) (Sx.ev 304 (Vi (max (0 : Int) (((tm1 y N (itN (tmR y) N (aw0 y (itN (pasP K) y ((tickE hold K n l t (runR hold K n l nd t).s), 0)).1))) y (6 + N) : Int) - 1 : Int)))) ((hNg.t y (by omega)).st1 (Try.siz3 _) rfl rfl (by omega))) (Y.RT.fin (hNg.setT (i := y) (q := N) (by omega) (by omega) ((max (0 : Int) (((tm1 y N (itN (tmR y) N (aw0 y (itN (pasP K) y ((tickE hold K n l t (runR hold K n l nd t).s), 0)).1))) y (6 + N) : Int) - 1 : Int)))))
         rintro ac u w27 hs hd hl_ ho hN2
         replace F : Fr ac 334 [(1, Vi T), (2, .slice la m lc), (3, Vp w.heap.size), (8, .slice (some ⟨bn, 0, none⟩) n cap), (10, v1), (11, v2), (12, Vi t), (13, Vi ((itN (pasP K) y ((tickE hold K n l t (runR hold K n l nd t).s), 0)).2)), (14, Vi (itN (fun i a => orV a ((tickA l t (runR hold K n l nd t).s) i 5)) n 0)), (20, Vi y), (21, .pointer (some ⟨bn, y * 5, none⟩)), (22, Vi N)] := X.fr hs hd hl_ _ (by kernel_rfl)
         clear hs hd hl_ ho hN hC G hnd hl
         have hN : Pst W1 w27 bn n K f (up (tm1 y N (itN (tmR y) N (aw0 y (itN (pasP K) y ((tickE hold K n l t (runR hold K n l nd t).s), 0)).1))) y (6 + N) ((max (0 : Int) (((tm1 y N (itN (tmR y) N (aw0 y (itN (pasP K) y ((tickE hold K n l t (runR hold K n l nd t).s), 0)).1))) y (6 + N) : Int) - 1 : Int)) : Int)) v1 v2 t t ((runR hold K n l nd t).rows) ((runR hold K n l nd t).asked) := hN2
         clear hN2
         have G := G1.trans hN.g
         have hC := hC1.gr hN.g
         have hnd := hnd1.gr hN.g
         have hl := hl1.gr hN.g
         replace hN : Pst W1 w27 bn n K f (tmR y N (itN (tmR y) N (aw0 y (itN (pasP K) y ((tickE hold K n l t (runR hold K n l nd t).s), 0)).1))) v1 v2 t t ((runR hold K n l nd t).rows) ((runR hold K n l nd t).asked) := by rw [← tmR_eq (by omega)]; exact hN
         replace hC := hC1.gr hN.g
         refine X.blockN ?_
         refine X.thenN ?_
         refine Y.lit (by kernel_rfl) ?_
         refine Y.pv F (X.move rfl (F.ev 22 (Vi N))) ?_;clear F ac;intro ac F
         refine Y.pv F (X.binop rfl (F.ev 272 (Vi N)) (X.kc (Vi 1) rfl) (X.addI Try.underlying3 rfl (by omega) (by omega))) ?_;clear F ac;intro ac F
         refine Y.pv F (X.assign rfl (F.ev 273 (Vi ((N : Int) + 1)))) ?_;clear F ac;intro ac F
         refine Y.nil ?_
         replace F : Fr ac 334 [(1, Vi T), (2, .slice la m lc), (3, Vp w.heap.size), (8, .slice (some ⟨bn, 0, none⟩) n cap), (10, v1), (11, v2), (12, Vi t), (13, Vi ((itN (pasP K) y ((tickE hold K n l t (runR hold K n l nd t).s), 0)).2)), (14, Vi (itN (fun i a => orV a ((tickA l t (runR hold K n l nd t).s) i 5)) n 0)), (20, Vi y), (21, .pointer (some ⟨bn, y * 5, none⟩)), (22, Vi ((N : Int) + 1))] := F.sub _
         refine X.thenN ?_
         refine ⟨_, ?_, N + 1, rfl, by omega, hN, F.sub _⟩
         omega
        | true =>
         try rw [h25] at F
         refine Y.pskip F (X.w2 rfl (F.yl (j := 5) (d := 279) (b := true) rfl (by kernel_rfl)) rfl) rfl ?_;clear F ac;intro ac F
         refine Y.pskip F (X.w2 rfl (F.yl (j := 5) (d := 279) (b := true) rfl (by kernel_rfl)) rfl) rfl ?_;clear F ac;intro ac F
         refine Y.pskip F (X.w2 rfl (F.yl (j := 5) (d := 279) (b := true) rfl (by kernel_rfl)) rfl) rfl ?_;clear F ac;intro ac F
         refine Y.pskip F (X.w2 rfl (F.yl (j := 5) (d := 279) (b := true) rfl (by kernel_rfl)) rfl) rfl ?_;clear F ac;intro ac F
         refine Y.pskip F (X.w2 rfl (F.yl (j := 5) (d := 279) (b := true) rfl (by kernel_rfl)) rfl) rfl ?_;clear F ac;intro ac F
         refine Y.pskip F (X.w2 rfl (F.yl (j := 5) (d := 279) (b := true) rfl (by kernel_rfl)) rfl) rfl ?_;clear F ac;intro ac F
         refine Y.pskip F (X.w2 rfl (F.yl (j := 5) (d := 279) (b := true) rfl (by kernel_rfl)) rfl) rfl ?_;clear F ac;intro ac F
         refine Y.pskip F (X.w2 rfl (F.yl (j := 5) (d := 279) (b := true) rfl (by kernel_rfl)) rfl) rfl ?_;clear F ac;intro ac F
         refine Y.pv F (X.pickT rfl (F.ev 279 (.bool true)) (X.kc (.bool true) rfl)) ?_;clear F ac;intro ac F
         refine Y.pv F (Y.nilC rfl (F.ev 274 (.pointer (some ⟨bn, y * 5, none⟩)))) ?_;clear F ac;intro ac F
         refine Y.pv F (X.field rfl (F.ev 289 (.pointer (some ⟨bn, y * 5, none⟩))) (X.fld Try.underlying115 rfl (Try.siz4 _) rfl rfl)) ?_;clear F ac;intro ac F
         refine Y.punit F (X.w0 rfl) rfl (X.store rfl (F.ev 290 (.pointer (some ⟨bn, y * 5 + 4, none⟩))) (F.ev 288 (.bool true)) ((hN.o (by omega)).st1 (Try.siz4 _) rfl rfl (by omega))) ?_;clear F ac;intro ac F
         have hN2 : Pst W1 (w21.setCell ⟨bn, y * 5 + 4, none⟩ (.bool true)) bn n K f (up (itN (tmR y) N (aw0 y (itN (pasP K) y ((tickE hold K n l t (runR hold K n l nd t).s), 0)).1)) y 16 (if (true) = true then 1 else 0)) v1 v2 t t ((runR hold K n l nd t).rows) ((runR hold K n l nd t).asked) := hN.setB (i := y) (by omega) (true)
         generalize w21.setCell ⟨bn, y * 5 + 4, none⟩ (.bool true) = w28 at *
         clear hN hC G hnd hl
         have hN := hN2
         clear hN2
         have G := G1.trans hN.g
         have hC := hC1.gr hN.g
         have hnd := hnd1.gr hN.g
         have hl := hl1.gr hN.g
         replace hN : Pst W1 w28 bn n K f (tm1 y N (itN (tmR y) N (aw0 y (itN (pasP K) y ((tickE hold K n l t (runR hold K n l nd t).s), 0)).1))) v1 v2 t t ((runR hold K n l nd t).rows) ((runR hold K n l nd t).asked) := by rw [← tm1_t (bz_true h25)]; exact hN
         replace hC := hC1.gr hN.g
         have hk8 := hk6.tm1 y N
         have hb8 := hk8.ok.t y hy2 (6 + N) (by omega) (by omega)
         refine Y.nil ?_
         replace F : Fr ac 334 [(1, Vi T), (2, .slice la m lc), (3, Vp w.heap.size), (8, .slice (some ⟨bn, 0, none⟩) n cap), (10, v1), (11, v2), (12, Vi t), (13, Vi ((itN (pasP K) y ((tickE hold K n l t (runR hold K n l nd t).s), 0)).2)), (14, Vi (itN (fun i a => orV a ((tickA l t (runR hold K n l nd t).s) i 5)) n 0)), (20, Vi y), (21, .pointer (some ⟨bn, y * 5, none⟩)), (22, Vi N)] := F.sub _
         refine X.thenN ?_
         replace hC : RCells w28 [(Ad w.heap.size 0, Vi K), (Ad w.heap.size 1, Vi hold), (Ad w.heap.size 2, .slice na n nc), (⟨bn, y * 5 + 1, none⟩, .slice (some ⟨f y, 0, none⟩) K K)] := hC.append ((RCells.cons (hN.c1 (i := y) (by omega)) (RCells.nil _)))
         replace hC : RCells w28 [(Ad w.heap.size 0, Vi K), (Ad w.heap.size 1, Vi hold), (Ad w.heap.size 2, .slice na n nc), (⟨bn, y * 5 + 1, none⟩, .slice (some ⟨f y, 0, none⟩) K K), (⟨f y, N, none⟩, Vi ((tm1 y N (itN (tmR y) N (aw0 y (itN (pasP K) y ((tickE hold K n l t (runR hold K n l nd t).s), 0)).1))) y (6 + N)))] := hC.append ((RCells.cons (hN.ct (i := y) (q := N) (by omega) (by omega)) (RCells.nil _)))
         refine Y.regionS F [some (.pointer (some ⟨bn, y * 5, none⟩)), some (.pointer (some ⟨bn, y * 5, none⟩)), some (.pointer (some ⟨bn, y * 5 + 1, none⟩)), some (.slice (some ⟨f y, 0, none⟩) K K), some (Vi N), some (.pointer (some ⟨bn, y * 5, none⟩)), some (.pointer (some ⟨bn, y * 5, none⟩)), some (.pointer (some ⟨bn, y * 5 + 1, none⟩)), some (.slice (some ⟨f y, 0, none⟩) K K), some (Vi N), some (.pointer (some ⟨f y, N, none⟩)), some (Vi ((tm1 y N (itN (tmR y) N (aw0 y (itN (pasP K) y ((tickE hold K n l t (runR hold K n l nd t).s), 0)).1))) y (6 + N))), some (Vi (((tm1 y N (itN (tmR y) N (aw0 y (itN (pasP K) y ((tickE hold K n l t (runR hold K n l nd t).s), 0)).1))) y (6 + N) : Int) - 1)), some (Vi (max (0 : Int) (((tm1 y N (itN (tmR y) N (aw0 y (itN (pasP K) y ((tickE hold K n l t (runR hold K n l nd t).s), 0)).1))) y (6 + N) : Int) - 1 : Int))), some (.pointer (some ⟨f y, N, none⟩)), none] [] 15 (fun _ W => Pst W1 W bn n K f (up (tm1 y N (itN (tmR y) N (aw0 y (itN (pasP K) y ((tickE hold K n l t (runR hold K n l nd t).s), 0)).1))) y (6 + N) ((max (0 : Int) (((tm1 y N (itN (tmR y) N (aw0 y (itN (pasP K) y ((tickE hold K n l t (runR hold K n l nd t).s), 0)).1))) y (6 + N) : Int) - 1 : Int)) : Int)) v1 v2 t t ((runR hold K n l nd t).rows) ((runR hold K n l nd t).asked)) rfl ⟨by kernel_rfl, of_decide_eq_true (by kernel_rfl), by kernel_rfl, by kernel_rfl, by kernel_rfl⟩ (of_decide_eq_true (by kernel_rfl)) ⟨?_, ?_, ?_, ?_, ?_, ?_, ?_, ?_, ?_, ?_, ?_, ?_, ?_, ?_, ?_, ?_, trivial⟩ ?_
         ·intro ac done u W Sx hT
          have hs := Sx.no 15 (by kernel_rfl)
          have hR := hT.1 hs
          exact X.vl (X.move rfl (Sx.ev 21 (.pointer (some ⟨bn, y * 5, none⟩)))) (Y.RT.of hs rfl hR.st0)
         ·intro ac done u W Sx hT
          have hs := Sx.no 15 (by kernel_rfl)
          have hR := hT.1 hs
          exact X.vl (Y.nilC rfl (Sx.ev 291 (.pointer (some ⟨bn, y * 5, none⟩)))) (Y.RT.of hs rfl hR.st0)
         ·intro ac done u W Sx hT
          have hs := Sx.no 15 (by kernel_rfl)
          have hR := hT.1 hs
          exact X.vl (X.field rfl (Sx.ev 292 (.pointer (some ⟨bn, y * 5, none⟩))) (X.fld Try.underlying115 rfl (Try.siz34 _) rfl rfl)) (Y.RT.of hs rfl hR.st0)
         ·intro ac done u W Sx hT
          have hs := Sx.no 15 (by kernel_rfl)
          have hR := hT.1 hs
          have g : Gr w28 W := hR.1
          exact X.vl (X.load rfl (Sx.ev 293 (.pointer (some ⟨bn, y * 5 + 1, none⟩))) (X.ld1 (Try.agg34 _) ((hC.gr g).at 3 rfl))) (Y.RT.of hs rfl hR.st0)
         ·intro ac done u W Sx hT
          have hs := Sx.no 15 (by kernel_rfl)
          have hR := hT.1 hs
          exact X.vl (X.move rfl (Sx.ev 22 (Vi N))) (Y.RT.of hs rfl hR.st0)
         ·intro ac done u W Sx hT
          have hs := Sx.no 15 (by kernel_rfl)
          have hR := hT.1 hs
          exact X.vl (X.move rfl (Sx.ev 21 (.pointer (some ⟨bn, y * 5, none⟩)))) (Y.RT.of hs rfl hR.st0)
         ·intro ac done u W Sx hT
          have hs := Sx.no 15 (by kernel_rfl)
          have hR := hT.1 hs
          exact X.vl (Y.nilC rfl (Sx.ev 296 (.pointer (some ⟨bn, y * 5, none⟩)))) (Y.RT.of hs rfl hR.st0)
         ·intro ac done u W Sx hT
          have hs := Sx.no 15 (by kernel_rfl)
          have hR := hT.1 hs
          exact X.vl (X.field rfl (Sx.ev 297 (.pointer (some ⟨bn, y * 5, none⟩))) (X.fld Try.underlying115 rfl (Try.siz34 _) rfl rfl)) (Y.RT.of hs rfl hR.st0)
         ·intro ac done u W Sx hT
          have hs := Sx.no 15 (by kernel_rfl)
          have hR := hT.1 hs
          have g : Gr w28 W := hR.1
          exact X.vl (X.load rfl (Sx.ev 298 (.pointer (some ⟨bn, y * 5 + 1, none⟩))) (X.ld1 (Try.agg34 _) ((hC.gr g).at 3 rfl))) (Y.RT.of hs rfl hR.st0)
         ·intro ac done u W Sx hT
          have hs := Sx.no 15 (by kernel_rfl)
          have hR := hT.1 hs
          exact X.vl (X.move rfl (Sx.ev 22 (Vi N))) (Y.RT.of hs rfl hR.st0)
         ·intro ac done u W Sx hT
          have hs := Sx.no 15 (by kernel_rfl)
          have hR := hT.1 hs
          exact X.vl (X.index rfl (Sx.ev 299 (.slice (some ⟨f y, 0, none⟩) K K)) (Sx.ev 300 (Vi N)) (X.idx (k := N) Try.underlying34 (Try.siz3 _) (by omega) (by omega) (addr_ownR _ _))) (Y.RT.of hs rfl hR.st0)
         ·intro ac done u W Sx hT
          have hs := Sx.no 15 (by kernel_rfl)
          have hR := hT.1 hs
          have g : Gr w28 W := hR.1
          exact X.vl (X.load rfl (Sx.ev 301 (.pointer (some ⟨f y, N, none⟩))) (X.ld1 (Try.agg3 _) ((hC.gr g).at 4 rfl))) (Y.RT.of hs rfl hR.st0)
         ·intro ac done u W Sx hT
          have hs := Sx.no 15 (by kernel_rfl)
          have hR := hT.1 hs
          exact X.vl (X.binop rfl (Sx.ev 302 (Vi ((tm1 y N (itN (tmR y) N (aw0 y (itN (pasP K) y ((tickE hold K n l t (runR hold K n l nd t).s), 0)).1))) y (6 + N)))) (X.kc (Vi 1) rfl) (X.subI Try.underlying3 rfl (by omega) (by omega))) (Y.RT.of hs rfl hR.st0)
         ·intro ac done u W Sx hT
          have hs := Sx.no 15 (by kernel_rfl)
          have hR := hT.1 hs
          exact X.vl (Y.max2 rfl (X.kc (Vi 0) rfl) (Sx.ev 303 (Vi (((tm1 y N (itN (tmR y) N (aw0 y (itN (pasP K) y ((tickE hold K n l t (runR hold K n l nd t).s), 0)).1))) y (6 + N) : Int) - 1)))) (Y.RT.of hs rfl hR.st0)
         ·intro ac done u W Sx hT
          have hs := Sx.no 15 (by kernel_rfl)
          have hR := hT.1 hs
          exact X.vl (X.index rfl (Sx.ev 294 (.slice (some ⟨f y, 0, none⟩) K K)) (Sx.ev 295 (Vi N)) (X.idx (k := N) Try.underlying34 (Try.siz3 _) (by omega) (by omega) (addr_ownR _ _))) (Y.RT.of hs rfl hR.st0)
         ·intro ac done u W Sx hT
          have hR := hT.1 Sx.nd
          have g : Gr w28 W := hR.1
          have hNg := hN.gr g
          exact X.unit (X.w0 rfl) rfl (X.store rfl (Sx.ev 305 (.pointer (some ⟨f y, N, none⟩))) (Sx.ev 304 (Vi (max (0 : Int) (((tm1 y N (itN (tmR y) N (aw0 y (itN (pasP K) y ((tickE hold K n l t (runR hold K n l nd t).s), 0)).1))) y (6 + N) : Int) - 1 : Int)))) ((hNg.t y (by omega)).st1 (Try.siz3 _) rfl rfl (by omega))) (Y.RT.fin (hNg.setT (i := y) (q := N) (by omega) (by omega) ((max (0 : Int) (((tm1 y N (itN (tmR y) N (aw0 y (itN (pasP K) y ((tickE hold K n l t (runR hold K n l nd t).s), 0)).1))) y (6 + N) : Int) - 1 : Int)))))
         rintro ac u w29 hs hd hl_ ho hN2
         replace F : Fr ac 334 [(1, Vi T), (2, .slice la m lc), (3, Vp w.heap.size), (8, .slice (some ⟨bn, 0, none⟩) n cap), (10, v1), (11, v2), (12, Vi t), (13, Vi ((itN (pasP K) y ((tickE hold K n l t (runR hold K n l nd t).s), 0)).2)), (14, Vi (itN (fun i a => orV a ((tickA l t (runR hold K n l nd t).s) i 5)) n 0)), (20, Vi y), (21, .pointer (some ⟨bn, y * 5, none⟩)), (22, Vi N)] := X.fr hs hd hl_ _ (by kernel_rfl)
         clear hs hd hl_ ho hN hC G hnd hl
         have hN : Pst W1 w29 bn n K f (up (tm1 y N (itN (tmR y) N (aw0 y (itN (pasP K) y ((tickE hold K n l t (runR hold K n l nd t).s), 0)).1))) y (6 + N) ((max (0 : Int) (((tm1 y N (itN (tmR y) N (aw0 y (itN (pasP K) y ((tickE hold K n l t (runR hold K n l nd t).s), 0)).1))) y (6 + N) : Int) - 1 : Int)) : Int)) v1 v2 t t ((runR hold K n l nd t).rows) ((runR hold K n l nd t).asked) := hN2
         clear hN2
         have G := G1.trans hN.g
         have hC := hC1.gr hN.g
         have hnd := hnd1.gr hN.g
         have hl := hl1.gr hN.g
         replace hN : Pst W1 w29 bn n K f (tmR y N (itN (tmR y) N (aw0 y (itN (pasP K) y ((tickE hold K n l t (runR hold K n l nd t).s), 0)).1))) v1 v2 t t ((runR hold K n l nd t).rows) ((runR hold K n l nd t).asked) := by rw [← tmR_eq (by omega)]; exact hN
         replace hC := hC1.gr hN.g
         refine X.blockN ?_
         refine X.thenN ?_
         refine Y.lit (by kernel_rfl) ?_
         refine Y.pv F (X.move rfl (F.ev 22 (Vi N))) ?_;clear F ac;intro ac F
         refine Y.pv F (X.binop rfl (F.ev 272 (Vi N)) (X.kc (Vi 1) rfl) (X.addI Try.underlying3 rfl (by omega) (by omega))) ?_;clear F ac;intro ac F
         refine Y.pv F (X.assign rfl (F.ev 273 (Vi ((N : Int) + 1)))) ?_;clear F ac;intro ac F
         refine Y.nil ?_
         replace F : Fr ac 334 [(1, Vi T), (2, .slice la m lc), (3, Vp w.heap.size), (8, .slice (some ⟨bn, 0, none⟩) n cap), (10, v1), (11, v2), (12, Vi t), (13, Vi ((itN (pasP K) y ((tickE hold K n l t (runR hold K n l nd t).s), 0)).2)), (14, Vi (itN (fun i a => orV a ((tickA l t (runR hold K n l nd t).s) i 5)) n 0)), (20, Vi y), (21, .pointer (some ⟨bn, y * 5, none⟩)), (22, Vi ((N : Int) + 1))] := F.sub _
         refine X.thenN ?_
         refine ⟨_, ?_, N + 1, rfl, by omega, hN, F.sub _⟩
         omega
     | true =>
      try rw [h13] at F
      have h13p : ((z : Int) < n) := of_decide_eq_true h13
      have hz2 : z < n := by omega
      refine Y.condT (F.ev 202 (.bool true)) ?_
      refine Y.skip ?_
      refine X.thenN ?_
      refine Y.seq ?_
      refine Y.block ?_
      refine Y.seq ?_
      refine Y.lit (by kernel_rfl) ?_
      refine Y.pv F (X.assign rfl (X.kc (Vi 0) rfl)) ?_;clear F ac;intro ac F
      refine Y.nil ?_
      replace F : Fr ac 334 [(1, Vi T), (2, .slice la m lc), (3, Vp w.heap.size), (8, .slice pa n cap), (10, v1), (11, v2), (12, Vi t), (13, Vi 0), (14, Vi (itN (fun i a => orV a ((tickA l t (runR hold K n l nd t).s) i 5)) n 0)), (17, Vi z), (18, Vi 0)] := F.sub _
      refine X.thenN ?_
      refine Y.block ?_
      refine Y.loop (fun me_ ac wr => ∃ (d : Nat), me_ = n - d ∧ d ≤ n ∧ Pst W1 wr bn n K f (itN (sndR2 hold l t K z) d (itN (sndR3 hold l t K n) z (tickD hold n l t (runR hold K n l nd t).s))) v1 v2 t t ((runR hold K n l nd t).rows) ((runR hold K n l nd t).asked) ∧ Fr ac 334 [(1, Vi T), (2, .slice la m lc), (3, Vp w.heap.size), (8, .slice pa n cap), (10, v1), (11, v2), (12, Vi t), (13, Vi 0), (14, Vi (itN (fun i a => orV a ((tickA l t (runR hold K n l nd t).s) i 5)) n 0)), (17, Vi z), (18, Vi d)]) _ ⟨0, rfl, Nat.zero_le _, hN, F.sub _⟩ ?_
      clear F hC G hnd hl hN ac
      intro me_ ac w30 hI
      obtain ⟨d, rfl, hd, hN, F⟩ := hI
      have G := G1.trans hN.g
      have hC := hC1.gr hN.g
      have hnd := hnd1.gr hN.g
      have hl := hl1.gr hN.g
      have hk3 : KOk n nd (itN (sndR2 hold l t K z) d (itN (sndR3 hold l t K n) z (tickD hold n l t (runR hold K n l nd t).s))) := hk2.it d (fun i z2 _ hz => hz.snd2 hh1 hh2 t K z i)
      refine Y.seq ?_
      refine Y.seq ?_
      refine Y.lit (by kernel_rfl) ?_
      refine Y.pv F (X.move rfl (F.ev 18 (Vi d))) ?_;clear F ac;intro ac F
      refine Y.pv F (X.move rfl (F.ev 8 (.slice pa n cap))) ?_;clear F ac;intro ac F
      refine Y.pv F (X.len1 Try.underlying113 rfl (F.ev 206 (.slice pa n cap))) ?_;clear F ac;intro ac F
      refine Y.pv F (X.binop rfl (F.ev 205 (Vi d)) (F.ev 207 (Vi n)) (X.lssI Try.underlying3 rfl)) ?_;clear F ac;intro ac F
      refine Y.nil ?_
      replace F : Fr ac 334 [(1, Vi T), (2, .slice la m lc), (3, Vp w.heap.size), (8, .slice pa n cap), (10, v1), (11, v2), (12, Vi t), (13, Vi 0), (14, Vi (itN (fun i a => orV a ((tickA l t (runR hold K n l nd t).s) i 5)) n 0)), (17, Vi z), (18, Vi d), (208, .bool (decide ((d : Int) < n)))] := F.sub _
      refine X.thenN ?_
      cases h31 : decide ((d : Int) < n) with
      | false =>
       try rw [h31] at F
       have h31p : ¬ ((d : Int) < n) := of_decide_eq_false h31
       obtain rfl : n = d := by omega
       refine Y.condF (F.ev 208 (.bool false)) ?_
       refine Y.exit ?_
       refine X.thenX ?_
       refine X.thenX ?_
       refine X.blockX ?_
       refine X.blockN ?_
       refine X.thenN ?_
       refine Y.lit (by kernel_rfl) ?_
       refine Y.pv F (X.move rfl (F.ev 17 (Vi z))) ?_;clear F ac;intro ac F
       refine Y.pv F (X.binop rfl (F.ev 203 (Vi z)) (X.kc (Vi 1) rfl) (X.addI Try.underlying3 rfl (by omega) (by omega))) ?_;clear F ac;intro ac F
       refine Y.pv F (X.assign rfl (F.ev 204 (Vi ((z : Int) + 1)))) ?_;clear F ac;intro ac F
       refine Y.nil ?_
       replace F : Fr ac 334 [(1, Vi T), (2, .slice la m lc), (3, Vp w.heap.size), (8, .slice pa n cap), (10, v1), (11, v2), (12, Vi t), (13, Vi 0), (14, Vi (itN (fun i a => orV a ((tickA l t (runR hold K n l nd t).s) i 5)) n 0)), (17, Vi ((z : Int) + 1))] := F.sub _
       refine X.thenN ?_
       refine ⟨_, ?_, z + 1, rfl, by omega, hN, F.sub _⟩
       omega
      | true =>
       try rw [h31] at F
       have h31p : ((d : Int) < n) := of_decide_eq_true h31
       have hd2 : d < n := by omega
       refine Y.condT (F.ev 208 (.bool true)) ?_
       refine Y.skip ?_
       refine X.thenN ?_
       refine Y.seq ?_
       refine Y.block ?_
       refine Y.seq ?_
       refine Y.lit (by kernel_rfl) ?_
       refine Y.pv F (X.assign rfl (X.kc (Vi 0) rfl)) ?_;clear F ac;intro ac F
       refine Y.nil ?_
       replace F : Fr ac 334 [(1, Vi T), (2, .slice la m lc), (3, Vp w.heap.size), (8, .slice pa n cap), (10, v1), (11, v2), (12, Vi t), (13, Vi 0), (14, Vi (itN (fun i a => orV a ((tickA l t (runR hold K n l nd t).s) i 5)) n 0)), (17, Vi z), (18, Vi d), (19, Vi 0)] := F.sub _
       refine X.thenN ?_
       refine Y.block ?_
       refine Y.loop (fun me_ ac wr => ∃ (q : Nat), me_ = K - q ∧ q ≤ K ∧ Pst W1 wr bn n K f (itN (sndR1 hold l t z d) q (itN (sndR2 hold l t K z) d (itN (sndR3 hold l t K n) z (tickD hold n l t (runR hold K n l nd t).s)))) v1 v2 t t ((runR hold K n l nd t).rows) ((runR hold K n l nd t).asked) ∧ Fr ac 334 [(1, Vi T), (2, .slice la m lc), (3, Vp w.heap.size), (8, .slice pa n cap), (10, v1), (11, v2), (12, Vi t), (13, Vi 0), (14, Vi (itN (fun i a => orV a ((tickA l t (runR hold K n l nd t).s) i 5)) n 0)), (17, Vi z), (18, Vi d), (19, Vi q)]) _ ⟨0, rfl, Nat.zero_le _, hN, F.sub _⟩ ?_
       clear F hC G hnd hl hN ac
       intro me_ ac w32 hI
       obtain ⟨q, rfl, hq, hN, F⟩ := hI
       have G := G1.trans hN.g
       have hC := hC1.gr hN.g
       have hnd := hnd1.gr hN.g
       have hl := hl1.gr hN.g
       have hk4 : KOk n nd (itN (sndR1 hold l t z d) q (itN (sndR2 hold l t K z) d (itN (sndR3 hold l t K n) z (tickD hold n l t (runR hold K n l nd t).s)))) := hk3.it q (fun i z2 _ hz => hz.snd1 hh1 hh2 t z d i)
       refine Y.seq ?_
       refine Y.seq ?_
       refine Y.lit (by kernel_rfl) ?_
       refine Y.pv F (X.move rfl (F.ev 19 (Vi q))) ?_;clear F ac;intro ac F
       refine Y.pv F (X.field rfl (F.ev 3 (Vp w.heap.size)) (X.fld Try.underlying24 rfl (Try.siz3 _) rfl rfl)) ?_;clear F ac;intro ac F
       refine Y.pv F (X.load rfl (F.ev 212 (Vp w.heap.size)) (X.ld1 (Try.agg3 _) (hC.at 0 rfl))) ?_;clear F ac;intro ac F
       refine Y.pv F (X.binop rfl (F.ev 211 (Vi q)) (F.ev 213 (Vi K)) (X.lssI Try.underlying3 rfl)) ?_;clear F ac;intro ac F
       refine Y.nil ?_
       replace F : Fr ac 334 [(1, Vi T), (2, .slice la m lc), (3, Vp w.heap.size), (8, .slice pa n cap), (10, v1), (11, v2), (12, Vi t), (13, Vi 0), (14, Vi (itN (fun i a => orV a ((tickA l t (runR hold K n l nd t).s) i 5)) n 0)), (17, Vi z), (18, Vi d), (19, Vi q), (214, .bool (decide ((q : Int) < K)))] := F.sub _
       refine X.thenN ?_
       cases h33 : decide ((q : Int) < K) with
       | false =>
        try rw [h33] at F
        have h33p : ¬ ((q : Int) < K) := of_decide_eq_false h33
        obtain rfl : K = q := by omega
        refine Y.condF (F.ev 214 (.bool false)) ?_
        refine Y.exit ?_
        refine X.thenX ?_
        refine X.thenX ?_
        refine X.blockX ?_
        refine X.blockN ?_
        refine X.thenN ?_
        refine Y.lit (by kernel_rfl) ?_
        refine Y.pv F (X.move rfl (F.ev 18 (Vi d))) ?_;clear F ac;intro ac F
        refine Y.pv F (X.binop rfl (F.ev 209 (Vi d)) (X.kc (Vi 1) rfl) (X.addI Try.underlying3 rfl (by omega) (by omega))) ?_;clear F ac;intro ac F
        refine Y.pv F (X.assign rfl (F.ev 210 (Vi ((d : Int) + 1)))) ?_;clear F ac;intro ac F
        refine Y.nil ?_
        replace F : Fr ac 334 [(1, Vi T), (2, .slice la m lc), (3, Vp w.heap.size), (8, .slice pa n cap), (10, v1), (11, v2), (12, Vi t), (13, Vi 0), (14, Vi (itN (fun i a => orV a ((tickA l t (runR hold K n l nd t).s) i 5)) n 0)), (17, Vi z), (18, Vi ((d : Int) + 1))] := F.sub _
        refine X.thenN ?_
        refine ⟨_, ?_, d + 1, rfl, by omega, hN, F.sub _⟩
        omega
       | true =>
        try rw [h33] at F
        have h33p : ((q : Int) < K) := of_decide_eq_true h33
        have hq2 : q < K := by omega
        refine Y.condT (F.ev 214 (.bool true)) ?_
        refine Y.skip ?_
        refine X.thenN ?_
        refine Y.seq ?_
        refine Y.block ?_
        refine Y.seq ?_
        refine Y.lit (by kernel_rfl) ?_
        refine Y.pv F (X.move rfl (F.ev 8 (.slice pa n cap))) ?_;clear F ac;intro ac F
        refine Y.pv F (X.move rfl (F.ev 17 (Vi z))) ?_;clear F ac;intro ac F
        obtain rfl : pa = some ⟨bn, 0, none⟩ := hpa (by omega)
        refine Y.pv F (X.index rfl (F.ev 217 (.slice (some ⟨bn, 0, none⟩) n cap)) (F.ev 218 (Vi z)) (X.idx (k := z) Try.underlying113 (Try.siz115 _) (by omega) (by omega) (addr_add0 _ _))) ?_;clear F ac;intro ac F
        refine Y.pv F (X.field rfl (F.ev 219 (.pointer (some ⟨bn, z * 5, none⟩))) (X.fld Try.underlying115 rfl (Try.siz3 _) rfl rfl)) ?_;clear F ac;intro ac F
        replace hC : RCells w32 [(Ad w.heap.size 0, Vi K), (Ad w.heap.size 1, Vi hold), (Ad w.heap.size 2, .slice na n nc), (⟨bn, z * 5, none⟩, Vi ((itN (sndR1 hold l t z d) q (itN (sndR2 hold l t K z) d (itN (sndR3 hold l t K n) z (tickD hold n l t (runR hold K n l nd t).s)))) z 5))] := hC.append ((RCells.cons (hN.c0 (i := z) (by omega)) (RCells.nil _)))
        refine Y.pv F (X.load rfl (F.ev 220 (.pointer (some ⟨bn, z * 5, none⟩))) (X.ld1 (Try.agg3 _) (hC.at 3 rfl))) ?_;clear F ac;intro ac F
        refine Y.pv F (X.move rfl (F.ev 19 (Vi q))) ?_;clear F ac;intro ac F
        refine Y.pcall F (X.w0 rfl) rfl (X.enter (F := 58) rfl (X.kc (.func (.func 58) #[] #[]) rfl) (X.a2 (F.ev 221 (Vi ((itN (sndR1 hold l t z d) q (itN (sndR2 hold l t K z) d (itN (sndR3 hold l t K n) z (tickD hold n l t (runR hold K n l nd t).s)))) z 5))) (F.ev 222 (Vi q))) (enters_of Try.func58 (by kernel_rfl) rfl _)) (bit2_any ((itN (sndR1 hold l t z d) q (itN (sndR2 hold l t K z) d (itN (sndR3 hold l t K n) z (tickD hold n l t (runR hold K n l nd t).s)))) z 5) q w32 (by omega)) ?_
        clear F ac
        rintro e w' ⟨rfl, hw_⟩
        obtain rfl : w32 = w' := hw_.symm
        clear hw_
        refine ⟨_, rfl, ?_⟩
        intro ac F
        refine Y.pv F (X.move rfl (F.ev 223 (.bool (bitB ((itN (sndR1 hold l t z d) q (itN (sndR2 hold l t K z) d (itN (sndR3 hold l t K n) z (tickD hold n l t (runR hold K n l nd t).s)))) z 5) q)))) ?_;clear F ac;intro ac F
        cases h34 : bitB ((itN (sndR1 hold l t z d) q (itN (sndR2 hold l t K z) d (itN (sndR3 hold l t K n) z (tickD hold n l t (runR hold K n l nd t).s)))) z 5) q with
        | false =>
         try rw [h34] at F
         refine Y.pskip F (X.w2 rfl (F.yl (j := 7) (d := 224) (b := false) rfl (by kernel_rfl)) rfl) rfl ?_;clear F ac;intro ac F
         refine Y.pskip F (X.w2 rfl (F.yl (j := 7) (d := 224) (b := false) rfl (by kernel_rfl)) rfl) rfl ?_;clear F ac;intro ac F
         refine Y.pskip F (X.w2 rfl (F.yl (j := 7) (d := 224) (b := false) rfl (by kernel_rfl)) rfl) rfl ?_;clear F ac;intro ac F
         refine Y.pskip F (X.w2 rfl (F.yl (j := 7) (d := 224) (b := false) rfl (by kernel_rfl)) rfl) rfl ?_;clear F ac;intro ac F
         refine Y.pskip F (X.w2 rfl (F.yl (j := 7) (d := 224) (b := false) rfl (by kernel_rfl)) rfl) rfl ?_;clear F ac;intro ac F
         refine Y.pskip F (X.w2 rfl (F.yl (j := 7) (d := 224) (b := false) rfl (by kernel_rfl)) rfl) rfl ?_;clear F ac;intro ac F
         refine Y.pskip F (X.w2 rfl (F.yl (j := 7) (d := 224) (b := false) rfl (by kernel_rfl)) rfl) rfl ?_;clear F ac;intro ac F
         refine Y.pskip F (X.w2 rfl (F.yl (j := 7) (d := 224) (b := false) rfl (by kernel_rfl)) rfl) rfl ?_;clear F ac;intro ac F
         refine Y.pv F (X.pickF rfl (F.ev 224 (.bool false)) (X.kc (.bool false) rfl)) ?_;clear F ac;intro ac F
         refine Y.pv F (X.move rfl (F.ev 233 (.bool false))) ?_;clear F ac;intro ac F
         refine Y.pskip F (X.w2 rfl (F.yl (j := 17) (d := 234) (b := false) rfl (by kernel_rfl)) rfl) rfl ?_;clear F ac;intro ac F
         refine Y.pskip F (X.w2 rfl (F.yl (j := 17) (d := 234) (b := false) rfl (by kernel_rfl)) rfl) rfl ?_;clear F ac;intro ac F
         refine Y.pskip F (X.w2 rfl (F.yl (j := 17) (d := 234) (b := false) rfl (by kernel_rfl)) rfl) rfl ?_;clear F ac;intro ac F
         refine Y.pskip F (X.w2 rfl (F.yl (j := 17) (d := 234) (b := false) rfl (by kernel_rfl)) rfl) rfl ?_;clear F ac;intro ac F
         refine Y.pskip F (X.w2 rfl (F.yl (j := 17) (d := 234) (b := false) rfl (by kernel_rfl)) rfl) rfl ?_;clear F ac;intro ac F
         refine Y.pskip F (X.w2 rfl (F.yl (j := 17) (d := 234) (b := false) rfl (by kernel_rfl)) rfl) rfl ?_;clear F ac;intro ac F
         refine Y.pv F (X.pickF rfl (F.ev 234 (.bool false)) (X.kc (.bool false) rfl)) ?_;clear F ac;intro ac F
         refine Y.nil ?_
         replace F : Fr ac 334 [(1, Vi T), (2, .slice la m lc), (3, Vp w.heap.size), (8, .slice (some ⟨bn, 0, none⟩) n cap), (10, v1), (11, v2), (12, Vi t), (13, Vi 0), (14, Vi (itN (fun i a => orV a ((tickA l t (runR hold K n l nd t).s) i 5)) n 0)), (17, Vi z), (18, Vi d), (19, Vi q), (241, .bool false)] := F.sub _
         refine X.thenN ?_
         refine Y.condF (F.ev 241 (.bool false)) ?_
         refine Y.skip ?_
         refine X.blockN ?_
         refine X.thenN ?_
         refine Y.lit (by kernel_rfl) ?_
         refine Y.pv F (X.move rfl (F.ev 19 (Vi q))) ?_;clear F ac;intro ac F
         refine Y.pv F (X.binop rfl (F.ev 215 (Vi q)) (X.kc (Vi 1) rfl) (X.addI Try.underlying3 rfl (by omega) (by omega))) ?_;clear F ac;intro ac F
         refine Y.pv F (X.assign rfl (F.ev 216 (Vi ((q : Int) + 1)))) ?_;clear F ac;intro ac F
         refine Y.nil ?_
         replace F : Fr ac 334 [(1, Vi T), (2, .slice la m lc), (3, Vp w.heap.size), (8, .slice (some ⟨bn, 0, none⟩) n cap), (10, v1), (11, v2), (12, Vi t), (13, Vi 0), (14, Vi (itN (fun i a => orV a ((tickA l t (runR hold K n l nd t).s) i 5)) n 0)), (17, Vi z), (18, Vi d), (19, Vi ((q : Int) + 1))] := F.sub _
         refine X.thenN ?_
         refine ⟨_, ?_, q + 1, rfl, by omega, (by rw [itN_succ, snd_neg (fun e => by rw [h34] at e; cases e.1)]; exact hN), F.sub _⟩
         omega
        | true =>
         try rw [h34] at F
         refine Y.pval F (X.w1 rfl (F.yl (j := 7) (d := 224) (b := true) rfl (by kernel_rfl))) rfl (X.field rfl (F.ev 3 (Vp w.heap.size)) (X.fld Try.underlying24 rfl (Try.siz22 _) rfl rfl)) ?_;clear F ac;intro ac F
         refine Y.pval F (X.w1 rfl (F.yl (j := 7) (d := 224) (b := true) rfl (by kernel_rfl))) rfl (X.load rfl (F.ev 225 (.pointer (some ⟨w.heap.size, 2, none⟩))) (X.ld1 (Try.agg22 _) (hC.at 2 rfl))) ?_;clear F ac;intro ac F
         refine Y.pval F (X.w1 rfl (F.yl (j := 7) (d := 224) (b := true) rfl (by kernel_rfl))) rfl (X.move rfl (F.ev 18 (Vi d))) ?_;clear F ac;intro ac F
         obtain ⟨pd35, pe35, -, -, pc35⟩ := hnd.at (j := d) (by omega)
         subst pe35
         replace hC : RCells w32 [(Ad w.heap.size 0, Vi K), (Ad w.heap.size 1, Vi hold), (Ad w.heap.size 2, .slice (some pd35) n nc), (⟨bn, z * 5, none⟩, Vi ((itN (sndR1 hold l t z d) q (itN (sndR2 hold l t K z) d (itN (sndR3 hold l t K n) z (tickD hold n l t (runR hold K n l nd t).s)))) z 5)), (pd35.add (d * 5), Vi (cv nd d 0)), (⟨(pd35.add (d * 5)).block, (pd35.add (d * 5)).off + 1, none⟩, Vi (cv nd d 1)), (⟨(pd35.add (d * 5)).block, (pd35.add (d * 5)).off + 2, none⟩, Vi (cv nd d 2)), (⟨(pd35.add (d * 5)).block, (pd35.add (d * 5)).off + 3, none⟩, Vi (cv nd d 3)), (⟨(pd35.add (d * 5)).block, (pd35.add (d * 5)).off + 4, none⟩, Vi (cv nd d 4))] := hC.append ((RCells.cons (pc35 0 (by decide)) (RCells.cons (pc35 1 (by decide)) (RCells.cons (pc35 2 (by decide)) (RCells.cons (pc35 3 (by decide)) (RCells.cons (pc35 4 (by decide)) (RCells.nil _)))))))
         clear pc35
         refine Y.pval F (X.w1 rfl (F.yl (j := 7) (d := 224) (b := true) rfl (by kernel_rfl))) rfl (X.index rfl (F.ev 226 (.slice (some pd35) n nc)) (F.ev 227 (Vi d)) (X.idx (k := d) Try.underlying22 (Try.siz31 _) (by omega) (by omega) rfl)) ?_;clear F ac;intro ac F
         refine Y.pval F (X.w1 rfl (F.yl (j := 7) (d := 224) (b := true) rfl (by kernel_rfl))) rfl (X.field rfl (F.ev 228 (.pointer (some (pd35.add (d * 5))))) (X.fld Try.underlying31 rfl (Try.siz3 _) rfl rfl)) ?_;clear F ac;intro ac F
         refine Y.pval F (X.w1 rfl (F.yl (j := 7) (d := 224) (b := true) rfl (by kernel_rfl))) rfl (X.load rfl (F.ev 229 (.pointer (some (pd35.add (d * 5))))) (X.ld1 (Try.agg3 _) (hC.at 4 rfl))) ?_;clear F ac;intro ac F
         refine Y.pval F (X.w1 rfl (F.yl (j := 7) (d := 224) (b := true) rfl (by kernel_rfl))) rfl (X.move rfl (F.ev 19 (Vi q))) ?_;clear F ac;intro ac F
         refine Y.pcall F (X.w1 rfl (F.yl (j := 7) (d := 224) (b := true) rfl (by kernel_rfl))) rfl (X.enter (F := 58) rfl (X.kc (.func (.func 58) #[] #[]) rfl) (X.a2 (F.ev 230 (Vi (cv nd d 0))) (F.ev 231 (Vi q))) (enters_of Try.func58 (by kernel_rfl) rfl _)) (bit2_any (cv nd d 0) q w32 (by omega)) ?_
         clear F ac
         rintro e w' ⟨rfl, hw_⟩
         obtain rfl : w32 = w' := hw_.symm
         clear hw_
         refine ⟨_, rfl, ?_⟩
         intro ac F
         refine Y.pv F (X.pickT rfl (F.ev 224 (.bool true)) (F.ev 232 (.bool (bitB (cv nd d 0) q)))) ?_;clear F ac;intro ac F
         refine Y.pv F (X.move rfl (F.ev 233 (.bool (bitB (cv nd d 0) q)))) ?_;clear F ac;intro ac F
         cases h36 : bitB (cv nd d 0) q with
         | false =>
          try rw [h36] at F
          refine Y.pskip F (X.w2 rfl (F.yl (j := 17) (d := 234) (b := false) rfl (by kernel_rfl)) rfl) rfl ?_;clear F ac;intro ac F
          refine Y.pskip F (X.w2 rfl (F.yl (j := 17) (d := 234) (b := false) rfl (by kernel_rfl)) rfl) rfl ?_;clear F ac;intro ac F
          refine Y.pskip F (X.w2 rfl (F.yl (j := 17) (d := 234) (b := false) rfl (by kernel_rfl)) rfl) rfl ?_;clear F ac;intro ac F
          refine Y.pskip F (X.w2 rfl (F.yl (j := 17) (d := 234) (b := false) rfl (by kernel_rfl)) rfl) rfl ?_;clear F ac;intro ac F
          refine Y.pskip F (X.w2 rfl (F.yl (j := 17) (d := 234) (b := false) rfl (by kernel_rfl)) rfl) rfl ?_;clear F ac;intro ac F
          refine Y.pskip F (X.w2 rfl (F.yl (j := 17) (d := 234) (b := false) rfl (by kernel_rfl)) rfl) rfl ?_;clear F ac;intro ac F
          refine Y.pv F (X.pickF rfl (F.ev 234 (.bool false)) (X.kc (.bool false) rfl)) ?_;clear F ac;intro ac F
          refine Y.nil ?_
          replace F : Fr ac 334 [(1, Vi T), (2, .slice la m lc), (3, Vp w.heap.size), (8, .slice (some ⟨bn, 0, none⟩) n cap), (10, v1), (11, v2), (12, Vi t), (13, Vi 0), (14, Vi (itN (fun i a => orV a ((tickA l t (runR hold K n l nd t).s) i 5)) n 0)), (17, Vi z), (18, Vi d), (19, Vi q), (241, .bool false)] := F.sub _
          refine X.thenN ?_
          refine Y.condF (F.ev 241 (.bool false)) ?_
          refine Y.skip ?_
          refine X.blockN ?_
          refine X.thenN ?_
          refine Y.lit (by kernel_rfl) ?_
          refine Y.pv F (X.move rfl (F.ev 19 (Vi q))) ?_;clear F ac;intro ac F
          refine Y.pv F (X.binop rfl (F.ev 215 (Vi q)) (X.kc (Vi 1) rfl) (X.addI Try.underlying3 rfl (by omega) (by omega))) ?_;clear F ac;intro ac F
          refine Y.pv F (X.assign rfl (F.ev 216 (Vi ((q : Int) + 1)))) ?_;clear F ac;intro ac F
          refine Y.nil ?_
          replace F : Fr ac 334 [(1, Vi T), (2, .slice la m lc), (3, Vp w.heap.size), (8, .slice (some ⟨bn, 0, none⟩) n cap), (10, v1), (11, v2), (12, Vi t), (13, Vi 0), (14, Vi (itN (fun i a => orV a ((tickA l t (runR hold K n l nd t).s) i 5)) n 0)), (17, Vi z), (18, Vi d), (19, Vi ((q : Int) + 1))] := F.sub _
          refine X.thenN ?_
          refine ⟨_, ?_, q + 1, rfl, by omega, (by rw [itN_succ, snd_neg (fun e => by rw [hk4.lo d 0 (by omega) (by decide), h36] at e; cases e.2.1)]; exact hN), F.sub _⟩
          omega
         | true =>
          try rw [h36] at F
          refine Y.pval F (X.w1 rfl (F.yl (j := 17) (d := 234) (b := true) rfl (by kernel_rfl))) rfl (X.move rfl (F.ev 2 (.slice la m lc))) ?_;clear F ac;intro ac F
          refine Y.pval F (X.w1 rfl (F.yl (j := 17) (d := 234) (b := true) rfl (by kernel_rfl))) rfl (X.move rfl (F.ev 12 (Vi t))) ?_;clear F ac;intro ac F
          refine Y.pval F (X.w1 rfl (F.yl (j := 17) (d := 234) (b := true) rfl (by kernel_rfl))) rfl (X.move rfl (F.ev 17 (Vi z))) ?_;clear F ac;intro ac F
          refine Y.pval F (X.w1 rfl (F.yl (j := 17) (d := 234) (b := true) rfl (by kernel_rfl))) rfl (X.move rfl (F.ev 18 (Vi d))) ?_;clear F ac;intro ac F
          refine Y.pcall F (X.w1 rfl (F.yl (j := 17) (d := 234) (b := true) rfl (by kernel_rfl))) rfl (X.enter (F := 75) rfl (X.kc (.func (.func 75) #[] #[]) rfl) (X.a5 (F.ev 235 (.slice la m lc)) (F.ev 236 (Vi t)) (X.kc (Vi 4) rfl) (F.ev 237 (Vi z)) (F.ev 238 (Vi d))) (enters_of Try.func75 (by kernel_rfl) rfl _)) (has_any la m lc t 4 z d l w32 hl) ?_
          clear F ac
          rintro e w37 ⟨rfl, g⟩
          refine ⟨_, rfl, ?_⟩
          intro ac F
          replace G := G.trans g
          replace hC := hC.gr g
          replace hnd := hnd.gr g
          replace hl := hl.gr g
          replace hN := hN.gr g
          clear g
          refine Y.pval F (X.w1 rfl (F.yl (j := 17) (d := 234) (b := true) rfl (by kernel_rfl))) rfl (X.notB rfl (F.ev 239 (.bool (hasB l t 4 z d))) rfl) ?_;clear F ac;intro ac F
          refine Y.pv F (X.pickT rfl (F.ev 234 (.bool true)) (F.ev 240 (.bool (!(hasB l t 4 z d))))) ?_;clear F ac;intro ac F
          refine Y.nil ?_
          replace F : Fr ac 334 [(1, Vi T), (2, .slice la m lc), (3, Vp w.heap.size), (8, .slice (some ⟨bn, 0, none⟩) n cap), (10, v1), (11, v2), (12, Vi t), (13, Vi 0), (14, Vi (itN (fun i a => orV a ((tickA l t (runR hold K n l nd t).s) i 5)) n 0)), (17, Vi z), (18, Vi d), (19, Vi q), (241, .bool (!(hasB l t 4 z d)))] := F.sub _
          refine X.thenN ?_
          cases h38 : hasB l t 4 z d with
          | false =>
           try rw [h38] at F
           refine Y.condT (F.ev 241 (.bool true)) ?_
           replace hC : RCells w37 [(Ad w.heap.size 0, Vi K), (Ad w.heap.size 1, Vi hold), (Ad w.heap.size 2, .slice (some pd35) n nc), (⟨bn, z * 5, none⟩, Vi ((itN (sndR1 hold l t z d) q (itN (sndR2 hold l t K z) d (itN (sndR3 hold l t K n) z (tickD hold n l t (runR hold K n l nd t).s)))) z 5)), (pd35.add (d * 5), Vi (cv nd d 0)), (⟨(pd35.add (d * 5)).block, (pd35.add (d * 5)).off + 1, none⟩, Vi (cv nd d 1)), (⟨(pd35.add (d * 5)).block, (pd35.add (d * 5)).off + 2, none⟩, Vi (cv nd d 2)), (⟨(pd35.add (d * 5)).block, (pd35.add (d * 5)).off + 3, none⟩, Vi (cv nd d 3)), (⟨(pd35.add (d * 5)).block, (pd35.add (d * 5)).off + 4, none⟩, Vi (cv nd d 4)), (⟨bn, d * 5 + 1, none⟩, .slice (some ⟨f d, 0, none⟩) K K)] := hC.append ((RCells.cons (hN.c1 (i := d) (by omega)) (RCells.nil _)))
           refine Y.regionS F [some (.slice (some ⟨bn, 0, none⟩) n cap), some (Vi d), some (.pointer (some ⟨bn, d * 5, none⟩)), some (.pointer (some ⟨bn, d * 5 + 1, none⟩)), some (.slice (some ⟨f d, 0, none⟩) K K), some (Vi q), some (.pointer (some ⟨w.heap.size, 1, none⟩)), some (Vi hold), some (.pointer (some ⟨f d, q, none⟩)), none] [] 9 (fun _ W => Pst W1 W bn n K f (up (itN (sndR1 hold l t z d) q (itN (sndR2 hold l t K z) d (itN (sndR3 hold l t K n) z (tickD hold n l t (runR hold K n l nd t).s)))) d (6 + q) (hold : Int)) v1 v2 t t ((runR hold K n l nd t).rows) ((runR hold K n l nd t).asked)) rfl ⟨by kernel_rfl, of_decide_eq_true (by kernel_rfl), by kernel_rfl, by kernel_rfl, by kernel_rfl⟩ (of_decide_eq_true (by kernel_rfl)) ⟨?_, ?_, ?_, ?_, ?_, ?_, ?_, ?_, ?_, ?_, trivial⟩ ?_
           ·intro ac done u W Sx hT
            have hs := Sx.no 9 (by kernel_rfl)
            have hR := hT.1 hs
            exact X.vl (X.move rfl (Sx.ev 8 (.slice (some ⟨bn, 0, none⟩) n cap))) (Y.RT.of hs rfl hR.st0)
           ·intro ac done u W Sx hT
            have hs := Sx.no 9 (by kernel_rfl)
            have hR := hT.1 hs
            exact X.vl (X.move rfl (Sx.ev 18 (Vi d))) (Y.RT.of hs rfl hR.st0)
           ·intro ac done u W Sx hT
            have hs := Sx.no 9 (by kernel_rfl)
            have hR := hT.1 hs
            exact X.vl (X.index rfl (Sx.ev 242 (.slice (some ⟨bn, 0, none⟩) n cap)) (Sx.ev 243 (Vi d)) (X.idx (k := d) Try.underlying113 (Try.siz115 _) (by omega) (by omega) (addr_add0 _ _))) (Y.RT.of hs rfl hR.st0)
           ·intro ac done u W Sx hT
            have hs := Sx.no 9 (by kernel_rfl)
            have hR := hT.1 hs
            exact X.vl (X.field rfl (Sx.ev 244 (.pointer (some ⟨bn, d * 5, none⟩))) (X.fld Try.underlying115 rfl (Try.siz34 _) rfl rfl)) (Y.RT.of hs rfl hR.st0)
           ·intro ac done u W Sx hT
            have hs := Sx.no 9 (by kernel_rfl)
            have hR := hT.1 hs
            have g : Gr w37 W := hR.1
            exact X.vl (X.load rfl (Sx.ev 245 (.pointer (some ⟨bn, d * 5 + 1, none⟩))) (X.ld1 (Try.agg34 _) ((hC.gr g).at 9 rfl))) (Y.RT.of hs rfl hR.st0)
           ·intro ac done u W Sx hT
            have hs := Sx.no 9 (by kernel_rfl)
            have hR := hT.1 hs
            exact X.vl (X.move rfl (Sx.ev 19 (Vi q))) (Y.RT.of hs rfl hR.st0)
           ·intro ac done u W Sx hT
            have hs := Sx.no 9 (by kernel_rfl)
            have hR := hT.1 hs
            exact X.vl (X.field rfl (Sx.ev 3 (Vp w.heap.size)) (X.fld Try.underlying24 rfl (Try.siz3 _) rfl rfl)) (Y.RT.of hs rfl hR.st0)
           ·intro ac done u W Sx hT
            have hs := Sx.no 9 (by kernel_rfl)
            have hR := hT.1 hs
            have g : Gr w37 W := hR.1
            exact X.vl (X.load rfl (Sx.ev 248 (.pointer (some ⟨w.heap.size, 1, none⟩))) (X.ld1 (Try.agg3 _) ((hC.gr g).at 1 rfl))) (Y.RT.of hs rfl hR.st0)
           ·intro ac done u W Sx hT
            have hs := Sx.no 9 (by kernel_rfl)
            have hR := hT.1 hs
            exact X.vl (X.index rfl (Sx.ev 246 (.slice (some ⟨f d, 0, none⟩) K K)) (Sx.ev 247 (Vi q)) (X.idx (k := q) Try.underlying34 (Try.siz3 _) (by omega) (by omega) (addr_ownR _ _))) (Y.RT.of hs rfl hR.st0)
           ·intro ac done u W Sx hT
            have hR := hT.1 Sx.nd
            have g : Gr w37 W := hR.1
            have hNg := hN.gr g
            exact X.unit (X.w0 rfl) rfl (X.store rfl (Sx.ev 250 (.pointer (some ⟨f d, q, none⟩))) (Sx.ev 249 (Vi hold)) ((hNg.t d (by omega)).st1 (Try.siz3 _) rfl rfl (by omega))) (Y.RT.fin (hNg.setT (i := d) (q := q) (by omega) (by omega) (hold)))
           rintro ac u w39 hs hd hl_ ho hN2
           replace F : Fr ac 334 [(1, Vi T), (2, .slice la m lc), (3, Vp w.heap.size), (8, .slice (some ⟨bn, 0, none⟩) n cap), (10, v1), (11, v2), (12, Vi t), (13, Vi 0), (14, Vi (itN (fun i a => orV a ((tickA l t (runR hold K n l nd t).s) i 5)) n 0)), (17, Vi z), (18, Vi d), (19, Vi q)] := X.fr hs hd hl_ _ (by kernel_rfl)
           clear hs hd hl_ ho hN hC G hnd hl
           have hN : Pst W1 w39 bn n K f (up (itN (sndR1 hold l t z d) q (itN (sndR2 hold l t K z) d (itN (sndR3 hold l t K n) z (tickD hold n l t (runR hold K n l nd t).s)))) d (6 + q) (hold : Int)) v1 v2 t t ((runR hold K n l nd t).rows) ((runR hold K n l nd t).asked) := hN2
           clear hN2
           have G := G1.trans hN.g
           have hC := hC1.gr hN.g
           have hnd := hnd1.gr hN.g
           have hl := hl1.gr hN.g
           refine X.blockN ?_
           refine X.thenN ?_
           refine Y.lit (by kernel_rfl) ?_
           refine Y.pv F (X.move rfl (F.ev 19 (Vi q))) ?_;clear F ac;intro ac F
           refine Y.pv F (X.binop rfl (F.ev 215 (Vi q)) (X.kc (Vi 1) rfl) (X.addI Try.underlying3 rfl (by omega) (by omega))) ?_;clear F ac;intro ac F
           refine Y.pv F (X.assign rfl (F.ev 216 (Vi ((q : Int) + 1)))) ?_;clear F ac;intro ac F
           refine Y.nil ?_
           replace F : Fr ac 334 [(1, Vi T), (2, .slice la m lc), (3, Vp w.heap.size), (8, .slice (some ⟨bn, 0, none⟩) n cap), (10, v1), (11, v2), (12, Vi t), (13, Vi 0), (14, Vi (itN (fun i a => orV a ((tickA l t (runR hold K n l nd t).s) i 5)) n 0)), (17, Vi z), (18, Vi d), (19, Vi ((q : Int) + 1))] := F.sub _
           refine X.thenN ?_
           refine ⟨_, ?_, q + 1, rfl, by omega, (by rw [itN_succ, snd_pos h34 (by rw [hk4.lo d 0 (by omega) (by decide)]; exact h36) h38]; exact hN), F.sub _⟩
           omega
          | true =>
           try rw [h38] at F
           refine Y.condF (F.ev 241 (.bool false)) ?_
           refine Y.skip ?_
           refine X.blockN ?_
           refine X.thenN ?_
           refine Y.lit (by kernel_rfl) ?_
           refine Y.pv F (X.move rfl (F.ev 19 (Vi q))) ?_;clear F ac;intro ac F
           refine Y.pv F (X.binop rfl (F.ev 215 (Vi q)) (X.kc (Vi 1) rfl) (X.addI Try.underlying3 rfl (by omega) (by omega))) ?_;clear F ac;intro ac F
           refine Y.pv F (X.assign rfl (F.ev 216 (Vi ((q : Int) + 1)))) ?_;clear F ac;intro ac F
           refine Y.nil ?_
           replace F : Fr ac 334 [(1, Vi T), (2, .slice la m lc), (3, Vp w.heap.size), (8, .slice (some ⟨bn, 0, none⟩) n cap), (10, v1), (11, v2), (12, Vi t), (13, Vi 0), (14, Vi (itN (fun i a => orV a ((tickA l t (runR hold K n l nd t).s) i 5)) n 0)), (17, Vi z), (18, Vi d), (19, Vi ((q : Int) + 1))] := F.sub _
           refine X.thenN ?_
           refine ⟨_, ?_, q + 1, rfl, by omega, (by rw [itN_succ, snd_neg (fun e => by rw [h38] at e; cases e.2.2)]; exact hN), F.sub _⟩
           omega
    | true =>
     try rw [h11] at F
     have h11p : ((j : Int) < n) := of_decide_eq_true h11
     have hj2 : j < n := by omega
     have hb3 := hk1.ok.b j hj2
     have hb4 := hk1.ok.r j hj2
     have hb5 := hk1.ok.t j hj2 15 (by decide) (by decide)
     have hl3 := hk1.lo j 3 hj2 (by decide)
     have hl4 := hk1.lo j 4 hj2 (by decide)
     refine Y.condT (F.ev 125 (.bool true)) ?_
     refine Y.skip ?_
     refine X.thenN ?_
     refine Y.seq ?_
     refine Y.block ?_
     refine Y.seqJ (fun ac wr => Pst W1 wr bn n K f (refill1 t j (itN (dis1 hold l t) j (tickA l t (runR hold K n l nd t).s))) v1 v2 t t ((runR hold K n l nd t).rows) ((runR hold K n l nd t).asked) ∧ Fr ac 334 [(1, Vi T), (2, .slice la m lc), (3, Vp w.heap.size), (8, .slice pa n cap), (10, v1), (11, v2), (12, Vi t), (13, Vi 0), (14, Vi (itN (fun i a => orV a ((tickA l t (runR hold K n l nd t).s) i 5)) j 0)), (16, Vi j)]) ?_ ?_
     ·skip
      refine Y.seq ?_
      refine Y.lit (by kernel_rfl) ?_
      refine Y.pv F (X.move rfl (F.ev 12 (Vi t))) ?_;clear F ac;intro ac F
      refine Y.pv F (X.binop rfl (F.ev 128 (Vi t)) (X.kc (Vi 0) rfl) (X.gtrI Try.underlying3 rfl)) ?_;clear F ac;intro ac F
      refine Y.pv F (X.move rfl (F.ev 129 (.bool (decide ((0 : Int) < t))))) ?_;clear F ac;intro ac F
      cases h40 : decide ((0 : Int) < t) with
      | false =>
       try rw [h40] at F
       have h40p : ¬ ((0 : Int) < t) := of_decide_eq_false h40
       refine Y.pskip F (X.w2 rfl (F.yl (j := 2) (d := 130) (b := false) rfl (by kernel_rfl)) rfl) rfl ?_;clear F ac;intro ac F
       refine Y.pskip F (X.w2 rfl (F.yl (j := 2) (d := 130) (b := false) rfl (by kernel_rfl)) rfl) rfl ?_;clear F ac;intro ac F
       refine Y.pskip F (X.w2 rfl (F.yl (j := 2) (d := 130) (b := false) rfl (by kernel_rfl)) rfl) rfl ?_;clear F ac;intro ac F
       refine Y.pskip F (X.w2 rfl (F.yl (j := 2) (d := 130) (b := false) rfl (by kernel_rfl)) rfl) rfl ?_;clear F ac;intro ac F
       refine Y.pskip F (X.w2 rfl (F.yl (j := 2) (d := 130) (b := false) rfl (by kernel_rfl)) rfl) rfl ?_;clear F ac;intro ac F
       refine Y.pskip F (X.w2 rfl (F.yl (j := 2) (d := 130) (b := false) rfl (by kernel_rfl)) rfl) rfl ?_;clear F ac;intro ac F
       refine Y.pskip F (X.w2 rfl (F.yl (j := 2) (d := 130) (b := false) rfl (by kernel_rfl)) rfl) rfl ?_;clear F ac;intro ac F
       refine Y.pskip F (X.w2 rfl (F.yl (j := 2) (d := 130) (b := false) rfl (by kernel_rfl)) rfl) rfl ?_;clear F ac;intro ac F
       refine Y.pskip F (X.w2 rfl (F.yl (j := 2) (d := 130) (b := false) rfl (by kernel_rfl)) rfl) rfl ?_;clear F ac;intro ac F
       refine Y.pv F (X.pickF rfl (F.ev 130 (.bool false)) (X.kc (.bool false) rfl)) ?_;clear F ac;intro ac F
       refine Y.nil ?_
       replace F : Fr ac 334 [(1, Vi T), (2, .slice la m lc), (3, Vp w.heap.size), (8, .slice pa n cap), (10, v1), (11, v2), (12, Vi t), (13, Vi 0), (14, Vi (itN (fun i a => orV a ((tickA l t (runR hold K n l nd t).s) i 5)) j 0)), (16, Vi j), (140, .bool false)] := F.sub _
       refine X.thenN ?_
       refine Y.condF (F.ev 140 (.bool false)) ?_
       refine Y.skip ?_
       refine X.thenN ?_
       replace hN : Pst W1 w10 bn n K f (refill1 t j (itN (dis1 hold l t) j (tickA l t (runR hold K n l nd t).s))) v1 v2 t t ((runR hold K n l nd t).rows) ((runR hold K n l nd t).asked) := by rw [refill1_neg (by omega)]; exact hN
       replace hC := hC1.gr hN.g
       have hk7 := hk1.refill t hj2
       have hb7 := hk7.ok.t j hj2 15 (by decide) (by decide)
       exact ⟨hN, F.sub _⟩
      | true =>
       try rw [h40] at F
       have h40p : ((0 : Int) < t) := of_decide_eq_true h40
       refine Y.pval F (X.w1 rfl (F.yl (j := 2) (d := 130) (b := true) rfl (by kernel_rfl))) rfl (X.move rfl (F.ev 12 (Vi t))) ?_;clear F ac;intro ac F
       refine Y.pval F (X.w1 rfl (F.yl (j := 2) (d := 130) (b := true) rfl (by kernel_rfl))) rfl (X.field rfl (F.ev 3 (Vp w.heap.size)) (X.fld Try.underlying24 rfl (Try.siz22 _) rfl rfl)) ?_;clear F ac;intro ac F
       refine Y.pval F (X.w1 rfl (F.yl (j := 2) (d := 130) (b := true) rfl (by kernel_rfl))) rfl (X.load rfl (F.ev 132 (.pointer (some ⟨w.heap.size, 2, none⟩))) (X.ld1 (Try.agg22 _) (hC.at 2 rfl))) ?_;clear F ac;intro ac F
       refine Y.pval F (X.w1 rfl (F.yl (j := 2) (d := 130) (b := true) rfl (by kernel_rfl))) rfl (X.move rfl (F.ev 16 (Vi j))) ?_;clear F ac;intro ac F
       obtain ⟨pd41, pe41, -, -, pc41⟩ := hnd.at (j := j) (by omega)
       subst pe41
       replace hC : RCells w10 [(Ad w.heap.size 0, Vi K), (Ad w.heap.size 1, Vi hold), (Ad w.heap.size 2, .slice (some pd41) n nc), (pd41.add (j * 5), Vi (cv nd j 0)), (⟨(pd41.add (j * 5)).block, (pd41.add (j * 5)).off + 1, none⟩, Vi (cv nd j 1)), (⟨(pd41.add (j * 5)).block, (pd41.add (j * 5)).off + 2, none⟩, Vi (cv nd j 2)), (⟨(pd41.add (j * 5)).block, (pd41.add (j * 5)).off + 3, none⟩, Vi (cv nd j 3)), (⟨(pd41.add (j * 5)).block, (pd41.add (j * 5)).off + 4, none⟩, Vi (cv nd j 4))] := hC.append ((RCells.cons (pc41 0 (by decide)) (RCells.cons (pc41 1 (by decide)) (RCells.cons (pc41 2 (by decide)) (RCells.cons (pc41 3 (by decide)) (RCells.cons (pc41 4 (by decide)) (RCells.nil _)))))))
       clear pc41
       refine Y.pval F (X.w1 rfl (F.yl (j := 2) (d := 130) (b := true) rfl (by kernel_rfl))) rfl (X.index rfl (F.ev 133 (.slice (some pd41) n nc)) (F.ev 134 (Vi j)) (X.idx (k := j) Try.underlying22 (Try.siz31 _) (by omega) (by omega) rfl)) ?_;clear F ac;intro ac F
       refine Y.pval F (X.w1 rfl (F.yl (j := 2) (d := 130) (b := true) rfl (by kernel_rfl))) rfl (X.field rfl (F.ev 135 (.pointer (some (pd41.add (j * 5))))) (X.fld Try.underlying31 rfl (Try.siz3 _) rfl rfl)) ?_;clear F ac;intro ac F
       refine Y.pval F (X.w1 rfl (F.yl (j := 2) (d := 130) (b := true) rfl (by kernel_rfl))) rfl (X.load rfl (F.ev 136 (.pointer (some (⟨(pd41.add (j * 5)).block, (pd41.add (j * 5)).off + 4, none⟩)))) (X.ld1 (Try.agg3 _) (hC.at 7 rfl))) ?_;clear F ac;intro ac F
       refine Y.pval F (X.w1 rfl (F.yl (j := 2) (d := 130) (b := true) rfl (by kernel_rfl))) rfl (X.binop rfl (F.ev 131 (Vi t)) (F.ev 137 (Vi (cv nd j 4))) (X.remI Try.underlying3 rfl (by omega) (by omega))) ?_;clear F ac;intro ac F
       refine Y.pval F (X.w1 rfl (F.yl (j := 2) (d := 130) (b := true) rfl (by kernel_rfl))) rfl (X.binop rfl (F.ev 138 (Vi ((t : Int) % (cv nd j 4 : Int)))) (X.kc (Vi 0) rfl) (X.eqlI Try.underlying3 rfl)) ?_;clear F ac;intro ac F
       refine Y.pv F (X.pickT rfl (F.ev 130 (.bool true)) (F.ev 139 (.bool (((t : Int) % (cv nd j 4 : Int) : Int) == 0)))) ?_;clear F ac;intro ac F
       refine Y.nil ?_
       replace F : Fr ac 334 [(1, Vi T), (2, .slice la m lc), (3, Vp w.heap.size), (8, .slice pa n cap), (10, v1), (11, v2), (12, Vi t), (13, Vi 0), (14, Vi (itN (fun i a => orV a ((tickA l t (runR hold K n l nd t).s) i 5)) j 0)), (16, Vi j), (140, .bool (((t : Int) % (cv nd j 4 : Int) : Int) == 0))] := F.sub _
       refine X.thenN ?_
       cases h42 : (((t : Int) % (cv nd j 4 : Int) : Int) == 0) with
       | false =>
        try rw [h42] at F
        have h42p : ¬ ((t : Int) % (cv nd j 4 : Int) : Int) = 0 := by simpa using h42
        refine Y.condF (F.ev 140 (.bool false)) ?_
        refine Y.skip ?_
        refine X.thenN ?_
        replace hN : Pst W1 w10 bn n K f (refill1 t j (itN (dis1 hold l t) j (tickA l t (runR hold K n l nd t).s))) v1 v2 t t ((runR hold K n l nd t).rows) ((runR hold K n l nd t).asked) := by rw [refill1_neg (fun e => by have e2 := e.2; rw [hl4] at e2; exact absurd e2 (by simpa using h42))]; exact hN
        replace hC := hC1.gr hN.g
        have hk7 := hk1.refill t hj2
        have hb7 := hk7.ok.t j hj2 15 (by decide) (by decide)
        exact ⟨hN, F.sub _⟩
       | true =>
        try rw [h42] at F
        have h42p : ((t : Int) % (cv nd j 4 : Int) : Int) = 0 := by simpa using h42
        refine Y.condT (F.ev 140 (.bool true)) ?_
        obtain rfl : pa = some ⟨bn, 0, none⟩ := hpa (by omega)
        replace hC : RCells w10 [(Ad w.heap.size 0, Vi K), (Ad w.heap.size 1, Vi hold), (Ad w.heap.size 2, .slice (some pd41) n nc), (pd41.add (j * 5), Vi (cv nd j 0)), (⟨(pd41.add (j * 5)).block, (pd41.add (j * 5)).off + 1, none⟩, Vi (cv nd j 1)), (⟨(pd41.add (j * 5)).block, (pd41.add (j * 5)).off + 2, none⟩, Vi (cv nd j 2)), (⟨(pd41.add (j * 5)).block, (pd41.add (j * 5)).off + 3, none⟩, Vi (cv nd j 3)), (⟨(pd41.add (j * 5)).block, (pd41.add (j * 5)).off + 4, none⟩, Vi (cv nd j 4)), (⟨bn, j * 5 + 3, none⟩, Vi ((itN (dis1 hold l t) j (tickA l t (runR hold K n l nd t).s)) j 15))] := hC.append ((RCells.cons (hN.c3 (i := j) (by omega)) (RCells.nil _)))
        refine Y.regionS F [some (.slice (some ⟨bn, 0, none⟩) n cap), some (Vi j), some (.slice (some ⟨bn, 0, none⟩) n cap), some (Vi j), some (.pointer (some ⟨bn, j * 5, none⟩)), some (.pointer (some ⟨bn, j * 5 + 3, none⟩)), some (Vi ((itN (dis1 hold l t) j (tickA l t (runR hold K n l nd t).s)) j 15)), some (Vi (((itN (dis1 hold l t) j (tickA l t (runR hold K n l nd t).s)) j 15 : Int) + 1)), some (.pointer (some ⟨w.heap.size, 2, none⟩)), some (.slice (some pd41) n nc), some (Vi j), some (.pointer (some (pd41.add (j * 5)))), some (.pointer (some (⟨(pd41.add (j * 5)).block, (pd41.add (j * 5)).off + 3, none⟩))), some (Vi (cv nd j 3)), some (Vi (min (((itN (dis1 hold l t) j (tickA l t (runR hold K n l nd t).s)) j 15 : Int) + 1 : Int) (cv nd j 3 : Int))), some (.pointer (some ⟨bn, j * 5, none⟩)), some (.pointer (some ⟨bn, j * 5 + 3, none⟩)), none] [] 17 (fun _ W => Pst W1 W bn n K f (up (itN (dis1 hold l t) j (tickA l t (runR hold K n l nd t).s)) j 15 ((min (((itN (dis1 hold l t) j (tickA l t (runR hold K n l nd t).s)) j 15 : Int) + 1 : Int) (cv nd j 3 : Int)) : Int)) v1 v2 t t ((runR hold K n l nd t).rows) ((runR hold K n l nd t).asked)) rfl ⟨by kernel_rfl, of_decide_eq_true (by kernel_rfl), by kernel_rfl, by kernel_rfl, by kernel_rfl⟩ (of_decide_eq_true (by kernel_rfl)) ⟨?_, ?_, ?_, ?_, ?_, ?_, ?_, ?_, ?_, ?_, ?_, ?_, ?_, ?_, ?_, ?_, ?_, ?_, trivial⟩ ?_
        ·intro ac done u W Sx hT
         have hs := Sx.no 17 (by kernel_rfl)
         have hR := hT.1 hs
         exact X.vl (X.move rfl (Sx.ev 8 (.slice (some ⟨bn, 0, none⟩) n cap))) (Y.RT.of hs rfl hR.st0)
        ·intro ac done u W Sx hT
         have hs := Sx.no 17 (by kernel_rfl)
         have hR := hT.1 hs
         exact X.vl (X.move rfl (Sx.ev 16 (Vi j))) (Y.RT.of hs rfl hR.st0)
        ·intro ac done u W Sx hT
         have hs := Sx.no 17 (by kernel_rfl)
         have hR := hT.1 hs
         exact X.vl (X.move rfl (Sx.ev 8 (.slice (some ⟨bn, 0, none⟩) n cap))) (Y.RT.of hs rfl hR.st0)
        ·intro ac done u W Sx hT
         have hs := Sx.no 17 (by kernel_rfl)
         have hR := hT.1 hs
         exact X.vl (X.move rfl (Sx.ev 16 (Vi j))) (Y.RT.of hs rfl hR.st0)
        ·intro ac done u W Sx hT
         have hs := Sx.no 17 (by kernel_rfl)
         have hR := hT.1 hs
         exact X.vl (X.index rfl (Sx.ev 143 (.slice (some ⟨bn, 0, none⟩) n cap)) (Sx.ev 144 (Vi j)) (X.idx (k := j) Try.underlying113 (Try.siz115 _) (by omega) (by omega) (addr_add0 _ _))) (Y.RT.of hs rfl hR.st0)
        ·intro ac done u W Sx hT
         have hs := Sx.no 17 (by kernel_rfl)
         have hR := hT.1 hs
         exact X.vl (X.field rfl (Sx.ev 145 (.pointer (some ⟨bn, j * 5, none⟩))) (X.fld Try.underlying115 rfl (Try.siz3 _) rfl rfl)) (Y.RT.of hs rfl hR.st0)
        ·intro ac done u W Sx hT
         have hs := Sx.no 17 (by kernel_rfl)
         have hR := hT.1 hs
         have g : Gr w10 W := hR.1
         exact X.vl (X.load rfl (Sx.ev 146 (.pointer (some ⟨bn, j * 5 + 3, none⟩))) (X.ld1 (Try.agg3 _) ((hC.gr g).at 8 rfl))) (Y.RT.of hs rfl hR.st0)
        ·intro ac done u W Sx hT
         have hs := Sx.no 17 (by kernel_rfl)
         have hR := hT.1 hs
         exact X.vl (X.binop rfl (Sx.ev 147 (Vi ((itN (dis1 hold l t) j (tickA l t (runR hold K n l nd t).s)) j 15))) (X.kc (Vi 1) rfl) (X.addI Try.underlying3 rfl (by omega) (by omega))) (Y.RT.of hs rfl hR.st0)
        ·intro ac done u W Sx hT
         have hs := Sx.no 17 (by kernel_rfl)
         have hR := hT.1 hs
         exact X.vl (X.field rfl (Sx.ev 3 (Vp w.heap.size)) (X.fld Try.underlying24 rfl (Try.siz22 _) rfl rfl)) (Y.RT.of hs rfl hR.st0)
        ·intro ac done u W Sx hT
         have hs := Sx.no 17 (by kernel_rfl)
         have hR := hT.1 hs
         have g : Gr w10 W := hR.1
         exact X.vl (X.load rfl (Sx.ev 149 (.pointer (some ⟨w.heap.size, 2, none⟩))) (X.ld1 (Try.agg22 _) ((hC.gr g).at 2 rfl))) (Y.RT.of hs rfl hR.st0)
        ·intro ac done u W Sx hT
         have hs := Sx.no 17 (by kernel_rfl)
         have hR := hT.1 hs
         exact X.vl (X.move rfl (Sx.ev 16 (Vi j))) (Y.RT.of hs rfl hR.st0)
        ·intro ac done u W Sx hT
         have hs := Sx.no 17 (by kernel_rfl)
         have hR := hT.1 hs
         exact X.vl (X.index rfl (Sx.ev 150 (.slice (some pd41) n nc)) (Sx.ev 151 (Vi j)) (X.idx (k := j) Try.underlying22 (Try.siz31 _) (by omega) (by omega) rfl)) (Y.RT.of hs rfl hR.st0)
        ·intro ac done u W Sx hT
         have hs := Sx.no 17 (by kernel_rfl)
         have hR := hT.1 hs
         exact X.vl (X.field rfl (Sx.ev 152 (.pointer (some (pd41.add (j * 5))))) (X.fld Try.underlying31 rfl (Try.siz3 _) rfl rfl)) (Y.RT.of hs rfl hR.st0)
        ·intro ac done u W Sx hT
         have hs := Sx.no 17 (by kernel_rfl)
         have hR := hT.1 hs
         have g : Gr w10 W := hR.1
         exact X.vl (X.load rfl (Sx.ev 153 (.pointer (some (⟨(pd41.add (j * 5)).block, (pd41.add (j * 5)).off + 3, none⟩)))) (X.ld1 (Try.agg3 _) ((hC.gr g).at 6 rfl))) (Y.RT.of hs rfl hR.st0)
        ·intro ac done u W Sx hT
         have hs := Sx.no 17 (by kernel_rfl)
         have hR := hT.1 hs
         exact X.vl (Y.min2 rfl (Sx.ev 148 (Vi (((itN (dis1 hold l t) j (tickA l t (runR hold K n l nd t).s)) j 15 : Int) + 1))) (Sx.ev 154 (Vi (cv nd j 3)))) (Y.RT.of hs rfl hR.st0)
        ·intro ac done u W Sx hT
         have hs := Sx.no 17 (by kernel_rfl)
         have hR := hT.1 hs
         exact X.vl (X.index rfl (Sx.ev 141 (.slice (some ⟨bn, 0, none⟩) n cap)) (Sx.ev 142 (Vi j)) (X.idx (k := j) Try.underlying113 (Try.siz115 _) (by omega) (by omega) (addr_add0 _ _))) (Y.RT.of hs rfl hR.st0)
        ·intro ac done u W Sx hT
         have hs := Sx.no 17 (by kernel_rfl)
         have hR := hT.1 hs
         exact X.vl (X.field rfl (Sx.ev 156 (.pointer (some ⟨bn, j * 5, none⟩))) (X.fld Try.underlying115 rfl (Try.siz3 _) rfl rfl)) (Y.RT.of hs rfl hR.st0)
        ·intro ac done u W Sx hT
         have hR := hT.1 Sx.nd
         have g : Gr w10 W := hR.1
         have hNg := hN.gr g
         exact X.unit (X.w0 rfl) rfl (X.store rfl (Sx.ev 157 (.pointer (some ⟨bn, j * 5 + 3, none⟩))) (Sx.ev 155 (Vi (min (((itN (dis1 hold l t) j (tickA l t (runR hold K n l nd t).s)) j 15 : Int) + 1 : Int) (cv nd j 3 : Int)))) ((hNg.o (by omega)).st1 (Try.siz3 _) rfl rfl (by omega))) (Y.RT.fin (hNg.setI (i := j) (c := 3) (j := 15) (by omega) (by unfold qc; omega) ((min (((itN (dis1 hold l t) j (tickA l t (runR hold K n l nd t).s)) j 15 : Int) + 1 : Int) (cv nd j 3 : Int)))))
        rintro ac u w43 hs hd hl_ ho hN2
        replace F : Fr ac 334 [(1, Vi T), (2, .slice la m lc), (3, Vp w.heap.size), (8, .slice (some ⟨bn, 0, none⟩) n cap), (10, v1), (11, v2), (12, Vi t), (13, Vi 0), (14, Vi (itN (fun i a => orV a ((tickA l t (runR hold K n l nd t).s) i 5)) j 0)), (16, Vi j)] := X.fr hs hd hl_ _ (by kernel_rfl)
        clear hs hd hl_ ho hN hC G hnd hl
        have hN : Pst W1 w43 bn n K f (up (itN (dis1 hold l t) j (tickA l t (runR hold K n l nd t).s)) j 15 ((min (((itN (dis1 hold l t) j (tickA l t (runR hold K n l nd t).s)) j 15 : Int) + 1 : Int) (cv nd j 3 : Int)) : Int)) v1 v2 t t ((runR hold K n l nd t).rows) ((runR hold K n l nd t).asked) := hN2
        clear hN2
        have G := G1.trans hN.g
        have hC := hC1.gr hN.g
        have hnd := hnd1.gr hN.g
        have hl := hl1.gr hN.g
        refine X.thenN ?_
        replace hN : Pst W1 w43 bn n K f (refill1 t j (itN (dis1 hold l t) j (tickA l t (runR hold K n l nd t).s))) v1 v2 t t ((runR hold K n l nd t).rows) ((runR hold K n l nd t).asked) := by rw [refill1_pos (by omega) (by rw [hl4]; simpa using h42), hl3]; exact hN
        replace hC := hC1.gr hN.g
        have hk7 := hk1.refill t hj2
        have hb7 := hk7.ok.t j hj2 15 (by decide) (by decide)
        exact ⟨hN, F.sub _⟩
     ·skip
      clear F hC G hnd hl hN ac
      intro ac w44 hJ_
      obtain ⟨hN, F⟩ := hJ_
      have G := G1.trans hN.g
      have hC := hC1.gr hN.g
      have hnd := hnd1.gr hN.g
      have hl := hl1.gr hN.g
      have hk7 := hk1.refill t hj2
      have hb7 := hk7.ok.t j hj2 15 (by decide) (by decide)
      refine Y.seqJ (fun ac wr => Pst W1 wr bn n K f (dis1 hold l t j (itN (dis1 hold l t) j (tickA l t (runR hold K n l nd t).s))) v1 v2 t t ((runR hold K n l nd t).rows) ((runR hold K n l nd t).asked) ∧ Fr ac 334 [(1, Vi T), (2, .slice la m lc), (3, Vp w.heap.size), (8, .slice pa n cap), (10, v1), (11, v2), (12, Vi t), (13, Vi 0), (14, Vi (itN (fun i a => orV a ((tickA l t (runR hold K n l nd t).s) i 5)) j 0)), (16, Vi j)]) ?_ ?_
      ·skip
       refine Y.seq ?_
       refine Y.lit (by kernel_rfl) ?_
       refine Y.pv F (X.move rfl (F.ev 2 (.slice la m lc))) ?_;clear F ac;intro ac F
       refine Y.pv F (X.move rfl (F.ev 12 (Vi t))) ?_;clear F ac;intro ac F
       refine Y.pv F (X.move rfl (F.ev 16 (Vi j))) ?_;clear F ac;intro ac F
       refine Y.pcall F (X.w0 rfl) rfl (X.enter (F := 75) rfl (X.kc (.func (.func 75) #[] #[]) rfl) (X.a5 (F.ev 158 (.slice la m lc)) (F.ev 159 (Vi t)) (X.kc (Vi 3) rfl) (F.ev 160 (Vi j)) (X.kc (Vi 0) rfl)) (enters_of Try.func75 (by kernel_rfl) rfl _)) (has_any la m lc t 3 j 0 l w44 hl) ?_
       clear F ac
       rintro e w45 ⟨rfl, g⟩
       refine ⟨_, rfl, ?_⟩
       intro ac F
       replace G := G.trans g
       replace hC := hC.gr g
       replace hnd := hnd.gr g
       replace hl := hl.gr g
       replace hN := hN.gr g
       clear g
       refine Y.pv F (X.move rfl (F.ev 161 (.bool (hasB l t 3 j 0)))) ?_;clear F ac;intro ac F
       cases h46 : hasB l t 3 j 0 with
       | false =>
        try rw [h46] at F
        refine Y.pskip F (X.w2 rfl (F.yl (j := 4) (d := 162) (b := false) rfl (by kernel_rfl)) rfl) rfl ?_;clear F ac;intro ac F
        refine Y.pskip F (X.w2 rfl (F.yl (j := 4) (d := 162) (b := false) rfl (by kernel_rfl)) rfl) rfl ?_;clear F ac;intro ac F
        refine Y.pskip F (X.w2 rfl (F.yl (j := 4) (d := 162) (b := false) rfl (by kernel_rfl)) rfl) rfl ?_;clear F ac;intro ac F
        refine Y.pskip F (X.w2 rfl (F.yl (j := 4) (d := 162) (b := false) rfl (by kernel_rfl)) rfl) rfl ?_;clear F ac;intro ac F
        refine Y.pskip F (X.w2 rfl (F.yl (j := 4) (d := 162) (b := false) rfl (by kernel_rfl)) rfl) rfl ?_;clear F ac;intro ac F
        refine Y.pskip F (X.w2 rfl (F.yl (j := 4) (d := 162) (b := false) rfl (by kernel_rfl)) rfl) rfl ?_;clear F ac;intro ac F
        refine Y.pv F (X.pickF rfl (F.ev 162 (.bool false)) (X.kc (.bool false) rfl)) ?_;clear F ac;intro ac F
        refine Y.pv F (X.move rfl (F.ev 169 (.bool false))) ?_;clear F ac;intro ac F
        refine Y.pskip F (X.w2 rfl (F.yl (j := 12) (d := 170) (b := false) rfl (by kernel_rfl)) rfl) rfl ?_;clear F ac;intro ac F
        refine Y.pskip F (X.w2 rfl (F.yl (j := 12) (d := 170) (b := false) rfl (by kernel_rfl)) rfl) rfl ?_;clear F ac;intro ac F
        refine Y.pskip F (X.w2 rfl (F.yl (j := 12) (d := 170) (b := false) rfl (by kernel_rfl)) rfl) rfl ?_;clear F ac;intro ac F
        refine Y.pskip F (X.w2 rfl (F.yl (j := 12) (d := 170) (b := false) rfl (by kernel_rfl)) rfl) rfl ?_;clear F ac;intro ac F
        refine Y.pskip F (X.w2 rfl (F.yl (j := 12) (d := 170) (b := false) rfl (by kernel_rfl)) rfl) rfl ?_;clear F ac;intro ac F
        refine Y.pskip F (X.w2 rfl (F.yl (j := 12) (d := 170) (b := false) rfl (by kernel_rfl)) rfl) rfl ?_;clear F ac;intro ac F
        refine Y.pv F (X.pickF rfl (F.ev 170 (.bool false)) (X.kc (.bool false) rfl)) ?_;clear F ac;intro ac F
        refine Y.nil ?_
        replace F : Fr ac 334 [(1, Vi T), (2, .slice la m lc), (3, Vp w.heap.size), (8, .slice pa n cap), (10, v1), (11, v2), (12, Vi t), (13, Vi 0), (14, Vi (itN (fun i a => orV a ((tickA l t (runR hold K n l nd t).s) i 5)) j 0)), (16, Vi j), (177, .bool false)] := F.sub _
        refine X.thenN ?_
        refine Y.condF (F.ev 177 (.bool false)) ?_
        refine Y.skip ?_
        refine X.thenN ?_
        replace hN : Pst W1 w45 bn n K f (dis1 hold l t j (itN (dis1 hold l t) j (tickA l t (runR hold K n l nd t).s))) v1 v2 t t ((runR hold K n l nd t).rows) ((runR hold K n l nd t).asked) := by rw [dis1_def, nz_neg (fun e => by rw [h46] at e; cases e.1)]; exact hN
        replace hC := hC1.gr hN.g
        exact ⟨hN, F.sub _⟩
       | true =>
        try rw [h46] at F
        refine Y.pval F (X.w1 rfl (F.yl (j := 4) (d := 162) (b := true) rfl (by kernel_rfl))) rfl (X.move rfl (F.ev 8 (.slice pa n cap))) ?_;clear F ac;intro ac F
        refine Y.pval F (X.w1 rfl (F.yl (j := 4) (d := 162) (b := true) rfl (by kernel_rfl))) rfl (X.move rfl (F.ev 16 (Vi j))) ?_;clear F ac;intro ac F
        obtain rfl : pa = some ⟨bn, 0, none⟩ := hpa (by omega)
        refine Y.pval F (X.w1 rfl (F.yl (j := 4) (d := 162) (b := true) rfl (by kernel_rfl))) rfl (X.index rfl (F.ev 163 (.slice (some ⟨bn, 0, none⟩) n cap)) (F.ev 164 (Vi j)) (X.idx (k := j) Try.underlying113 (Try.siz115 _) (by omega) (by omega) (addr_add0 _ _))) ?_;clear F ac;intro ac F
        refine Y.pval F (X.w1 rfl (F.yl (j := 4) (d := 162) (b := true) rfl (by kernel_rfl))) rfl (X.field rfl (F.ev 165 (.pointer (some ⟨bn, j * 5, none⟩))) (X.fld Try.underlying115 rfl (Try.siz4 _) rfl rfl)) ?_;clear F ac;intro ac F
        replace hC : RCells w45 [(Ad w.heap.size 0, Vi K), (Ad w.heap.size 1, Vi hold), (Ad w.heap.size 2, .slice na n nc), (⟨bn, j * 5 + 4, none⟩, .bool (bz ((refill1 t j (itN (dis1 hold l t) j (tickA l t (runR hold K n l nd t).s))) j 16)))] := hC.append ((RCells.cons (hN.c4 (i := j) (by omega)) (RCells.nil _)))
        refine Y.pval F (X.w1 rfl (F.yl (j := 4) (d := 162) (b := true) rfl (by kernel_rfl))) rfl (X.load rfl (F.ev 166 (.pointer (some ⟨bn, j * 5 + 4, none⟩))) (X.ld1 (Try.agg4 _) (hC.at 3 rfl))) ?_;clear F ac;intro ac F
        refine Y.pval F (X.w1 rfl (F.yl (j := 4) (d := 162) (b := true) rfl (by kernel_rfl))) rfl (X.notB rfl (F.ev 167 (.bool (bz ((refill1 t j (itN (dis1 hold l t) j (tickA l t (runR hold K n l nd t).s))) j 16)))) rfl) ?_;clear F ac;intro ac F
        refine Y.pv F (X.pickT rfl (F.ev 162 (.bool true)) (F.ev 168 (.bool (!(bz ((refill1 t j (itN (dis1 hold l t) j (tickA l t (runR hold K n l nd t).s))) j 16)))))) ?_;clear F ac;intro ac F
        refine Y.pv F (X.move rfl (F.ev 169 (.bool (!(bz ((refill1 t j (itN (dis1 hold l t) j (tickA l t (runR hold K n l nd t).s))) j 16)))))) ?_;clear F ac;intro ac F
        cases h47 : bz ((refill1 t j (itN (dis1 hold l t) j (tickA l t (runR hold K n l nd t).s))) j 16) with
        | false =>
         try rw [h47] at F
         refine Y.pval F (X.w1 rfl (F.yl (j := 12) (d := 170) (b := true) rfl (by kernel_rfl))) rfl (X.move rfl (F.ev 8 (.slice (some ⟨bn, 0, none⟩) n cap))) ?_;clear F ac;intro ac F
         refine Y.pval F (X.w1 rfl (F.yl (j := 12) (d := 170) (b := true) rfl (by kernel_rfl))) rfl (X.move rfl (F.ev 16 (Vi j))) ?_;clear F ac;intro ac F
         refine Y.pval F (X.w1 rfl (F.yl (j := 12) (d := 170) (b := true) rfl (by kernel_rfl))) rfl (X.index rfl (F.ev 171 (.slice (some ⟨bn, 0, none⟩) n cap)) (F.ev 172 (Vi j)) (X.idx (k := j) Try.underlying113 (Try.siz115 _) (by omega) (by omega) (addr_add0 _ _))) ?_;clear F ac;intro ac F
         refine Y.pval F (X.w1 rfl (F.yl (j := 12) (d := 170) (b := true) rfl (by kernel_rfl))) rfl (X.field rfl (F.ev 173 (.pointer (some ⟨bn, j * 5, none⟩))) (X.fld Try.underlying115 rfl (Try.siz3 _) rfl rfl)) ?_;clear F ac;intro ac F
         replace hC : RCells w45 [(Ad w.heap.size 0, Vi K), (Ad w.heap.size 1, Vi hold), (Ad w.heap.size 2, .slice na n nc), (⟨bn, j * 5 + 4, none⟩, .bool (bz ((refill1 t j (itN (dis1 hold l t) j (tickA l t (runR hold K n l nd t).s))) j 16))), (⟨bn, j * 5 + 3, none⟩, Vi ((refill1 t j (itN (dis1 hold l t) j (tickA l t (runR hold K n l nd t).s))) j 15))] := hC.append ((RCells.cons (hN.c3 (i := j) (by omega)) (RCells.nil _)))
         refine Y.pval F (X.w1 rfl (F.yl (j := 12) (d := 170) (b := true) rfl (by kernel_rfl))) rfl (X.load rfl (F.ev 174 (.pointer (some ⟨bn, j * 5 + 3, none⟩))) (X.ld1 (Try.agg3 _) (hC.at 4 rfl))) ?_;clear F ac;intro ac F
         refine Y.pval F (X.w1 rfl (F.yl (j := 12) (d := 170) (b := true) rfl (by kernel_rfl))) rfl (X.binop rfl (F.ev 175 (Vi ((refill1 t j (itN (dis1 hold l t) j (tickA l t (runR hold K n l nd t).s))) j 15))) (X.kc (Vi 0) rfl) (X.gtrI Try.underlying3 rfl)) ?_;clear F ac;intro ac F
         refine Y.pv F (X.pickT rfl (F.ev 170 (.bool true)) (F.ev 176 (.bool (decide ((0 : Int) < ((refill1 t j (itN (dis1 hold l t) j (tickA l t (runR hold K n l nd t).s))) j 15)))))) ?_;clear F ac;intro ac F
         refine Y.nil ?_
         replace F : Fr ac 334 [(1, Vi T), (2, .slice la m lc), (3, Vp w.heap.size), (8, .slice (some ⟨bn, 0, none⟩) n cap), (10, v1), (11, v2), (12, Vi t), (13, Vi 0), (14, Vi (itN (fun i a => orV a ((tickA l t (runR hold K n l nd t).s) i 5)) j 0)), (16, Vi j), (177, .bool (decide ((0 : Int) < ((refill1 t j (itN (dis1 hold l t) j (tickA l t (runR hold K n l nd t).s))) j 15))))] := F.sub _
         refine X.thenN ?_
         cases h48 : decide ((0 : Int) < ((refill1 t j (itN (dis1 hold l t) j (tickA l t (runR hold K n l nd t).s))) j 15)) with
         | false =>
          try rw [h48] at F
          have h48p : ¬ ((0 : Int) < ((refill1 t j (itN (dis1 hold l t) j (tickA l t (runR hold K n l nd t).s))) j 15)) := of_decide_eq_false h48
          refine Y.condF (F.ev 177 (.bool false)) ?_
          refine Y.skip ?_
          refine X.thenN ?_
          replace hN : Pst W1 w45 bn n K f (dis1 hold l t j (itN (dis1 hold l t) j (tickA l t (runR hold K n l nd t).s))) v1 v2 t t ((runR hold K n l nd t).rows) ((runR hold K n l nd t).asked) := by rw [dis1_def, nz_neg (fun e => absurd e.2.2 (of_decide_eq_false h48))]; exact hN
          replace hC := hC1.gr hN.g
          exact ⟨hN, F.sub _⟩
         | true =>
          try rw [h48] at F
          have h48p : ((0 : Int) < ((refill1 t j (itN (dis1 hold l t) j (tickA l t (runR hold K n l nd t).s))) j 15)) := of_decide_eq_true h48
          refine Y.condT (F.ev 177 (.bool true)) ?_
          refine Y.seq ?_
          refine Y.lit (by kernel_rfl) ?_
          refine Y.pv F (X.move rfl (F.ev 8 (.slice (some ⟨bn, 0, none⟩) n cap))) ?_;clear F ac;intro ac F
          refine Y.pv F (X.move rfl (F.ev 16 (Vi j))) ?_;clear F ac;intro ac F
          refine Y.pv F (X.index rfl (F.ev 178 (.slice (some ⟨bn, 0, none⟩) n cap)) (F.ev 179 (Vi j)) (X.idx (k := j) Try.underlying113 (Try.siz115 _) (by omega) (by omega) (addr_add0 _ _))) ?_;clear F ac;intro ac F
          refine Y.pv F (X.field rfl (F.ev 180 (.pointer (some ⟨bn, j * 5, none⟩))) (X.fld Try.underlying115 rfl (Try.siz3 _) rfl rfl)) ?_;clear F ac;intro ac F
          refine Y.pv F (X.load rfl (F.ev 181 (.pointer (some ⟨bn, j * 5 + 3, none⟩))) (X.ld1 (Try.agg3 _) (hC.at 4 rfl))) ?_;clear F ac;intro ac F
          refine Y.pv F (X.binop rfl (F.ev 182 (Vi ((refill1 t j (itN (dis1 hold l t) j (tickA l t (runR hold K n l nd t).s))) j 15))) (X.kc (Vi 1) rfl) (X.subI Try.underlying3 rfl (by omega) (by omega))) ?_;clear F ac;intro ac F
          refine Y.pv F (X.index rfl (F.ev 178 (.slice (some ⟨bn, 0, none⟩) n cap)) (F.ev 179 (Vi j)) (X.idx (k := j) Try.underlying113 (Try.siz115 _) (by omega) (by omega) (addr_add0 _ _))) ?_;clear F ac;intro ac F
          refine Y.pv F (X.field rfl (F.ev 184 (.pointer (some ⟨bn, j * 5, none⟩))) (X.fld Try.underlying115 rfl (Try.siz3 _) rfl rfl)) ?_;clear F ac;intro ac F
          refine Y.punit F (X.w0 rfl) rfl (X.store rfl (F.ev 185 (.pointer (some ⟨bn, j * 5 + 3, none⟩))) (F.ev 183 (Vi (((refill1 t j (itN (dis1 hold l t) j (tickA l t (runR hold K n l nd t).s))) j 15 : Int) - 1))) ((hN.o (by omega)).st1 (Try.siz3 _) rfl rfl (by omega))) ?_;clear F ac;intro ac F
          have hN2 : Pst W1 (w45.setCell ⟨bn, j * 5 + 3, none⟩ (Vi (((refill1 t j (itN (dis1 hold l t) j (tickA l t (runR hold K n l nd t).s))) j 15 : Int) - 1))) bn n K f (up (refill1 t j (itN (dis1 hold l t) j (tickA l t (runR hold K n l nd t).s))) j 15 (((refill1 t j (itN (dis1 hold l t) j (tickA l t (runR hold K n l nd t).s))) j 15 : Int) - 1 : Int)) v1 v2 t t ((runR hold K n l nd t).rows) ((runR hold K n l nd t).asked) := hN.setI (i := j) (c := 3) (j := 15) (by omega) (by unfold qc; omega) (((refill1 t j (itN (dis1 hold l t) j (tickA l t (runR hold K n l nd t).s))) j 15 : Int) - 1)
          generalize w45.setCell ⟨bn, j * 5 + 3, none⟩ (Vi (((refill1 t j (itN (dis1 hold l t) j (tickA l t (runR hold K n l nd t).s))) j 15 : Int) - 1)) = w49 at *
          clear hN hC G hnd hl
          have hN := hN2
          clear hN2
          have G := G1.trans hN.g
          have hC := hC1.gr hN.g
          have hnd := hnd1.gr hN.g
          have hl := hl1.gr hN.g
          refine Y.nil ?_
          replace F : Fr ac 334 [(1, Vi T), (2, .slice la m lc), (3, Vp w.heap.size), (8, .slice (some ⟨bn, 0, none⟩) n cap), (10, v1), (11, v2), (12, Vi t), (13, Vi 0), (14, Vi (itN (fun i a => orV a ((tickA l t (runR hold K n l nd t).s) i 5)) j 0)), (16, Vi j)] := F.sub _
          refine X.thenN ?_
          refine Y.lit (by kernel_rfl) ?_
          refine Y.pv F (X.move rfl (F.ev 8 (.slice (some ⟨bn, 0, none⟩) n cap))) ?_;clear F ac;intro ac F
          refine Y.pv F (X.move rfl (F.ev 16 (Vi j))) ?_;clear F ac;intro ac F
          refine Y.pv F (X.field rfl (F.ev 3 (Vp w.heap.size)) (X.fld Try.underlying24 rfl (Try.siz3 _) rfl rfl)) ?_;clear F ac;intro ac F
          refine Y.pv F (X.load rfl (F.ev 188 (.pointer (some ⟨w.heap.size, 1, none⟩))) (X.ld1 (Try.agg3 _) (hC.at 1 rfl))) ?_;clear F ac;intro ac F
          refine Y.pv F (X.index rfl (F.ev 186 (.slice (some ⟨bn, 0, none⟩) n cap)) (F.ev 187 (Vi j)) (X.idx (k := j) Try.underlying113 (Try.siz115 _) (by omega) (by omega) (addr_add0 _ _))) ?_;clear F ac;intro ac F
          refine Y.pv F (X.field rfl (F.ev 190 (.pointer (some ⟨bn, j * 5, none⟩))) (X.fld Try.underlying115 rfl (Try.siz3 _) rfl rfl)) ?_;clear F ac;intro ac F
          refine Y.punit F (X.w0 rfl) rfl (X.store rfl (F.ev 191 (.pointer (some ⟨bn, j * 5 + 2, none⟩))) (F.ev 189 (Vi hold)) ((hN.o (by omega)).st1 (Try.siz3 _) rfl rfl (by omega))) ?_;clear F ac;intro ac F
          have hN2 : Pst W1 (w49.setCell ⟨bn, j * 5 + 2, none⟩ (Vi hold)) bn n K f (up (up (refill1 t j (itN (dis1 hold l t) j (tickA l t (runR hold K n l nd t).s))) j 15 (((refill1 t j (itN (dis1 hold l t) j (tickA l t (runR hold K n l nd t).s))) j 15 : Int) - 1 : Int)) j 14 (hold : Int)) v1 v2 t t ((runR hold K n l nd t).rows) ((runR hold K n l nd t).asked) := hN.setI (i := j) (c := 2) (j := 14) (by omega) (by unfold qc; omega) (hold)
          generalize w49.setCell ⟨bn, j * 5 + 2, none⟩ (Vi hold) = w50 at *
          clear hN hC G hnd hl
          have hN := hN2
          clear hN2
          have G := G1.trans hN.g
          have hC := hC1.gr hN.g
          have hnd := hnd1.gr hN.g
          have hl := hl1.gr hN.g
          refine Y.nil ?_
          replace F : Fr ac 334 [(1, Vi T), (2, .slice la m lc), (3, Vp w.heap.size), (8, .slice (some ⟨bn, 0, none⟩) n cap), (10, v1), (11, v2), (12, Vi t), (13, Vi 0), (14, Vi (itN (fun i a => orV a ((tickA l t (runR hold K n l nd t).s) i 5)) j 0)), (16, Vi j)] := F.sub _
          refine X.thenN ?_
          replace hN : Pst W1 w50 bn n K f (dis1 hold l t j (itN (dis1 hold l t) j (tickA l t (runR hold K n l nd t).s))) v1 v2 t t ((runR hold K n l nd t).rows) ((runR hold K n l nd t).asked) := by rw [dis1_def, nz_pos h46 (bz_false h47) (of_decide_eq_true h48)]; exact hN
          replace hC := hC1.gr hN.g
          exact ⟨hN, F.sub _⟩
        | true =>
         try rw [h47] at F
         refine Y.pskip F (X.w2 rfl (F.yl (j := 12) (d := 170) (b := false) rfl (by kernel_rfl)) rfl) rfl ?_;clear F ac;intro ac F
         refine Y.pskip F (X.w2 rfl (F.yl (j := 12) (d := 170) (b := false) rfl (by kernel_rfl)) rfl) rfl ?_;clear F ac;intro ac F
         refine Y.pskip F (X.w2 rfl (F.yl (j := 12) (d := 170) (b := false) rfl (by kernel_rfl)) rfl) rfl ?_;clear F ac;intro ac F
         refine Y.pskip F (X.w2 rfl (F.yl (j := 12) (d := 170) (b := false) rfl (by kernel_rfl)) rfl) rfl ?_;clear F ac;intro ac F
         refine Y.pskip F (X.w2 rfl (F.yl (j := 12) (d := 170) (b := false) rfl (by kernel_rfl)) rfl) rfl ?_;clear F ac;intro ac F
         refine Y.pskip F (X.w2 rfl (F.yl (j := 12) (d := 170) (b := false) rfl (by kernel_rfl)) rfl) rfl ?_;clear F ac;intro ac F
         refine Y.pv F (X.pickF rfl (F.ev 170 (.bool false)) (X.kc (.bool false) rfl)) ?_;clear F ac;intro ac F
         refine Y.nil ?_
         replace F : Fr ac 334 [(1, Vi T), (2, .slice la m lc), (3, Vp w.heap.size), (8, .slice (some ⟨bn, 0, none⟩) n cap), (10, v1), (11, v2), (12, Vi t), (13, Vi 0), (14, Vi (itN (fun i a => orV a ((tickA l t (runR hold K n l nd t).s) i 5)) j 0)), (16, Vi j), (177, .bool false)] := F.sub _
         refine X.thenN ?_
         refine Y.condF (F.ev 177 (.bool false)) ?_
         refine Y.skip ?_
         refine X.thenN ?_
         replace hN : Pst W1 w45 bn n K f (dis1 hold l t j (itN (dis1 hold l t) j (tickA l t (runR hold K n l nd t).s))) v1 v2 t t ((runR hold K n l nd t).rows) ((runR hold K n l nd t).asked) := by rw [dis1_def, nz_neg (fun e => absurd e.2.1 (bz_true h47))]; exact hN
         replace hC := hC1.gr hN.g
         exact ⟨hN, F.sub _⟩
      ·skip
       clear F hC G hnd hl hN ac
       intro ac w51 hJ_
       obtain ⟨hN, F⟩ := hJ_
       have G := G1.trans hN.g
       have hC := hC1.gr hN.g
       have hnd := hnd1.gr hN.g
       have hl := hl1.gr hN.g
       skip
       refine Y.lit (by kernel_rfl) ?_
       refine Y.pv F (X.move rfl (F.ev 14 (Vi (itN (fun i a => orV a ((tickA l t (runR hold K n l nd t).s) i 5)) j 0)))) ?_;clear F ac;intro ac F
       refine Y.pv F (X.move rfl (F.ev 8 (.slice pa n cap))) ?_;clear F ac;intro ac F
       refine Y.pv F (X.move rfl (F.ev 16 (Vi j))) ?_;clear F ac;intro ac F
       obtain rfl : pa = some ⟨bn, 0, none⟩ := hpa (by omega)
       refine Y.pv F (X.index rfl (F.ev 193 (.slice (some ⟨bn, 0, none⟩) n cap)) (F.ev 194 (Vi j)) (X.idx (k := j) Try.underlying113 (Try.siz115 _) (by omega) (by omega) (addr_add0 _ _))) ?_;clear F ac;intro ac F
       refine Y.pv F (X.field rfl (F.ev 195 (.pointer (some ⟨bn, j * 5, none⟩))) (X.fld Try.underlying115 rfl (Try.siz3 _) rfl rfl)) ?_;clear F ac;intro ac F
       replace hC : RCells w51 [(Ad w.heap.size 0, Vi K), (Ad w.heap.size 1, Vi hold), (Ad w.heap.size 2, .slice na n nc), (⟨bn, j * 5, none⟩, Vi ((dis1 hold l t j (itN (dis1 hold l t) j (tickA l t (runR hold K n l nd t).s))) j 5))] := hC.append ((RCells.cons (hN.c0 (i := j) (by omega)) (RCells.nil _)))
       refine Y.pv F (X.load rfl (F.ev 196 (.pointer (some ⟨bn, j * 5, none⟩))) (X.ld1 (Try.agg3 _) (hC.at 3 rfl))) ?_;clear F ac;intro ac F
       refine Y.pv F (X.binop rfl (F.ev 192 (Vi (itN (fun i a => orV a ((tickA l t (runR hold K n l nd t).s) i 5)) j 0))) (F.ev 197 (Vi ((dis1 hold l t j (itN (dis1 hold l t) j (tickA l t (runR hold K n l nd t).s))) j 5))) (X.orI Try.underlying3 rfl)) ?_;clear F ac;intro ac F
       refine Y.pv F (X.assign rfl (F.ev 198 (Vi (orV (itN (fun i a => orV a ((tickA l t (runR hold K n l nd t).s) i 5)) j 0 : Int) ((dis1 hold l t j (itN (dis1 hold l t) j (tickA l t (runR hold K n l nd t).s))) j 5 : Int))))) ?_;clear F ac;intro ac F
       refine Y.nil ?_
       replace F : Fr ac 334 [(1, Vi T), (2, .slice la m lc), (3, Vp w.heap.size), (8, .slice (some ⟨bn, 0, none⟩) n cap), (10, v1), (11, v2), (12, Vi t), (13, Vi 0), (14, Vi (orV (itN (fun i a => orV a ((tickA l t (runR hold K n l nd t).s) i 5)) j 0 : Int) ((dis1 hold l t j (itN (dis1 hold l t) j (tickA l t (runR hold K n l nd t).s))) j 5 : Int))), (16, Vi j)] := F.sub _
       refine X.blockN ?_
       refine X.thenN ?_
       refine Y.lit (by kernel_rfl) ?_
       refine Y.pv F (X.move rfl (F.ev 16 (Vi j))) ?_;clear F ac;intro ac F
       refine Y.pv F (X.binop rfl (F.ev 126 (Vi j)) (X.kc (Vi 1) rfl) (X.addI Try.underlying3 rfl (by omega) (by omega))) ?_;clear F ac;intro ac F
       refine Y.pv F (X.assign rfl (F.ev 127 (Vi ((j : Int) + 1)))) ?_;clear F ac;intro ac F
       refine Y.nil ?_
       replace F : Fr ac 334 [(1, Vi T), (2, .slice la m lc), (3, Vp w.heap.size), (8, .slice (some ⟨bn, 0, none⟩) n cap), (10, v1), (11, v2), (12, Vi t), (13, Vi 0), (14, Vi (orV (itN (fun i a => orV a ((tickA l t (runR hold K n l nd t).s) i 5)) j 0 : Int) ((dis1 hold l t j (itN (dis1 hold l t) j (tickA l t (runR hold K n l nd t).s))) j 5 : Int))), (16, Vi ((j : Int) + 1))] := F.sub _
       refine X.thenN ?_
       refine ⟨_, ?_, j + 1, rfl, by omega, hN, (by rw [show itN (fun i a => orV a ((tickA l t (runR hold K n l nd t).s) i 5)) (j + 1) 0 = orV (itN (fun i a => orV a ((tickA l t (runR hold K n l nd t).s) i 5)) j 0) ((dis1 hold l t j (itN (dis1 hold l t) j (tickA l t (runR hold K n l nd t).s))) j 5) from by rw [dis1_5, dis_5]; rfl]; exact F.sub _)⟩
       omega
   | true =>
    try rw [h9] at F
    have h9p : ((k : Int) < m) := of_decide_eq_true h9
    have hk2 : k < m := by omega
    have hnx := nu_at hnu hlen hndl hk2
    have hnx1 := hnx.1
    have hnx2 := hnx.2.1
    refine Y.condT (F.ev 51 (.bool true)) ?_
    refine Y.skip ?_
    refine X.thenN ?_
    refine Y.seq ?_
    refine Y.block ?_
    refine Y.seq ?_
    refine Y.seq ?_
    refine Y.lit (by kernel_rfl) ?_
    refine Y.pv F (X.move rfl (F.ev 2 (.slice la m lc))) ?_;clear F ac;intro ac F
    refine Y.pv F (X.move rfl (F.ev 15 (Vi k))) ?_;clear F ac;intro ac F
    obtain ⟨pd52, pe52, -, -, pc52⟩ := hl.at (j := k) (by omega)
    subst pe52
    replace hC : RCells w8 [(Ad w.heap.size 0, Vi K), (Ad w.heap.size 1, Vi hold), (Ad w.heap.size 2, .slice na n nc), (pd52.add (k * 4), Vi (cv l k 0)), (⟨(pd52.add (k * 4)).block, (pd52.add (k * 4)).off + 1, none⟩, Vi (cv l k 1)), (⟨(pd52.add (k * 4)).block, (pd52.add (k * 4)).off + 2, none⟩, Vi (cv l k 2)), (⟨(pd52.add (k * 4)).block, (pd52.add (k * 4)).off + 3, none⟩, Vi (cv l k 3))] := hC.append ((RCells.cons (pc52 0 (by decide)) (RCells.cons (pc52 1 (by decide)) (RCells.cons (pc52 2 (by decide)) (RCells.cons (pc52 3 (by decide)) (RCells.nil _))))))
    clear pc52
    refine Y.pv F (X.index rfl (F.ev 54 (.slice (some pd52) m lc)) (F.ev 55 (Vi k)) (X.idx (k := k) Try.underlying25 (Try.siz33 _) (by omega) (by omega) rfl)) ?_;clear F ac;intro ac F
    refine Y.pv F (X.field rfl (F.ev 56 (.pointer (some (pd52.add (k * 4))))) (X.fld Try.underlying33 rfl (Try.siz3 _) rfl rfl)) ?_;clear F ac;intro ac F
    refine Y.pv F (X.load rfl (F.ev 57 (.pointer (some (pd52.add (k * 4))))) (X.ld1 (Try.agg3 _) (hC.at 3 rfl))) ?_;clear F ac;intro ac F
    refine Y.pv F (X.move rfl (F.ev 12 (Vi t))) ?_;clear F ac;intro ac F
    refine Y.pv F (X.binop rfl (F.ev 58 (Vi (cv l k 0))) (F.ev 59 (Vi t)) (X.eqlI Try.underlying3 rfl)) ?_;clear F ac;intro ac F
    refine Y.pv F (X.move rfl (F.ev 60 (.bool ((cv l k 0 : Int) == t)))) ?_;clear F ac;intro ac F
    cases h53 : ((cv l k 0 : Int) == t) with
    | false =>
     try rw [h53] at F
     have h53p : ¬ (cv l k 0 : Int) = t := by simpa using h53
     refine Y.pskip F (X.w2 rfl (F.yl (j := 7) (d := 61) (b := false) rfl (by kernel_rfl)) rfl) rfl ?_;clear F ac;intro ac F
     refine Y.pskip F (X.w2 rfl (F.yl (j := 7) (d := 61) (b := false) rfl (by kernel_rfl)) rfl) rfl ?_;clear F ac;intro ac F
     refine Y.pskip F (X.w2 rfl (F.yl (j := 7) (d := 61) (b := false) rfl (by kernel_rfl)) rfl) rfl ?_;clear F ac;intro ac F
     refine Y.pskip F (X.w2 rfl (F.yl (j := 7) (d := 61) (b := false) rfl (by kernel_rfl)) rfl) rfl ?_;clear F ac;intro ac F
     refine Y.pskip F (X.w2 rfl (F.yl (j := 7) (d := 61) (b := false) rfl (by kernel_rfl)) rfl) rfl ?_;clear F ac;intro ac F
     refine Y.pskip F (X.w2 rfl (F.yl (j := 7) (d := 61) (b := false) rfl (by kernel_rfl)) rfl) rfl ?_;clear F ac;intro ac F
     refine Y.pv F (X.pickF rfl (F.ev 61 (.bool false)) (X.kc (.bool false) rfl)) ?_;clear F ac;intro ac F
     refine Y.nil ?_
     replace F : Fr ac 334 [(1, Vi T), (2, .slice (some pd52) m lc), (3, Vp w.heap.size), (8, .slice pa n cap), (10, v1), (11, v2), (12, Vi t), (13, Vi 0), (14, Vi 0), (15, Vi k), (68, .bool false)] := F.sub _
     refine X.thenN ?_
     refine Y.condF (F.ev 68 (.bool false)) ?_
     refine Y.skip ?_
     refine X.thenN ?_
     refine Y.seq ?_
     refine Y.lit (by kernel_rfl) ?_
     refine Y.pv F (X.move rfl (F.ev 2 (.slice (some pd52) m lc))) ?_;clear F ac;intro ac F
     refine Y.pv F (X.move rfl (F.ev 15 (Vi k))) ?_;clear F ac;intro ac F
     refine Y.pv F (X.index rfl (F.ev 88 (.slice (some pd52) m lc)) (F.ev 89 (Vi k)) (X.idx (k := k) Try.underlying25 (Try.siz33 _) (by omega) (by omega) rfl)) ?_;clear F ac;intro ac F
     refine Y.pv F (X.field rfl (F.ev 90 (.pointer (some (pd52.add (k * 4))))) (X.fld Try.underlying33 rfl (Try.siz3 _) rfl rfl)) ?_;clear F ac;intro ac F
     refine Y.pv F (X.load rfl (F.ev 91 (.pointer (some (pd52.add (k * 4))))) (X.ld1 (Try.agg3 _) (hC.at 3 rfl))) ?_;clear F ac;intro ac F
     refine Y.pv F (X.move rfl (F.ev 12 (Vi t))) ?_;clear F ac;intro ac F
     refine Y.pv F (X.binop rfl (F.ev 92 (Vi (cv l k 0))) (F.ev 93 (Vi t)) (X.eqlI Try.underlying3 h53)) ?_;clear F ac;intro ac F
     refine Y.pv F (X.move rfl (F.ev 94 (.bool false))) ?_;clear F ac;intro ac F
     refine Y.pskip F (X.w2 rfl (F.yl (j := 7) (d := 95) (b := false) rfl (by kernel_rfl)) rfl) rfl ?_;clear F ac;intro ac F
     refine Y.pskip F (X.w2 rfl (F.yl (j := 7) (d := 95) (b := false) rfl (by kernel_rfl)) rfl) rfl ?_;clear F ac;intro ac F
     refine Y.pskip F (X.w2 rfl (F.yl (j := 7) (d := 95) (b := false) rfl (by kernel_rfl)) rfl) rfl ?_;clear F ac;intro ac F
     refine Y.pskip F (X.w2 rfl (F.yl (j := 7) (d := 95) (b := false) rfl (by kernel_rfl)) rfl) rfl ?_;clear F ac;intro ac F
     refine Y.pskip F (X.w2 rfl (F.yl (j := 7) (d := 95) (b := false) rfl (by kernel_rfl)) rfl) rfl ?_;clear F ac;intro ac F
     refine Y.pskip F (X.w2 rfl (F.yl (j := 7) (d := 95) (b := false) rfl (by kernel_rfl)) rfl) rfl ?_;clear F ac;intro ac F
     refine Y.pv F (X.pickF rfl (F.ev 95 (.bool false)) (X.kc (.bool false) rfl)) ?_;clear F ac;intro ac F
     refine Y.nil ?_
     replace F : Fr ac 334 [(1, Vi T), (2, .slice (some pd52) m lc), (3, Vp w.heap.size), (8, .slice pa n cap), (10, v1), (11, v2), (12, Vi t), (13, Vi 0), (14, Vi 0), (15, Vi k), (102, .bool false)] := F.sub _
     refine X.thenN ?_
     refine Y.condF (F.ev 102 (.bool false)) ?_
     refine Y.skip ?_
     refine X.blockN ?_
     refine X.thenN ?_
     refine Y.lit (by kernel_rfl) ?_
     refine Y.pv F (X.move rfl (F.ev 15 (Vi k))) ?_;clear F ac;intro ac F
     refine Y.pv F (X.binop rfl (F.ev 52 (Vi k)) (X.kc (Vi 1) rfl) (X.addI Try.underlying3 rfl (by omega) (by omega))) ?_;clear F ac;intro ac F
     refine Y.pv F (X.assign rfl (F.ev 53 (Vi ((k : Int) + 1)))) ?_;clear F ac;intro ac F
     refine Y.nil ?_
     replace F : Fr ac 334 [(1, Vi T), (2, .slice (some pd52) m lc), (3, Vp w.heap.size), (8, .slice pa n cap), (10, v1), (11, v2), (12, Vi t), (13, Vi 0), (14, Vi 0), (15, Vi ((k : Int) + 1))] := F.sub _
     refine X.thenN ?_
     refine ⟨_, ?_, k + 1, rfl, by omega, (by rw [itN_succ, askR_n (fun e => absurd e (by simpa using h53))]; exact hN), F.sub _⟩
     omega
    | true =>
     try rw [h53] at F
     have h53p : (cv l k 0 : Int) = t := by simpa using h53
     refine Y.pval F (X.w1 rfl (F.yl (j := 7) (d := 61) (b := true) rfl (by kernel_rfl))) rfl (X.move rfl (F.ev 2 (.slice (some pd52) m lc))) ?_;clear F ac;intro ac F
     refine Y.pval F (X.w1 rfl (F.yl (j := 7) (d := 61) (b := true) rfl (by kernel_rfl))) rfl (X.move rfl (F.ev 15 (Vi k))) ?_;clear F ac;intro ac F
     refine Y.pval F (X.w1 rfl (F.yl (j := 7) (d := 61) (b := true) rfl (by kernel_rfl))) rfl (X.index rfl (F.ev 62 (.slice (some pd52) m lc)) (F.ev 63 (Vi k)) (X.idx (k := k) Try.underlying25 (Try.siz33 _) (by omega) (by omega) rfl)) ?_;clear F ac;intro ac F
     refine Y.pval F (X.w1 rfl (F.yl (j := 7) (d := 61) (b := true) rfl (by kernel_rfl))) rfl (X.field rfl (F.ev 64 (.pointer (some (pd52.add (k * 4))))) (X.fld Try.underlying33 rfl (Try.siz3 _) rfl rfl)) ?_;clear F ac;intro ac F
     refine Y.pval F (X.w1 rfl (F.yl (j := 7) (d := 61) (b := true) rfl (by kernel_rfl))) rfl (X.load rfl (F.ev 65 (.pointer (some (⟨(pd52.add (k * 4)).block, (pd52.add (k * 4)).off + 1, none⟩)))) (X.ld1 (Try.agg3 _) (hC.at 4 rfl))) ?_;clear F ac;intro ac F
     refine Y.pval F (X.w1 rfl (F.yl (j := 7) (d := 61) (b := true) rfl (by kernel_rfl))) rfl (X.binop rfl (F.ev 66 (Vi (cv l k 1))) (X.kc (Vi 1) rfl) (X.eqlI Try.underlying3 rfl)) ?_;clear F ac;intro ac F
     refine Y.pv F (X.pickT rfl (F.ev 61 (.bool true)) (F.ev 67 (.bool ((cv l k 1 : Int) == 1)))) ?_;clear F ac;intro ac F
     refine Y.nil ?_
     replace F : Fr ac 334 [(1, Vi T), (2, .slice (some pd52) m lc), (3, Vp w.heap.size), (8, .slice pa n cap), (10, v1), (11, v2), (12, Vi t), (13, Vi 0), (14, Vi 0), (15, Vi k), (68, .bool ((cv l k 1 : Int) == 1))] := F.sub _
     refine X.thenN ?_
     cases h54 : ((cv l k 1 : Int) == 1) with
     | false =>
      try rw [h54] at F
      have h54p : ¬ (cv l k 1 : Int) = 1 := by simpa using h54
      refine Y.condF (F.ev 68 (.bool false)) ?_
      refine Y.skip ?_
      refine X.thenN ?_
      refine Y.seq ?_
      refine Y.lit (by kernel_rfl) ?_
      refine Y.pv F (X.move rfl (F.ev 2 (.slice (some pd52) m lc))) ?_;clear F ac;intro ac F
      refine Y.pv F (X.move rfl (F.ev 15 (Vi k))) ?_;clear F ac;intro ac F
      refine Y.pv F (X.index rfl (F.ev 88 (.slice (some pd52) m lc)) (F.ev 89 (Vi k)) (X.idx (k := k) Try.underlying25 (Try.siz33 _) (by omega) (by omega) rfl)) ?_;clear F ac;intro ac F
      refine Y.pv F (X.field rfl (F.ev 90 (.pointer (some (pd52.add (k * 4))))) (X.fld Try.underlying33 rfl (Try.siz3 _) rfl rfl)) ?_;clear F ac;intro ac F
      refine Y.pv F (X.load rfl (F.ev 91 (.pointer (some (pd52.add (k * 4))))) (X.ld1 (Try.agg3 _) (hC.at 3 rfl))) ?_;clear F ac;intro ac F
      refine Y.pv F (X.move rfl (F.ev 12 (Vi t))) ?_;clear F ac;intro ac F
      refine Y.pv F (X.binop rfl (F.ev 92 (Vi (cv l k 0))) (F.ev 93 (Vi t)) (X.eqlI Try.underlying3 h53)) ?_;clear F ac;intro ac F
      refine Y.pv F (X.move rfl (F.ev 94 (.bool true))) ?_;clear F ac;intro ac F
      refine Y.pval F (X.w1 rfl (F.yl (j := 7) (d := 95) (b := true) rfl (by kernel_rfl))) rfl (X.move rfl (F.ev 2 (.slice (some pd52) m lc))) ?_;clear F ac;intro ac F
      refine Y.pval F (X.w1 rfl (F.yl (j := 7) (d := 95) (b := true) rfl (by kernel_rfl))) rfl (X.move rfl (F.ev 15 (Vi k))) ?_;clear F ac;intro ac F
      refine Y.pval F (X.w1 rfl (F.yl (j := 7) (d := 95) (b := true) rfl (by kernel_rfl))) rfl (X.index rfl (F.ev 96 (.slice (some pd52) m lc)) (F.ev 97 (Vi k)) (X.idx (k := k) Try.underlying25 (Try.siz33 _) (by omega) (by omega) rfl)) ?_;clear F ac;intro ac F
      refine Y.pval F (X.w1 rfl (F.yl (j := 7) (d := 95) (b := true) rfl (by kernel_rfl))) rfl (X.field rfl (F.ev 98 (.pointer (some (pd52.add (k * 4))))) (X.fld Try.underlying33 rfl (Try.siz3 _) rfl rfl)) ?_;clear F ac;intro ac F
      refine Y.pval F (X.w1 rfl (F.yl (j := 7) (d := 95) (b := true) rfl (by kernel_rfl))) rfl (X.load rfl (F.ev 99 (.pointer (some (⟨(pd52.add (k * 4)).block, (pd52.add (k * 4)).off + 1, none⟩)))) (X.ld1 (Try.agg3 _) (hC.at 4 rfl))) ?_;clear F ac;intro ac F
      refine Y.pval F (X.w1 rfl (F.yl (j := 7) (d := 95) (b := true) rfl (by kernel_rfl))) rfl (X.binop rfl (F.ev 100 (Vi (cv l k 1))) (X.kc (Vi 2) rfl) (X.eqlI Try.underlying3 rfl)) ?_;clear F ac;intro ac F
      refine Y.pv F (X.pickT rfl (F.ev 95 (.bool true)) (F.ev 101 (.bool ((cv l k 1 : Int) == 2)))) ?_;clear F ac;intro ac F
      refine Y.nil ?_
      replace F : Fr ac 334 [(1, Vi T), (2, .slice (some pd52) m lc), (3, Vp w.heap.size), (8, .slice pa n cap), (10, v1), (11, v2), (12, Vi t), (13, Vi 0), (14, Vi 0), (15, Vi k), (102, .bool ((cv l k 1 : Int) == 2))] := F.sub _
      refine X.thenN ?_
      cases h55 : ((cv l k 1 : Int) == 2) with
      | false =>
       try rw [h55] at F
       have h55p : ¬ (cv l k 1 : Int) = 2 := by simpa using h55
       refine Y.condF (F.ev 102 (.bool false)) ?_
       refine Y.skip ?_
       refine X.blockN ?_
       refine X.thenN ?_
       refine Y.lit (by kernel_rfl) ?_
       refine Y.pv F (X.move rfl (F.ev 15 (Vi k))) ?_;clear F ac;intro ac F
       refine Y.pv F (X.binop rfl (F.ev 52 (Vi k)) (X.kc (Vi 1) rfl) (X.addI Try.underlying3 rfl (by omega) (by omega))) ?_;clear F ac;intro ac F
       refine Y.pv F (X.assign rfl (F.ev 53 (Vi ((k : Int) + 1)))) ?_;clear F ac;intro ac F
       refine Y.nil ?_
       replace F : Fr ac 334 [(1, Vi T), (2, .slice (some pd52) m lc), (3, Vp w.heap.size), (8, .slice pa n cap), (10, v1), (11, v2), (12, Vi t), (13, Vi 0), (14, Vi 0), (15, Vi ((k : Int) + 1))] := F.sub _
       refine X.thenN ?_
       refine ⟨_, ?_, k + 1, rfl, by omega, (by rw [itN_succ, askR_n (fun _ => ⟨by simpa using h54, by simpa using h55⟩)]; exact hN), F.sub _⟩
       omega
      | true =>
       try rw [h55] at F
       have h55p : (cv l k 1 : Int) = 2 := by simpa using h55
       have hkd : cv l k 1 = 2 := by simpa using h55
       have hn3 := hnx.2.2 (by omega)
       refine Y.condT (F.ev 102 (.bool true)) ?_
       obtain rfl : pa = some ⟨bn, 0, none⟩ := hpa (by omega)
       replace hC : RCells w8 [(Ad w.heap.size 0, Vi K), (Ad w.heap.size 1, Vi hold), (Ad w.heap.size 2, .slice na n nc), (pd52.add (k * 4), Vi (cv l k 0)), (⟨(pd52.add (k * 4)).block, (pd52.add (k * 4)).off + 1, none⟩, Vi (cv l k 1)), (⟨(pd52.add (k * 4)).block, (pd52.add (k * 4)).off + 2, none⟩, Vi (cv l k 2)), (⟨(pd52.add (k * 4)).block, (pd52.add (k * 4)).off + 3, none⟩, Vi (cv l k 3)), (⟨bn, ((cv l k 2).toNat) * 5, none⟩, Vi ((itN (askR l t) k (runR hold K n l nd t).s) ((cv l k 2).toNat) 5))] := hC.append ((RCells.cons (hN.c0 (i := ((cv l k 2).toNat)) (by omega)) (RCells.nil _)))
       refine Y.regionS F [some (.slice (some ⟨bn, 0, none⟩) n cap), some (.slice (some pd52) m lc), some (Vi k), some (.pointer (some (pd52.add (k * 4)))), some (.pointer (some (⟨(pd52.add (k * 4)).block, (pd52.add (k * 4)).off + 2, none⟩))), some (Vi (cv l k 2)), some (.pointer (some ⟨bn, ((cv l k 2).toNat) * 5, none⟩)), some (.pointer (some ⟨bn, ((cv l k 2).toNat) * 5, none⟩)), some (Vi ((itN (askR l t) k (runR hold K n l nd t).s) ((cv l k 2).toNat) 5)), some (.slice (some pd52) m lc), some (Vi k), some (.pointer (some (pd52.add (k * 4)))), some (.pointer (some (⟨(pd52.add (k * 4)).block, (pd52.add (k * 4)).off + 3, none⟩))), some (Vi (cv l k 3)), some (.int .u64 (cv l k 3)), some (Vi (shlV 1 (cv l k 3 : Int))), some (Vi (anotV ((itN (askR l t) k (runR hold K n l nd t).s) ((cv l k 2).toNat) 5 : Int) (shlV 1 (cv l k 3 : Int) : Int))), some (.pointer (some ⟨bn, ((cv l k 2).toNat) * 5, none⟩)), some (.pointer (some ⟨bn, ((cv l k 2).toNat) * 5, none⟩)), none] [] 19 (fun _ W => Pst W1 W bn n K f (up (itN (askR l t) k (runR hold K n l nd t).s) ((cv l k 2).toNat) 5 (anotV ((itN (askR l t) k (runR hold K n l nd t).s) ((cv l k 2).toNat) 5 : Int) (shlV 1 (cv l k 3 : Int) : Int) : Int)) v1 v2 t t ((runR hold K n l nd t).rows) ((runR hold K n l nd t).asked)) rfl ⟨by kernel_rfl, of_decide_eq_true (by kernel_rfl), by kernel_rfl, by kernel_rfl, by kernel_rfl⟩ (of_decide_eq_true (by kernel_rfl)) ⟨?_, ?_, ?_, ?_, ?_, ?_, ?_, ?_, ?_, ?_, ?_, ?_, ?_, ?_, ?_, ?_, ?_, ?_, ?_, ?_, trivial⟩ ?_
       ·intro ac done u W Sx hT
        have hs := Sx.no 19 (by kernel_rfl)
        have hR := hT.1 hs
        exact X.vl (X.move rfl (Sx.ev 8 (.slice (some ⟨bn, 0, none⟩) n cap))) (Y.RT.of hs rfl hR.st0)
       ·intro ac done u W Sx hT
        have hs := Sx.no 19 (by kernel_rfl)
        have hR := hT.1 hs
        exact X.vl (X.move rfl (Sx.ev 2 (.slice (some pd52) m lc))) (Y.RT.of hs rfl hR.st0)
       ·intro ac done u W Sx hT
        have hs := Sx.no 19 (by kernel_rfl)
        have hR := hT.1 hs
        exact X.vl (X.move rfl (Sx.ev 15 (Vi k))) (Y.RT.of hs rfl hR.st0)
       ·intro ac done u W Sx hT
        have hs := Sx.no 19 (by kernel_rfl)
        have hR := hT.1 hs
        exact X.vl (X.index rfl (Sx.ev 104 (.slice (some pd52) m lc)) (Sx.ev 105 (Vi k)) (X.idx (k := k) Try.underlying25 (Try.siz33 _) (by omega) (by omega) rfl)) (Y.RT.of hs rfl hR.st0)
       ·intro ac done u W Sx hT
        have hs := Sx.no 19 (by kernel_rfl)
        have hR := hT.1 hs
        exact X.vl (X.field rfl (Sx.ev 106 (.pointer (some (pd52.add (k * 4))))) (X.fld Try.underlying33 rfl (Try.siz3 _) rfl rfl)) (Y.RT.of hs rfl hR.st0)
       ·intro ac done u W Sx hT
        have hs := Sx.no 19 (by kernel_rfl)
        have hR := hT.1 hs
        have g : Gr w8 W := hR.1
        exact X.vl (X.load rfl (Sx.ev 107 (.pointer (some (⟨(pd52.add (k * 4)).block, (pd52.add (k * 4)).off + 2, none⟩)))) (X.ld1 (Try.agg3 _) ((hC.gr g).at 5 rfl))) (Y.RT.of hs rfl hR.st0)
       ·intro ac done u W Sx hT
        have hs := Sx.no 19 (by kernel_rfl)
        have hR := hT.1 hs
        exact X.vl (X.index rfl (Sx.ev 103 (.slice (some ⟨bn, 0, none⟩) n cap)) (Sx.ev 108 (Vi (cv l k 2))) (X.idx (k := (cv l k 2).toNat) Try.underlying113 (Try.siz115 _) (by omega) (by omega) (addr_add0 _ _))) (Y.RT.of hs rfl hR.st0)
       ·intro ac done u W Sx hT
        have hs := Sx.no 19 (by kernel_rfl)
        have hR := hT.1 hs
        exact X.vl (X.field rfl (Sx.ev 109 (.pointer (some ⟨bn, ((cv l k 2).toNat) * 5, none⟩))) (X.fld Try.underlying115 rfl (Try.siz3 _) rfl rfl)) (Y.RT.of hs rfl hR.st0)
       ·intro ac done u W Sx hT
        have hs := Sx.no 19 (by kernel_rfl)
        have hR := hT.1 hs
        have g : Gr w8 W := hR.1
        exact X.vl (X.load rfl (Sx.ev 110 (.pointer (some ⟨bn, ((cv l k 2).toNat) * 5, none⟩))) (X.ld1 (Try.agg3 _) ((hC.gr g).at 7 rfl))) (Y.RT.of hs rfl hR.st0)
       ·intro ac done u W Sx hT
        have hs := Sx.no 19 (by kernel_rfl)
        have hR := hT.1 hs
        exact X.vl (X.move rfl (Sx.ev 2 (.slice (some pd52) m lc))) (Y.RT.of hs rfl hR.st0)
       ·intro ac done u W Sx hT
        have hs := Sx.no 19 (by kernel_rfl)
        have hR := hT.1 hs
        exact X.vl (X.move rfl (Sx.ev 15 (Vi k))) (Y.RT.of hs rfl hR.st0)
       ·intro ac done u W Sx hT
        have hs := Sx.no 19 (by kernel_rfl)
        have hR := hT.1 hs
        exact X.vl (X.index rfl (Sx.ev 112 (.slice (some pd52) m lc)) (Sx.ev 113 (Vi k)) (X.idx (k := k) Try.underlying25 (Try.siz33 _) (by omega) (by omega) rfl)) (Y.RT.of hs rfl hR.st0)
       ·intro ac done u W Sx hT
        have hs := Sx.no 19 (by kernel_rfl)
        have hR := hT.1 hs
        exact X.vl (X.field rfl (Sx.ev 114 (.pointer (some (pd52.add (k * 4))))) (X.fld Try.underlying33 rfl (Try.siz3 _) rfl rfl)) (Y.RT.of hs rfl hR.st0)
       ·intro ac done u W Sx hT
        have hs := Sx.no 19 (by kernel_rfl)
        have hR := hT.1 hs
        have g : Gr w8 W := hR.1
        exact X.vl (X.load rfl (Sx.ev 115 (.pointer (some (⟨(pd52.add (k * 4)).block, (pd52.add (k * 4)).off + 3, none⟩)))) (X.ld1 (Try.agg3 _) ((hC.gr g).at 6 rfl))) (Y.RT.of hs rfl hR.st0)
       ·intro ac done u W Sx hT
        have hs := Sx.no 19 (by kernel_rfl)
        have hR := hT.1 hs
        exact X.vl (X.conv rfl (Sx.ev 116 (Vi (cv l k 3))) (X.cv54 Try.underlying3 Try.underlying54 (by omega))) (Y.RT.of hs rfl hR.st0)
       ·intro ac done u W Sx hT
        have hs := Sx.no 19 (by kernel_rfl)
        have hR := hT.1 hs
        exact X.vl (X.binop rfl (X.kc (Vi 1) rfl) (Sx.ev 117 (.int .u64 (cv l k 3))) (X.shlI Try.underlying3 rfl (by omega))) (Y.RT.of hs rfl hR.st0)
       ·intro ac done u W Sx hT
        have hs := Sx.no 19 (by kernel_rfl)
        have hR := hT.1 hs
        exact X.vl (X.binop rfl (Sx.ev 111 (Vi ((itN (askR l t) k (runR hold K n l nd t).s) ((cv l k 2).toNat) 5))) (Sx.ev 118 (Vi (shlV 1 (cv l k 3 : Int)))) (X.andNotI Try.underlying3 rfl)) (Y.RT.of hs rfl hR.st0)
       ·intro ac done u W Sx hT
        have hs := Sx.no 19 (by kernel_rfl)
        have hR := hT.1 hs
        exact X.vl (X.index rfl (Sx.ev 103 (.slice (some ⟨bn, 0, none⟩) n cap)) (Sx.ev 108 (Vi (cv l k 2))) (X.idx (k := (cv l k 2).toNat) Try.underlying113 (Try.siz115 _) (by omega) (by omega) (addr_add0 _ _))) (Y.RT.of hs rfl hR.st0)
       ·intro ac done u W Sx hT
        have hs := Sx.no 19 (by kernel_rfl)
        have hR := hT.1 hs
        exact X.vl (X.field rfl (Sx.ev 120 (.pointer (some ⟨bn, ((cv l k 2).toNat) * 5, none⟩))) (X.fld Try.underlying115 rfl (Try.siz3 _) rfl rfl)) (Y.RT.of hs rfl hR.st0)
       ·intro ac done u W Sx hT
        have hR := hT.1 Sx.nd
        have g : Gr w8 W := hR.1
        have hNg := hN.gr g
        exact X.unit (X.w0 rfl) rfl (X.store rfl (Sx.ev 121 (.pointer (some ⟨bn, ((cv l k 2).toNat) * 5, none⟩))) (Sx.ev 119 (Vi (anotV ((itN (askR l t) k (runR hold K n l nd t).s) ((cv l k 2).toNat) 5 : Int) (shlV 1 (cv l k 3 : Int) : Int)))) ((hNg.o (by omega)).st1 (Try.siz3 _) rfl rfl (by omega))) (Y.RT.fin (hNg.setI (i := ((cv l k 2).toNat)) (c := 0) (j := 5) (by omega) (by unfold qc; omega) (anotV ((itN (askR l t) k (runR hold K n l nd t).s) ((cv l k 2).toNat) 5 : Int) (shlV 1 (cv l k 3 : Int) : Int))))
       rintro ac u w56 hs hd hl_ ho hN2
       replace F : Fr ac 334 [(1, Vi T), (2, .slice (some pd52) m lc), (3, Vp w.heap.size), (8, .slice (some ⟨bn, 0, none⟩) n cap), (10, v1), (11, v2), (12, Vi t), (13, Vi 0), (14, Vi 0), (15, Vi k)] := X.fr hs hd hl_ _ (by kernel_rfl)
       clear hs hd hl_ ho hN hC G hnd hl
       have hN : Pst W1 w56 bn n K f (up (itN (askR l t) k (runR hold K n l nd t).s) ((cv l k 2).toNat) 5 (anotV ((itN (askR l t) k (runR hold K n l nd t).s) ((cv l k 2).toNat) 5 : Int) (shlV 1 (cv l k 3 : Int) : Int) : Int)) v1 v2 t t ((runR hold K n l nd t).rows) ((runR hold K n l nd t).asked) := hN2
       clear hN2
       have G := G1.trans hN.g
       have hC := hC1.gr hN.g
       have hnd := hnd1.gr hN.g
       have hl := hl1.gr hN.g
       refine X.blockN ?_
       refine X.thenN ?_
       refine Y.lit (by kernel_rfl) ?_
       refine Y.pv F (X.move rfl (F.ev 15 (Vi k))) ?_;clear F ac;intro ac F
       refine Y.pv F (X.binop rfl (F.ev 52 (Vi k)) (X.kc (Vi 1) rfl) (X.addI Try.underlying3 rfl (by omega) (by omega))) ?_;clear F ac;intro ac F
       refine Y.pv F (X.assign rfl (F.ev 53 (Vi ((k : Int) + 1)))) ?_;clear F ac;intro ac F
       refine Y.nil ?_
       replace F : Fr ac 334 [(1, Vi T), (2, .slice (some pd52) m lc), (3, Vp w.heap.size), (8, .slice (some ⟨bn, 0, none⟩) n cap), (10, v1), (11, v2), (12, Vi t), (13, Vi 0), (14, Vi 0), (15, Vi ((k : Int) + 1))] := F.sub _
       refine X.thenN ?_
       refine ⟨_, ?_, k + 1, rfl, by omega, (by rw [itN_succ, askR_2 (by simpa using h53) (by simpa using h55)]; exact hN), F.sub _⟩
       omega
     | true =>
      try rw [h54] at F
      have h54p : (cv l k 1 : Int) = 1 := by simpa using h54
      have hkd : cv l k 1 = 1 := by simpa using h54
      have hn3 := hnx.2.2 (by omega)
      refine Y.condT (F.ev 68 (.bool true)) ?_
      obtain rfl : pa = some ⟨bn, 0, none⟩ := hpa (by omega)
      replace hC : RCells w8 [(Ad w.heap.size 0, Vi K), (Ad w.heap.size 1, Vi hold), (Ad w.heap.size 2, .slice na n nc), (pd52.add (k * 4), Vi (cv l k 0)), (⟨(pd52.add (k * 4)).block, (pd52.add (k * 4)).off + 1, none⟩, Vi (cv l k 1)), (⟨(pd52.add (k * 4)).block, (pd52.add (k * 4)).off + 2, none⟩, Vi (cv l k 2)), (⟨(pd52.add (k * 4)).block, (pd52.add (k * 4)).off + 3, none⟩, Vi (cv l k 3)), (⟨bn, ((cv l k 2).toNat) * 5, none⟩, Vi ((itN (askR l t) k (runR hold K n l nd t).s) ((cv l k 2).toNat) 5))] := hC.append ((RCells.cons (hN.c0 (i := ((cv l k 2).toNat)) (by omega)) (RCells.nil _)))
      refine Y.regionS F [some (.slice (some ⟨bn, 0, none⟩) n cap), some (.slice (some pd52) m lc), some (Vi k), some (.pointer (some (pd52.add (k * 4)))), some (.pointer (some (⟨(pd52.add (k * 4)).block, (pd52.add (k * 4)).off + 2, none⟩))), some (Vi (cv l k 2)), some (.pointer (some ⟨bn, ((cv l k 2).toNat) * 5, none⟩)), some (.pointer (some ⟨bn, ((cv l k 2).toNat) * 5, none⟩)), some (Vi ((itN (askR l t) k (runR hold K n l nd t).s) ((cv l k 2).toNat) 5)), some (.slice (some pd52) m lc), some (Vi k), some (.pointer (some (pd52.add (k * 4)))), some (.pointer (some (⟨(pd52.add (k * 4)).block, (pd52.add (k * 4)).off + 3, none⟩))), some (Vi (cv l k 3)), some (.int .u64 (cv l k 3)), some (Vi (shlV 1 (cv l k 3 : Int))), some (Vi (orV ((itN (askR l t) k (runR hold K n l nd t).s) ((cv l k 2).toNat) 5 : Int) (shlV 1 (cv l k 3 : Int) : Int))), some (.pointer (some ⟨bn, ((cv l k 2).toNat) * 5, none⟩)), some (.pointer (some ⟨bn, ((cv l k 2).toNat) * 5, none⟩)), none] [] 19 (fun _ W => Pst W1 W bn n K f (up (itN (askR l t) k (runR hold K n l nd t).s) ((cv l k 2).toNat) 5 (orV ((itN (askR l t) k (runR hold K n l nd t).s) ((cv l k 2).toNat) 5 : Int) (shlV 1 (cv l k 3 : Int) : Int) : Int)) v1 v2 t t ((runR hold K n l nd t).rows) ((runR hold K n l nd t).asked)) rfl ⟨by kernel_rfl, of_decide_eq_true (by kernel_rfl), by kernel_rfl, by kernel_rfl, by kernel_rfl⟩ (of_decide_eq_true (by kernel_rfl)) ⟨?_, ?_, ?_, ?_, ?_, ?_, ?_, ?_, ?_, ?_, ?_, ?_, ?_, ?_, ?_, ?_, ?_, ?_, ?_, ?_, trivial⟩ ?_
      ·intro ac done u W Sx hT
       have hs := Sx.no 19 (by kernel_rfl)
       have hR := hT.1 hs
       exact X.vl (X.move rfl (Sx.ev 8 (.slice (some ⟨bn, 0, none⟩) n cap))) (Y.RT.of hs rfl hR.st0)
      ·intro ac done u W Sx hT
       have hs := Sx.no 19 (by kernel_rfl)
       have hR := hT.1 hs
       exact X.vl (X.move rfl (Sx.ev 2 (.slice (some pd52) m lc))) (Y.RT.of hs rfl hR.st0)
      ·intro ac done u W Sx hT
       have hs := Sx.no 19 (by kernel_rfl)
       have hR := hT.1 hs
       exact X.vl (X.move rfl (Sx.ev 15 (Vi k))) (Y.RT.of hs rfl hR.st0)
      ·intro ac done u W Sx hT
       have hs := Sx.no 19 (by kernel_rfl)
       have hR := hT.1 hs
       exact X.vl (X.index rfl (Sx.ev 70 (.slice (some pd52) m lc)) (Sx.ev 71 (Vi k)) (X.idx (k := k) Try.underlying25 (Try.siz33 _) (by omega) (by omega) rfl)) (Y.RT.of hs rfl hR.st0)
      ·intro ac done u W Sx hT
       have hs := Sx.no 19 (by kernel_rfl)
       have hR := hT.1 hs
       exact X.vl (X.field rfl (Sx.ev 72 (.pointer (some (pd52.add (k * 4))))) (X.fld Try.underlying33 rfl (Try.siz3 _) rfl rfl)) (Y.RT.of hs rfl hR.st0)
      ·intro ac done u W Sx hT
       have hs := Sx.no 19 (by kernel_rfl)
       have hR := hT.1 hs
       have g : Gr w8 W := hR.1
       exact X.vl (X.load rfl (Sx.ev 73 (.pointer (some (⟨(pd52.add (k * 4)).block, (pd52.add (k * 4)).off + 2, none⟩)))) (X.ld1 (Try.agg3 _) ((hC.gr g).at 5 rfl))) (Y.RT.of hs rfl hR.st0)
      ·intro ac done u W Sx hT
       have hs := Sx.no 19 (by kernel_rfl)
       have hR := hT.1 hs
       exact X.vl (X.index rfl (Sx.ev 69 (.slice (some ⟨bn, 0, none⟩) n cap)) (Sx.ev 74 (Vi (cv l k 2))) (X.idx (k := (cv l k 2).toNat) Try.underlying113 (Try.siz115 _) (by omega) (by omega) (addr_add0 _ _))) (Y.RT.of hs rfl hR.st0)
      ·intro ac done u W Sx hT
       have hs := Sx.no 19 (by kernel_rfl)
       have hR := hT.1 hs
       exact X.vl (X.field rfl (Sx.ev 75 (.pointer (some ⟨bn, ((cv l k 2).toNat) * 5, none⟩))) (X.fld Try.underlying115 rfl (Try.siz3 _) rfl rfl)) (Y.RT.of hs rfl hR.st0)
      ·intro ac done u W Sx hT
       have hs := Sx.no 19 (by kernel_rfl)
       have hR := hT.1 hs
       have g : Gr w8 W := hR.1
       exact X.vl (X.load rfl (Sx.ev 76 (.pointer (some ⟨bn, ((cv l k 2).toNat) * 5, none⟩))) (X.ld1 (Try.agg3 _) ((hC.gr g).at 7 rfl))) (Y.RT.of hs rfl hR.st0)
      ·intro ac done u W Sx hT
       have hs := Sx.no 19 (by kernel_rfl)
       have hR := hT.1 hs
       exact X.vl (X.move rfl (Sx.ev 2 (.slice (some pd52) m lc))) (Y.RT.of hs rfl hR.st0)
      ·intro ac done u W Sx hT
       have hs := Sx.no 19 (by kernel_rfl)
       have hR := hT.1 hs
       exact X.vl (X.move rfl (Sx.ev 15 (Vi k))) (Y.RT.of hs rfl hR.st0)
      ·intro ac done u W Sx hT
       have hs := Sx.no 19 (by kernel_rfl)
       have hR := hT.1 hs
       exact X.vl (X.index rfl (Sx.ev 78 (.slice (some pd52) m lc)) (Sx.ev 79 (Vi k)) (X.idx (k := k) Try.underlying25 (Try.siz33 _) (by omega) (by omega) rfl)) (Y.RT.of hs rfl hR.st0)
      ·intro ac done u W Sx hT
       have hs := Sx.no 19 (by kernel_rfl)
       have hR := hT.1 hs
       exact X.vl (X.field rfl (Sx.ev 80 (.pointer (some (pd52.add (k * 4))))) (X.fld Try.underlying33 rfl (Try.siz3 _) rfl rfl)) (Y.RT.of hs rfl hR.st0)
      ·intro ac done u W Sx hT
       have hs := Sx.no 19 (by kernel_rfl)
       have hR := hT.1 hs
       have g : Gr w8 W := hR.1
       exact X.vl (X.load rfl (Sx.ev 81 (.pointer (some (⟨(pd52.add (k * 4)).block, (pd52.add (k * 4)).off + 3, none⟩)))) (X.ld1 (Try.agg3 _) ((hC.gr g).at 6 rfl))) (Y.RT.of hs rfl hR.st0)
      ·intro ac done u W Sx hT
       have hs := Sx.no 19 (by kernel_rfl)
       have hR := hT.1 hs
       exact X.vl (X.conv rfl (Sx.ev 82 (Vi (cv l k 3))) (X.cv54 Try.underlying3 Try.underlying54 (by omega))) (Y.RT.of hs rfl hR.st0)
      ·intro ac done u W Sx hT
       have hs := Sx.no 19 (by kernel_rfl)
       have hR := hT.1 hs
       exact X.vl (X.binop rfl (X.kc (Vi 1) rfl) (Sx.ev 83 (.int .u64 (cv l k 3))) (X.shlI Try.underlying3 rfl (by omega))) (Y.RT.of hs rfl hR.st0)
      ·intro ac done u W Sx hT
       have hs := Sx.no 19 (by kernel_rfl)
       have hR := hT.1 hs
       exact X.vl (X.binop rfl (Sx.ev 77 (Vi ((itN (askR l t) k (runR hold K n l nd t).s) ((cv l k 2).toNat) 5))) (Sx.ev 84 (Vi (shlV 1 (cv l k 3 : Int)))) (X.orI Try.underlying3 rfl)) (Y.RT.of hs rfl hR.st0)
      ·intro ac done u W Sx hT
       have hs := Sx.no 19 (by kernel_rfl)
       have hR := hT.1 hs
       exact X.vl (X.index rfl (Sx.ev 69 (.slice (some ⟨bn, 0, none⟩) n cap)) (Sx.ev 74 (Vi (cv l k 2))) (X.idx (k := (cv l k 2).toNat) Try.underlying113 (Try.siz115 _) (by omega) (by omega) (addr_add0 _ _))) (Y.RT.of hs rfl hR.st0)
      ·intro ac done u W Sx hT
       have hs := Sx.no 19 (by kernel_rfl)
       have hR := hT.1 hs
       exact X.vl (X.field rfl (Sx.ev 86 (.pointer (some ⟨bn, ((cv l k 2).toNat) * 5, none⟩))) (X.fld Try.underlying115 rfl (Try.siz3 _) rfl rfl)) (Y.RT.of hs rfl hR.st0)
      ·intro ac done u W Sx hT
       have hR := hT.1 Sx.nd
       have g : Gr w8 W := hR.1
       have hNg := hN.gr g
       exact X.unit (X.w0 rfl) rfl (X.store rfl (Sx.ev 87 (.pointer (some ⟨bn, ((cv l k 2).toNat) * 5, none⟩))) (Sx.ev 85 (Vi (orV ((itN (askR l t) k (runR hold K n l nd t).s) ((cv l k 2).toNat) 5 : Int) (shlV 1 (cv l k 3 : Int) : Int)))) ((hNg.o (by omega)).st1 (Try.siz3 _) rfl rfl (by omega))) (Y.RT.fin (hNg.setI (i := ((cv l k 2).toNat)) (c := 0) (j := 5) (by omega) (by unfold qc; omega) (orV ((itN (askR l t) k (runR hold K n l nd t).s) ((cv l k 2).toNat) 5 : Int) (shlV 1 (cv l k 3 : Int) : Int))))
      rintro ac u w57 hs hd hl_ ho hN2
      replace F : Fr ac 334 [(1, Vi T), (2, .slice (some pd52) m lc), (3, Vp w.heap.size), (8, .slice (some ⟨bn, 0, none⟩) n cap), (10, v1), (11, v2), (12, Vi t), (13, Vi 0), (14, Vi 0), (15, Vi k)] := X.fr hs hd hl_ _ (by kernel_rfl)
      clear hs hd hl_ ho hN hC G hnd hl
      have hN : Pst W1 w57 bn n K f (up (itN (askR l t) k (runR hold K n l nd t).s) ((cv l k 2).toNat) 5 (orV ((itN (askR l t) k (runR hold K n l nd t).s) ((cv l k 2).toNat) 5 : Int) (shlV 1 (cv l k 3 : Int) : Int) : Int)) v1 v2 t t ((runR hold K n l nd t).rows) ((runR hold K n l nd t).asked) := hN2
      clear hN2
      have G := G1.trans hN.g
      have hC := hC1.gr hN.g
      have hnd := hnd1.gr hN.g
      have hl := hl1.gr hN.g
      refine X.thenN ?_
      refine Y.seq ?_
      refine Y.lit (by kernel_rfl) ?_
      refine Y.pv F (X.move rfl (F.ev 2 (.slice (some pd52) m lc))) ?_;clear F ac;intro ac F
      refine Y.pv F (X.move rfl (F.ev 15 (Vi k))) ?_;clear F ac;intro ac F
      obtain ⟨pd58, pe58, -, -, pc58⟩ := hl.at (j := k) (by omega)
      injection pe58 with pe58
      subst pe58
      replace hC : RCells w57 [(Ad w.heap.size 0, Vi K), (Ad w.heap.size 1, Vi hold), (Ad w.heap.size 2, .slice na n nc), (pd52.add (k * 4), Vi (cv l k 0)), (⟨(pd52.add (k * 4)).block, (pd52.add (k * 4)).off + 1, none⟩, Vi (cv l k 1)), (⟨(pd52.add (k * 4)).block, (pd52.add (k * 4)).off + 2, none⟩, Vi (cv l k 2)), (⟨(pd52.add (k * 4)).block, (pd52.add (k * 4)).off + 3, none⟩, Vi (cv l k 3))] := hC.append ((RCells.cons (pc58 0 (by decide)) (RCells.cons (pc58 1 (by decide)) (RCells.cons (pc58 2 (by decide)) (RCells.cons (pc58 3 (by decide)) (RCells.nil _))))))
      clear pc58
      refine Y.pv F (X.index rfl (F.ev 88 (.slice (some pd52) m lc)) (F.ev 89 (Vi k)) (X.idx (k := k) Try.underlying25 (Try.siz33 _) (by omega) (by omega) rfl)) ?_;clear F ac;intro ac F
      refine Y.pv F (X.field rfl (F.ev 90 (.pointer (some (pd52.add (k * 4))))) (X.fld Try.underlying33 rfl (Try.siz3 _) rfl rfl)) ?_;clear F ac;intro ac F
      refine Y.pv F (X.load rfl (F.ev 91 (.pointer (some (pd52.add (k * 4))))) (X.ld1 (Try.agg3 _) (hC.at 3 rfl))) ?_;clear F ac;intro ac F
      refine Y.pv F (X.move rfl (F.ev 12 (Vi t))) ?_;clear F ac;intro ac F
      refine Y.pv F (X.binop rfl (F.ev 92 (Vi (cv l k 0))) (F.ev 93 (Vi t)) (X.eqlI Try.underlying3 h53)) ?_;clear F ac;intro ac F
      refine Y.pv F (X.move rfl (F.ev 94 (.bool true))) ?_;clear F ac;intro ac F
      refine Y.pval F (X.w1 rfl (F.yl (j := 7) (d := 95) (b := true) rfl (by kernel_rfl))) rfl (X.move rfl (F.ev 2 (.slice (some pd52) m lc))) ?_;clear F ac;intro ac F
      refine Y.pval F (X.w1 rfl (F.yl (j := 7) (d := 95) (b := true) rfl (by kernel_rfl))) rfl (X.move rfl (F.ev 15 (Vi k))) ?_;clear F ac;intro ac F
      refine Y.pval F (X.w1 rfl (F.yl (j := 7) (d := 95) (b := true) rfl (by kernel_rfl))) rfl (X.index rfl (F.ev 96 (.slice (some pd52) m lc)) (F.ev 97 (Vi k)) (X.idx (k := k) Try.underlying25 (Try.siz33 _) (by omega) (by omega) rfl)) ?_;clear F ac;intro ac F
      refine Y.pval F (X.w1 rfl (F.yl (j := 7) (d := 95) (b := true) rfl (by kernel_rfl))) rfl (X.field rfl (F.ev 98 (.pointer (some (pd52.add (k * 4))))) (X.fld Try.underlying33 rfl (Try.siz3 _) rfl rfl)) ?_;clear F ac;intro ac F
      refine Y.pval F (X.w1 rfl (F.yl (j := 7) (d := 95) (b := true) rfl (by kernel_rfl))) rfl (X.load rfl (F.ev 99 (.pointer (some (⟨(pd52.add (k * 4)).block, (pd52.add (k * 4)).off + 1, none⟩)))) (X.ld1 (Try.agg3 _) (hC.at 4 rfl))) ?_;clear F ac;intro ac F
      refine Y.pval F (X.w1 rfl (F.yl (j := 7) (d := 95) (b := true) rfl (by kernel_rfl))) rfl (X.binop rfl (F.ev 100 (Vi (cv l k 1))) (X.kc (Vi 2) rfl) (X.eqlI Try.underlying3 rfl)) ?_;clear F ac;intro ac F
      refine Y.pv F (X.pickT rfl (F.ev 95 (.bool true)) (F.ev 101 (.bool ((cv l k 1 : Int) == 2)))) ?_;clear F ac;intro ac F
      refine Y.nil ?_
      replace F : Fr ac 334 [(1, Vi T), (2, .slice (some pd52) m lc), (3, Vp w.heap.size), (8, .slice (some ⟨bn, 0, none⟩) n cap), (10, v1), (11, v2), (12, Vi t), (13, Vi 0), (14, Vi 0), (15, Vi k), (102, .bool ((cv l k 1 : Int) == 2))] := F.sub _
      refine X.thenN ?_
      have h59 : ((cv l k 1 : Int) == 2) = false := by have h9 := h54; simp at h9; simp [h9]
      try rw [h59] at F
      refine Y.condF (F.ev 102 (.bool false)) ?_
      refine Y.skip ?_
      refine X.blockN ?_
      refine X.thenN ?_
      refine Y.lit (by kernel_rfl) ?_
      refine Y.pv F (X.move rfl (F.ev 15 (Vi k))) ?_;clear F ac;intro ac F
      refine Y.pv F (X.binop rfl (F.ev 52 (Vi k)) (X.kc (Vi 1) rfl) (X.addI Try.underlying3 rfl (by omega) (by omega))) ?_;clear F ac;intro ac F
      refine Y.pv F (X.assign rfl (F.ev 53 (Vi ((k : Int) + 1)))) ?_;clear F ac;intro ac F
      refine Y.nil ?_
      replace F : Fr ac 334 [(1, Vi T), (2, .slice (some pd52) m lc), (3, Vp w.heap.size), (8, .slice (some ⟨bn, 0, none⟩) n cap), (10, v1), (11, v2), (12, Vi t), (13, Vi 0), (14, Vi 0), (15, Vi ((k : Int) + 1))] := F.sub _
      refine X.thenN ?_
      refine ⟨_, ?_, k + 1, rfl, by omega, (by rw [itN_succ, askR_1 (by simpa using h53) (by simpa using h54)]; exact hN), F.sub _⟩
      omega
 | true =>
  try rw [h5] at F
  have h5p : ((i : Int) < n) := of_decide_eq_true h5
  have hi2 : i < n := by omega
  refine Y.condT (F.ev 27 (.bool true)) ?_
  refine Y.skip ?_
  refine X.thenN ?_
  refine Y.seq ?_
  refine Y.block ?_
  obtain ⟨pd60, pe60, -, -, pc60⟩ := hnd.at (j := i) (by omega)
  subst pe60
  replace hC : RCells w4 [(Ad w.heap.size 0, Vi K), (Ad w.heap.size 1, Vi hold), (Ad w.heap.size 2, .slice (some pd60) n nc), (pd60.add (i * 5), Vi (cv nd i 0)), (⟨(pd60.add (i * 5)).block, (pd60.add (i * 5)).off + 1, none⟩, Vi (cv nd i 1)), (⟨(pd60.add (i * 5)).block, (pd60.add (i * 5)).off + 2, none⟩, Vi (cv nd i 2)), (⟨(pd60.add (i * 5)).block, (pd60.add (i * 5)).off + 3, none⟩, Vi (cv nd i 3)), (⟨(pd60.add (i * 5)).block, (pd60.add (i * 5)).off + 4, none⟩, Vi (cv nd i 4))] := hC.append ((RCells.cons (pc60 0 (by decide)) (RCells.cons (pc60 1 (by decide)) (RCells.cons (pc60 2 (by decide)) (RCells.cons (pc60 3 (by decide)) (RCells.cons (pc60 4 (by decide)) (RCells.nil _)))))))
  clear pc60
  refine region_xi F [some (v), some (Vp w.heap.size), some (Vi K), none, some (.pointer (some ⟨w.heap.size, 2, none⟩)), some (.slice (some pd60) n nc), some (Vi i), some (.pointer (some (pd60.add (i * 5)))), some (.pointer (some (⟨(pd60.add (i * 5)).block, (pd60.add (i * 5)).off + 3, none⟩))), some (Vi (cv nd i 3)), none, none, none, none] (RN w4 K (cv nd i 3) (fun v W => ∃ g3, Qst W1 W n K nd (fun a => if a = i then g3 else f a) v (i + 1))) rfl ⟨by kernel_rfl, of_decide_eq_true (by kernel_rfl), by kernel_rfl, by kernel_rfl, by kernel_rfl⟩ (fun _ => ⟨RN.start (Gr.refl _), RN.start (Gr.drew _)⟩) ⟨?_, ?_, ?_, ?_, ?_, ?_, ?_, ?_, ?_, ?_, ?_, ?_, ?_, ?_, trivial⟩ ?_
  ·intro ac done u W Sx hR
   exact X.vl (X.move rfl (Sx.ev 8 (v))) (hR.q (by decide))
  ·intro ac done u W Sx hR
   exact X.vl (X.field rfl (Sx.ev 3 (Vp w.heap.size)) (X.fld Try.underlying24 rfl (Try.siz3 _) rfl rfl)) (hR.q (by decide))
  ·intro ac done u W Sx hR
   have g : Gr w4 W := hR.g (Sx.no 12 (by kernel_rfl))
   exact X.vl (X.load rfl (Sx.ev 31 (Vp w.heap.size)) (X.ld1 (Try.agg3 _) ((hC.gr g).at 0 rfl))) (hR.q (by decide))
  ·intro ac done u W Sx hR
   have g : Gr w4 W := hR.g (Sx.no 12 (by kernel_rfl))
   have hgs := g.size
   obtain ⟨W9, hmk, hT3, g2⟩ := make34 W (N := K) (x := K) rfl (by omega)
   exact X.valN (X.w0 rfl) rfl (Y.mk rfl (Sx.ev 32 (Vi K)) (Sx.ev 32 (Vi K)) hmk) (hR.s3 (Sx.no 10 (by kernel_rfl)) (Sx.no 11 (by kernel_rfl)) (Sx.no 12 (by kernel_rfl)) (Sx.no 13 (by kernel_rfl)) g2 hT3 hgs)
  ·intro ac done u W Sx hR
   exact X.vl (X.field rfl (Sx.ev 3 (Vp w.heap.size)) (X.fld Try.underlying24 rfl (Try.siz22 _) rfl rfl)) (hR.q (by decide))
  ·intro ac done u W Sx hR
   have g : Gr w4 W := hR.g (Sx.no 12 (by kernel_rfl))
   exact X.vl (X.load rfl (Sx.ev 34 (.pointer (some ⟨w.heap.size, 2, none⟩))) (X.ld1 (Try.agg22 _) ((hC.gr g).at 2 rfl))) (hR.q (by decide))
  ·intro ac done u W Sx hR
   exact X.vl (X.move rfl (Sx.ev 9 (Vi i))) (hR.q (by decide))
  ·intro ac done u W Sx hR
   exact X.vl (X.index rfl (Sx.ev 35 (.slice (some pd60) n nc)) (Sx.ev 36 (Vi i)) (X.idx (k := i) Try.underlying22 (Try.siz31 _) (by omega) (by omega) rfl)) (hR.q (by decide))
  ·intro ac done u W Sx hR
   exact X.vl (X.field rfl (Sx.ev 37 (.pointer (some (pd60.add (i * 5))))) (X.fld Try.underlying31 rfl (Try.siz3 _) rfl rfl)) (hR.q (by decide))
  ·intro ac done u W Sx hR
   have g : Gr w4 W := hR.g (Sx.no 12 (by kernel_rfl))
   exact X.vl (X.load rfl (Sx.ev 38 (.pointer (some (⟨(pd60.add (i * 5)).block, (pd60.add (i * 5)).off + 3, none⟩)))) (X.ld1 (Try.agg3 _) ((hC.gr g).at 6 rfl))) (hR.q (by decide))
  ·intro ac done u W Sx hR
   obtain ⟨g3, e3, -, -⟩ := hR.p3 (Sx.an 3 (by kernel_rfl))
   exact X.valN (X.w0 rfl) rfl (Y.bd rfl (b13 ((Sx.own 3 33 rfl).trans e3) (Sx.ev 39 (Vi (cv nd i 3)))) (Try.bd115 _ _ _ _ _)) (hR.s10 (Sx.no 11 (by kernel_rfl)) (Sx.no 12 (by kernel_rfl)) (Sx.no 13 (by kernel_rfl)) (by rw [e3]))
  ·intro ac done u W Sx hR
   obtain ⟨g3, e3, -, -⟩ := hR.p3 (Sx.an 3 (by kernel_rfl))
   have e10 := hR.p10 (Sx.an 10 (by kernel_rfl))
   rw [e3] at e10
   exact X.valN (X.w0 rfl) rfl (X.bs rfl (X.b1 ((Sx.own 10 40 rfl).trans e10)) (Try.bs113 _ _ _ _ _)) (hR.s11 (Sx.no 12 (by kernel_rfl)) (Sx.no 13 (by kernel_rfl)) (Gr.alloc _ _) (by rw [e3]; exact World.alloc_heap_new _ _))
  ·intro ac done u W Sx hR
   have g : Gr w4 W := hR.g Sx.nd
   have hgs := g.size
   obtain ⟨g3, e3, hg3, hT3⟩ := hR.p3 (Sx.an 3 (by kernel_rfl))
   have hT4 := hT3 Sx.nd
   obtain ⟨g9, e9, hg9⟩ := hR.p11 (Sx.an 11 (by kernel_rfl)) Sx.nd
   rw [e3] at hg9
   have hqs := hQ.g.size
   exact X.law (X.w0 rfl) (fun K_ hK => wp_pushV Try.underlying113 Try.info115 rfl (by decide) rfl (Sx.ev 30 (v)) ((Sx.own 11 41 rfl).trans e9) (hQ.o.gr g) (m := 1) (news := [Vi 0, .slice (some ⟨g3, 0, none⟩) K K, Vi 0, Vi (cv nd i 3), .bool false]) rfl (cells_at hg9) rfl (by omega) (by decide) (by omega) (fun v2 W2 hO2 hon hat => hK v2 W2 (fun x hx => by cases hx) (hR.s12 (Sx.no 13 (by kernel_rfl)) ⟨g3, hQ.push g hT4 hg3 hO2 hon hat⟩)))
  ·intro ac done u W Sx hR
   exact X.valN (X.w0 rfl) rfl (X.assign rfl (Sx.own 12 42 rfl)) (hR.s13 rfl)
  rintro ac u w61 hs hd hl_ ho hR
  obtain ⟨g3, hQ2⟩ := hR.p12 rfl
  have e13 := hR.p13 rfl
  obtain ⟨v', hv'⟩ : ∃ x, u 12 = x := ⟨_, rfl⟩
  rw [hv'] at hQ2 e13
  replace F : Fr ac 334 [(1, Vi T), (2, .slice la m lc), (3, Vp w.heap.size), (9, Vi i)] := X.fr hs hd hl_ _ (by kernel_rfl)
  replace F := F.add (ho 13 8 rfl) e13
  clear hs hd hl_ ho hR hC G hnd hl hQ e13 hv'
  have hQ := hQ2
  clear hQ2
  replace F : Fr ac 334 [(1, Vi T), (2, .slice la m lc), (3, Vp w.heap.size), (8, v'), (9, Vi i)] := F.sub _
  have G := G1.trans hQ.g
  have hC := hC1.gr hQ.g
  have hnd := hnd1.gr hQ.g
  have hl := hl1.gr hQ.g
  refine X.blockN ?_
  refine X.thenN ?_
  refine Y.lit (by kernel_rfl) ?_
  refine Y.pv F (X.move rfl (F.ev 9 (Vi i))) ?_;clear F ac;intro ac F
  refine Y.pv F (X.binop rfl (F.ev 28 (Vi i)) (X.kc (Vi 1) rfl) (X.addI Try.underlying3 rfl (by omega) (by omega))) ?_;clear F ac;intro ac F
  refine Y.pv F (X.assign rfl (F.ev 29 (Vi ((i : Int) + 1)))) ?_;clear F ac;intro ac F
  refine Y.nil ?_
  replace F : Fr ac 334 [(1, Vi T), (2, .slice la m lc), (3, Vp w.heap.size), (8, v'), (9, Vi ((i : Int) + 1))] := F.sub _
  refine X.thenN ?_
  refine ⟨_, ?_, i + 1, _, v', rfl, by omega, hQ, F.sub _⟩
  omega
end Go.Proofs.Ytoalamakhjbedaa
