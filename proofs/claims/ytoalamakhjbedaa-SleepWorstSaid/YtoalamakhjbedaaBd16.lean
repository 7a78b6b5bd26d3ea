/- Several texts of this claim in one file. (1) Contracts: the reference's Worst and Noises. (2) Contract: sameInts. (3) Contract: the look at the examples. (4) Contract: SleepWorst returns true. -/
import Derived.Test.YtoalamakhjbedaaBd14
import Derived.Test.YtoalamakhjbedaaBd15
import Derived.Test.YtoalamakhjbedaaBd7
import Derived.Test.YtoalamakhjbedaaBd13
namespace Go.Proofs.Ytoalamakhjbedaa
section
open Go.RowKit

/-- a table that a call made: its blocks are not below B0 -/
def TbQ (B0 : Nat) (W : World) (tb : Nat) (p : Nd) (T N : Nat) : Prop := ∃ B hi, B0 ≤ B ∧ TbW W tb T (N + 1) p 0 hi B
def RwQ (B0 : Nat) (W : World) (rb : Nat) (p : Nd) (N : Nat) : Prop := ∃ B hi tb, B0 ≤ B ∧ RowD W p (N + 1) B tb hi rb 0
section
variable {W W' : World} {B0 tb rb T N : Nat} {p : Nd}
theorem TbQ.gr (h : TbQ B0 W tb p T N) (g : Gr W W') : TbQ B0 W' tb p T N := by
  obtain ⟨B, hi, hB, h⟩ := h
  exact ⟨B, hi, hB, h.gr g⟩
theorem RwQ.gr (h : RwQ B0 W rb p N) (g : Gr W W') : RwQ B0 W' rb p N := by
  obtain ⟨B, hi, tb, hB, h⟩ := h
  exact ⟨B, hi, tb, hB, h.only (g.only (fun _ => False)) (fun h => h) (fun _ _ _ _ h => h)⟩
theorem TbQ.row (h : TbQ B0 W tb p T N) : ∃ rq, W.cell? ⟨tb, 0, none⟩ = some (.slice (some ⟨rq, 0, none⟩) (N + 1) (N + 1)) ∧ RwQ B0 W rq p N := by
  obtain ⟨B, hi, hB, h⟩ := h
  obtain ⟨b, h1, _, _, h4⟩ := h.row (t := 0) (Nat.le_refl _) (Nat.zero_le _)
  exact ⟨b, h1, B, hi, tb, hB, h4⟩
theorem RwQ.at (h : RwQ B0 W rb p N) {x : Int} (hx : x = N) : ∃ za zc, W.cell? ⟨rb, N * 2, none⟩ = some (.int .i64 (bestV p 0 x).1) ∧ W.cell? ⟨rb, N * 2 + 1, none⟩ = some (.slice za (noiV p 0 x).length zc) ∧ (∀ ad, za = some ad → B0 ≤ ad.block) ∧ Ints W za (noiV p 0 x).length (noiV p 0 x) := by
  subst hx
  obtain ⟨B, hi, tb, hB, h⟩ := h
  obtain ⟨a, c, h1, h2, h3, _, h5⟩ := h.cells (k := N) (by omega)
  exact ⟨a, c, h1, h2, fun ad e => Nat.le_trans hB (h5 ad e).1, h3⟩
end
def MP.tb (B0 : Nat) (p : Nd) (T N : Nat) : Y.MP := ⟨fun v W => ∃ tb, v = .slice (some ⟨tb, 0, none⟩) (T + 1) (T + 1) ∧ TbQ B0 W tb p T N, fun _ _ _ ⟨tb, h, k⟩ g => ⟨tb, h, k.gr g⟩⟩
def MP.tbp (B0 : Nat) (p : Nd) (T N : Nat) : Y.MP := ⟨fun v W => ∃ tb, v = .pointer (some ⟨tb, 0, none⟩) ∧ TbQ B0 W tb p T N, fun _ _ _ ⟨tb, h, k⟩ g => ⟨tb, h, k.gr g⟩⟩
def MP.rw (B0 : Nat) (p : Nd) (T N : Nat) : Y.MP := ⟨fun v W => ∃ rb, v = .slice (some ⟨rb, 0, none⟩) (N + 1) (N + 1) ∧ RwQ B0 W rb p N, fun _ _ _ ⟨tb, h, k⟩ g => ⟨tb, h, k.gr g⟩⟩
def MP.rwp (B0 : Nat) (p : Nd) (T N : Nat) : Y.MP := ⟨fun v W => ∃ rb, v = .pointer (some ⟨rb, N * 2, none⟩) ∧ RwQ B0 W rb p N, fun _ _ _ ⟨tb, h, k⟩ g => ⟨tb, h, k.gr g⟩⟩
def MP.wv (B0 : Nat) (p : Nd) (x : Int) : Y.MP := ⟨fun v W => ∃ a n c, v = .agg #[.int .i64 (bestV p 0 x).1, .slice a n c] ∧ (∀ ad, a = some ad → B0 ≤ ad.block) ∧ Ints W a n (noiV p 0 x), fun _ _ _ ⟨a, n, c, h, k, l⟩ g => ⟨a, n, c, h, k, l.gr g⟩⟩
theorem best2_mp (B0 : Nat) (gq aw za x r hold T : Int) (W : World) (h1 : 0 ≤ x) (h2 : x ≤ 20) (h3 : 1 ≤ r) (h4 : r ≤ 1000) (h5 : 1 ≤ hold) (h6 : hold ≤ 100) (h7 : 0 ≤ T) (h8 : T ≤ 1000) (hB : B0 ≤ W.heap.size) :
    Calls Try.prog 78 #[.agg #[Vi gq, Vi aw, Vi za, Vi x, Vi r], Vi hold, Vi T] W fun e w' => ∃ v, e = .returned v ∧ (MP.tb B0 (onP x.toNat r.toNat hold.toNat T.toNat) T.toNat x.toNat).p v w' ∧ Gr W w' := by
  have h := best2_any gq aw za x.toNat r.toNat hold.toNat T.toNat W (by omega) (by omega) (by omega) (by omega) (by omega) (by omega)
  rw [show ((x.toNat : Nat) : Int) = x by omega, show ((r.toNat : Nat) : Int) = r by omega, show ((hold.toNat : Nat) : Int) = hold by omega, show ((T.toNat : Nat) : Int) = T by omega] at h
  refine h.mono ?_
  rintro e w' ⟨tb, rfl, hT, g⟩
  exact ⟨_, rfl, ⟨tb, rfl, W.heap.size, _, hB, hT⟩, g⟩

theorem noiR_lin {gr hold T : Int} {nd : List (List Int)} {i : Nat} (hE : nodeE gr hold nd i T = 0) (hc : CluOk gr hold nd) (hi : i < nd.length) (hf : ¬ cv nd i 1 = cv nd i 2) : noiR gr hold nd i T = noiV (onP (cv nd i 3).toNat (cv nd i 4).toNat hold.toNat T.toNat) 0 (cv nd i 3) := by
  have hT := (ticksE_ok (nodeE_ok hE).1).2
  have hb := hc.bud i hi
  have hr := hc.ref i hi
  have hz := hc.asl i hi
  have h1 := hc.h1
  have h2 := hc.h100
  unfold noiR
  rw [if_pos hE, Int.toNat_natCast]
  have e3 : ((cv nd i 3).toNat : Int) = cv nd i 3 := by omega
  have e4 : ((cv nd i 4).toNat : Int) = cv nd i 4 := by omega
  have eh : (hold.toNat : Int) = hold := by omega
  have eT : (T.toNat : Int) = T := by omega
  exact (best_lin (q := ndV nd hold i T) (p := onP (cv nd i 3).toNat (cv nd i 4).toNat hold.toNat T.toNat) (onP_ok (by omega) (by omega) (by omega) (by omega) (by omega) (by omega)) (by show cv nd i 2 < cv nd i 1; omega) rfl rfl e3 e4 eh eT T.toNat 0 (cv nd i 3) (Int.le_refl _) (by show (T.toNat : Int) - 0 = _; omega) hb.1 (by show cv nd i 3 ≤ ((cv nd i 3).toNat : Int); omega)).2
theorem noiR_flat {gr hold T : Int} {nd : List (List Int)} {i : Nat} (hE : nodeE gr hold nd i T = 0) (hc : CluOk gr hold nd) (hi : i < nd.length) (hf : cv nd i 1 = cv nd i 2) : noiR gr hold nd i T = [] := by
  have hT := (ticksE_ok (nodeE_ok hE).1).2
  have hb := hc.bud i hi
  unfold noiR
  rw [if_pos hE, Int.toNat_natCast]
  exact (noi_flat (ndOk_of hc hi hT.1 (by omega)) hf T.toNat 0 (cv nd i 3) (Int.le_refl _) (by show T - 0 = _; omega) hb.1 (Int.le_refl _)).2

set_option maxRecDepth 100000 in
set_option maxHeartbeats 400000 in
theorem chkNode2_any (na : Option Addr) (n nc : Nat) (gr hold node T : Int) (nd : List (List Int)) (w : World) (hnd : StAt w 5 na n nd) :
  Calls Try.prog 59 #[.agg #[Vi gr, Vi hold, .slice na n nc], Vi node, Vi T] w fun e w' => e = .returned (Vi (nodeE gr hold nd node T)) ∧ Gr w w' := by
 have G := Gr.refl w
 have hnd0 := hnd
 have hlen := hnd.len
 have hlt := hnd.lt
 refine Y.calls 21 Try.func59 rfl rfl ?_
 intro ac F0
 have F : Fr ac 21 [(0, .agg #[Vi gr, Vi hold, .slice na n nc]), (1, Vi node), (2, Vi T)] := F0.sub _
 clear F0
 refine Y.seq ?_
 refine Y.lit (by kernel_rfl) ?_
 refine Y.pval F (X.w0 rfl) rfl (X.box rfl (F.e 0 rfl) X.bx) ?_
 clear F ac
 intro ac F
 have g := Gr.alloc w (.cells #[Vi gr, Vi hold, .slice na n nc] 24)
 have hb := heap_alloc_new w (.cells #[Vi gr, Vi hold, .slice na n nc] 24)
 have hbl : w.heap.size < (w.alloc (.cells #[Vi gr, Vi hold, .slice na n nc] 24)).heap.size := by simp
 have hC2 : RCells (w.alloc (.cells #[Vi gr, Vi hold, .slice na n nc] 24)) [(Ad w.heap.size 0, Vi gr), (Ad w.heap.size 1, Vi hold), (Ad w.heap.size 2, .slice na n nc)] := (RCells.nil w).box (b := w.heap.size) #[Vi gr, Vi hold, .slice na n nc] 24 rfl
 generalize w.alloc (.cells #[Vi gr, Vi hold, .slice na n nc] 24) = w3 at *
 replace G := G.trans g
 have hC := hC2
 clear hC2
 replace hnd := hnd.gr g
 clear g hb hbl
 refine Y.pval F (X.w0 rfl) rfl (X.assign rfl (X.kc (Vi 0) rfl)) ?_
 clear F ac
 intro ac F
 refine Y.nil ?_
 replace F : Fr ac 21 [(0, .agg #[Vi gr, Vi hold, .slice na n nc]), (1, Vi node), (2, Vi T), (3, Vp w.heap.size), (6, Vi 0)] := F.sub _
 refine X.thenN ?_
 refine Y.seq ?_
 refine Y.seq ?_
 refine Y.lit (by kernel_rfl) ?_
 refine Y.pval F (X.w0 rfl) rfl (X.load rfl (F.e 3 rfl) (X.ldN (Try.agg24 _) (Try.siz24 _) (Y.atz (⟨w.heap.size, 0, none⟩) (Y.AtFrom.cons (hC.at 0 rfl) (Y.AtFrom.cons (hC.at 1 rfl) (Y.AtFrom.cons (hC.at 2 rfl) (Y.AtFrom.nil _ _ _))))))) ?_
 clear F ac
 intro ac F
 refine Y.pval F (X.w0 rfl) rfl (X.move rfl (F.e 2 rfl)) ?_
 clear F ac
 intro ac F
 refine Y.pcall F (X.w0 rfl) rfl (X.enter (F := 52) rfl (X.kc (.func (.func 52) #[] #[]) rfl) (X.a2 (F.e 8 rfl) (F.e 9 rfl)) (enters_of Try.func52 (by kernel_rfl) rfl _)) (ticks2_any na n nc gr hold T nd w3 hnd) ?_
 clear F ac
 rintro e w4 ⟨rfl, g⟩
 refine ⟨_, rfl, ?_⟩
 intro ac F
 replace G := G.trans g
 replace hC := hC.gr g
 replace hnd := hnd.gr g
 clear g
 refine Y.pval F (X.w0 rfl) rfl (X.assign rfl (F.e 10 rfl)) ?_
 clear F ac
 intro ac F
 refine Y.nil ?_
 replace F : Fr ac 21 [(0, .agg #[Vi gr, Vi hold, .slice na n nc]), (1, Vi node), (2, Vi T), (3, Vp w.heap.size), (6, Vi 0), (7, Vi (ticksE gr hold nd T))] := F.sub _
 refine X.thenN ?_
 refine Y.seq ?_
 refine Y.lit (by kernel_rfl) ?_
 refine Y.pval F (X.w0 rfl) rfl (X.move rfl (F.e 7 rfl)) ?_
 clear F ac
 intro ac F
 refine Y.pval F (X.w0 rfl) rfl (X.binop rfl (F.e 11 rfl) (X.kc (Vi 0) rfl) (X.neqI Try.underlying26 rfl)) ?_
 clear F ac
 intro ac F
 refine Y.nil ?_
 replace F : Fr ac 21 [(0, .agg #[Vi gr, Vi hold, .slice na n nc]), (1, Vi node), (2, Vi T), (3, Vp w.heap.size), (6, Vi 0), (7, Vi (ticksE gr hold nd T)), (12, .bool ((ticksE gr hold nd T : Int) != 0))] := F.sub _
 refine X.thenN ?_
 cases h5 : ((ticksE gr hold nd T : Int) != 0) with
 | false =>
  try rw [h5] at F
  have h5p : (ticksE gr hold nd T : Int) = 0 := by simpa using h5
  have hE : ticksE gr hold nd T = 0 := by simpa using h5p
  refine Y.condF (F.e 12 rfl) ?_
  refine Y.skip ?_
  refine X.thenN ?_
  refine Y.seq ?_
  refine Y.seq ?_
  refine Y.lit (by kernel_rfl) ?_
  refine Y.pval F (X.w0 rfl) rfl (X.move rfl (F.e 1 rfl)) ?_
  clear F ac
  intro ac F
  refine Y.pval F (X.w0 rfl) rfl (X.field rfl (F.e 3 rfl) (X.fld Try.underlying24 rfl (Try.siz22 _) rfl rfl)) ?_
  clear F ac
  intro ac F
  refine Y.pval F (X.w0 rfl) rfl (X.load rfl (F.e 15 rfl) (X.ld1 (Try.agg22 _) (hC.at 2 rfl))) ?_
  clear F ac
  intro ac F
  refine Y.pval F (X.w0 rfl) rfl (X.len1 Try.underlying22 rfl (F.e 16 rfl)) ?_
  clear F ac
  intro ac F
  refine Y.pval F (X.w0 rfl) rfl (X.binop rfl (F.e 17 rfl) (X.kc (Vi 1) rfl) (X.subI Try.underlying3 rfl (by omega) (by omega))) ?_
  clear F ac
  intro ac F
  refine Y.pcall F (X.w0 rfl) rfl (X.enter (F := 42) rfl (X.kc (.func (.func 42) #[] #[]) rfl) (X.a3 (F.e 14 rfl) (X.kc (Vi 0) rfl) (F.e 18 rfl)) (enters_of Try.func42 (by kernel_rfl) rfl _)) (within2_any node 0 ((n : Int) - 1) w4) ?_
  clear F ac
  rintro e w' ⟨rfl, hw_⟩
  obtain rfl : w4 = w' := hw_.symm
  clear hw_
  refine ⟨_, rfl, ?_⟩
  intro ac F
  refine Y.pval F (X.w0 rfl) rfl (X.notB rfl (F.e 19 rfl) rfl) ?_
  clear F ac
  intro ac F
  refine Y.nil ?_
  replace F : Fr ac 21 [(0, .agg #[Vi gr, Vi hold, .slice na n nc]), (1, Vi node), (2, Vi T), (3, Vp w.heap.size), (6, Vi 0), (7, Vi (ticksE gr hold nd T)), (12, .bool false), (20, .bool (!(withinB node 0 ((n : Int) - 1))))] := F.sub _
  refine X.thenN ?_
  cases h6 : withinB node 0 ((n : Int) - 1) with
  | false =>
   try rw [h6] at F
   refine Y.condT (F.e 20 rfl) ?_
   refine Y.seq ?_
   refine Y.lit (by kernel_rfl) ?_
   refine Y.pval F (X.w0 rfl) rfl (X.assign rfl (X.kc (Vi 1) rfl)) ?_
   clear F ac
   intro ac F
   refine Y.nil ?_
   replace F : Fr ac 21 [(0, .agg #[Vi gr, Vi hold, .slice na n nc]), (1, Vi node), (2, Vi T), (3, Vp w.heap.size), (6, Vi 1), (7, Vi (ticksE gr hold nd T)), (12, .bool false), (20, .bool true)] := F.sub _
   refine X.thenN ?_
   refine Y.ret ?_
   refine X.thenR ?_
   exact Y.ret0 (v := Vi 1) F (Y.rs1 F rfl (by kernel_rfl)) ⟨by rw [nodeE, if_neg (fun h => h hE), hlen, h6]; rfl, G⟩
  | true =>
   try rw [h6] at F
   refine Y.condF (F.e 20 rfl) ?_
   refine Y.skip ?_
   refine X.thenN ?_
   refine Y.seq ?_
   refine Y.lit (by kernel_rfl) ?_
   refine Y.pval F (X.w0 rfl) rfl (X.assign rfl (X.kc (Vi 0) rfl)) ?_
   clear F ac
   intro ac F
   refine Y.nil ?_
   replace F : Fr ac 21 [(0, .agg #[Vi gr, Vi hold, .slice na n nc]), (1, Vi node), (2, Vi T), (3, Vp w.heap.size), (6, Vi 0), (7, Vi (ticksE gr hold nd T)), (12, .bool false), (20, .bool false)] := F.sub _
   refine X.thenN ?_
   refine Y.ret ?_
   exact Y.ret0 (v := Vi 0) F (Y.rs1 F rfl (by kernel_rfl)) ⟨by rw [nodeE, if_neg (fun h => h hE), hlen, h6]; rfl, G⟩
 | true =>
  try rw [h5] at F
  have h5p : ¬ (ticksE gr hold nd T : Int) = 0 := by simpa using h5
  have hE : ¬ ticksE gr hold nd T = 0 := by simpa using h5p
  refine Y.condT (F.e 12 rfl) ?_
  refine Y.seq ?_
  refine Y.lit (by kernel_rfl) ?_
  refine Y.pval F (X.w0 rfl) rfl (X.move rfl (F.e 7 rfl)) ?_
  clear F ac
  intro ac F
  refine Y.pval F (X.w0 rfl) rfl (X.assign rfl (F.e 13 rfl)) ?_
  clear F ac
  intro ac F
  refine Y.nil ?_
  replace F : Fr ac 21 [(0, .agg #[Vi gr, Vi hold, .slice na n nc]), (1, Vi node), (2, Vi T), (3, Vp w.heap.size), (6, Vi (ticksE gr hold nd T)), (7, Vi (ticksE gr hold nd T)), (12, .bool true)] := F.sub _
  refine X.thenN ?_
  refine Y.ret ?_
  refine X.thenR ?_
  exact Y.ret0 (v := Vi (ticksE gr hold nd T)) F (Y.rs1 F rfl (by kernel_rfl)) ⟨by rw [nodeE, if_pos hE], G⟩

set_option maxRecDepth 100000 in
set_option maxHeartbeats 1000000 in
theorem worst2r_any (na : Option Addr) (n nc : Nat) (gr hold T : Int) (i : Nat) (nd : List (List Int)) (w : World) (hnd : StAt w 5 na n nd) (hc : CluOk gr hold nd) (hi : i < n) (hT : 0 ≤ T ∧ T ≤ 1000) :
  Calls Try.prog 64 #[.agg #[Vi gr, Vi hold, .slice na n nc], Vi i, Vi T] w fun e w' => ∃ za zm zc, e = .returned (.agg #[Vi (bestV (onP (cv nd i 3).toNat (cv nd i 4).toNat hold.toNat T.toNat) 0 (cv nd i 3)).1, .slice za zm zc]) ∧ Ints w' za zm (noiV (onP (cv nd i 3).toNat (cv nd i 4).toNat hold.toNat T.toNat) 0 (cv nd i 3)) ∧ Gr w w' := by
 have G := Gr.refl w
 have hlen := hnd.len
 have hlt := hnd.lt
 have ha3 := hc.bud i (by omega)
 have e3 : cv nd i 3 = (((cv nd i 3).toNat : Nat) : Int) := by omega
 have ha4 := hc.ref i (by omega)
 have hh1 := hc.h1
 have hh2 := hc.h100
 have h16 := hc.n16
 refine Y.calls 24 Try.func64 rfl rfl ?_
 intro ac F0
 have F : Fr ac 24 [(0, .agg #[Vi gr, Vi hold, .slice na n nc]), (1, Vi i), (2, Vi T)] := F0.sub _
 clear F0
 refine Y.seq ?_
 refine Y.lit (by kernel_rfl) ?_
 refine Y.pval F (X.w0 rfl) rfl (X.box rfl (F.e 0 rfl) X.bx) ?_
 clear F ac
 intro ac F
 have hpb3 := G.size
 have g := Gr.alloc w (.cells #[Vi gr, Vi hold, .slice na n nc] 24)
 have hb := heap_alloc_new w (.cells #[Vi gr, Vi hold, .slice na n nc] 24)
 have hbl : w.heap.size < (w.alloc (.cells #[Vi gr, Vi hold, .slice na n nc] 24)).heap.size := by simp
 have hC2 : RCells (w.alloc (.cells #[Vi gr, Vi hold, .slice na n nc] 24)) [(Ad w.heap.size 0, Vi gr), (Ad w.heap.size 1, Vi hold), (Ad w.heap.size 2, .slice na n nc)] := (RCells.nil w).box (b := w.heap.size) #[Vi gr, Vi hold, .slice na n nc] 24 rfl
 generalize w.alloc (.cells #[Vi gr, Vi hold, .slice na n nc] 24) = w4 at *
 replace G := G.trans g
 have hC := hC2
 clear hC2
 replace hnd := hnd.gr g
 clear g hb hbl
 refine Y.pval F (X.w0 rfl) rfl (Y.al rfl (Try.new86 _)) ?_
 clear F ac
 intro ac F
 have hpb5 := G.size
 have g := Gr.alloc w4 (.cells #[Vi 0, .slice none 0 0] 86)
 have hb := heap_alloc_new w4 (.cells #[Vi 0, .slice none 0 0] 86)
 have hbl : w4.heap.size < (w4.alloc (.cells #[Vi 0, .slice none 0 0] 86)).heap.size := by simp
 generalize w4.alloc (.cells #[Vi 0, .slice none 0 0] 86) = w6 at *
 replace G := G.trans g
 replace hC := hC.gr g
 replace hnd := hnd.gr g
 have hV := ownP_2 hb
 clear g hb hbl
 refine Y.nil ?_
 replace F : Fr ac 24 [(0, .agg #[Vi gr, Vi hold, .slice na n nc]), (1, Vi i), (2, Vi T), (3, Vp w.heap.size), (6, Vp w4.heap.size)] := F.sub _
 refine X.thenN ?_
 refine Y.seq ?_
 refine Y.lit (by kernel_rfl) ?_
 refine Y.pval F (X.w0 rfl) rfl (X.field rfl (F.e 3 rfl) (X.fld Try.underlying24 rfl (Try.siz22 _) rfl rfl)) ?_
 clear F ac
 intro ac F
 refine Y.pval F (X.w0 rfl) rfl (X.load rfl (F.e 8 rfl) (X.ld1 (Try.agg22 _) (hC.at 2 rfl))) ?_
 clear F ac
 intro ac F
 refine Y.pval F (X.w0 rfl) rfl (X.move rfl (F.e 1 rfl)) ?_
 clear F ac
 intro ac F
 obtain ⟨pd7, pe7, -, -, pc7⟩ := hnd.at (j := i) (by omega)
 subst pe7
 replace hC : RCells w6 [(Ad w.heap.size 0, Vi gr), (Ad w.heap.size 1, Vi hold), (Ad w.heap.size 2, .slice (some pd7) n nc), (pd7.add (i * 5), Vi (cv nd i 0)), (⟨(pd7.add (i * 5)).block, (pd7.add (i * 5)).off + 1, none⟩, Vi (cv nd i 1)), (⟨(pd7.add (i * 5)).block, (pd7.add (i * 5)).off + 2, none⟩, Vi (cv nd i 2)), (⟨(pd7.add (i * 5)).block, (pd7.add (i * 5)).off + 3, none⟩, Vi (cv nd i 3)), (⟨(pd7.add (i * 5)).block, (pd7.add (i * 5)).off + 4, none⟩, Vi (cv nd i 4))] := hC.append ((RCells.cons (pc7 0 (by decide)) (RCells.cons (pc7 1 (by decide)) (RCells.cons (pc7 2 (by decide)) (RCells.cons (pc7 3 (by decide)) (RCells.cons (pc7 4 (by decide)) (RCells.nil _)))))))
 clear pc7
 refine Y.pval F (X.w0 rfl) rfl (X.index rfl (F.e 9 rfl) (F.e 10 rfl) (X.idx (k := i) Try.underlying22 (Try.siz31 _) (by omega) (by omega) rfl)) ?_
 clear F ac
 intro ac F
 refine Y.pval F (X.w0 rfl) rfl (X.load rfl (F.e 11 rfl) (X.ldN (Try.agg31 _) (Try.siz31 _) (Y.atz (pd7.add (i * 5)) (Y.AtFrom.cons (hC.at 3 rfl) (Y.AtFrom.cons (hC.at 4 rfl) (Y.AtFrom.cons (hC.at 5 rfl) (Y.AtFrom.cons (hC.at 6 rfl) (Y.AtFrom.cons (hC.at 7 rfl) (Y.AtFrom.nil _ _ _))))))))) ?_
 clear F ac
 intro ac F
 refine Y.pval F (X.w0 rfl) rfl (Y.al rfl (Try.new31 _)) ?_
 clear F ac
 intro ac F
 refine Y.punit F (X.w0 rfl) rfl (X.store rfl (F.e 7 rfl) (F.e 12 rfl) (Y.stNew [Vi (cv nd i 0), Vi (cv nd i 1), Vi (cv nd i 2), Vi (cv nd i 3), Vi (cv nd i 4)] [Vi 0, Vi 0, Vi 0, Vi 0, Vi 0] (Try.siz31 _) rfl rfl)) ?_
 clear F ac
 intro ac F
 have hpb8 := G.size
 have g := Gr.alloc w6 (.cells #[Vi (cv nd i 0), Vi (cv nd i 1), Vi (cv nd i 2), Vi (cv nd i 3), Vi (cv nd i 4)] 31)
 have hb := heap_alloc_new w6 (.cells #[Vi (cv nd i 0), Vi (cv nd i 1), Vi (cv nd i 2), Vi (cv nd i 3), Vi (cv nd i 4)] 31)
 have hbl : w6.heap.size < (w6.alloc (.cells #[Vi (cv nd i 0), Vi (cv nd i 1), Vi (cv nd i 2), Vi (cv nd i 3), Vi (cv nd i 4)] 31)).heap.size := by simp
 have hC2 : RCells (w6.alloc (.cells #[Vi (cv nd i 0), Vi (cv nd i 1), Vi (cv nd i 2), Vi (cv nd i 3), Vi (cv nd i 4)] 31)) [(Ad w.heap.size 0, Vi gr), (Ad w.heap.size 1, Vi hold), (Ad w.heap.size 2, .slice (some pd7) n nc), (pd7.add (i * 5), Vi (cv nd i 0)), (⟨(pd7.add (i * 5)).block, (pd7.add (i * 5)).off + 1, none⟩, Vi (cv nd i 1)), (⟨(pd7.add (i * 5)).block, (pd7.add (i * 5)).off + 2, none⟩, Vi (cv nd i 2)), (⟨(pd7.add (i * 5)).block, (pd7.add (i * 5)).off + 3, none⟩, Vi (cv nd i 3)), (⟨(pd7.add (i * 5)).block, (pd7.add (i * 5)).off + 4, none⟩, Vi (cv nd i 4)), (Ad w6.heap.size 0, Vi (cv nd i 0)), (Ad w6.heap.size 1, Vi (cv nd i 1)), (Ad w6.heap.size 2, Vi (cv nd i 2)), (Ad w6.heap.size 3, Vi (cv nd i 3)), (Ad w6.heap.size 4, Vi (cv nd i 4))] := hC.box (b := w6.heap.size) #[Vi (cv nd i 0), Vi (cv nd i 1), Vi (cv nd i 2), Vi (cv nd i 3), Vi (cv nd i 4)] 31 rfl
 generalize w6.alloc (.cells #[Vi (cv nd i 0), Vi (cv nd i 1), Vi (cv nd i 2), Vi (cv nd i 3), Vi (cv nd i 4)] 31) = w9 at *
 replace G := G.trans g
 replace hC := hC2
 clear hC2
 replace hnd := hnd.gr g
 replace hV := hV.gr g
 clear g hb hbl
 refine Y.nil ?_
 replace F : Fr ac 24 [(0, .agg #[Vi gr, Vi hold, .slice (some pd7) n nc]), (1, Vi i), (2, Vi T), (3, Vp w.heap.size), (6, Vp w4.heap.size), (7, Vp w6.heap.size)] := F.sub _
 refine X.thenN ?_
 refine Y.seq ?_
 have hvl : w4.heap.size < w9.heap.size := hV.lt
 have hG_ := G.size
 refine Y.regionS F [some (.agg #[Vi (cv nd i 0), Vi (cv nd i 1), Vi (cv nd i 2), Vi (cv nd i 3), Vi (cv nd i 4)]), some (.pointer (some ⟨w.heap.size, 1, none⟩)), some (Vi hold), some (Vi T), none, none, none, some (.pointer (some ⟨w6.heap.size, 3, none⟩)), some (Vi (cv nd i 3)), none, none, none] [(4, MP.tb w9.heap.size (onP (cv nd i 3).toNat (cv nd i 4).toNat hold.toNat T.toNat) T.toNat (cv nd i 3).toNat), (5, MP.tbp w9.heap.size (onP (cv nd i 3).toNat (cv nd i 4).toNat hold.toNat T.toNat) T.toNat (cv nd i 3).toNat), (6, MP.rw w9.heap.size (onP (cv nd i 3).toNat (cv nd i 4).toNat hold.toNat T.toNat) T.toNat (cv nd i 3).toNat), (9, MP.rwp w9.heap.size (onP (cv nd i 3).toNat (cv nd i 4).toNat hold.toNat T.toNat) T.toNat (cv nd i 3).toNat), (10, MP.wv w9.heap.size (onP (cv nd i 3).toNat (cv nd i 4).toNat hold.toNat T.toNat) (cv nd i 3))] 11 (fun _ W => ∃ za zm zc, Only (fun x => x = w4.heap.size) w9 W ∧ OwnP W (w4.heap.size) 2 (VL [Vi (bestV (onP (cv nd i 3).toNat (cv nd i 4).toNat hold.toNat T.toNat) 0 (cv nd i 3)).1, .slice za zm zc]) ∧ Ints W za zm (noiV (onP (cv nd i 3).toNat (cv nd i 4).toNat hold.toNat T.toNat) 0 (cv nd i 3))) rfl ⟨by kernel_rfl, of_decide_eq_true (by kernel_rfl), by kernel_rfl, by kernel_rfl, by kernel_rfl⟩ (of_decide_eq_true (by kernel_rfl)) ⟨?_, ?_, ?_, ?_, ?_, ?_, ?_, ?_, ?_, ?_, ?_, ?_, trivial⟩ ?_
 ·intro ac done u W Sx hT_
  have hs := Sx.no 11 (by kernel_rfl)
  have hR := hT_.1 hs
  have g : Gr w9 W := hR.1
  exact X.val (X.w0 rfl) rfl (X.load rfl (Sx.ev 7 (Vp w6.heap.size)) (X.ldN (Try.agg31 _) (Try.siz31 _) (Y.atz (⟨w6.heap.size, 0, none⟩) (Y.AtFrom.cons ((hC.gr g).at 8 rfl) (Y.AtFrom.cons ((hC.gr g).at 9 rfl) (Y.AtFrom.cons ((hC.gr g).at 10 rfl) (Y.AtFrom.cons ((hC.gr g).at 11 rfl) (Y.AtFrom.cons ((hC.gr g).at 12 rfl) (Y.AtFrom.nil _ _ _))))))))) (Y.RT.of hs rfl (hR.step (Gr.refl _) rfl))
 ·intro ac done u W Sx hT_
  have hs := Sx.no 11 (by kernel_rfl)
  have hR := hT_.1 hs
  exact X.val (X.w0 rfl) rfl (X.field rfl (Sx.ev 3 (Vp w.heap.size)) (X.fld Try.underlying24 rfl (Try.siz3 _) rfl rfl)) (Y.RT.of hs rfl (hR.step (Gr.refl _) rfl))
 ·intro ac done u W Sx hT_
  have hs := Sx.no 11 (by kernel_rfl)
  have hR := hT_.1 hs
  have g : Gr w9 W := hR.1
  exact X.val (X.w0 rfl) rfl (X.load rfl (Sx.ev 14 (.pointer (some ⟨w.heap.size, 1, none⟩))) (X.ld1 (Try.agg3 _) ((hC.gr g).at 1 rfl))) (Y.RT.of hs rfl (hR.step (Gr.refl _) rfl))
 ·intro ac done u W Sx hT_
  have hs := Sx.no 11 (by kernel_rfl)
  have hR := hT_.1 hs
  exact X.val (X.w0 rfl) rfl (X.move rfl (Sx.ev 2 (Vi T))) (Y.RT.of hs rfl (hR.step (Gr.refl _) rfl))
 ·intro ac done u W Sx hT_
  have hs := Sx.no 11 (by kernel_rfl)
  have hR := hT_.1 hs
  have g : Gr w9 W := hR.1
  refine X.call (X.w0 rfl) (X.enter (F := 78) rfl (X.kc (.func (.func 78) #[] #[]) rfl) (X.a3 (Sx.ev 13 (.agg #[Vi (cv nd i 0), Vi (cv nd i 1), Vi (cv nd i 2), Vi (cv nd i 3), Vi (cv nd i 4)])) (Sx.ev 15 (Vi hold)) (Sx.ev 16 (Vi T))) (enters_of Try.func78 (by kernel_rfl) rfl _)) (best2_mp w9.heap.size (cv nd i 0) (cv nd i 1) (cv nd i 2) (cv nd i 3) (cv nd i 4) hold T W (by omega) (by omega) (by omega) (by omega) (by omega) (by omega) (by omega) (by omega) g.size) ?_
  rintro e W2 ⟨v, rfl, hp, g2⟩
  exact ⟨_, rfl, X.un rfl, Y.RT.of hs rfl (hR.new (q := MP.tb w9.heap.size (onP (cv nd i 3).toNat (cv nd i 4).toNat hold.toNat T.toNat) T.toNat (cv nd i 3).toNat) g2 rfl hp)⟩
 ·intro ac done u W Sx hT_
  have hs := Sx.no 11 (by kernel_rfl)
  have hR := hT_.1 hs
  obtain ⟨tb14, e4, hq14⟩ := hR.get (i := 4) (MP.tb w9.heap.size (onP (cv nd i 3).toNat (cv nd i 4).toNat hold.toNat T.toNat) T.toNat (cv nd i 3).toNat) rfl (Sx.an 4 (by kernel_rfl))
  exact X.valN (X.w0 rfl) rfl (X.index rfl ((Sx.own 4 17 rfl).trans e4) (X.kc (Vi 0) rfl) (X.idx (k := 0) Try.underlying121 (Try.siz120 _) (by omega) (by omega) (addr_own _ _))) (Y.RT.of hs rfl (hR.new (q := MP.tbp w9.heap.size (onP (cv nd i 3).toNat (cv nd i 4).toNat hold.toNat T.toNat) T.toNat (cv nd i 3).toNat) (Gr.refl _) rfl ⟨_, rfl, hq14⟩))
 ·intro ac done u W Sx hT_
  have hs := Sx.no 11 (by kernel_rfl)
  have hR := hT_.1 hs
  obtain ⟨tp15, e5, hq15⟩ := hR.get (i := 5) (MP.tbp w9.heap.size (onP (cv nd i 3).toNat (cv nd i 4).toNat hold.toNat T.toNat) T.toNat (cv nd i 3).toNat) rfl (Sx.an 5 (by kernel_rfl))
  obtain ⟨rq, hrc, hrq⟩ := hq15.row
  exact X.valN (X.w0 rfl) rfl (X.load rfl ((Sx.own 5 18 rfl).trans e5) (X.ld1 (Try.agg120 _) hrc)) (Y.RT.of hs rfl (hR.new (q := MP.rw w9.heap.size (onP (cv nd i 3).toNat (cv nd i 4).toNat hold.toNat T.toNat) T.toNat (cv nd i 3).toNat) (Gr.refl _) rfl ⟨_, rfl, hrq⟩))
 ·intro ac done u W Sx hT_
  have hs := Sx.no 11 (by kernel_rfl)
  have hR := hT_.1 hs
  exact X.val (X.w0 rfl) rfl (X.field rfl (Sx.ev 7 (Vp w6.heap.size)) (X.fld Try.underlying31 rfl (Try.siz3 _) rfl rfl)) (Y.RT.of hs rfl (hR.step (Gr.refl _) rfl))
 ·intro ac done u W Sx hT_
  have hs := Sx.no 11 (by kernel_rfl)
  have hR := hT_.1 hs
  have g : Gr w9 W := hR.1
  exact X.val (X.w0 rfl) rfl (X.load rfl (Sx.ev 20 (.pointer (some ⟨w6.heap.size, 3, none⟩))) (X.ld1 (Try.agg3 _) ((hC.gr g).at 11 rfl))) (Y.RT.of hs rfl (hR.step (Gr.refl _) rfl))
 ·intro ac done u W Sx hT_
  have hs := Sx.no 11 (by kernel_rfl)
  have hR := hT_.1 hs
  obtain ⟨rb16, e6, hq16⟩ := hR.get (i := 6) (MP.rw w9.heap.size (onP (cv nd i 3).toNat (cv nd i 4).toNat hold.toNat T.toNat) T.toNat (cv nd i 3).toNat) rfl (Sx.an 6 (by kernel_rfl))
  exact X.valN (X.w0 rfl) rfl (X.index rfl ((Sx.own 6 19 rfl).trans e6) (Sx.ev 21 (Vi (cv nd i 3))) (X.idx (k := (cv nd i 3).toNat) Try.underlying120 (Try.siz86 _) (by omega) (by omega) (addr_add0 _ _))) (Y.RT.of hs rfl (hR.new (q := MP.rwp w9.heap.size (onP (cv nd i 3).toNat (cv nd i 4).toNat hold.toNat T.toNat) T.toNat (cv nd i 3).toNat) (Gr.refl _) rfl ⟨_, rfl, hq16⟩))
 ·intro ac done u W Sx hT_
  have hs := Sx.no 11 (by kernel_rfl)
  have hR := hT_.1 hs
  obtain ⟨rp19, e9, hq19⟩ := hR.get (i := 9) (MP.rwp w9.heap.size (onP (cv nd i 3).toNat (cv nd i 4).toNat hold.toNat T.toNat) T.toNat (cv nd i 3).toNat) rfl (Sx.an 9 (by kernel_rfl))
  obtain ⟨za, zc, hc0, hc1, hzb, hzi⟩ := hq19.at e3
  exact X.valN (X.w0 rfl) rfl (X.load rfl ((Sx.own 9 22 rfl).trans e9) (X.ldN (Try.agg86 _) (Try.siz86 _) (Y.atz _ (Y.AtFrom.cons hc0 (Y.AtFrom.cons hc1 (Y.AtFrom.nil _ _ _)))))) (Y.RT.of hs rfl (hR.new (q := MP.wv w9.heap.size (onP (cv nd i 3).toNat (cv nd i 4).toNat hold.toNat T.toNat) (cv nd i 3)) (Gr.refl _) rfl ⟨_, _, _, rfl, hzb, hzi⟩))
 ·intro ac done u W Sx hT_
  have hR := hT_.1 Sx.nd
  have g : Gr w9 W := hR.1
  obtain ⟨za20, zm20, zc20, e10, hz20⟩ := hR.get (i := 10) (MP.wv w9.heap.size (onP (cv nd i 3).toNat (cv nd i 4).toNat hold.toNat T.toNat) (cv nd i 3)) rfl (Sx.an 10 (by kernel_rfl))
  obtain ⟨W2, hrun, hS2, hon⟩ := (hV.gr g).st2 (P := Try.prog) (t := 86) (x := Vi (bestV (onP (cv nd i 3).toNat (cv nd i 4).toNat hold.toNat T.toNat) 0 (cv nd i 3)).1) (y := .slice za20 zm20 zc20) (fun W => Try.siz86 W) rfl rfl
  exact X.unit (X.w0 rfl) rfl (X.store rfl (Sx.ev 6 (Vp w4.heap.size)) ((Sx.own 10 23 rfl).trans e10) hrun) (Y.RT.fin ⟨_, _, _, (g.only _).trans hon, hS2, hz20.2.onlyAt hon (fun ad e h => by have h8 := hz20.1 ad e; omega)⟩)
 rintro ac u w21 hs hd hl_ ho ⟨za, zm, zc, hon, hV2, hz⟩
 replace F : Fr ac 24 [(0, .agg #[Vi gr, Vi hold, .slice (some pd7) n nc]), (1, Vi i), (2, Vi T), (3, Vp w.heap.size), (6, Vp w4.heap.size), (7, Vp w6.heap.size)] := X.fr hs hd hl_ _ (by kernel_rfl)
 replace G := Y.Only.up G hon (by omega)
 clear hs hd hl_ ho
 refine X.thenN ?_
 refine Y.ret ?_
 exact Y.ret0 (v := .agg #[Vi (bestV (onP (cv nd i 3).toNat (cv nd i 4).toNat hold.toNat T.toNat) 0 (cv nd i 3)).1, .slice za zm zc]) F (Y.rc1 F rfl (Try.agg86 _) (Try.siz86 _) (by kernel_rfl) hV2) ⟨_, _, _, rfl, hz, G⟩

set_option maxRecDepth 100000 in
set_option maxHeartbeats 400000 in
theorem Worst2_any (na : Option Addr) (n nc : Nat) (gr hold node T : Int) (nd : List (List Int)) (w : World) (hnd : StAt w 5 na n nd) :
  Calls Try.prog 32 #[.agg #[Vi gr, Vi hold, .slice na n nc], Vi node, Vi T] w fun e w' => e = .returned (.tuple #[Vi (worstV gr hold nd node T), Vi (nodeE gr hold nd node T)]) ∧ Gr w w' := by
 have G := Gr.refl w
 have hnd0 := hnd
 have hlen := hnd.len
 have hlt := hnd.lt
 refine Y.calls 20 Try.func32 rfl rfl ?_
 intro ac F0
 have F : Fr ac 20 [(0, .agg #[Vi gr, Vi hold, .slice na n nc]), (1, Vi node), (2, Vi T)] := F0.sub _
 clear F0
 refine Y.seq ?_
 refine Y.lit (by kernel_rfl) ?_
 refine Y.pval F (X.w0 rfl) rfl (X.box rfl (F.e 0 rfl) X.bx) ?_
 clear F ac
 intro ac F
 have g := Gr.alloc w (.cells #[Vi gr, Vi hold, .slice na n nc] 24)
 have hb := heap_alloc_new w (.cells #[Vi gr, Vi hold, .slice na n nc] 24)
 have hbl : w.heap.size < (w.alloc (.cells #[Vi gr, Vi hold, .slice na n nc] 24)).heap.size := by simp
 have hC2 : RCells (w.alloc (.cells #[Vi gr, Vi hold, .slice na n nc] 24)) [(Ad w.heap.size 0, Vi gr), (Ad w.heap.size 1, Vi hold), (Ad w.heap.size 2, .slice na n nc)] := (RCells.nil w).box (b := w.heap.size) #[Vi gr, Vi hold, .slice na n nc] 24 rfl
 generalize w.alloc (.cells #[Vi gr, Vi hold, .slice na n nc] 24) = w3 at *
 replace G := G.trans g
 have hC := hC2
 clear hC2
 replace hnd := hnd.gr g
 clear g hb hbl
 refine Y.pval F (X.w0 rfl) rfl (X.assign rfl (X.kc (Vi 0) rfl)) ?_
 clear F ac
 intro ac F
 refine Y.pval F (X.w0 rfl) rfl (X.assign rfl (X.kc (Vi 0) rfl)) ?_
 clear F ac
 intro ac F
 refine Y.nil ?_
 replace F : Fr ac 20 [(0, .agg #[Vi gr, Vi hold, .slice na n nc]), (1, Vi node), (2, Vi T), (3, Vp w.heap.size), (6, Vi 0), (7, Vi 0)] := F.sub _
 refine X.thenN ?_
 refine Y.seq ?_
 refine Y.seq ?_
 refine Y.lit (by kernel_rfl) ?_
 refine Y.pval F (X.w0 rfl) rfl (X.load rfl (F.e 3 rfl) (X.ldN (Try.agg24 _) (Try.siz24 _) (Y.atz (⟨w.heap.size, 0, none⟩) (Y.AtFrom.cons (hC.at 0 rfl) (Y.AtFrom.cons (hC.at 1 rfl) (Y.AtFrom.cons (hC.at 2 rfl) (Y.AtFrom.nil _ _ _))))))) ?_
 clear F ac
 intro ac F
 refine Y.pval F (X.w0 rfl) rfl (X.move rfl (F.e 1 rfl)) ?_
 clear F ac
 intro ac F
 refine Y.pval F (X.w0 rfl) rfl (X.move rfl (F.e 2 rfl)) ?_
 clear F ac
 intro ac F
 refine Y.pcall F (X.w0 rfl) rfl (X.enter (F := 59) rfl (X.kc (.func (.func 59) #[] #[]) rfl) (X.a3 (F.e 9 rfl) (F.e 10 rfl) (F.e 11 rfl)) (enters_of Try.func59 (by kernel_rfl) rfl _)) (chkNode2_any na n nc gr hold node T nd w3 hnd) ?_
 clear F ac
 rintro e w4 ⟨rfl, g⟩
 refine ⟨_, rfl, ?_⟩
 intro ac F
 replace G := G.trans g
 replace hC := hC.gr g
 replace hnd := hnd.gr g
 clear g
 refine Y.pval F (X.w0 rfl) rfl (X.assign rfl (F.e 12 rfl)) ?_
 clear F ac
 intro ac F
 refine Y.nil ?_
 replace F : Fr ac 20 [(0, .agg #[Vi gr, Vi hold, .slice na n nc]), (1, Vi node), (2, Vi T), (3, Vp w.heap.size), (6, Vi 0), (7, Vi 0), (8, Vi (nodeE gr hold nd node T))] := F.sub _
 refine X.thenN ?_
 refine Y.seq ?_
 refine Y.lit (by kernel_rfl) ?_
 refine Y.pval F (X.w0 rfl) rfl (X.move rfl (F.e 8 rfl)) ?_
 clear F ac
 intro ac F
 refine Y.pval F (X.w0 rfl) rfl (X.binop rfl (F.e 13 rfl) (X.kc (Vi 0) rfl) (X.neqI Try.underlying26 rfl)) ?_
 clear F ac
 intro ac F
 refine Y.nil ?_
 replace F : Fr ac 20 [(0, .agg #[Vi gr, Vi hold, .slice na n nc]), (1, Vi node), (2, Vi T), (3, Vp w.heap.size), (6, Vi 0), (7, Vi 0), (8, Vi (nodeE gr hold nd node T)), (14, .bool ((nodeE gr hold nd node T : Int) != 0))] := F.sub _
 refine X.thenN ?_
 cases h5 : ((nodeE gr hold nd node T : Int) != 0) with
 | false =>
  try rw [h5] at F
  have h5p : (nodeE gr hold nd node T : Int) = 0 := by simpa using h5
  have hE : nodeE gr hold nd node T = 0 := by simpa using h5p
  have hno_ := nodeE_ok hE
  have hc := (ticksE_ok hno_.1).1
  have hT := (ticksE_ok hno_.1).2
  obtain ⟨i, rfl⟩ : ∃ i : Nat, node = i := ⟨node.toNat, by omega⟩
  have hin : i < n := by omega
  refine Y.condF (F.e 14 rfl) ?_
  refine Y.skip ?_
  refine X.thenN ?_
  refine Y.seq ?_
  refine Y.lit (by kernel_rfl) ?_
  refine Y.pval F (X.w0 rfl) rfl (X.load rfl (F.e 3 rfl) (X.ldN (Try.agg24 _) (Try.siz24 _) (Y.atz (⟨w.heap.size, 0, none⟩) (Y.AtFrom.cons (hC.at 0 rfl) (Y.AtFrom.cons (hC.at 1 rfl) (Y.AtFrom.cons (hC.at 2 rfl) (Y.AtFrom.nil _ _ _))))))) ?_
  clear F ac
  intro ac F
  refine Y.pval F (X.w0 rfl) rfl (X.move rfl (F.e 1 rfl)) ?_
  clear F ac
  intro ac F
  refine Y.pval F (X.w0 rfl) rfl (X.move rfl (F.e 2 rfl)) ?_
  clear F ac
  intro ac F
  refine Y.pcall F (X.w0 rfl) rfl (X.enter (F := 60) rfl (X.kc (.func (.func 60) #[] #[]) rfl) (X.a3 (F.e 16 rfl) (F.e 17 rfl) (F.e 18 rfl)) (enters_of Try.func60 (by kernel_rfl) rfl _)) (energy_any na n nc gr hold T i nd w4 hnd hc hin hT) ?_
  clear F ac
  rintro e w6 ⟨rfl, g⟩
  refine ⟨_, rfl, ?_⟩
  intro ac F
  replace G := G.trans g
  replace hC := hC.gr g
  replace hnd := hnd.gr g
  clear g
  refine Y.pval F (X.w0 rfl) rfl (X.assign rfl (F.e 19 rfl)) ?_
  clear F ac
  intro ac F
  refine Y.pval F (X.w0 rfl) rfl (X.assign rfl (X.kc (Vi 0) rfl)) ?_
  clear F ac
  intro ac F
  refine Y.nil ?_
  replace F : Fr ac 20 [(0, .agg #[Vi gr, Vi hold, .slice na n nc]), (1, Vi i), (2, Vi T), (3, Vp w.heap.size), (6, Vi (enrV nd hold i T)), (7, Vi 0), (8, Vi (nodeE gr hold nd i T)), (14, .bool false)] := F.sub _
  refine X.thenN ?_
  refine Y.ret ?_
  exact Y.ret0 (v := .tuple #[Vi (enrV nd hold i T), Vi 0]) F (Y.rs2 F rfl (by kernel_rfl) (by kernel_rfl)) ⟨by rw [hE, worstV, if_pos hE, Int.toNat_natCast, best_enr hc (by omega) hT.1 hT.2], G⟩
 | true =>
  try rw [h5] at F
  have h5p : ¬ (nodeE gr hold nd node T : Int) = 0 := by simpa using h5
  have hE : ¬ nodeE gr hold nd node T = 0 := by simpa using h5p
  refine Y.condT (F.e 14 rfl) ?_
  refine Y.seq ?_
  refine Y.lit (by kernel_rfl) ?_
  refine Y.pval F (X.w0 rfl) rfl (X.move rfl (F.e 8 rfl)) ?_
  clear F ac
  intro ac F
  refine Y.pval F (X.w0 rfl) rfl (X.assign rfl (X.kc (Vi 0) rfl)) ?_
  clear F ac
  intro ac F
  refine Y.pval F (X.w0 rfl) rfl (X.assign rfl (F.e 15 rfl)) ?_
  clear F ac
  intro ac F
  refine Y.nil ?_
  replace F : Fr ac 20 [(0, .agg #[Vi gr, Vi hold, .slice na n nc]), (1, Vi node), (2, Vi T), (3, Vp w.heap.size), (6, Vi 0), (7, Vi (nodeE gr hold nd node T)), (8, Vi (nodeE gr hold nd node T)), (14, .bool true)] := F.sub _
  refine X.thenN ?_
  refine Y.ret ?_
  refine X.thenR ?_
  exact Y.ret0 (v := .tuple #[Vi 0, Vi (nodeE gr hold nd node T)]) F (Y.rs2 F rfl (by kernel_rfl) (by kernel_rfl)) ⟨by rw [worstV, if_neg hE], G⟩

set_option maxRecDepth 100000 in
set_option maxHeartbeats 1000000 in
theorem noises2_any (na : Option Addr) (n nc : Nat) (gr hold node T : Int) (nd : List (List Int)) (w : World) (hnd : StAt w 5 na n nd) :
  Calls Try.prog 34 #[.agg #[Vi gr, Vi hold, .slice na n nc], Vi node, Vi T] w fun e w' => ∃ a m c, e = .returned (.tuple #[.slice a m c, Vi (nodeE gr hold nd node T)]) ∧ Ints w' a m (noiR gr hold nd node T) ∧ Gr w w' := by
 have G := Gr.refl w
 have hnd0 := hnd
 have hlen := hnd.len
 have hlt := hnd.lt
 refine Y.calls 34 Try.func34 rfl rfl ?_
 intro ac F0
 have F : Fr ac 34 [(0, .agg #[Vi gr, Vi hold, .slice na n nc]), (1, Vi node), (2, Vi T)] := F0.sub _
 clear F0
 refine Y.seq ?_
 refine Y.lit (by kernel_rfl) ?_
 refine Y.pval F (X.w0 rfl) rfl (X.box rfl (F.e 0 rfl) X.bx) ?_
 clear F ac
 intro ac F
 have g := Gr.alloc w (.cells #[Vi gr, Vi hold, .slice na n nc] 24)
 have hb := heap_alloc_new w (.cells #[Vi gr, Vi hold, .slice na n nc] 24)
 have hbl : w.heap.size < (w.alloc (.cells #[Vi gr, Vi hold, .slice na n nc] 24)).heap.size := by simp
 have hC2 : RCells (w.alloc (.cells #[Vi gr, Vi hold, .slice na n nc] 24)) [(Ad w.heap.size 0, Vi gr), (Ad w.heap.size 1, Vi hold), (Ad w.heap.size 2, .slice na n nc)] := (RCells.nil w).box (b := w.heap.size) #[Vi gr, Vi hold, .slice na n nc] 24 rfl
 generalize w.alloc (.cells #[Vi gr, Vi hold, .slice na n nc] 24) = w3 at *
 replace G := G.trans g
 have hC := hC2
 clear hC2
 replace hnd := hnd.gr g
 clear g hb hbl
 refine Y.pval F (X.w0 rfl) rfl (X.assign rfl (X.kc (.slice none 0 0) rfl)) ?_
 clear F ac
 intro ac F
 refine Y.pval F (X.w0 rfl) rfl (X.assign rfl (X.kc (Vi 0) rfl)) ?_
 clear F ac
 intro ac F
 refine Y.nil ?_
 replace F : Fr ac 34 [(0, .agg #[Vi gr, Vi hold, .slice na n nc]), (1, Vi node), (2, Vi T), (3, Vp w.heap.size), (6, .slice none 0 0), (7, Vi 0)] := F.sub _
 refine X.thenN ?_
 refine Y.seq ?_
 refine Y.seq ?_
 refine Y.lit (by kernel_rfl) ?_
 refine Y.pval F (X.w0 rfl) rfl (X.load rfl (F.e 3 rfl) (X.ldN (Try.agg24 _) (Try.siz24 _) (Y.atz (⟨w.heap.size, 0, none⟩) (Y.AtFrom.cons (hC.at 0 rfl) (Y.AtFrom.cons (hC.at 1 rfl) (Y.AtFrom.cons (hC.at 2 rfl) (Y.AtFrom.nil _ _ _))))))) ?_
 clear F ac
 intro ac F
 refine Y.pval F (X.w0 rfl) rfl (X.move rfl (F.e 1 rfl)) ?_
 clear F ac
 intro ac F
 refine Y.pval F (X.w0 rfl) rfl (X.move rfl (F.e 2 rfl)) ?_
 clear F ac
 intro ac F
 refine Y.pcall F (X.w0 rfl) rfl (X.enter (F := 59) rfl (X.kc (.func (.func 59) #[] #[]) rfl) (X.a3 (F.e 9 rfl) (F.e 10 rfl) (F.e 11 rfl)) (enters_of Try.func59 (by kernel_rfl) rfl _)) (chkNode2_any na n nc gr hold node T nd w3 hnd) ?_
 clear F ac
 rintro e w4 ⟨rfl, g⟩
 refine ⟨_, rfl, ?_⟩
 intro ac F
 replace G := G.trans g
 replace hC := hC.gr g
 replace hnd := hnd.gr g
 clear g
 refine Y.pval F (X.w0 rfl) rfl (X.assign rfl (F.e 12 rfl)) ?_
 clear F ac
 intro ac F
 refine Y.nil ?_
 replace F : Fr ac 34 [(0, .agg #[Vi gr, Vi hold, .slice na n nc]), (1, Vi node), (2, Vi T), (3, Vp w.heap.size), (6, .slice none 0 0), (7, Vi 0), (8, Vi (nodeE gr hold nd node T))] := F.sub _
 refine X.thenN ?_
 refine Y.seq ?_
 refine Y.lit (by kernel_rfl) ?_
 refine Y.pval F (X.w0 rfl) rfl (X.move rfl (F.e 8 rfl)) ?_
 clear F ac
 intro ac F
 refine Y.pval F (X.w0 rfl) rfl (X.binop rfl (F.e 13 rfl) (X.kc (Vi 0) rfl) (X.neqI Try.underlying26 rfl)) ?_
 clear F ac
 intro ac F
 refine Y.nil ?_
 replace F : Fr ac 34 [(0, .agg #[Vi gr, Vi hold, .slice na n nc]), (1, Vi node), (2, Vi T), (3, Vp w.heap.size), (6, .slice none 0 0), (7, Vi 0), (8, Vi (nodeE gr hold nd node T)), (14, .bool ((nodeE gr hold nd node T : Int) != 0))] := F.sub _
 refine X.thenN ?_
 cases h5 : ((nodeE gr hold nd node T : Int) != 0) with
 | false =>
  try rw [h5] at F
  have h5p : (nodeE gr hold nd node T : Int) = 0 := by simpa using h5
  have hE : nodeE gr hold nd node T = 0 := by simpa using h5p
  have hno_ := nodeE_ok hE
  have hc := (ticksE_ok hno_.1).1
  have hT := (ticksE_ok hno_.1).2
  obtain ⟨i, rfl⟩ : ∃ i : Nat, node = i := ⟨node.toNat, by omega⟩
  have hin : i < n := by omega
  refine Y.condF (F.e 14 rfl) ?_
  refine Y.skip ?_
  refine X.thenN ?_
  refine Y.seq ?_
  refine Y.seq ?_
  obtain ⟨pd6, pe6, -, -, pc6⟩ := hnd.at (j := i) (by omega)
  subst pe6
  replace hC : RCells w4 [(Ad w.heap.size 0, Vi gr), (Ad w.heap.size 1, Vi hold), (Ad w.heap.size 2, .slice (some pd6) n nc), (pd6.add (i * 5), Vi (cv nd i 0)), (⟨(pd6.add (i * 5)).block, (pd6.add (i * 5)).off + 1, none⟩, Vi (cv nd i 1)), (⟨(pd6.add (i * 5)).block, (pd6.add (i * 5)).off + 2, none⟩, Vi (cv nd i 2)), (⟨(pd6.add (i * 5)).block, (pd6.add (i * 5)).off + 3, none⟩, Vi (cv nd i 3)), (⟨(pd6.add (i * 5)).block, (pd6.add (i * 5)).off + 4, none⟩, Vi (cv nd i 4))] := hC.append ((RCells.cons (pc6 0 (by decide)) (RCells.cons (pc6 1 (by decide)) (RCells.cons (pc6 2 (by decide)) (RCells.cons (pc6 3 (by decide)) (RCells.cons (pc6 4 (by decide)) (RCells.nil _)))))))
  clear pc6
  refine Y.region F [some (.pointer (some ⟨w.heap.size, 2, none⟩)), some (.slice (some pd6) n nc), some (Vi i), some (.pointer (some (pd6.add (i * 5)))), some (.pointer (some (⟨(pd6.add (i * 5)).block, (pd6.add (i * 5)).off + 1, none⟩))), some (Vi (cv nd i 1)), some (.pointer (some ⟨w.heap.size, 2, none⟩)), some (.slice (some pd6) n nc), some (Vi i), some (.pointer (some (pd6.add (i * 5)))), some (.pointer (some (⟨(pd6.add (i * 5)).block, (pd6.add (i * 5)).off + 2, none⟩))), some (Vi (cv nd i 2)), some (.bool ((cv nd i 1 : Int) == (cv nd i 2)))] [] rfl ⟨by kernel_rfl, of_decide_eq_true (by kernel_rfl), by kernel_rfl, by kernel_rfl, by kernel_rfl⟩ ⟨?_, ?_, ?_, ?_, ?_, ?_, ?_, ?_, ?_, ?_, ?_, ?_, ?_, trivial⟩ ?_
  ·intro ac done u W Sx hR
   exact X.val (X.w0 rfl) rfl (X.field rfl (Sx.ev 3 (Vp w.heap.size)) (X.fld Try.underlying24 rfl (Try.siz22 _) rfl rfl)) (hR.step (Gr.refl _) rfl)
  ·intro ac done u W Sx hR
   have g : Gr w4 W := hR.1
   exact X.val (X.w0 rfl) rfl (X.load rfl (Sx.ev 16 (.pointer (some ⟨w.heap.size, 2, none⟩))) (X.ld1 (Try.agg22 _) ((hC.gr g).at 2 rfl))) (hR.step (Gr.refl _) rfl)
  ·intro ac done u W Sx hR
   exact X.val (X.w0 rfl) rfl (X.move rfl (Sx.ev 1 (Vi i))) (hR.step (Gr.refl _) rfl)
  ·intro ac done u W Sx hR
   exact X.val (X.w0 rfl) rfl (X.index rfl (Sx.ev 17 (.slice (some pd6) n nc)) (Sx.ev 18 (Vi i)) (X.idx (k := i) Try.underlying22 (Try.siz31 _) (by omega) (by omega) rfl)) (hR.step (Gr.refl _) rfl)
  ·intro ac done u W Sx hR
   exact X.val (X.w0 rfl) rfl (X.field rfl (Sx.ev 19 (.pointer (some (pd6.add (i * 5))))) (X.fld Try.underlying31 rfl (Try.siz3 _) rfl rfl)) (hR.step (Gr.refl _) rfl)
  ·intro ac done u W Sx hR
   have g : Gr w4 W := hR.1
   exact X.val (X.w0 rfl) rfl (X.load rfl (Sx.ev 20 (.pointer (some (⟨(pd6.add (i * 5)).block, (pd6.add (i * 5)).off + 1, none⟩)))) (X.ld1 (Try.agg3 _) ((hC.gr g).at 4 rfl))) (hR.step (Gr.refl _) rfl)
  ·intro ac done u W Sx hR
   exact X.val (X.w0 rfl) rfl (X.field rfl (Sx.ev 3 (Vp w.heap.size)) (X.fld Try.underlying24 rfl (Try.siz22 _) rfl rfl)) (hR.step (Gr.refl _) rfl)
  ·intro ac done u W Sx hR
   have g : Gr w4 W := hR.1
   exact X.val (X.w0 rfl) rfl (X.load rfl (Sx.ev 22 (.pointer (some ⟨w.heap.size, 2, none⟩))) (X.ld1 (Try.agg22 _) ((hC.gr g).at 2 rfl))) (hR.step (Gr.refl _) rfl)
  ·intro ac done u W Sx hR
   exact X.val (X.w0 rfl) rfl (X.move rfl (Sx.ev 1 (Vi i))) (hR.step (Gr.refl _) rfl)
  ·intro ac done u W Sx hR
   exact X.val (X.w0 rfl) rfl (X.index rfl (Sx.ev 23 (.slice (some pd6) n nc)) (Sx.ev 24 (Vi i)) (X.idx (k := i) Try.underlying22 (Try.siz31 _) (by omega) (by omega) rfl)) (hR.step (Gr.refl _) rfl)
  ·intro ac done u W Sx hR
   exact X.val (X.w0 rfl) rfl (X.field rfl (Sx.ev 25 (.pointer (some (pd6.add (i * 5))))) (X.fld Try.underlying31 rfl (Try.siz3 _) rfl rfl)) (hR.step (Gr.refl _) rfl)
  ·intro ac done u W Sx hR
   have g : Gr w4 W := hR.1
   exact X.val (X.w0 rfl) rfl (X.load rfl (Sx.ev 26 (.pointer (some (⟨(pd6.add (i * 5)).block, (pd6.add (i * 5)).off + 2, none⟩)))) (X.ld1 (Try.agg3 _) ((hC.gr g).at 5 rfl))) (hR.step (Gr.refl _) rfl)
  ·intro ac done u W Sx hR
   exact X.val (X.w0 rfl) rfl (X.binop rfl (Sx.ev 21 (Vi (cv nd i 1))) (Sx.ev 27 (Vi (cv nd i 2))) (X.eqlI Try.underlying3 rfl)) (hR.step (Gr.refl _) rfl)
  intro ac u w7 hs hd hl ho hR
  have g : Gr w4 w7 := hR.1
  replace F : Fr ac 34 [(0, .agg #[Vi gr, Vi hold, .slice (some pd6) n nc]), (1, Vi i), (2, Vi T), (3, Vp w.heap.size), (6, .slice none 0 0), (7, Vi 0), (8, Vi (nodeE gr hold nd i T)), (14, .bool false), (28, .bool ((cv nd i 1 : Int) == (cv nd i 2)))] := X.fr hs hd hl _ (by kernel_rfl)
  clear hs hd hl ho hR
  replace G := G.trans g
  replace hC := hC.gr g
  replace hnd := hnd.gr g
  clear g
  refine X.thenN ?_
  cases h8 : ((cv nd i 1 : Int) == (cv nd i 2)) with
  | false =>
   try rw [h8] at F
   have h8p : ¬ (cv nd i 1 : Int) = (cv nd i 2) := by simpa using h8
   have hfl : ¬ cv nd i 1 = cv nd i 2 := by simpa using h8p
   refine Y.condF (F.e 28 rfl) ?_
   refine Y.skip ?_
   refine X.thenN ?_
   refine Y.seq ?_
   refine Y.lit (by kernel_rfl) ?_
   refine Y.pval F (X.w0 rfl) rfl (X.load rfl (F.e 3 rfl) (X.ldN (Try.agg24 _) (Try.siz24 _) (Y.atz (⟨w.heap.size, 0, none⟩) (Y.AtFrom.cons (hC.at 0 rfl) (Y.AtFrom.cons (hC.at 1 rfl) (Y.AtFrom.cons (hC.at 2 rfl) (Y.AtFrom.nil _ _ _))))))) ?_
   clear F ac
   intro ac F
   refine Y.pval F (X.w0 rfl) rfl (X.move rfl (F.e 1 rfl)) ?_
   clear F ac
   intro ac F
   refine Y.pval F (X.w0 rfl) rfl (X.move rfl (F.e 2 rfl)) ?_
   clear F ac
   intro ac F
   refine Y.pcall F (X.w0 rfl) rfl (X.enter (F := 64) rfl (X.kc (.func (.func 64) #[] #[]) rfl) (X.a3 (F.e 29 rfl) (F.e 30 rfl) (F.e 31 rfl)) (enters_of Try.func64 (by kernel_rfl) rfl _)) (worst2r_any (some pd6) n nc gr hold T i nd w7 hnd hc hin hT) ?_
   clear F ac
   rintro e w9 ⟨za, zm, zc, rfl, hz, g⟩
   refine ⟨_, rfl, ?_⟩
   intro ac F
   replace G := G.trans g
   replace hC := hC.gr g
   replace hnd := hnd.gr g
   clear g
   refine Y.pval F (X.w0 rfl) rfl (Y.fldv (vs := [Vi ((bestV (onP (cv nd i 3).toNat (cv nd i 4).toNat hold.toNat T.toNat) 0 (cv nd i 3)).1), .slice za zm zc]) rfl (F.e 32 rfl) Try.underlying86 rfl (Try.agg34 _) rfl) ?_
   clear F ac
   intro ac F
   refine Y.pval F (X.w0 rfl) rfl (X.assign rfl (F.e 33 rfl)) ?_
   clear F ac
   intro ac F
   refine Y.pval F (X.w0 rfl) rfl (X.assign rfl (X.kc (Vi 0) rfl)) ?_
   clear F ac
   intro ac F
   refine Y.nil ?_
   replace F : Fr ac 34 [(0, .agg #[Vi gr, Vi hold, .slice (some pd6) n nc]), (1, Vi i), (2, Vi T), (3, Vp w.heap.size), (6, .slice za zm zc), (7, Vi 0), (8, Vi (nodeE gr hold nd i T)), (14, .bool false), (28, .bool false)] := F.sub _
   refine X.thenN ?_
   refine Y.ret ?_
   exact Y.ret0 (v := .tuple #[.slice za zm zc, Vi 0]) F (Y.rs2 F rfl (by kernel_rfl) (by kernel_rfl)) ⟨za, zm, zc, by rw [hE], by rw [noiR_lin hE hc (by omega) hfl]; exact hz, G⟩
  | true =>
   try rw [h8] at F
   have h8p : (cv nd i 1 : Int) = (cv nd i 2) := by simpa using h8
   have hfl : cv nd i 1 = cv nd i 2 := by simpa using h8p
   refine Y.condT (F.e 28 rfl) ?_
   refine Y.seq ?_
   refine Y.lit (by kernel_rfl) ?_
   refine Y.pval F (X.w0 rfl) rfl (X.assign rfl (X.kc (.slice none 0 0) rfl)) ?_
   clear F ac
   intro ac F
   refine Y.pval F (X.w0 rfl) rfl (X.assign rfl (X.kc (Vi 0) rfl)) ?_
   clear F ac
   intro ac F
   refine Y.nil ?_
   replace F : Fr ac 34 [(0, .agg #[Vi gr, Vi hold, .slice (some pd6) n nc]), (1, Vi i), (2, Vi T), (3, Vp w.heap.size), (6, .slice none 0 0), (7, Vi 0), (8, Vi (nodeE gr hold nd i T)), (14, .bool false), (28, .bool true)] := F.sub _
   refine X.thenN ?_
   refine Y.ret ?_
   refine X.thenR ?_
   exact Y.ret0 (v := .tuple #[.slice none 0 0, Vi 0]) F (Y.rs2 F rfl (by kernel_rfl) (by kernel_rfl)) ⟨none, 0, 0, by rw [hE], by rw [noiR_flat hE hc (by omega) hfl]; exact Ints.nil _, G⟩
 | true =>
  try rw [h5] at F
  have h5p : ¬ (nodeE gr hold nd node T : Int) = 0 := by simpa using h5
  have hE : ¬ nodeE gr hold nd node T = 0 := by simpa using h5p
  refine Y.condT (F.e 14 rfl) ?_
  refine Y.seq ?_
  refine Y.lit (by kernel_rfl) ?_
  refine Y.pval F (X.w0 rfl) rfl (X.move rfl (F.e 8 rfl)) ?_
  clear F ac
  intro ac F
  refine Y.pval F (X.w0 rfl) rfl (X.assign rfl (X.kc (.slice none 0 0) rfl)) ?_
  clear F ac
  intro ac F
  refine Y.pval F (X.w0 rfl) rfl (X.assign rfl (F.e 15 rfl)) ?_
  clear F ac
  intro ac F
  refine Y.nil ?_
  replace F : Fr ac 34 [(0, .agg #[Vi gr, Vi hold, .slice na n nc]), (1, Vi node), (2, Vi T), (3, Vp w.heap.size), (6, .slice none 0 0), (7, Vi (nodeE gr hold nd node T)), (8, Vi (nodeE gr hold nd node T)), (14, .bool true)] := F.sub _
  refine X.thenN ?_
  refine Y.ret ?_
  refine X.thenR ?_
  exact Y.ret0 (v := .tuple #[.slice none 0 0, Vi (nodeE gr hold nd node T)]) F (Y.rs2 F rfl (by kernel_rfl) (by kernel_rfl)) ⟨none, 0, 0, rfl, by unfold noiR; rw [if_neg hE]; exact Ints.nil _, G⟩
end
section
open Go.RowKit

set_option maxRecDepth 100000 in
set_option maxHeartbeats 400000 in
theorem same_any (a b : Option Addr) (n c m d : Nat) (xs ys : List Int) (w : World) (hx : Ints w a n xs) (hy : Ints w b m ys) :
  Calls Try.prog 27 #[.slice a n c, .slice b m d] w fun e w' => e = .returned (.bool (decide (xs = ys))) ∧ Gr w w' := by
 have G := Gr.refl w
 have hxl := hx.len
 have hyl := hy.len
 have hlt := hx.lt
 have hlt2 := hy.lt
 refine Y.calls 26 Try.func27 rfl rfl ?_
 intro ac F0
 have F : Fr ac 26 [(0, .slice a n c), (1, .slice b m d)] := F0.sub _
 clear F0
 refine Y.seq ?_
 refine Y.lit (by kernel_rfl) ?_
 refine Y.pval F (X.w0 rfl) rfl (X.assign rfl (X.kc (.bool false) rfl)) ?_
 clear F ac
 intro ac F
 refine Y.nil ?_
 replace F : Fr ac 26 [(0, .slice a n c), (1, .slice b m d), (4, .bool false)] := F.sub _
 refine X.thenN ?_
 refine Y.seq ?_
 refine Y.seq ?_
 refine Y.lit (by kernel_rfl) ?_
 refine Y.pval F (X.w0 rfl) rfl (X.move rfl (F.e 0 rfl)) ?_
 clear F ac
 intro ac F
 refine Y.pval F (X.w0 rfl) rfl (X.len1 Try.underlying34 rfl (F.e 6 rfl)) ?_
 clear F ac
 intro ac F
 refine Y.pval F (X.w0 rfl) rfl (X.move rfl (F.e 1 rfl)) ?_
 clear F ac
 intro ac F
 refine Y.pval F (X.w0 rfl) rfl (X.len1 Try.underlying34 rfl (F.e 8 rfl)) ?_
 clear F ac
 intro ac F
 refine Y.pval F (X.w0 rfl) rfl (X.binop rfl (F.e 7 rfl) (F.e 9 rfl) (X.neqI Try.underlying3 rfl)) ?_
 clear F ac
 intro ac F
 refine Y.nil ?_
 replace F : Fr ac 26 [(0, .slice a n c), (1, .slice b m d), (4, .bool false), (10, .bool ((n : Int) != m))] := F.sub _
 refine X.thenN ?_
 cases h3 : ((n : Int) != m) with
 | false =>
  try rw [h3] at F
  have h3p : (n : Int) = m := by simpa using h3
  have hnm : m = n := by omega
  have hl2 : xs.length = ys.length := by omega
  refine Y.condF (F.e 10 rfl) ?_
  refine Y.skip ?_
  refine X.thenN ?_
  refine Y.seq ?_
  refine Y.seq ?_
  refine Y.lit (by kernel_rfl) ?_
  refine Y.pval F (X.w0 rfl) rfl (X.assign rfl (X.kc (Vi 0) rfl)) ?_
  clear F ac
  intro ac F
  refine Y.nil ?_
  replace F : Fr ac 26 [(0, .slice a n c), (1, .slice b m d), (4, .bool false), (5, Vi 0), (10, .bool false)] := F.sub _
  refine X.thenN ?_
  refine Y.block ?_
  have hxB := hx
  have hyB := hy
  have GB := G
  refine Y.loop (fun me_ ac wr => ∃ (i : Nat), me_ = n - i ∧ Gr w wr ∧ i ≤ n ∧ (∀ j, j < i → xs[j]?.getD 0 = ys[j]?.getD 0) ∧ Fr ac 26 [(0, .slice a n c), (1, .slice b m d), (5, Vi i), (10, .bool false)]) _ ⟨0, rfl, Gr.refl _, Nat.zero_le _, fun j h => by omega, F.sub _⟩ ?_
  clear F
  intro me_ ac w4 hI
  obtain ⟨i, rfl, gr, hi, hsame, F⟩ := hI
  replace G := GB.trans gr
  replace hx := hxB.gr gr
  replace hy := hyB.gr gr
  have GB_ := gr
  clear gr
  refine Y.seq ?_
  refine Y.seq ?_
  refine Y.lit (by kernel_rfl) ?_
  refine Y.pval F (X.w0 rfl) rfl (X.move rfl (F.e 5 rfl)) ?_
  clear F ac
  intro ac F
  refine Y.pval F (X.w0 rfl) rfl (X.move rfl (F.e 0 rfl)) ?_
  clear F ac
  intro ac F
  refine Y.pval F (X.w0 rfl) rfl (X.len1 Try.underlying34 rfl (F.e 12 rfl)) ?_
  clear F ac
  intro ac F
  refine Y.pval F (X.w0 rfl) rfl (X.binop rfl (F.e 11 rfl) (F.e 13 rfl) (X.lssI Try.underlying3 rfl)) ?_
  clear F ac
  intro ac F
  refine Y.nil ?_
  replace F : Fr ac 26 [(0, .slice a n c), (1, .slice b m d), (5, Vi i), (10, .bool false), (14, .bool (decide ((i : Int) < n)))] := F.sub _
  refine X.thenN ?_
  cases h5 : decide ((i : Int) < n) with
  | false =>
   try rw [h5] at F
   have h5p : ¬ ((i : Int) < n) := of_decide_eq_false h5
   have hin : i = n := by omega
   refine Y.condF (F.e 14 rfl) ?_
   refine Y.exit ?_
   refine X.thenX ?_
   refine X.thenX ?_
   refine X.blockX ?_
   refine X.thenN ?_
   refine Y.seq ?_
   refine Y.lit (by kernel_rfl) ?_
   refine Y.pval F (X.w0 rfl) rfl (X.assign rfl (X.kc (.bool true) rfl)) ?_
   clear F ac
   intro ac F
   refine Y.nil ?_
   replace F : Fr ac 26 [(0, .slice a n c), (1, .slice b m d), (4, .bool true), (5, Vi i), (10, .bool false), (14, .bool false)] := F.sub _
   refine X.thenN ?_
   refine Y.ret ?_
   exact Y.ret0 (v := .bool true) F (Y.rs1 F rfl (by kernel_rfl)) ⟨by rw [same_yes hl2 (fun j hj => hsame j (by omega))], G⟩
  | true =>
   try rw [h5] at F
   have h5p : ((i : Int) < n) := of_decide_eq_true h5
   refine Y.condT (F.e 14 rfl) ?_
   refine Y.skip ?_
   refine X.thenN ?_
   refine Y.seq ?_
   refine Y.block ?_
   refine Y.seq ?_
   obtain ⟨pd6, pe6, -, pc6⟩ := hx.at (j := i) (by omega)
   subst pe6
   have hC : RCells w4 [(pd6.add i, Vi (xs[i]?.getD 0))] := (RCells.cons pc6 (RCells.nil _))
   clear pc6
   obtain ⟨pd7, pe7, -, pc7⟩ := hy.at (j := i) (by omega)
   subst pe7
   replace hC : RCells w4 [(pd6.add i, Vi (xs[i]?.getD 0)), (pd7.add i, Vi (ys[i]?.getD 0))] := hC.append ((RCells.cons pc7 (RCells.nil _)))
   clear pc7
   refine Y.region F [some (.slice (some pd6) n c), some (Vi i), some (.pointer (some (pd6.add i))), some (Vi (xs[i]?.getD 0)), some (.slice (some pd7) m d), some (Vi i), some (.pointer (some (pd7.add i))), some (Vi (ys[i]?.getD 0)), some (.bool ((xs[i]?.getD 0 : Int) != (ys[i]?.getD 0)))] [] rfl ⟨by kernel_rfl, of_decide_eq_true (by kernel_rfl), by kernel_rfl, by kernel_rfl, by kernel_rfl⟩ ⟨?_, ?_, ?_, ?_, ?_, ?_, ?_, ?_, ?_, trivial⟩ ?_
   ·intro ac done u W Sx hR
    exact X.val (X.w0 rfl) rfl (X.move rfl (Sx.ev 0 (.slice (some pd6) n c))) (hR.step (Gr.refl _) rfl)
   ·intro ac done u W Sx hR
    exact X.val (X.w0 rfl) rfl (X.move rfl (Sx.ev 5 (Vi i))) (hR.step (Gr.refl _) rfl)
   ·intro ac done u W Sx hR
    exact X.val (X.w0 rfl) rfl (X.index rfl (Sx.ev 17 (.slice (some pd6) n c)) (Sx.ev 18 (Vi i)) (X.idx (k := i) Try.underlying34 (Try.siz3 _) (by omega) (by omega) (by rw [Nat.mul_one]))) (hR.step (Gr.refl _) rfl)
   ·intro ac done u W Sx hR
    have g : Gr w4 W := hR.1
    exact X.val (X.w0 rfl) rfl (X.load rfl (Sx.ev 19 (.pointer (some (pd6.add i)))) (X.ld1 (Try.agg3 _) ((hC.gr g).at 0 rfl))) (hR.step (Gr.refl _) rfl)
   ·intro ac done u W Sx hR
    exact X.val (X.w0 rfl) rfl (X.move rfl (Sx.ev 1 (.slice (some pd7) m d))) (hR.step (Gr.refl _) rfl)
   ·intro ac done u W Sx hR
    exact X.val (X.w0 rfl) rfl (X.move rfl (Sx.ev 5 (Vi i))) (hR.step (Gr.refl _) rfl)
   ·intro ac done u W Sx hR
    exact X.val (X.w0 rfl) rfl (X.index rfl (Sx.ev 21 (.slice (some pd7) m d)) (Sx.ev 22 (Vi i)) (X.idx (k := i) Try.underlying34 (Try.siz3 _) (by omega) (by omega) (by rw [Nat.mul_one]))) (hR.step (Gr.refl _) rfl)
   ·intro ac done u W Sx hR
    have g : Gr w4 W := hR.1
    exact X.val (X.w0 rfl) rfl (X.load rfl (Sx.ev 23 (.pointer (some (pd7.add i)))) (X.ld1 (Try.agg3 _) ((hC.gr g).at 1 rfl))) (hR.step (Gr.refl _) rfl)
   ·intro ac done u W Sx hR
    exact X.val (X.w0 rfl) rfl (X.binop rfl (Sx.ev 20 (Vi (xs[i]?.getD 0))) (Sx.ev 24 (Vi (ys[i]?.getD 0))) (X.neqI Try.underlying3 rfl)) (hR.step (Gr.refl _) rfl)
   intro ac u w8 hs hd hl ho hR
   have g : Gr w4 w8 := hR.1
   replace F : Fr ac 26 [(0, .slice (some pd6) n c), (1, .slice (some pd7) m d), (5, Vi i), (10, .bool false), (14, .bool true), (25, .bool ((xs[i]?.getD 0 : Int) != (ys[i]?.getD 0)))] := X.fr hs hd hl _ (by kernel_rfl)
   clear hs hd hl ho hR
   replace G := G.trans g
   replace hC := hC.gr g
   replace GB_ := GB_.trans g
   replace hx := hx.gr g
   replace hy := hy.gr g
   clear g
   refine X.thenN ?_
   cases h9 : ((xs[i]?.getD 0 : Int) != (ys[i]?.getD 0)) with
   | false =>
    try rw [h9] at F
    have h9p : (xs[i]?.getD 0 : Int) = (ys[i]?.getD 0) := by simpa using h9
    refine Y.condF (F.e 25 rfl) ?_
    refine Y.skip ?_
    refine X.blockN ?_
    refine X.thenN ?_
    refine Y.lit (by kernel_rfl) ?_
    refine Y.pval F (X.w0 rfl) rfl (X.move rfl (F.e 5 rfl)) ?_
    clear F ac
    intro ac F
    refine Y.pval F (X.w0 rfl) rfl (X.binop rfl (F.e 15 rfl) (X.kc (Vi 1) rfl) (X.addI Try.underlying3 rfl (by omega) (by omega))) ?_
    clear F ac
    intro ac F
    refine Y.pval F (X.w0 rfl) rfl (X.assign rfl (F.e 16 rfl)) ?_
    clear F ac
    intro ac F
    refine Y.nil ?_
    replace F : Fr ac 26 [(0, .slice (some pd6) n c), (1, .slice (some pd7) m d), (5, Vi ((i : Int) + 1)), (10, .bool false), (14, .bool true), (25, .bool false)] := F.sub _
    refine X.thenN ?_
    refine ⟨_, ?_, i + 1, rfl, GB_, by omega, fun j hj => if e : j = i then by rw [e]; exact h9p else hsame j (by omega), F.sub _⟩
    omega
   | true =>
    try rw [h9] at F
    have h9p : ¬ (xs[i]?.getD 0 : Int) = (ys[i]?.getD 0) := by simpa using h9
    refine Y.condT (F.e 25 rfl) ?_
    refine Y.seq ?_
    refine Y.lit (by kernel_rfl) ?_
    refine Y.pval F (X.w0 rfl) rfl (X.assign rfl (X.kc (.bool false) rfl)) ?_
    clear F ac
    intro ac F
    refine Y.nil ?_
    replace F : Fr ac 26 [(0, .slice (some pd6) n c), (1, .slice (some pd7) m d), (4, .bool false), (5, Vi i), (10, .bool false), (14, .bool true), (25, .bool true)] := F.sub _
    refine X.thenN ?_
    refine Y.ret ?_
    refine X.blockR ?_
    refine X.thenR ?_
    refine X.thenR ?_
    refine X.blockR ?_
    refine X.thenR ?_
    exact Y.ret0 (v := .bool false) F (Y.rs1 F rfl (by kernel_rfl)) ⟨by rw [same_no (by omega) hl2 h9p], G⟩
 | true =>
  try rw [h3] at F
  have h3p : ¬ (n : Int) = m := by simpa using h3
  refine Y.condT (F.e 10 rfl) ?_
  refine Y.seq ?_
  refine Y.lit (by kernel_rfl) ?_
  refine Y.pval F (X.w0 rfl) rfl (X.assign rfl (X.kc (.bool false) rfl)) ?_
  clear F ac
  intro ac F
  refine Y.nil ?_
  replace F : Fr ac 26 [(0, .slice a n c), (1, .slice b m d), (4, .bool false), (10, .bool true)] := F.sub _
  refine X.thenN ?_
  refine Y.ret ?_
  refine X.thenR ?_
  exact Y.ret0 (v := .bool false) F (Y.rs1 F rfl (by kernel_rfl)) ⟨by rw [show decide (xs = ys) = false by simp only [decide_eq_false_iff_not]; intro e; subst e; omega], G⟩
end
section
open Go.RowKit

theorem st_only {S : Nat → Prop} {w w' : World} {k : Nat} {a : Option Addr} {n : Nat} {L : List (List Int)} (h : StAt w k a n L) (g : Only S w w') (hn : ∀ ad, a = some ad → ¬ S ad.block) : StAt w' k a n L :=
  ⟨h.1, h.2.1, fun j hj => by
    obtain ⟨ad, e, hb, hl, hc⟩ := h.2.2 j hj
    exact ⟨ad, e, Nat.lt_of_lt_of_le hb g.size, hl, fun r hr => g.cell (hc r hr) (by rw [add_block, add_block]; exact hn ad e)⟩⟩
set_option maxRecDepth 100000 in
set_option maxHeartbeats 400000 in
theorem example_any (w : World) :
  Calls Try.prog 43 #[] w fun e w' => ∃ a, e = .returned (.agg #[Vi 2, Vi 3, .slice a 3 3]) ∧ StAt w' 5 a 3 exN ∧ Gr w w' := by
 have G := Gr.refl w
 refine Y.calls 6 Try.func43 rfl rfl ?_
 intro ac F0
 have F : Fr ac 6 [] := F0.sub _
 clear F0
 refine Y.seq ?_
 refine Y.lit (by kernel_rfl) ?_
 refine Y.pval F (X.w0 rfl) rfl (Y.al rfl (Try.new24 _)) ?_
 clear F ac
 intro ac F
 have g := Gr.alloc w (.cells #[Vi 0, Vi 0, .slice none 0 0] 24)
 have hb := heap_alloc_new w (.cells #[Vi 0, Vi 0, .slice none 0 0] 24)
 have hbl : w.heap.size < (w.alloc (.cells #[Vi 0, Vi 0, .slice none 0 0] 24)).heap.size := by simp
 generalize w.alloc (.cells #[Vi 0, Vi 0, .slice none 0 0] 24) = w3 at *
 replace G := G.trans g
 have hV := ownP_box (vs := [Vi 0, Vi 0, .slice none 0 0]) hb
 clear g hb hbl
 have hVl : w.heap.size < w3.heap.size := hV.lt
 refine Y.nil ?_
 replace F : Fr ac 6 [(0, Vp w.heap.size)] := F.sub _
 refine X.thenN ?_
 refine Y.seq ?_
 refine Y.lit (by kernel_rfl) ?_
 refine Y.pval F (X.w0 rfl) rfl (Y.bd rfl rfl (Try.exb1 _)) ?_
 clear F ac
 intro ac F
 refine Y.pval F (X.w0 rfl) rfl (Y.bd rfl rfl (Try.exb2 _)) ?_
 clear F ac
 intro ac F
 refine Y.pval F (X.w0 rfl) rfl (Y.bd rfl rfl (Try.exb3 _)) ?_
 clear F ac
 intro ac F
 refine Y.pval F (X.w0 rfl) rfl (X.bs rfl (Y.b3 (F.ev 1 (.agg #[Vi 1, Vi 10, Vi 1, Vi 1, Vi 5])) (F.ev 2 (.agg #[Vi 3, Vi 20, Vi 2, Vi 2, Vi 10])) (F.ev 3 (.agg #[Vi 2, Vi 30, Vi 0, Vi 0, Vi 1]))) (Try.exs _)) ?_
 clear F ac
 intro ac F
 have g := Gr.alloc w3 (.cells #[Vi 1, Vi 10, Vi 1, Vi 1, Vi 5, Vi 3, Vi 20, Vi 2, Vi 2, Vi 10, Vi 2, Vi 30, Vi 0, Vi 0, Vi 1] 31)
 have hb := heap_alloc_new w3 (.cells #[Vi 1, Vi 10, Vi 1, Vi 1, Vi 5, Vi 3, Vi 20, Vi 2, Vi 2, Vi 10, Vi 2, Vi 30, Vi 0, Vi 0, Vi 1] 31)
 have hbl : w3.heap.size < (w3.alloc (.cells #[Vi 1, Vi 10, Vi 1, Vi 1, Vi 5, Vi 3, Vi 20, Vi 2, Vi 2, Vi 10, Vi 2, Vi 30, Vi 0, Vi 0, Vi 1] 31)).heap.size := by simp
 generalize w3.alloc (.cells #[Vi 1, Vi 10, Vi 1, Vi 1, Vi 5, Vi 3, Vi 20, Vi 2, Vi 2, Vi 10, Vi 2, Vi 30, Vi 0, Vi 0, Vi 1] 31) = w4 at *
 replace G := G.trans g
 replace hV := hV.gr g
 have hexN := exN_at hb
 clear g hb hbl
 refine Y.pval F (X.w0 rfl) rfl (Y.bd rfl (Y.b3 (X.kc (Vi 2) rfl) (X.kc (Vi 3) rfl) (F.ev 4 (.slice (some ⟨w3.heap.size, 0, none⟩) 3 3))) (Try.exc _ _ _ _ _ _)) ?_
 clear F ac
 intro ac F
 obtain ⟨w5, hrun, hS2, hon⟩ := hV.stL (P := Try.prog) (t := 24) [Vi 2, Vi 3, .slice (some ⟨w3.heap.size, 0, none⟩) 3 3] rfl (fun W => Try.siz24 W) rfl
 refine Y.punit F (X.w0 rfl) rfl (X.store rfl (F.ev 0 (Vp w.heap.size)) (F.ev 5 (.agg #[Vi 2, Vi 3, .slice (some ⟨w3.heap.size, 0, none⟩) 3 3])) hrun) ?_
 clear F ac hrun
 intro ac F
 have hexN : StAt w5 5 (some ⟨w3.heap.size, 0, none⟩) 3 exN := st_only hexN hon (fun ad e h => by cases e; exact absurd h (by show ¬ w3.heap.size = w.heap.size; have := hVl; omega))
 replace G := Y.Only.up G hon (Nat.le_refl _)
 replace hV := hS2
 refine Y.nil ?_
 replace F : Fr ac 6 [(0, Vp w.heap.size)] := F.sub _
 refine X.thenN ?_
 refine Y.ret ?_
 exact Y.ret0 (v := .agg #[Vi 2, Vi 3, .slice (some ⟨w3.heap.size, 0, none⟩) 3 3]) F (Y.rc13 F rfl (Try.agg24 _) (Try.siz24 _) (by kernel_rfl) hV) ⟨_, rfl, hexN, G⟩
set_option maxRecDepth 100000 in
set_option maxHeartbeats 1000000 in
theorem works_any (w : World) :
  Calls Try.prog 16 #[] w fun e w' => e = .returned (.bool true) ∧ Gr w w' := by
 have G := Gr.refl w
 refine Y.calls 40 Try.func16 rfl rfl ?_
 intro ac F0
 have F : Fr ac 40 [] := F0.sub _
 clear F0
 refine Y.seq ?_
 refine Y.lit (by kernel_rfl) ?_
 refine Y.pval F (X.w0 rfl) rfl (X.assign rfl (X.kc (.bool false) rfl)) ?_
 clear F ac
 intro ac F
 refine Y.nil ?_
 replace F : Fr ac 40 [(0, .bool false)] := F.sub _
 refine X.thenN ?_
 refine Y.seq ?_
 refine Y.lit (by kernel_rfl) ?_
 refine Y.pcall F (X.w0 rfl) rfl (X.enter (F := 43) rfl (X.kc (.func (.func 43) #[] #[]) rfl) rfl (enters_of Try.func43 (by kernel_rfl) rfl _)) (example_any w) ?_
 clear F ac
 rintro e w4 ⟨ea3, rfl, hN3, g⟩
 refine ⟨_, rfl, ?_⟩
 intro ac F
 replace G := G.trans g
 clear g
 refine Y.pval F (X.w0 rfl) rfl (Y.bd rfl rfl (Try.exn1 _)) ?_
 clear F ac
 intro ac F
 refine Y.pval F (X.w0 rfl) rfl (Y.bd rfl rfl (Try.exn2 _)) ?_
 clear F ac
 intro ac F
 refine Y.pval F (X.w0 rfl) rfl (X.bs rfl (X.b2 (F.ev 8 (.agg #[Vi 1, Vi 1, Vi 1, Vi 0])) (F.ev 9 (.agg #[Vi 2, Vi 2, Vi 1, Vi 0]))) (Try.exm _)) ?_
 clear F ac
 intro ac F
 have g := Gr.alloc w4 (.cells #[Vi 1, Vi 1, Vi 1, Vi 0, Vi 2, Vi 2, Vi 1, Vi 0] 33)
 have hb := heap_alloc_new w4 (.cells #[Vi 1, Vi 1, Vi 1, Vi 0, Vi 2, Vi 2, Vi 1, Vi 0] 33)
 have hbl : w4.heap.size < (w4.alloc (.cells #[Vi 1, Vi 1, Vi 1, Vi 0, Vi 2, Vi 2, Vi 1, Vi 0] 33)).heap.size := by simp
 generalize w4.alloc (.cells #[Vi 1, Vi 1, Vi 1, Vi 0, Vi 2, Vi 2, Vi 1, Vi 0] 33) = w5 at *
 replace G := G.trans g
 replace hN3 := hN3.gr g
 have hexL := exL_at hb
 clear g hb hbl
 refine Y.pcall F (X.w0 rfl) rfl (X.enter (F := 18) rfl (X.kc (.func (.func 18) #[] #[]) rfl) (X.a3 (F.ev 7 (.agg #[Vi 2, Vi 3, .slice ea3 3 3])) (X.kc (Vi 6) rfl) (F.ev 10 (.slice (some ⟨w4.heap.size, 0, none⟩) 2 2))) (enters_of Try.func18 (by kernel_rfl) rfl _)) (play_any ea3 (some ⟨w4.heap.size, 0, none⟩) 3 3 2 2 2 3 6 exN exL w5 hN3 hexL) ?_
 clear F ac
 rintro e w7 ⟨ra, rn, rc, za, zn, zc, rfl, hIr, hIe, g⟩
 rw [ex_pr] at hIr
 rw [ex_en] at hIe
 obtain rfl : 6 = rn := hIr.len
 obtain rfl : 3 = zn := hIe.len
 refine ⟨_, rfl, ?_⟩
 rw [ex_e]
 intro ac F
 replace G := G.trans g
 replace hN3 := hN3.gr g
 replace hexL := hexL.gr g
 clear g
 refine Y.pval F (X.w0 rfl) rfl (X.move rfl (F.ev 11 (.tuple #[.slice ra 6 rc, .slice za 3 zc, Vi 0]))) ?_
 clear F ac
 intro ac F
 refine Y.pval F (X.w0 rfl) rfl (X.extract rfl (F.ev 6 (.tuple #[.slice ra 6 rc, .slice za 3 zc, Vi 0])) rfl) ?_
 clear F ac
 intro ac F
 refine Y.pval F (X.w0 rfl) rfl (X.extract rfl (F.ev 6 (.tuple #[.slice ra 6 rc, .slice za 3 zc, Vi 0])) rfl) ?_
 clear F ac
 intro ac F
 refine Y.pval F (X.w0 rfl) rfl (X.extract rfl (F.ev 6 (.tuple #[.slice ra 6 rc, .slice za 3 zc, Vi 0])) rfl) ?_
 clear F ac
 intro ac F
 refine Y.pval F (X.w0 rfl) rfl (X.assign rfl (F.ev 12 (.slice ra 6 rc))) ?_
 clear F ac
 intro ac F
 refine Y.pval F (X.w0 rfl) rfl (X.assign rfl (F.ev 13 (.slice za 3 zc))) ?_
 clear F ac
 intro ac F
 refine Y.pval F (X.w0 rfl) rfl (X.assign rfl (F.ev 14 (Vi 0))) ?_
 clear F ac
 intro ac F
 refine Y.nil ?_
 replace F : Fr ac 40 [(0, .bool false), (1, .slice ra 6 rc), (2, .slice za 3 zc), (3, Vi 0)] := F.sub _
 refine X.thenN ?_
 refine Y.seq ?_
 refine Y.lit (by kernel_rfl) ?_
 refine Y.pcall F (X.w0 rfl) rfl (X.enter (F := 43) rfl (X.kc (.func (.func 43) #[] #[]) rfl) rfl (enters_of Try.func43 (by kernel_rfl) rfl _)) (example_any w7) ?_
 clear F ac
 rintro e w9 ⟨ea8, rfl, hN8, g⟩
 refine ⟨_, rfl, ?_⟩
 intro ac F
 replace G := G.trans g
 replace hN3 := hN3.gr g
 replace hexL := hexL.gr g
 replace hIr := hIr.gr g
 replace hIe := hIe.gr g
 clear g
 refine Y.pcall F (X.w0 rfl) rfl (X.enter (F := 21) rfl (X.kc (.func (.func 21) #[] #[]) rfl) (X.a2 (F.ev 16 (.agg #[Vi 2, Vi 3, .slice ea8 3 3])) (X.kc (Vi 8) rfl)) (enters_of Try.func21 (by kernel_rfl) rfl _)) (by have h := parked_any ea8 3 3 2 3 8 exN w9 hN8; rw [ex_p, ex_t] at h; exact h) ?_
 clear F ac
 rintro e w11 ⟨rfl, g⟩
 refine ⟨_, rfl, ?_⟩
 intro ac F
 replace G := G.trans g
 replace hN3 := hN3.gr g
 replace hexL := hexL.gr g
 replace hIr := hIr.gr g
 replace hIe := hIe.gr g
 replace hN8 := hN8.gr g
 clear g
 refine Y.pval F (X.w0 rfl) rfl (X.move rfl (F.ev 17 (.tuple #[Vi 186, Vi 0]))) ?_
 clear F ac
 intro ac F
 refine Y.pval F (X.w0 rfl) rfl (X.extract rfl (F.ev 15 (.tuple #[Vi 186, Vi 0])) rfl) ?_
 clear F ac
 intro ac F
 refine Y.pval F (X.w0 rfl) rfl (X.extract rfl (F.ev 15 (.tuple #[Vi 186, Vi 0])) rfl) ?_
 clear F ac
 intro ac F
 refine Y.pval F (X.w0 rfl) rfl (X.assign rfl (F.ev 18 (Vi 186))) ?_
 clear F ac
 intro ac F
 refine Y.pval F (X.w0 rfl) rfl (X.assign rfl (F.ev 19 (Vi 0))) ?_
 clear F ac
 intro ac F
 refine Y.nil ?_
 replace F : Fr ac 40 [(0, .bool false), (1, .slice ra 6 rc), (2, .slice za 3 zc), (3, Vi 0), (4, Vi 186), (5, Vi 0)] := F.sub _
 refine X.thenN ?_
 refine Y.seq ?_
 refine Y.lit (by kernel_rfl) ?_
 refine Y.pval F (X.w0 rfl) rfl (X.move rfl (F.ev 3 (Vi 0))) ?_
 clear F ac
 intro ac F
 refine Y.pval F (X.w0 rfl) rfl (X.binop rfl (F.ev 20 (Vi 0)) (X.kc (Vi 0) rfl) (X.eqlI Try.underlying26 (show ((0 : Int) == 0) = true by simp))) ?_
 clear F ac
 intro ac F
 refine Y.pval F (X.w0 rfl) rfl (X.move rfl (F.ev 21 (.bool true))) ?_
 clear F ac
 intro ac F
 refine Y.pval F (X.w1 rfl (F.yl (j := 2) (d := 22) (b := true) rfl (by kernel_rfl))) rfl (X.move rfl (F.ev 5 (Vi 0))) ?_
 clear F ac
 intro ac F
 refine Y.pval F (X.w1 rfl (F.yl (j := 2) (d := 22) (b := true) rfl (by kernel_rfl))) rfl (X.binop rfl (F.ev 23 (Vi 0)) (X.kc (Vi 0) rfl) (X.eqlI Try.underlying26 (show ((0 : Int) == 0) = true by simp))) ?_
 clear F ac
 intro ac F
 refine Y.pval F (X.w0 rfl) rfl (X.pickT rfl (F.ev 22 (.bool true)) (F.ev 24 (.bool true))) ?_
 clear F ac
 intro ac F
 refine Y.pval F (X.w0 rfl) rfl (X.move rfl (F.ev 25 (.bool true))) ?_
 clear F ac
 intro ac F
 refine Y.pval F (X.w1 rfl (F.yl (j := 6) (d := 26) (b := true) rfl (by kernel_rfl))) rfl (X.move rfl (F.ev 1 (.slice ra 6 rc))) ?_
 clear F ac
 intro ac F
 refine Y.pval F (X.w1 rfl (F.yl (j := 6) (d := 26) (b := true) rfl (by kernel_rfl))) rfl (X.bs rfl rfl (Try.exr _)) ?_
 clear F ac
 intro ac F
 have g := Gr.alloc w11 (.cells #[Vi 0, Vi 3, Vi 3, Vi 3, Vi 0, Vi 0] 3)
 have hb := heap_alloc_new w11 (.cells #[Vi 0, Vi 3, Vi 3, Vi 3, Vi 0, Vi 0] 3)
 have hbl : w11.heap.size < (w11.alloc (.cells #[Vi 0, Vi 3, Vi 3, Vi 3, Vi 0, Vi 0] 3)).heap.size := by simp
 generalize w11.alloc (.cells #[Vi 0, Vi 3, Vi 3, Vi 3, Vi 0, Vi 0] 3) = w12 at *
 replace G := G.trans g
 replace hN3 := hN3.gr g
 replace hexL := hexL.gr g
 replace hIr := hIr.gr g
 replace hIe := hIe.gr g
 replace hN8 := hN8.gr g
 have hxr := exr_at hb
 clear g hb hbl
 refine Y.pcall F (X.w1 rfl (F.yl (j := 6) (d := 26) (b := true) rfl (by kernel_rfl))) rfl (X.enter (F := 27) rfl (X.kc (.func (.func 27) #[] #[]) rfl) (X.a2 (F.ev 27 (.slice ra 6 rc)) (F.ev 28 (.slice (some ⟨w11.heap.size, 0, none⟩) 6 6))) (enters_of Try.func27 (by kernel_rfl) rfl _)) (by have hq := same_any ra (some ⟨w11.heap.size, 0, none⟩) 6 rc 6 6 ([0, 3, 3, 3, 0, 0]) ([0, 3, 3, 3, 0, 0]) w12 hIr hxr; rw [decide_eq_true rfl] at hq; exact hq) ?_
 clear F ac
 rintro e w14 ⟨rfl, g⟩
 refine ⟨_, rfl, ?_⟩
 intro ac F
 replace G := G.trans g
 replace hN3 := hN3.gr g
 replace hexL := hexL.gr g
 replace hIr := hIr.gr g
 replace hIe := hIe.gr g
 replace hN8 := hN8.gr g
 replace hxr := hxr.gr g
 clear g
 refine Y.pval F (X.w0 rfl) rfl (X.pickT rfl (F.ev 26 (.bool true)) (F.ev 29 (.bool true))) ?_
 clear F ac
 intro ac F
 refine Y.pval F (X.w0 rfl) rfl (X.move rfl (F.ev 30 (.bool true))) ?_
 clear F ac
 intro ac F
 refine Y.pval F (X.w1 rfl (F.yl (j := 11) (d := 31) (b := true) rfl (by kernel_rfl))) rfl (X.move rfl (F.ev 2 (.slice za 3 zc))) ?_
 clear F ac
 intro ac F
 refine Y.pval F (X.w1 rfl (F.yl (j := 11) (d := 31) (b := true) rfl (by kernel_rfl))) rfl (X.bs rfl rfl (Try.exq _)) ?_
 clear F ac
 intro ac F
 have g := Gr.alloc w14 (.cells #[Vi 33, Vi 66, Vi 0] 3)
 have hb := heap_alloc_new w14 (.cells #[Vi 33, Vi 66, Vi 0] 3)
 have hbl : w14.heap.size < (w14.alloc (.cells #[Vi 33, Vi 66, Vi 0] 3)).heap.size := by simp
 generalize w14.alloc (.cells #[Vi 33, Vi 66, Vi 0] 3) = w15 at *
 replace G := G.trans g
 replace hN3 := hN3.gr g
 replace hexL := hexL.gr g
 replace hIr := hIr.gr g
 replace hIe := hIe.gr g
 replace hN8 := hN8.gr g
 replace hxr := hxr.gr g
 have hxq := exq_at hb
 clear g hb hbl
 refine Y.pcall F (X.w1 rfl (F.yl (j := 11) (d := 31) (b := true) rfl (by kernel_rfl))) rfl (X.enter (F := 27) rfl (X.kc (.func (.func 27) #[] #[]) rfl) (X.a2 (F.ev 32 (.slice za 3 zc)) (F.ev 33 (.slice (some ⟨w14.heap.size, 0, none⟩) 3 3))) (enters_of Try.func27 (by kernel_rfl) rfl _)) (by have hq := same_any za (some ⟨w14.heap.size, 0, none⟩) 3 zc 3 3 ([33, 66, 0]) ([33, 66, 0]) w15 hIe hxq; rw [decide_eq_true rfl] at hq; exact hq) ?_
 clear F ac
 rintro e w17 ⟨rfl, g⟩
 refine ⟨_, rfl, ?_⟩
 intro ac F
 replace G := G.trans g
 replace hN3 := hN3.gr g
 replace hexL := hexL.gr g
 replace hIr := hIr.gr g
 replace hIe := hIe.gr g
 replace hN8 := hN8.gr g
 replace hxr := hxr.gr g
 replace hxq := hxq.gr g
 clear g
 refine Y.pval F (X.w0 rfl) rfl (X.pickT rfl (F.ev 31 (.bool true)) (F.ev 34 (.bool true))) ?_
 clear F ac
 intro ac F
 refine Y.pval F (X.w0 rfl) rfl (X.move rfl (F.ev 35 (.bool true))) ?_
 clear F ac
 intro ac F
 refine Y.pval F (X.w1 rfl (F.yl (j := 16) (d := 36) (b := true) rfl (by kernel_rfl))) rfl (X.move rfl (F.ev 4 (Vi 186))) ?_
 clear F ac
 intro ac F
 refine Y.pval F (X.w1 rfl (F.yl (j := 16) (d := 36) (b := true) rfl (by kernel_rfl))) rfl (X.binop rfl (F.ev 37 (Vi 186)) (X.kc (Vi 186) rfl) (X.eqlI Try.underlying3 (show ((186 : Int) == 186) = true by simp))) ?_
 clear F ac
 intro ac F
 refine Y.pval F (X.w0 rfl) rfl (X.pickT rfl (F.ev 36 (.bool true)) (F.ev 38 (.bool true))) ?_
 clear F ac
 intro ac F
 refine Y.pval F (X.w0 rfl) rfl (X.assign rfl (F.ev 39 (.bool true))) ?_
 clear F ac
 intro ac F
 refine Y.nil ?_
 replace F : Fr ac 40 [(0, .bool true), (1, .slice ra 6 rc), (2, .slice za 3 zc), (3, Vi 0), (4, Vi 186), (5, Vi 0)] := F.sub _
 refine X.thenN ?_
 refine Y.ret ?_
 exact Y.ret0 (v := .bool true) F (Y.rs1 F rfl (by kernel_rfl)) ⟨rfl, G⟩
end
section
open Go.RowKit

set_option maxRecDepth 100000 in
set_option maxHeartbeats 1000000 in
theorem sworst_any (na : Option Addr) (n nc : Nat) (gr hold node t : Int) (nd : List (List Int)) (w : World) (hnd : StAt w 5 na n nd) :
  Calls Try.prog 10 #[.agg #[Vi gr, Vi hold, .slice na n nc], Vi node, Vi t] w fun e w' => e = .returned (.bool true) ∧ Gr w w' := by
 have G := Gr.refl w
 have hlen := hnd.len
 have hlt := hnd.lt
 refine Y.calls 67 Try.func10 rfl rfl ?_
 intro ac F0
 have F : Fr ac 67 [(0, .agg #[Vi gr, Vi hold, .slice na n nc]), (1, Vi node), (2, Vi t)] := F0.sub _
 clear F0
 refine Y.seq ?_
 refine Y.lit (by kernel_rfl) ?_
 refine Y.pval F (X.w0 rfl) rfl (X.box rfl (F.e 0 rfl) X.bx) ?_
 clear F ac
 intro ac F
 have g := Gr.alloc w (.cells #[Vi gr, Vi hold, .slice na n nc] 24)
 have hb := heap_alloc_new w (.cells #[Vi gr, Vi hold, .slice na n nc] 24)
 have hbl : w.heap.size < (w.alloc (.cells #[Vi gr, Vi hold, .slice na n nc] 24)).heap.size := by simp
 have hC2 : RCells (w.alloc (.cells #[Vi gr, Vi hold, .slice na n nc] 24)) [(Ad w.heap.size 0, Vi gr), (Ad w.heap.size 1, Vi hold), (Ad w.heap.size 2, .slice na n nc)] := (RCells.nil w).box (b := w.heap.size) #[Vi gr, Vi hold, .slice na n nc] 24 rfl
 generalize w.alloc (.cells #[Vi gr, Vi hold, .slice na n nc] 24) = w3 at *
 replace G := G.trans g
 have hC := hC2
 clear hC2
 replace hnd := hnd.gr g
 clear g hb hbl
 refine Y.pval F (X.w0 rfl) rfl (X.assign rfl (X.kc (.bool false) rfl)) ?_
 clear F ac
 intro ac F
 refine Y.nil ?_
 replace F : Fr ac 67 [(0, .agg #[Vi gr, Vi hold, .slice na n nc]), (1, Vi node), (2, Vi t), (3, Vp w.heap.size), (6, .bool false)] := F.sub _
 refine X.thenN ?_
 refine Y.seq ?_
 refine Y.seq ?_
 refine Y.lit (by kernel_rfl) ?_
 refine Y.pval F (X.w0 rfl) rfl (X.move rfl (F.e 2 rfl)) ?_
 clear F ac
 intro ac F
 refine Y.pval F (X.w0 rfl) rfl (X.binop rfl (F.e 13 rfl) (X.kc (Vi 100) rfl) (X.gtrI Try.underlying3 rfl)) ?_
 clear F ac
 intro ac F
 refine Y.pval F (X.w0 rfl) rfl (X.move rfl (F.e 14 rfl)) ?_
 clear F ac
 intro ac F
 cases h4 : decide ((100 : Int) < t) with
 | false =>
  try rw [h4] at F
  have h4p : ¬ ((100 : Int) < t) := of_decide_eq_false h4
  refine Y.pskip F (X.w2 rfl (F.yl (j := 2) (d := 15) (b := false) rfl (by kernel_rfl)) rfl) rfl ?_
  clear F ac
  intro ac F
  refine Y.pskip F (X.w2 rfl (F.yl (j := 2) (d := 15) (b := false) rfl (by kernel_rfl)) rfl) rfl ?_
  clear F ac
  intro ac F
  refine Y.pval F (X.w0 rfl) rfl (X.pickF rfl (F.e 15 rfl) (X.kc (.bool false) rfl)) ?_
  clear F ac
  intro ac F
  refine Y.nil ?_
  replace F : Fr ac 67 [(0, .agg #[Vi gr, Vi hold, .slice na n nc]), (1, Vi node), (2, Vi t), (3, Vp w.heap.size), (6, .bool false), (18, .bool false)] := F.sub _
  refine X.thenN ?_
  refine Y.condF (F.e 18 rfl) ?_
  refine Y.skip ?_
  refine X.thenN ?_
  refine Y.seq ?_
  refine Y.lit (by kernel_rfl) ?_
  refine Y.pval F (X.w0 rfl) rfl (X.load rfl (F.e 3 rfl) (X.ldN (Try.agg24 _) (Try.siz24 _) (Y.atz (⟨w.heap.size, 0, none⟩) (Y.AtFrom.cons (hC.at 0 rfl) (Y.AtFrom.cons (hC.at 1 rfl) (Y.AtFrom.cons (hC.at 2 rfl) (Y.AtFrom.nil _ _ _))))))) ?_
  clear F ac
  intro ac F
  refine Y.pval F (X.w0 rfl) rfl (X.move rfl (F.e 1 rfl)) ?_
  clear F ac
  intro ac F
  refine Y.pval F (X.w0 rfl) rfl (X.move rfl (F.e 2 rfl)) ?_
  clear F ac
  intro ac F
  refine Y.pcall F (X.w0 rfl) rfl (X.enter (F := 20) rfl (X.kc (.func (.func 20) #[] #[]) rfl) (X.a3 (F.e 21 rfl) (F.e 22 rfl) (F.e 23 rfl)) (enters_of Try.func20 (by kernel_rfl) rfl _)) (worst_any na n nc gr hold node t nd w3 hnd) ?_
  clear F ac
  rintro e w7 ⟨rfl, g⟩
  refine ⟨_, rfl, ?_⟩
  intro ac F
  replace G := G.trans g
  replace hC := hC.gr g
  replace hnd := hnd.gr g
  clear g
  refine Y.pval F (X.w0 rfl) rfl (X.move rfl (F.e 24 rfl)) ?_
  clear F ac
  intro ac F
  refine Y.pval F (X.w0 rfl) rfl (X.extract rfl (F.e 20 rfl) rfl) ?_
  clear F ac
  intro ac F
  refine Y.pval F (X.w0 rfl) rfl (X.extract rfl (F.e 20 rfl) rfl) ?_
  clear F ac
  intro ac F
  refine Y.pval F (X.w0 rfl) rfl (X.assign rfl (F.e 25 rfl)) ?_
  clear F ac
  intro ac F
  refine Y.pval F (X.w0 rfl) rfl (X.assign rfl (F.e 26 rfl)) ?_
  clear F ac
  intro ac F
  refine Y.nil ?_
  replace F : Fr ac 67 [(0, .agg #[Vi gr, Vi hold, .slice na n nc]), (1, Vi node), (2, Vi t), (3, Vp w.heap.size), (6, .bool false), (7, Vi (worstV gr hold nd node t)), (8, Vi (nodeE gr hold nd node t)), (18, .bool false)] := F.sub _
  refine X.thenN ?_
  refine Y.seq ?_
  refine Y.lit (by kernel_rfl) ?_
  refine Y.pval F (X.w0 rfl) rfl (X.load rfl (F.e 3 rfl) (X.ldN (Try.agg24 _) (Try.siz24 _) (Y.atz (⟨w.heap.size, 0, none⟩) (Y.AtFrom.cons (hC.at 0 rfl) (Y.AtFrom.cons (hC.at 1 rfl) (Y.AtFrom.cons (hC.at 2 rfl) (Y.AtFrom.nil _ _ _))))))) ?_
  clear F ac
  intro ac F
  refine Y.pval F (X.w0 rfl) rfl (X.move rfl (F.e 1 rfl)) ?_
  clear F ac
  intro ac F
  refine Y.pval F (X.w0 rfl) rfl (X.move rfl (F.e 2 rfl)) ?_
  clear F ac
  intro ac F
  refine Y.pcall F (X.w0 rfl) rfl (X.enter (F := 32) rfl (X.kc (.func (.func 32) #[] #[]) rfl) (X.a3 (F.e 28 rfl) (F.e 29 rfl) (F.e 30 rfl)) (enters_of Try.func32 (by kernel_rfl) rfl _)) (Worst2_any na n nc gr hold node t nd w7 hnd) ?_
  clear F ac
  rintro e w10 ⟨rfl, g⟩
  refine ⟨_, rfl, ?_⟩
  intro ac F
  replace G := G.trans g
  replace hC := hC.gr g
  replace hnd := hnd.gr g
  clear g
  refine Y.pval F (X.w0 rfl) rfl (X.move rfl (F.e 31 rfl)) ?_
  clear F ac
  intro ac F
  refine Y.pval F (X.w0 rfl) rfl (X.extract rfl (F.e 27 rfl) rfl) ?_
  clear F ac
  intro ac F
  refine Y.pval F (X.w0 rfl) rfl (X.extract rfl (F.e 27 rfl) rfl) ?_
  clear F ac
  intro ac F
  refine Y.pval F (X.w0 rfl) rfl (X.assign rfl (F.e 32 rfl)) ?_
  clear F ac
  intro ac F
  refine Y.pval F (X.w0 rfl) rfl (X.assign rfl (F.e 33 rfl)) ?_
  clear F ac
  intro ac F
  refine Y.nil ?_
  replace F : Fr ac 67 [(0, .agg #[Vi gr, Vi hold, .slice na n nc]), (1, Vi node), (2, Vi t), (3, Vp w.heap.size), (6, .bool false), (7, Vi (worstV gr hold nd node t)), (8, Vi (nodeE gr hold nd node t)), (9, Vi (worstV gr hold nd node t)), (10, Vi (nodeE gr hold nd node t)), (18, .bool false)] := F.sub _
  refine X.thenN ?_
  refine Y.seq ?_
  refine Y.seq ?_
  refine Y.lit (by kernel_rfl) ?_
  refine Y.pval F (X.w0 rfl) rfl (X.move rfl (F.e 7 rfl)) ?_
  clear F ac
  intro ac F
  refine Y.pval F (X.w0 rfl) rfl (X.move rfl (F.e 9 rfl)) ?_
  clear F ac
  intro ac F
  refine Y.pval F (X.w0 rfl) rfl (X.binop rfl (F.e 34 rfl) (F.e 35 rfl) (X.neqI Try.underlying3 (show ((worstV gr hold nd node t : Int) != (worstV gr hold nd node t)) = false by simp))) ?_
  clear F ac
  intro ac F
  refine Y.pval F (X.w0 rfl) rfl (X.move rfl (F.e 36 rfl)) ?_
  clear F ac
  intro ac F
  refine Y.pval F (X.w1 rfl (F.yl (j := 3) (d := 37) (b := false) rfl (by kernel_rfl))) rfl (X.move rfl (F.e 8 rfl)) ?_
  clear F ac
  intro ac F
  refine Y.pval F (X.w1 rfl (F.yl (j := 3) (d := 37) (b := false) rfl (by kernel_rfl))) rfl (X.move rfl (F.e 10 rfl)) ?_
  clear F ac
  intro ac F
  refine Y.pval F (X.w1 rfl (F.yl (j := 3) (d := 37) (b := false) rfl (by kernel_rfl))) rfl (X.binop rfl (F.e 38 rfl) (F.e 39 rfl) (X.neqI Try.underlying26 (show ((nodeE gr hold nd node t : Int) != (nodeE gr hold nd node t)) = false by simp))) ?_
  clear F ac
  intro ac F
  refine Y.pval F (X.w0 rfl) rfl (X.pickF rfl (F.e 37 rfl) (F.e 40 rfl)) ?_
  clear F ac
  intro ac F
  refine Y.nil ?_
  replace F : Fr ac 67 [(0, .agg #[Vi gr, Vi hold, .slice na n nc]), (1, Vi node), (2, Vi t), (3, Vp w.heap.size), (6, .bool false), (7, Vi (worstV gr hold nd node t)), (8, Vi (nodeE gr hold nd node t)), (9, Vi (worstV gr hold nd node t)), (10, Vi (nodeE gr hold nd node t)), (18, .bool false), (41, .bool false)] := F.sub _
  refine X.thenN ?_
  refine Y.condF (F.e 41 rfl) ?_
  refine Y.skip ?_
  refine X.thenN ?_
  refine Y.seq ?_
  refine Y.lit (by kernel_rfl) ?_
  refine Y.pval F (X.w0 rfl) rfl (X.load rfl (F.e 3 rfl) (X.ldN (Try.agg24 _) (Try.siz24 _) (Y.atz (⟨w.heap.size, 0, none⟩) (Y.AtFrom.cons (hC.at 0 rfl) (Y.AtFrom.cons (hC.at 1 rfl) (Y.AtFrom.cons (hC.at 2 rfl) (Y.AtFrom.nil _ _ _))))))) ?_
  clear F ac
  intro ac F
  refine Y.pval F (X.w0 rfl) rfl (X.move rfl (F.e 1 rfl)) ?_
  clear F ac
  intro ac F
  refine Y.pval F (X.w0 rfl) rfl (X.move rfl (F.e 2 rfl)) ?_
  clear F ac
  intro ac F
  refine Y.pcall F (X.w0 rfl) rfl (X.enter (F := 33) rfl (X.kc (.func (.func 33) #[] #[]) rfl) (X.a3 (F.e 43 rfl) (F.e 44 rfl) (F.e 45 rfl)) (enters_of Try.func33 (by kernel_rfl) rfl _)) (noises_any na n nc gr hold node t nd w10 hnd) ?_
  clear F ac
  rintro e w13 ⟨za12, zm12, zc12, rfl, hz12, g⟩
  refine ⟨_, rfl, ?_⟩
  intro ac F
  replace G := G.trans g
  replace hC := hC.gr g
  replace hnd := hnd.gr g
  clear g
  refine Y.pval F (X.w0 rfl) rfl (X.move rfl (F.e 46 rfl)) ?_
  clear F ac
  intro ac F
  refine Y.pval F (X.w0 rfl) rfl (X.extract rfl (F.e 42 rfl) rfl) ?_
  clear F ac
  intro ac F
  refine Y.pval F (X.w0 rfl) rfl (X.extract rfl (F.e 42 rfl) rfl) ?_
  clear F ac
  intro ac F
  refine Y.pval F (X.w0 rfl) rfl (X.assign rfl (F.e 47 rfl)) ?_
  clear F ac
  intro ac F
  refine Y.pval F (X.w0 rfl) rfl (X.assign rfl (F.e 48 rfl)) ?_
  clear F ac
  intro ac F
  refine Y.nil ?_
  replace F : Fr ac 67 [(0, .agg #[Vi gr, Vi hold, .slice na n nc]), (1, Vi node), (2, Vi t), (3, Vp w.heap.size), (6, .bool false), (7, Vi (worstV gr hold nd node t)), (8, Vi (nodeE gr hold nd node t)), (9, Vi (worstV gr hold nd node t)), (10, Vi (nodeE gr hold nd node t)), (11, .slice za12 zm12 zc12), (18, .bool false), (41, .bool false)] := F.sub _
  refine X.thenN ?_
  refine Y.seq ?_
  refine Y.lit (by kernel_rfl) ?_
  refine Y.pval F (X.w0 rfl) rfl (X.load rfl (F.e 3 rfl) (X.ldN (Try.agg24 _) (Try.siz24 _) (Y.atz (⟨w.heap.size, 0, none⟩) (Y.AtFrom.cons (hC.at 0 rfl) (Y.AtFrom.cons (hC.at 1 rfl) (Y.AtFrom.cons (hC.at 2 rfl) (Y.AtFrom.nil _ _ _))))))) ?_
  clear F ac
  intro ac F
  refine Y.pval F (X.w0 rfl) rfl (X.move rfl (F.e 1 rfl)) ?_
  clear F ac
  intro ac F
  refine Y.pval F (X.w0 rfl) rfl (X.move rfl (F.e 2 rfl)) ?_
  clear F ac
  intro ac F
  refine Y.pcall F (X.w0 rfl) rfl (X.enter (F := 34) rfl (X.kc (.func (.func 34) #[] #[]) rfl) (X.a3 (F.e 50 rfl) (F.e 51 rfl) (F.e 52 rfl)) (enters_of Try.func34 (by kernel_rfl) rfl _)) (noises2_any na n nc gr hold node t nd w13 hnd) ?_
  clear F ac
  rintro e w16 ⟨za15, zm15, zc15, rfl, hz15, g⟩
  refine ⟨_, rfl, ?_⟩
  intro ac F
  replace G := G.trans g
  replace hC := hC.gr g
  replace hnd := hnd.gr g
  replace hz12 := hz12.gr g
  clear g
  refine Y.pval F (X.w0 rfl) rfl (X.move rfl (F.e 53 rfl)) ?_
  clear F ac
  intro ac F
  refine Y.pval F (X.w0 rfl) rfl (X.extract rfl (F.e 49 rfl) rfl) ?_
  clear F ac
  intro ac F
  refine Y.pval F (X.w0 rfl) rfl (X.extract rfl (F.e 49 rfl) rfl) ?_
  clear F ac
  intro ac F
  refine Y.pval F (X.w0 rfl) rfl (X.assign rfl (F.e 54 rfl)) ?_
  clear F ac
  intro ac F
  refine Y.pval F (X.w0 rfl) rfl (X.assign rfl (F.e 55 rfl)) ?_
  clear F ac
  intro ac F
  refine Y.nil ?_
  replace F : Fr ac 67 [(0, .agg #[Vi gr, Vi hold, .slice na n nc]), (1, Vi node), (2, Vi t), (3, Vp w.heap.size), (6, .bool false), (7, Vi (worstV gr hold nd node t)), (8, Vi (nodeE gr hold nd node t)), (9, Vi (worstV gr hold nd node t)), (10, Vi (nodeE gr hold nd node t)), (11, .slice za12 zm12 zc12), (12, .slice za15 zm15 zc15), (18, .bool false), (41, .bool false)] := F.sub _
  refine X.thenN ?_
  refine Y.seq ?_
  refine Y.lit (by kernel_rfl) ?_
  refine Y.pval F (X.w0 rfl) rfl (X.move rfl (F.e 8 rfl)) ?_
  clear F ac
  intro ac F
  refine Y.pval F (X.w0 rfl) rfl (X.move rfl (F.e 10 rfl)) ?_
  clear F ac
  intro ac F
  refine Y.pval F (X.w0 rfl) rfl (X.binop rfl (F.e 56 rfl) (F.e 57 rfl) (X.eqlI Try.underlying26 (show ((nodeE gr hold nd node t : Int) == (nodeE gr hold nd node t)) = true by simp))) ?_
  clear F ac
  intro ac F
  refine Y.pval F (X.w0 rfl) rfl (X.move rfl (F.e 58 rfl)) ?_
  clear F ac
  intro ac F
  refine Y.pval F (X.w1 rfl (F.yl (j := 3) (d := 59) (b := true) rfl (by kernel_rfl))) rfl (X.move rfl (F.e 11 rfl)) ?_
  clear F ac
  intro ac F
  refine Y.pval F (X.w1 rfl (F.yl (j := 3) (d := 59) (b := true) rfl (by kernel_rfl))) rfl (X.move rfl (F.e 12 rfl)) ?_
  clear F ac
  intro ac F
  refine Y.pcall F (X.w1 rfl (F.yl (j := 3) (d := 59) (b := true) rfl (by kernel_rfl))) rfl (X.enter (F := 27) rfl (X.kc (.func (.func 27) #[] #[]) rfl) (X.a2 (F.e 60 rfl) (F.e 61 rfl)) (enters_of Try.func27 (by kernel_rfl) rfl _)) (by have hq := same_any za12 za15 zm12 zc12 zm15 zc15 (noiR gr hold nd node t) (noiR gr hold nd node t) w16 hz12 hz15; rw [decide_eq_true rfl] at hq; exact hq) ?_
  clear F ac
  rintro e w19 ⟨rfl, g⟩
  refine ⟨_, rfl, ?_⟩
  intro ac F
  replace G := G.trans g
  replace hC := hC.gr g
  replace hnd := hnd.gr g
  replace hz12 := hz12.gr g
  replace hz15 := hz15.gr g
  clear g
  refine Y.pval F (X.w0 rfl) rfl (X.pickT rfl (F.e 59 rfl) (F.e 62 rfl)) ?_
  clear F ac
  intro ac F
  refine Y.pval F (X.w0 rfl) rfl (X.move rfl (F.e 63 rfl)) ?_
  clear F ac
  intro ac F
  refine Y.pcall F (X.w1 rfl (F.yl (j := 8) (d := 64) (b := true) rfl (by kernel_rfl))) rfl (X.enter (F := 16) rfl (X.kc (.func (.func 16) #[] #[]) rfl) rfl (enters_of Try.func16 (by kernel_rfl) rfl _)) (works_any w19) ?_
  clear F ac
  rintro e w21 ⟨rfl, g⟩
  refine ⟨_, rfl, ?_⟩
  intro ac F
  replace G := G.trans g
  replace hC := hC.gr g
  replace hnd := hnd.gr g
  replace hz12 := hz12.gr g
  replace hz15 := hz15.gr g
  clear g
  refine Y.pval F (X.w0 rfl) rfl (X.pickT rfl (F.e 64 rfl) (F.e 65 rfl)) ?_
  clear F ac
  intro ac F
  refine Y.pval F (X.w0 rfl) rfl (X.assign rfl (F.e 66 rfl)) ?_
  clear F ac
  intro ac F
  refine Y.nil ?_
  replace F : Fr ac 67 [(0, .agg #[Vi gr, Vi hold, .slice na n nc]), (1, Vi node), (2, Vi t), (3, Vp w.heap.size), (6, .bool true), (7, Vi (worstV gr hold nd node t)), (8, Vi (nodeE gr hold nd node t)), (9, Vi (worstV gr hold nd node t)), (10, Vi (nodeE gr hold nd node t)), (11, .slice za12 zm12 zc12), (12, .slice za15 zm15 zc15), (18, .bool false), (41, .bool false)] := F.sub _
  refine X.thenN ?_
  refine Y.ret ?_
  exact Y.ret0 (v := .bool true) F (Y.rs1 F rfl (by kernel_rfl)) ⟨rfl, G⟩
 | true =>
  try rw [h4] at F
  have h4p : ((100 : Int) < t) := of_decide_eq_true h4
  refine Y.pval F (X.w1 rfl (F.yl (j := 2) (d := 15) (b := true) rfl (by kernel_rfl))) rfl (X.move rfl (F.e 2 rfl)) ?_
  clear F ac
  intro ac F
  refine Y.pval F (X.w1 rfl (F.yl (j := 2) (d := 15) (b := true) rfl (by kernel_rfl))) rfl (X.binop rfl (F.e 16 rfl) (X.kc (Vi 1000) rfl) (X.leqI Try.underlying3 rfl)) ?_
  clear F ac
  intro ac F
  refine Y.pval F (X.w0 rfl) rfl (X.pickT rfl (F.e 15 rfl) (F.e 17 rfl)) ?_
  clear F ac
  intro ac F
  refine Y.nil ?_
  replace F : Fr ac 67 [(0, .agg #[Vi gr, Vi hold, .slice na n nc]), (1, Vi node), (2, Vi t), (3, Vp w.heap.size), (6, .bool false), (18, .bool (decide ((t : Int) ≤ 1000)))] := F.sub _
  refine X.thenN ?_
  cases h22 : decide ((t : Int) ≤ 1000) with
  | false =>
   try rw [h22] at F
   have h22p : ¬ ((t : Int) ≤ 1000) := of_decide_eq_false h22
   refine Y.condF (F.e 18 rfl) ?_
   refine Y.skip ?_
   refine X.thenN ?_
   refine Y.seq ?_
   refine Y.lit (by kernel_rfl) ?_
   refine Y.pval F (X.w0 rfl) rfl (X.load rfl (F.e 3 rfl) (X.ldN (Try.agg24 _) (Try.siz24 _) (Y.atz (⟨w.heap.size, 0, none⟩) (Y.AtFrom.cons (hC.at 0 rfl) (Y.AtFrom.cons (hC.at 1 rfl) (Y.AtFrom.cons (hC.at 2 rfl) (Y.AtFrom.nil _ _ _))))))) ?_
   clear F ac
   intro ac F
   refine Y.pval F (X.w0 rfl) rfl (X.move rfl (F.e 1 rfl)) ?_
   clear F ac
   intro ac F
   refine Y.pval F (X.w0 rfl) rfl (X.move rfl (F.e 2 rfl)) ?_
   clear F ac
   intro ac F
   refine Y.pcall F (X.w0 rfl) rfl (X.enter (F := 20) rfl (X.kc (.func (.func 20) #[] #[]) rfl) (X.a3 (F.e 21 rfl) (F.e 22 rfl) (F.e 23 rfl)) (enters_of Try.func20 (by kernel_rfl) rfl _)) (worst_any na n nc gr hold node t nd w3 hnd) ?_
   clear F ac
   rintro e w25 ⟨rfl, g⟩
   refine ⟨_, rfl, ?_⟩
   intro ac F
   replace G := G.trans g
   replace hC := hC.gr g
   replace hnd := hnd.gr g
   clear g
   refine Y.pval F (X.w0 rfl) rfl (X.move rfl (F.e 24 rfl)) ?_
   clear F ac
   intro ac F
   refine Y.pval F (X.w0 rfl) rfl (X.extract rfl (F.e 20 rfl) rfl) ?_
   clear F ac
   intro ac F
   refine Y.pval F (X.w0 rfl) rfl (X.extract rfl (F.e 20 rfl) rfl) ?_
   clear F ac
   intro ac F
   refine Y.pval F (X.w0 rfl) rfl (X.assign rfl (F.e 25 rfl)) ?_
   clear F ac
   intro ac F
   refine Y.pval F (X.w0 rfl) rfl (X.assign rfl (F.e 26 rfl)) ?_
   clear F ac
   intro ac F
   refine Y.nil ?_
   replace F : Fr ac 67 [(0, .agg #[Vi gr, Vi hold, .slice na n nc]), (1, Vi node), (2, Vi t), (3, Vp w.heap.size), (6, .bool false), (7, Vi (worstV gr hold nd node t)), (8, Vi (nodeE gr hold nd node t)), (18, .bool false)] := F.sub _
   refine X.thenN ?_
   refine Y.seq ?_
   refine Y.lit (by kernel_rfl) ?_
   refine Y.pval F (X.w0 rfl) rfl (X.load rfl (F.e 3 rfl) (X.ldN (Try.agg24 _) (Try.siz24 _) (Y.atz (⟨w.heap.size, 0, none⟩) (Y.AtFrom.cons (hC.at 0 rfl) (Y.AtFrom.cons (hC.at 1 rfl) (Y.AtFrom.cons (hC.at 2 rfl) (Y.AtFrom.nil _ _ _))))))) ?_
   clear F ac
   intro ac F
   refine Y.pval F (X.w0 rfl) rfl (X.move rfl (F.e 1 rfl)) ?_
   clear F ac
   intro ac F
   refine Y.pval F (X.w0 rfl) rfl (X.move rfl (F.e 2 rfl)) ?_
   clear F ac
   intro ac F
   refine Y.pcall F (X.w0 rfl) rfl (X.enter (F := 32) rfl (X.kc (.func (.func 32) #[] #[]) rfl) (X.a3 (F.e 28 rfl) (F.e 29 rfl) (F.e 30 rfl)) (enters_of Try.func32 (by kernel_rfl) rfl _)) (Worst2_any na n nc gr hold node t nd w25 hnd) ?_
   clear F ac
   rintro e w28 ⟨rfl, g⟩
   refine ⟨_, rfl, ?_⟩
   intro ac F
   replace G := G.trans g
   replace hC := hC.gr g
   replace hnd := hnd.gr g
   clear g
   refine Y.pval F (X.w0 rfl) rfl (X.move rfl (F.e 31 rfl)) ?_
   clear F ac
   intro ac F
   refine Y.pval F (X.w0 rfl) rfl (X.extract rfl (F.e 27 rfl) rfl) ?_
   clear F ac
   intro ac F
   refine Y.pval F (X.w0 rfl) rfl (X.extract rfl (F.e 27 rfl) rfl) ?_
   clear F ac
   intro ac F
   refine Y.pval F (X.w0 rfl) rfl (X.assign rfl (F.e 32 rfl)) ?_
   clear F ac
   intro ac F
   refine Y.pval F (X.w0 rfl) rfl (X.assign rfl (F.e 33 rfl)) ?_
   clear F ac
   intro ac F
   refine Y.nil ?_
   replace F : Fr ac 67 [(0, .agg #[Vi gr, Vi hold, .slice na n nc]), (1, Vi node), (2, Vi t), (3, Vp w.heap.size), (6, .bool false), (7, Vi (worstV gr hold nd node t)), (8, Vi (nodeE gr hold nd node t)), (9, Vi (worstV gr hold nd node t)), (10, Vi (nodeE gr hold nd node t)), (18, .bool false)] := F.sub _
   refine X.thenN ?_
   refine Y.seq ?_
   refine Y.seq ?_
   refine Y.lit (by kernel_rfl) ?_
   refine Y.pval F (X.w0 rfl) rfl (X.move rfl (F.e 7 rfl)) ?_
   clear F ac
   intro ac F
   refine Y.pval F (X.w0 rfl) rfl (X.move rfl (F.e 9 rfl)) ?_
   clear F ac
   intro ac F
   refine Y.pval F (X.w0 rfl) rfl (X.binop rfl (F.e 34 rfl) (F.e 35 rfl) (X.neqI Try.underlying3 (show ((worstV gr hold nd node t : Int) != (worstV gr hold nd node t)) = false by simp))) ?_
   clear F ac
   intro ac F
   refine Y.pval F (X.w0 rfl) rfl (X.move rfl (F.e 36 rfl)) ?_
   clear F ac
   intro ac F
   refine Y.pval F (X.w1 rfl (F.yl (j := 3) (d := 37) (b := false) rfl (by kernel_rfl))) rfl (X.move rfl (F.e 8 rfl)) ?_
   clear F ac
   intro ac F
   refine Y.pval F (X.w1 rfl (F.yl (j := 3) (d := 37) (b := false) rfl (by kernel_rfl))) rfl (X.move rfl (F.e 10 rfl)) ?_
   clear F ac
   intro ac F
   refine Y.pval F (X.w1 rfl (F.yl (j := 3) (d := 37) (b := false) rfl (by kernel_rfl))) rfl (X.binop rfl (F.e 38 rfl) (F.e 39 rfl) (X.neqI Try.underlying26 (show ((nodeE gr hold nd node t : Int) != (nodeE gr hold nd node t)) = false by simp))) ?_
   clear F ac
   intro ac F
   refine Y.pval F (X.w0 rfl) rfl (X.pickF rfl (F.e 37 rfl) (F.e 40 rfl)) ?_
   clear F ac
   intro ac F
   refine Y.nil ?_
   replace F : Fr ac 67 [(0, .agg #[Vi gr, Vi hold, .slice na n nc]), (1, Vi node), (2, Vi t), (3, Vp w.heap.size), (6, .bool false), (7, Vi (worstV gr hold nd node t)), (8, Vi (nodeE gr hold nd node t)), (9, Vi (worstV gr hold nd node t)), (10, Vi (nodeE gr hold nd node t)), (18, .bool false), (41, .bool false)] := F.sub _
   refine X.thenN ?_
   refine Y.condF (F.e 41 rfl) ?_
   refine Y.skip ?_
   refine X.thenN ?_
   refine Y.seq ?_
   refine Y.lit (by kernel_rfl) ?_
   refine Y.pval F (X.w0 rfl) rfl (X.load rfl (F.e 3 rfl) (X.ldN (Try.agg24 _) (Try.siz24 _) (Y.atz (⟨w.heap.size, 0, none⟩) (Y.AtFrom.cons (hC.at 0 rfl) (Y.AtFrom.cons (hC.at 1 rfl) (Y.AtFrom.cons (hC.at 2 rfl) (Y.AtFrom.nil _ _ _))))))) ?_
   clear F ac
   intro ac F
   refine Y.pval F (X.w0 rfl) rfl (X.move rfl (F.e 1 rfl)) ?_
   clear F ac
   intro ac F
   refine Y.pval F (X.w0 rfl) rfl (X.move rfl (F.e 2 rfl)) ?_
   clear F ac
   intro ac F
   refine Y.pcall F (X.w0 rfl) rfl (X.enter (F := 33) rfl (X.kc (.func (.func 33) #[] #[]) rfl) (X.a3 (F.e 43 rfl) (F.e 44 rfl) (F.e 45 rfl)) (enters_of Try.func33 (by kernel_rfl) rfl _)) (noises_any na n nc gr hold node t nd w28 hnd) ?_
   clear F ac
   rintro e w31 ⟨za30, zm30, zc30, rfl, hz30, g⟩
   refine ⟨_, rfl, ?_⟩
   intro ac F
   replace G := G.trans g
   replace hC := hC.gr g
   replace hnd := hnd.gr g
   clear g
   refine Y.pval F (X.w0 rfl) rfl (X.move rfl (F.e 46 rfl)) ?_
   clear F ac
   intro ac F
   refine Y.pval F (X.w0 rfl) rfl (X.extract rfl (F.e 42 rfl) rfl) ?_
   clear F ac
   intro ac F
   refine Y.pval F (X.w0 rfl) rfl (X.extract rfl (F.e 42 rfl) rfl) ?_
   clear F ac
   intro ac F
   refine Y.pval F (X.w0 rfl) rfl (X.assign rfl (F.e 47 rfl)) ?_
   clear F ac
   intro ac F
   refine Y.pval F (X.w0 rfl) rfl (X.assign rfl (F.e 48 rfl)) ?_
   clear F ac
   intro ac F
   refine Y.nil ?_
   replace F : Fr ac 67 [(0, .agg #[Vi gr, Vi hold, .slice na n nc]), (1, Vi node), (2, Vi t), (3, Vp w.heap.size), (6, .bool false), (7, Vi (worstV gr hold nd node t)), (8, Vi (nodeE gr hold nd node t)), (9, Vi (worstV gr hold nd node t)), (10, Vi (nodeE gr hold nd node t)), (11, .slice za30 zm30 zc30), (18, .bool false), (41, .bool false)] := F.sub _
   refine X.thenN ?_
   refine Y.seq ?_
   refine Y.lit (by kernel_rfl) ?_
   refine Y.pval F (X.w0 rfl) rfl (X.load rfl (F.e 3 rfl) (X.ldN (Try.agg24 _) (Try.siz24 _) (Y.atz (⟨w.heap.size, 0, none⟩) (Y.AtFrom.cons (hC.at 0 rfl) (Y.AtFrom.cons (hC.at 1 rfl) (Y.AtFrom.cons (hC.at 2 rfl) (Y.AtFrom.nil _ _ _))))))) ?_
   clear F ac
   intro ac F
   refine Y.pval F (X.w0 rfl) rfl (X.move rfl (F.e 1 rfl)) ?_
   clear F ac
   intro ac F
   refine Y.pval F (X.w0 rfl) rfl (X.move rfl (F.e 2 rfl)) ?_
   clear F ac
   intro ac F
   refine Y.pcall F (X.w0 rfl) rfl (X.enter (F := 34) rfl (X.kc (.func (.func 34) #[] #[]) rfl) (X.a3 (F.e 50 rfl) (F.e 51 rfl) (F.e 52 rfl)) (enters_of Try.func34 (by kernel_rfl) rfl _)) (noises2_any na n nc gr hold node t nd w31 hnd) ?_
   clear F ac
   rintro e w34 ⟨za33, zm33, zc33, rfl, hz33, g⟩
   refine ⟨_, rfl, ?_⟩
   intro ac F
   replace G := G.trans g
   replace hC := hC.gr g
   replace hnd := hnd.gr g
   replace hz30 := hz30.gr g
   clear g
   refine Y.pval F (X.w0 rfl) rfl (X.move rfl (F.e 53 rfl)) ?_
   clear F ac
   intro ac F
   refine Y.pval F (X.w0 rfl) rfl (X.extract rfl (F.e 49 rfl) rfl) ?_
   clear F ac
   intro ac F
   refine Y.pval F (X.w0 rfl) rfl (X.extract rfl (F.e 49 rfl) rfl) ?_
   clear F ac
   intro ac F
   refine Y.pval F (X.w0 rfl) rfl (X.assign rfl (F.e 54 rfl)) ?_
   clear F ac
   intro ac F
   refine Y.pval F (X.w0 rfl) rfl (X.assign rfl (F.e 55 rfl)) ?_
   clear F ac
   intro ac F
   refine Y.nil ?_
   replace F : Fr ac 67 [(0, .agg #[Vi gr, Vi hold, .slice na n nc]), (1, Vi node), (2, Vi t), (3, Vp w.heap.size), (6, .bool false), (7, Vi (worstV gr hold nd node t)), (8, Vi (nodeE gr hold nd node t)), (9, Vi (worstV gr hold nd node t)), (10, Vi (nodeE gr hold nd node t)), (11, .slice za30 zm30 zc30), (12, .slice za33 zm33 zc33), (18, .bool false), (41, .bool false)] := F.sub _
   refine X.thenN ?_
   refine Y.seq ?_
   refine Y.lit (by kernel_rfl) ?_
   refine Y.pval F (X.w0 rfl) rfl (X.move rfl (F.e 8 rfl)) ?_
   clear F ac
   intro ac F
   refine Y.pval F (X.w0 rfl) rfl (X.move rfl (F.e 10 rfl)) ?_
   clear F ac
   intro ac F
   refine Y.pval F (X.w0 rfl) rfl (X.binop rfl (F.e 56 rfl) (F.e 57 rfl) (X.eqlI Try.underlying26 (show ((nodeE gr hold nd node t : Int) == (nodeE gr hold nd node t)) = true by simp))) ?_
   clear F ac
   intro ac F
   refine Y.pval F (X.w0 rfl) rfl (X.move rfl (F.e 58 rfl)) ?_
   clear F ac
   intro ac F
   refine Y.pval F (X.w1 rfl (F.yl (j := 3) (d := 59) (b := true) rfl (by kernel_rfl))) rfl (X.move rfl (F.e 11 rfl)) ?_
   clear F ac
   intro ac F
   refine Y.pval F (X.w1 rfl (F.yl (j := 3) (d := 59) (b := true) rfl (by kernel_rfl))) rfl (X.move rfl (F.e 12 rfl)) ?_
   clear F ac
   intro ac F
   refine Y.pcall F (X.w1 rfl (F.yl (j := 3) (d := 59) (b := true) rfl (by kernel_rfl))) rfl (X.enter (F := 27) rfl (X.kc (.func (.func 27) #[] #[]) rfl) (X.a2 (F.e 60 rfl) (F.e 61 rfl)) (enters_of Try.func27 (by kernel_rfl) rfl _)) (by have hq := same_any za30 za33 zm30 zc30 zm33 zc33 (noiR gr hold nd node t) (noiR gr hold nd node t) w34 hz30 hz33; rw [decide_eq_true rfl] at hq; exact hq) ?_
   clear F ac
   rintro e w37 ⟨rfl, g⟩
   refine ⟨_, rfl, ?_⟩
   intro ac F
   replace G := G.trans g
   replace hC := hC.gr g
   replace hnd := hnd.gr g
   replace hz30 := hz30.gr g
   replace hz33 := hz33.gr g
   clear g
   refine Y.pval F (X.w0 rfl) rfl (X.pickT rfl (F.e 59 rfl) (F.e 62 rfl)) ?_
   clear F ac
   intro ac F
   refine Y.pval F (X.w0 rfl) rfl (X.move rfl (F.e 63 rfl)) ?_
   clear F ac
   intro ac F
   refine Y.pcall F (X.w1 rfl (F.yl (j := 8) (d := 64) (b := true) rfl (by kernel_rfl))) rfl (X.enter (F := 16) rfl (X.kc (.func (.func 16) #[] #[]) rfl) rfl (enters_of Try.func16 (by kernel_rfl) rfl _)) (works_any w37) ?_
   clear F ac
   rintro e w39 ⟨rfl, g⟩
   refine ⟨_, rfl, ?_⟩
   intro ac F
   replace G := G.trans g
   replace hC := hC.gr g
   replace hnd := hnd.gr g
   replace hz30 := hz30.gr g
   replace hz33 := hz33.gr g
   clear g
   refine Y.pval F (X.w0 rfl) rfl (X.pickT rfl (F.e 64 rfl) (F.e 65 rfl)) ?_
   clear F ac
   intro ac F
   refine Y.pval F (X.w0 rfl) rfl (X.assign rfl (F.e 66 rfl)) ?_
   clear F ac
   intro ac F
   refine Y.nil ?_
   replace F : Fr ac 67 [(0, .agg #[Vi gr, Vi hold, .slice na n nc]), (1, Vi node), (2, Vi t), (3, Vp w.heap.size), (6, .bool true), (7, Vi (worstV gr hold nd node t)), (8, Vi (nodeE gr hold nd node t)), (9, Vi (worstV gr hold nd node t)), (10, Vi (nodeE gr hold nd node t)), (11, .slice za30 zm30 zc30), (12, .slice za33 zm33 zc33), (18, .bool false), (41, .bool false)] := F.sub _
   refine X.thenN ?_
   refine Y.ret ?_
   exact Y.ret0 (v := .bool true) F (Y.rs1 F rfl (by kernel_rfl)) ⟨rfl, G⟩
  | true =>
   try rw [h22] at F
   have h22p : ((t : Int) ≤ 1000) := of_decide_eq_true h22
   refine Y.condT (F.e 18 rfl) ?_
   refine Y.seq ?_
   refine Y.lit (by kernel_rfl) ?_
   refine Y.pcall F (X.w0 rfl) rfl (X.enter (F := 16) rfl (X.kc (.func (.func 16) #[] #[]) rfl) rfl (enters_of Try.func16 (by kernel_rfl) rfl _)) (works_any w3) ?_
   clear F ac
   rintro e w41 ⟨rfl, g⟩
   refine ⟨_, rfl, ?_⟩
   intro ac F
   replace G := G.trans g
   replace hC := hC.gr g
   replace hnd := hnd.gr g
   clear g
   refine Y.pval F (X.w0 rfl) rfl (X.assign rfl (F.e 19 rfl)) ?_
   clear F ac
   intro ac F
   refine Y.nil ?_
   replace F : Fr ac 67 [(0, .agg #[Vi gr, Vi hold, .slice na n nc]), (1, Vi node), (2, Vi t), (3, Vp w.heap.size), (6, .bool true), (18, .bool true)] := F.sub _
   refine X.thenN ?_
   refine Y.ret ?_
   refine X.thenR ?_
   exact Y.ret0 (v := .bool true) F (Y.rs1 F rfl (by kernel_rfl)) ⟨rfl, G⟩
end
end Go.Proofs.Ytoalamakhjbedaa
