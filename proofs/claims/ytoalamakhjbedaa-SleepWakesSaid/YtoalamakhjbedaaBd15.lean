/- Contract: SleepWakes returns true. -/
import Derived.Test.YtoalamakhjbedaaBd13
import Derived.Test.YtoalamakhjbedaaBd14
namespace Go.Proofs.Ytoalamakhjbedaa
open Go.RowKit

theorem OwnR.slice {w : World} {B e k n : Nat} {v : Value} {xs : List Value} (h : OwnR w B e k v n xs) : ∃ a c, v = .slice a n c := by
  rcases h.shape with ⟨h1, h2⟩ | ⟨g, c, h1, _⟩
  · exact ⟨none, 0, by rw [h1, h2]⟩
  · exact ⟨_, c, h1⟩
theorem Y.b123 {ρ : Operand → Value} {x y z : Operand} {v1 v2 v3 : Value} (h1 : ρ x = v1) (h2 : ρ y = v2) (h3 : ρ z = v3) : [(1, x), (2, y), (3, z)].map (fun p : Nat × Operand => (p.1, ρ p.2)) = [(1, v1), (2, v2), (3, v3)] := by simp [h1, h2, h3]
theorem Try.bd33c (a b c : Int) (W : World) : (Instr.build 33 #[(1, .int .i64 a), (2, .int .i64 b), (3, .int .i64 c)]).run Try.prog W = .ok (.agg #[.int .i64 0, .int .i64 a, .int .i64 b, .int .i64 c]) W := by kernel_rfl
theorem wn_room {nd : List (List Int)} {G : Int} {n z i : Nat} (hz : z ≤ 8) (hn : n ≤ 16) (hi : i ≤ n) : (wnL nd G n z ++ wnN nd G z i).length ≤ 144 := by
  have h1 := wnL_len (nd := nd) (G := G) n z
  have h2 := wnN_len (nd := nd) (G := G) z i
  have h3 : z * n ≤ 8 * 16 := Nat.mul_le_mul hz hn
  rw [List.length_append]
  omega
theorem wn_room2 {nd : List (List Int)} {G : Int} {n g : Nat} (hz : g ≤ 8) (hn : n ≤ 16) : (wnL nd G n g).length ≤ 144 := by
  have h1 := wnL_len (nd := nd) (G := G) n g
  have h3 : g * n ≤ 8 * 16 := Nat.mul_le_mul hz hn
  omega
theorem wn_en2 {gr hold G : Int} {nd : List (List Int)} {n i : Nat} (hn : nd.length = n) (hE : playE gr hold nd 1 (wnL nd G n gr.toNat) = 0) (hG0 : 0 ≤ G) (hG1 : G ≤ 65535) (hi : i < n) : (playEn gr hold nd 1 (wnL nd G n gr.toNat))[i]?.getD 0 = if andV (cv nd i 0) G = 0 then cv nd i 2 else cv nd i 1 := by
  subst hn; exact wk_en hE hG0 hG1 hi
theorem wn_need2 {gr hold need : Int} {nd : List (List Int)} {n : Nat} (hn : nd.length = n) (h : ChOk gr hold nd need) (hE : playE gr hold nd 1 (wnL nd (chG gr hold nd need) n gr.toNat) = 0) :
    andV ((playRows gr hold nd 1 (wnL nd (chG gr hold nd need) n gr.toNat))[0]?.getD 0) need = need := by
  subst hn; exact wk_need h hE
theorem memE_ok {gr hold : Int} {nd : List (List Int)} (hc : cluE gr hold nd = 0) {g : Nat} (hg : (g : Int) < gr) : memE gr hold nd g = 0 := by
  unfold memE
  rw [if_neg (by rw [hc]; simp), withinB_of (by omega) (by omega)]; rfl
theorem wn_valid {gr hold G : Int} {nd : List (List Int)} {n : Nat} (hc : cluE gr hold nd = 0) (hn : nd.length = n) : playE gr hold nd 1 (wnL nd G n gr.toNat) = 0 := wk_valid hc hn

set_option maxRecDepth 100000 in
set_option maxHeartbeats 1000000 in
theorem wakes_any (na : Option Addr) (n nc : Nat) (gr hold need ot : Int) (nd : List (List Int)) (w : World) (hnd : StAt w 5 na n nd) :
  Calls Try.prog 12 #[.agg #[.int .i64 gr, .int .i64 hold, .slice na n nc], .int .i64 need, .int .i64 ot] w fun e w' => e = .returned (.bool true) ∧ Gr w w' := by
 have G := Gr.refl w
 have hlen := hnd.len
 have hlt := hnd.lt
 refine Y.calls 203 Try.func12 rfl rfl ?_
 intro ac F0
 have F : Fr ac 203 [(0, .agg #[.int .i64 gr, .int .i64 hold, .slice na n nc]), (1, .int .i64 need), (2, .int .i64 ot)] := F0.sub _
 clear F0
 refine Y.seq ?_
 refine Y.lit (by kernel_rfl) ?_
 refine Y.pval F (X.w0 rfl) rfl (X.box rfl (F.ev 0 (.agg #[.int .i64 gr, .int .i64 hold, .slice na n nc])) X.bx) ?_
 clear F ac
 intro ac F
 have g := Gr.alloc w (.cells #[.int .i64 gr, .int .i64 hold, .slice na n nc] 24)
 have hb := heap_alloc_new w (.cells #[.int .i64 gr, .int .i64 hold, .slice na n nc] 24)
 have hbl : w.heap.size < (w.alloc (.cells #[.int .i64 gr, .int .i64 hold, .slice na n nc] 24)).heap.size := by simp
 have hC2 : RCells (w.alloc (.cells #[.int .i64 gr, .int .i64 hold, .slice na n nc] 24)) [(⟨w.heap.size, 0, none⟩, .int .i64 gr), (⟨w.heap.size, 1, none⟩, .int .i64 hold), (⟨w.heap.size, 2, none⟩, .slice na n nc)] := (RCells.nil w).box (b := w.heap.size) #[.int .i64 gr, .int .i64 hold, .slice na n nc] 24 rfl
 generalize w.alloc (.cells #[.int .i64 gr, .int .i64 hold, .slice na n nc] 24) = w3 at *
 replace G := G.trans g
 have hC := hC2
 clear hC2
 replace hnd := hnd.gr g
 clear g hb hbl
 refine Y.pval F (X.w0 rfl) rfl (X.assign rfl (X.kc (.bool false) rfl)) ?_
 clear F ac
 intro ac F
 refine Y.nil ?_
 replace F : Fr ac 203 [(0, .agg #[.int .i64 gr, .int .i64 hold, .slice na n nc]), (1, .int .i64 need), (2, .int .i64 ot), (3, .pointer (some ⟨w.heap.size, 0, none⟩)), (6, .bool false)] := F.sub _
 refine X.thenN ?_
 refine Y.seq ?_
 refine Y.lit (by kernel_rfl) ?_
 refine Y.pval F (X.w0 rfl) rfl (X.load rfl (F.ev 3 (.pointer (some ⟨w.heap.size, 0, none⟩))) (X.ldN (Try.agg24 _) (Try.siz24 _) (Y.atz (⟨w.heap.size, 0, none⟩) (Y.AtFrom.cons (hC.at 0 rfl) (Y.AtFrom.cons (hC.at 1 rfl) (Y.AtFrom.cons (hC.at 2 rfl) (Y.AtFrom.nil _ _ _))))))) ?_
 clear F ac
 intro ac F
 refine Y.pval F (X.w0 rfl) rfl (X.move rfl (F.ev 1 (.int .i64 need))) ?_
 clear F ac
 intro ac F
 refine Y.pcall F (X.w0 rfl) rfl (X.enter (F := 35) rfl (X.kc (.func (.func 35) #[] #[]) rfl) (X.a2 (F.ev 24 (.agg #[.int .i64 gr, .int .i64 hold, .slice na n nc])) (F.ev 25 (.int .i64 need))) (enters_of Try.func35 (by kernel_rfl) rfl _)) (choose_any na n nc gr hold need nd w3 hnd) ?_
 clear F ac
 rintro e w5 ⟨rfl, g⟩
 refine ⟨_, rfl, ?_⟩
 intro ac F
 replace G := G.trans g
 replace hC := hC.gr g
 replace hnd := hnd.gr g
 clear g
 refine Y.pval F (X.w0 rfl) rfl (X.move rfl (F.ev 26 (.tuple #[.int .i64 (chG gr hold nd need), .int .i64 (chL gr hold nd need), .int .i64 (chE gr hold nd need)]))) ?_
 clear F ac
 intro ac F
 refine Y.pval F (X.w0 rfl) rfl (X.extract rfl (F.ev 23 (.tuple #[.int .i64 (chG gr hold nd need), .int .i64 (chL gr hold nd need), .int .i64 (chE gr hold nd need)])) rfl) ?_
 clear F ac
 intro ac F
 refine Y.pval F (X.w0 rfl) rfl (X.extract rfl (F.ev 23 (.tuple #[.int .i64 (chG gr hold nd need), .int .i64 (chL gr hold nd need), .int .i64 (chE gr hold nd need)])) rfl) ?_
 clear F ac
 intro ac F
 refine Y.pval F (X.w0 rfl) rfl (X.extract rfl (F.ev 23 (.tuple #[.int .i64 (chG gr hold nd need), .int .i64 (chL gr hold nd need), .int .i64 (chE gr hold nd need)])) rfl) ?_
 clear F ac
 intro ac F
 refine Y.pval F (X.w0 rfl) rfl (X.assign rfl (F.ev 27 (.int .i64 (chG gr hold nd need)))) ?_
 clear F ac
 intro ac F
 refine Y.pval F (X.w0 rfl) rfl (X.assign rfl (F.ev 28 (.int .i64 (chL gr hold nd need)))) ?_
 clear F ac
 intro ac F
 refine Y.pval F (X.w0 rfl) rfl (X.assign rfl (F.ev 29 (.int .i64 (chE gr hold nd need)))) ?_
 clear F ac
 intro ac F
 refine Y.nil ?_
 replace F : Fr ac 203 [(0, .agg #[.int .i64 gr, .int .i64 hold, .slice na n nc]), (1, .int .i64 need), (2, .int .i64 ot), (3, .pointer (some ⟨w.heap.size, 0, none⟩)), (6, .bool false), (7, .int .i64 (chG gr hold nd need)), (8, .int .i64 (chL gr hold nd need)), (9, .int .i64 (chE gr hold nd need))] := F.sub _
 refine X.thenN ?_
 refine Y.seq ?_
 refine Y.seq ?_
 refine Y.lit (by kernel_rfl) ?_
 refine Y.pval F (X.w0 rfl) rfl (X.move rfl (F.ev 9 (.int .i64 (chE gr hold nd need)))) ?_
 clear F ac
 intro ac F
 refine Y.pval F (X.w0 rfl) rfl (X.binop rfl (F.ev 30 (.int .i64 (chE gr hold nd need))) (X.kc (.int .i64 0) rfl) (X.neqI Try.underlying26 rfl)) ?_
 clear F ac
 intro ac F
 refine Y.nil ?_
 replace F : Fr ac 203 [(0, .agg #[.int .i64 gr, .int .i64 hold, .slice na n nc]), (1, .int .i64 need), (2, .int .i64 ot), (3, .pointer (some ⟨w.heap.size, 0, none⟩)), (6, .bool false), (7, .int .i64 (chG gr hold nd need)), (8, .int .i64 (chL gr hold nd need)), (9, .int .i64 (chE gr hold nd need)), (31, .bool ((chE gr hold nd need : Int) != 0))] := F.sub _
 refine X.thenN ?_
 cases h6 : ((chE gr hold nd need : Int) != 0) with
 | false =>
  try rw [h6] at F
  have h6p : (chE gr hold nd need : Int) = 0 := by simpa using h6
  have hch := chE_ok h6p
  have hc := cluE_ok hch.c
  have hg1 := hc.g1
  have hg8 := hc.g8
  have h16 := hc.n16
  have hsh := shl_le8 (g := gr) (by omega) (by omega)
  have htm := tmod_bd ot (q := shlV 1 gr) (by omega)
  refine Y.condF (F.ev 31 (.bool false)) ?_
  refine Y.skip ?_
  refine X.thenN ?_
  refine Y.seq ?_
  refine Y.seq ?_
  refine Y.lit (by kernel_rfl) ?_
  refine Y.pval F (X.w0 rfl) rfl (X.move rfl (F.ev 7 (.int .i64 (chG gr hold nd need)))) ?_
  clear F ac
  intro ac F
  refine Y.pval F (X.w0 rfl) rfl (X.binop rfl (F.ev 33 (.int .i64 (chG gr hold nd need))) (X.kc (.int .i64 0) rfl) (X.lssI Try.underlying3 rfl)) ?_
  clear F ac
  intro ac F
  refine Y.pval F (X.w0 rfl) rfl (X.move rfl (F.ev 34 (.bool (decide ((chG gr hold nd need : Int) < 0))))) ?_
  clear F ac
  intro ac F
  have h8 : decide ((chG gr hold nd need : Int) < 0) = false := decide_eq_false (by have := hch.g0; omega)
  have h8p : ¬ ((chG gr hold nd need : Int) < 0) := of_decide_eq_false h8
  try rw [h8] at F
  refine Y.pval F (X.w1 rfl (F.yl (j := 2) (d := 35) (b := false) rfl (by kernel_rfl))) rfl (X.move rfl (F.ev 7 (.int .i64 (chG gr hold nd need)))) ?_
  clear F ac
  intro ac F
  refine Y.pval F (X.w1 rfl (F.yl (j := 2) (d := 35) (b := false) rfl (by kernel_rfl))) rfl (X.field rfl (F.ev 3 (.pointer (some ⟨w.heap.size, 0, none⟩))) (X.fld Try.underlying24 rfl (Try.siz3 _) rfl rfl)) ?_
  clear F ac
  intro ac F
  refine Y.pval F (X.w1 rfl (F.yl (j := 2) (d := 35) (b := false) rfl (by kernel_rfl))) rfl (X.load rfl (F.ev 37 (.pointer (some ⟨w.heap.size, 0, none⟩))) (X.ld1 (Try.agg3 _) (hC.at 0 rfl))) ?_
  clear F ac
  intro ac F
  refine Y.pval F (X.w1 rfl (F.yl (j := 2) (d := 35) (b := false) rfl (by kernel_rfl))) rfl (X.conv rfl (F.ev 38 (.int .i64 gr)) (X.cv54 Try.underlying3 Try.underlying54 (by omega))) ?_
  clear F ac
  intro ac F
  refine Y.pval F (X.w1 rfl (F.yl (j := 2) (d := 35) (b := false) rfl (by kernel_rfl))) rfl (X.binop rfl (X.kc (.int .i64 1) rfl) (F.ev 39 (.int .u64 gr)) (X.shlI Try.underlying3 rfl (by omega))) ?_
  clear F ac
  intro ac F
  refine Y.pval F (X.w1 rfl (F.yl (j := 2) (d := 35) (b := false) rfl (by kernel_rfl))) rfl (X.binop rfl (F.ev 36 (.int .i64 (chG gr hold nd need))) (F.ev 40 (.int .i64 (shlV 1 (gr : Int)))) (X.geqI Try.underlying3 rfl)) ?_
  clear F ac
  intro ac F
  refine Y.pval F (X.w0 rfl) rfl (X.pickF rfl (F.ev 35 (.bool false)) (F.ev 41 (.bool (decide ((shlV 1 (gr : Int) : Int) ≤ (chG gr hold nd need)))))) ?_
  clear F ac
  intro ac F
  refine Y.nil ?_
  replace F : Fr ac 203 [(0, .agg #[.int .i64 gr, .int .i64 hold, .slice na n nc]), (1, .int .i64 need), (2, .int .i64 ot), (3, .pointer (some ⟨w.heap.size, 0, none⟩)), (6, .bool false), (7, .int .i64 (chG gr hold nd need)), (8, .int .i64 (chL gr hold nd need)), (9, .int .i64 (chE gr hold nd need)), (31, .bool false), (42, .bool (decide ((shlV 1 (gr : Int) : Int) ≤ (chG gr hold nd need))))] := F.sub _
  refine X.thenN ?_
  have h10 : decide ((shlV 1 (gr : Int) : Int) ≤ (chG gr hold nd need)) = false := decide_eq_false (by have := hch.g1; omega)
  have h10p : ¬ ((shlV 1 (gr : Int) : Int) ≤ (chG gr hold nd need)) := of_decide_eq_false h10
  try rw [h10] at F
  refine Y.condF (F.ev 42 (.bool false)) ?_
  refine Y.skip ?_
  refine X.thenN ?_
  refine Y.seq ?_
  refine Y.lit (by kernel_rfl) ?_
  refine Y.pval F (X.w0 rfl) rfl (X.assign rfl (X.kc (.slice none 0 0) rfl)) ?_
  clear F ac
  intro ac F
  refine Y.nil ?_
  replace F : Fr ac 203 [(0, .agg #[.int .i64 gr, .int .i64 hold, .slice na n nc]), (1, .int .i64 need), (2, .int .i64 ot), (3, .pointer (some ⟨w.heap.size, 0, none⟩)), (6, .bool false), (7, .int .i64 (chG gr hold nd need)), (8, .int .i64 (chL gr hold nd need)), (9, .int .i64 (chE gr hold nd need)), (10, .slice none 0 0), (31, .bool false), (42, .bool false)] := F.sub _
  refine X.thenN ?_
  refine Y.seq ?_
  refine Y.seq ?_
  have hO := OwnR.nil w5 w5.heap.size 33 4
  have hnd0 := hnd
  have hC0 := hC
  have G0_ := G
  have GW := Gr.refl w5
  refine Y.lit (by kernel_rfl) ?_
  refine Y.pval F (X.w0 rfl) rfl (X.assign rfl (X.kc (.int .i64 0) rfl)) ?_
  clear F ac
  intro ac F
  refine Y.nil ?_
  replace F : Fr ac 203 [(0, .agg #[.int .i64 gr, .int .i64 hold, .slice na n nc]), (1, .int .i64 need), (2, .int .i64 ot), (3, .pointer (some ⟨w.heap.size, 0, none⟩)), (6, .bool false), (7, .int .i64 (chG gr hold nd need)), (8, .int .i64 (chL gr hold nd need)), (9, .int .i64 (chE gr hold nd need)), (10, (.slice none 0 0)), (11, .int .i64 0), (31, .bool false), (42, .bool false)] := F.sub _
  refine X.thenN ?_
  refine Y.block ?_
  refine Y.loop (fun me_ ac wr => ∃ (z : Nat), ∃ v : Value, me_ = gr.toNat - z ∧ Gr w5 wr ∧ (z : Int) ≤ gr ∧ OwnR wr w5.heap.size 33 4 v (wnL nd (chG gr hold nd need) n z).length (flat4 (wnL nd (chG gr hold nd need) n z)) ∧ Fr ac 203 [(0, .agg #[.int .i64 gr, .int .i64 hold, .slice na n nc]), (1, .int .i64 need), (2, .int .i64 ot), (3, .pointer (some ⟨w.heap.size, 0, none⟩)), (7, .int .i64 (chG gr hold nd need)), (8, .int .i64 (chL gr hold nd need)), (9, .int .i64 (chE gr hold nd need)), (10, v), (11, .int .i64 z), (31, .bool false), (42, .bool false)]) _ ⟨0, _, rfl, GW, by omega, hO, F.sub _⟩ ?_
  clear F GW hnd hO
  intro me_ ac w11 hI
  obtain ⟨z, v, rfl, GW, hz, hO, F⟩ := hI
  replace G := G0_.trans GW
  have hnd := hnd0.gr GW
  replace hC := hC0.gr GW
  refine Y.seq ?_
  refine Y.seq ?_
  refine Y.lit (by kernel_rfl) ?_
  refine Y.pval F (X.w0 rfl) rfl (X.move rfl (F.ev 11 (.int .i64 z))) ?_
  clear F ac
  intro ac F
  refine Y.pval F (X.w0 rfl) rfl (X.field rfl (F.ev 3 (.pointer (some ⟨w.heap.size, 0, none⟩))) (X.fld Try.underlying24 rfl (Try.siz3 _) rfl rfl)) ?_
  clear F ac
  intro ac F
  refine Y.pval F (X.w0 rfl) rfl (X.load rfl (F.ev 44 (.pointer (some ⟨w.heap.size, 0, none⟩))) (X.ld1 (Try.agg3 _) (hC.at 0 rfl))) ?_
  clear F ac
  intro ac F
  refine Y.pval F (X.w0 rfl) rfl (X.binop rfl (F.ev 43 (.int .i64 z)) (F.ev 45 (.int .i64 gr)) (X.lssI Try.underlying3 rfl)) ?_
  clear F ac
  intro ac F
  refine Y.nil ?_
  replace F : Fr ac 203 [(0, .agg #[.int .i64 gr, .int .i64 hold, .slice na n nc]), (1, .int .i64 need), (2, .int .i64 ot), (3, .pointer (some ⟨w.heap.size, 0, none⟩)), (7, .int .i64 (chG gr hold nd need)), (8, .int .i64 (chL gr hold nd need)), (9, .int .i64 (chE gr hold nd need)), (10, v), (11, .int .i64 z), (31, .bool false), (42, .bool false), (46, .bool (decide ((z : Int) < gr)))] := F.sub _
  refine X.thenN ?_
  cases h12 : decide ((z : Int) < gr) with
  | false =>
   try rw [h12] at F
   have h12p : ¬ ((z : Int) < gr) := of_decide_eq_false h12
   obtain rfl : z = gr.toNat := by omega
   refine Y.condF (F.ev 46 (.bool false)) ?_
   refine Y.exit ?_
   refine X.thenX ?_
   refine X.thenX ?_
   refine X.blockX ?_
   refine X.thenN ?_
   refine Y.seq ?_
   obtain ⟨al, alc, rfl, hal⟩ := hO.nudges rfl (fun y hy => by obtain ⟨b, _, j, _, _, _, rfl⟩ := wnL_mem.1 hy; rfl) (by have := wn_room2 (nd := nd) (G := (chG gr hold nd need)) (n := n) (g := gr.toNat) (by omega) (by omega); omega)
   obtain ⟨N, hN⟩ : ∃ N, (wnL nd (chG gr hold nd need) n gr.toNat).length = N := ⟨_, rfl⟩
   rw [hN] at hal F
   clear hO GW
   have hPE : playE gr hold nd 1 (wnL nd (chG gr hold nd need) n gr.toNat) = 0 := wn_valid hch.c hlen
   refine Y.lit (by kernel_rfl) ?_
   refine Y.pval F (X.w0 rfl) rfl (X.load rfl (F.ev 3 (.pointer (some ⟨w.heap.size, 0, none⟩))) (X.ldN (Try.agg24 _) (Try.siz24 _) (Y.atz (⟨w.heap.size, 0, none⟩) (Y.AtFrom.cons (hC.at 0 rfl) (Y.AtFrom.cons (hC.at 1 rfl) (Y.AtFrom.cons (hC.at 2 rfl) (Y.AtFrom.nil _ _ _))))))) ?_
   clear F ac
   intro ac F
   refine Y.pval F (X.w0 rfl) rfl (X.move rfl (F.ev 10 (.slice al N alc))) ?_
   clear F ac
   intro ac F
   refine Y.pcall F (X.w0 rfl) rfl (X.enter (F := 18) rfl (X.kc (.func (.func 18) #[] #[]) rfl) (X.a3 (F.ev 96 (.agg #[.int .i64 gr, .int .i64 hold, .slice na n nc])) (X.kc (.int .i64 1) rfl) (F.ev 97 (.slice al N alc))) (enters_of Try.func18 (by kernel_rfl) rfl _)) (play_any na al n nc N alc gr hold 1 nd (wnL nd (chG gr hold nd need) n gr.toNat) w11 hnd hal) ?_
   clear F ac
   rintro e w14 ⟨ra13, rn13, rc13, ea13, en13, ec13, rfl, hr13, he13, g⟩
   refine ⟨_, rfl, ?_⟩
   intro ac F
   replace G := G.trans g
   replace hC := hC.gr g
   replace hnd := hnd.gr g
   replace hal := hal.gr g
   clear g
   refine Y.pval F (X.w0 rfl) rfl (X.move rfl (F.ev 98 (.tuple #[.slice ra13 rn13 rc13, .slice ea13 en13 ec13, .int .i64 (playE gr hold nd 1 (wnL nd (chG gr hold nd need) n gr.toNat))]))) ?_
   clear F ac
   intro ac F
   refine Y.pval F (X.w0 rfl) rfl (X.extract rfl (F.ev 95 (.tuple #[.slice ra13 rn13 rc13, .slice ea13 en13 ec13, .int .i64 (playE gr hold nd 1 (wnL nd (chG gr hold nd need) n gr.toNat))])) rfl) ?_
   clear F ac
   intro ac F
   refine Y.pval F (X.w0 rfl) rfl (X.extract rfl (F.ev 95 (.tuple #[.slice ra13 rn13 rc13, .slice ea13 en13 ec13, .int .i64 (playE gr hold nd 1 (wnL nd (chG gr hold nd need) n gr.toNat))])) rfl) ?_
   clear F ac
   intro ac F
   refine Y.pval F (X.w0 rfl) rfl (X.extract rfl (F.ev 95 (.tuple #[.slice ra13 rn13 rc13, .slice ea13 en13 ec13, .int .i64 (playE gr hold nd 1 (wnL nd (chG gr hold nd need) n gr.toNat))])) rfl) ?_
   clear F ac
   intro ac F
   refine Y.pval F (X.w0 rfl) rfl (X.assign rfl (F.ev 99 (.slice ra13 rn13 rc13))) ?_
   clear F ac
   intro ac F
   refine Y.pval F (X.w0 rfl) rfl (X.assign rfl (F.ev 100 (.slice ea13 en13 ec13))) ?_
   clear F ac
   intro ac F
   refine Y.pval F (X.w0 rfl) rfl (X.assign rfl (F.ev 101 (.int .i64 (playE gr hold nd 1 (wnL nd (chG gr hold nd need) n gr.toNat))))) ?_
   clear F ac
   intro ac F
   refine Y.nil ?_
   replace F : Fr ac 203 [(0, .agg #[.int .i64 gr, .int .i64 hold, .slice na n nc]), (1, .int .i64 need), (2, .int .i64 ot), (3, .pointer (some ⟨w.heap.size, 0, none⟩)), (7, .int .i64 (chG gr hold nd need)), (8, .int .i64 (chL gr hold nd need)), (9, .int .i64 (playE gr hold nd 1 (wnL nd (chG gr hold nd need) n gr.toNat))), (10, .slice al N alc), (11, .int .i64 gr.toNat), (15, .slice ra13 rn13 rc13), (16, .slice ea13 en13 ec13), (31, .bool false), (42, .bool false), (46, .bool false)] := F.sub _
   refine X.thenN ?_
   refine Y.seq ?_
   refine Y.seq ?_
   refine Y.lit (by kernel_rfl) ?_
   refine Y.pval F (X.w0 rfl) rfl (X.move rfl (F.ev 9 (.int .i64 (playE gr hold nd 1 (wnL nd (chG gr hold nd need) n gr.toNat))))) ?_
   clear F ac
   intro ac F
   refine Y.pval F (X.w0 rfl) rfl (X.binop rfl (F.ev 102 (.int .i64 (playE gr hold nd 1 (wnL nd (chG gr hold nd need) n gr.toNat)))) (X.kc (.int .i64 0) rfl) (X.neqI Try.underlying26 rfl)) ?_
   clear F ac
   intro ac F
   refine Y.pval F (X.w0 rfl) rfl (X.move rfl (F.ev 103 (.bool ((playE gr hold nd 1 (wnL nd (chG gr hold nd need) n gr.toNat) : Int) != 0)))) ?_
   clear F ac
   intro ac F
   have h16 : ((playE gr hold nd 1 (wnL nd (chG gr hold nd need) n gr.toNat) : Int) != 0) = false := by rw [hPE]; rfl
   try rw [h16] at F
   have hPE2 := hPE
   have hok := playE_ok hPE
   have hc := hok.c
   have ht0 := hok.t0
   have h16 := hc.n16
   obtain rfl : rn13 = 1 := by have h8 := (by have h9 := hr13.len; rw [playRows_len hPE] at h9; exact h9); exact h8.symm
   obtain rfl : n = en13 := by have h9 := he13.len; rw [playEn_len hPE, hlen] at h9; exact h9
   refine Y.pval F (X.w1 rfl (F.yl (j := 2) (d := 104) (b := false) rfl (by kernel_rfl))) rfl (X.move rfl (F.ev 15 (.slice ra13 1 rc13))) ?_
   clear F ac
   intro ac F
   refine Y.pval F (X.w1 rfl (F.yl (j := 2) (d := 104) (b := false) rfl (by kernel_rfl))) rfl (X.len1 Try.underlying34 rfl (F.ev 105 (.slice ra13 1 rc13))) ?_
   clear F ac
   intro ac F
   refine Y.pval F (X.w1 rfl (F.yl (j := 2) (d := 104) (b := false) rfl (by kernel_rfl))) rfl (X.binop rfl (F.ev 106 (.int .i64 1)) (X.kc (.int .i64 1) rfl) (X.neqI Try.underlying3 (show ((1 : Int) != 1) = false by simp))) ?_
   clear F ac
   intro ac F
   refine Y.pval F (X.w0 rfl) rfl (X.pickF rfl (F.ev 104 (.bool false)) (F.ev 107 (.bool false))) ?_
   clear F ac
   intro ac F
   refine Y.pval F (X.w0 rfl) rfl (X.move rfl (F.ev 108 (.bool false))) ?_
   clear F ac
   intro ac F
   refine Y.pval F (X.w1 rfl (F.yl (j := 7) (d := 109) (b := false) rfl (by kernel_rfl))) rfl (X.move rfl (F.ev 15 (.slice ra13 1 rc13))) ?_
   clear F ac
   intro ac F
   obtain ⟨pd17, pe17, -, pc17⟩ := hr13.at (j := 0) (by omega)
   subst pe17
   replace hC : RCells w14 [(⟨w.heap.size, 0, none⟩, .int .i64 gr), (⟨w.heap.size, 1, none⟩, .int .i64 hold), (⟨w.heap.size, 2, none⟩, .slice na n nc), (pd17.add 0, .int .i64 ((playRows gr hold nd 1 (wnL nd (chG gr hold nd need) n gr.toNat))[0]?.getD 0))] := hC.append ((RCells.cons pc17 (RCells.nil _)))
   clear pc17
   refine Y.pval F (X.w1 rfl (F.yl (j := 7) (d := 109) (b := false) rfl (by kernel_rfl))) rfl (X.index rfl (F.ev 110 (.slice (some pd17) 1 rc13)) (X.kc (.int .i64 0) rfl) (X.idx (k := 0) Try.underlying34 (Try.siz3 _) (by omega) (by omega) (by rw [Nat.mul_one]))) ?_
   clear F ac
   intro ac F
   refine Y.pval F (X.w1 rfl (F.yl (j := 7) (d := 109) (b := false) rfl (by kernel_rfl))) rfl (X.load rfl (F.ev 111 (.pointer (some (pd17.add 0)))) (X.ld1 (Try.agg3 _) (hC.at 3 rfl))) ?_
   clear F ac
   intro ac F
   refine Y.pval F (X.w1 rfl (F.yl (j := 7) (d := 109) (b := false) rfl (by kernel_rfl))) rfl (X.move rfl (F.ev 1 (.int .i64 need))) ?_
   clear F ac
   intro ac F
   refine Y.pval F (X.w1 rfl (F.yl (j := 7) (d := 109) (b := false) rfl (by kernel_rfl))) rfl (X.binop rfl (F.ev 112 (.int .i64 ((playRows gr hold nd 1 (wnL nd (chG gr hold nd need) n gr.toNat))[0]?.getD 0))) (F.ev 113 (.int .i64 need)) (X.andI Try.underlying3 rfl)) ?_
   clear F ac
   intro ac F
   refine Y.pval F (X.w1 rfl (F.yl (j := 7) (d := 109) (b := false) rfl (by kernel_rfl))) rfl (X.move rfl (F.ev 1 (.int .i64 need))) ?_
   clear F ac
   intro ac F
   refine Y.pval F (X.w1 rfl (F.yl (j := 7) (d := 109) (b := false) rfl (by kernel_rfl))) rfl (X.binop rfl (F.ev 114 (.int .i64 (andV ((playRows gr hold nd 1 (wnL nd (chG gr hold nd need) n gr.toNat))[0]?.getD 0 : Int) (need : Int)))) (F.ev 115 (.int .i64 need)) (X.neqI Try.underlying3 rfl)) ?_
   clear F ac
   intro ac F
   refine Y.pval F (X.w0 rfl) rfl (X.pickF rfl (F.ev 109 (.bool false)) (F.ev 116 (.bool ((andV ((playRows gr hold nd 1 (wnL nd (chG gr hold nd need) n gr.toNat))[0]?.getD 0 : Int) (need : Int) : Int) != need)))) ?_
   clear F ac
   intro ac F
   refine Y.pval F (X.w0 rfl) rfl (X.move rfl (F.ev 117 (.bool ((andV ((playRows gr hold nd 1 (wnL nd (chG gr hold nd need) n gr.toNat))[0]?.getD 0 : Int) (need : Int) : Int) != need)))) ?_
   clear F ac
   intro ac F
   have h19 : ((andV ((playRows gr hold nd 1 (wnL nd (chG gr hold nd need) n gr.toNat))[0]?.getD 0 : Int) (need : Int) : Int) != need) = false := by rw [wn_need2 hlen hch hPE]; simp
   try rw [h19] at F
   refine Y.pval F (X.w1 rfl (F.yl (j := 16) (d := 118) (b := false) rfl (by kernel_rfl))) rfl (X.move rfl (F.ev 16 (.slice ea13 n ec13))) ?_
   clear F ac
   intro ac F
   refine Y.pval F (X.w1 rfl (F.yl (j := 16) (d := 118) (b := false) rfl (by kernel_rfl))) rfl (X.len1 Try.underlying34 rfl (F.ev 119 (.slice ea13 n ec13))) ?_
   clear F ac
   intro ac F
   refine Y.pval F (X.w1 rfl (F.yl (j := 16) (d := 118) (b := false) rfl (by kernel_rfl))) rfl (X.field rfl (F.ev 3 (.pointer (some ⟨w.heap.size, 0, none⟩))) (X.fld Try.underlying24 rfl (Try.siz22 _) rfl rfl)) ?_
   clear F ac
   intro ac F
   refine Y.pval F (X.w1 rfl (F.yl (j := 16) (d := 118) (b := false) rfl (by kernel_rfl))) rfl (X.load rfl (F.ev 121 (.pointer (some ⟨w.heap.size, 2, none⟩))) (X.ld1 (Try.agg22 _) (hC.at 2 rfl))) ?_
   clear F ac
   intro ac F
   refine Y.pval F (X.w1 rfl (F.yl (j := 16) (d := 118) (b := false) rfl (by kernel_rfl))) rfl (X.len1 Try.underlying22 rfl (F.ev 122 (.slice na n nc))) ?_
   clear F ac
   intro ac F
   refine Y.pval F (X.w1 rfl (F.yl (j := 16) (d := 118) (b := false) rfl (by kernel_rfl))) rfl (X.binop rfl (F.ev 120 (.int .i64 n)) (F.ev 123 (.int .i64 n)) (X.neqI Try.underlying3 (show ((n : Int) != n) = false by simp))) ?_
   clear F ac
   intro ac F
   refine Y.pval F (X.w0 rfl) rfl (X.pickF rfl (F.ev 118 (.bool false)) (F.ev 124 (.bool false))) ?_
   clear F ac
   intro ac F
   refine Y.nil ?_
   replace F : Fr ac 203 [(0, .agg #[.int .i64 gr, .int .i64 hold, .slice na n nc]), (1, .int .i64 need), (2, .int .i64 ot), (3, .pointer (some ⟨w.heap.size, 0, none⟩)), (7, .int .i64 (chG gr hold nd need)), (8, .int .i64 (chL gr hold nd need)), (9, .int .i64 (playE gr hold nd 1 (wnL nd (chG gr hold nd need) n gr.toNat))), (10, .slice al N alc), (11, .int .i64 gr.toNat), (15, .slice (some pd17) 1 rc13), (16, .slice ea13 n ec13), (31, .bool false), (42, .bool false), (46, .bool false), (125, .bool false)] := F.sub _
   refine X.thenN ?_
   refine Y.condF (F.ev 125 (.bool false)) ?_
   refine Y.skip ?_
   refine X.thenN ?_
   refine Y.seq ?_
   refine Y.lit (by kernel_rfl) ?_
   refine Y.pval F (X.w0 rfl) rfl (X.assign rfl (X.kc (.int .i64 0) rfl)) ?_
   clear F ac
   intro ac F
   refine Y.nil ?_
   replace F : Fr ac 203 [(0, .agg #[.int .i64 gr, .int .i64 hold, .slice na n nc]), (1, .int .i64 need), (2, .int .i64 ot), (3, .pointer (some ⟨w.heap.size, 0, none⟩)), (7, .int .i64 (chG gr hold nd need)), (8, .int .i64 (chL gr hold nd need)), (9, .int .i64 (playE gr hold nd 1 (wnL nd (chG gr hold nd need) n gr.toNat))), (10, .slice al N alc), (11, .int .i64 gr.toNat), (15, .slice (some pd17) 1 rc13), (16, .slice ea13 n ec13), (17, .int .i64 0), (31, .bool false), (42, .bool false), (46, .bool false), (125, .bool false)] := F.sub _
   refine X.thenN ?_
   refine Y.seq ?_
   refine Y.seq ?_
   refine Y.lit (by kernel_rfl) ?_
   refine Y.pval F (X.w0 rfl) rfl (X.assign rfl (X.kc (.int .i64 0) rfl)) ?_
   clear F ac
   intro ac F
   refine Y.nil ?_
   replace F : Fr ac 203 [(0, .agg #[.int .i64 gr, .int .i64 hold, .slice na n nc]), (1, .int .i64 need), (2, .int .i64 ot), (3, .pointer (some ⟨w.heap.size, 0, none⟩)), (7, .int .i64 (chG gr hold nd need)), (8, .int .i64 (chL gr hold nd need)), (9, .int .i64 (playE gr hold nd 1 (wnL nd (chG gr hold nd need) n gr.toNat))), (10, .slice al N alc), (11, .int .i64 gr.toNat), (15, .slice (some pd17) 1 rc13), (16, .slice ea13 n ec13), (17, .int .i64 0), (18, .int .i64 0), (31, .bool false), (42, .bool false), (46, .bool false), (125, .bool false)] := F.sub _
   refine X.thenN ?_
   refine Y.block ?_
   have hndBB := hnd
   have halBB := hal
   have hr13BB := hr13
   have he13BB := he13
   have hCBB := hC
   have GBB := G
   refine Y.loop (fun me_ ac wr => ∃ (j : Nat), me_ = n - j ∧ Gr w14 wr ∧ j ≤ n ∧ Fr ac 203 [(0, .agg #[.int .i64 gr, .int .i64 hold, .slice na n nc]), (1, .int .i64 need), (2, .int .i64 ot), (3, .pointer (some ⟨w.heap.size, 0, none⟩)), (7, .int .i64 (chG gr hold nd need)), (8, .int .i64 (chL gr hold nd need)), (9, .int .i64 (playE gr hold nd 1 (wnL nd (chG gr hold nd need) n gr.toNat))), (10, .slice al N alc), (11, .int .i64 gr.toNat), (15, .slice (some pd17) 1 rc13), (16, .slice ea13 n ec13), (17, .int .i64 (sumC nd (chG gr hold nd need) j)), (18, .int .i64 j), (31, .bool false), (42, .bool false), (46, .bool false), (125, .bool false)]) _ ⟨0, rfl, Gr.refl _, Nat.zero_le _, F.sub _⟩ ?_
   clear F
   intro me_ ac w20 hI
   obtain ⟨j, rfl, gr, hi, F⟩ := hI
   replace G := GBB.trans gr
   replace hC := hCBB.gr gr
   replace hnd := hndBB.gr gr
   replace hal := halBB.gr gr
   replace hr13 := hr13BB.gr gr
   replace he13 := he13BB.gr gr
   have GBB_ := gr
   clear gr
   refine Y.seq ?_
   refine Y.seq ?_
   refine Y.lit (by kernel_rfl) ?_
   refine Y.pval F (X.w0 rfl) rfl (X.move rfl (F.ev 18 (.int .i64 j))) ?_
   clear F ac
   intro ac F
   refine Y.pval F (X.w0 rfl) rfl (X.move rfl (F.ev 16 (.slice ea13 n ec13))) ?_
   clear F ac
   intro ac F
   refine Y.pval F (X.w0 rfl) rfl (X.len1 Try.underlying34 rfl (F.ev 127 (.slice ea13 n ec13))) ?_
   clear F ac
   intro ac F
   refine Y.pval F (X.w0 rfl) rfl (X.binop rfl (F.ev 126 (.int .i64 j)) (F.ev 128 (.int .i64 n)) (X.lssI Try.underlying3 rfl)) ?_
   clear F ac
   intro ac F
   refine Y.nil ?_
   replace F : Fr ac 203 [(0, .agg #[.int .i64 gr, .int .i64 hold, .slice na n nc]), (1, .int .i64 need), (2, .int .i64 ot), (3, .pointer (some ⟨w.heap.size, 0, none⟩)), (7, .int .i64 (chG gr hold nd need)), (8, .int .i64 (chL gr hold nd need)), (9, .int .i64 (playE gr hold nd 1 (wnL nd (chG gr hold nd need) n gr.toNat))), (10, .slice al N alc), (11, .int .i64 gr.toNat), (15, .slice (some pd17) 1 rc13), (16, .slice ea13 n ec13), (17, .int .i64 (sumC nd (chG gr hold nd need) j)), (18, .int .i64 j), (31, .bool false), (42, .bool false), (46, .bool false), (125, .bool false), (129, .bool (decide ((j : Int) < n)))] := F.sub _
   refine X.thenN ?_
   cases h21 : decide ((j : Int) < n) with
   | false =>
    try rw [h21] at F
    have h21p : ¬ ((j : Int) < n) := of_decide_eq_false h21
    obtain rfl : n = j := by omega
    refine Y.condF (F.ev 129 (.bool false)) ?_
    refine Y.exit ?_
    refine X.thenX ?_
    refine X.thenX ?_
    refine X.blockX ?_
    refine X.thenN ?_
    refine Y.seq ?_
    refine Y.lit (by kernel_rfl) ?_
    refine Y.pval F (X.w0 rfl) rfl (X.field rfl (F.ev 3 (.pointer (some ⟨w.heap.size, 0, none⟩))) (X.fld Try.underlying24 rfl (Try.siz3 _) rfl rfl)) ?_
    clear F ac
    intro ac F
    refine Y.pval F (X.w0 rfl) rfl (X.load rfl (F.ev 138 (.pointer (some ⟨w.heap.size, 0, none⟩))) (X.ld1 (Try.agg3 _) (hC.at 0 rfl))) ?_
    clear F ac
    intro ac F
    refine Y.pval F (X.w0 rfl) rfl (X.conv rfl (F.ev 139 (.int .i64 gr)) (X.cv54 Try.underlying3 Try.underlying54 (by omega))) ?_
    clear F ac
    intro ac F
    refine Y.pval F (X.w0 rfl) rfl (X.binop rfl (X.kc (.int .i64 1) rfl) (F.ev 140 (.int .u64 gr)) (X.shlI Try.underlying3 rfl (by omega))) ?_
    clear F ac
    intro ac F
    refine Y.pval F (X.w0 rfl) rfl (X.assign rfl (F.ev 141 (.int .i64 (shlV 1 (gr : Int))))) ?_
    clear F ac
    intro ac F
    refine Y.nil ?_
    replace F : Fr ac 203 [(0, .agg #[.int .i64 gr, .int .i64 hold, .slice na n nc]), (1, .int .i64 need), (2, .int .i64 ot), (3, .pointer (some ⟨w.heap.size, 0, none⟩)), (7, .int .i64 (chG gr hold nd need)), (8, .int .i64 (chL gr hold nd need)), (9, .int .i64 (playE gr hold nd 1 (wnL nd (chG gr hold nd need) n gr.toNat))), (10, .slice al N alc), (11, .int .i64 gr.toNat), (15, .slice (some pd17) 1 rc13), (16, .slice ea13 n ec13), (17, .int .i64 (sumC nd (chG gr hold nd need) n)), (18, .int .i64 n), (19, .int .i64 (shlV 1 (gr : Int))), (31, .bool false), (42, .bool false), (46, .bool false), (125, .bool false), (129, .bool false)] := F.sub _
    refine X.thenN ?_
    refine Y.seq ?_
    refine Y.lit (by kernel_rfl) ?_
    refine Y.pval F (X.w0 rfl) rfl (X.move rfl (F.ev 2 (.int .i64 ot))) ?_
    clear F ac
    intro ac F
    refine Y.pval F (X.w0 rfl) rfl (X.move rfl (F.ev 19 (.int .i64 (shlV 1 (gr : Int))))) ?_
    clear F ac
    intro ac F
    refine Y.pval F (X.w0 rfl) rfl (X.binop rfl (F.ev 142 (.int .i64 ot)) (F.ev 143 (.int .i64 (shlV 1 (gr : Int)))) (X.remT Try.underlying3 rfl (by omega) (by omega))) ?_
    clear F ac
    intro ac F
    refine Y.pval F (X.w0 rfl) rfl (X.move rfl (F.ev 19 (.int .i64 (shlV 1 (gr : Int))))) ?_
    clear F ac
    intro ac F
    refine Y.pval F (X.w0 rfl) rfl (X.binop rfl (F.ev 144 (.int .i64 (Int.tmod ot (shlV 1 gr)))) (F.ev 145 (.int .i64 (shlV 1 (gr : Int)))) (X.addI Try.underlying3 rfl (by omega) (by omega))) ?_
    clear F ac
    intro ac F
    refine Y.pval F (X.w0 rfl) rfl (X.move rfl (F.ev 19 (.int .i64 (shlV 1 (gr : Int))))) ?_
    clear F ac
    intro ac F
    refine Y.pval F (X.w0 rfl) rfl (X.binop rfl (F.ev 146 (.int .i64 ((Int.tmod ot (shlV 1 gr) : Int) + (shlV 1 (gr : Int))))) (F.ev 147 (.int .i64 (shlV 1 (gr : Int)))) (X.remI Try.underlying3 rfl (by omega) (by omega))) ?_
    clear F ac
    intro ac F
    refine Y.pval F (X.w0 rfl) rfl (X.assign rfl (F.ev 148 (.int .i64 (((Int.tmod ot (shlV 1 gr) : Int) + (shlV 1 (gr : Int)) : Int) % (shlV 1 (gr : Int) : Int))))) ?_
    clear F ac
    intro ac F
    refine Y.nil ?_
    replace F : Fr ac 203 [(0, .agg #[.int .i64 gr, .int .i64 hold, .slice na n nc]), (1, .int .i64 need), (2, .int .i64 (((Int.tmod ot (shlV 1 gr) : Int) + (shlV 1 (gr : Int)) : Int) % (shlV 1 (gr : Int) : Int))), (3, .pointer (some ⟨w.heap.size, 0, none⟩)), (7, .int .i64 (chG gr hold nd need)), (8, .int .i64 (chL gr hold nd need)), (9, .int .i64 (playE gr hold nd 1 (wnL nd (chG gr hold nd need) n gr.toNat))), (10, .slice al N alc), (11, .int .i64 gr.toNat), (15, .slice (some pd17) 1 rc13), (16, .slice ea13 n ec13), (17, .int .i64 (sumC nd (chG gr hold nd need) n)), (18, .int .i64 n), (19, .int .i64 (shlV 1 (gr : Int))), (31, .bool false), (42, .bool false), (46, .bool false), (125, .bool false), (129, .bool false)] := F.sub _
    refine X.thenN ?_
    refine Y.seq ?_
    obtain ⟨o, ho⟩ : ∃ o : Int, ((Int.tmod ot (shlV 1 gr) : Int) + shlV 1 gr) % shlV 1 gr = o := ⟨_, rfl⟩
    have ho0 : 0 ≤ o := by rw [← ho]; exact Int.emod_nonneg _ (by omega)
    have ho1 : o < shlV 1 gr := by rw [← ho]; exact Int.emod_lt_of_pos _ (by omega)
    rw [show (((Int.tmod ot (shlV 1 gr) : Int) + (shlV 1 (gr : Int)) : Int) % (shlV 1 (gr : Int) : Int) : Int) = o from ho] at F
    refine Y.lit (by kernel_rfl) ?_
    refine Y.pval F (X.w0 rfl) rfl (X.assign rfl (X.kc (.int .i64 0) rfl)) ?_
    clear F ac
    intro ac F
    refine Y.nil ?_
    replace F : Fr ac 203 [(0, .agg #[.int .i64 gr, .int .i64 hold, .slice na n nc]), (1, .int .i64 need), (2, .int .i64 o), (3, .pointer (some ⟨w.heap.size, 0, none⟩)), (7, .int .i64 (chG gr hold nd need)), (8, .int .i64 (chL gr hold nd need)), (9, .int .i64 (playE gr hold nd 1 (wnL nd (chG gr hold nd need) n gr.toNat))), (10, .slice al N alc), (11, .int .i64 gr.toNat), (15, .slice (some pd17) 1 rc13), (16, .slice ea13 n ec13), (17, .int .i64 (sumC nd (chG gr hold nd need) n)), (18, .int .i64 n), (19, .int .i64 (shlV 1 (gr : Int))), (20, .int .i64 0), (31, .bool false), (42, .bool false), (46, .bool false), (125, .bool false), (129, .bool false)] := F.sub _
    refine X.thenN ?_
    refine Y.seq ?_
    refine Y.lit (by kernel_rfl) ?_
    refine Y.pval F (X.w0 rfl) rfl (X.assign rfl (X.kc (.bool true) rfl)) ?_
    clear F ac
    intro ac F
    refine Y.nil ?_
    replace F : Fr ac 203 [(0, .agg #[.int .i64 gr, .int .i64 hold, .slice na n nc]), (1, .int .i64 need), (2, .int .i64 o), (3, .pointer (some ⟨w.heap.size, 0, none⟩)), (7, .int .i64 (chG gr hold nd need)), (8, .int .i64 (chL gr hold nd need)), (9, .int .i64 (playE gr hold nd 1 (wnL nd (chG gr hold nd need) n gr.toNat))), (10, .slice al N alc), (11, .int .i64 gr.toNat), (15, .slice (some pd17) 1 rc13), (16, .slice ea13 n ec13), (17, .int .i64 (sumC nd (chG gr hold nd need) n)), (18, .int .i64 n), (19, .int .i64 (shlV 1 (gr : Int))), (20, .int .i64 0), (21, .bool true), (31, .bool false), (42, .bool false), (46, .bool false), (125, .bool false), (129, .bool false)] := F.sub _
    refine X.thenN ?_
    refine Y.seq ?_
    refine Y.seq ?_
    refine Y.lit (by kernel_rfl) ?_
    refine Y.pval F (X.w0 rfl) rfl (X.assign rfl (X.kc (.int .i64 0) rfl)) ?_
    clear F ac
    intro ac F
    refine Y.nil ?_
    replace F : Fr ac 203 [(0, .agg #[.int .i64 gr, .int .i64 hold, .slice na n nc]), (1, .int .i64 need), (2, .int .i64 o), (3, .pointer (some ⟨w.heap.size, 0, none⟩)), (7, .int .i64 (chG gr hold nd need)), (8, .int .i64 (chL gr hold nd need)), (9, .int .i64 (playE gr hold nd 1 (wnL nd (chG gr hold nd need) n gr.toNat))), (10, .slice al N alc), (11, .int .i64 gr.toNat), (15, .slice (some pd17) 1 rc13), (16, .slice ea13 n ec13), (17, .int .i64 (sumC nd (chG gr hold nd need) n)), (18, .int .i64 n), (19, .int .i64 (shlV 1 (gr : Int))), (20, .int .i64 0), (21, .bool true), (22, .int .i64 0), (31, .bool false), (42, .bool false), (46, .bool false), (125, .bool false), (129, .bool false)] := F.sub _
    refine X.thenN ?_
    refine Y.block ?_
    have hndBBB := hnd
    have halBBB := hal
    have hr13BBB := hr13
    have he13BBB := he13
    have hCBBB := hC
    have GBBB := G
    refine Y.loop (fun me_ ac wr => ∃ (q : Nat), me_ = n - q ∧ Gr w20 wr ∧ q ≤ n ∧ Fr ac 203 [(0, .agg #[.int .i64 gr, .int .i64 hold, .slice na n nc]), (1, .int .i64 need), (2, .int .i64 o), (3, .pointer (some ⟨w.heap.size, 0, none⟩)), (7, .int .i64 (chG gr hold nd need)), (8, .int .i64 (chL gr hold nd need)), (9, .int .i64 (playE gr hold nd 1 (wnL nd (chG gr hold nd need) n gr.toNat))), (10, .slice al N alc), (11, .int .i64 gr.toNat), (15, .slice (some pd17) 1 rc13), (16, .slice ea13 n ec13), (17, .int .i64 (sumC nd (chG gr hold nd need) n)), (18, .int .i64 n), (19, .int .i64 (shlV 1 (gr : Int))), (20, .int .i64 (sumC nd o q)), (21, .bool (allC nd need o q)), (22, .int .i64 q), (31, .bool false), (42, .bool false), (46, .bool false), (125, .bool false), (129, .bool false)]) _ ⟨0, rfl, Gr.refl _, Nat.zero_le _, F.sub _⟩ ?_
    clear F
    intro me_ ac w22 hI
    obtain ⟨q, rfl, gr, hi, F⟩ := hI
    replace G := GBBB.trans gr
    replace hC := hCBBB.gr gr
    replace hnd := hndBBB.gr gr
    replace hal := halBBB.gr gr
    replace hr13 := hr13BBB.gr gr
    replace he13 := he13BBB.gr gr
    replace GBB_ := GBB_.trans gr
    have GBBB_ := gr
    clear gr
    refine Y.seq ?_
    refine Y.seq ?_
    refine Y.lit (by kernel_rfl) ?_
    refine Y.pval F (X.w0 rfl) rfl (X.move rfl (F.ev 22 (.int .i64 q))) ?_
    clear F ac
    intro ac F
    refine Y.pval F (X.w0 rfl) rfl (X.field rfl (F.ev 3 (.pointer (some ⟨w.heap.size, 0, none⟩))) (X.fld Try.underlying24 rfl (Try.siz22 _) rfl rfl)) ?_
    clear F ac
    intro ac F
    refine Y.pval F (X.w0 rfl) rfl (X.load rfl (F.ev 150 (.pointer (some ⟨w.heap.size, 2, none⟩))) (X.ld1 (Try.agg22 _) (hC.at 2 rfl))) ?_
    clear F ac
    intro ac F
    refine Y.pval F (X.w0 rfl) rfl (X.len1 Try.underlying22 rfl (F.ev 151 (.slice na n nc))) ?_
    clear F ac
    intro ac F
    refine Y.pval F (X.w0 rfl) rfl (X.binop rfl (F.ev 149 (.int .i64 q)) (F.ev 152 (.int .i64 n)) (X.lssI Try.underlying3 rfl)) ?_
    clear F ac
    intro ac F
    refine Y.nil ?_
    replace F : Fr ac 203 [(0, .agg #[.int .i64 gr, .int .i64 hold, .slice na n nc]), (1, .int .i64 need), (2, .int .i64 o), (3, .pointer (some ⟨w.heap.size, 0, none⟩)), (7, .int .i64 (chG gr hold nd need)), (8, .int .i64 (chL gr hold nd need)), (9, .int .i64 (playE gr hold nd 1 (wnL nd (chG gr hold nd need) n gr.toNat))), (10, .slice al N alc), (11, .int .i64 gr.toNat), (15, .slice (some pd17) 1 rc13), (16, .slice ea13 n ec13), (17, .int .i64 (sumC nd (chG gr hold nd need) n)), (18, .int .i64 n), (19, .int .i64 (shlV 1 (gr : Int))), (20, .int .i64 (sumC nd o q)), (21, .bool (allC nd need o q)), (22, .int .i64 q), (31, .bool false), (42, .bool false), (46, .bool false), (125, .bool false), (129, .bool false), (153, .bool (decide ((q : Int) < n)))] := F.sub _
    refine X.thenN ?_
    cases h23 : decide ((q : Int) < n) with
    | false =>
     try rw [h23] at F
     have h23p : ¬ ((q : Int) < n) := of_decide_eq_false h23
     obtain rfl : n = q := by omega
     refine Y.condF (F.ev 153 (.bool false)) ?_
     refine Y.exit ?_
     refine X.thenX ?_
     refine X.thenX ?_
     refine X.blockX ?_
     refine X.thenN ?_
     refine Y.seq ?_
     refine Y.lit (by kernel_rfl) ?_
     refine Y.pval F (X.w0 rfl) rfl (X.move rfl (F.ev 17 (.int .i64 (sumC nd (chG gr hold nd need) n)))) ?_
     clear F ac
     intro ac F
     refine Y.pval F (X.w0 rfl) rfl (X.move rfl (F.ev 8 (.int .i64 (chL gr hold nd need)))) ?_
     clear F ac
     intro ac F
     refine Y.pval F (X.w0 rfl) rfl (X.binop rfl (F.ev 188 (.int .i64 (sumC nd (chG gr hold nd need) n))) (F.ev 189 (.int .i64 (chL gr hold nd need))) (X.eqlI Try.underlying3 rfl)) ?_
     clear F ac
     intro ac F
     refine Y.pval F (X.w0 rfl) rfl (X.move rfl (F.ev 190 (.bool ((sumC nd (chG gr hold nd need) n : Int) == (chL gr hold nd need))))) ?_
     clear F ac
     intro ac F
     have h25 : ((sumC nd (chG gr hold nd need) n : Int) == (chL gr hold nd need)) = true := by have := hch.l; rw [hlen] at this; rw [this]; simp
     try rw [h25] at F
     refine Y.pval F (X.w1 rfl (F.yl (j := 3) (d := 191) (b := true) rfl (by kernel_rfl))) rfl (X.move rfl (F.ev 21 (.bool (allC nd need o n)))) ?_
     clear F ac
     intro ac F
     refine Y.pval F (X.w1 rfl (F.yl (j := 3) (d := 191) (b := true) rfl (by kernel_rfl))) rfl (X.notB rfl (F.ev 192 (.bool (allC nd need o n))) rfl) ?_
     clear F ac
     intro ac F
     refine Y.pval F (X.w1 rfl (F.yl (j := 3) (d := 191) (b := true) rfl (by kernel_rfl))) rfl (X.move rfl (F.ev 193 (.bool (!(allC nd need o n))))) ?_
     clear F ac
     intro ac F
     cases h26 : allC nd need o n with
     | false =>
      try rw [h26] at F
      refine Y.pskip F (X.w2 rfl (F.yl (j := 6) (d := 194) (b := true) rfl (by kernel_rfl)) rfl) rfl ?_
      clear F ac
      intro ac F
      refine Y.pskip F (X.w2 rfl (F.yl (j := 6) (d := 194) (b := true) rfl (by kernel_rfl)) rfl) rfl ?_
      clear F ac
      intro ac F
      refine Y.pskip F (X.w2 rfl (F.yl (j := 6) (d := 194) (b := true) rfl (by kernel_rfl)) rfl) rfl ?_
      clear F ac
      intro ac F
      refine Y.pval F (X.w1 rfl (F.yl (j := 3) (d := 191) (b := true) rfl (by kernel_rfl))) rfl (X.pickT rfl (F.ev 194 (.bool true)) (X.kc (.bool true) rfl)) ?_
      clear F ac
      intro ac F
      refine Y.pval F (X.w0 rfl) rfl (X.pickT rfl (F.ev 191 (.bool true)) (F.ev 198 (.bool true))) ?_
      clear F ac
      intro ac F
      refine Y.pval F (X.w0 rfl) rfl (X.move rfl (F.ev 199 (.bool true))) ?_
      clear F ac
      intro ac F
      refine Y.pcall F (X.w1 rfl (F.yl (j := 12) (d := 200) (b := true) rfl (by kernel_rfl))) rfl (X.enter (F := 16) rfl (X.kc (.func (.func 16) #[] #[]) rfl) rfl (enters_of Try.func16 (by kernel_rfl) rfl _)) (works_any w22) ?_
      clear F ac
      rintro e w28 ⟨rfl, g⟩
      refine ⟨_, rfl, ?_⟩
      intro ac F
      replace G := G.trans g
      replace hC := hC.gr g
      replace GBB_ := GBB_.trans g
      replace GBBB_ := GBBB_.trans g
      replace hnd := hnd.gr g
      replace hal := hal.gr g
      replace hr13 := hr13.gr g
      replace he13 := he13.gr g
      clear g
      refine Y.pval F (X.w0 rfl) rfl (X.pickT rfl (F.ev 200 (.bool true)) (F.ev 201 (.bool true))) ?_
      clear F ac
      intro ac F
      refine Y.pval F (X.w0 rfl) rfl (X.assign rfl (F.ev 202 (.bool true))) ?_
      clear F ac
      intro ac F
      refine Y.nil ?_
      replace F : Fr ac 203 [(0, .agg #[.int .i64 gr, .int .i64 hold, .slice na n nc]), (1, .int .i64 need), (2, .int .i64 o), (3, .pointer (some ⟨w.heap.size, 0, none⟩)), (6, .bool true), (7, .int .i64 (chG gr hold nd need)), (8, .int .i64 (chL gr hold nd need)), (9, .int .i64 (playE gr hold nd 1 (wnL nd (chG gr hold nd need) n gr.toNat))), (10, .slice al N alc), (11, .int .i64 gr.toNat), (15, .slice (some pd17) 1 rc13), (16, .slice ea13 n ec13), (17, .int .i64 (sumC nd (chG gr hold nd need) n)), (18, .int .i64 n), (19, .int .i64 (shlV 1 (gr : Int))), (20, .int .i64 (sumC nd o n)), (21, .bool false), (22, .int .i64 n), (31, .bool false), (42, .bool false), (46, .bool false), (125, .bool false), (129, .bool false), (153, .bool false)] := F.sub _
      refine X.thenN ?_
      refine Y.ret ?_
      exact Y.ret0 (v := .bool true) F (Y.rs1 F rfl (by kernel_rfl)) ⟨rfl, G⟩
     | true =>
      try rw [h26] at F
      refine Y.pval F (X.w1 rfl (F.yl (j := 6) (d := 194) (b := false) rfl (by kernel_rfl))) rfl (X.move rfl (F.ev 20 (.int .i64 (sumC nd o n)))) ?_
      clear F ac
      intro ac F
      refine Y.pval F (X.w1 rfl (F.yl (j := 6) (d := 194) (b := false) rfl (by kernel_rfl))) rfl (X.move rfl (F.ev 8 (.int .i64 (chL gr hold nd need)))) ?_
      clear F ac
      intro ac F
      refine Y.pval F (X.w1 rfl (F.yl (j := 6) (d := 194) (b := false) rfl (by kernel_rfl))) rfl (X.binop rfl (F.ev 195 (.int .i64 (sumC nd o n))) (F.ev 196 (.int .i64 (chL gr hold nd need))) (X.geqI Try.underlying3 rfl)) ?_
      clear F ac
      intro ac F
      refine Y.pval F (X.w1 rfl (F.yl (j := 3) (d := 191) (b := true) rfl (by kernel_rfl))) rfl (X.pickF rfl (F.ev 194 (.bool false)) (F.ev 197 (.bool (decide ((chL gr hold nd need : Int) ≤ (sumC nd o n)))))) ?_
      clear F ac
      intro ac F
      refine Y.pval F (X.w0 rfl) rfl (X.pickT rfl (F.ev 191 (.bool true)) (F.ev 198 (.bool (decide ((chL gr hold nd need : Int) ≤ (sumC nd o n)))))) ?_
      clear F ac
      intro ac F
      refine Y.pval F (X.w0 rfl) rfl (X.move rfl (F.ev 199 (.bool (decide ((chL gr hold nd need : Int) ≤ (sumC nd o n)))))) ?_
      clear F ac
      intro ac F
      have h30 : decide ((chL gr hold nd need : Int) ≤ (sumC nd o n)) = true := decide_eq_true (by have := hch.opt o ho0 ho1 (by rw [hlen]; exact h26); rw [hlen] at this; exact this)
      have h30p : ((chL gr hold nd need : Int) ≤ (sumC nd o n)) := of_decide_eq_true h30
      try rw [h30] at F
      refine Y.pcall F (X.w1 rfl (F.yl (j := 12) (d := 200) (b := true) rfl (by kernel_rfl))) rfl (X.enter (F := 16) rfl (X.kc (.func (.func 16) #[] #[]) rfl) rfl (enters_of Try.func16 (by kernel_rfl) rfl _)) (works_any w22) ?_
      clear F ac
      rintro e w32 ⟨rfl, g⟩
      refine ⟨_, rfl, ?_⟩
      intro ac F
      replace G := G.trans g
      replace hC := hC.gr g
      replace GBB_ := GBB_.trans g
      replace GBBB_ := GBBB_.trans g
      replace hnd := hnd.gr g
      replace hal := hal.gr g
      replace hr13 := hr13.gr g
      replace he13 := he13.gr g
      clear g
      refine Y.pval F (X.w0 rfl) rfl (X.pickT rfl (F.ev 200 (.bool true)) (F.ev 201 (.bool true))) ?_
      clear F ac
      intro ac F
      refine Y.pval F (X.w0 rfl) rfl (X.assign rfl (F.ev 202 (.bool true))) ?_
      clear F ac
      intro ac F
      refine Y.nil ?_
      replace F : Fr ac 203 [(0, .agg #[.int .i64 gr, .int .i64 hold, .slice na n nc]), (1, .int .i64 need), (2, .int .i64 o), (3, .pointer (some ⟨w.heap.size, 0, none⟩)), (6, .bool true), (7, .int .i64 (chG gr hold nd need)), (8, .int .i64 (chL gr hold nd need)), (9, .int .i64 (playE gr hold nd 1 (wnL nd (chG gr hold nd need) n gr.toNat))), (10, .slice al N alc), (11, .int .i64 gr.toNat), (15, .slice (some pd17) 1 rc13), (16, .slice ea13 n ec13), (17, .int .i64 (sumC nd (chG gr hold nd need) n)), (18, .int .i64 n), (19, .int .i64 (shlV 1 (gr : Int))), (20, .int .i64 (sumC nd o n)), (21, .bool true), (22, .int .i64 n), (31, .bool false), (42, .bool false), (46, .bool false), (125, .bool false), (129, .bool false), (153, .bool false)] := F.sub _
      refine X.thenN ?_
      refine Y.ret ?_
      exact Y.ret0 (v := .bool true) F (Y.rs1 F rfl (by kernel_rfl)) ⟨rfl, G⟩
    | true =>
     try rw [h23] at F
     have h23p : ((q : Int) < n) := of_decide_eq_true h23
     have hsb := sumC_bd hc o q (by omega)
     have ha := hc.awk q (by omega)
     have hb := hc.asl q (by omega)
     refine Y.condT (F.ev 153 (.bool true)) ?_
     refine Y.skip ?_
     refine X.thenN ?_
     refine Y.seq ?_
     refine Y.block ?_
     refine Y.seq ?_
     refine Y.lit (by kernel_rfl) ?_
     refine Y.pval F (X.w0 rfl) rfl (X.field rfl (F.ev 3 (.pointer (some ⟨w.heap.size, 0, none⟩))) (X.fld Try.underlying24 rfl (Try.siz22 _) rfl rfl)) ?_
     clear F ac
     intro ac F
     refine Y.pval F (X.w0 rfl) rfl (X.load rfl (F.ev 156 (.pointer (some ⟨w.heap.size, 2, none⟩))) (X.ld1 (Try.agg22 _) (hC.at 2 rfl))) ?_
     clear F ac
     intro ac F
     refine Y.pval F (X.w0 rfl) rfl (X.move rfl (F.ev 22 (.int .i64 q))) ?_
     clear F ac
     intro ac F
     obtain ⟨pd33, pe33, -, -, pc33⟩ := hnd.at (j := q) (by omega)
     subst pe33
     replace hC : RCells w22 [(⟨w.heap.size, 0, none⟩, .int .i64 gr), (⟨w.heap.size, 1, none⟩, .int .i64 hold), (⟨w.heap.size, 2, none⟩, .slice (some pd33) n nc), (pd17.add 0, .int .i64 ((playRows gr hold nd 1 (wnL nd (chG gr hold nd need) n gr.toNat))[0]?.getD 0)), (pd33.add (q * 5), .int .i64 (cv nd q 0)), (⟨(pd33.add (q * 5)).block, (pd33.add (q * 5)).off + 1, none⟩, .int .i64 (cv nd q 1)), (⟨(pd33.add (q * 5)).block, (pd33.add (q * 5)).off + 2, none⟩, .int .i64 (cv nd q 2)), (⟨(pd33.add (q * 5)).block, (pd33.add (q * 5)).off + 3, none⟩, .int .i64 (cv nd q 3)), (⟨(pd33.add (q * 5)).block, (pd33.add (q * 5)).off + 4, none⟩, .int .i64 (cv nd q 4))] := hC.append ((RCells.cons (pc33 0 (by decide)) (RCells.cons (pc33 1 (by decide)) (RCells.cons (pc33 2 (by decide)) (RCells.cons (pc33 3 (by decide)) (RCells.cons (pc33 4 (by decide)) (RCells.nil _)))))))
     clear pc33
     refine Y.pval F (X.w0 rfl) rfl (X.index rfl (F.ev 157 (.slice (some pd33) n nc)) (F.ev 158 (.int .i64 q)) (X.idx (k := q) Try.underlying22 (Try.siz31 _) (by omega) (by omega) rfl)) ?_
     clear F ac
     intro ac F
     refine Y.pval F (X.w0 rfl) rfl (X.field rfl (F.ev 159 (.pointer (some (pd33.add (q * 5))))) (X.fld Try.underlying31 rfl (Try.siz3 _) rfl rfl)) ?_
     clear F ac
     intro ac F
     refine Y.pval F (X.w0 rfl) rfl (X.load rfl (F.ev 160 (.pointer (some (pd33.add (q * 5))))) (X.ld1 (Try.agg3 _) (hC.at 4 rfl))) ?_
     clear F ac
     intro ac F
     refine Y.pval F (X.w0 rfl) rfl (X.move rfl (F.ev 2 (.int .i64 o))) ?_
     clear F ac
     intro ac F
     refine Y.pval F (X.w0 rfl) rfl (X.binop rfl (F.ev 161 (.int .i64 (cv nd q 0))) (F.ev 162 (.int .i64 o)) (X.andI Try.underlying3 rfl)) ?_
     clear F ac
     intro ac F
     refine Y.pval F (X.w0 rfl) rfl (X.binop rfl (F.ev 163 (.int .i64 (andV (cv nd q 0 : Int) (o : Int)))) (X.kc (.int .i64 0) rfl) (X.neqI Try.underlying3 rfl)) ?_
     clear F ac
     intro ac F
     refine Y.nil ?_
     replace F : Fr ac 203 [(0, .agg #[.int .i64 gr, .int .i64 hold, .slice (some pd33) n nc]), (1, .int .i64 need), (2, .int .i64 o), (3, .pointer (some ⟨w.heap.size, 0, none⟩)), (7, .int .i64 (chG gr hold nd need)), (8, .int .i64 (chL gr hold nd need)), (9, .int .i64 (playE gr hold nd 1 (wnL nd (chG gr hold nd need) n gr.toNat))), (10, .slice al N alc), (11, .int .i64 gr.toNat), (15, .slice (some pd17) 1 rc13), (16, .slice ea13 n ec13), (17, .int .i64 (sumC nd (chG gr hold nd need) n)), (18, .int .i64 n), (19, .int .i64 (shlV 1 (gr : Int))), (20, .int .i64 (sumC nd o q)), (21, .bool (allC nd need o q)), (22, .int .i64 q), (31, .bool false), (42, .bool false), (46, .bool false), (125, .bool false), (129, .bool false), (153, .bool true), (164, .bool ((andV (cv nd q 0 : Int) (o : Int) : Int) != 0))] := F.sub _
     refine X.thenN ?_
     cases h34 : ((andV (cv nd q 0 : Int) (o : Int) : Int) != 0) with
     | false =>
      try rw [h34] at F
      have h34p : (andV (cv nd q 0 : Int) (o : Int) : Int) = 0 := by simpa using h34
      refine Y.condF (F.ev 164 (.bool false)) ?_
      refine Y.seq ?_
      refine Y.lit (by kernel_rfl) ?_
      refine Y.pval F (X.w0 rfl) rfl (X.move rfl (F.ev 20 (.int .i64 (sumC nd o q)))) ?_
      clear F ac
      intro ac F
      refine Y.pval F (X.w0 rfl) rfl (X.field rfl (F.ev 3 (.pointer (some ⟨w.heap.size, 0, none⟩))) (X.fld Try.underlying24 rfl (Try.siz22 _) rfl rfl)) ?_
      clear F ac
      intro ac F
      refine Y.pval F (X.w0 rfl) rfl (X.load rfl (F.ev 174 (.pointer (some ⟨w.heap.size, 2, none⟩))) (X.ld1 (Try.agg22 _) (hC.at 2 rfl))) ?_
      clear F ac
      intro ac F
      refine Y.pval F (X.w0 rfl) rfl (X.move rfl (F.ev 22 (.int .i64 q))) ?_
      clear F ac
      intro ac F
      refine Y.pval F (X.w0 rfl) rfl (X.index rfl (F.ev 175 (.slice (some pd33) n nc)) (F.ev 176 (.int .i64 q)) (X.idx (k := q) Try.underlying22 (Try.siz31 _) (by omega) (by omega) rfl)) ?_
      clear F ac
      intro ac F
      refine Y.pval F (X.w0 rfl) rfl (X.field rfl (F.ev 177 (.pointer (some (pd33.add (q * 5))))) (X.fld Try.underlying31 rfl (Try.siz3 _) rfl rfl)) ?_
      clear F ac
      intro ac F
      refine Y.pval F (X.w0 rfl) rfl (X.load rfl (F.ev 178 (.pointer (some (⟨(pd33.add (q * 5)).block, (pd33.add (q * 5)).off + 2, none⟩)))) (X.ld1 (Try.agg3 _) (hC.at 6 rfl))) ?_
      clear F ac
      intro ac F
      refine Y.pval F (X.w0 rfl) rfl (X.binop rfl (F.ev 173 (.int .i64 (sumC nd o q))) (F.ev 179 (.int .i64 (cv nd q 2))) (X.addI Try.underlying3 rfl (by omega) (by omega))) ?_
      clear F ac
      intro ac F
      refine Y.pval F (X.w0 rfl) rfl (X.assign rfl (F.ev 180 (.int .i64 ((sumC nd o q : Int) + (cv nd q 2))))) ?_
      clear F ac
      intro ac F
      refine Y.nil ?_
      replace F : Fr ac 203 [(0, .agg #[.int .i64 gr, .int .i64 hold, .slice (some pd33) n nc]), (1, .int .i64 need), (2, .int .i64 o), (3, .pointer (some ⟨w.heap.size, 0, none⟩)), (7, .int .i64 (chG gr hold nd need)), (8, .int .i64 (chL gr hold nd need)), (9, .int .i64 (playE gr hold nd 1 (wnL nd (chG gr hold nd need) n gr.toNat))), (10, .slice al N alc), (11, .int .i64 gr.toNat), (15, .slice (some pd17) 1 rc13), (16, .slice ea13 n ec13), (17, .int .i64 (sumC nd (chG gr hold nd need) n)), (18, .int .i64 n), (19, .int .i64 (shlV 1 (gr : Int))), (20, .int .i64 ((sumC nd o q : Int) + (cv nd q 2))), (21, .bool (allC nd need o q)), (22, .int .i64 q), (31, .bool false), (42, .bool false), (46, .bool false), (125, .bool false), (129, .bool false), (153, .bool true), (164, .bool false)] := F.sub _
      refine X.thenN ?_
      refine Y.lit (by kernel_rfl) ?_
      refine Y.pval F (X.w0 rfl) rfl (X.move rfl (F.ev 21 (.bool (allC nd need o q)))) ?_
      clear F ac
      intro ac F
      refine Y.pval F (X.w0 rfl) rfl (X.move rfl (F.ev 181 (.bool (allC nd need o q)))) ?_
      clear F ac
      intro ac F
      cases h35 : allC nd need o q with
      | false =>
       try rw [h35] at F
       refine Y.pskip F (X.w2 rfl (F.yl (j := 1) (d := 182) (b := false) rfl (by kernel_rfl)) rfl) rfl ?_
       clear F ac
       intro ac F
       refine Y.pskip F (X.w2 rfl (F.yl (j := 1) (d := 182) (b := false) rfl (by kernel_rfl)) rfl) rfl ?_
       clear F ac
       intro ac F
       refine Y.pskip F (X.w2 rfl (F.yl (j := 1) (d := 182) (b := false) rfl (by kernel_rfl)) rfl) rfl ?_
       clear F ac
       intro ac F
       refine Y.pskip F (X.w2 rfl (F.yl (j := 1) (d := 182) (b := false) rfl (by kernel_rfl)) rfl) rfl ?_
       clear F ac
       intro ac F
       refine Y.pval F (X.w0 rfl) rfl (X.pickF rfl (F.ev 182 (.bool false)) (X.kc (.bool false) rfl)) ?_
       clear F ac
       intro ac F
       refine Y.pval F (X.w0 rfl) rfl (X.assign rfl (F.ev 187 (.bool false))) ?_
       clear F ac
       intro ac F
       refine Y.nil ?_
       replace F : Fr ac 203 [(0, .agg #[.int .i64 gr, .int .i64 hold, .slice (some pd33) n nc]), (1, .int .i64 need), (2, .int .i64 o), (3, .pointer (some ⟨w.heap.size, 0, none⟩)), (7, .int .i64 (chG gr hold nd need)), (8, .int .i64 (chL gr hold nd need)), (9, .int .i64 (playE gr hold nd 1 (wnL nd (chG gr hold nd need) n gr.toNat))), (10, .slice al N alc), (11, .int .i64 gr.toNat), (15, .slice (some pd17) 1 rc13), (16, .slice ea13 n ec13), (17, .int .i64 (sumC nd (chG gr hold nd need) n)), (18, .int .i64 n), (19, .int .i64 (shlV 1 (gr : Int))), (20, .int .i64 ((sumC nd o q : Int) + (cv nd q 2))), (21, .bool false), (22, .int .i64 q), (31, .bool false), (42, .bool false), (46, .bool false), (125, .bool false), (129, .bool false), (153, .bool true), (164, .bool false)] := F.sub _
       refine X.blockN ?_
       refine X.thenN ?_
       refine Y.lit (by kernel_rfl) ?_
       refine Y.pval F (X.w0 rfl) rfl (X.move rfl (F.ev 22 (.int .i64 q))) ?_
       clear F ac
       intro ac F
       refine Y.pval F (X.w0 rfl) rfl (X.binop rfl (F.ev 154 (.int .i64 q)) (X.kc (.int .i64 1) rfl) (X.addI Try.underlying3 rfl (by omega) (by omega))) ?_
       clear F ac
       intro ac F
       refine Y.pval F (X.w0 rfl) rfl (X.assign rfl (F.ev 155 (.int .i64 ((q : Int) + 1)))) ?_
       clear F ac
       intro ac F
       refine Y.nil ?_
       replace F : Fr ac 203 [(0, .agg #[.int .i64 gr, .int .i64 hold, .slice (some pd33) n nc]), (1, .int .i64 need), (2, .int .i64 o), (3, .pointer (some ⟨w.heap.size, 0, none⟩)), (7, .int .i64 (chG gr hold nd need)), (8, .int .i64 (chL gr hold nd need)), (9, .int .i64 (playE gr hold nd 1 (wnL nd (chG gr hold nd need) n gr.toNat))), (10, .slice al N alc), (11, .int .i64 gr.toNat), (15, .slice (some pd17) 1 rc13), (16, .slice ea13 n ec13), (17, .int .i64 (sumC nd (chG gr hold nd need) n)), (18, .int .i64 n), (19, .int .i64 (shlV 1 (gr : Int))), (20, .int .i64 ((sumC nd o q : Int) + (cv nd q 2))), (21, .bool false), (22, .int .i64 ((q : Int) + 1)), (31, .bool false), (42, .bool false), (46, .bool false), (125, .bool false), (129, .bool false), (153, .bool true), (164, .bool false)] := F.sub _
       refine X.thenN ?_
       refine ⟨_, ?_, q + 1, rfl, GBBB_, by omega, (by rw [show sumC nd o (q + 1) = sumC nd o q + cv nd q 2 from by simp only [sumC]; rw [if_pos h34p], show allC nd need o (q + 1) = false from by simp [allC, h35]]; exact F.sub _)⟩
       omega
      | true =>
       try rw [h35] at F
       refine Y.pval F (X.w1 rfl (F.yl (j := 1) (d := 182) (b := true) rfl (by kernel_rfl))) rfl (X.move rfl (F.ev 1 (.int .i64 need))) ?_
       clear F ac
       intro ac F
       refine Y.pval F (X.w1 rfl (F.yl (j := 1) (d := 182) (b := true) rfl (by kernel_rfl))) rfl (X.move rfl (F.ev 22 (.int .i64 q))) ?_
       clear F ac
       intro ac F
       refine Y.pcall F (X.w1 rfl (F.yl (j := 1) (d := 182) (b := true) rfl (by kernel_rfl))) rfl (X.enter (F := 17) rfl (X.kc (.func (.func 17) #[] #[]) rfl) (X.a2 (F.ev 183 (.int .i64 need)) (F.ev 184 (.int .i64 q))) (enters_of Try.func17 (by kernel_rfl) rfl _)) (bit_any need q w22 (by omega)) ?_
       clear F ac
       rintro e w' ⟨rfl, hw_⟩
       obtain rfl : w22 = w' := hw_.symm
       clear hw_
       refine ⟨_, rfl, ?_⟩
       intro ac F
       refine Y.pval F (X.w1 rfl (F.yl (j := 1) (d := 182) (b := true) rfl (by kernel_rfl))) rfl (X.notB rfl (F.ev 185 (.bool (bitB need q))) rfl) ?_
       clear F ac
       intro ac F
       refine Y.pval F (X.w0 rfl) rfl (X.pickT rfl (F.ev 182 (.bool true)) (F.ev 186 (.bool (!(bitB need q))))) ?_
       clear F ac
       intro ac F
       refine Y.pval F (X.w0 rfl) rfl (X.assign rfl (F.ev 187 (.bool (!(bitB need q))))) ?_
       clear F ac
       intro ac F
       refine Y.nil ?_
       replace F : Fr ac 203 [(0, .agg #[.int .i64 gr, .int .i64 hold, .slice (some pd33) n nc]), (1, .int .i64 need), (2, .int .i64 o), (3, .pointer (some ⟨w.heap.size, 0, none⟩)), (7, .int .i64 (chG gr hold nd need)), (8, .int .i64 (chL gr hold nd need)), (9, .int .i64 (playE gr hold nd 1 (wnL nd (chG gr hold nd need) n gr.toNat))), (10, .slice al N alc), (11, .int .i64 gr.toNat), (15, .slice (some pd17) 1 rc13), (16, .slice ea13 n ec13), (17, .int .i64 (sumC nd (chG gr hold nd need) n)), (18, .int .i64 n), (19, .int .i64 (shlV 1 (gr : Int))), (20, .int .i64 ((sumC nd o q : Int) + (cv nd q 2))), (21, .bool (!(bitB need q))), (22, .int .i64 q), (31, .bool false), (42, .bool false), (46, .bool false), (125, .bool false), (129, .bool false), (153, .bool true), (164, .bool false)] := F.sub _
       refine X.blockN ?_
       refine X.thenN ?_
       refine Y.lit (by kernel_rfl) ?_
       refine Y.pval F (X.w0 rfl) rfl (X.move rfl (F.ev 22 (.int .i64 q))) ?_
       clear F ac
       intro ac F
       refine Y.pval F (X.w0 rfl) rfl (X.binop rfl (F.ev 154 (.int .i64 q)) (X.kc (.int .i64 1) rfl) (X.addI Try.underlying3 rfl (by omega) (by omega))) ?_
       clear F ac
       intro ac F
       refine Y.pval F (X.w0 rfl) rfl (X.assign rfl (F.ev 155 (.int .i64 ((q : Int) + 1)))) ?_
       clear F ac
       intro ac F
       refine Y.nil ?_
       replace F : Fr ac 203 [(0, .agg #[.int .i64 gr, .int .i64 hold, .slice (some pd33) n nc]), (1, .int .i64 need), (2, .int .i64 o), (3, .pointer (some ⟨w.heap.size, 0, none⟩)), (7, .int .i64 (chG gr hold nd need)), (8, .int .i64 (chL gr hold nd need)), (9, .int .i64 (playE gr hold nd 1 (wnL nd (chG gr hold nd need) n gr.toNat))), (10, .slice al N alc), (11, .int .i64 gr.toNat), (15, .slice (some pd17) 1 rc13), (16, .slice ea13 n ec13), (17, .int .i64 (sumC nd (chG gr hold nd need) n)), (18, .int .i64 n), (19, .int .i64 (shlV 1 (gr : Int))), (20, .int .i64 ((sumC nd o q : Int) + (cv nd q 2))), (21, .bool (!(bitB need q))), (22, .int .i64 ((q : Int) + 1)), (31, .bool false), (42, .bool false), (46, .bool false), (125, .bool false), (129, .bool false), (153, .bool true), (164, .bool false)] := F.sub _
       refine X.thenN ?_
       refine ⟨_, ?_, q + 1, rfl, GBBB_, by omega, (by rw [show sumC nd o (q + 1) = sumC nd o q + cv nd q 2 from by simp only [sumC]; rw [if_pos h34p], show allC nd need o (q + 1) = !(bitB need q) from by simp [allC, h35, h34p]]; exact F.sub _)⟩
       omega
     | true =>
      try rw [h34] at F
      have h34p : ¬ (andV (cv nd q 0 : Int) (o : Int) : Int) = 0 := by simpa using h34
      refine Y.condT (F.ev 164 (.bool true)) ?_
      refine Y.lit (by kernel_rfl) ?_
      refine Y.pval F (X.w0 rfl) rfl (X.move rfl (F.ev 20 (.int .i64 (sumC nd o q)))) ?_
      clear F ac
      intro ac F
      refine Y.pval F (X.w0 rfl) rfl (X.field rfl (F.ev 3 (.pointer (some ⟨w.heap.size, 0, none⟩))) (X.fld Try.underlying24 rfl (Try.siz22 _) rfl rfl)) ?_
      clear F ac
      intro ac F
      refine Y.pval F (X.w0 rfl) rfl (X.load rfl (F.ev 166 (.pointer (some ⟨w.heap.size, 2, none⟩))) (X.ld1 (Try.agg22 _) (hC.at 2 rfl))) ?_
      clear F ac
      intro ac F
      refine Y.pval F (X.w0 rfl) rfl (X.move rfl (F.ev 22 (.int .i64 q))) ?_
      clear F ac
      intro ac F
      refine Y.pval F (X.w0 rfl) rfl (X.index rfl (F.ev 167 (.slice (some pd33) n nc)) (F.ev 168 (.int .i64 q)) (X.idx (k := q) Try.underlying22 (Try.siz31 _) (by omega) (by omega) rfl)) ?_
      clear F ac
      intro ac F
      refine Y.pval F (X.w0 rfl) rfl (X.field rfl (F.ev 169 (.pointer (some (pd33.add (q * 5))))) (X.fld Try.underlying31 rfl (Try.siz3 _) rfl rfl)) ?_
      clear F ac
      intro ac F
      refine Y.pval F (X.w0 rfl) rfl (X.load rfl (F.ev 170 (.pointer (some (⟨(pd33.add (q * 5)).block, (pd33.add (q * 5)).off + 1, none⟩)))) (X.ld1 (Try.agg3 _) (hC.at 5 rfl))) ?_
      clear F ac
      intro ac F
      refine Y.pval F (X.w0 rfl) rfl (X.binop rfl (F.ev 165 (.int .i64 (sumC nd o q))) (F.ev 171 (.int .i64 (cv nd q 1))) (X.addI Try.underlying3 rfl (by omega) (by omega))) ?_
      clear F ac
      intro ac F
      refine Y.pval F (X.w0 rfl) rfl (X.assign rfl (F.ev 172 (.int .i64 ((sumC nd o q : Int) + (cv nd q 1))))) ?_
      clear F ac
      intro ac F
      refine Y.nil ?_
      replace F : Fr ac 203 [(0, .agg #[.int .i64 gr, .int .i64 hold, .slice (some pd33) n nc]), (1, .int .i64 need), (2, .int .i64 o), (3, .pointer (some ⟨w.heap.size, 0, none⟩)), (7, .int .i64 (chG gr hold nd need)), (8, .int .i64 (chL gr hold nd need)), (9, .int .i64 (playE gr hold nd 1 (wnL nd (chG gr hold nd need) n gr.toNat))), (10, .slice al N alc), (11, .int .i64 gr.toNat), (15, .slice (some pd17) 1 rc13), (16, .slice ea13 n ec13), (17, .int .i64 (sumC nd (chG gr hold nd need) n)), (18, .int .i64 n), (19, .int .i64 (shlV 1 (gr : Int))), (20, .int .i64 ((sumC nd o q : Int) + (cv nd q 1))), (21, .bool (allC nd need o q)), (22, .int .i64 q), (31, .bool false), (42, .bool false), (46, .bool false), (125, .bool false), (129, .bool false), (153, .bool true), (164, .bool true)] := F.sub _
      refine X.blockN ?_
      refine X.thenN ?_
      refine Y.lit (by kernel_rfl) ?_
      refine Y.pval F (X.w0 rfl) rfl (X.move rfl (F.ev 22 (.int .i64 q))) ?_
      clear F ac
      intro ac F
      refine Y.pval F (X.w0 rfl) rfl (X.binop rfl (F.ev 154 (.int .i64 q)) (X.kc (.int .i64 1) rfl) (X.addI Try.underlying3 rfl (by omega) (by omega))) ?_
      clear F ac
      intro ac F
      refine Y.pval F (X.w0 rfl) rfl (X.assign rfl (F.ev 155 (.int .i64 ((q : Int) + 1)))) ?_
      clear F ac
      intro ac F
      refine Y.nil ?_
      replace F : Fr ac 203 [(0, .agg #[.int .i64 gr, .int .i64 hold, .slice (some pd33) n nc]), (1, .int .i64 need), (2, .int .i64 o), (3, .pointer (some ⟨w.heap.size, 0, none⟩)), (7, .int .i64 (chG gr hold nd need)), (8, .int .i64 (chL gr hold nd need)), (9, .int .i64 (playE gr hold nd 1 (wnL nd (chG gr hold nd need) n gr.toNat))), (10, .slice al N alc), (11, .int .i64 gr.toNat), (15, .slice (some pd17) 1 rc13), (16, .slice ea13 n ec13), (17, .int .i64 (sumC nd (chG gr hold nd need) n)), (18, .int .i64 n), (19, .int .i64 (shlV 1 (gr : Int))), (20, .int .i64 ((sumC nd o q : Int) + (cv nd q 1))), (21, .bool (allC nd need o q)), (22, .int .i64 ((q : Int) + 1)), (31, .bool false), (42, .bool false), (46, .bool false), (125, .bool false), (129, .bool false), (153, .bool true), (164, .bool true)] := F.sub _
      refine X.thenN ?_
      refine ⟨_, ?_, q + 1, rfl, GBBB_, by omega, (by rw [show sumC nd o (q + 1) = sumC nd o q + cv nd q 1 from by simp only [sumC]; rw [if_neg h34p], show allC nd need o (q + 1) = allC nd need o q from by simp [allC, h34p]]; exact F.sub _)⟩
      omega
   | true =>
    try rw [h21] at F
    have h21p : ((j : Int) < n) := of_decide_eq_true h21
    have ha := hc.awk j (by omega)
    have hb := hc.asl j (by omega)
    have hen := wn_en2 (i := j) hlen hPE hch.g0 (by have := hch.g1; omega) (by omega)
    have heb : 0 ≤ (playEn gr hold nd 1 (wnL nd (chG gr hold nd need) n gr.toNat))[j]?.getD 0 ∧ (playEn gr hold nd 1 (wnL nd (chG gr hold nd need) n gr.toNat))[j]?.getD 0 ≤ 10000 := by rw [hen]; split <;> omega
    have hsb := sumC_bd hc (chG gr hold nd need) j (by omega)
    refine Y.condT (F.ev 129 (.bool true)) ?_
    refine Y.skip ?_
    refine X.thenN ?_
    refine Y.seq ?_
    refine Y.block ?_
    refine Y.lit (by kernel_rfl) ?_
    refine Y.pval F (X.w0 rfl) rfl (X.move rfl (F.ev 17 (.int .i64 (sumC nd (chG gr hold nd need) j)))) ?_
    clear F ac
    intro ac F
    refine Y.pval F (X.w0 rfl) rfl (X.move rfl (F.ev 16 (.slice ea13 n ec13))) ?_
    clear F ac
    intro ac F
    refine Y.pval F (X.w0 rfl) rfl (X.move rfl (F.ev 18 (.int .i64 j))) ?_
    clear F ac
    intro ac F
    obtain ⟨pd36, pe36, -, pc36⟩ := he13.at (j := j) (by omega)
    subst pe36
    replace hC : RCells w20 [(⟨w.heap.size, 0, none⟩, .int .i64 gr), (⟨w.heap.size, 1, none⟩, .int .i64 hold), (⟨w.heap.size, 2, none⟩, .slice na n nc), (pd17.add 0, .int .i64 ((playRows gr hold nd 1 (wnL nd (chG gr hold nd need) n gr.toNat))[0]?.getD 0)), (pd36.add j, .int .i64 ((playEn gr hold nd 1 (wnL nd (chG gr hold nd need) n gr.toNat))[j]?.getD 0))] := hC.append ((RCells.cons pc36 (RCells.nil _)))
    clear pc36
    refine Y.pval F (X.w0 rfl) rfl (X.index rfl (F.ev 133 (.slice (some pd36) n ec13)) (F.ev 134 (.int .i64 j)) (X.idx (k := j) Try.underlying34 (Try.siz3 _) (by omega) (by omega) (by rw [Nat.mul_one]))) ?_
    clear F ac
    intro ac F
    refine Y.pval F (X.w0 rfl) rfl (X.load rfl (F.ev 135 (.pointer (some (pd36.add j)))) (X.ld1 (Try.agg3 _) (hC.at 4 rfl))) ?_
    clear F ac
    intro ac F
    refine Y.pval F (X.w0 rfl) rfl (X.binop rfl (F.ev 132 (.int .i64 (sumC nd (chG gr hold nd need) j))) (F.ev 136 (.int .i64 ((playEn gr hold nd 1 (wnL nd (chG gr hold nd need) n gr.toNat))[j]?.getD 0))) (X.addI Try.underlying3 rfl (by omega) (by omega))) ?_
    clear F ac
    intro ac F
    refine Y.pval F (X.w0 rfl) rfl (X.assign rfl (F.ev 137 (.int .i64 ((sumC nd (chG gr hold nd need) j : Int) + ((playEn gr hold nd 1 (wnL nd (chG gr hold nd need) n gr.toNat))[j]?.getD 0))))) ?_
    clear F ac
    intro ac F
    refine Y.nil ?_
    replace F : Fr ac 203 [(0, .agg #[.int .i64 gr, .int .i64 hold, .slice na n nc]), (1, .int .i64 need), (2, .int .i64 ot), (3, .pointer (some ⟨w.heap.size, 0, none⟩)), (7, .int .i64 (chG gr hold nd need)), (8, .int .i64 (chL gr hold nd need)), (9, .int .i64 (playE gr hold nd 1 (wnL nd (chG gr hold nd need) n gr.toNat))), (10, .slice al N alc), (11, .int .i64 gr.toNat), (15, .slice (some pd17) 1 rc13), (16, .slice (some pd36) n ec13), (17, .int .i64 ((sumC nd (chG gr hold nd need) j : Int) + ((playEn gr hold nd 1 (wnL nd (chG gr hold nd need) n gr.toNat))[j]?.getD 0))), (18, .int .i64 j), (31, .bool false), (42, .bool false), (46, .bool false), (125, .bool false), (129, .bool true)] := F.sub _
    refine X.blockN ?_
    refine X.thenN ?_
    refine Y.lit (by kernel_rfl) ?_
    refine Y.pval F (X.w0 rfl) rfl (X.move rfl (F.ev 18 (.int .i64 j))) ?_
    clear F ac
    intro ac F
    refine Y.pval F (X.w0 rfl) rfl (X.binop rfl (F.ev 130 (.int .i64 j)) (X.kc (.int .i64 1) rfl) (X.addI Try.underlying3 rfl (by omega) (by omega))) ?_
    clear F ac
    intro ac F
    refine Y.pval F (X.w0 rfl) rfl (X.assign rfl (F.ev 131 (.int .i64 ((j : Int) + 1)))) ?_
    clear F ac
    intro ac F
    refine Y.nil ?_
    replace F : Fr ac 203 [(0, .agg #[.int .i64 gr, .int .i64 hold, .slice na n nc]), (1, .int .i64 need), (2, .int .i64 ot), (3, .pointer (some ⟨w.heap.size, 0, none⟩)), (7, .int .i64 (chG gr hold nd need)), (8, .int .i64 (chL gr hold nd need)), (9, .int .i64 (playE gr hold nd 1 (wnL nd (chG gr hold nd need) n gr.toNat))), (10, .slice al N alc), (11, .int .i64 gr.toNat), (15, .slice (some pd17) 1 rc13), (16, .slice (some pd36) n ec13), (17, .int .i64 ((sumC nd (chG gr hold nd need) j : Int) + ((playEn gr hold nd 1 (wnL nd (chG gr hold nd need) n gr.toNat))[j]?.getD 0))), (18, .int .i64 ((j : Int) + 1)), (31, .bool false), (42, .bool false), (46, .bool false), (125, .bool false), (129, .bool true)] := F.sub _
    refine X.thenN ?_
    refine ⟨_, ?_, j + 1, rfl, GBB_, by omega, (by rw [show sumC nd (chG gr hold nd need) (j + 1) = sumC nd (chG gr hold nd need) j + (playEn gr hold nd 1 (wnL nd (chG gr hold nd need) n gr.toNat))[j]?.getD 0 from by rw [hen]; rfl]; exact F.sub _)⟩
    omega
  | true =>
   try rw [h12] at F
   have h12p : ((z : Int) < gr) := of_decide_eq_true h12
   refine Y.condT (F.ev 46 (.bool true)) ?_
   refine Y.skip ?_
   refine X.thenN ?_
   refine Y.seq ?_
   refine Y.block ?_
   refine Y.seq ?_
   refine Y.lit (by kernel_rfl) ?_
   refine Y.pval F (X.w0 rfl) rfl (X.load rfl (F.ev 3 (.pointer (some ⟨w.heap.size, 0, none⟩))) (X.ldN (Try.agg24 _) (Try.siz24 _) (Y.atz (⟨w.heap.size, 0, none⟩) (Y.AtFrom.cons (hC.at 0 rfl) (Y.AtFrom.cons (hC.at 1 rfl) (Y.AtFrom.cons (hC.at 2 rfl) (Y.AtFrom.nil _ _ _))))))) ?_
   clear F ac
   intro ac F
   refine Y.pval F (X.w0 rfl) rfl (X.move rfl (F.ev 11 (.int .i64 z))) ?_
   clear F ac
   intro ac F
   refine Y.pcall F (X.w0 rfl) rfl (X.enter (F := 36) rfl (X.kc (.func (.func 36) #[] #[]) rfl) (X.a2 (F.ev 50 (.agg #[.int .i64 gr, .int .i64 hold, .slice na n nc])) (F.ev 51 (.int .i64 z))) (enters_of Try.func36 (by kernel_rfl) rfl _)) (members_any na n nc gr hold z nd w11 hnd) ?_
   clear F ac
   rintro e w38 ⟨rfl, g⟩
   refine ⟨_, rfl, ?_⟩
   intro ac F
   replace G := G.trans g
   replace hC := hC.gr g
   replace GW := GW.trans g
   replace hnd := hnd.gr g
   replace hO := hO.gr g
   clear g
   refine Y.pval F (X.w0 rfl) rfl (X.move rfl (F.ev 52 (.tuple #[.int .i64 (memR gr hold nd z), .int .i64 (memE gr hold nd z)]))) ?_
   clear F ac
   intro ac F
   refine Y.pval F (X.w0 rfl) rfl (X.extract rfl (F.ev 49 (.tuple #[.int .i64 (memR gr hold nd z), .int .i64 (memE gr hold nd z)])) rfl) ?_
   clear F ac
   intro ac F
   refine Y.pval F (X.w0 rfl) rfl (X.extract rfl (F.ev 49 (.tuple #[.int .i64 (memR gr hold nd z), .int .i64 (memE gr hold nd z)])) rfl) ?_
   clear F ac
   intro ac F
   refine Y.pval F (X.w0 rfl) rfl (X.assign rfl (F.ev 53 (.int .i64 (memR gr hold nd z)))) ?_
   clear F ac
   intro ac F
   refine Y.pval F (X.w0 rfl) rfl (X.assign rfl (F.ev 54 (.int .i64 (memE gr hold nd z)))) ?_
   clear F ac
   intro ac F
   refine Y.nil ?_
   replace F : Fr ac 203 [(0, .agg #[.int .i64 gr, .int .i64 hold, .slice na n nc]), (1, .int .i64 need), (2, .int .i64 ot), (3, .pointer (some ⟨w.heap.size, 0, none⟩)), (7, .int .i64 (chG gr hold nd need)), (8, .int .i64 (chL gr hold nd need)), (9, .int .i64 (chE gr hold nd need)), (10, v), (11, .int .i64 z), (12, .int .i64 (memR gr hold nd z)), (13, .int .i64 (memE gr hold nd z)), (31, .bool false), (42, .bool false), (46, .bool true)] := F.sub _
   refine X.thenN ?_
   refine Y.seq ?_
   refine Y.seq ?_
   refine Y.lit (by kernel_rfl) ?_
   refine Y.pval F (X.w0 rfl) rfl (X.move rfl (F.ev 13 (.int .i64 (memE gr hold nd z)))) ?_
   clear F ac
   intro ac F
   refine Y.pval F (X.w0 rfl) rfl (X.binop rfl (F.ev 55 (.int .i64 (memE gr hold nd z))) (X.kc (.int .i64 0) rfl) (X.neqI Try.underlying26 rfl)) ?_
   clear F ac
   intro ac F
   refine Y.nil ?_
   replace F : Fr ac 203 [(0, .agg #[.int .i64 gr, .int .i64 hold, .slice na n nc]), (1, .int .i64 need), (2, .int .i64 ot), (3, .pointer (some ⟨w.heap.size, 0, none⟩)), (7, .int .i64 (chG gr hold nd need)), (8, .int .i64 (chL gr hold nd need)), (9, .int .i64 (chE gr hold nd need)), (10, v), (11, .int .i64 z), (12, .int .i64 (memR gr hold nd z)), (13, .int .i64 (memE gr hold nd z)), (31, .bool false), (42, .bool false), (46, .bool true), (56, .bool ((memE gr hold nd z : Int) != 0))] := F.sub _
   refine X.thenN ?_
   have h40 : ((memE gr hold nd z : Int) != 0) = false := by rw [memE_ok hch.c (by omega)]; rfl
   try rw [h40] at F
   refine Y.condF (F.ev 56 (.bool false)) ?_
   refine Y.skip ?_
   refine X.thenN ?_
   refine Y.seq ?_
   refine Y.lit (by kernel_rfl) ?_
   refine Y.pval F (X.w0 rfl) rfl (X.assign rfl (X.kc (.int .i64 0) rfl)) ?_
   clear F ac
   intro ac F
   refine Y.nil ?_
   replace F : Fr ac 203 [(0, .agg #[.int .i64 gr, .int .i64 hold, .slice na n nc]), (1, .int .i64 need), (2, .int .i64 ot), (3, .pointer (some ⟨w.heap.size, 0, none⟩)), (7, .int .i64 (chG gr hold nd need)), (8, .int .i64 (chL gr hold nd need)), (9, .int .i64 (chE gr hold nd need)), (10, v), (11, .int .i64 z), (12, .int .i64 (memR gr hold nd z)), (13, .int .i64 (memE gr hold nd z)), (14, .int .i64 0), (31, .bool false), (42, .bool false), (46, .bool true), (56, .bool false)] := F.sub _
   refine X.thenN ?_
   refine Y.block ?_
   refine Y.loop (fun me_ ac wr => ∃ (i : Nat), ∃ v : Value, me_ = n - i ∧ Gr w5 wr ∧ i ≤ n ∧ OwnR wr w5.heap.size 33 4 v (wnL nd (chG gr hold nd need) n z ++ wnN nd (chG gr hold nd need) z i).length (flat4 (wnL nd (chG gr hold nd need) n z ++ wnN nd (chG gr hold nd need) z i)) ∧ Fr ac 203 [(0, .agg #[.int .i64 gr, .int .i64 hold, .slice na n nc]), (1, .int .i64 need), (2, .int .i64 ot), (3, .pointer (some ⟨w.heap.size, 0, none⟩)), (7, .int .i64 (chG gr hold nd need)), (8, .int .i64 (chL gr hold nd need)), (9, .int .i64 (chE gr hold nd need)), (10, v), (11, .int .i64 z), (12, .int .i64 (memR gr hold nd z)), (13, .int .i64 (memE gr hold nd z)), (14, .int .i64 i), (31, .bool false), (42, .bool false), (46, .bool true), (56, .bool false)]) _ ⟨0, _, rfl, GW, Nat.zero_le _, (by rw [show wnL nd (chG gr hold nd need) n z ++ wnN nd (chG gr hold nd need) z 0 = wnL nd (chG gr hold nd need) n z from List.append_nil _]; exact hO), F.sub _⟩ ?_
   clear F GW hnd hO
   intro me_ ac w41 hI
   obtain ⟨i, v, rfl, GW, hi, hO, F⟩ := hI
   replace G := G0_.trans GW
   have hnd := hnd0.gr GW
   replace hC := hC0.gr GW
   refine Y.seq ?_
   refine Y.seq ?_
   refine Y.lit (by kernel_rfl) ?_
   refine Y.pval F (X.w0 rfl) rfl (X.move rfl (F.ev 14 (.int .i64 i))) ?_
   clear F ac
   intro ac F
   refine Y.pval F (X.w0 rfl) rfl (X.field rfl (F.ev 3 (.pointer (some ⟨w.heap.size, 0, none⟩))) (X.fld Try.underlying24 rfl (Try.siz22 _) rfl rfl)) ?_
   clear F ac
   intro ac F
   refine Y.pval F (X.w0 rfl) rfl (X.load rfl (F.ev 58 (.pointer (some ⟨w.heap.size, 2, none⟩))) (X.ld1 (Try.agg22 _) (hC.at 2 rfl))) ?_
   clear F ac
   intro ac F
   refine Y.pval F (X.w0 rfl) rfl (X.len1 Try.underlying22 rfl (F.ev 59 (.slice na n nc))) ?_
   clear F ac
   intro ac F
   refine Y.pval F (X.w0 rfl) rfl (X.binop rfl (F.ev 57 (.int .i64 i)) (F.ev 60 (.int .i64 n)) (X.lssI Try.underlying3 rfl)) ?_
   clear F ac
   intro ac F
   refine Y.nil ?_
   replace F : Fr ac 203 [(0, .agg #[.int .i64 gr, .int .i64 hold, .slice na n nc]), (1, .int .i64 need), (2, .int .i64 ot), (3, .pointer (some ⟨w.heap.size, 0, none⟩)), (7, .int .i64 (chG gr hold nd need)), (8, .int .i64 (chL gr hold nd need)), (9, .int .i64 (chE gr hold nd need)), (10, v), (11, .int .i64 z), (12, .int .i64 (memR gr hold nd z)), (13, .int .i64 (memE gr hold nd z)), (14, .int .i64 i), (31, .bool false), (42, .bool false), (46, .bool true), (56, .bool false), (61, .bool (decide ((i : Int) < n)))] := F.sub _
   refine X.thenN ?_
   cases h42 : decide ((i : Int) < n) with
   | false =>
    try rw [h42] at F
    have h42p : ¬ ((i : Int) < n) := of_decide_eq_false h42
    obtain rfl : n = i := by omega
    refine Y.condF (F.ev 61 (.bool false)) ?_
    refine Y.exit ?_
    refine X.thenX ?_
    refine X.thenX ?_
    refine X.blockX ?_
    refine X.blockN ?_
    refine X.thenN ?_
    refine Y.lit (by kernel_rfl) ?_
    refine Y.pval F (X.w0 rfl) rfl (X.move rfl (F.ev 11 (.int .i64 z))) ?_
    clear F ac
    intro ac F
    refine Y.pval F (X.w0 rfl) rfl (X.binop rfl (F.ev 47 (.int .i64 z)) (X.kc (.int .i64 1) rfl) (X.addI Try.underlying3 rfl (by omega) (by omega))) ?_
    clear F ac
    intro ac F
    refine Y.pval F (X.w0 rfl) rfl (X.assign rfl (F.ev 48 (.int .i64 ((z : Int) + 1)))) ?_
    clear F ac
    intro ac F
    refine Y.nil ?_
    replace F : Fr ac 203 [(0, .agg #[.int .i64 gr, .int .i64 hold, .slice na n nc]), (1, .int .i64 need), (2, .int .i64 ot), (3, .pointer (some ⟨w.heap.size, 0, none⟩)), (7, .int .i64 (chG gr hold nd need)), (8, .int .i64 (chL gr hold nd need)), (9, .int .i64 (chE gr hold nd need)), (10, v), (11, .int .i64 ((z : Int) + 1)), (12, .int .i64 (memR gr hold nd z)), (13, .int .i64 (memE gr hold nd z)), (14, .int .i64 n), (31, .bool false), (42, .bool false), (46, .bool true), (56, .bool false), (61, .bool false)] := F.sub _
    refine X.thenN ?_
    refine ⟨_, ?_, z + 1, _, rfl, GW, by omega, hO, F.sub _⟩
    omega
   | true =>
    try rw [h42] at F
    have h42p : ((i : Int) < n) := of_decide_eq_true h42
    have hmb := mem_bit (g := z) (i := i) hch.c (by omega) (by omega)
    refine Y.condT (F.ev 61 (.bool true)) ?_
    refine Y.skip ?_
    refine X.thenN ?_
    refine Y.seq ?_
    refine Y.block ?_
    refine Y.seq ?_
    refine Y.seq ?_
    obtain ⟨pd43, pe43, -, -, pc43⟩ := hnd.at (j := i) (by omega)
    subst pe43
    replace hC : RCells w41 [(⟨w.heap.size, 0, none⟩, .int .i64 gr), (⟨w.heap.size, 1, none⟩, .int .i64 hold), (⟨w.heap.size, 2, none⟩, .slice (some pd43) n nc), (pd43.add (i * 5), .int .i64 (cv nd i 0)), (⟨(pd43.add (i * 5)).block, (pd43.add (i * 5)).off + 1, none⟩, .int .i64 (cv nd i 1)), (⟨(pd43.add (i * 5)).block, (pd43.add (i * 5)).off + 2, none⟩, .int .i64 (cv nd i 2)), (⟨(pd43.add (i * 5)).block, (pd43.add (i * 5)).off + 3, none⟩, .int .i64 (cv nd i 3)), (⟨(pd43.add (i * 5)).block, (pd43.add (i * 5)).off + 4, none⟩, .int .i64 (cv nd i 4))] := hC.append ((RCells.cons (pc43 0 (by decide)) (RCells.cons (pc43 1 (by decide)) (RCells.cons (pc43 2 (by decide)) (RCells.cons (pc43 3 (by decide)) (RCells.cons (pc43 4 (by decide)) (RCells.nil _)))))))
    clear pc43
    refine Y.region F [some (.int .i64 (memR gr hold nd z)), some (.int .i64 i), some (.bool (bitB (memR gr hold nd z) i)), some (.pointer (some ⟨w.heap.size, 2, none⟩)), some (.slice (some pd43) n nc), some (.int .i64 i), some (.pointer (some (pd43.add (i * 5)))), some (.pointer (some (pd43.add (i * 5)))), some (.int .i64 (cv nd i 0)), some (.int .i64 z), some (.bool (bitB (cv nd i 0) z)), some (.bool (bitB (memR gr hold nd z) i != bitB (cv nd i 0) z))] [] rfl ⟨by kernel_rfl, of_decide_eq_true (by kernel_rfl), by kernel_rfl, by kernel_rfl, by kernel_rfl⟩ ⟨?_, ?_, ?_, ?_, ?_, ?_, ?_, ?_, ?_, ?_, ?_, ?_, trivial⟩ ?_
    ·intro ac done u W Sx hR
     exact X.val (X.w0 rfl) rfl (X.move rfl (Sx.ev 12 (.int .i64 (memR gr hold nd z)))) (hR.step (Gr.refl _) rfl)
    ·intro ac done u W Sx hR
     exact X.val (X.w0 rfl) rfl (X.move rfl (Sx.ev 14 (.int .i64 i))) (hR.step (Gr.refl _) rfl)
    ·intro ac done u W Sx hR
     refine X.call (X.w0 rfl) (X.enter (F := 17) rfl (X.kc (.func (.func 17) #[] #[]) rfl) (X.a2 (Sx.ev 64 (.int .i64 (memR gr hold nd z))) (Sx.ev 65 (.int .i64 i))) (enters_of Try.func17 (by kernel_rfl) rfl _)) (bit_any (memR gr hold nd z) i W (by omega)) ?_
     rintro e W2 ⟨rfl, rfl⟩
     exact ⟨_, rfl, X.kn rfl, hR.step (Gr.refl _) rfl⟩
    ·intro ac done u W Sx hR
     exact X.val (X.w0 rfl) rfl (X.field rfl (Sx.ev 3 (.pointer (some ⟨w.heap.size, 0, none⟩))) (X.fld Try.underlying24 rfl (Try.siz22 _) rfl rfl)) (hR.step (Gr.refl _) rfl)
    ·intro ac done u W Sx hR
     have g : Gr w41 W := hR.1
     exact X.val (X.w0 rfl) rfl (X.load rfl (Sx.ev 67 (.pointer (some ⟨w.heap.size, 2, none⟩))) (X.ld1 (Try.agg22 _) ((hC.gr g).at 2 rfl))) (hR.step (Gr.refl _) rfl)
    ·intro ac done u W Sx hR
     exact X.val (X.w0 rfl) rfl (X.move rfl (Sx.ev 14 (.int .i64 i))) (hR.step (Gr.refl _) rfl)
    ·intro ac done u W Sx hR
     exact X.val (X.w0 rfl) rfl (X.index rfl (Sx.ev 68 (.slice (some pd43) n nc)) (Sx.ev 69 (.int .i64 i)) (X.idx (k := i) Try.underlying22 (Try.siz31 _) (by omega) (by omega) rfl)) (hR.step (Gr.refl _) rfl)
    ·intro ac done u W Sx hR
     exact X.val (X.w0 rfl) rfl (X.field rfl (Sx.ev 70 (.pointer (some (pd43.add (i * 5))))) (X.fld Try.underlying31 rfl (Try.siz3 _) rfl rfl)) (hR.step (Gr.refl _) rfl)
    ·intro ac done u W Sx hR
     have g : Gr w41 W := hR.1
     exact X.val (X.w0 rfl) rfl (X.load rfl (Sx.ev 71 (.pointer (some (pd43.add (i * 5))))) (X.ld1 (Try.agg3 _) ((hC.gr g).at 3 rfl))) (hR.step (Gr.refl _) rfl)
    ·intro ac done u W Sx hR
     exact X.val (X.w0 rfl) rfl (X.move rfl (Sx.ev 11 (.int .i64 z))) (hR.step (Gr.refl _) rfl)
    ·intro ac done u W Sx hR
     refine X.call (X.w0 rfl) (X.enter (F := 17) rfl (X.kc (.func (.func 17) #[] #[]) rfl) (X.a2 (Sx.ev 72 (.int .i64 (cv nd i 0))) (Sx.ev 73 (.int .i64 z))) (enters_of Try.func17 (by kernel_rfl) rfl _)) (bit_any (cv nd i 0) z W (by omega)) ?_
     rintro e W2 ⟨rfl, rfl⟩
     exact ⟨_, rfl, X.kn rfl, hR.step (Gr.refl _) rfl⟩
    ·intro ac done u W Sx hR
     exact X.val (X.w0 rfl) rfl (X.binop rfl (Sx.ev 66 (.bool (bitB (memR gr hold nd z) i))) (Sx.ev 74 (.bool (bitB (cv nd i 0) z))) (Y.neqB Try.underlying4 rfl)) (hR.step (Gr.refl _) rfl)
    intro ac u w44 hs hd hl ho hR
    have g : Gr w41 w44 := hR.1
    replace F : Fr ac 203 [(0, .agg #[.int .i64 gr, .int .i64 hold, .slice (some pd43) n nc]), (1, .int .i64 need), (2, .int .i64 ot), (3, .pointer (some ⟨w.heap.size, 0, none⟩)), (7, .int .i64 (chG gr hold nd need)), (8, .int .i64 (chL gr hold nd need)), (9, .int .i64 (chE gr hold nd need)), (10, v), (11, .int .i64 z), (12, .int .i64 (memR gr hold nd z)), (13, .int .i64 (memE gr hold nd z)), (14, .int .i64 i), (31, .bool false), (42, .bool false), (46, .bool true), (56, .bool false), (61, .bool true), (75, .bool (bitB (memR gr hold nd z) i != bitB (cv nd i 0) z))] := X.fr hs hd hl _ (by kernel_rfl)
    clear hs hd hl ho hR
    replace G := G.trans g
    replace hC := hC.gr g
    replace GW := GW.trans g
    replace hnd := hnd.gr g
    replace hO := hO.gr g
    clear g
    refine X.thenN ?_
    have h46 : (bitB (memR gr hold nd z) i != bitB (cv nd i 0) z) = false := by rw [hmb.2]; simp
    try rw [h46] at F
    refine Y.condF (F.ev 75 (.bool false)) ?_
    refine Y.skip ?_
    refine X.thenN ?_
    refine Y.seq ?_
    obtain ⟨oa, oc, rfl⟩ := hO.slice
    refine Y.lit (by kernel_rfl) ?_
    refine Y.pval F (X.w0 rfl) rfl (X.move rfl (F.ev 7 (.int .i64 (chG gr hold nd need)))) ?_
    clear F ac
    intro ac F
    refine Y.pval F (X.w0 rfl) rfl (X.move rfl (F.ev 11 (.int .i64 z))) ?_
    clear F ac
    intro ac F
    refine Y.pcall F (X.w0 rfl) rfl (X.enter (F := 17) rfl (X.kc (.func (.func 17) #[] #[]) rfl) (X.a2 (F.ev 76 (.int .i64 (chG gr hold nd need))) (F.ev 77 (.int .i64 z))) (enters_of Try.func17 (by kernel_rfl) rfl _)) (bit_any (chG gr hold nd need) z w44 (by omega)) ?_
    clear F ac
    rintro e w' ⟨rfl, hw_⟩
    obtain rfl : w44 = w' := hw_.symm
    clear hw_
    refine ⟨_, rfl, ?_⟩
    intro ac F
    refine Y.pval F (X.w0 rfl) rfl (X.move rfl (F.ev 78 (.bool (bitB (chG gr hold nd need) z)))) ?_
    clear F ac
    intro ac F
    cases h47 : bitB (chG gr hold nd need) z with
    | false =>
     try rw [h47] at F
     refine Y.pskip F (X.w2 rfl (F.yl (j := 3) (d := 79) (b := false) rfl (by kernel_rfl)) rfl) rfl ?_
     clear F ac
     intro ac F
     refine Y.pskip F (X.w2 rfl (F.yl (j := 3) (d := 79) (b := false) rfl (by kernel_rfl)) rfl) rfl ?_
     clear F ac
     intro ac F
     refine Y.pskip F (X.w2 rfl (F.yl (j := 3) (d := 79) (b := false) rfl (by kernel_rfl)) rfl) rfl ?_
     clear F ac
     intro ac F
     refine Y.pval F (X.w0 rfl) rfl (X.pickF rfl (F.ev 79 (.bool false)) (X.kc (.bool false) rfl)) ?_
     clear F ac
     intro ac F
     refine Y.pval F (X.w0 rfl) rfl (X.move rfl (F.ev 83 (.bool false))) ?_
     clear F ac
     intro ac F
     refine Y.pskip F (X.w2 rfl (F.yl (j := 8) (d := 84) (b := false) rfl (by kernel_rfl)) rfl) rfl ?_
     clear F ac
     intro ac F
     refine Y.pskip F (X.w2 rfl (F.yl (j := 8) (d := 84) (b := false) rfl (by kernel_rfl)) rfl) rfl ?_
     clear F ac
     intro ac F
     refine Y.pskip F (X.w2 rfl (F.yl (j := 8) (d := 84) (b := false) rfl (by kernel_rfl)) rfl) rfl ?_
     clear F ac
     intro ac F
     refine Y.pval F (X.w0 rfl) rfl (X.pickF rfl (F.ev 84 (.bool false)) (X.kc (.bool false) rfl)) ?_
     clear F ac
     intro ac F
     refine Y.nil ?_
     replace F : Fr ac 203 [(0, .agg #[.int .i64 gr, .int .i64 hold, .slice (some pd43) n nc]), (1, .int .i64 need), (2, .int .i64 ot), (3, .pointer (some ⟨w.heap.size, 0, none⟩)), (7, .int .i64 (chG gr hold nd need)), (8, .int .i64 (chL gr hold nd need)), (9, .int .i64 (chE gr hold nd need)), (10, .slice oa ((wnL nd (chG gr hold nd need) n z ++ wnN nd (chG gr hold nd need) z i).length) oc), (11, .int .i64 z), (12, .int .i64 (memR gr hold nd z)), (13, .int .i64 (memE gr hold nd z)), (14, .int .i64 i), (31, .bool false), (42, .bool false), (46, .bool true), (56, .bool false), (61, .bool true), (75, .bool false), (88, .bool false)] := F.sub _
     refine X.thenN ?_
     refine Y.condF (F.ev 88 (.bool false)) ?_
     refine Y.skip ?_
     refine X.blockN ?_
     refine X.thenN ?_
     refine Y.lit (by kernel_rfl) ?_
     refine Y.pval F (X.w0 rfl) rfl (X.move rfl (F.ev 14 (.int .i64 i))) ?_
     clear F ac
     intro ac F
     refine Y.pval F (X.w0 rfl) rfl (X.binop rfl (F.ev 62 (.int .i64 i)) (X.kc (.int .i64 1) rfl) (X.addI Try.underlying3 rfl (by omega) (by omega))) ?_
     clear F ac
     intro ac F
     refine Y.pval F (X.w0 rfl) rfl (X.assign rfl (F.ev 63 (.int .i64 ((i : Int) + 1)))) ?_
     clear F ac
     intro ac F
     refine Y.nil ?_
     replace F : Fr ac 203 [(0, .agg #[.int .i64 gr, .int .i64 hold, .slice (some pd43) n nc]), (1, .int .i64 need), (2, .int .i64 ot), (3, .pointer (some ⟨w.heap.size, 0, none⟩)), (7, .int .i64 (chG gr hold nd need)), (8, .int .i64 (chL gr hold nd need)), (9, .int .i64 (chE gr hold nd need)), (10, .slice oa ((wnL nd (chG gr hold nd need) n z ++ wnN nd (chG gr hold nd need) z i).length) oc), (11, .int .i64 z), (12, .int .i64 (memR gr hold nd z)), (13, .int .i64 (memE gr hold nd z)), (14, .int .i64 ((i : Int) + 1)), (31, .bool false), (42, .bool false), (46, .bool true), (56, .bool false), (61, .bool true), (75, .bool false), (88, .bool false)] := F.sub _
     refine X.thenN ?_
     have hw : wnL nd (chG gr hold nd need) n z ++ wnN nd (chG gr hold nd need) z (i + 1) = (wnL nd (chG gr hold nd need) n z ++ wnN nd (chG gr hold nd need) z i) ++ (if bitB (chG gr hold nd need) z && bitB (cv nd i 0) z then [[0, 1, (i : Int), (z : Int)]] else []) := by simp only [wnN, List.append_assoc]
     rw [if_neg (by rw [h47]; simp), List.append_nil] at hw
     refine ⟨_, ?_, i + 1, _, rfl, GW, by omega, (by rw [hw]; exact hO), F.sub _⟩
     omega
    | true =>
     try rw [h47] at F
     refine Y.pval F (X.w1 rfl (F.yl (j := 3) (d := 79) (b := true) rfl (by kernel_rfl))) rfl (X.move rfl (F.ev 12 (.int .i64 (memR gr hold nd z)))) ?_
     clear F ac
     intro ac F
     refine Y.pval F (X.w1 rfl (F.yl (j := 3) (d := 79) (b := true) rfl (by kernel_rfl))) rfl (X.move rfl (F.ev 14 (.int .i64 i))) ?_
     clear F ac
     intro ac F
     refine Y.pcall F (X.w1 rfl (F.yl (j := 3) (d := 79) (b := true) rfl (by kernel_rfl))) rfl (X.enter (F := 17) rfl (X.kc (.func (.func 17) #[] #[]) rfl) (X.a2 (F.ev 80 (.int .i64 (memR gr hold nd z))) (F.ev 81 (.int .i64 i))) (enters_of Try.func17 (by kernel_rfl) rfl _)) (bit_any (memR gr hold nd z) i w44 (by omega)) ?_
     clear F ac
     rintro e w' ⟨rfl, hw_⟩
     obtain rfl : w44 = w' := hw_.symm
     clear hw_
     refine ⟨_, rfl, ?_⟩
     intro ac F
     refine Y.pval F (X.w0 rfl) rfl (X.pickT rfl (F.ev 79 (.bool true)) (F.ev 82 (.bool (bitB (memR gr hold nd z) i)))) ?_
     clear F ac
     intro ac F
     refine Y.pval F (X.w0 rfl) rfl (X.move rfl (F.ev 83 (.bool (bitB (memR gr hold nd z) i)))) ?_
     clear F ac
     intro ac F
     cases h48 : bitB (memR gr hold nd z) i with
     | false =>
      try rw [h48] at F
      refine Y.pskip F (X.w2 rfl (F.yl (j := 8) (d := 84) (b := false) rfl (by kernel_rfl)) rfl) rfl ?_
      clear F ac
      intro ac F
      refine Y.pskip F (X.w2 rfl (F.yl (j := 8) (d := 84) (b := false) rfl (by kernel_rfl)) rfl) rfl ?_
      clear F ac
      intro ac F
      refine Y.pskip F (X.w2 rfl (F.yl (j := 8) (d := 84) (b := false) rfl (by kernel_rfl)) rfl) rfl ?_
      clear F ac
      intro ac F
      refine Y.pval F (X.w0 rfl) rfl (X.pickF rfl (F.ev 84 (.bool false)) (X.kc (.bool false) rfl)) ?_
      clear F ac
      intro ac F
      refine Y.nil ?_
      replace F : Fr ac 203 [(0, .agg #[.int .i64 gr, .int .i64 hold, .slice (some pd43) n nc]), (1, .int .i64 need), (2, .int .i64 ot), (3, .pointer (some ⟨w.heap.size, 0, none⟩)), (7, .int .i64 (chG gr hold nd need)), (8, .int .i64 (chL gr hold nd need)), (9, .int .i64 (chE gr hold nd need)), (10, .slice oa ((wnL nd (chG gr hold nd need) n z ++ wnN nd (chG gr hold nd need) z i).length) oc), (11, .int .i64 z), (12, .int .i64 (memR gr hold nd z)), (13, .int .i64 (memE gr hold nd z)), (14, .int .i64 i), (31, .bool false), (42, .bool false), (46, .bool true), (56, .bool false), (61, .bool true), (75, .bool false), (88, .bool false)] := F.sub _
      refine X.thenN ?_
      refine Y.condF (F.ev 88 (.bool false)) ?_
      refine Y.skip ?_
      refine X.blockN ?_
      refine X.thenN ?_
      refine Y.lit (by kernel_rfl) ?_
      refine Y.pval F (X.w0 rfl) rfl (X.move rfl (F.ev 14 (.int .i64 i))) ?_
      clear F ac
      intro ac F
      refine Y.pval F (X.w0 rfl) rfl (X.binop rfl (F.ev 62 (.int .i64 i)) (X.kc (.int .i64 1) rfl) (X.addI Try.underlying3 rfl (by omega) (by omega))) ?_
      clear F ac
      intro ac F
      refine Y.pval F (X.w0 rfl) rfl (X.assign rfl (F.ev 63 (.int .i64 ((i : Int) + 1)))) ?_
      clear F ac
      intro ac F
      refine Y.nil ?_
      replace F : Fr ac 203 [(0, .agg #[.int .i64 gr, .int .i64 hold, .slice (some pd43) n nc]), (1, .int .i64 need), (2, .int .i64 ot), (3, .pointer (some ⟨w.heap.size, 0, none⟩)), (7, .int .i64 (chG gr hold nd need)), (8, .int .i64 (chL gr hold nd need)), (9, .int .i64 (chE gr hold nd need)), (10, .slice oa ((wnL nd (chG gr hold nd need) n z ++ wnN nd (chG gr hold nd need) z i).length) oc), (11, .int .i64 z), (12, .int .i64 (memR gr hold nd z)), (13, .int .i64 (memE gr hold nd z)), (14, .int .i64 ((i : Int) + 1)), (31, .bool false), (42, .bool false), (46, .bool true), (56, .bool false), (61, .bool true), (75, .bool false), (88, .bool false)] := F.sub _
      refine X.thenN ?_
      have hw : wnL nd (chG gr hold nd need) n z ++ wnN nd (chG gr hold nd need) z (i + 1) = (wnL nd (chG gr hold nd need) n z ++ wnN nd (chG gr hold nd need) z i) ++ (if bitB (chG gr hold nd need) z && bitB (cv nd i 0) z then [[0, 1, (i : Int), (z : Int)]] else []) := by simp only [wnN, List.append_assoc]
      rw [if_neg (by rw [← hmb.2, h48]; simp), List.append_nil] at hw
      refine ⟨_, ?_, i + 1, _, rfl, GW, by omega, (by rw [hw]; exact hO), F.sub _⟩
      omega
     | true =>
      try rw [h48] at F
      refine Y.pval F (X.w1 rfl (F.yl (j := 8) (d := 84) (b := true) rfl (by kernel_rfl))) rfl (X.move rfl (F.ev 10 (.slice oa ((wnL nd (chG gr hold nd need) n z ++ wnN nd (chG gr hold nd need) z i).length) oc))) ?_
      clear F ac
      intro ac F
      refine Y.pval F (X.w1 rfl (F.yl (j := 8) (d := 84) (b := true) rfl (by kernel_rfl))) rfl (X.len1 Try.underlying25 rfl (F.ev 85 (.slice oa ((wnL nd (chG gr hold nd need) n z ++ wnN nd (chG gr hold nd need) z i).length) oc))) ?_
      clear F ac
      intro ac F
      refine Y.pval F (X.w1 rfl (F.yl (j := 8) (d := 84) (b := true) rfl (by kernel_rfl))) rfl (X.binop rfl (F.ev 86 (.int .i64 ((wnL nd (chG gr hold nd need) n z ++ wnN nd (chG gr hold nd need) z i).length))) (X.kc (.int .i64 200) rfl) (X.lssI Try.underlying3 rfl)) ?_
      clear F ac
      intro ac F
      refine Y.pval F (X.w0 rfl) rfl (X.pickT rfl (F.ev 84 (.bool true)) (F.ev 87 (.bool (decide (((wnL nd (chG gr hold nd need) n z ++ wnN nd (chG gr hold nd need) z i).length : Int) < 200))))) ?_
      clear F ac
      intro ac F
      refine Y.nil ?_
      replace F : Fr ac 203 [(0, .agg #[.int .i64 gr, .int .i64 hold, .slice (some pd43) n nc]), (1, .int .i64 need), (2, .int .i64 ot), (3, .pointer (some ⟨w.heap.size, 0, none⟩)), (7, .int .i64 (chG gr hold nd need)), (8, .int .i64 (chL gr hold nd need)), (9, .int .i64 (chE gr hold nd need)), (10, .slice oa ((wnL nd (chG gr hold nd need) n z ++ wnN nd (chG gr hold nd need) z i).length) oc), (11, .int .i64 z), (12, .int .i64 (memR gr hold nd z)), (13, .int .i64 (memE gr hold nd z)), (14, .int .i64 i), (31, .bool false), (42, .bool false), (46, .bool true), (56, .bool false), (61, .bool true), (75, .bool false), (88, .bool (decide (((wnL nd (chG gr hold nd need) n z ++ wnN nd (chG gr hold nd need) z i).length : Int) < 200)))] := F.sub _
      refine X.thenN ?_
      have h50 : decide (((wnL nd (chG gr hold nd need) n z ++ wnN nd (chG gr hold nd need) z i).length : Int) < 200) = true := decide_eq_true (by have := wn_room (nd := nd) (G := (chG gr hold nd need)) (n := n) (z := z) (i := i) (by omega) (by omega) (by omega); omega)
      have h50p : (((wnL nd (chG gr hold nd need) n z ++ wnN nd (chG gr hold nd need) z i).length : Int) < 200) := of_decide_eq_true h50
      try rw [h50] at F
      refine Y.condT (F.ev 88 (.bool true)) ?_
      refine Y.lit (by kernel_rfl) ?_
      refine Y.pval F (X.w0 rfl) rfl (X.move rfl (F.ev 10 (.slice oa ((wnL nd (chG gr hold nd need) n z ++ wnN nd (chG gr hold nd need) z i).length) oc))) ?_
      clear F ac
      intro ac F
      refine Y.pval F (X.w0 rfl) rfl (X.move rfl (F.ev 14 (.int .i64 i))) ?_
      clear F ac
      intro ac F
      refine Y.pval F (X.w0 rfl) rfl (X.move rfl (F.ev 11 (.int .i64 z))) ?_
      clear F ac
      intro ac F
      refine Y.pval F (X.w0 rfl) rfl (Y.bd rfl (Y.b123 (X.kc (.int .i64 1) rfl) (F.ev 90 (.int .i64 i)) (F.ev 91 (.int .i64 z))) (Try.bd33c _ _ _ _)) ?_
      clear F ac
      intro ac F
      refine Y.pval F (X.w0 rfl) rfl (X.bs rfl (X.b1 (F.ev 92 (.agg #[.int .i64 0, .int .i64 1, .int .i64 i, .int .i64 z]))) (Try.bs25 0 1 i z _)) ?_
      clear F ac
      intro ac F
      have g := Gr.alloc w44 (.cells #[.int .i64 0, .int .i64 1, .int .i64 i, .int .i64 z] 33)
      have hb := heap_alloc_new w44 (.cells #[.int .i64 0, .int .i64 1, .int .i64 i, .int .i64 z] 33)
      have hbl : w44.heap.size < (w44.alloc (.cells #[.int .i64 0, .int .i64 1, .int .i64 i, .int .i64 z] 33)).heap.size := by simp
      generalize w44.alloc (.cells #[.int .i64 0, .int .i64 1, .int .i64 i, .int .i64 z] 33) = w51 at *
      replace G := G.trans g
      replace hC := hC.gr g
      replace GW := GW.trans g
      replace hnd := hnd.gr g
      replace hO := hO.gr g
      have hbk := hb
      clear g hb hbl
      refine Y.wpL_plain rfl fun _ hK => wp_pushV Try.underlying25 Try.info33 rfl (by decide) rfl (F.ev 89 (.slice oa ((wnL nd (chG gr hold nd need) n z ++ wnN nd (chG gr hold nd need) z i).length) oc)) (F.ev 93 (.slice (some ⟨w44.heap.size, 0, none⟩) 1 1)) hO (m := 1) (news := [.int .i64 0, .int .i64 1, .int .i64 i, .int .i64 z]) rfl (cells_at (vs := [.int .i64 0, .int .i64 1, .int .i64 i, .int .i64 z]) hbk) rfl (by have := wn_room (nd := nd) (G := (chG gr hold nd need)) (n := n) (z := z) (i := i) (by omega) (by omega) (by omega); omega) (by decide) GW.size (fun v_w52 w52 hO' hon hat => hK _ _ ?_)
      refine Y.pput F rfl ?_
      clear F ac hbk
      intro ac F
      have hge := fun b e => (hO.ge (b := b) e).1
      replace GW := GW.own hon hge
      clear hO hge hon hat
      have hO := hO'
      clear hO'
      replace G := G0_.trans GW
      have hnd := hnd0.gr GW
      replace hC := hC0.gr GW
      refine Y.pval F (X.w0 rfl) rfl (X.assign rfl (F.ev 94 (v_w52))) ?_
      clear F ac
      intro ac F
      refine Y.nil ?_
      replace F : Fr ac 203 [(0, .agg #[.int .i64 gr, .int .i64 hold, .slice (some pd43) n nc]), (1, .int .i64 need), (2, .int .i64 ot), (3, .pointer (some ⟨w.heap.size, 0, none⟩)), (7, .int .i64 (chG gr hold nd need)), (8, .int .i64 (chL gr hold nd need)), (9, .int .i64 (chE gr hold nd need)), (10, v_w52), (11, .int .i64 z), (12, .int .i64 (memR gr hold nd z)), (13, .int .i64 (memE gr hold nd z)), (14, .int .i64 i), (31, .bool false), (42, .bool false), (46, .bool true), (56, .bool false), (61, .bool true), (75, .bool false), (88, .bool true)] := F.sub _
      refine X.blockN ?_
      refine X.thenN ?_
      refine Y.lit (by kernel_rfl) ?_
      refine Y.pval F (X.w0 rfl) rfl (X.move rfl (F.ev 14 (.int .i64 i))) ?_
      clear F ac
      intro ac F
      refine Y.pval F (X.w0 rfl) rfl (X.binop rfl (F.ev 62 (.int .i64 i)) (X.kc (.int .i64 1) rfl) (X.addI Try.underlying3 rfl (by omega) (by omega))) ?_
      clear F ac
      intro ac F
      refine Y.pval F (X.w0 rfl) rfl (X.assign rfl (F.ev 63 (.int .i64 ((i : Int) + 1)))) ?_
      clear F ac
      intro ac F
      refine Y.nil ?_
      replace F : Fr ac 203 [(0, .agg #[.int .i64 gr, .int .i64 hold, .slice (some pd43) n nc]), (1, .int .i64 need), (2, .int .i64 ot), (3, .pointer (some ⟨w.heap.size, 0, none⟩)), (7, .int .i64 (chG gr hold nd need)), (8, .int .i64 (chL gr hold nd need)), (9, .int .i64 (chE gr hold nd need)), (10, v_w52), (11, .int .i64 z), (12, .int .i64 (memR gr hold nd z)), (13, .int .i64 (memE gr hold nd z)), (14, .int .i64 ((i : Int) + 1)), (31, .bool false), (42, .bool false), (46, .bool true), (56, .bool false), (61, .bool true), (75, .bool false), (88, .bool true)] := F.sub _
      refine X.thenN ?_
      have hw : wnL nd (chG gr hold nd need) n z ++ wnN nd (chG gr hold nd need) z (i + 1) = (wnL nd (chG gr hold nd need) n z ++ wnN nd (chG gr hold nd need) z i) ++ (if bitB (chG gr hold nd need) z && bitB (cv nd i 0) z then [[0, 1, (i : Int), (z : Int)]] else []) := by simp only [wnN, List.append_assoc]
      rw [if_pos (by rw [h47, ← hmb.2, h48]; rfl)] at hw
      refine ⟨_, ?_, i + 1, _, rfl, GW, by omega, (by rw [hw, flat4_snoc, List.length_append]; exact hO), F.sub _⟩
      omega
 | true =>
  try rw [h6] at F
  have h6p : ¬ (chE gr hold nd need : Int) = 0 := by simpa using h6
  refine Y.condT (F.ev 31 (.bool true)) ?_
  refine Y.seq ?_
  refine Y.lit (by kernel_rfl) ?_
  refine Y.pcall F (X.w0 rfl) rfl (X.enter (F := 16) rfl (X.kc (.func (.func 16) #[] #[]) rfl) rfl (enters_of Try.func16 (by kernel_rfl) rfl _)) (works_any w5) ?_
  clear F ac
  rintro e w54 ⟨rfl, g⟩
  refine ⟨_, rfl, ?_⟩
  intro ac F
  replace G := G.trans g
  replace hC := hC.gr g
  replace hnd := hnd.gr g
  clear g
  refine Y.pval F (X.w0 rfl) rfl (X.assign rfl (F.ev 32 (.bool true))) ?_
  clear F ac
  intro ac F
  refine Y.nil ?_
  replace F : Fr ac 203 [(0, .agg #[.int .i64 gr, .int .i64 hold, .slice na n nc]), (1, .int .i64 need), (2, .int .i64 ot), (3, .pointer (some ⟨w.heap.size, 0, none⟩)), (6, .bool true), (7, .int .i64 (chG gr hold nd need)), (8, .int .i64 (chL gr hold nd need)), (9, .int .i64 (chE gr hold nd need)), (31, .bool true)] := F.sub _
  refine X.thenN ?_
  refine Y.ret ?_
  refine X.thenR ?_
  exact Y.ret0 (v := .bool true) F (Y.rs1 F rfl (by kernel_rfl)) ⟨rfl, G⟩
end Go.Proofs.Ytoalamakhjbedaa
