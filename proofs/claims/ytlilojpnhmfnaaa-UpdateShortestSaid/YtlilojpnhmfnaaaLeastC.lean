/- Least: the contract of its closure. -/
import Derived.Test.YtlilojpnhmfnaaaLeastB
namespace Go.Proofs.Ytlilojpnhmfnaaa
open Go.RowKit
attribute [local go_sem] Oper.semAt_some

theorem least_out {q : LP} {W W' : World} {s : List Int} {D : Nat} {t : Array Value} {v : Int} (hI : LInv q W) (hm : q.m < D) (hD : W.heap.size ≤ D) (hon : Only (fun b => b = q.m ∨ W.heap.size ≤ b) W W') (hmm : Memo W' q.m (fun s v => s.length = q.n ∧ v = .int .i64 (leastV q.f q.to s)))
    (hdef : W'.heap[D]? = some (.deferred (some []))) (hv : leastV q.f q.to s = v) (ht : t.getD 6 undef = .int .i64 v := by rfl) :
    bodyPostM Fence.wide 0 Try.prog Try.f56 (LPost q W s) .ret { tmps := t, defers := [{ target := .collected D, args := #[] }] } W' := by
  have hO := putObj_only W' D (.deferred none)
  have hon2 := hon.trans (hO.mono' (fun i e => .inr (by omega)))
  refine marks_ret1 (v := .int .i64 v) (D := D) rfl hdef ?_ ⟨by rw [hv], hI.of hon2 (hmm.mono (hO.block _ hmm.lt (by omega)) (fun _ _ h => h)), hon2.mono (fun i hi e => by omega)⟩
  have ht' : t[6]?.getD undef = .int .i64 v := by rw [← ht]; simp
  simp [results, Try.results56, go_sem, ht']

set_option maxRecDepth 100000 in
set_option maxHeartbeats 4000000 in
theorem least_main (q : LP) (H : LHyp q) (s : List Int) (W : World) (a : Option Addr) (c : Nat) (hI : LInv q W) (hs : Ints W a q.n s) (hst : StOk q.f s) (he : ¬ s = q.to) (hna : aboveV q.to s = true)
    (ih : ∀ (x : List Int) (w : World) (ad : Addr) (cx : Nat), 0 < dur q.f.times s x → x ∈ enum q.f s q.to q.n [] → StOk q.f x → LInv q w → Ints w (some ad) q.n x → Calls Try.prog 56 #[.slice (some ad) q.n cx, .pointer (some ⟨q.bto, 0, none⟩), .pointer (some ⟨q.bl, 0, none⟩), .pointer (some ⟨q.bf, 0, none⟩), .pointer (some ⟨q.bb, 0, none⟩)] w (LPost q w x)) :
    Calls Try.prog 56 #[.slice a q.n c, .pointer (some ⟨q.bto, 0, none⟩), .pointer (some ⟨q.bl, 0, none⟩), .pointer (some ⟨q.bf, 0, none⟩), .pointer (some ⟨q.bb, 0, none⟩)] W (LPost q W s) := by
  have hn1 : 0 < q.n := by have := H.ok.n1; have := H.nt; omega
  have hn6 : q.n ≤ 6 := by have := H.ok.n6; have := H.nt; omega
  have hsl : s.length = q.to.length := by rw [hs.len, hI.ito.len]
  have hfin : Hid (leastV q.f q.to s = foldLe q s (enum q.f s q.to q.n [])) := Lib.hid (by rw [leastV_eq hsl hna he, hs.len]; rfl)
  have hdb := dur_bd H.ok hst H.sto hna
  have hable := aboveV_le hna
  have g1 := Gr.alloc W (.cells #[.slice a q.n c] 26)
  have hb5 := cell_new (w := W) (t := 26) (cs := #[.slice a q.n c]) (j := 0) (v := .slice a q.n c) rfl
  have hf5 := frozen_new (w := W) (t := 26) (cs := #[.slice a q.n c]) (j := 0)
  obtain ⟨w1, hw1⟩ : ∃ w1, W.alloc (.cells #[.slice a q.n c] 26) = w1 := ⟨_, rfl⟩
  rw [hw1] at g1 hb5 hf5
  have hI1 := hI.gr g1
  have hc2 := hI1.c2
  have hq1 := equal_any a q.toa q.n c q.n q.toc s q.to w1 (hs.gr g1) hI1.ito
  rw [decide_eq_false he] at hq1
  have HEQ := Lib.hid hq1
  have HE := Lib.hid he
  have IH := Lib.hid ih
  have HAB := Lib.hid hable
  obtain ⟨lv, lb, hlk, hlv⟩ := least_lookup H hI hst hs.len
  have HLK := Lib.hid hlk
  have HLV := Lib.hid hlv
  clear ih hlk hlv hq1 he hsl hable
  refine calls_marks Try.func56 rfl ?_
  simp only [Try.ntmps56, List.size_toArray, List.length_cons, List.length_nil, Nat.reduceAdd, Nat.reduceSub, Array.replicate_succ, Array.replicate_zero, List.push_toArray, List.append_toArray, List.nil_append, List.cons_append]
  go_wp2_with fail
  clear hw1
  refine HEQ.out.mono ?_
  rintro e w2 ⟨rfl, k, rfl⟩
  have g2 := g1.trans (Gr.drewN w1 k)
  have hb52 := ((Gr.drewN w1 k).cell (lt_cell hb5)).trans hb5
  have hf52 := ((Gr.drewN w1 k).frozen (lt_cell hb5)).trans hf5
  obtain ⟨w2, hw2⟩ : ∃ w2, w1.drewN k = w2 := ⟨_, rfl⟩
  rw [hw2] at g2 hb52 hf52 ⊢
  clear hw2 hb5 hf5 hc2 HEQ g1
  have HKE := Lib.hid (keyOf_any a q.n c s w2 (hs.gr g2) hn1 hn6)
  go_wp2_with fail
  refine HKE.out.mono ?_
  rintro e w3 ⟨rfl, g3⟩
  unfold keyV
  have G3 := g2.trans g3
  have hkg := Gr.alloc w3 (.cells #[.int .i64 (s[0]?.getD 0), .int .i64 (s[1]?.getD 0), .int .i64 (s[2]?.getD 0), .int .i64 (s[3]?.getD 0), .int .i64 (s[4]?.getD 0), .int .i64 (s[5]?.getD 0)] 89)
  have hkc : ∀ j v, (#[Value.int .i64 (s[0]?.getD 0), .int .i64 (s[1]?.getD 0), .int .i64 (s[2]?.getD 0), .int .i64 (s[3]?.getD 0), .int .i64 (s[4]?.getD 0), .int .i64 (s[5]?.getD 0)] : Array Value)[j]? = some v → (w3.alloc (.cells #[.int .i64 (s[0]?.getD 0), .int .i64 (s[1]?.getD 0), .int .i64 (s[2]?.getD 0), .int .i64 (s[3]?.getD 0), .int .i64 (s[4]?.getD 0), .int .i64 (s[5]?.getD 0)] 89)).cell? ⟨w3.heap.size, j, none⟩ = some v := fun j v h => cell_new h
  have hkf : ∀ j, (w3.alloc (.cells #[.int .i64 (s[0]?.getD 0), .int .i64 (s[1]?.getD 0), .int .i64 (s[2]?.getD 0), .int .i64 (s[3]?.getD 0), .int .i64 (s[4]?.getD 0), .int .i64 (s[5]?.getD 0)] 89)).frozen? ⟨w3.heap.size, j, none⟩ = false := fun j => frozen_new
  have hloc : LCells (w3.alloc (.cells #[.int .i64 (s[0]?.getD 0), .int .i64 (s[1]?.getD 0), .int .i64 (s[2]?.getD 0), .int .i64 (s[3]?.getD 0), .int .i64 (s[4]?.getD 0), .int .i64 (s[5]?.getD 0)] 89)) (leastL q W a c w3.heap.size s) := by
    have g4 := g3.trans hkg
    intro p hp
    simp only [leastL, List.mem_cons, List.not_mem_nil, or_false] at hp
    rcases hp with rfl | rfl | rfl | rfl | rfl | rfl | rfl
    · exact ⟨(g4.cell (lt_cell hb52)).trans hb52, (g4.frozen (lt_cell hb52)).trans hf52⟩
    · exact ⟨hkc 0 _ rfl, hkf 0⟩
    · exact ⟨hkc 1 _ rfl, hkf 1⟩
    · exact ⟨hkc 2 _ rfl, hkf 2⟩
    · exact ⟨hkc 3 _ rfl, hkf 3⟩
    · exact ⟨hkc 4 _ rfl, hkf 4⟩
    · exact ⟨hkc 5 _ rfl, hkf 5⟩
  have hkb : W.heap.size < w3.heap.size := Nat.lt_of_lt_of_le (lt_cell hb52) g3.size
  have G4 := G3.trans hkg
  have hI4 := hI.gr G4
  have hc3 := hI4.c3
  obtain ⟨w4, hw4⟩ : ∃ w4, w3.alloc (.cells #[.int .i64 (s[0]?.getD 0), .int .i64 (s[1]?.getD 0), .int .i64 (s[2]?.getD 0), .int .i64 (s[3]?.getD 0), .int .i64 (s[4]?.getD 0), .int .i64 (s[5]?.getD 0)] 89) = w4 := ⟨_, rfl⟩
  rw [hw4] at hloc G4 hI4 hc3
  have hk0 := hloc.at 1 rfl
  have hk1 := hloc.at 2 rfl
  have hk2 := hloc.at 3 rfl
  have hk3 := hloc.at 4 rfl
  have hk4 := hloc.at 5 rfl
  have hk5 := hloc.at 6 rfl
  have hlk := HLK.out w4 (G4.below.block _ hI.memo.lt)
  clear hkc hkf hkg G3 g3 HKE hb52 hf52 g2 HLK
  cases lb with
  | true =>
    have hv := HLV.out rfl
    have HV := Lib.hid hv
    clear hv HLV
    go_wp2_with fail
    exact marks_ret0 (v := .int .i64 lv) (by simp [results, Try.results56, go_sem]) rfl ⟨by rw [HV.out], hI4, G4.only _⟩
  | false =>
    have hc0 := hI4.c0
    have hc1 := hI4.c1
    have hc2 := hI4.c2
    have hb5 := hloc.at 0 rfl
    have HDU := Lib.hid (duration_any q.ta q.ca a q.toa q.tn q.tc q.cn q.cc q.n c q.toc q.f s q.to w4 hI4.fl H.ok (hs.gr G4) hI4.ito (fun c hc => (hst.ver c hc).1) H.sto (fun c hc => HAB.out c (by rw [H.sto.len]; exact hc)))
    clear HLV
    go_wp2_with fail
    refine HDU.out.mono ?_
    rintro e w5 ⟨rfl, g5⟩
    clear hc0 hc1 hc2 hc3 hk0 hk1 hk2 hk3 hk4 hk5 hb5 hlk HDU hw4
    have g6 := g5.allocR (.cells #[.int .i64 (dur q.f.times s q.to)] 3)
    have hbx : LCells (w5.alloc (.cells #[.int .i64 (dur q.f.times s q.to)] 3)) [(⟨w5.heap.size, 0, none⟩, .int .i64 (dur q.f.times s q.to))] := fun p hp => by
      simp at hp
      subst hp
      exact ⟨cell_new rfl, frozen_new⟩
    have hloc6 := hloc.gr g6
    have hkb5 : w3.heap.size < w5.heap.size := Nat.lt_of_lt_of_le (hloc.lt (⟨w3.heap.size, 0, none⟩, _) (by simp [leastL]; rfl)) g5.size
    obtain ⟨w6, hw6⟩ : ∃ w6, w5.alloc (.cells #[.int .i64 (dur q.f.times s q.to)] 3) = w6 := ⟨_, rfl⟩
    rw [hw6] at g6 hbx hloc6
    have G6 := G4.trans g6
    have hI6 := hI.gr G6
    have hc0 := hI6.c0
    have hc1 := hI6.c1
    have hc2 := hI6.c2
    have hb5 := hloc6.at 0 rfl
    have HST := Lib.hid (states_any q.ta q.ca a q.toa q.tn q.tc q.cn q.cc q.n c q.n q.toc w6)
    clear g5 hloc
    go_wp2_with fail
    clear hw6
    refine HST.out.mono ?_
    rintro e w7 hnew
    obtain ⟨g7, s7, i0, i1, i2, i3⟩ := NewIter.facts hnew
    obtain ⟨rfl, -⟩ := hnew
    clear hc0 hc1 hc2 hb5 HST
    generalize hkk : w3.heap.size = kb at *
    generalize hxx : w5.heap.size = bx at *
    have hbx7 := hbx.gr g7
    have hB7 : LI q W s a c kb bx [] w7 := ⟨(G6.trans g7).only _, hloc6.gr g7, (hI6.gr g7).memo, hbx7⟩
    have l0 := hbx7.lt (⟨bx, 0, none⟩, .int .i64 (dur q.f.times s q.to)) (by simp)
    have l6 := hbx.lt (⟨bx, 0, none⟩, .int .i64 (dur q.f.times s q.to)) (by simp)
    simp only at l0 l6
    have hm0 := hI.memo.lt
    have hn : LNum q W kb bx w7.heap.size := ⟨hm0, hkb, hkb5, l0⟩
    have h67 := g7.size
    clear s7 hbx hloc6 hbx7 hkk hxx
    go_wp2_with fail
    refine range_states (wB := W) (S := fun b => b = q.m ∨ W.heap.size ≤ b) (Y := fun b => b = q.m ∨ b = bx) (f := q.f) (lo := s) (hi := q.to) (n := q.n) (bfr := w6.heap.size + 1) (bfl := w6.heap.size) (bto := w6.heap.size + 2) rfl (hI.base H hs hst) ((G6.trans g7).only _) ?_ ?_ i2 i0 i1 i3 ?_ ?_ ?_ (LI q W s a c kb bx) (fun _ _ => False) hB7 (fun xs W1 W2 h g => h.keep hn g) (fun _ _ _ h _ => h.elim) ?a1 ?assign ?body ?done (fun _ _ h => h.elim)
    case assign =>
      intro l v w1 K hK
      gi_wp2
      exact hK
    case body =>
      intro pre x ad cx wr hB _ hx hax hx3 hmem hsx hw
      have hmem' := hmem
      rw [← hs.len] at hmem'
      exact least_round q H s x W wr a c kb bx w7.heap.size cx (w7.heap.size + 1) ad pre _ (by rfl) hI hs hst hn hB hx hsx (enum_between hmem').1 (fun hd w => IH.out x w ad cx hd hmem hsx)
    case done =>
      intro w10 hB10 hdef
      have hI10 := hB10.inv hI
      have c3 := hI10.c3
      have k0 := hB10.loc.at 1 rfl
      have k1 := hB10.loc.at 2 rfl
      have k2 := hB10.loc.at 3 rfl
      have k3 := hB10.loc.at 4 rfl
      have k4 := hB10.loc.at 5 rfl
      have k5 := hB10.loc.at 6 rfl
      have y := hB10.best.at 0 rfl
      obtain ⟨o, hrun, hmemo⟩ := memo_store (v := .int .i64 (foldLe q s (enum q.f s q.to q.n []))) Try.underlying86 hI10.memo (hst.small H.ok) ⟨hs.len, by rw [hfin.out]⟩
      unfold keyV at hrun
      have hO := putObj_only w10 q.m o
      have hnm : NoCells (fun b => b = q.m) w10 := fun b cs t fr hs hb => hI10.noc b cs t fr (.inl hs) hb
      have y11 := hO.cellN hnm y
      have hon11 := hB10.on.trans (hO.mono' (fun i e => .inl e))
      have hD := (Array.getElem?_eq_some_iff.1 hdef).1
      have hdef11 := (hO.block _ hD (by have := hn.i1; have := hn.i2; have := hn.i3; have := hn.i4; omega)).trans hdef
      generalize foldLe q s (enum q.f s q.to q.n []) = fv at *
      dsimp only at y y11
      go_wp2_with fail
      exact least_out hI (by have := hn.i1; have := hn.i2; have := hn.i3; have := hn.i4; omega) (by have := hn.i2; have := hn.i3; have := hn.i4; omega) hon11 hmemo hdef11 hfin.out
    all_goals first | (intro b h; omega) | omega

theorem least_end (q : LP) (s : List Int) (W : World) (a : Option Addr) (c : Nat) (hI : LInv q W) (hs : Ints W a q.n s) (he : s = q.to) :
    Calls Try.prog 56 #[.slice a q.n c, .pointer (some ⟨q.bto, 0, none⟩), .pointer (some ⟨q.bl, 0, none⟩), .pointer (some ⟨q.bf, 0, none⟩), .pointer (some ⟨q.bb, 0, none⟩)] W (LPost q W s) := by
  have hv : Hid (leastV q.f q.to s = 0) := Lib.hid (by rw [he]; exact leastV_end _ _)
  have g1 := Gr.alloc W (.cells #[.slice a q.n c] 26)
  have hb5 := cell_new (w := W) (t := 26) (cs := #[.slice a q.n c]) (j := 0) (v := .slice a q.n c) rfl
  obtain ⟨w1, hw1⟩ : ∃ w1, W.alloc (.cells #[.slice a q.n c] 26) = w1 := ⟨_, rfl⟩
  rw [hw1] at g1 hb5
  have hI1 := hI.gr g1
  have hc2 := hI1.c2
  have hq1 := equal_any a q.toa q.n c q.n q.toc s q.to w1 (hs.gr g1) hI1.ito
  rw [decide_eq_true he] at hq1
  have HEQ := Lib.hid hq1
  clear hq1 he
  go_enter Try.func56, Try.ntmps56
  go_wp2_with fail
  refine HEQ.out.mono ?_
  rintro e w2 ⟨rfl, k, rfl⟩
  go_wp2_with fail
  go_ret
  exact ⟨by rw [hv.out]; rfl, hI1.gr (Gr.drewN w1 k), (g1.trans (Gr.drewN w1 k)).only _⟩

theorem least_any (q : LP) (H : LHyp q) : ∀ (k : Nat) (s : List Int) (W : World) (a : Option Addr) (c : Nat), gap s q.to ≤ k → StOk q.f s → aboveV q.to s = true → LInv q W → Ints W a q.n s →
    Calls Try.prog 56 #[.slice a q.n c, .pointer (some ⟨q.bto, 0, none⟩), .pointer (some ⟨q.bl, 0, none⟩), .pointer (some ⟨q.bf, 0, none⟩), .pointer (some ⟨q.bb, 0, none⟩)] W (LPost q W s) := by
  intro k
  induction k with
  | zero =>
    intro s W a c hk hst ha hI hs
    exact least_end q s W a c hI hs (above_gap_zero (by rw [hs.len, hI.ito.len]) ha (by omega))
  | succ k ih =>
    intro s W a c hk hst ha hI hs
    by_cases he : s = q.to
    · exact least_end q s W a c hI hs he
    · refine least_main q H s W a c hI hs hst he ha (fun x w ad cx hd hmem hsx hIw hxw => ?_)
      have hl : s.length = q.to.length := by rw [hs.len, hI.ito.len]
      rw [← hs.len] at hmem
      have hb := (enum_between hmem).1
      have hne : s ≠ x := fun e => by subst e; rw [dur_self] at hd; omega
      have hlt := gap_lt (hl := hl) hb hne
      exact ih x w (some ad) cx (by omega) hsx (aboveV_true (n := q.to.length) rfl (fun j hj => hb.le j (by omega))) hIw hxw
end Go.Proofs.Ytlilojpnhmfnaaa
