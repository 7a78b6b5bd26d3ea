/- Contracts: Back and the reference's. -/
import Derived.Test.YtlilojpnhmfnaaaBd7
import Derived.Test.YtlilojpnhmfnaaaBd6
namespace Go.Proofs.Ytlilojpnhmfnaaa
open Go.RowKit

theorem run_take (w : World) (pa : Option Addr) (n c k : Nat) (hk : k ≤ c) : (Instr.slice 22 (.slice pa n c) none (some (.int .i64 k)) none).run Try.prog w = .ok (.slice pa k c) w := by
  have hu := Try.underlying22
  have ha : ∀ a : Addr, a.add 0 = a := fun a => by unfold Addr.add; rfl
  have hm : pa.map (fun a => a.add 0) = pa := by cases pa <;> simp [ha]
  have h1 : (0 : Int) ≤ k ∧ (k : Int) ≤ c := by omega
  obtain ⟨i0, hi, hz0, hz1, hz2⟩ := info_parts Try.info26
  simp [Instr.slice, Instr.sliceBounds, Instr.sliceBound, underlying, hu, sizeOf, hi, hz1, asIntOf, h1, hm, go_sem]
  intro h; omega

/-- append of the first states of a plan to a new list of one state -/
theorem wpList_front {ops : Array Oper} {rest : List Oper} {o : Oper} {a : Act} {w3 W : World} {Q : Exit → Act → World → Prop} (hgd : o.guard = none) {s x : Operand} {sa pa : Option Addr} {n c pn pc g : Nat} {xs : List Int} {L : List (List Int)}
    (ho : o.op = .call { callee := .builtin .append, args := #[s, x], argTypes := #[22, 22] }) (hs : a.eval s = .slice (some ⟨g, 0, none⟩) 1 1) (hx : a.eval x = .slice pa pn pc)
    (hg : W.heap[g]? = some (.cells #[.slice sa n c] 26 (0, 0))) (hge : w3.heap.size ≤ g) (hgr : Gr w3 W) (hi : Ints w3 sa n xs) (hL : RowsAt w3 pa pn L) (h64 : pn ≤ 64)
    (h : ∀ ra rc w6, RowsAt w6 ra (pn + 1) (xs :: L) → Gr w3 w6 → wpList Try.prog ops Q rest (a.put o.dst (.slice ra (pn + 1) rc)) w6) : wpList Try.prog ops Q (o :: rest) a W :=
  wpList_plain hgd fun K hK => cp_append ho hs hx hg hge hgr hi hL h64 (fun ra rc w6 k1 k2 => hK _ _ (h ra rc w6 k1 k2))

set_option maxRecDepth 100000 in
set_option maxHeartbeats 4000000 in
theorem back_any (ta ca a pa : Option Addr) (tn tc cn cc n c pn pc : Nat) (f : Fl) (xs : List Int) (L : List (List Int)) (bu dn : Int) (w : World) (hf : FlAt w ta tn ca cn f) (hx : Ints w a n xs) (hL : RowsAt w pa pn L) (hpc : pn ≤ pc) :
    Calls Try.prog 32 #[.agg #[.slice ta tn tc, .slice ca cn cc], .slice a n c, .slice pa pn pc, .int .i64 bu, .int .i64 dn] w (PlanPost w (backV f xs L bu dn) (backE f xs L bu dn)) := by
  have g1 := Gr.alloc w (.cells #[.slice ta tn tc, .slice ca cn cc] 25)
  have c0 := cell_new (w := w) (t := 25) (cs := #[.slice ta tn tc, .slice ca cn cc]) (j := 0) rfl
  have c1 := cell_new (w := w) (t := 25) (cs := #[.slice ta tn tc, .slice ca cn cc]) (j := 1) rfl
  obtain ⟨w1, hw1⟩ : ∃ w1, w.alloc (.cells #[.slice ta tn tc, .slice ca cn cc] 25) = w1 := ⟨_, rfl⟩
  rw [hw1] at g1 c0 c1
  have HC := Lib.hid (checkPlan_any ta ca a pa tn tc cn cc n c pn pc f xs L bu w1 (hf.gr g1) (hx.gr g1) (hL.gr g1))
  by_cases he : (cpR f xs L bu).2 = 0
  · have heb : ((cpR f xs L bu).2 != 0) = false := by simp [he]
    have HE : Hid (backE f xs L bu dn = (if withinB dn 0 L.length then 0 else 1)) := Lib.hid (by unfold backE; rw [if_pos he])
    have hpl := cpR_pl he
    have HPL := Lib.hid hpl
    have hn1 : 0 < n := by have := hpl.ok.n1; have := hpl.a.len; have := hx.len; omega
    have hn6 : n ≤ 6 := by have := hpl.ok.n6; have := hpl.a.len; have := hx.len; omega
    have hp64 : pn ≤ 64 := by have := hpl.n64; have := hL.len; omega
    have hPN := Lib.hid hL.len
    clear he hpl
    cases hb : withinB dn 0 pn with
    | false =>
      have HP : Hid (backE f xs L bu dn = 1 ∧ backV f xs L bu dn = []) := Lib.hid (by
        have : backE f xs L bu dn = 1 := by rw [HE.out, hL.len, hb]; rfl
        exact ⟨this, by unfold backV; rw [this]; rfl⟩)
      have HWI := Lib.hid (show ∀ W, Calls Try.prog 61 #[.int .i64 dn, .int .i64 0, .int .i64 pn] W fun e w' => e = .returned (.bool false) ∧ W = w' from fun W => hb ▸ within_any dn 0 pn W)
      clear hb
      go_enter Try.func32, Try.ntmps32
      go_wp2_with fail
      refine HC.out.mono ?_
      rintro e w3 ⟨rfl, g3⟩
      go_wp2_with fail
      refine (HWI.out _).mono ?_
      rintro e w' ⟨rfl, rfl⟩
      go_wp2_with fail
      go_ret2
      exact ⟨none, 0, 0, by rw [HP.out.1]; rfl, by rw [HP.out.2]; exact RowsAt.nil _, g1.trans g3, Nat.le_refl _⟩
    | true =>
      obtain ⟨d, rfl, hdp⟩ : ∃ d : Nat, dn = d ∧ d ≤ pn := by
        simp [withinB] at hb
        exact ⟨dn.toNat, by omega, by omega⟩
      have HP : Hid (backE f xs L bu d = 0 ∧ backV f xs L bu d = bk xs L d) := Lib.hid (by
        have : backE f xs L bu d = 0 := by rw [HE.out, hL.len, hb]; rfl
        exact ⟨this, by unfold backV; rw [this]; rfl⟩)
      have HWI := Lib.hid (show ∀ W, Calls Try.prog 61 #[.int .i64 d, .int .i64 0, .int .i64 pn] W fun e w' => e = .returned (.bool true) ∧ W = w' from fun W => hb ▸ within_any d 0 pn W)
      clear hb HE
      go_enter Try.func32, Try.ntmps32
      go_wp2_with fail
      refine HC.out.mono ?_
      rintro e w3 ⟨rfl, g3⟩
      have G3 := g1.trans g3
      have hx3 := hx.gr G3
      have hL3 := hL.gr G3
      clear hw1 c0 c1 HC g1 g3
      have hsl := run_take w3 pa pn pc d (by omega)
      have g4 := Gr.alloc w3 (.cells #[.slice a n c] 26)
      have hg4 := heap_alloc_new w3 (.cells #[.slice a n c] 26)
      have hsl4 := run_take (w3.alloc (.cells #[.slice a n c] 26)) pa pn pc d (by omega)
      have hLd : RowsAt w3 pa d (L.take d) := hL3.take hdp
      go_wp2_with fail
      refine (HWI.out _).mono ?_
      rintro e w' ⟨rfl, rfl⟩
      clear HWI
      go_wp2_with (at_builtin; refine wpList_front rfl rfl rfl rfl hg4 (Nat.le_refl _) g4 hx3 hLd (by omega) ?_; intro ra rc w5 hA g5)
      clear hg4 g4 hsl hsl4 hLd
      go_wp2_with fail
      go_loopw [10, 15] (fun o i wr => ∃ (k : Nat) (Lo : List (List Int)), k ≤ d ∧ i = .int .i64 ((k : Int) - 1) ∧ Gr w5 wr ∧ OutR wr w5.heap.size o Lo ∧ Lo.length = d - k ∧ Hid (Lo ++ bk xs L k = bk xs L d)) (fun _ i _ => (intOf i + 1).toNat)
      case atStart => exact ⟨d, [], Nat.le_refl _, rfl, Gr.refl _, OutR.nil _ _, by simp, Lib.hid rfl⟩
      case round =>
        obtain ⟨k, Lo, hk, rfl, gr, hO, hlo, HT⟩ := hrel
        cases k with
        | zero =>
          have hz : (((0 : Nat) : Int) - 1) = -1 := rfl
          rw [hz]
          have HF : Hid (Lo = backV f xs L bu d) := Lib.hid (by rw [HP.out.2, ← HT.out]; simp [bk])
          clear hz
          go_wp2_with fail
          go_ret2
          rw [← HF.out, HP.out.1]
          exact hO.post ((G3.trans g5).trans gr) (by omega)
        | succ m =>
          have hz : (((m + 1 : Nat) : Int) - 1) = (m : Int) := by omega
          rw [hz]
          obtain ⟨pd, qa, qn, qc, rfl, hpb, hpcell, hqi⟩ := (hA.gr gr).at (j := m) (by omega)
          have hqv : ((xs :: L.take d)[m]?.getD []) = pAt xs L m := by
            unfold pAt
            cases m with
            | zero => rfl
            | succ m => simp only [List.getElem?_cons_succ]; rw [List.getElem?_take_of_lt (by omega)]
          rw [hqv] at hqi
          have hqn : qn = n := by
            have := (HPL.out.at (k := m) (by have := hPN.out; omega)).len
            have := HPL.out.a.len; have := hx.len; have := hqi.len; omega
          subst hqn
          have HT2 : Hid ((Lo ++ [pAt xs L m]) ++ bk xs L m = bk xs L d) := Lib.hid (by rw [← HT.out]; simp [bk])
          generalize pAt xs L m = q at *
          obtain ⟨qd, rfl, _, _⟩ := hqi.at hn1
          have HCN := Lib.hid (clone_any (some qd) qn qc q wr hqi hn1 (by omega))
          have hlc := hqi.len
          clear hqv hz
          go_wp2_with fail
          refine HCN.out.mono ?_
          rintro e w9 ⟨g9, gc, rfl, hge9, hgi, hg9, hg3⟩
          rw [hlc] at hgi ⊢
          have G9 := gr.trans hg9
          have hO9 := hO.gr (hg9.allocR (.cells #[.slice (some ⟨g9, 0, none⟩) qn gc] 26))
          have hy9 := hgi.gr (Gr.alloc w9 (.cells #[.slice (some ⟨g9, 0, none⟩) qn gc] 26))
          have h39 := hg3.gr (Gr.alloc w9 (.cells #[.slice (some ⟨g9, 0, none⟩) qn gc] 26))
          have G10 := G9.allocR (.cells #[.slice (some ⟨g9, 0, none⟩) qn gc] 26)
          have hg10 := heap_alloc_new w9 (.cells #[.slice (some ⟨g9, 0, none⟩) qn gc] 26)
          clear HCN hgi hg3 hg9
          go_wp2_with (at_builtin; refine wpList_push rfl rfl rfl rfl hg10 hO9 G10 hy9 h39 (by omega) ?_; intro v' w11 hO11 G11 _)
          clear hO9 hy9 h39 G10 hg10
          go_wp2_with fail
          go_roundw
          case rel => exact ⟨m, Lo ++ [q], by omega, rfl, G11, hO11, by simp only [List.length_append, List.length_singleton, hlo]; omega, HT2⟩
          case measure => simp [intOf] <;> omega
  · have heb : ((cpR f xs L bu).2 != 0) = true := by simp [he]
    have HP : Hid (backE f xs L bu dn = (cpR f xs L bu).2 ∧ backV f xs L bu dn = []) := Lib.hid (by
      have : backE f xs L bu dn = (cpR f xs L bu).2 := by unfold backE; rw [if_neg he]
      exact ⟨this, by unfold backV; rw [this, if_neg he]⟩)
    clear he
    go_enter Try.func32, Try.ntmps32
    go_wp2_with fail
    refine HC.out.mono ?_
    rintro e w3 ⟨rfl, g3⟩
    go_wp2_with fail
    go_ret2
    exact ⟨none, 0, 0, by rw [HP.out.1]; rfl, by rw [HP.out.2]; exact RowsAt.nil _, g1.trans g3, Nat.le_refl _⟩

set_option maxRecDepth 100000 in
set_option maxHeartbeats 4000000 in
theorem back2_any (ta ca a pa : Option Addr) (tn tc cn cc n c pn pc : Nat) (f : Fl) (xs : List Int) (L : List (List Int)) (bu dn : Int) (w : World) (hf : FlAt w ta tn ca cn f) (hx : Ints w a n xs) (hL : RowsAt w pa pn L) :
    Calls Try.prog 33 #[.agg #[.slice ta tn tc, .slice ca cn cc], .slice a n c, .slice pa pn pc, .int .i64 bu, .int .i64 dn] w (PlanPost w (backV f xs L bu dn) (backE f xs L bu dn)) := by
  have g1 := Gr.alloc w (.cells #[.slice ta tn tc, .slice ca cn cc] 25)
  have c0 := cell_new (w := w) (t := 25) (cs := #[.slice ta tn tc, .slice ca cn cc]) (j := 0) rfl
  have c1 := cell_new (w := w) (t := 25) (cs := #[.slice ta tn tc, .slice ca cn cc]) (j := 1) rfl
  obtain ⟨w1, hw1⟩ : ∃ w1, w.alloc (.cells #[.slice ta tn tc, .slice ca cn cc] 25) = w1 := ⟨_, rfl⟩
  rw [hw1] at g1 c0 c1
  have HC := Lib.hid (checkPlan2_any ta ca a pa tn tc cn cc n c pn pc f xs L bu w1 (hf.gr g1) (hx.gr g1) (hL.gr g1))
  by_cases he : (cpR f xs L bu).2 = 0
  · have heb : ((cpR f xs L bu).2 != 0) = false := by simp [he]
    have HE : Hid (backE f xs L bu dn = (if withinB dn 0 L.length then 0 else 1)) := Lib.hid (by unfold backE; rw [if_pos he])
    have hpl := cpR_pl he
    have HPL := Lib.hid hpl
    have hn1 : 0 < n := by have := hpl.ok.n1; have := hpl.a.len; have := hx.len; omega
    have hn6 : n ≤ 6 := by have := hpl.ok.n6; have := hpl.a.len; have := hx.len; omega
    have hp64 : pn ≤ 64 := by have := hpl.n64; have := hL.len; omega
    have hPN := Lib.hid hL.len
    clear he hpl
    cases hb : withinB dn 0 pn with
    | false =>
      have HP : Hid (backE f xs L bu dn = 1 ∧ backV f xs L bu dn = []) := Lib.hid (by
        have : backE f xs L bu dn = 1 := by rw [HE.out, hL.len, hb]; rfl
        exact ⟨this, by unfold backV; rw [this]; rfl⟩)
      have HWI := Lib.hid (show ∀ W, Calls Try.prog 63 #[.int .i64 dn, .int .i64 0, .int .i64 pn] W fun e w' => e = .returned (.bool false) ∧ W = w' from fun W => hb ▸ within2_any dn 0 pn W)
      clear hb
      go_enter Try.func33, Try.ntmps33
      go_wp2_with fail
      refine HC.out.mono ?_
      rintro e w3 ⟨rfl, g3⟩
      go_wp2_with fail
      refine (HWI.out _).mono ?_
      rintro e w' ⟨rfl, rfl⟩
      go_wp2_with fail
      go_ret2
      exact ⟨none, 0, 0, by rw [HP.out.1]; rfl, by rw [HP.out.2]; exact RowsAt.nil _, g1.trans g3, Nat.le_refl _⟩
    | true =>
      obtain ⟨d, rfl, hdp⟩ : ∃ d : Nat, dn = d ∧ d ≤ pn := by
        simp [withinB] at hb
        exact ⟨dn.toNat, by omega, by omega⟩
      have HP : Hid (backE f xs L bu d = 0 ∧ backV f xs L bu d = bk xs L d) := Lib.hid (by
        have : backE f xs L bu d = 0 := by rw [HE.out, hL.len, hb]; rfl
        exact ⟨this, by unfold backV; rw [this]; rfl⟩)
      have HWI := Lib.hid (show ∀ W, Calls Try.prog 63 #[.int .i64 d, .int .i64 0, .int .i64 pn] W fun e w' => e = .returned (.bool true) ∧ W = w' from fun W => hb ▸ within2_any d 0 pn W)
      clear hb HE
      go_enter Try.func33, Try.ntmps33
      go_wp2_with fail
      refine HC.out.mono ?_
      rintro e w3 ⟨rfl, g3⟩
      have G3 := g1.trans g3
      have hx3 := hx.gr G3
      have hL3 := hL.gr G3
      clear hw1 c0 c1 HC g1 g3
      go_wp2_with fail
      refine (HWI.out _).mono ?_
      rintro e w' ⟨rfl, rfl⟩
      clear HWI
      go_wp2_with fail
      go_loopw [14, 15] (fun o i wr => ∃ (k : Nat) (Lo : List (List Int)), k ≤ d ∧ (k = 0 → d = 0) ∧ i = .int .i64 ((k : Int) - 2) ∧ Gr w3 wr ∧ OutR wr w3.heap.size o Lo ∧ Lo.length = d - k ∧ Hid (Lo ++ bk xs L k = bk xs L d)) (fun _ i _ => (intOf i + 1).toNat)
      case atStart => exact ⟨d, [], Nat.le_refl _, fun h => h, rfl, Gr.refl _, OutR.nil _ _, by simp, Lib.hid rfl⟩
      case round =>
        obtain ⟨k, Lo, hk, hk0, rfl, gr, hO, hlo, HT⟩ := hrel
        match k with
        | 0 =>
          obtain rfl : d = 0 := hk0 rfl
          have hz : (((0 : Nat) : Int) - 2) = -2 := rfl
          rw [hz]
          have HP0 : Hid (backE f xs L bu 0 = 0 ∧ backV f xs L bu 0 = bk xs L 0) := Lib.hid (by have := HP.out; simpa using this)
          have HF : Hid (Lo = backV f xs L bu 0) := Lib.hid (by rw [HP0.out.2, ← HT.out]; simp [bk])
          have hd0 : ¬ (0 : Int) < ((0 : Nat) : Int) := by omega
          clear hz hk0
          go_wp2_with fail
          go_ret2
          rw [← HF.out, HP0.out.1]
          exact hO.post (G3.trans gr) (by omega)
        | 1 =>
          have hz : (((1 : Nat) : Int) - 2) = -1 := rfl
          rw [hz]
          have hd0 : (0 : Int) < (d : Int) := by omega
          have HF : Hid (Lo ++ [xs] = backV f xs L bu d) := Lib.hid (by rw [HP.out.2, ← HT.out]; simp [bk, pAt])
          have hxr := hx3.gr gr
          clear hz hk0
          go_wp2_with (first | (at_builtin; refine wpList_copy rfl rfl rfl rfl hxr hn1 (by omega) ?_; intro g8 gc w9 hgi hg3 hge9 hg9; have G9 := gr.trans hg9; have hO9 := hO.gr (hg9.allocR (.cells #[.slice (some ⟨g8, 0, none⟩) n gc] 26)); have hy9 := hgi.gr (Gr.alloc w9 (.cells #[.slice (some ⟨g8, 0, none⟩) n gc] 26)); have h39 := hg3.gr (Gr.alloc w9 (.cells #[.slice (some ⟨g8, 0, none⟩) n gc] 26)); have G10 := G9.allocR (.cells #[.slice (some ⟨g8, 0, none⟩) n gc] 26); have hg10 := heap_alloc_new w9 (.cells #[.slice (some ⟨g8, 0, none⟩) n gc] 26); clear hgi hg3 hg9) | (at_builtin; refine wpList_push rfl rfl rfl rfl hg10 hO9 G10 hy9 h39 (by omega) ?_; intro v' w11 hO11 G11 _))
          clear hO9 hy9 h39 G10 hg10
          go_wp2_with fail
          go_ret2
          rw [← HF.out, HP.out.1]
          exact hO11.post (G3.trans G11) (by simp; omega)
        | m + 2 =>
          have hz : (((m + 2 : Nat) : Int) - 2) = (m : Int) := by omega
          rw [hz]
          obtain ⟨pd, qa, qn, qc, rfl, hpb, hpcell, hqi⟩ := (hL3.gr gr).at (j := m) (by omega)
          have hqv : (L[m]?.getD []) = pAt xs L (m + 1) := by simp [pAt]
          rw [hqv] at hqi
          have hqn : qn = n := by
            have := (HPL.out.at (k := m + 1) (by have := hPN.out; omega)).len
            have := HPL.out.a.len; have := hx.len; have := hqi.len; omega
          subst hqn
          have HT2 : Hid ((Lo ++ [pAt xs L (m + 1)]) ++ bk xs L (m + 1) = bk xs L d) := Lib.hid (by rw [← HT.out]; simp [bk])
          generalize pAt xs L (m + 1) = q at *
          have hm1 : (((m + 1 : Nat) : Int) - 2) = (m : Int) - 1 := by omega
          have HM1 := Lib.hid hm1
          clear hqv hz hk0 hm1
          go_wp2_with (first | (at_builtin; refine wpList_copy rfl rfl rfl rfl hqi hn1 (by omega) ?_; intro g8 gc w9 hgi hg3 hge9 hg9; have G9 := gr.trans hg9; have hO9 := hO.gr (hg9.allocR (.cells #[.slice (some ⟨g8, 0, none⟩) qn gc] 26)); have hy9 := hgi.gr (Gr.alloc w9 (.cells #[.slice (some ⟨g8, 0, none⟩) qn gc] 26)); have h39 := hg3.gr (Gr.alloc w9 (.cells #[.slice (some ⟨g8, 0, none⟩) qn gc] 26)); have G10 := G9.allocR (.cells #[.slice (some ⟨g8, 0, none⟩) qn gc] 26); have hg10 := heap_alloc_new w9 (.cells #[.slice (some ⟨g8, 0, none⟩) qn gc] 26); clear hgi hg3 hg9) | (at_builtin; refine wpList_push rfl rfl rfl rfl hg10 hO9 G10 hy9 h39 (by omega) ?_; intro v' w11 hO11 G11 _))
          clear hO9 hy9 h39 G10 hg10
          go_wp2_with fail
          go_roundw
          case rel => exact ⟨m + 1, Lo ++ [q], by omega, fun h => by omega, by rw [HM1.out], G11, hO11, by simp only [List.length_append, List.length_singleton, hlo]; omega, HT2⟩
          case measure => simp [intOf] <;> omega
  · have heb : ((cpR f xs L bu).2 != 0) = true := by simp [he]
    have HP : Hid (backE f xs L bu dn = (cpR f xs L bu).2 ∧ backV f xs L bu dn = []) := Lib.hid (by
      have : backE f xs L bu dn = (cpR f xs L bu).2 := by unfold backE; rw [if_neg he]
      exact ⟨this, by unfold backV; rw [this, if_neg he]⟩)
    clear he
    go_enter Try.func33, Try.ntmps33
    go_wp2_with fail
    refine HC.out.mono ?_
    rintro e w3 ⟨rfl, g3⟩
    go_wp2_with fail
    go_ret2
    exact ⟨none, 0, 0, by rw [HP.out.1]; rfl, by rw [HP.out.2]; exact RowsAt.nil _, g1.trans g3, Nat.le_refl _⟩
end Go.Proofs.Ytlilojpnhmfnaaa
