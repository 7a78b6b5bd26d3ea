/- Contract of update.Check. -/
import Derived.Test.YtlilojpnhmfnaaaValid
namespace Go.Proofs.Ytlilojpnhmfnaaa
open Go.RowKit

def IdxPost (b : Bool) (w : World) (e : Ending) (w' : World) : Prop := ∃ r : Int, e = .returned (.int .i64 r) ∧ decide (0 ≤ r) = b ∧ Gr w w'

theorem check1_any (n : Int) (w : World) : Calls Try.prog 75 #[.int .i64 n] w fun e w' => e = .returned (.bool (!withinB n 1 10000)) ∧ Gr w w' := by
  go_enter Try.func75, Try.ntmps75
  go_wp2_with (go_at_call 61; refine (within_any _ _ _ _).mono ?_; rintro e w' ⟨rfl, rfl⟩)
  go_ret
  exact ⟨rfl, Gr.refl _⟩

theorem any_hit {l : List Int} {p : Int → Bool} {k : Nat} (hk : k < l.length) (h : p (l[k]?.getD 0) = true) : l.any p = true := by
  rw [List.any_eq_true]; exact ⟨l[k], List.getElem_mem hk, by simpa [hk] using h⟩
theorem any_none {l : List Int} {p : Int → Bool} (h : ∀ j, j < l.length → p (l[j]?.getD 0) = false) : l.any p = false := by
  rw [List.any_eq_false]; intro x hx
  obtain ⟨j, hj, rfl⟩ := List.getElem_of_mem hx
  have := h j hj
  simpa [hj] using this

set_option maxHeartbeats 1000000 in
theorem indexFunc75 (a : Option Addr) (n c : Nat) (xs : List Int) (w : World) (hx : Ints w a n xs) :
    Calls Try.prog 93 #[.slice a n c, .func (.func 75) #[] #[]] w (IdxPost (xs.any fun n => !withinB n 1 10000) w) := by
  have hn := hx.lt
  go_enter Try.func93, Try.ntmps93
  go_wp2
  go_loopw [8] (fun i wr => ∃ k : Nat, k ≤ n ∧ i = .int .i64 k ∧ Gr w wr ∧ Hid (∀ j, j < k → (!withinB (xs[j]?.getD 0) 1 10000) = false)) (fun i _ => n - (intOf i).toNat)
  case atStart => exact ⟨0, Nat.zero_le _, rfl, Gr.refl _, Lib.hid (by intros; omega)⟩
  case round =>
    obtain ⟨k, hk, rfl, hg, hall⟩ := hrel
    by_cases hlt : k < n
    · obtain ⟨aa, rfl, hab, hac⟩ := (hx.gr hg).at hlt
      cases hb : (!withinB (xs[k]?.getD 0) 1 10000) with
      | true =>
        go_wp2_with (go_at_call 75; refine (check1_any _ _).mono ?_; rintro e w' ⟨rfl, hg2⟩)
        go_ret
        exact ⟨k, rfl, by rw [any_hit (p := fun n => !withinB n 1 10000) (by rw [hx.len]; exact hlt) hb]; simp, hg.trans hg2⟩
      | false =>
        go_wp2_with (go_at_call 75; refine (check1_any _ _).mono ?_; rintro e w' ⟨rfl, hg2⟩)
        go_roundw
        case rel => exact ⟨k + 1, by omega, by go_num, hg.trans hg2, Lib.hid (fun j hj => by
          by_cases e : j = k
          · subst e; exact hb
          · exact hall.out j (by omega))⟩
        case measure => simp [intOf]; omega
    · obtain rfl : k = n := by omega
      go_wp2
      go_ret
      exact ⟨-1, rfl, by rw [any_none (p := fun n => !withinB n 1 10000) (fun j hj => hall.out j (by rw [← hx.len]; exact hj))]; simp, hg⟩

theorem containsFunc75 (a : Option Addr) (n c : Nat) (xs : List Int) (w : World) (hx : Ints w a n xs) :
    Calls Try.prog 71 #[.slice a n c, .func (.func 75) #[] #[]] w fun e w' => e = .returned (.bool (xs.any fun n => !withinB n 1 10000)) ∧ Gr w w' := by
  go_enter Try.func71, Try.ntmps71
  go_wp2_with (go_at_call 93; refine (indexFunc75 _ _ _ _ _ hx).mono ?_; rintro e w' ⟨r, rfl, hr, hg⟩)
  go_ret
  exact ⟨rfl, by assumption⟩

theorem rowOk_long {l : List Int} (h : 3 < l.length) : rowOk l = false := by simp [rowOk, show ¬ l.length ≤ 3 by omega]
theorem rowOk_any {l : List Int} (h : (l.any fun n => !withinB n 1 10000) = true) : rowOk l = false := by unfold rowOk; rw [h]; simp
theorem rowOk_true {l : List Int} (h0 : ¬ 3 < l.length) (h : (l.any fun n => !withinB n 1 10000) = false) : rowOk l = true := by unfold rowOk; rw [h]; simp; omega

set_option maxHeartbeats 2000000 in
theorem check_any (ta ca : Option Addr) (tn tc cn cc : Nat) (f : Fl) (w : World) (hf : FlAt w ta tn ca cn f) :
    Calls Try.prog 36 #[.agg #[.slice ta tn tc, .slice ca cn cc]] w fun e w' => e = .returned (.int .i64 (chkE f)) ∧ Gr w w' := by
  have htn := hf.t.lt
  have hcn := hf.c.lt
  have HT := Lib.hid hf.t.len
  have HC := Lib.hid hf.c.len
  cases hw : withinB (tn : Int) 1 6 with
  | false =>
    go_enter Try.func36, Try.ntmps36
    go_wp2_with (go_at_call 61; refine (within_any _ _ _ _).mono ?_; rintro e w' ⟨rfl, rfl⟩)
    go_ret
    exact ⟨ret_int (chkE_head (.inl (by rw [HT.out]; exact hw))).symm, Gr.alloc _ _⟩
  | true =>
    by_cases h60 : (60 : Int) < cn
    · go_enter Try.func36, Try.ntmps36
      go_wp2_with (go_at_call 61; refine (within_any _ _ _ _).mono ?_; rintro e w' ⟨rfl, rfl⟩)
      go_ret
      exact ⟨ret_int (chkE_head (.inr (by rw [HC.out]; omega))).symm, Gr.alloc _ _⟩
    · go_enter Try.func36, Try.ntmps36
      go_wp2_with (go_at_call 61; refine (within_any _ _ _ _).mono ?_; rintro e w' ⟨rfl, rfl⟩)
      obtain ⟨w1, hw1⟩ : ∃ w1, w.alloc (.cells #[.slice ta tn tc, .slice ca cn cc] 25) = w1 := ⟨_, rfl⟩
      have hg1 : Gr w w1 := by rw [← hw1]; exact Gr.alloc _ _
      have hc0 : w1.cell? ⟨w.heap.size, 0, none⟩ = some (.slice ta tn tc) := by rw [← hw1]; simp
      have hc1 : w1.cell? ⟨w.heap.size, 1, none⟩ = some (.slice ca cn cc) := by rw [← hw1]; simp
      have hs1 : w.heap.size < w1.heap.size := by rw [← hw1]; simp
      rw [hw1]
      clear hw1
      go_loopw [21] (fun i wr => ∃ k : Nat, k ≤ tn ∧ i = .int .i64 k ∧ Gr w1 wr ∧ Hid (∀ j, j < k → rowOk (f.times[j]?.getD []) = true)) (fun i _ => tn - (intOf i).toNat)
      case atStart => exact ⟨0, Nat.zero_le _, rfl, Gr.refl _, Lib.hid (by intros; omega)⟩
      case round =>
        obtain ⟨k, hk, rfl, hg, hall⟩ := hrel
        by_cases hlt : k < tn
        · obtain ⟨tt, ra, rn, rc, rfl, htb, htc, hri⟩ := (hf.t.gr (hg1.trans hg)).at hlt
          have hrl := hri.lt
          have HR := Lib.hid hri.len
          by_cases h3 : (3 : Int) < rn
          · go_wp2_with fail
            go_ret
            exact ⟨ret_int (chkE_row (k := k) (by rw [HT.out]; exact hlt) (rowOk_long (by rw [HR.out]; omega))).symm, hg1.trans hg⟩
          · cases hany : ((f.times[k]?.getD []).any fun n => !withinB n 1 10000) with
            | true =>
              have hcon := containsFunc75 ra rn rc _ wr hri
              rw [hany] at hcon
              have HCON := Lib.hid hcon
              clear hcon
              go_wp2_with (go_at_call 71; refine HCON.out.mono ?_; rintro e w' ⟨rfl, hg2⟩)
              go_ret
              exact ⟨ret_int (chkE_row (k := k) (by rw [HT.out]; exact hlt) (rowOk_any hany)).symm, hg1.trans (hg.trans hg2)⟩
            | false =>
              have hcon := containsFunc75 ra rn rc _ wr hri
              rw [hany] at hcon
              have HCON := Lib.hid hcon
              have hrow : Hid (rowOk (f.times[k]?.getD []) = true) := Lib.hid (rowOk_true (by rw [HR.out]; omega) hany)
              clear hcon hany
              go_wp2_with (go_at_call 71; refine HCON.out.mono ?_; rintro e w' ⟨rfl, hg2⟩)
              go_roundw
              case rel => exact ⟨k + 1, by omega, by go_num, hg.trans hg2, Lib.hid (fun j hj => by
                by_cases e : j = k
                · subst e; exact hrow.out
                · exact hall.out j (by omega))⟩
              case measure => simp [intOf]; omega
        · obtain rfl : k = tn := by omega
          have hcr := (hg.cell (p := ⟨w.heap.size, 1, none⟩) hs1).trans hc1
          have hcr0 := (hg.cell (p := ⟨w.heap.size, 0, none⟩) hs1).trans hc0
          obtain ⟨w2, hw2⟩ : ∃ w2, w2 = wr := ⟨_, rfl⟩
          subst hw2
          have hs2 : w.heap.size < w2.heap.size := Nat.lt_of_lt_of_le hs1 hg.size
          go_wp2_with fail
          go_loopw [36] (fun i wr => ∃ k : Nat, k ≤ cn ∧ i = .int .i64 k ∧ Gr w2 wr ∧ Hid (∀ j, j < k → clOk f.times (f.cl[j]?.getD default) = true)) (fun i _ => cn - (intOf i).toNat)
          case atStart => exact ⟨0, Nat.zero_le _, rfl, Gr.refl _, Lib.hid (by intros; omega)⟩
          case round =>
            obtain ⟨j, hj, rfl, hgj, hallj⟩ := hrel
            by_cases hltj : j < cn
            · obtain ⟨aa, rfl, hab, c0, c1, c2, c3⟩ := (hf.c.gr ((hg1.trans hg).trans hgj)).at hltj
              obtain ⟨x, hx⟩ : ∃ x, f.cl[j]?.getD default = x := ⟨_, rfl⟩
              rw [hx] at c0 c1 c2 c3
              have HX := Lib.hid hx
              clear hx
              have hj1 := (hgj.cell (p := ⟨w.heap.size, 1, none⟩) hs2).trans hcr
              have hj0 := (hgj.cell (p := ⟨w.heap.size, 0, none⟩) hs2).trans hcr0
              have hga := Gr.alloc wr (.cells #[.int .i64 x.a, .int .i64 x.va, .int .i64 x.b, .int .i64 x.vb] 70)
              have hfl := hf.gr (((hg1.trans hg).trans hgj).trans hga)
              have hsr : w.heap.size < wr.heap.size := Nat.lt_of_lt_of_le hs2 hgj.size
              have k0 : (wr.alloc (.cells #[.int .i64 x.a, .int .i64 x.va, .int .i64 x.b, .int .i64 x.vb] 70)).cell? ⟨w.heap.size, 0, none⟩ = some (.slice ta k tc) := (hga.cell (p := ⟨w.heap.size, 0, none⟩) hsr).trans hj0
              have k1 : (wr.alloc (.cells #[.int .i64 x.a, .int .i64 x.va, .int .i64 x.b, .int .i64 x.vb] 70)).cell? ⟨w.heap.size, 1, none⟩ = some (.slice (some aa) cn cc) := (hga.cell (p := ⟨w.heap.size, 1, none⟩) hsr).trans hj1
              have x2 : (wr.alloc (.cells #[.int .i64 x.a, .int .i64 x.va, .int .i64 x.b, .int .i64 x.vb] 70)).cell? ⟨wr.heap.size, 2, none⟩ = some (.int .i64 x.b) := by simp
              have x3 : (wr.alloc (.cells #[.int .i64 x.a, .int .i64 x.va, .int .i64 x.b, .int .i64 x.vb] 70)).cell? ⟨wr.heap.size, 3, none⟩ = some (.int .i64 x.vb) := by simp
              have sz : wr.heap.size < (wr.alloc (.cells #[.int .i64 x.a, .int .i64 x.va, .int .i64 x.b, .int .i64 x.vb] 70)).heap.size := by simp
              have szw : w.heap.size < (wr.alloc (.cells #[.int .i64 x.a, .int .i64 x.va, .int .i64 x.b, .int .i64 x.vb] 70)).heap.size := Nat.lt_trans hsr sz
              have gall := ((hg1.trans hg).trans hgj).trans hga
              have K0 := Lib.hid k0
              have K1 := Lib.hid k1
              have X2 := Lib.hid x2
              have X3 := Lib.hid x3
              have SZ := Lib.hid sz
              have SZW := Lib.hid szw
              clear k0 k1 x2 x3 sz szw
              have fin : ∀ b, clOk f.times x = b → clOk f.times (f.cl[j]?.getD default) = b := fun b hb => by rw [HX.out]; exact hb
              have FIN := Lib.hid fin
              clear fin
              cases hab' : (x.a == x.b) with
              | true =>
                go_wp2_with (go_at_call 76; refine (version_any _ _ _ _ _ _ f _ _ _ (by first | exact hfl | exact hfl.gr (by assumption))).mono ?_; rintro e w3 ⟨rfl, hg3⟩)
                go_ret
                exact ⟨ret_int (chkE_cl (k := j) (by rw [HC.out]; exact hltj) (FIN.out false (by simp only [clOk, hab']; rfl))).symm, gall⟩
              | false =>
                cases hva : verB f.times x.a x.va with
                | false =>
                  go_wp2_with (go_at_call 76; refine (version_any _ _ _ _ _ _ f _ _ _ (by first | exact hfl | exact hfl.gr (by assumption))).mono ?_; rintro e w3 ⟨rfl, hg3⟩; have g0 := (hg3.cell (p := ⟨w.heap.size, 0, none⟩) SZW.out).trans K0.out; have g1 := (hg3.cell (p := ⟨w.heap.size, 1, none⟩) SZW.out).trans K1.out; have g2 := (hg3.cell (p := ⟨wr.heap.size, 2, none⟩) SZ.out).trans X2.out; have g3 := (hg3.cell (p := ⟨wr.heap.size, 3, none⟩) SZ.out).trans X3.out)
                  go_ret
                  exact ⟨ret_int (chkE_cl (k := j) (by rw [HC.out]; exact hltj) (FIN.out false (by simp only [clOk, hab', hva]; rfl))).symm, gall.trans (by assumption)⟩
                | true =>
                  cases hvb : verB f.times x.b x.vb with
                  | false =>
                    go_wp2_with (go_at_call 76; refine (version_any _ _ _ _ _ _ f _ _ _ (by first | exact hfl | exact hfl.gr (by assumption))).mono ?_; rintro e w3 ⟨rfl, hg3⟩; (try (have g0 := (hg3.cell (p := ⟨w.heap.size, 0, none⟩) SZW.out).trans K0.out; have g1 := (hg3.cell (p := ⟨w.heap.size, 1, none⟩) SZW.out).trans K1.out; have g2 := (hg3.cell (p := ⟨wr.heap.size, 2, none⟩) SZ.out).trans X2.out; have g3 := (hg3.cell (p := ⟨wr.heap.size, 3, none⟩) SZ.out).trans X3.out)))
                    go_ret
                    exact ⟨ret_int (chkE_cl (k := j) (by rw [HC.out]; exact hltj) (FIN.out false (by simp only [clOk, hvb, Bool.and_false]))).symm, (gall.trans (by assumption)).trans (by assumption)⟩
                  | true =>
                    go_wp2_with (go_at_call 76; refine (version_any _ _ _ _ _ _ f _ _ _ (by first | exact hfl | exact hfl.gr (by assumption))).mono ?_; rintro e w3 ⟨rfl, hg3⟩; (try (have g0 := (hg3.cell (p := ⟨w.heap.size, 0, none⟩) SZW.out).trans K0.out; have g1 := (hg3.cell (p := ⟨w.heap.size, 1, none⟩) SZW.out).trans K1.out; have g2 := (hg3.cell (p := ⟨wr.heap.size, 2, none⟩) SZ.out).trans X2.out; have g3 := (hg3.cell (p := ⟨wr.heap.size, 3, none⟩) SZ.out).trans X3.out)))
                    go_roundw
                    case rel => exact ⟨j + 1, by omega, by go_num, (hgj.trans hga).trans (Gr.trans (by assumption) (by assumption)), Lib.hid (fun i hi => by
                      by_cases e : i = j
                      · subst e; exact FIN.out true (by simp only [clOk, hab', hva, hvb]; rfl)
                      · exact hallj.out i (by omega))⟩
                    case measure => simp [intOf]; omega
            · obtain rfl : j = cn := by omega
              go_wp2_with fail
              go_ret
              exact ⟨ret_int (chkE_ok (by rw [HT.out]; exact hw) (by rw [HC.out]; omega) (fun i hi => hall.out i (by rw [← HT.out]; exact hi)) (fun i hi => hallj.out i (by rw [← HC.out]; exact hi))).symm, (hg1.trans hg).trans hgj⟩
end Go.Proofs.Ytlilojpnhmfnaaa
