/- Contract: the reference Check. -/
import Derived.Test.YtlilojpnhmfnaaaStates
namespace Go.Proofs.Ytlilojpnhmfnaaa
open Go.RowKit

theorem rowOk_bad {l : List Int} {v : Nat} (hv : v < l.length) (h : withinB (l[v]?.getD 0) 1 10000 = false) : rowOk l = false :=
  rowOk_any (any_hit (p := fun n => !withinB n 1 10000) hv (by simp only [h]; rfl))
theorem rowOk_good {l : List Int} (h0 : ¬ 3 < l.length) (h : ∀ j, j < l.length → withinB (l[j]?.getD 0) 1 10000 = true) : rowOk l = true :=
  rowOk_true h0 (any_none (p := fun n => !withinB n 1 10000) (fun j hj => by simp only [h j hj]; rfl))

set_option maxHeartbeats 4000000 in
theorem check2_any (ta ca : Option Addr) (tn tc cn cc : Nat) (f : Fl) (w : World) (hf : FlAt w ta tn ca cn f) :
    Calls Try.prog 37 #[.agg #[.slice ta tn tc, .slice ca cn cc]] w fun e w' => e = .returned (.int .i64 (chkE f)) ∧ Gr w w' := by
  have htn := hf.t.lt
  have hcn := hf.c.lt
  have HT := Lib.hid hf.t.len
  have HC := Lib.hid hf.c.len
  cases hw : withinB (tn : Int) 1 6 with
  | false =>
    go_enter Try.func37, Try.ntmps37
    go_wp2_with (go_at_call 63; refine (within2_any _ _ _ _).mono ?_; rintro e w' ⟨rfl, rfl⟩)
    go_ret
    exact ⟨ret_int (chkE_head (.inl (by rw [HT.out]; exact hw))).symm, Gr.alloc _ _⟩
  | true =>
    by_cases h60 : (60 : Int) < cn
    · go_enter Try.func37, Try.ntmps37
      go_wp2_with (go_at_call 63; refine (within2_any _ _ _ _).mono ?_; rintro e w' ⟨rfl, rfl⟩)
      go_ret
      exact ⟨ret_int (chkE_head (.inr (by rw [HC.out]; omega))).symm, Gr.alloc _ _⟩
    · go_enter Try.func37, Try.ntmps37
      go_wp2_with (go_at_call 63; refine (within2_any _ _ _ _).mono ?_; rintro e w' ⟨rfl, rfl⟩)
      obtain ⟨w1, hw1⟩ : ∃ w1, w.alloc (.cells #[.slice ta tn tc, .slice ca cn cc] 25) = w1 := ⟨_, rfl⟩
      have hg1 : Gr w w1 := by rw [← hw1]; exact Gr.alloc _ _
      have hc0 : w1.cell? ⟨w.heap.size, 0, none⟩ = some (.slice ta tn tc) := by rw [← hw1]; simp
      have hc1 : w1.cell? ⟨w.heap.size, 1, none⟩ = some (.slice ca cn cc) := by rw [← hw1]; simp
      have hs1 : w.heap.size < w1.heap.size := by rw [← hw1]; simp
      rw [hw1]
      clear hw1
      go_loop [3] (fun i => ∃ k : Nat, k ≤ tn ∧ i = .int .i64 k ∧ Hid (∀ j, j < k → rowOk (f.times[j]?.getD []) = true)) (fun i => tn - (intOf i).toNat)
      case atStart => exact ⟨0, Nat.zero_le _, rfl, Lib.hid (by intros; omega)⟩
      case round =>
        obtain ⟨k, hk, rfl, hall⟩ := hrel
        by_cases hlt : k < tn
        · obtain ⟨tt, ra, rn, rc, rfl, htb, htc, hri⟩ := (hf.t.gr hg1).at hlt
          have hrl := hri.lt
          have HR := Lib.hid hri.len
          by_cases h3 : (3 : Int) < rn
          · go_wp2_with fail
            go_ret
            exact ⟨ret_int (chkE_row (k := k) (by rw [HT.out]; exact hlt) (rowOk_long (by rw [HR.out]; omega))).symm, hg1⟩
          · go_wp2_with fail
            go_loop [4] (fun i => ∃ j : Nat, j ≤ rn ∧ i = .int .i64 j ∧ Hid (∀ v, v < j → withinB ((f.times[k]?.getD [])[v]?.getD 0) 1 10000 = true)) (fun i => rn - (intOf i).toNat)
            case atStart => exact ⟨0, Nat.zero_le _, rfl, Lib.hid (by intros; omega)⟩
            case round =>
              obtain ⟨j, hj, rfl, hallj⟩ := hrel
              by_cases hltj : j < rn
              · obtain ⟨aa, rfl, hab, hac⟩ := hri.at hltj
                cases hv : withinB ((f.times[k]?.getD [])[j]?.getD 0) 1 10000 with
                | false =>
                  go_wp2_with (go_at_call 63; refine (within2_any _ _ _ _).mono ?_; rintro e w' ⟨rfl, rfl⟩)
                  go_ret
                  exact ⟨ret_int (chkE_row (k := k) (by rw [HT.out]; exact hlt) (rowOk_bad (v := j) (by rw [HR.out]; exact hltj) hv)).symm, hg1⟩
                | true =>
                  go_wp2_with (go_at_call 63; refine (within2_any _ _ _ _).mono ?_; rintro e w' ⟨rfl, rfl⟩)
                  go_round
                  case rel => exact ⟨j + 1, by omega, by go_num, Lib.hid (fun i hi => by
                    by_cases e : i = j
                    · subst e; exact hv
                    · exact hallj.out i (by omega))⟩
                  case measure => simp [intOf]; omega
              · obtain rfl : j = rn := by omega
                go_wp2_with fail
                go_round
                case rel => exact ⟨k + 1, by omega, by go_num, Lib.hid (fun i hi => by
                  by_cases e : i = k
                  · subst e; exact rowOk_good (by rw [HR.out]; omega) (fun v hv => hallj.out v (by rw [← HR.out]; exact hv))
                  · exact hall.out i (by omega))⟩
                case measure => simp [intOf]; omega
        · obtain rfl : k = tn := by omega
          go_wp2_with fail
          go_loopw [5] (fun i wr => ∃ k : Nat, k ≤ cn ∧ i = .int .i64 k ∧ Gr w1 wr ∧ Hid (∀ j, j < k → clOk f.times (f.cl[j]?.getD default) = true)) (fun i _ => cn - (intOf i).toNat)
          case atStart => exact ⟨0, Nat.zero_le _, rfl, Gr.refl _, Lib.hid (by intros; omega)⟩
          case round =>
            obtain ⟨j, hj, rfl, hgj, hallj⟩ := hrel
            have hj1 := (hgj.cell (p := ⟨w.heap.size, 1, none⟩) hs1).trans hc1
            have hj0 := (hgj.cell (p := ⟨w.heap.size, 0, none⟩) hs1).trans hc0
            by_cases hltj : j < cn
            · obtain ⟨aa, rfl, hab, c0, c1, c2, c3⟩ := (hf.c.gr (hg1.trans hgj)).at hltj
              obtain ⟨x, hx⟩ : ∃ x, f.cl[j]?.getD default = x := ⟨_, rfl⟩
              rw [hx] at c0 c1 c2 c3
              have HX := Lib.hid hx
              clear hx
              have hga := Gr.alloc wr (.cells #[.int .i64 x.a, .int .i64 x.va, .int .i64 x.b, .int .i64 x.vb] 70)
              have hfl := hf.gr ((hg1.trans hgj).trans hga)
              have hsr : w.heap.size < wr.heap.size := Nat.lt_of_lt_of_le hs1 hgj.size
              have k0 : (wr.alloc (.cells #[.int .i64 x.a, .int .i64 x.va, .int .i64 x.b, .int .i64 x.vb] 70)).cell? ⟨w.heap.size, 0, none⟩ = some (.slice ta k tc) := (hga.cell (p := ⟨w.heap.size, 0, none⟩) hsr).trans hj0
              have k1 : (wr.alloc (.cells #[.int .i64 x.a, .int .i64 x.va, .int .i64 x.b, .int .i64 x.vb] 70)).cell? ⟨w.heap.size, 1, none⟩ = some (.slice (some aa) cn cc) := (hga.cell (p := ⟨w.heap.size, 1, none⟩) hsr).trans hj1
              have x0 : (wr.alloc (.cells #[.int .i64 x.a, .int .i64 x.va, .int .i64 x.b, .int .i64 x.vb] 70)).cell? ⟨wr.heap.size, 0, none⟩ = some (.int .i64 x.a) := by simp
              have x2 : (wr.alloc (.cells #[.int .i64 x.a, .int .i64 x.va, .int .i64 x.b, .int .i64 x.vb] 70)).cell? ⟨wr.heap.size, 2, none⟩ = some (.int .i64 x.b) := by simp
              have x3 : (wr.alloc (.cells #[.int .i64 x.a, .int .i64 x.va, .int .i64 x.b, .int .i64 x.vb] 70)).cell? ⟨wr.heap.size, 3, none⟩ = some (.int .i64 x.vb) := by simp
              have sz : wr.heap.size < (wr.alloc (.cells #[.int .i64 x.a, .int .i64 x.va, .int .i64 x.b, .int .i64 x.vb] 70)).heap.size := by simp
              have szw : w.heap.size < (wr.alloc (.cells #[.int .i64 x.a, .int .i64 x.va, .int .i64 x.b, .int .i64 x.vb] 70)).heap.size := Nat.lt_trans hsr sz
              have gall := (hg1.trans hgj).trans hga
              have K0 := Lib.hid k0
              have K1 := Lib.hid k1
              have X0 := Lib.hid x0
              have X2 := Lib.hid x2
              have X3 := Lib.hid x3
              have SZ := Lib.hid sz
              have SZW := Lib.hid szw
              clear k0 k1 x0 x2 x3 sz szw
              have fin : ∀ b, clOk f.times x = b → clOk f.times (f.cl[j]?.getD default) = b := fun b hb => by rw [HX.out]; exact hb
              have FIN := Lib.hid fin
              clear fin
              cases hva : verB f.times x.a x.va with
              | false =>
                go_wp2_with (go_at_call 77; refine (version2_any _ _ _ _ _ _ f _ _ _ (by first | exact hfl | exact hfl.gr (by assumption))).mono ?_; rintro e w3 ⟨rfl, hg3⟩; have g0 := (hg3.cell (p := ⟨w.heap.size, 0, none⟩) SZW.out).trans K0.out; have g1 := (hg3.cell (p := ⟨w.heap.size, 1, none⟩) SZW.out).trans K1.out; have g2 := (hg3.cell (p := ⟨wr.heap.size, 2, none⟩) SZ.out).trans X2.out; have g3 := (hg3.cell (p := ⟨wr.heap.size, 3, none⟩) SZ.out).trans X3.out; have g4 := (hg3.cell (p := ⟨wr.heap.size, 0, none⟩) SZ.out).trans X0.out)
                go_ret
                exact ⟨ret_int (chkE_cl (k := j) (by rw [HC.out]; exact hltj) (FIN.out false (by simp only [clOk, hva, Bool.and_false, Bool.false_and]))).symm, gall.trans (by assumption)⟩
              | true =>
                cases hvb : verB f.times x.b x.vb with
                | false =>
                  go_wp2_with (go_at_call 77; refine (version2_any _ _ _ _ _ _ f _ _ _ (by first | exact hfl | exact hfl.gr (by assumption))).mono ?_; rintro e w3 ⟨rfl, hg3⟩; (try (have g0 := (hg3.cell (p := ⟨w.heap.size, 0, none⟩) SZW.out).trans K0.out; have g1 := (hg3.cell (p := ⟨w.heap.size, 1, none⟩) SZW.out).trans K1.out; have g2 := (hg3.cell (p := ⟨wr.heap.size, 2, none⟩) SZ.out).trans X2.out; have g3 := (hg3.cell (p := ⟨wr.heap.size, 3, none⟩) SZ.out).trans X3.out; have g4 := (hg3.cell (p := ⟨wr.heap.size, 0, none⟩) SZ.out).trans X0.out)))
                  go_ret
                  exact ⟨ret_int (chkE_cl (k := j) (by rw [HC.out]; exact hltj) (FIN.out false (by simp only [clOk, hvb, Bool.and_false]))).symm, (gall.trans (by assumption)).trans (by assumption)⟩
                | true =>
                  cases hab' : (x.a == x.b) with
                  | true =>
                    go_wp2_with (go_at_call 77; refine (version2_any _ _ _ _ _ _ f _ _ _ (by first | exact hfl | exact hfl.gr (by assumption))).mono ?_; rintro e w3 ⟨rfl, hg3⟩; first | (have g0 := (hg3.cell (p := ⟨w.heap.size, 0, none⟩) SZW.out).trans K0.out; have g1 := (hg3.cell (p := ⟨w.heap.size, 1, none⟩) SZW.out).trans K1.out; have g2 := (hg3.cell (p := ⟨wr.heap.size, 2, none⟩) SZ.out).trans X2.out; have g3 := (hg3.cell (p := ⟨wr.heap.size, 3, none⟩) SZ.out).trans X3.out; have g4 := (hg3.cell (p := ⟨wr.heap.size, 0, none⟩) SZ.out).trans X0.out; have S4 := Lib.hid (Nat.lt_of_lt_of_le SZ.out hg3.size)) | (have g5 := (hg3.cell (p := ⟨wr.heap.size, 0, none⟩) S4.out).trans g4; have g6 := (hg3.cell (p := ⟨wr.heap.size, 2, none⟩) S4.out).trans g2))
                    go_ret
                    exact ⟨ret_int (chkE_cl (k := j) (by rw [HC.out]; exact hltj) (FIN.out false (by simp only [clOk, hab']; rfl))).symm, (gall.trans (by assumption)).trans (by assumption)⟩
                  | false =>
                    go_wp2_with (go_at_call 77; refine (version2_any _ _ _ _ _ _ f _ _ _ (by first | exact hfl | exact hfl.gr (by assumption))).mono ?_; rintro e w3 ⟨rfl, hg3⟩; first | (have g0 := (hg3.cell (p := ⟨w.heap.size, 0, none⟩) SZW.out).trans K0.out; have g1 := (hg3.cell (p := ⟨w.heap.size, 1, none⟩) SZW.out).trans K1.out; have g2 := (hg3.cell (p := ⟨wr.heap.size, 2, none⟩) SZ.out).trans X2.out; have g3 := (hg3.cell (p := ⟨wr.heap.size, 3, none⟩) SZ.out).trans X3.out; have g4 := (hg3.cell (p := ⟨wr.heap.size, 0, none⟩) SZ.out).trans X0.out; have S4 := Lib.hid (Nat.lt_of_lt_of_le SZ.out hg3.size)) | (have g5 := (hg3.cell (p := ⟨wr.heap.size, 0, none⟩) S4.out).trans g4; have g6 := (hg3.cell (p := ⟨wr.heap.size, 2, none⟩) S4.out).trans g2))
                    go_roundw
                    case rel => exact ⟨j + 1, by omega, by go_num, (hgj.trans hga).trans (Gr.trans (by assumption) (by assumption)), Lib.hid (fun i hi => by
                      by_cases e : i = j
                      · subst e; exact FIN.out true (by simp only [clOk, hab', hva, hvb]; rfl)
                      · exact hallj.out i (by omega))⟩
                    case measure => simp [intOf]; omega
            · obtain rfl : j = cn := by omega
              go_wp2_with fail
              go_ret
              exact ⟨ret_int (chkE_ok (by rw [HT.out]; exact hw) (by rw [HC.out]; omega) (fun i hi => hall.out i (by rw [← HT.out]; exact hi)) (fun i hi => hallj.out i (by rw [← HC.out]; exact hi))).symm, hg1.trans hgj⟩
end Go.Proofs.Ytlilojpnhmfnaaa
