/- Contracts of the clashes: clash, works, and the reference clash; version. -/
import Derived.Test.YtlilojpnhmfnaaaCmp
namespace Go.Proofs.Ytlilojpnhmfnaaa
open Go.RowKit

theorem verB_out {T : List (List Int)} {x v : Int} (h : ¬ (0 ≤ x ∧ x < T.length)) : verB T x v = false := by
  unfold verB
  by_cases h1 : 0 ≤ x <;> by_cases h2 : x < T.length <;> simp [h1, h2] <;> omega
theorem withinB_eq_false {n lo hi : Int} (h : ¬ (lo ≤ n ∧ n ≤ hi)) : withinB n lo hi = false := by
  unfold withinB; by_cases h1 : lo ≤ n <;> by_cases h2 : n ≤ hi <;> simp [h1, h2]; omega
theorem withinB_eq_true {n lo hi : Int} (h : lo ≤ n ∧ n ≤ hi) : withinB n lo hi = true := by
  unfold withinB; simp [h.1, h.2]

set_option maxHeartbeats 1000000 in
theorem version_any (ta ca : Option Addr) (tn tc cn cc : Nat) (f : Fl) (x v : Int) (w : World) (hf : FlAt w ta tn ca cn f) :
    Calls Try.prog 76 #[.agg #[.slice ta tn tc, .slice ca cn cc], .int .i64 x, .int .i64 v] w fun e w' => e = .returned (.bool (verB f.times x v)) ∧ Gr w w' := by
  have hlt := hf.t.lt
  have htn := hf.t.len
  have HT := Lib.hid htn
  clear htn
  by_cases h1 : 0 ≤ x ∧ x ≤ (tn : Int) - 1
  · obtain ⟨h1, h2⟩ := h1
    have hw1 := withinB_eq_true (n := x) (lo := 0) (hi := (tn : Int) - 1) ⟨h1, h2⟩
    obtain ⟨k, rfl⟩ := Int.eq_ofNat_of_zero_le h1
    have hg := Gr.alloc w (.cells #[.slice ta tn tc, .slice ca cn cc] 25)
    obtain ⟨tt, ra, rn, rc, rfl, htb, htc, hri⟩ := (hf.t.gr hg).at (j := k) (by omega)
    have hrl := hri.lt
    have hx2 : (k : Int) < tn := by omega
    have hres : verB f.times k v = withinB v 0 rn := by
      unfold verB withinB
      have e1 : (0 : Int) ≤ k := by omega
      have e2 : (k : Int) < f.times.length := by have := HT.out; omega
      have e3 : ((f.times[(k : Int).toNat]?.getD []).length : Int) = rn := by rw [Int.toNat_natCast, hri.len]
      rw [e3]; simp [e1, e2]
    have HR := Lib.hid hres
    clear hres
    go_enter Try.func76, Try.ntmps76
    go_wp2_with (go_at_call 61; refine (within_any _ _ _ _).mono ?_; rintro e w' ⟨rfl, rfl⟩)
    go_ret
    exact ⟨ret_bool HR.out.symm, hg⟩
  · have hw1 := withinB_eq_false (n := x) (lo := 0) (hi := (tn : Int) - 1) h1
    have hres : verB f.times x v = false := verB_out (by have := HT.out; omega)
    have HR := Lib.hid hres
    clear hres h1
    go_enter Try.func76, Try.ntmps76
    go_wp2_with (go_at_call 61; refine (within_any _ _ _ _).mono ?_; rintro e w' ⟨rfl, rfl⟩)
    go_ret
    exact ⟨ret_bool HR.out.symm, Gr.alloc _ _⟩

set_option maxHeartbeats 1000000 in
theorem clash1_any (a : Option Addr) (n c B : Nat) (x : Cl) (s : List Int) (w : World) (hB : B < w.heap.size) (hc : w.cell? ⟨B, 0, none⟩ = some (.slice a n c)) (hs : Ints w a n s)
    (ha : 0 ≤ x.a ∧ x.a < n) (hb : 0 ≤ x.b ∧ x.b < n) :
    Calls Try.prog 96 #[.agg #[.int .i64 x.a, .int .i64 x.va, .int .i64 x.b, .int .i64 x.vb], .pointer (some ⟨B, 0, none⟩)] w fun e w' => e = .returned (.bool (applies x s)) ∧ Gr w w' := by
  obtain ⟨ha1, ha2⟩ := ha
  obtain ⟨hb1, hb2⟩ := hb
  have hn := hs.lt
  obtain ⟨aa, rfl, hab, hac⟩ := hs.at (j := x.a.toNat) (by omega)
  obtain ⟨bb, e, hbb, hbc⟩ := hs.at (j := x.b.toNat) (by omega)
  injection e with e
  subst e
  have hg := Gr.alloc w (.cells #[.int .i64 x.a, .int .i64 x.va, .int .i64 x.b, .int .i64 x.vb] 70)
  have hac1 := (hg.cell (p := aa.add x.a.toNat) (by rw [add_block]; exact hab)).trans hac
  have hbc1 := (hg.cell (p := aa.add x.b.toNat) (by rw [add_block]; exact hab)).trans hbc
  have hc1 := (hg.cell (p := ⟨B, 0, none⟩) hB).trans hc
  by_cases h1 : (s[x.a.toNat]?.getD 0 == x.va) = true
  · have hres : applies x s = (s[x.b.toNat]?.getD 0 == x.vb) := by simp only [applies, h1, Bool.true_and]
    have HR := Lib.hid hres
    clear hres
    go_enter Try.func96, Try.ntmps96
    go_wp2
    go_quiet (fail)
    go_wp2
    go_ret
    exact ⟨ret_bool HR.out.symm, hg.drewNR _⟩
  · have h1' : (s[x.a.toNat]?.getD 0 == x.va) = false := by simpa using h1
    have hres : applies x s = false := by simp only [applies, h1', Bool.false_and]
    have HR := Lib.hid hres
    clear hres h1
    go_enter Try.func96, Try.ntmps96
    go_wp2
    go_quiet (fail)
    go_wp2
    go_ret
    exact ⟨ret_bool HR.out.symm, hg.drewNR _⟩

theorem clashFrom_hit {C : List Cl} {s : List Int} {m k : Nat} (hm : 0 < m) (h : applies (C[k]?.getD default) s = true) : clashFrom C s m k = k := by
  cases m with
  | zero => omega
  | succ m => simp [clashFrom, h]
theorem clashFrom_miss {C : List Cl} {s : List Int} {m k : Nat} (h : applies (C[k]?.getD default) s = false) : clashFrom C s (m + 1) k = clashFrom C s m (k + 1) := by
  simp [clashFrom, h]

set_option maxHeartbeats 1000000 in
theorem indexFunc_clash (ca a : Option Addr) (cn cc n c B : Nat) (C : List Cl) (s : List Int) (w : World) (hC : ClAt w ca cn C) (hB : B < w.heap.size) (hc : w.cell? ⟨B, 0, none⟩ = some (.slice a n c)) (hs : Ints w a n s)
    (hin : ∀ i, i < cn → (0 ≤ (C[i]?.getD default).a ∧ (C[i]?.getD default).a < n) ∧ (0 ≤ (C[i]?.getD default).b ∧ (C[i]?.getD default).b < n)) :
    Calls Try.prog 95 #[.slice ca cn cc, .func (.func 96) #[] #[.pointer (some ⟨B, 0, none⟩)]] w fun e w' => e = .returned (.int .i64 (clashFrom C s C.length 0)) ∧ Gr w w' := by
  have hn := hC.lt
  have hl := hC.len
  have HL := Lib.hid hl
  have HIN := Lib.hid hin
  clear hl hin
  go_enter Try.func95, Try.ntmps95
  go_wp2
  go_loopw [8] (fun i wr => ∃ k : Nat, k ≤ cn ∧ i = .int .i64 k ∧ Gr w wr ∧ Hid (clashFrom C s C.length 0 = clashFrom C s (cn - k) k)) (fun i _ => cn - (intOf i).toNat)
  case atStart => exact ⟨0, Nat.zero_le _, rfl, Gr.refl _, Lib.hid (by rw [HL.out]; rfl)⟩
  case round =>
    obtain ⟨k, hk, rfl, hg, hcl⟩ := hrel
    by_cases hlt : k < cn
    · obtain ⟨aa, rfl, hab, c0, c1, c2, c3⟩ := (hC.gr hg).at hlt
      have hi := HIN.out k hlt
      have hcB := (hg.cell (p := ⟨B, 0, none⟩) hB).trans hc
      have hcon := clash1_any a n c B (C[k]?.getD default) s wr (Nat.lt_of_lt_of_le hB hg.size) hcB (hs.gr hg) hi.1 hi.2
      have HCON := Lib.hid hcon
      clear hcon hi hcB hc
      cases hap : applies (C[k]?.getD default) s with
      | true =>
        rw [hap] at HCON
        go_wp2_with (go_at_call 96; refine HCON.out.mono ?_; rintro e w' ⟨rfl, hg2⟩)
        go_ret
        exact ⟨ret_int (by rw [hcl.out, clashFrom_hit (by omega) hap]), hg.trans hg2⟩
      | false =>
        rw [hap] at HCON
        go_wp2_with (go_at_call 96; refine HCON.out.mono ?_; rintro e w' ⟨rfl, hg2⟩)
        go_roundw
        case rel => exact ⟨k + 1, by omega, by go_num, hg.trans hg2, Lib.hid (by
          rw [hcl.out]
          have e : cn - k = cn - (k + 1) + 1 := by omega
          rw [e, clashFrom_miss hap])⟩
        case measure => simp [intOf]; omega
    · obtain rfl : k = cn := by omega
      go_wp2
      go_ret
      exact ⟨ret_int (by rw [hcl.out, Nat.sub_self]; rfl), hg⟩
theorem verB_in {T : List (List Int)} {c v : Int} (h : verB T c v = true) : 0 ≤ c ∧ c < T.length ∧ 0 ≤ v ∧ v ≤ ((T[c.toNat]?.getD []).length : Int) := by
  simp only [verB, Bool.and_eq_true, decide_eq_true_eq] at h
  exact ⟨h.1.1.1, h.1.1.2, h.1.2, h.2⟩

theorem FlOk.cin {f : Fl} (h : FlOk f) {s : List Int} (hs : StOk f s) {n : Nat} (hn : s.length = n) : ∀ i, i < f.cl.length → (0 ≤ (f.cl[i]?.getD default).a ∧ (f.cl[i]?.getD default).a < n) ∧ (0 ≤ (f.cl[i]?.getD default).b ∧ (f.cl[i]?.getD default).b < n) := by
  intro i hi
  obtain ⟨h1, h2, _⟩ := h.cl i hi
  have := verB_in h1
  have := verB_in h2
  have := hs.len
  omega

set_option maxHeartbeats 1000000 in
theorem clash_any (ta ca a : Option Addr) (tn tc cn cc n c : Nat) (f : Fl) (s : List Int) (w : World) (hf : FlAt w ta tn ca cn f) (hok : FlOk f) (hs : Ints w a n s) (hst : StOk f s) :
    Calls Try.prog 78 #[.agg #[.slice ta tn tc, .slice ca cn cc], .slice a n c] w fun e w' => e = .returned (.int .i64 (clashI f s)) ∧ Gr w w' := by
  have hin := hok.cin hst hs.len
  rw [hf.c.len] at hin
  have HIN := Lib.hid hin
  clear hin
  obtain ⟨w2, hw2⟩ : ∃ w2, (w.alloc (.cells #[.slice ta tn tc, .slice ca cn cc] 25)).alloc (.cells #[.slice a n c] 26) = w2 := ⟨_, rfl⟩
  have hg : Gr w w2 := by rw [← hw2]; exact (Gr.alloc _ _).allocR _
  have hsz : w.heap.size + 1 < w2.heap.size := by rw [← hw2]; simp
  have hcell : w2.cell? ⟨w.heap.size + 1, 0, none⟩ = some (.slice a n c) := by rw [← hw2]; simp
  have hcall := indexFunc_clash ca a cn cc n c (w.heap.size + 1) f.cl s w2 (hf.c.gr hg) hsz hcell (hs.gr hg) HIN.out
  rw [← hw2] at hcall
  have HC := Lib.hid hcall
  clear hcall hcell
  subst hw2
  go_enter Try.func78, Try.ntmps78
  go_wp2_with (go_at_call 95; refine HC.out.mono ?_; rintro e w' ⟨rfl, hg2⟩)
  go_ret
  exact ⟨rfl, hg.trans hg2⟩

set_option maxHeartbeats 1000000 in
theorem works_any (ta ca a : Option Addr) (tn tc cn cc n c : Nat) (f : Fl) (s : List Int) (w : World) (hf : FlAt w ta tn ca cn f) (hok : FlOk f) (hs : Ints w a n s) (hst : StOk f s) :
    Calls Try.prog 48 #[.agg #[.slice ta tn tc, .slice ca cn cc], .slice a n c] w fun e w' => e = .returned (.bool (worksB f s)) ∧ Gr w w' := by
  go_enter Try.func48, Try.ntmps48
  have hg := Gr.alloc w (.cells #[.slice ta tn tc, .slice ca cn cc] 25)
  go_wp2_with (go_at_call 78; refine (clash_any _ _ _ _ _ _ _ _ _ f s _ (hf.gr hg) hok (hs.gr hg) hst).mono ?_; rintro e w' ⟨rfl, hg2⟩)
  go_ret
  exact ⟨ret_bool rfl, hg.trans hg2⟩

set_option maxHeartbeats 1000000 in
theorem clash2_any (ta ca a : Option Addr) (tn tc cn cc n c : Nat) (f : Fl) (s : List Int) (w : World) (hf : FlAt w ta tn ca cn f) (hok : FlOk f) (hs : Ints w a n s) (hst : StOk f s) :
    Calls Try.prog 69 #[.agg #[.slice ta tn tc, .slice ca cn cc], .slice a n c] w fun e w' => e = .returned (.int .i64 (clashI f s)) ∧ Gr w w' := by
  have hin := hok.cin hst hs.len
  rw [hf.c.len] at hin
  have HIN := Lib.hid hin
  have HL := Lib.hid hf.c.len
  have hcn := hf.c.lt
  have hn := hs.lt
  clear hin
  go_enter Try.func69, Try.ntmps69
  go_wp2
  obtain ⟨w1, hw1⟩ : ∃ w1, w.alloc (.cells #[.slice ta tn tc, .slice ca cn cc] 25) = w1 := ⟨_, rfl⟩
  have hg1 : Gr w w1 := by rw [← hw1]; exact Gr.alloc _ _
  have hc0 : w1.cell? ⟨w.heap.size, 1, none⟩ = some (.slice ca cn cc) := by rw [← hw1]; simp
  have hs1 : w.heap.size < w1.heap.size := by rw [← hw1]; simp
  rw [hw1]
  clear hw1
  go_loopw [5] (fun i wr => ∃ k : Nat, k ≤ cn ∧ i = .int .i64 k ∧ Gr w1 wr ∧ Hid (clashFrom f.cl s f.cl.length 0 = clashFrom f.cl s (cn - k) k)) (fun i _ => cn - (intOf i).toNat)
  case atStart => exact ⟨0, Nat.zero_le _, rfl, Gr.refl _, Lib.hid (by rw [HL.out]; rfl)⟩
  case round =>
    obtain ⟨k, hk, rfl, hg, hcl⟩ := hrel
    have hcr := (hg.cell (p := ⟨w.heap.size, 1, none⟩) hs1).trans hc0
    by_cases hlt : k < cn
    · obtain ⟨aa, rfl, hab, c0, c1, c2, c3⟩ := (hf.c.gr (hg1.trans hg)).at hlt
      obtain ⟨⟨i1, i2⟩, i3, i4⟩ := HIN.out k hlt
      obtain ⟨x, hx⟩ : ∃ x, f.cl[k]?.getD default = x := ⟨_, rfl⟩
      rw [hx] at c0 c1 c2 c3 i1 i2 i3 i4
      have HX := Lib.hid hx
      clear hx
      have hga := Gr.alloc wr (.cells #[.int .i64 x.a, .int .i64 x.va, .int .i64 x.b, .int .i64 x.vb] 70)
      obtain ⟨sa, rfl, hsab, hsac⟩ := (((hs.gr hg1).gr hg).gr hga).at (j := x.a.toNat) (by omega)
      obtain ⟨sb, e, hsbb, hsbc⟩ := (((hs.gr hg1).gr hg).gr hga).at (j := x.b.toNat) (by omega)
      injection e with e
      subst e
      by_cases h1 : (s[x.a.toNat]?.getD 0 == x.va) = true
      · by_cases h2 : (s[x.b.toNat]?.getD 0 == x.vb) = true
        · have hap : Hid (applies (f.cl[k]?.getD default) s = true) := Lib.hid (by rw [HX.out]; simp only [applies, h1, h2, Bool.and_true])
          go_wp2
          go_quiet (fail)
          go_wp2
          go_ret
          exact ⟨ret_int (by unfold clashI; rw [hcl.out, clashFrom_hit (by omega) hap.out]), (hg1.trans (hg.trans hga)).drewNR _⟩
        · have h2' : (s[x.b.toNat]?.getD 0 == x.vb) = false := by simpa using h2
          have hap : Hid (applies (f.cl[k]?.getD default) s = false) := Lib.hid (by rw [HX.out]; simp only [applies, h1, h2', Bool.and_false])
          clear h2
          go_wp2
          go_quiet (fail)
          go_wp2
          go_roundw
          case rel => exact ⟨k + 1, by omega, by go_num, (hg.trans hga).drewNR _, Lib.hid (by
            rw [hcl.out]
            have e : cn - k = cn - (k + 1) + 1 := by omega
            rw [e, clashFrom_miss hap.out])⟩
          case measure => simp [intOf]; omega
      · have h1' : (s[x.a.toNat]?.getD 0 == x.va) = false := by simpa using h1
        have hap : Hid (applies (f.cl[k]?.getD default) s = false) := Lib.hid (by rw [HX.out]; simp only [applies, h1', Bool.false_and])
        clear h1
        go_wp2
        go_quiet (fail)
        go_wp2
        go_roundw
        case rel => exact ⟨k + 1, by omega, by go_num, (hg.trans hga).drewNR _, Lib.hid (by
            rw [hcl.out]
            have e : cn - k = cn - (k + 1) + 1 := by omega
            rw [e, clashFrom_miss hap.out])⟩
        case measure => simp [intOf]; omega
    · obtain rfl : k = cn := by omega
      go_wp2
      go_ret
      exact ⟨ret_int (by unfold clashI; rw [hcl.out, Nat.sub_self]; rfl), hg1.trans hg⟩

set_option maxHeartbeats 1000000 in
theorem version2_any (ta ca : Option Addr) (tn tc cn cc : Nat) (f : Fl) (x v : Int) (w : World) (hf : FlAt w ta tn ca cn f) :
    Calls Try.prog 77 #[.agg #[.slice ta tn tc, .slice ca cn cc], .int .i64 x, .int .i64 v] w fun e w' => e = .returned (.bool (verB f.times x v)) ∧ Gr w w' := by
  have hlt := hf.t.lt
  have htn := hf.t.len
  have HT := Lib.hid htn
  clear htn
  by_cases h1 : 0 ≤ x ∧ x ≤ (tn : Int) - 1
  · obtain ⟨h1, h2⟩ := h1
    have hw1 := withinB_eq_true (n := x) (lo := 0) (hi := (tn : Int) - 1) ⟨h1, h2⟩
    obtain ⟨k, rfl⟩ := Int.eq_ofNat_of_zero_le h1
    have hg := Gr.alloc w (.cells #[.slice ta tn tc, .slice ca cn cc] 25)
    obtain ⟨tt, ra, rn, rc, rfl, htb, htc, hri⟩ := (hf.t.gr hg).at (j := k) (by omega)
    have hrl := hri.lt
    have hx2 : (k : Int) < tn := by omega
    have hres : verB f.times k v = withinB v 0 rn := by
      unfold verB withinB
      have e1 : (0 : Int) ≤ k := by omega
      have e2 : (k : Int) < f.times.length := by have := HT.out; omega
      have e3 : ((f.times[(k : Int).toNat]?.getD []).length : Int) = rn := by rw [Int.toNat_natCast, hri.len]
      rw [e3]; simp [e1, e2]
    have HR := Lib.hid hres
    clear hres
    go_enter Try.func77, Try.ntmps77
    go_wp2_with (go_at_call 63; refine (within2_any _ _ _ _).mono ?_; rintro e w' ⟨rfl, rfl⟩)
    go_ret
    exact ⟨ret_bool HR.out.symm, hg⟩
  · have hw1 := withinB_eq_false (n := x) (lo := 0) (hi := (tn : Int) - 1) h1
    have hres : verB f.times x v = false := verB_out (by have := HT.out; omega)
    have HR := Lib.hid hres
    clear hres h1
    go_enter Try.func77, Try.ntmps77
    go_wp2_with (go_at_call 63; refine (within2_any _ _ _ _).mono ?_; rintro e w' ⟨rfl, rfl⟩)
    go_ret
    exact ⟨ret_bool HR.out.symm, Gr.alloc _ _⟩

end Go.Proofs.Ytlilojpnhmfnaaa
