/- Several texts of this claim in one file. (1) Contracts of the clashes: clash, works, and the reference clash; version. (2) Plain words: when a fleet and a state are valid, as tests. (3) Contract of update.Check. (4) Contracts: checkStates, begin; the reference state. (5) Contract: the reference Check. (6) Contracts of duration and of the reference step. (7) Contracts: stated, planned, steps, large. (8) Contract: slices.Clone of numbers. (9) A rule for a range over a function at the outermost level of a function, and words for what a call leaves as it was. Nothing of the program is proved here. -/
import Derived.Test.YtlilojpnhmfnaaaBd1
import Derived.Deep.RegionHeld3
import Derived.WalkSpells
import Derived.RangeFuncSeq
namespace Go.Proofs.Ytlilojpnhmfnaaa
section
open Go.RowKit

theorem verB_out {T : List (List Int)} {x v : Int} (h : ¬ (0 ≤ x ∧ x < T.length)) : verB T x v = false := by
  unfold verB
  by_cases h1 : 0 ≤ x <;> by_cases h2 : x < T.length <;> simp [h1, h2] <;> omega
theorem withinB_eq_false {n lo hi : Int} (h : ¬ (lo ≤ n ∧ n ≤ hi)) : withinB n lo hi = false := by
  unfold withinB; by_cases h1 : lo ≤ n <;> by_cases h2 : n ≤ hi <;> simp [h1, h2]; omega
theorem withinB_eq_true {n lo hi : Int} (h : lo ≤ n ∧ n ≤ hi) : withinB n lo hi = true := by
  unfold withinB; simp [h.1, h.2]

set_option maxHeartbeats 1000000 in
theorem version_any (ta ca : Option Addr) (tn tc cn cc : Nat) (f : Fl) (x v : Int) (w : World) (hf : FlAt w ta tn ca cn f) :
    Calls Try.prog 76 #[.agg #[.slice ta tn tc, .slice ca cn cc], .int .i64 x, .int .i64 v] w fun e w' => e = .returned (.bool (verB f.times x v)) ∧ Gr w w' := by
  have hlt := hf.t.lt
  have htn := hf.t.len
  have HT := Lib.hid htn
  clear htn
  by_cases h1 : 0 ≤ x ∧ x ≤ (tn : Int) - 1
  · obtain ⟨h1, h2⟩ := h1
    have hw1 := withinB_eq_true (n := x) (lo := 0) (hi := (tn : Int) - 1) ⟨h1, h2⟩
    obtain ⟨k, rfl⟩ := Int.eq_ofNat_of_zero_le h1
    have hg := Gr.alloc w (.cells #[.slice ta tn tc, .slice ca cn cc] 25)
    obtain ⟨tt, ra, rn, rc, rfl, htb, htc, hri⟩ := (hf.t.gr hg).at (j := k) (by omega)
    have hrl := hri.lt
    have hx2 : (k : Int) < tn := by omega
    have hres : verB f.times k v = withinB v 0 rn := by
      unfold verB withinB
      have e1 : (0 : Int) ≤ k := by omega
      have e2 : (k : Int) < f.times.length := by have := HT.out; omega
      have e3 : ((f.times[(k : Int).toNat]?.getD []).length : Int) = rn := by rw [Int.toNat_natCast, hri.len]
      rw [e3]; simp [e1, e2]
    have HR := Lib.hid hres
    clear hres
    go_enter Try.func76, Try.ntmps76
    go_wp2_with (go_at_call 61; refine (within_any _ _ _ _).mono ?_; rintro e w' ⟨rfl, rfl⟩)
    go_ret
    exact ⟨ret_bool HR.out.symm, hg⟩
  · have hw1 := withinB_eq_false (n := x) (lo := 0) (hi := (tn : Int) - 1) h1
    have hres : verB f.times x v = false := verB_out (by have := HT.out; omega)
    have HR := Lib.hid hres
    clear hres h1
    go_enter Try.func76, Try.ntmps76
    go_wp2_with (go_at_call 61; refine (within_any _ _ _ _).mono ?_; rintro e w' ⟨rfl, rfl⟩)
    go_ret
    exact ⟨ret_bool HR.out.symm, Gr.alloc _ _⟩

set_option maxHeartbeats 1000000 in
theorem clash1_any (a : Option Addr) (n c B : Nat) (x : Cl) (s : List Int) (w : World) (hB : B < w.heap.size) (hc : w.cell? ⟨B, 0, none⟩ = some (.slice a n c)) (hs : Ints w a n s)
    (ha : 0 ≤ x.a ∧ x.a < n) (hb : 0 ≤ x.b ∧ x.b < n) :
    Calls Try.prog 96 #[.agg #[.int .i64 x.a, .int .i64 x.va, .int .i64 x.b, .int .i64 x.vb], .pointer (some ⟨B, 0, none⟩)] w fun e w' => e = .returned (.bool (applies x s)) ∧ Gr w w' := by
  obtain ⟨ha1, ha2⟩ := ha
  obtain ⟨hb1, hb2⟩ := hb
  have hn := hs.lt
  obtain ⟨aa, rfl, hab, hac⟩ := hs.at (j := x.a.toNat) (by omega)
  obtain ⟨bb, e, hbb, hbc⟩ := hs.at (j := x.b.toNat) (by omega)
  injection e with e
  subst e
  have hg := Gr.alloc w (.cells #[.int .i64 x.a, .int .i64 x.va, .int .i64 x.b, .int .i64 x.vb] 70)
  have hac1 := (hg.cell (p := aa.add x.a.toNat) (by rw [add_block]; exact hab)).trans hac
  have hbc1 := (hg.cell (p := aa.add x.b.toNat) (by rw [add_block]; exact hab)).trans hbc
  have hc1 := (hg.cell (p := ⟨B, 0, none⟩) hB).trans hc
  by_cases h1 : (s[x.a.toNat]?.getD 0 == x.va) = true
  · have hres : applies x s = (s[x.b.toNat]?.getD 0 == x.vb) := by simp only [applies, h1, Bool.true_and]
    have HR := Lib.hid hres
    clear hres
    go_enter Try.func96, Try.ntmps96
    go_wp2
    go_quiet (fail)
    go_wp2
    go_ret
    exact ⟨ret_bool HR.out.symm, hg.drewNR _⟩
  · have h1' : (s[x.a.toNat]?.getD 0 == x.va) = false := by simpa using h1
    have hres : applies x s = false := by simp only [applies, h1', Bool.false_and]
    have HR := Lib.hid hres
    clear hres h1
    go_enter Try.func96, Try.ntmps96
    go_wp2
    go_quiet (fail)
    go_wp2
    go_ret
    exact ⟨ret_bool HR.out.symm, hg.drewNR _⟩

theorem clashFrom_hit {C : List Cl} {s : List Int} {m k : Nat} (hm : 0 < m) (h : applies (C[k]?.getD default) s = true) : clashFrom C s m k = k := by
  cases m with
  | zero => omega
  | succ m => simp [clashFrom, h]
theorem clashFrom_miss {C : List Cl} {s : List Int} {m k : Nat} (h : applies (C[k]?.getD default) s = false) : clashFrom C s (m + 1) k = clashFrom C s m (k + 1) := by
  simp [clashFrom, h]

set_option maxHeartbeats 1000000 in
theorem indexFunc_clash (ca a : Option Addr) (cn cc n c B : Nat) (C : List Cl) (s : List Int) (w : World) (hC : ClAt w ca cn C) (hB : B < w.heap.size) (hc : w.cell? ⟨B, 0, none⟩ = some (.slice a n c)) (hs : Ints w a n s)
    (hin : ∀ i, i < cn → (0 ≤ (C[i]?.getD default).a ∧ (C[i]?.getD default).a < n) ∧ (0 ≤ (C[i]?.getD default).b ∧ (C[i]?.getD default).b < n)) :
    Calls Try.prog 95 #[.slice ca cn cc, .func (.func 96) #[] #[.pointer (some ⟨B, 0, none⟩)]] w fun e w' => e = .returned (.int .i64 (clashFrom C s C.length 0)) ∧ Gr w w' := by
  have hn := hC.lt
  have hl := hC.len
  have HL := Lib.hid hl
  have HIN := Lib.hid hin
  clear hl hin
  go_enter Try.func95, Try.ntmps95
  go_wp2
  go_loopw [8] (fun i wr => ∃ k : Nat, k ≤ cn ∧ i = .int .i64 k ∧ Gr w wr ∧ Hid (clashFrom C s C.length 0 = clashFrom C s (cn - k) k)) (fun i _ => cn - (intOf i).toNat)
  case atStart => exact ⟨0, Nat.zero_le _, rfl, Gr.refl _, Lib.hid (by rw [HL.out]; rfl)⟩
  case round =>
    obtain ⟨k, hk, rfl, hg, hcl⟩ := hrel
    by_cases hlt : k < cn
    · obtain ⟨aa, rfl, hab, c0, c1, c2, c3⟩ := (hC.gr hg).at hlt
      have hi := HIN.out k hlt
      have hcB := (hg.cell (p := ⟨B, 0, none⟩) hB).trans hc
      have hcon := clash1_any a n c B (C[k]?.getD default) s wr (Nat.lt_of_lt_of_le hB hg.size) hcB (hs.gr hg) hi.1 hi.2
      have HCON := Lib.hid hcon
      clear hcon hi hcB hc
      cases hap : applies (C[k]?.getD default) s with
      | true =>
        rw [hap] at HCON
        go_wp2_with (go_at_call 96; refine HCON.out.mono ?_; rintro e w' ⟨rfl, hg2⟩)
        go_ret
        exact ⟨ret_int (by rw [hcl.out, clashFrom_hit (by omega) hap]), hg.trans hg2⟩
      | false =>
        rw [hap] at HCON
        go_wp2_with (go_at_call 96; refine HCON.out.mono ?_; rintro e w' ⟨rfl, hg2⟩)
        go_roundw
        case rel => exact ⟨k + 1, by omega, by go_num, hg.trans hg2, Lib.hid (by
          rw [hcl.out]
          have e : cn - k = cn - (k + 1) + 1 := by omega
          rw [e, clashFrom_miss hap])⟩
        case measure => simp [intOf]; omega
    · obtain rfl : k = cn := by omega
      go_wp2
      go_ret
      exact ⟨ret_int (by rw [hcl.out, Nat.sub_self]; rfl), hg⟩
theorem verB_in {T : List (List Int)} {c v : Int} (h : verB T c v = true) : 0 ≤ c ∧ c < T.length ∧ 0 ≤ v ∧ v ≤ ((T[c.toNat]?.getD []).length : Int) := by
  simp only [verB, Bool.and_eq_true, decide_eq_true_eq] at h
  exact ⟨h.1.1.1, h.1.1.2, h.1.2, h.2⟩

theorem FlOk.cin {f : Fl} (h : FlOk f) {s : List Int} (hs : StOk f s) {n : Nat} (hn : s.length = n) : ∀ i, i < f.cl.length → (0 ≤ (f.cl[i]?.getD default).a ∧ (f.cl[i]?.getD default).a < n) ∧ (0 ≤ (f.cl[i]?.getD default).b ∧ (f.cl[i]?.getD default).b < n) := by
  intro i hi
  obtain ⟨h1, h2, _⟩ := h.cl i hi
  have := verB_in h1
  have := verB_in h2
  have := hs.len
  omega

set_option maxHeartbeats 1000000 in
theorem clash_any (ta ca a : Option Addr) (tn tc cn cc n c : Nat) (f : Fl) (s : List Int) (w : World) (hf : FlAt w ta tn ca cn f) (hok : FlOk f) (hs : Ints w a n s) (hst : StOk f s) :
    Calls Try.prog 78 #[.agg #[.slice ta tn tc, .slice ca cn cc], .slice a n c] w fun e w' => e = .returned (.int .i64 (clashI f s)) ∧ Gr w w' := by
  have hin := hok.cin hst hs.len
  rw [hf.c.len] at hin
  have HIN := Lib.hid hin
  clear hin
  obtain ⟨w2, hw2⟩ : ∃ w2, (w.alloc (.cells #[.slice ta tn tc, .slice ca cn cc] 25)).alloc (.cells #[.slice a n c] 26) = w2 := ⟨_, rfl⟩
  have hg : Gr w w2 := by rw [← hw2]; exact (Gr.alloc _ _).allocR _
  have hsz : w.heap.size + 1 < w2.heap.size := by rw [← hw2]; simp
  have hcell : w2.cell? ⟨w.heap.size + 1, 0, none⟩ = some (.slice a n c) := by rw [← hw2]; simp
  have hcall := indexFunc_clash ca a cn cc n c (w.heap.size + 1) f.cl s w2 (hf.c.gr hg) hsz hcell (hs.gr hg) HIN.out
  rw [← hw2] at hcall
  have HC := Lib.hid hcall
  clear hcall hcell
  subst hw2
  go_enter Try.func78, Try.ntmps78
  go_wp2_with (go_at_call 95; refine HC.out.mono ?_; rintro e w' ⟨rfl, hg2⟩)
  go_ret
  exact ⟨rfl, hg.trans hg2⟩

set_option maxHeartbeats 1000000 in
theorem works_any (ta ca a : Option Addr) (tn tc cn cc n c : Nat) (f : Fl) (s : List Int) (w : World) (hf : FlAt w ta tn ca cn f) (hok : FlOk f) (hs : Ints w a n s) (hst : StOk f s) :
    Calls Try.prog 48 #[.agg #[.slice ta tn tc, .slice ca cn cc], .slice a n c] w fun e w' => e = .returned (.bool (worksB f s)) ∧ Gr w w' := by
  go_enter Try.func48, Try.ntmps48
  have hg := Gr.alloc w (.cells #[.slice ta tn tc, .slice ca cn cc] 25)
  go_wp2_with (go_at_call 78; refine (clash_any _ _ _ _ _ _ _ _ _ f s _ (hf.gr hg) hok (hs.gr hg) hst).mono ?_; rintro e w' ⟨rfl, hg2⟩)
  go_ret
  exact ⟨ret_bool rfl, hg.trans hg2⟩

set_option maxHeartbeats 1000000 in
theorem clash2_any (ta ca a : Option Addr) (tn tc cn cc n c : Nat) (f : Fl) (s : List Int) (w : World) (hf : FlAt w ta tn ca cn f) (hok : FlOk f) (hs : Ints w a n s) (hst : StOk f s) :
    Calls Try.prog 69 #[.agg #[.slice ta tn tc, .slice ca cn cc], .slice a n c] w fun e w' => e = .returned (.int .i64 (clashI f s)) ∧ Gr w w' := by
  have hin := hok.cin hst hs.len
  rw [hf.c.len] at hin
  have HIN := Lib.hid hin
  have HL := Lib.hid hf.c.len
  have hcn := hf.c.lt
  have hn := hs.lt
  clear hin
  go_enter Try.func69, Try.ntmps69
  go_wp2
  obtain ⟨w1, hw1⟩ : ∃ w1, w.alloc (.cells #[.slice ta tn tc, .slice ca cn cc] 25) = w1 := ⟨_, rfl⟩
  have hg1 : Gr w w1 := by rw [← hw1]; exact Gr.alloc _ _
  have hc0 : w1.cell? ⟨w.heap.size, 1, none⟩ = some (.slice ca cn cc) := by rw [← hw1]; simp
  have hs1 : w.heap.size < w1.heap.size := by rw [← hw1]; simp
  rw [hw1]
  clear hw1
  go_loopw [5] (fun i wr => ∃ k : Nat, k ≤ cn ∧ i = .int .i64 k ∧ Gr w1 wr ∧ Hid (clashFrom f.cl s f.cl.length 0 = clashFrom f.cl s (cn - k) k)) (fun i _ => cn - (intOf i).toNat)
  case atStart => exact ⟨0, Nat.zero_le _, rfl, Gr.refl _, Lib.hid (by rw [HL.out]; rfl)⟩
  case round =>
    obtain ⟨k, hk, rfl, hg, hcl⟩ := hrel
    have hcr := (hg.cell (p := ⟨w.heap.size, 1, none⟩) hs1).trans hc0
    by_cases hlt : k < cn
    · obtain ⟨aa, rfl, hab, c0, c1, c2, c3⟩ := (hf.c.gr (hg1.trans hg)).at hlt
      obtain ⟨⟨i1, i2⟩, i3, i4⟩ := HIN.out k hlt
      obtain ⟨x, hx⟩ : ∃ x, f.cl[k]?.getD default = x := ⟨_, rfl⟩
      rw [hx] at c0 c1 c2 c3 i1 i2 i3 i4
      have HX := Lib.hid hx
      clear hx
      have hga := Gr.alloc wr (.cells #[.int .i64 x.a, .int .i64 x.va, .int .i64 x.b, .int .i64 x.vb] 70)
      obtain ⟨sa, rfl, hsab, hsac⟩ := (((hs.gr hg1).gr hg).gr hga).at (j := x.a.toNat) (by omega)
      obtain ⟨sb, e, hsbb, hsbc⟩ := (((hs.gr hg1).gr hg).gr hga).at (j := x.b.toNat) (by omega)
      injection e with e
      subst e
      by_cases h1 : (s[x.a.toNat]?.getD 0 == x.va) = true
      · by_cases h2 : (s[x.b.toNat]?.getD 0 == x.vb) = true
        · have hap : Hid (applies (f.cl[k]?.getD default) s = true) := Lib.hid (by rw [HX.out]; simp only [applies, h1, h2, Bool.and_true])
          go_wp2
          go_quiet (fail)
          go_wp2
          go_ret
          exact ⟨ret_int (by unfold clashI; rw [hcl.out, clashFrom_hit (by omega) hap.out]), (hg1.trans (hg.trans hga)).drewNR _⟩
        · have h2' : (s[x.b.toNat]?.getD 0 == x.vb) = false := by simpa using h2
          have hap : Hid (applies (f.cl[k]?.getD default) s = false) := Lib.hid (by rw [HX.out]; simp only [applies, h1, h2', Bool.and_false])
          clear h2
          go_wp2
          go_quiet (fail)
          go_wp2
          go_roundw
          case rel => exact ⟨k + 1, by omega, by go_num, (hg.trans hga).drewNR _, Lib.hid (by
            rw [hcl.out]
            have e : cn - k = cn - (k + 1) + 1 := by omega
            rw [e, clashFrom_miss hap.out])⟩
          case measure => simp [intOf]; omega
      · have h1' : (s[x.a.toNat]?.getD 0 == x.va) = false := by simpa using h1
        have hap : Hid (applies (f.cl[k]?.getD default) s = false) := Lib.hid (by rw [HX.out]; simp only [applies, h1', Bool.false_and])
        clear h1
        go_wp2
        go_quiet (fail)
        go_wp2
        go_roundw
        case rel => exact ⟨k + 1, by omega, by go_num, (hg.trans hga).drewNR _, Lib.hid (by
            rw [hcl.out]
            have e : cn - k = cn - (k + 1) + 1 := by omega
            rw [e, clashFrom_miss hap.out])⟩
        case measure => simp [intOf]; omega
    · obtain rfl : k = cn := by omega
      go_wp2
      go_ret
      exact ⟨ret_int (by unfold clashI; rw [hcl.out, Nat.sub_self]; rfl), hg1.trans hg⟩

set_option maxHeartbeats 1000000 in
theorem version2_any (ta ca : Option Addr) (tn tc cn cc : Nat) (f : Fl) (x v : Int) (w : World) (hf : FlAt w ta tn ca cn f) :
    Calls Try.prog 77 #[.agg #[.slice ta tn tc, .slice ca cn cc], .int .i64 x, .int .i64 v] w fun e w' => e = .returned (.bool (verB f.times x v)) ∧ Gr w w' := by
  have hlt := hf.t.lt
  have htn := hf.t.len
  have HT := Lib.hid htn
  clear htn
  by_cases h1 : 0 ≤ x ∧ x ≤ (tn : Int) - 1
  · obtain ⟨h1, h2⟩ := h1
    have hw1 := withinB_eq_true (n := x) (lo := 0) (hi := (tn : Int) - 1) ⟨h1, h2⟩
    obtain ⟨k, rfl⟩ := Int.eq_ofNat_of_zero_le h1
    have hg := Gr.alloc w (.cells #[.slice ta tn tc, .slice ca cn cc] 25)
    obtain ⟨tt, ra, rn, rc, rfl, htb, htc, hri⟩ := (hf.t.gr hg).at (j := k) (by omega)
    have hrl := hri.lt
    have hx2 : (k : Int) < tn := by omega
    have hres : verB f.times k v = withinB v 0 rn := by
      unfold verB withinB
      have e1 : (0 : Int) ≤ k := by omega
      have e2 : (k : Int) < f.times.length := by have := HT.out; omega
      have e3 : ((f.times[(k : Int).toNat]?.getD []).length : Int) = rn := by rw [Int.toNat_natCast, hri.len]
      rw [e3]; simp [e1, e2]
    have HR := Lib.hid hres
    clear hres
    go_enter Try.func77, Try.ntmps77
    go_wp2_with (go_at_call 63; refine (within2_any _ _ _ _).mono ?_; rintro e w' ⟨rfl, rfl⟩)
    go_ret
    exact ⟨ret_bool HR.out.symm, hg⟩
  · have hw1 := withinB_eq_false (n := x) (lo := 0) (hi := (tn : Int) - 1) h1
    have hres : verB f.times x v = false := verB_out (by have := HT.out; omega)
    have HR := Lib.hid hres
    clear hres h1
    go_enter Try.func77, Try.ntmps77
    go_wp2_with (go_at_call 63; refine (within2_any _ _ _ _).mono ?_; rintro e w' ⟨rfl, rfl⟩)
    go_ret
    exact ⟨ret_bool HR.out.symm, Gr.alloc _ _⟩
end
section
def rowOk (l : List Int) : Bool := decide (l.length ≤ 3) && !(l.any fun n => !withinB n 1 10000)
def clOk (T : List (List Int)) (c : Cl) : Bool := !(c.a == c.b) && verB T c.a c.va && verB T c.b c.vb
def chkB (f : Fl) : Bool := withinB f.times.length 1 6 && decide (f.cl.length ≤ 60) && (List.range f.times.length).all (fun i => rowOk (f.times[i]?.getD [])) && (List.range f.cl.length).all (fun i => clOk f.times (f.cl[i]?.getD default))
def chkE (f : Fl) : Int := if chkB f then 0 else 110

theorem chkE_head {f : Fl} (h : withinB f.times.length 1 6 = false ∨ 60 < f.cl.length) : chkE f = 110 := by
  have : chkB f = false := by
    rcases h with h | h
    · simp [chkB, h]
    · simp [chkB, show ¬ f.cl.length ≤ 60 by omega]
  simp [chkE, this]
theorem chkE_row {f : Fl} {k : Nat} (hk : k < f.times.length) (h : rowOk (f.times[k]?.getD []) = false) : chkE f = 110 := by
  have : (List.range f.times.length).all (fun i => rowOk (f.times[i]?.getD [])) = false := by
    rw [Bool.eq_false_iff]; intro hc
    rw [List.all_eq_true] at hc
    have := hc k (List.mem_range.2 hk)
    rw [h] at this; cases this
  simp only [chkE, chkB, this, Bool.and_false, Bool.false_and, Bool.false_eq_true, if_false]
theorem chkE_cl {f : Fl} {k : Nat} (hk : k < f.cl.length) (h : clOk f.times (f.cl[k]?.getD default) = false) : chkE f = 110 := by
  have : (List.range f.cl.length).all (fun i => clOk f.times (f.cl[i]?.getD default)) = false := by
    rw [Bool.eq_false_iff]; intro hc
    rw [List.all_eq_true] at hc
    have := hc k (List.mem_range.2 hk)
    rw [h] at this; cases this
  simp only [chkE, chkB, this, Bool.and_false, Bool.false_eq_true, if_false]
theorem chkE_ok {f : Fl} (h1 : withinB f.times.length 1 6 = true) (h2 : f.cl.length ≤ 60) (h3 : ∀ j, j < f.times.length → rowOk (f.times[j]?.getD []) = true) (h4 : ∀ j, j < f.cl.length → clOk f.times (f.cl[j]?.getD default) = true) : chkE f = 0 := by
  have e3 : (List.range f.times.length).all (fun i => rowOk (f.times[i]?.getD [])) = true := by
    rw [List.all_eq_true]; intro x hx; exact h3 x (List.mem_range.1 hx)
  have e4 : (List.range f.cl.length).all (fun i => clOk f.times (f.cl[i]?.getD default)) = true := by
    rw [List.all_eq_true]; intro x hx; exact h4 x (List.mem_range.1 hx)
  simp only [chkE, chkB, h1, e3, e4, Bool.and_true, if_true, Bool.true_and, decide_eq_true_eq, h2]

theorem withinB_iff {n lo hi : Int} : withinB n lo hi = true ↔ lo ≤ n ∧ n ≤ hi := by simp [withinB]

theorem any_getD {l : List Int} {p : Int → Bool} (h : l.any p = false) : ∀ v, v < l.length → p (l[v]?.getD 0) = false := by
  intro v hv
  rw [List.any_eq_false] at h
  have := h (l[v]) (List.getElem_mem hv)
  simpa [hv] using this

theorem chkB_ok {f : Fl} (h : chkB f = true) : FlOk f := by
  simp only [chkB, Bool.and_eq_true, decide_eq_true_eq, List.all_eq_true, List.mem_range] at h
  obtain ⟨⟨⟨h1, h2⟩, h3⟩, h4⟩ := h
  rw [withinB_iff] at h1
  refine ⟨by omega, by omega, fun c hc => ?_, fun c v hc hv => ?_, h2, fun i hi => ?_⟩
  · have := h3 c hc
    simp only [rowOk, Bool.and_eq_true, decide_eq_true_eq] at this
    exact this.1
  · have := h3 c hc
    simp only [rowOk, Bool.and_eq_true, decide_eq_true_eq, Bool.not_eq_true'] at this
    have := any_getD this.2 v hv
    simp only [Bool.not_eq_false'] at this
    exact withinB_iff.1 this
  · have := h4 i hi
    simp only [clOk, Bool.and_eq_true, Bool.not_eq_true', beq_eq_false_iff_ne] at this
    exact ⟨this.1.2, this.2, this.1.1⟩

/-- a state is one of a fleet's -/
def stB (T : List (List Int)) (s : List Int) : Bool := decide (s.length = T.length) && (List.range s.length).all fun c => verB T c (s[c]?.getD 0)

theorem stB_ok {f : Fl} {s : List Int} (h : stB f.times s = true) : StOk f s := by
  simp only [stB, Bool.and_eq_true, decide_eq_true_eq, List.all_eq_true, List.mem_range] at h
  refine ⟨h.1, fun c hc => ?_⟩
  have := verB_in (h.2 c (by omega))
  simp only [Int.toNat_natCast] at this
  exact ⟨this.2.2.1, this.2.2.2⟩
theorem stB_len {T : List (List Int)} {s : List Int} (h : ¬ s.length = T.length) : stB T s = false := by simp [stB, h]
theorem stB_at {T : List (List Int)} {s : List Int} {k : Nat} (hk : k < s.length) (h : verB T k (s[k]?.getD 0) = false) : stB T s = false := by
  have : (List.range s.length).all (fun c => verB T c (s[c]?.getD 0)) = false := by
    rw [Bool.eq_false_iff]; intro hc
    rw [List.all_eq_true] at hc
    have := hc k (List.mem_range.2 hk)
    rw [h] at this; cases this
  simp only [stB, this, Bool.and_false]
theorem stB_true {T : List (List Int)} {s : List Int} (h1 : s.length = T.length) (h2 : ∀ c, c < s.length → verB T c (s[c]?.getD 0) = true) : stB T s = true := by
  simp only [stB, Bool.and_eq_true, decide_eq_true_eq, List.all_eq_true, List.mem_range]; exact ⟨h1, h2⟩
end
section
open Go.RowKit

def IdxPost (b : Bool) (w : World) (e : Ending) (w' : World) : Prop := ∃ r : Int, e = .returned (.int .i64 r) ∧ decide (0 ≤ r) = b ∧ Gr w w'

theorem check1_any (n : Int) (w : World) : Calls Try.prog 75 #[.int .i64 n] w fun e w' => e = .returned (.bool (!withinB n 1 10000)) ∧ Gr w w' := by
  go_enter Try.func75, Try.ntmps75
  go_wp2_with (go_at_call 61; refine (within_any _ _ _ _).mono ?_; rintro e w' ⟨rfl, rfl⟩)
  go_ret
  exact ⟨rfl, Gr.refl _⟩

theorem any_hit {l : List Int} {p : Int → Bool} {k : Nat} (hk : k < l.length) (h : p (l[k]?.getD 0) = true) : l.any p = true := by
  rw [List.any_eq_true]; exact ⟨l[k], List.getElem_mem hk, by simpa [hk] using h⟩
theorem any_none {l : List Int} {p : Int → Bool} (h : ∀ j, j < l.length → p (l[j]?.getD 0) = false) : l.any p = false := by
  rw [List.any_eq_false]; intro x hx
  obtain ⟨j, hj, rfl⟩ := List.getElem_of_mem hx
  have := h j hj
  simpa [hj] using this

set_option maxHeartbeats 1000000 in
theorem indexFunc75 (a : Option Addr) (n c : Nat) (xs : List Int) (w : World) (hx : Ints w a n xs) :
    Calls Try.prog 93 #[.slice a n c, .func (.func 75) #[] #[]] w (IdxPost (xs.any fun n => !withinB n 1 10000) w) := by
  have hn := hx.lt
  go_enter Try.func93, Try.ntmps93
  go_wp2
  go_loopw [8] (fun i wr => ∃ k : Nat, k ≤ n ∧ i = .int .i64 k ∧ Gr w wr ∧ Hid (∀ j, j < k → (!withinB (xs[j]?.getD 0) 1 10000) = false)) (fun i _ => n - (intOf i).toNat)
  case atStart => exact ⟨0, Nat.zero_le _, rfl, Gr.refl _, Lib.hid (by intros; omega)⟩
  case round =>
    obtain ⟨k, hk, rfl, hg, hall⟩ := hrel
    by_cases hlt : k < n
    · obtain ⟨aa, rfl, hab, hac⟩ := (hx.gr hg).at hlt
      cases hb : (!withinB (xs[k]?.getD 0) 1 10000) with
      | true =>
        go_wp2_with (go_at_call 75; refine (check1_any _ _).mono ?_; rintro e w' ⟨rfl, hg2⟩)
        go_ret
        exact ⟨k, rfl, by rw [any_hit (p := fun n => !withinB n 1 10000) (by rw [hx.len]; exact hlt) hb]; simp, hg.trans hg2⟩
      | false =>
        go_wp2_with (go_at_call 75; refine (check1_any _ _).mono ?_; rintro e w' ⟨rfl, hg2⟩)
        go_roundw
        case rel => exact ⟨k + 1, by omega, by go_num, hg.trans hg2, Lib.hid (fun j hj => by
          by_cases e : j = k
          · subst e; exact hb
          · exact hall.out j (by omega))⟩
        case measure => simp [intOf]; omega
    · obtain rfl : k = n := by omega
      go_wp2
      go_ret
      exact ⟨-1, rfl, by rw [any_none (p := fun n => !withinB n 1 10000) (fun j hj => hall.out j (by rw [← hx.len]; exact hj))]; simp, hg⟩

theorem containsFunc75 (a : Option Addr) (n c : Nat) (xs : List Int) (w : World) (hx : Ints w a n xs) :
    Calls Try.prog 71 #[.slice a n c, .func (.func 75) #[] #[]] w fun e w' => e = .returned (.bool (xs.any fun n => !withinB n 1 10000)) ∧ Gr w w' := by
  go_enter Try.func71, Try.ntmps71
  go_wp2_with (go_at_call 93; refine (indexFunc75 _ _ _ _ _ hx).mono ?_; rintro e w' ⟨r, rfl, hr, hg⟩)
  go_ret
  exact ⟨rfl, by assumption⟩

theorem rowOk_long {l : List Int} (h : 3 < l.length) : rowOk l = false := by simp [rowOk, show ¬ l.length ≤ 3 by omega]
theorem rowOk_any {l : List Int} (h : (l.any fun n => !withinB n 1 10000) = true) : rowOk l = false := by unfold rowOk; rw [h]; simp
theorem rowOk_true {l : List Int} (h0 : ¬ 3 < l.length) (h : (l.any fun n => !withinB n 1 10000) = false) : rowOk l = true := by unfold rowOk; rw [h]; simp; omega

set_option maxHeartbeats 2000000 in
theorem check_any (ta ca : Option Addr) (tn tc cn cc : Nat) (f : Fl) (w : World) (hf : FlAt w ta tn ca cn f) :
    Calls Try.prog 36 #[.agg #[.slice ta tn tc, .slice ca cn cc]] w fun e w' => e = .returned (.int .i64 (chkE f)) ∧ Gr w w' := by
  have htn := hf.t.lt
  have hcn := hf.c.lt
  have HT := Lib.hid hf.t.len
  have HC := Lib.hid hf.c.len
  cases hw : withinB (tn : Int) 1 6 with
  | false =>
    go_enter Try.func36, Try.ntmps36
    go_wp2_with (go_at_call 61; refine (within_any _ _ _ _).mono ?_; rintro e w' ⟨rfl, rfl⟩)
    go_ret
    exact ⟨ret_int (chkE_head (.inl (by rw [HT.out]; exact hw))).symm, Gr.alloc _ _⟩
  | true =>
    by_cases h60 : (60 : Int) < cn
    · go_enter Try.func36, Try.ntmps36
      go_wp2_with (go_at_call 61; refine (within_any _ _ _ _).mono ?_; rintro e w' ⟨rfl, rfl⟩)
      go_ret
      exact ⟨ret_int (chkE_head (.inr (by rw [HC.out]; omega))).symm, Gr.alloc _ _⟩
    · go_enter Try.func36, Try.ntmps36
      go_wp2_with (go_at_call 61; refine (within_any _ _ _ _).mono ?_; rintro e w' ⟨rfl, rfl⟩)
      obtain ⟨w1, hw1⟩ : ∃ w1, w.alloc (.cells #[.slice ta tn tc, .slice ca cn cc] 25) = w1 := ⟨_, rfl⟩
      have hg1 : Gr w w1 := by rw [← hw1]; exact Gr.alloc _ _
      have hc0 : w1.cell? ⟨w.heap.size, 0, none⟩ = some (.slice ta tn tc) := by rw [← hw1]; simp
      have hc1 : w1.cell? ⟨w.heap.size, 1, none⟩ = some (.slice ca cn cc) := by rw [← hw1]; simp
      have hs1 : w.heap.size < w1.heap.size := by rw [← hw1]; simp
      rw [hw1]
      clear hw1
      go_loopw [21] (fun i wr => ∃ k : Nat, k ≤ tn ∧ i = .int .i64 k ∧ Gr w1 wr ∧ Hid (∀ j, j < k → rowOk (f.times[j]?.getD []) = true)) (fun i _ => tn - (intOf i).toNat)
      case atStart => exact ⟨0, Nat.zero_le _, rfl, Gr.refl _, Lib.hid (by intros; omega)⟩
      case round =>
        obtain ⟨k, hk, rfl, hg, hall⟩ := hrel
        by_cases hlt : k < tn
        · obtain ⟨tt, ra, rn, rc, rfl, htb, htc, hri⟩ := (hf.t.gr (hg1.trans hg)).at hlt
          have hrl := hri.lt
          have HR := Lib.hid hri.len
          by_cases h3 : (3 : Int) < rn
          · go_wp2_with fail
            go_ret
            exact ⟨ret_int (chkE_row (k := k) (by rw [HT.out]; exact hlt) (rowOk_long (by rw [HR.out]; omega))).symm, hg1.trans hg⟩
          · cases hany : ((f.times[k]?.getD []).any fun n => !withinB n 1 10000) with
            | true =>
              have hcon := containsFunc75 ra rn rc _ wr hri
              rw [hany] at hcon
              have HCON := Lib.hid hcon
              clear hcon
              go_wp2_with (go_at_call 71; refine HCON.out.mono ?_; rintro e w' ⟨rfl, hg2⟩)
              go_ret
              exact ⟨ret_int (chkE_row (k := k) (by rw [HT.out]; exact hlt) (rowOk_any hany)).symm, hg1.trans (hg.trans hg2)⟩
            | false =>
              have hcon := containsFunc75 ra rn rc _ wr hri
              rw [hany] at hcon
              have HCON := Lib.hid hcon
              have hrow : Hid (rowOk (f.times[k]?.getD []) = true) := Lib.hid (rowOk_true (by rw [HR.out]; omega) hany)
              clear hcon hany
              go_wp2_with (go_at_call 71; refine HCON.out.mono ?_; rintro e w' ⟨rfl, hg2⟩)
              go_roundw
              case rel => exact ⟨k + 1, by omega, by go_num, hg.trans hg2, Lib.hid (fun j hj => by
                by_cases e : j = k
                · subst e; exact hrow.out
                · exact hall.out j (by omega))⟩
              case measure => simp [intOf]; omega
        · obtain rfl : k = tn := by omega
          have hcr := (hg.cell (p := ⟨w.heap.size, 1, none⟩) hs1).trans hc1
          have hcr0 := (hg.cell (p := ⟨w.heap.size, 0, none⟩) hs1).trans hc0
          obtain ⟨w2, hw2⟩ : ∃ w2, w2 = wr := ⟨_, rfl⟩
          subst hw2
          have hs2 : w.heap.size < w2.heap.size := Nat.lt_of_lt_of_le hs1 hg.size
          go_wp2_with fail
          go_loopw [36] (fun i wr => ∃ k : Nat, k ≤ cn ∧ i = .int .i64 k ∧ Gr w2 wr ∧ Hid (∀ j, j < k → clOk f.times (f.cl[j]?.getD default) = true)) (fun i _ => cn - (intOf i).toNat)
          case atStart => exact ⟨0, Nat.zero_le _, rfl, Gr.refl _, Lib.hid (by intros; omega)⟩
          case round =>
            obtain ⟨j, hj, rfl, hgj, hallj⟩ := hrel
            by_cases hltj : j < cn
            · obtain ⟨aa, rfl, hab, c0, c1, c2, c3⟩ := (hf.c.gr ((hg1.trans hg).trans hgj)).at hltj
              obtain ⟨x, hx⟩ : ∃ x, f.cl[j]?.getD default = x := ⟨_, rfl⟩
              rw [hx] at c0 c1 c2 c3
              have HX := Lib.hid hx
              clear hx
              have hj1 := (hgj.cell (p := ⟨w.heap.size, 1, none⟩) hs2).trans hcr
              have hj0 := (hgj.cell (p := ⟨w.heap.size, 0, none⟩) hs2).trans hcr0
              have hga := Gr.alloc wr (.cells #[.int .i64 x.a, .int .i64 x.va, .int .i64 x.b, .int .i64 x.vb] 70)
              have hfl := hf.gr (((hg1.trans hg).trans hgj).trans hga)
              have hsr : w.heap.size < wr.heap.size := Nat.lt_of_lt_of_le hs2 hgj.size
              have k0 : (wr.alloc (.cells #[.int .i64 x.a, .int .i64 x.va, .int .i64 x.b, .int .i64 x.vb] 70)).cell? ⟨w.heap.size, 0, none⟩ = some (.slice ta k tc) := (hga.cell (p := ⟨w.heap.size, 0, none⟩) hsr).trans hj0
              have k1 : (wr.alloc (.cells #[.int .i64 x.a, .int .i64 x.va, .int .i64 x.b, .int .i64 x.vb] 70)).cell? ⟨w.heap.size, 1, none⟩ = some (.slice (some aa) cn cc) := (hga.cell (p := ⟨w.heap.size, 1, none⟩) hsr).trans hj1
              have x2 : (wr.alloc (.cells #[.int .i64 x.a, .int .i64 x.va, .int .i64 x.b, .int .i64 x.vb] 70)).cell? ⟨wr.heap.size, 2, none⟩ = some (.int .i64 x.b) := by simp
              have x3 : (wr.alloc (.cells #[.int .i64 x.a, .int .i64 x.va, .int .i64 x.b, .int .i64 x.vb] 70)).cell? ⟨wr.heap.size, 3, none⟩ = some (.int .i64 x.vb) := by simp
              have sz : wr.heap.size < (wr.alloc (.cells #[.int .i64 x.a, .int .i64 x.va, .int .i64 x.b, .int .i64 x.vb] 70)).heap.size := by simp
              have szw : w.heap.size < (wr.alloc (.cells #[.int .i64 x.a, .int .i64 x.va, .int .i64 x.b, .int .i64 x.vb] 70)).heap.size := Nat.lt_trans hsr sz
              have gall := ((hg1.trans hg).trans hgj).trans hga
              have K0 := Lib.hid k0
              have K1 := Lib.hid k1
              have X2 := Lib.hid x2
              have X3 := Lib.hid x3
              have SZ := Lib.hid sz
              have SZW := Lib.hid szw
              clear k0 k1 x2 x3 sz szw
              have fin : ∀ b, clOk f.times x = b → clOk f.times (f.cl[j]?.getD default) = b := fun b hb => by rw [HX.out]; exact hb
              have FIN := Lib.hid fin
              clear fin
              cases hab' : (x.a == x.b) with
              | true =>
                go_wp2_with (go_at_call 76; refine (version_any _ _ _ _ _ _ f _ _ _ (by first | exact hfl | exact hfl.gr (by assumption))).mono ?_; rintro e w3 ⟨rfl, hg3⟩)
                go_ret
                exact ⟨ret_int (chkE_cl (k := j) (by rw [HC.out]; exact hltj) (FIN.out false (by simp only [clOk, hab']; rfl))).symm, gall⟩
              | false =>
                cases hva : verB f.times x.a x.va with
                | false =>
                  go_wp2_with (go_at_call 76; refine (version_any _ _ _ _ _ _ f _ _ _ (by first | exact hfl | exact hfl.gr (by assumption))).mono ?_; rintro e w3 ⟨rfl, hg3⟩; have g0 := (hg3.cell (p := ⟨w.heap.size, 0, none⟩) SZW.out).trans K0.out; have g1 := (hg3.cell (p := ⟨w.heap.size, 1, none⟩) SZW.out).trans K1.out; have g2 := (hg3.cell (p := ⟨wr.heap.size, 2, none⟩) SZ.out).trans X2.out; have g3 := (hg3.cell (p := ⟨wr.heap.size, 3, none⟩) SZ.out).trans X3.out)
                  go_ret
                  exact ⟨ret_int (chkE_cl (k := j) (by rw [HC.out]; exact hltj) (FIN.out false (by simp only [clOk, hab', hva]; rfl))).symm, gall.trans (by assumption)⟩
                | true =>
                  cases hvb : verB f.times x.b x.vb with
                  | false =>
                    go_wp2_with (go_at_call 76; refine (version_any _ _ _ _ _ _ f _ _ _ (by first | exact hfl | exact hfl.gr (by assumption))).mono ?_; rintro e w3 ⟨rfl, hg3⟩; (try (have g0 := (hg3.cell (p := ⟨w.heap.size, 0, none⟩) SZW.out).trans K0.out; have g1 := (hg3.cell (p := ⟨w.heap.size, 1, none⟩) SZW.out).trans K1.out; have g2 := (hg3.cell (p := ⟨wr.heap.size, 2, none⟩) SZ.out).trans X2.out; have g3 := (hg3.cell (p := ⟨wr.heap.size, 3, none⟩) SZ.out).trans X3.out)))
                    go_ret
                    exact ⟨ret_int (chkE_cl (k := j) (by rw [HC.out]; exact hltj) (FIN.out false (by simp only [clOk, hvb, Bool.and_false]))).symm, (gall.trans (by assumption)).trans (by assumption)⟩
                  | true =>
                    go_wp2_with (go_at_call 76; refine (version_any _ _ _ _ _ _ f _ _ _ (by first | exact hfl | exact hfl.gr (by assumption))).mono ?_; rintro e w3 ⟨rfl, hg3⟩; (try (have g0 := (hg3.cell (p := ⟨w.heap.size, 0, none⟩) SZW.out).trans K0.out; have g1 := (hg3.cell (p := ⟨w.heap.size, 1, none⟩) SZW.out).trans K1.out; have g2 := (hg3.cell (p := ⟨wr.heap.size, 2, none⟩) SZ.out).trans X2.out; have g3 := (hg3.cell (p := ⟨wr.heap.size, 3, none⟩) SZ.out).trans X3.out)))
                    go_roundw
                    case rel => exact ⟨j + 1, by omega, by go_num, (hgj.trans hga).trans (Gr.trans (by assumption) (by assumption)), Lib.hid (fun i hi => by
                      by_cases e : i = j
                      · subst e; exact FIN.out true (by simp only [clOk, hab', hva, hvb]; rfl)
                      · exact hallj.out i (by omega))⟩
                    case measure => simp [intOf]; omega
            · obtain rfl : j = cn := by omega
              go_wp2_with fail
              go_ret
              exact ⟨ret_int (chkE_ok (by rw [HT.out]; exact hw) (by rw [HC.out]; omega) (fun i hi => hall.out i (by rw [← HT.out]; exact hi)) (fun i hi => hallj.out i (by rw [← HC.out]; exact hi))).symm, (hg1.trans hg).trans hgj⟩
end
section
open Go.RowKit

theorem chkE_of_true {f : Fl} (h : chkB f = true) : chkE f = 0 := by simp [chkE, h]
theorem chkE_of_false {f : Fl} (h : chkB f = false) : chkE f = 110 := by simp [chkE, h]

/-- the errors of a fleet and states -/
def stsB (T : List (List Int)) (L : List (List Int)) : Bool := (List.range L.length).all fun i => stB T (L[i]?.getD [])
def statesE (f : Fl) (L : List (List Int)) : Int := if chkB f then (if stsB f.times L then 0 else 1) else 110

theorem stsB_at {T L : List (List Int)} {k : Nat} (hk : k < L.length) (h : stB T (L[k]?.getD []) = false) : stsB T L = false := by
  rw [Bool.eq_false_iff]; intro hc
  rw [stsB, List.all_eq_true] at hc
  have := hc k (List.mem_range.2 hk)
  rw [h] at this; cases this
theorem stsB_true {T L : List (List Int)} (h : ∀ j, j < L.length → stB T (L[j]?.getD []) = true) : stsB T L = true := by
  rw [stsB, List.all_eq_true]; intro x hx; exact h x (List.mem_range.1 hx)
theorem statesE_bad {f : Fl} {L : List (List Int)} (h : chkB f = false) : statesE f L = 110 := by simp [statesE, h]
theorem statesE_one {f : Fl} {L : List (List Int)} (h : chkB f = true) {k : Nat} (hk : k < L.length) (hb : stB f.times (L[k]?.getD []) = false) : statesE f L = 1 := by
  simp [statesE, h, stsB_at hk hb]
theorem statesE_ok {f : Fl} {L : List (List Int)} (h : chkB f = true) (hb : ∀ j, j < L.length → stB f.times (L[j]?.getD []) = true) : statesE f L = 0 := by
  simp [statesE, h, stsB_true hb]

set_option maxHeartbeats 2000000 in
theorem checkStates_any (ta ca la : Option Addr) (tn tc cn cc ln lc : Nat) (f : Fl) (L : List (List Int)) (w : World) (hf : FlAt w ta tn ca cn f) (hL : RowsAt w la ln L) :
    Calls Try.prog 54 #[.agg #[.slice ta tn tc, .slice ca cn cc], .slice la ln lc] w fun e w' => e = .returned (.int .i64 (statesE f L)) ∧ Gr w w' := by
  have htn := hf.t.lt
  have hln := hL.lt
  have HT := Lib.hid hf.t.len
  have HL := Lib.hid hL.len
  have hga := Gr.alloc w (.cells #[.slice ta tn tc, .slice ca cn cc] 25)
  have hcon := check_any ta ca tn tc cn cc f _ (hf.gr hga)
  cases hchk : chkB f with
  | false =>
    rw [chkE_of_false hchk] at hcon
    have HCON := Lib.hid hcon
    clear hcon
    go_enter Try.func54, Try.ntmps54
    go_wp2_with (go_at_call 36; refine HCON.out.mono ?_; rintro e w' ⟨rfl, hg⟩)
    go_ret
    exact ⟨ret_int (statesE_bad hchk).symm, hga.trans (by assumption)⟩
  | true =>
    rw [chkE_of_true hchk] at hcon
    have HCON := Lib.hid hcon
    clear hcon
    have hc0 : (w.alloc (.cells #[.slice ta tn tc, .slice ca cn cc] 25)).cell? ⟨w.heap.size, 0, none⟩ = some (.slice ta tn tc) := by simp
    have hc1 : (w.alloc (.cells #[.slice ta tn tc, .slice ca cn cc] 25)).cell? ⟨w.heap.size, 1, none⟩ = some (.slice ca cn cc) := by simp
    have hsz : w.heap.size < (w.alloc (.cells #[.slice ta tn tc, .slice ca cn cc] 25)).heap.size := by simp
    have C0 := Lib.hid hc0
    have C1 := Lib.hid hc1
    have SZ := Lib.hid hsz
    clear hc0 hc1 hsz
    go_enter Try.func54, Try.ntmps54
    go_wp2_with (go_at_call 36; refine HCON.out.mono ?_; rintro e w1 ⟨rfl, hg1⟩)
    have hg1 : Gr (w.alloc (.cells #[.slice ta tn tc, .slice ca cn cc] 25)) w1 := by assumption
    have hc0 := (hg1.cell (p := ⟨w.heap.size, 0, none⟩) SZ.out).trans C0.out
    have hc1 := (hg1.cell (p := ⟨w.heap.size, 1, none⟩) SZ.out).trans C1.out
    have hs1 : w.heap.size < w1.heap.size := Nat.lt_of_lt_of_le SZ.out hg1.size
    have hw1 : Gr w w1 := hga.trans hg1
    clear hga hg1 C0 C1 SZ HCON
    go_loopw [17] (fun i wr => ∃ k : Nat, k ≤ ln ∧ i = .int .i64 k ∧ Gr w1 wr ∧ Hid (∀ j, j < k → stB f.times (L[j]?.getD []) = true)) (fun i _ => ln - (intOf i).toNat)
    case atStart => exact ⟨0, Nat.zero_le _, rfl, Gr.refl _, Lib.hid (by intros; omega)⟩
    case round =>
      obtain ⟨k, hk, rfl, hg, hall⟩ := hrel
      by_cases hlt : k < ln
      · obtain ⟨tt, ra, rn, rc, rfl, htb, htc, hri⟩ := (hL.gr (hw1.trans hg)).at hlt
        have hrl := hri.lt
        have HR := Lib.hid hri.len
        have h0 := (hg.cell (p := ⟨w.heap.size, 0, none⟩) hs1).trans hc0
        have h1 := (hg.cell (p := ⟨w.heap.size, 1, none⟩) hs1).trans hc1
        have hsr : w.heap.size < wr.heap.size := Nat.lt_of_lt_of_le hs1 hg.size
        by_cases hnt : rn = tn
        · have hne : ((rn : Int) != (tn : Int)) = false := by rw [bne_eq_false_iff_eq]; omega
          have HNT := Lib.hid hnt
          clear hnt
          obtain ⟨w2, hw2⟩ : ∃ w2, w2 = wr := ⟨_, rfl⟩
          subst hw2
          go_wp2
          go_loopw [29] (fun i wr => ∃ j : Nat, j ≤ rn ∧ i = .int .i64 j ∧ Gr w2 wr ∧ Hid (∀ c : Nat, c < j → verB f.times c ((L[k]?.getD [])[c]?.getD 0) = true)) (fun i _ => rn - (intOf i).toNat)
          case atStart => exact ⟨0, Nat.zero_le _, rfl, Gr.refl _, Lib.hid (by intros; omega)⟩
          case round =>
            obtain ⟨j, hj, rfl, hgj, hallj⟩ := hrel
            by_cases hltj : j < rn
            · obtain ⟨aa, rfl, hab, hac⟩ := (hri.gr hgj).at hltj
              have g0 := (hgj.cell (p := ⟨w.heap.size, 0, none⟩) hsr).trans h0
              have g1 := (hgj.cell (p := ⟨w.heap.size, 1, none⟩) hsr).trans h1
              have hver := version_any ta ca tn tc cn cc f j ((L[k]?.getD [])[j]?.getD 0) wr (hf.gr ((hw1.trans hg).trans hgj))
              cases hv : verB f.times j ((L[k]?.getD [])[j]?.getD 0) with
              | false =>
                rw [hv] at hver
                have HV := Lib.hid hver
                clear hver
                go_wp2_with (go_at_call 76; refine HV.out.mono ?_; rintro e w3 ⟨rfl, hg3⟩)
                go_ret
                exact ⟨ret_int (statesE_one hchk (k := k) (by rw [HL.out]; exact hlt) (stB_at (k := j) (by rw [HR.out]; exact hltj) hv)).symm, ((hw1.trans hg).trans hgj).trans (by assumption)⟩
              | true =>
                rw [hv] at hver
                have HV := Lib.hid hver
                clear hver
                go_wp2_with (go_at_call 76; refine HV.out.mono ?_; rintro e w3 ⟨rfl, hg3⟩)
                go_roundw
                case rel => exact ⟨j + 1, by omega, by go_num, hgj.trans (by assumption), Lib.hid (fun i hi => by
                  by_cases e : i = j
                  · subst e; exact hv
                  · exact hallj.out i (by omega))⟩
                case measure => simp [intOf]; omega
            · obtain rfl : j = rn := by omega
              go_wp2
              go_roundw
              case rel => exact ⟨k + 1, by omega, by go_num, hg.trans hgj, Lib.hid (fun i hi => by
                by_cases e : i = k
                · subst e; exact stB_true (by rw [HR.out, HT.out]; exact HNT.out) (fun c hc => hallj.out c (by rw [← HR.out]; exact hc))
                · exact hall.out i (by omega))⟩
              case measure => simp [intOf]; omega
        · have hne : ((rn : Int) != (tn : Int)) = true := by rw [bne_iff_ne]; omega
          have HNT := Lib.hid hnt
          clear hnt
          go_wp2
          go_ret
          exact ⟨ret_int (statesE_one hchk (k := k) (by rw [HL.out]; exact hlt) (stB_len (by rw [HR.out, HT.out]; exact HNT.out))).symm, hw1.trans hg⟩
      · obtain rfl : k = ln := by omega
        go_wp2
        go_ret
        exact ⟨ret_int (statesE_ok hchk (fun i hi => hall.out i (by rw [← HL.out]; exact hi))).symm, hw1.trans hg⟩

/-- the errors of a fleet, states and a budget -/
def beginE (f : Fl) (budget : Int) (L : List (List Int)) : Int := if statesE f L = 0 then (if withinB budget 0 1000000 then 0 else 1) else statesE f L

set_option maxHeartbeats 2000000 in
theorem begin_any (ta ca la : Option Addr) (tn tc cn cc ln lc : Nat) (f : Fl) (budget : Int) (L : List (List Int)) (w : World) (hf : FlAt w ta tn ca cn f) (hL : RowsAt w la ln L) :
    Calls Try.prog 47 #[.agg #[.slice ta tn tc, .slice ca cn cc], .int .i64 budget, .slice la ln lc] w fun e w' => e = .returned (.int .i64 (beginE f budget L)) ∧ Gr w w' := by
  have hga := Gr.alloc w (.cells #[.slice ta tn tc, .slice ca cn cc] 25)
  have hcon := Lib.hid (checkStates_any ta ca la tn tc cn cc ln lc f L _ (hf.gr hga) (hL.gr hga))
  by_cases hz : statesE f L = 0
  · have hzb : (statesE f L != 0) = false := by simp [hz]
    have HZ := Lib.hid hz
    clear hz
    cases hb : withinB budget 0 1000000 with
    | true =>
      go_enter Try.func47, Try.ntmps47
      go_wp2_with (first | (go_at_call 54; refine hcon.out.mono ?_; rintro e w' ⟨rfl, hg⟩) | (go_at_call 61; refine (within_any _ _ _ _).mono ?_; rintro e w' ⟨rfl, rfl⟩))
      go_ret
      exact ⟨ret_int (by simp [beginE, HZ.out, hb]), hga.trans (by assumption)⟩
    | false =>
      go_enter Try.func47, Try.ntmps47
      go_wp2_with (first | (go_at_call 54; refine hcon.out.mono ?_; rintro e w' ⟨rfl, hg⟩) | (go_at_call 61; refine (within_any _ _ _ _).mono ?_; rintro e w' ⟨rfl, rfl⟩))
      go_ret
      exact ⟨ret_int (by simp [beginE, HZ.out, hb]), hga.trans (by assumption)⟩
  · have hzb : (statesE f L != 0) = true := by simp [hz]
    have HZ := Lib.hid hz
    clear hz
    go_enter Try.func47, Try.ntmps47
    go_wp2_with (first | (go_at_call 54; refine hcon.out.mono ?_; rintro e w' ⟨rfl, hg⟩) | (go_at_call 61; refine (within_any _ _ _ _).mono ?_; rintro e w' ⟨rfl, rfl⟩))
    go_ret
    exact ⟨ret_int (by simp [beginE, HZ.out]), hga.trans (by assumption)⟩

set_option maxHeartbeats 2000000 in
theorem state_any (ta ca a : Option Addr) (tn tc cn cc n c : Nat) (f : Fl) (s : List Int) (w : World) (hf : FlAt w ta tn ca cn f) (hs : Ints w a n s) :
    Calls Try.prog 67 #[.agg #[.slice ta tn tc, .slice ca cn cc], .slice a n c] w fun e w' => e = .returned (.bool (stB f.times s)) ∧ Gr w w' := by
  have htn := hf.t.lt
  have hn := hs.lt
  have HT := Lib.hid hf.t.len
  have HS := Lib.hid hs.len
  by_cases hnt : n = tn
  · have hne : ((n : Int) != (tn : Int)) = false := by rw [bne_eq_false_iff_eq]; omega
    have HNT := Lib.hid hnt
    clear hnt
    go_enter Try.func67, Try.ntmps67
    go_wp2
    obtain ⟨w1, hw1⟩ : ∃ w1, w.alloc (.cells #[.slice ta tn tc, .slice ca cn cc] 25) = w1 := ⟨_, rfl⟩
    have hg1 : Gr w w1 := by rw [← hw1]; exact Gr.alloc _ _
    have hc0 : w1.cell? ⟨w.heap.size, 0, none⟩ = some (.slice ta tn tc) := by rw [← hw1]; simp
    have hc1 : w1.cell? ⟨w.heap.size, 1, none⟩ = some (.slice ca cn cc) := by rw [← hw1]; simp
    have hs1 : w.heap.size < w1.heap.size := by rw [← hw1]; simp
    rw [hw1]
    clear hw1
    go_loopw [5] (fun i wr => ∃ k : Nat, k ≤ n ∧ i = .int .i64 k ∧ Gr w1 wr ∧ Hid (∀ j : Nat, j < k → verB f.times j (s[j]?.getD 0) = true)) (fun i _ => n - (intOf i).toNat)
    case atStart => exact ⟨0, Nat.zero_le _, rfl, Gr.refl _, Lib.hid (by intros; omega)⟩
    case round =>
      obtain ⟨k, hk, rfl, hg, hall⟩ := hrel
      by_cases hlt : k < n
      · obtain ⟨aa, rfl, hab, hac⟩ := (hs.gr (hg1.trans hg)).at hlt
        have h0 := (hg.cell (p := ⟨w.heap.size, 0, none⟩) hs1).trans hc0
        have h1 := (hg.cell (p := ⟨w.heap.size, 1, none⟩) hs1).trans hc1
        have hfr := hf.gr (hg1.trans hg)
        have hsr : w.heap.size < wr.heap.size := Nat.lt_of_lt_of_le hs1 hg.size
        have hsa : (aa.add k).block < wr.heap.size := by rw [add_block]; exact hab
        cases hv : verB f.times k (s[k]?.getD 0) with
        | false =>
          go_wp2
          go_region_held3 (fun w' => w'.cell? ⟨w.heap.size, 0, none⟩ = some (.slice ta tn tc) ∧ w'.cell? ⟨w.heap.size, 1, none⟩ = some (.slice ca cn cc) ∧ w'.cell? (aa.add k) = some (.int .i64 (s[k]?.getD 0))) (first | go_keep | exact ⟨by assumption, by assumption, by assumption⟩)
            (first | (go_at_call 77; refine (version2_any _ _ _ _ _ _ f _ _ _ (hfr.gr (Gr.drew _))).mono ?_; rintro e w' ⟨rfl, hg2⟩; have s0 := (hg2.cell (p := ⟨w.heap.size, 0, none⟩) hsr).trans h0; have s1 := (hg2.cell (p := ⟨w.heap.size, 1, none⟩) hsr).trans h1; have s2 := (hg2.cell (p := aa.add k) hsa).trans hac))
          go_wp2
          go_ret
          exact ⟨ret_bool (stB_at (k := k) (by rw [HS.out]; exact hlt) hv).symm, (hg1.trans hg).trans ((Gr.drew _).trans (by assumption))⟩
        | true =>
          go_wp2
          go_region_held3 (fun w' => w'.cell? ⟨w.heap.size, 0, none⟩ = some (.slice ta tn tc) ∧ w'.cell? ⟨w.heap.size, 1, none⟩ = some (.slice ca cn cc) ∧ w'.cell? (aa.add k) = some (.int .i64 (s[k]?.getD 0))) (first | go_keep | exact ⟨by assumption, by assumption, by assumption⟩)
            (first | (go_at_call 77; refine (version2_any _ _ _ _ _ _ f _ _ _ (hfr.gr (Gr.drew _))).mono ?_; rintro e w' ⟨rfl, hg2⟩; have s0 := (hg2.cell (p := ⟨w.heap.size, 0, none⟩) hsr).trans h0; have s1 := (hg2.cell (p := ⟨w.heap.size, 1, none⟩) hsr).trans h1; have s2 := (hg2.cell (p := aa.add k) hsa).trans hac))
          go_wp2
          go_roundw
          case rel => exact ⟨k + 1, by omega, by go_num, hg.trans ((Gr.drew _).trans (by assumption)), Lib.hid (fun j hj => by
            by_cases e : j = k
            · subst e; exact hv
            · exact hall.out j (by omega))⟩
          case measure => simp [intOf]; omega
      · obtain rfl : k = n := by omega
        go_wp2
        go_ret
        exact ⟨ret_bool (stB_true (by rw [HS.out, HT.out]; exact HNT.out) (fun c hc => hall.out c (by rw [← HS.out]; exact hc))).symm, hg1.trans hg⟩
  · have hne : ((n : Int) != (tn : Int)) = true := by rw [bne_iff_ne]; omega
    have HNT := Lib.hid hnt
    clear hnt
    go_enter Try.func67, Try.ntmps67
    go_wp2
    go_ret
    exact ⟨ret_bool (stB_len (by rw [HS.out, HT.out]; exact HNT.out)).symm, Gr.alloc _ _⟩
end
section
open Go.RowKit

theorem rowOk_bad {l : List Int} {v : Nat} (hv : v < l.length) (h : withinB (l[v]?.getD 0) 1 10000 = false) : rowOk l = false :=
  rowOk_any (any_hit (p := fun n => !withinB n 1 10000) hv (by simp only [h]; rfl))
theorem rowOk_good {l : List Int} (h0 : ¬ 3 < l.length) (h : ∀ j, j < l.length → withinB (l[j]?.getD 0) 1 10000 = true) : rowOk l = true :=
  rowOk_true h0 (any_none (p := fun n => !withinB n 1 10000) (fun j hj => by simp only [h j hj]; rfl))

set_option maxHeartbeats 4000000 in
theorem check2_any (ta ca : Option Addr) (tn tc cn cc : Nat) (f : Fl) (w : World) (hf : FlAt w ta tn ca cn f) :
    Calls Try.prog 37 #[.agg #[.slice ta tn tc, .slice ca cn cc]] w fun e w' => e = .returned (.int .i64 (chkE f)) ∧ Gr w w' := by
  have htn := hf.t.lt
  have hcn := hf.c.lt
  have HT := Lib.hid hf.t.len
  have HC := Lib.hid hf.c.len
  cases hw : withinB (tn : Int) 1 6 with
  | false =>
    go_enter Try.func37, Try.ntmps37
    go_wp2_with (go_at_call 63; refine (within2_any _ _ _ _).mono ?_; rintro e w' ⟨rfl, rfl⟩)
    go_ret
    exact ⟨ret_int (chkE_head (.inl (by rw [HT.out]; exact hw))).symm, Gr.alloc _ _⟩
  | true =>
    by_cases h60 : (60 : Int) < cn
    · go_enter Try.func37, Try.ntmps37
      go_wp2_with (go_at_call 63; refine (within2_any _ _ _ _).mono ?_; rintro e w' ⟨rfl, rfl⟩)
      go_ret
      exact ⟨ret_int (chkE_head (.inr (by rw [HC.out]; omega))).symm, Gr.alloc _ _⟩
    · go_enter Try.func37, Try.ntmps37
      go_wp2_with (go_at_call 63; refine (within2_any _ _ _ _).mono ?_; rintro e w' ⟨rfl, rfl⟩)
      obtain ⟨w1, hw1⟩ : ∃ w1, w.alloc (.cells #[.slice ta tn tc, .slice ca cn cc] 25) = w1 := ⟨_, rfl⟩
      have hg1 : Gr w w1 := by rw [← hw1]; exact Gr.alloc _ _
      have hc0 : w1.cell? ⟨w.heap.size, 0, none⟩ = some (.slice ta tn tc) := by rw [← hw1]; simp
      have hc1 : w1.cell? ⟨w.heap.size, 1, none⟩ = some (.slice ca cn cc) := by rw [← hw1]; simp
      have hs1 : w.heap.size < w1.heap.size := by rw [← hw1]; simp
      rw [hw1]
      clear hw1
      go_loop [3] (fun i => ∃ k : Nat, k ≤ tn ∧ i = .int .i64 k ∧ Hid (∀ j, j < k → rowOk (f.times[j]?.getD []) = true)) (fun i => tn - (intOf i).toNat)
      case atStart => exact ⟨0, Nat.zero_le _, rfl, Lib.hid (by intros; omega)⟩
      case round =>
        obtain ⟨k, hk, rfl, hall⟩ := hrel
        by_cases hlt : k < tn
        · obtain ⟨tt, ra, rn, rc, rfl, htb, htc, hri⟩ := (hf.t.gr hg1).at hlt
          have hrl := hri.lt
          have HR := Lib.hid hri.len
          by_cases h3 : (3 : Int) < rn
          · go_wp2_with fail
            go_ret
            exact ⟨ret_int (chkE_row (k := k) (by rw [HT.out]; exact hlt) (rowOk_long (by rw [HR.out]; omega))).symm, hg1⟩
          · go_wp2_with fail
            go_loop [4] (fun i => ∃ j : Nat, j ≤ rn ∧ i = .int .i64 j ∧ Hid (∀ v, v < j → withinB ((f.times[k]?.getD [])[v]?.getD 0) 1 10000 = true)) (fun i => rn - (intOf i).toNat)
            case atStart => exact ⟨0, Nat.zero_le _, rfl, Lib.hid (by intros; omega)⟩
            case round =>
              obtain ⟨j, hj, rfl, hallj⟩ := hrel
              by_cases hltj : j < rn
              · obtain ⟨aa, rfl, hab, hac⟩ := hri.at hltj
                cases hv : withinB ((f.times[k]?.getD [])[j]?.getD 0) 1 10000 with
                | false =>
                  go_wp2_with (go_at_call 63; refine (within2_any _ _ _ _).mono ?_; rintro e w' ⟨rfl, rfl⟩)
                  go_ret
                  exact ⟨ret_int (chkE_row (k := k) (by rw [HT.out]; exact hlt) (rowOk_bad (v := j) (by rw [HR.out]; exact hltj) hv)).symm, hg1⟩
                | true =>
                  go_wp2_with (go_at_call 63; refine (within2_any _ _ _ _).mono ?_; rintro e w' ⟨rfl, rfl⟩)
                  go_round
                  case rel => exact ⟨j + 1, by omega, by go_num, Lib.hid (fun i hi => by
                    by_cases e : i = j
                    · subst e; exact hv
                    · exact hallj.out i (by omega))⟩
                  case measure => simp [intOf]; omega
              · obtain rfl : j = rn := by omega
                go_wp2_with fail
                go_round
                case rel => exact ⟨k + 1, by omega, by go_num, Lib.hid (fun i hi => by
                  by_cases e : i = k
                  · subst e; exact rowOk_good (by rw [HR.out]; omega) (fun v hv => hallj.out v (by rw [← HR.out]; exact hv))
                  · exact hall.out i (by omega))⟩
                case measure => simp [intOf]; omega
        · obtain rfl : k = tn := by omega
          go_wp2_with fail
          go_loopw [5] (fun i wr => ∃ k : Nat, k ≤ cn ∧ i = .int .i64 k ∧ Gr w1 wr ∧ Hid (∀ j, j < k → clOk f.times (f.cl[j]?.getD default) = true)) (fun i _ => cn - (intOf i).toNat)
          case atStart => exact ⟨0, Nat.zero_le _, rfl, Gr.refl _, Lib.hid (by intros; omega)⟩
          case round =>
            obtain ⟨j, hj, rfl, hgj, hallj⟩ := hrel
            have hj1 := (hgj.cell (p := ⟨w.heap.size, 1, none⟩) hs1).trans hc1
            have hj0 := (hgj.cell (p := ⟨w.heap.size, 0, none⟩) hs1).trans hc0
            by_cases hltj : j < cn
            · obtain ⟨aa, rfl, hab, c0, c1, c2, c3⟩ := (hf.c.gr (hg1.trans hgj)).at hltj
              obtain ⟨x, hx⟩ : ∃ x, f.cl[j]?.getD default = x := ⟨_, rfl⟩
              rw [hx] at c0 c1 c2 c3
              have HX := Lib.hid hx
              clear hx
              have hga := Gr.alloc wr (.cells #[.int .i64 x.a, .int .i64 x.va, .int .i64 x.b, .int .i64 x.vb] 70)
              have hfl := hf.gr ((hg1.trans hgj).trans hga)
              have hsr : w.heap.size < wr.heap.size := Nat.lt_of_lt_of_le hs1 hgj.size
              have k0 : (wr.alloc (.cells #[.int .i64 x.a, .int .i64 x.va, .int .i64 x.b, .int .i64 x.vb] 70)).cell? ⟨w.heap.size, 0, none⟩ = some (.slice ta k tc) := (hga.cell (p := ⟨w.heap.size, 0, none⟩) hsr).trans hj0
              have k1 : (wr.alloc (.cells #[.int .i64 x.a, .int .i64 x.va, .int .i64 x.b, .int .i64 x.vb] 70)).cell? ⟨w.heap.size, 1, none⟩ = some (.slice (some aa) cn cc) := (hga.cell (p := ⟨w.heap.size, 1, none⟩) hsr).trans hj1
              have x0 : (wr.alloc (.cells #[.int .i64 x.a, .int .i64 x.va, .int .i64 x.b, .int .i64 x.vb] 70)).cell? ⟨wr.heap.size, 0, none⟩ = some (.int .i64 x.a) := by simp
              have x2 : (wr.alloc (.cells #[.int .i64 x.a, .int .i64 x.va, .int .i64 x.b, .int .i64 x.vb] 70)).cell? ⟨wr.heap.size, 2, none⟩ = some (.int .i64 x.b) := by simp
              have x3 : (wr.alloc (.cells #[.int .i64 x.a, .int .i64 x.va, .int .i64 x.b, .int .i64 x.vb] 70)).cell? ⟨wr.heap.size, 3, none⟩ = some (.int .i64 x.vb) := by simp
              have sz : wr.heap.size < (wr.alloc (.cells #[.int .i64 x.a, .int .i64 x.va, .int .i64 x.b, .int .i64 x.vb] 70)).heap.size := by simp
              have szw : w.heap.size < (wr.alloc (.cells #[.int .i64 x.a, .int .i64 x.va, .int .i64 x.b, .int .i64 x.vb] 70)).heap.size := Nat.lt_trans hsr sz
              have gall := (hg1.trans hgj).trans hga
              have K0 := Lib.hid k0
              have K1 := Lib.hid k1
              have X0 := Lib.hid x0
              have X2 := Lib.hid x2
              have X3 := Lib.hid x3
              have SZ := Lib.hid sz
              have SZW := Lib.hid szw
              clear k0 k1 x0 x2 x3 sz szw
              have fin : ∀ b, clOk f.times x = b → clOk f.times (f.cl[j]?.getD default) = b := fun b hb => by rw [HX.out]; exact hb
              have FIN := Lib.hid fin
              clear fin
              cases hva : verB f.times x.a x.va with
              | false =>
                go_wp2_with (go_at_call 77; refine (version2_any _ _ _ _ _ _ f _ _ _ (by first | exact hfl | exact hfl.gr (by assumption))).mono ?_; rintro e w3 ⟨rfl, hg3⟩; have g0 := (hg3.cell (p := ⟨w.heap.size, 0, none⟩) SZW.out).trans K0.out; have g1 := (hg3.cell (p := ⟨w.heap.size, 1, none⟩) SZW.out).trans K1.out; have g2 := (hg3.cell (p := ⟨wr.heap.size, 2, none⟩) SZ.out).trans X2.out; have g3 := (hg3.cell (p := ⟨wr.heap.size, 3, none⟩) SZ.out).trans X3.out; have g4 := (hg3.cell (p := ⟨wr.heap.size, 0, none⟩) SZ.out).trans X0.out)
                go_ret
                exact ⟨ret_int (chkE_cl (k := j) (by rw [HC.out]; exact hltj) (FIN.out false (by simp only [clOk, hva, Bool.and_false, Bool.false_and]))).symm, gall.trans (by assumption)⟩
              | true =>
                cases hvb : verB f.times x.b x.vb with
                | false =>
                  go_wp2_with (go_at_call 77; refine (version2_any _ _ _ _ _ _ f _ _ _ (by first | exact hfl | exact hfl.gr (by assumption))).mono ?_; rintro e w3 ⟨rfl, hg3⟩; (try (have g0 := (hg3.cell (p := ⟨w.heap.size, 0, none⟩) SZW.out).trans K0.out; have g1 := (hg3.cell (p := ⟨w.heap.size, 1, none⟩) SZW.out).trans K1.out; have g2 := (hg3.cell (p := ⟨wr.heap.size, 2, none⟩) SZ.out).trans X2.out; have g3 := (hg3.cell (p := ⟨wr.heap.size, 3, none⟩) SZ.out).trans X3.out; have g4 := (hg3.cell (p := ⟨wr.heap.size, 0, none⟩) SZ.out).trans X0.out)))
                  go_ret
                  exact ⟨ret_int (chkE_cl (k := j) (by rw [HC.out]; exact hltj) (FIN.out false (by simp only [clOk, hvb, Bool.and_false]))).symm, (gall.trans (by assumption)).trans (by assumption)⟩
                | true =>
                  cases hab' : (x.a == x.b) with
                  | true =>
                    go_wp2_with (go_at_call 77; refine (version2_any _ _ _ _ _ _ f _ _ _ (by first | exact hfl | exact hfl.gr (by assumption))).mono ?_; rintro e w3 ⟨rfl, hg3⟩; first | (have g0 := (hg3.cell (p := ⟨w.heap.size, 0, none⟩) SZW.out).trans K0.out; have g1 := (hg3.cell (p := ⟨w.heap.size, 1, none⟩) SZW.out).trans K1.out; have g2 := (hg3.cell (p := ⟨wr.heap.size, 2, none⟩) SZ.out).trans X2.out; have g3 := (hg3.cell (p := ⟨wr.heap.size, 3, none⟩) SZ.out).trans X3.out; have g4 := (hg3.cell (p := ⟨wr.heap.size, 0, none⟩) SZ.out).trans X0.out; have S4 := Lib.hid (Nat.lt_of_lt_of_le SZ.out hg3.size)) | (have g5 := (hg3.cell (p := ⟨wr.heap.size, 0, none⟩) S4.out).trans g4; have g6 := (hg3.cell (p := ⟨wr.heap.size, 2, none⟩) S4.out).trans g2))
                    go_ret
                    exact ⟨ret_int (chkE_cl (k := j) (by rw [HC.out]; exact hltj) (FIN.out false (by simp only [clOk, hab']; rfl))).symm, (gall.trans (by assumption)).trans (by assumption)⟩
                  | false =>
                    go_wp2_with (go_at_call 77; refine (version2_any _ _ _ _ _ _ f _ _ _ (by first | exact hfl | exact hfl.gr (by assumption))).mono ?_; rintro e w3 ⟨rfl, hg3⟩; first | (have g0 := (hg3.cell (p := ⟨w.heap.size, 0, none⟩) SZW.out).trans K0.out; have g1 := (hg3.cell (p := ⟨w.heap.size, 1, none⟩) SZW.out).trans K1.out; have g2 := (hg3.cell (p := ⟨wr.heap.size, 2, none⟩) SZ.out).trans X2.out; have g3 := (hg3.cell (p := ⟨wr.heap.size, 3, none⟩) SZ.out).trans X3.out; have g4 := (hg3.cell (p := ⟨wr.heap.size, 0, none⟩) SZ.out).trans X0.out; have S4 := Lib.hid (Nat.lt_of_lt_of_le SZ.out hg3.size)) | (have g5 := (hg3.cell (p := ⟨wr.heap.size, 0, none⟩) S4.out).trans g4; have g6 := (hg3.cell (p := ⟨wr.heap.size, 2, none⟩) S4.out).trans g2))
                    go_roundw
                    case rel => exact ⟨j + 1, by omega, by go_num, (hgj.trans hga).trans (Gr.trans (by assumption) (by assumption)), Lib.hid (fun i hi => by
                      by_cases e : i = j
                      · subst e; exact FIN.out true (by simp only [clOk, hab', hva, hvb]; rfl)
                      · exact hallj.out i (by omega))⟩
                    case measure => simp [intOf]; omega
            · obtain rfl : j = cn := by omega
              go_wp2_with fail
              go_ret
              exact ⟨ret_int (chkE_ok (by rw [HT.out]; exact hw) (by rw [HC.out]; omega) (fun i hi => hall.out i (by rw [← HT.out]; exact hi)) (fun i hi => hallj.out i (by rw [← HC.out]; exact hi))).symm, hg1.trans hgj⟩
end
section
open Go.RowKit

set_option maxHeartbeats 400000 in
theorem duration_any (ta ca a b : Option Addr) (tn tc cn cc n c d : Nat) (f : Fl) (xs ys : List Int) (w : World) (hf : FlAt w ta tn ca cn f) (hok : FlOk f)
    (hx : Ints w a n xs) (hy : Ints w b n ys) (h0 : ∀ c, c < f.times.length → 0 ≤ xs[c]?.getD 0) (hs : StOk f ys) (hle : ∀ c, c < f.times.length → xs[c]?.getD 0 ≤ ys[c]?.getD 0) :
    Calls Try.prog 58 #[.agg #[.slice ta tn tc, .slice ca cn cc], .slice a n c, .slice b n d] w fun e w' => e = .returned (.int .i64 (dur f.times xs ys)) ∧ Gr w w' := by
  have hn := hx.lt
  have hlen : n = f.times.length := by rw [← hs.len, hy.len]
  have htn : tn = f.times.length := hf.t.len.symm
  have hbd := durTo_bd hok h0 hs hle
  have HL := Lib.hid hlen
  have HT := Lib.hid htn
  have HB := Lib.hid hbd
  have h6 : n ≤ 6 := by have := hok.n6; omega
  clear hlen htn hbd
  go_enter Try.func58, Try.ntmps58
  go_wp2

  obtain ⟨w1, hw1⟩ : ∃ w1, w.alloc (.cells #[.slice ta tn tc, .slice ca cn cc] 25) = w1 := ⟨_, rfl⟩
  have hg1 : Gr w w1 := by rw [← hw1]; exact Gr.alloc _ _
  have hc0 : w1.cell? ⟨w.heap.size, 0, none⟩ = some (.slice ta tn tc) := by rw [← hw1]; simp
  rw [hw1]
  clear hw1
  go_loop [6, 11] (fun t i => ∃ k : Nat, k ≤ n ∧ i = .int .i64 k ∧ t = .int .i64 (durTo f.times xs ys k)) (fun _ i => n - (intOf i).toNat)
  case atStart => exact ⟨0, Nat.zero_le _, rfl, rfl⟩
  case round =>
    obtain ⟨k, hk, rfl, rfl⟩ := hrel
    by_cases hlt : k < n
    · obtain ⟨aa, rfl, hab, hac⟩ := (hx.gr hg1).at hlt
      obtain ⟨bb, rfl, hbb, hbc⟩ := (hy.gr hg1).at hlt
      have hb := HB.out k (by have := HL.out; omega)
      by_cases hc : ys[k]?.getD 0 = xs[k]?.getD 0
      · have hcb : (ys[k]?.getD 0 != xs[k]?.getD 0) = false := by simp [hc]
        have HC := Lib.hid hc
        clear hc
        go_wp2
        go_round
        case rel => exact ⟨k + 1, by omega, by go_num, by simp [durTo, HC.out]⟩
        case measure => simp [intOf]; omega
      · have hcb : (ys[k]?.getD 0 != xs[k]?.getD 0) = true := by simp [hc]
        obtain ⟨tt, ra, rn, rc, rfl, htb, htc, hri⟩ := (hf.t.gr hg1).at (j := k) (by have := HL.out; have := HT.out; omega)
        have hkl : k < f.times.length := by have := HL.out; omega
        have hktn : k < tn := by have := HT.out; omega
        have hv1 : 1 ≤ ys[k]?.getD 0 := by have := h0 k hkl; have := hle k hkl; omega
        have hv2 : ys[k]?.getD 0 - 1 < rn := by have := (hs.ver k hkl).2; have := hri.len; omega
        have htm := tm_bd hok hkl hv1 (by have := (hs.ver k hkl).2; omega)
        have hsn : durTo f.times xs ys (k + 1) = durTo f.times xs ys k + tm f.times k (ys[k]?.getD 0) := by simp [durTo, hc]
        have hrl := hri.lt
        have HS := Lib.hid hsn
        obtain ⟨rr, rfl, hrb, hrc⟩ := hri.at (j := (ys[k]?.getD 0).toNat - 1) (by omega)
        have hrc' : w1.cell? (rr.add ((ys[k]?.getD 0).toNat - 1)) = some (.int .i64 (tm f.times k (ys[k]?.getD 0))) := hrc
        clear hc hsn hrc
        go_wp2
        go_round
        case rel => exact ⟨k + 1, by omega, by go_num, by rw [HS.out]⟩
        case measure => simp [intOf]; omega
    · obtain rfl : k = n := by omega
      go_wp2
      go_ret
      exact ⟨ret_int (by unfold dur; rw [hy.len]), hg1⟩

set_option maxHeartbeats 1000000 in
theorem step_any (ta ca a b : Option Addr) (tn tc cn cc n c d : Nat) (f : Fl) (xs ys : List Int) (w : World) (hf : FlAt w ta tn ca cn f) (hok : FlOk f)
    (hx : Ints w a n xs) (hy : Ints w b n ys) (h0 : StOk f xs) (hs : StOk f ys) :
    Calls Try.prog 70 #[.agg #[.slice ta tn tc, .slice ca cn cc], .slice a n c, .slice b n d] w fun e w' => e = .returned (.int .i64 (stepV f.times xs ys)) ∧ Gr w w' := by
  have hn := hx.lt
  have hlen : n = f.times.length := by rw [← hs.len, hy.len]
  have htn : tn = f.times.length := hf.t.len.symm
  have hbd := durTo_bd' (a := xs) hok (fun c hc => (h0.ver c hc).1) hs
  have HL := Lib.hid hlen
  have HT := Lib.hid htn
  have HB := Lib.hid hbd
  have h6 : n ≤ 6 := by have := hok.n6; omega
  clear hlen htn hbd
  go_enter Try.func70, Try.ntmps70
  go_wp2
  obtain ⟨w1, hw1⟩ : ∃ w1, w.alloc (.cells #[.slice ta tn tc, .slice ca cn cc] 25) = w1 := ⟨_, rfl⟩
  have hg1 : Gr w w1 := by rw [← hw1]; exact Gr.alloc _ _
  have hc0 : w1.cell? ⟨w.heap.size, 0, none⟩ = some (.slice ta tn tc) := by rw [← hw1]; simp
  rw [hw1]
  clear hw1
  go_loopw [7, 8] (fun t i wr => ∃ k q : Nat, k ≤ n ∧ i = .int .i64 k ∧ wr = w1.drewN q ∧ t = .int .i64 (durTo f.times xs ys k) ∧ Hid (∀ j, j < k → xs[j]?.getD 0 ≤ ys[j]?.getD 0)) (fun _ i _ => n - (intOf i).toNat)
  case atStart => exact ⟨0, 0, Nat.zero_le _, rfl, rfl, rfl, Lib.hid (by intros; omega)⟩
  case round =>
    obtain ⟨k, q, hk, rfl, rfl, rfl, hall⟩ := hrel
    have hb := HB.out k (by have := HL.out; omega) hall.out
    by_cases hlt : k < n
    · obtain ⟨aa, rfl, hab, hac⟩ := (hx.gr hg1).at hlt
      obtain ⟨bb, rfl, hbb, hbc⟩ := (hy.gr hg1).at hlt
      by_cases hc : ys[k]?.getD 0 < xs[k]?.getD 0
      · go_wp2
        go_region
        go_wp2
        go_ret
        exact ⟨ret_int (by rw [stepV, aboveV_false hy.len hlt hc]; rfl), hg1.drewNR _⟩
      · by_cases hd : ys[k]?.getD 0 = xs[k]?.getD 0
        · have h1 : ¬ xs[k]?.getD 0 < ys[k]?.getD 0 := by omega
          have HD := Lib.hid hd
          clear hd
          go_wp2
          go_region
          go_wp2
          go_region
          go_wp2
          go_roundw
          case rel => exact ⟨k + 1, _, by omega, by go_num, rfl, by simp [durTo, HD.out], Lib.hid (fun j hj => by
            by_cases e : j = k
            · subst e; omega
            · exact hall.out j (by omega))⟩
          case measure => simp [intOf]; omega
        · obtain ⟨tt, ra, rn, rc, rfl, htb, htc, hri⟩ := (hf.t.gr hg1).at (j := k) (by have := HL.out; have := HT.out; omega)
          have hkl : k < f.times.length := by have := HL.out; omega
          have hktn : k < tn := by have := HT.out; omega
          have h1 : xs[k]?.getD 0 < ys[k]?.getD 0 := by omega
          have hv1 : 1 ≤ ys[k]?.getD 0 := by have := (h0.ver k hkl).1; omega
          have hv2 : ys[k]?.getD 0 - 1 < rn := by have := (hs.ver k hkl).2; have := hri.len; omega
          have hv3 : 0 ≤ ys[k]?.getD 0 - 1 := by omega
          have htm := tm_bd hok hkl hv1 (by have := (hs.ver k hkl).2; omega)
          have hsn : durTo f.times xs ys (k + 1) = durTo f.times xs ys k + tm f.times k (ys[k]?.getD 0) := by simp [durTo, hd]
          have hrl := hri.lt
          have HS := Lib.hid hsn
          obtain ⟨rr, rfl, hrb, hrc⟩ := hri.at (j := (ys[k]?.getD 0).toNat - 1) (by omega)
          have hrc' : w1.cell? (rr.add ((ys[k]?.getD 0).toNat - 1)) = some (.int .i64 (tm f.times k (ys[k]?.getD 0))) := hrc
          clear hd hsn hrc
          go_wp2
          go_region
          go_wp2
          go_region
          go_wp2
          go_region
          go_wp2
          go_roundw
          case rel => exact ⟨k + 1, _, by omega, by go_num, rfl, by rw [HS.out], Lib.hid (fun j hj => by
            by_cases e : j = k
            · subst e; omega
            · exact hall.out j (by omega))⟩
          case measure => simp [intOf]; omega
    · obtain rfl : k = n := by omega
      have habv := aboveV_true hy.len hall.out
      have hdur : dur f.times xs ys = durTo f.times xs ys k := by unfold dur; rw [hy.len]
      have HA := Lib.hid habv
      have HDU := Lib.hid hdur
      clear habv hdur
      by_cases hz : durTo f.times xs ys k = 0
      · have hzb : (durTo f.times xs ys k == 0) = true := by simp [hz]
        have HZ := Lib.hid hz
        clear hz
        go_wp2
        go_ret
        exact ⟨ret_int (by rw [stepV, HA.out, HDU.out, HZ.out]; rfl), hg1.drewNR _⟩
      · have hzb : (durTo f.times xs ys k == 0) = false := by simp [hz]
        have HZ := Lib.hid hz
        clear hz
        go_wp2
        go_ret
        exact ⟨ret_int (by rw [stepV, HA.out, HDU.out, if_pos rfl, if_neg HZ.out]), hg1.drewNR _⟩
end
section
open Go.RowKit
set_option maxHeartbeats 2000000 in
theorem stated_any (ta ca la : Option Addr) (tn tc cn cc ln lc : Nat) (f : Fl) (L : List (List Int)) (w : World) (hf : FlAt w ta tn ca cn f) (hL : RowsAt w la ln L) :
    Calls Try.prog 68 #[.agg #[.slice ta tn tc, .slice ca cn cc], .slice la ln lc] w fun e w' => e = .returned (.int .i64 (statesE f L)) ∧ Gr w w' := by
  have htn := hf.t.lt
  have hln := hL.lt
  have HT := Lib.hid hf.t.len
  have HL := Lib.hid hL.len
  have hga := Gr.alloc w (.cells #[.slice ta tn tc, .slice ca cn cc] 25)
  have hcon := check2_any ta ca tn tc cn cc f _ (hf.gr hga)
  cases hchk : chkB f with
  | false =>
    rw [chkE_of_false hchk] at hcon
    have HCON := Lib.hid hcon
    clear hcon
    go_enter Try.func68, Try.ntmps68
    go_wp2_with (go_at_call 37; refine HCON.out.mono ?_; rintro e w' ⟨rfl, hg⟩)
    go_ret
    exact ⟨ret_int (statesE_bad hchk).symm, hga.trans (by assumption)⟩
  | true =>
    rw [chkE_of_true hchk] at hcon
    have HCON := Lib.hid hcon
    clear hcon
    have hc0 : (w.alloc (.cells #[.slice ta tn tc, .slice ca cn cc] 25)).cell? ⟨w.heap.size, 0, none⟩ = some (.slice ta tn tc) := by simp
    have hc1 : (w.alloc (.cells #[.slice ta tn tc, .slice ca cn cc] 25)).cell? ⟨w.heap.size, 1, none⟩ = some (.slice ca cn cc) := by simp
    have hsz : w.heap.size < (w.alloc (.cells #[.slice ta tn tc, .slice ca cn cc] 25)).heap.size := by simp
    have C0 := Lib.hid hc0
    have C1 := Lib.hid hc1
    have SZ := Lib.hid hsz
    clear hc0 hc1 hsz
    go_enter Try.func68, Try.ntmps68
    go_wp2_with (go_at_call 37; refine HCON.out.mono ?_; rintro e w1 ⟨rfl, hg1⟩)
    have hg1 : Gr (w.alloc (.cells #[.slice ta tn tc, .slice ca cn cc] 25)) w1 := by assumption
    have hc0 := (hg1.cell (p := ⟨w.heap.size, 0, none⟩) SZ.out).trans C0.out
    have hc1 := (hg1.cell (p := ⟨w.heap.size, 1, none⟩) SZ.out).trans C1.out
    have hs1 : w.heap.size < w1.heap.size := Nat.lt_of_lt_of_le SZ.out hg1.size
    have hw1 : Gr w w1 := hga.trans hg1
    clear hga hg1 C0 C1 SZ HCON
    go_loopw [6] (fun i wr => ∃ k : Nat, k ≤ ln ∧ i = .int .i64 k ∧ Gr w1 wr ∧ Hid (∀ j, j < k → stB f.times (L[j]?.getD []) = true)) (fun i _ => ln - (intOf i).toNat)
    case atStart => exact ⟨0, Nat.zero_le _, rfl, Gr.refl _, Lib.hid (by intros; omega)⟩
    case round =>
      obtain ⟨k, hk, rfl, hg, hall⟩ := hrel
      by_cases hlt : k < ln
      · obtain ⟨tt, ra, rn, rc, rfl, htb, htc, hri⟩ := (hL.gr (hw1.trans hg)).at hlt
        have h0 := (hg.cell (p := ⟨w.heap.size, 0, none⟩) hs1).trans hc0
        have h1 := (hg.cell (p := ⟨w.heap.size, 1, none⟩) hs1).trans hc1
        have hsr : w.heap.size < wr.heap.size := Nat.lt_of_lt_of_le hs1 hg.size
        have hsa : (tt.add k).block < wr.heap.size := by rw [add_block]; exact htb
        have hst := state_any ta ca ra tn tc cn cc rn rc f (L[k]?.getD []) wr.drew ((hf.gr (hw1.trans hg)).gr (Gr.drew _)) (hri.gr (Gr.drew _))
        cases hv : stB f.times (L[k]?.getD []) with
        | false =>
          rw [hv] at hst
          have HST := Lib.hid hst
          clear hst
          go_wp2
          go_region_held3 (fun w' => w'.cell? ⟨w.heap.size, 0, none⟩ = some (.slice ta tn tc) ∧ w'.cell? ⟨w.heap.size, 1, none⟩ = some (.slice ca cn cc) ∧ w'.cell? (tt.add k) = some (.slice ra rn rc)) (first | go_keep | exact ⟨by assumption, by assumption, by assumption⟩)
            (first | (go_at_call 67; refine HST.out.mono ?_; rintro e w' ⟨rfl, hg2⟩; have s0 := (hg2.cell (p := ⟨w.heap.size, 0, none⟩) hsr).trans h0; have s1 := (hg2.cell (p := ⟨w.heap.size, 1, none⟩) hsr).trans h1; have s2 := (hg2.cell (p := tt.add k) hsa).trans htc))
          go_wp2
          go_ret
          exact ⟨ret_int (statesE_one hchk (k := k) (by rw [HL.out]; exact hlt) hv).symm, (hw1.trans hg).trans ((Gr.drew _).trans (by assumption))⟩
        | true =>
          rw [hv] at hst
          have HST := Lib.hid hst
          clear hst
          go_wp2
          go_region_held3 (fun w' => w'.cell? ⟨w.heap.size, 0, none⟩ = some (.slice ta tn tc) ∧ w'.cell? ⟨w.heap.size, 1, none⟩ = some (.slice ca cn cc) ∧ w'.cell? (tt.add k) = some (.slice ra rn rc)) (first | go_keep | exact ⟨by assumption, by assumption, by assumption⟩)
            (first | (go_at_call 67; refine HST.out.mono ?_; rintro e w' ⟨rfl, hg2⟩; have s0 := (hg2.cell (p := ⟨w.heap.size, 0, none⟩) hsr).trans h0; have s1 := (hg2.cell (p := ⟨w.heap.size, 1, none⟩) hsr).trans h1; have s2 := (hg2.cell (p := tt.add k) hsa).trans htc))
          go_wp2
          go_roundw
          case rel => exact ⟨k + 1, by omega, by go_num, hg.trans ((Gr.drew _).trans (by assumption)), Lib.hid (fun j hj => by
            by_cases e : j = k
            · subst e; exact hv
            · exact hall.out j (by omega))⟩
          case measure => simp [intOf]; omega
      · obtain rfl : k = ln := by omega
        go_wp2
        go_ret
        exact ⟨ret_int (statesE_ok hchk (fun i hi => hall.out i (by rw [← HL.out]; exact hi))).symm, hw1.trans hg⟩

theorem rows2 {w : World} {B : Nat} {a b : Option Addr} {n c m d : Nat} {xs ys : List Int} (hB : B < w.heap.size) (h0 : w.cell? ⟨B, 0, none⟩ = some (.slice a n c)) (h1 : w.cell? ⟨B, 1, none⟩ = some (.slice b m d))
    (hx : Ints w a n xs) (hy : Ints w b m ys) : RowsAt w (some ⟨B, 0, none⟩) 2 [xs, ys] := by
  refine ⟨rfl, by omega, fun j hj => ?_⟩
  match j, hj with
  | 0, _ => exact ⟨_, a, n, c, rfl, hB, h0, hx⟩
  | 1, _ => exact ⟨_, b, m, d, rfl, hB, h1, hy⟩
theorem rows1 {w : World} {B : Nat} {a : Option Addr} {n c : Nat} {xs : List Int} (hB : B < w.heap.size) (h0 : w.cell? ⟨B, 0, none⟩ = some (.slice a n c)) 
    (hx : Ints w a n xs) : RowsAt w (some ⟨B, 0, none⟩) 1 [xs] := by
  refine ⟨rfl, by omega, fun j hj => ?_⟩
  match j, hj with
  | 0, _ => exact ⟨_, a, n, c, rfl, hB, h0, hx⟩

/-- the errors of two states that work, and a budget -/
def plannedE (f : Fl) (a b : List Int) (budget : Int) : Int := if beginE f budget [a, b] = 0 then (if worksB f a && worksB f b then 0 else 111) else beginE f budget [a, b]

theorem statesE_zero {f : Fl} {L : List (List Int)} (h : statesE f L = 0) : chkB f = true ∧ stsB f.times L = true := by
  unfold statesE at h
  split at h
  · split at h
    · exact ⟨by assumption, by assumption⟩
    · omega
  · omega
theorem stsB_two {T : List (List Int)} {a b : List Int} (h : stsB T [a, b] = true) : stB T a = true ∧ stB T b = true := by
  rw [stsB, List.all_eq_true] at h
  exact ⟨by simpa using h 0 (by simp), by simpa using h 1 (by simp)⟩

theorem clashI_of (f : Fl) (s : List Int) : (worksB f s = true → clashI f s < 0) ∧ (worksB f s = false → 0 ≤ clashI f s) := by
  unfold worksB; constructor
  · intro h; simpa using h
  · intro h; simpa using h

set_option maxHeartbeats 2000000 in
theorem planned_any (ta ca a b : Option Addr) (tn tc cn cc n c m d : Nat) (f : Fl) (xs ys : List Int) (budget : Int) (w : World) (hf : FlAt w ta tn ca cn f) (hx : Ints w a n xs) (hy : Ints w b m ys) :
    Calls Try.prog 52 #[.agg #[.slice ta tn tc, .slice ca cn cc], .slice a n c, .slice b m d, .int .i64 budget] w fun e w' => e = .returned (.int .i64 (plannedE f xs ys budget)) ∧ Gr w w' := by
  have hg2 : Gr w ((w.alloc (.cells #[.slice ta tn tc, .slice ca cn cc] 25)).alloc (.cells #[.slice a n c, .slice b m d] 26)) := (Gr.alloc _ _).allocR _
  have hrows : RowsAt ((w.alloc (.cells #[.slice ta tn tc, .slice ca cn cc] 25)).alloc (.cells #[.slice a n c, .slice b m d] 26)) (some ⟨w.heap.size + 1, 0, none⟩) 2 [xs, ys] :=
    rows2 (c := c) (d := d) (by simp) (by simp) (by simp) (hx.gr hg2) (hy.gr hg2)
  have hcon := Lib.hid (stated_any ta ca _ tn tc cn cc 2 2 f [xs, ys] _ (hf.gr hg2) hrows)
  have hc0 : ((w.alloc (.cells #[.slice ta tn tc, .slice ca cn cc] 25)).alloc (.cells #[.slice a n c, .slice b m d] 26)).cell? ⟨w.heap.size, 0, none⟩ = some (.slice ta tn tc) := by simp
  have hc1 : ((w.alloc (.cells #[.slice ta tn tc, .slice ca cn cc] 25)).alloc (.cells #[.slice a n c, .slice b m d] 26)).cell? ⟨w.heap.size, 1, none⟩ = some (.slice ca cn cc) := by simp
  have hsz : w.heap.size < ((w.alloc (.cells #[.slice ta tn tc, .slice ca cn cc] 25)).alloc (.cells #[.slice a n c, .slice b m d] 26)).heap.size := by simp; omega
  have C0 := Lib.hid hc0
  have C1 := Lib.hid hc1
  have SZ := Lib.hid hsz
  clear hc0 hc1 hsz hrows
  by_cases hz : statesE f [xs, ys] = 0
  · have hzb : (statesE f [xs, ys] != 0) = false := by simp [hz]
    obtain ⟨hchk, hsts⟩ := statesE_zero hz
    have hok := chkB_ok hchk
    have hsx := stB_ok (stsB_two hsts).1
    have hsy := stB_ok (stsB_two hsts).2
    have HZ := Lib.hid hz
    clear hz hchk hsts
    cases hb : withinB budget 0 1000000 with
    | false =>
      go_enter Try.func52, Try.ntmps52
      go_wp2_with (first | (go_at_call 68; refine hcon.out.mono ?_; rintro e w' ⟨rfl, hg⟩) | (go_at_call 63; refine (within2_any _ _ _ _).mono ?_; rintro e w' ⟨rfl, rfl⟩))
      go_ret
      exact ⟨ret_int (by simp [plannedE, beginE, HZ.out, hb]), hg2.trans (by assumption)⟩
    | true =>
      have hbz : beginE f budget [xs, ys] = 0 := by simp [beginE, HZ.out, hb]
      have HBZ := Lib.hid hbz
      clear hbz
      go_enter Try.func52, Try.ntmps52
      go_wp2_with (first | (go_at_call 68; refine hcon.out.mono ?_; rintro e w1 ⟨rfl, hg⟩; have g0 := (hg.cell (p := ⟨w.heap.size, 0, none⟩) SZ.out).trans C0.out; have g1 := (hg.cell (p := ⟨w.heap.size, 1, none⟩) SZ.out).trans C1.out; have gw := hg2.trans hg; have gs := Lib.hid (Nat.lt_of_lt_of_le SZ.out hg.size)) | (go_at_call 63; refine (within2_any _ _ _ _).mono ?_; rintro e w' ⟨rfl, rfl⟩))
      have h0 := clashI_of f xs
      have h1 := clashI_of f ys
      refine (clash2_any ta ca a tn tc cn cc n c f xs w1 (hf.gr gw) hok (hx.gr gw) hsx).mono ?_
      rintro e w2 ⟨rfl, hg3⟩
      have g0 := (hg3.cell (p := ⟨w.heap.size, 0, none⟩) gs.out).trans g0
      have g1 := (hg3.cell (p := ⟨w.heap.size, 1, none⟩) gs.out).trans g1
      have gw2 := gw.trans hg3
      cases hwx : worksB f xs with
      | false =>
        have h0 := h0.2 hwx
        go_wp2_with fail
        go_ret
        exact ⟨ret_int (by simp [plannedE, HBZ.out, hwx]), gw2⟩
      | true =>
        have h0 := h0.1 hwx
        go_wp2_with fail
        refine (clash2_any ta ca b tn tc cn cc m d f ys w2 (hf.gr gw2) hok (hy.gr gw2) hsy).mono ?_
        rintro e w3 ⟨rfl, hg4⟩
        cases hwy : worksB f ys with
        | false =>
          have h1 := h1.2 hwy
          go_wp2_with fail
          go_ret
          exact ⟨ret_int (by simp [plannedE, HBZ.out, hwx, hwy]), gw2.trans hg4⟩
        | true =>
          have h1 := h1.1 hwy
          go_wp2_with fail
          go_ret
          exact ⟨ret_int (by simp [plannedE, HBZ.out, hwx, hwy]), gw2.trans hg4⟩
  · have hzb : (statesE f [xs, ys] != 0) = true := by simp [hz]
    have HZ := Lib.hid hz
    clear hz
    go_enter Try.func52, Try.ntmps52
    go_wp2_with (first | (go_at_call 68; refine hcon.out.mono ?_; rintro e w' ⟨rfl, hg⟩) | (go_at_call 63; refine (within2_any _ _ _ _).mono ?_; rintro e w' ⟨rfl, rfl⟩))
    go_ret
    exact ⟨ret_int (by simp [plannedE, beginE, HZ.out]), hg2.trans (by assumption)⟩

/-- a step leads from one state to another one, within a budget -/
def stepsB (T : List (List Int)) (xs ys : List Int) (budget : Int) : Bool := aboveV ys xs && !decide (xs = ys) && decide (dur T xs ys ≤ budget)

theorem aboveV_le {xs ys : List Int} (h : aboveV ys xs = true) : ∀ c, c < ys.length → xs[c]?.getD 0 ≤ ys[c]?.getD 0 := by
  simpa only [aboveV, List.all_eq_true, List.mem_range, decide_eq_true_eq] using h

set_option maxHeartbeats 2000000 in
theorem steps_any (ta ca a b : Option Addr) (tn tc cn cc n c d : Nat) (f : Fl) (xs ys : List Int) (budget : Int) (w : World) (hf : FlAt w ta tn ca cn f) (hok : FlOk f)
    (hx : Ints w a n xs) (hy : Ints w b n ys) (hsx : StOk f xs) (hsy : StOk f ys) :
    Calls Try.prog 60 #[.agg #[.slice ta tn tc, .slice ca cn cc], .slice a n c, .slice b n d, .int .i64 budget] w fun e w' => e = .returned (.bool (stepsB f.times xs ys budget)) ∧ Gr w w' := by
  have hga := Gr.alloc w (.cells #[.slice ta tn tc, .slice ca cn cc] 25)
  have hab := Lib.hid (above_any b a n d n c ys xs _ (hy.gr hga) (hx.gr hga) (Nat.le_refl _))
  cases h1 : aboveV ys xs with
  | false =>
    go_enter Try.func60, Try.ntmps60
    go_wp2_with (go_at_call 55; refine hab.out.mono ?_; rintro e w' ⟨rfl, q, rfl⟩)
    go_ret
    exact ⟨ret_bool (by simp [stepsB, h1]), hga.drewNR _⟩
  | true =>
    have heq := fun q => Lib.hid (equal_any a b n c n d xs ys ((w.alloc (.cells #[.slice ta tn tc, .slice ca cn cc] 25)).drewN q) (hx.gr (hga.drewNR _)) (hy.gr (hga.drewNR _)))
    have HEQ := Lib.hid heq
    clear heq
    cases h2 : decide (xs = ys) with
    | true =>
      go_enter Try.func60, Try.ntmps60
      go_wp2_with (first | (go_at_call 55; refine hab.out.mono ?_; rintro e w' ⟨rfl, q, rfl⟩) | (go_at_call 50; refine (HEQ.out _).out.mono ?_; rintro e w' ⟨rfl, q2, rfl⟩))
      go_ret
      exact ⟨ret_bool (by rw [stepsB, h2]; simp), (hga.drewNR _)⟩
    | false =>
      have hdu := fun q => Lib.hid (duration_any ta ca a b tn tc cn cc n c d f xs ys ((w.alloc (.cells #[.slice ta tn tc, .slice ca cn cc] 25)).drewN q) (hf.gr (hga.drewNR _)) hok (hx.gr (hga.drewNR _)) (hy.gr (hga.drewNR _)) (fun c hc => (hsx.ver c hc).1) hsy (fun c hc => aboveV_le h1 c (by rw [hsy.len]; exact hc)))
      have HDU := Lib.hid hdu
      clear hdu
      go_enter Try.func60, Try.ntmps60
      go_wp2_with (first | (go_at_call 55; refine hab.out.mono ?_; rintro e w' ⟨rfl, q, rfl⟩) | (go_at_call 50; refine (HEQ.out _).out.mono ?_; rintro e w' ⟨rfl, q2, rfl⟩) | (go_at_call 58; refine (HDU.out _).out.mono ?_; rintro e w' ⟨rfl, hgd⟩))
      go_ret
      exact ⟨ret_bool (by rw [stepsB, h1, h2]; simp), (hga.drewNR _).trans (by assumption)⟩

/-- how many states there are, capped -/
def sizeTo (T : List (List Int)) : Nat → Int
  | 0 => 1
  | k + 1 => sizeTo T k * min (((T[k]?.getD []).length : Int) + 1) 4
def largeB (T : List (List Int)) : Bool := decide (200 < sizeTo T (min T.length 6))

theorem sizeTo_bd (T : List (List Int)) : ∀ k, k ≤ 6 → 1 ≤ sizeTo T k ∧ sizeTo T k ≤ 4096 := by
  have h : ∀ k, 1 ≤ sizeTo T k ∧ sizeTo T k ≤ 4 ^ k := by
    intro k
    induction k with
    | zero => simp [sizeTo]
    | succ k ih =>
      simp only [sizeTo]
      have h1 : (1 : Int) ≤ min (((T[k]?.getD []).length : Int) + 1) 4 := by omega
      have h2 : min (((T[k]?.getD []).length : Int) + 1) 4 ≤ 4 := by omega
      generalize min (((T[k]?.getD []).length : Int) + 1) 4 = m at *
      constructor
      · have := Int.mul_le_mul ih.1 h1 (by omega) (by omega); omega
      · have := Int.mul_le_mul ih.2 h2 (by omega) (by have := ih.1; omega)
        rw [Int.pow_succ]; exact this
  intro k hk
  have := h k
  have h3 : (4 : Int) ^ k ≤ 4096 := by
    match k, hk with
    | 0, _ => decide
    | 1, _ => decide
    | 2, _ => decide
    | 3, _ => decide
    | 4, _ => decide
    | 5, _ => decide
    | 6, _ => decide
  omega

set_option maxHeartbeats 2000000 in
theorem large_any (ta ca : Option Addr) (tn tc cn cc : Nat) (f : Fl) (w : World) (hf : FlAt w ta tn ca cn f) :
    Calls Try.prog 15 #[.agg #[.slice ta tn tc, .slice ca cn cc]] w fun e w' => e = .returned (.bool (largeB f.times)) ∧ Gr w w' := by
  have htn := hf.t.lt
  have HT := Lib.hid hf.t.len
  have HB := Lib.hid (sizeTo_bd f.times)
  go_enter Try.func15, Try.ntmps15
  go_wp2
  obtain ⟨w1, hw1⟩ : ∃ w1, w.alloc (.cells #[.slice ta tn tc, .slice ca cn cc] 25) = w1 := ⟨_, rfl⟩
  have hg1 : Gr w w1 := by rw [← hw1]; exact Gr.alloc _ _
  have hc0 : w1.cell? ⟨w.heap.size, 0, none⟩ = some (.slice ta tn tc) := by rw [← hw1]; simp
  rw [hw1]
  clear hw1
  go_loop [3, 4] (fun t i => ∃ k : Nat, k ≤ tn ∧ k ≤ 6 ∧ i = .int .i64 k ∧ t = .int .i64 (sizeTo f.times k)) (fun _ i => tn - (intOf i).toNat)
  case atStart => exact ⟨0, Nat.zero_le _, by omega, rfl, rfl⟩
  case round =>
    obtain ⟨k, hk, hk6, rfl, rfl⟩ := hrel
    by_cases hlt : k < tn
    · by_cases hl6 : (k : Int) < 6
      · obtain ⟨tt, ra, rn, rc, rfl, htb, htc, hri⟩ := (hf.t.gr hg1).at hlt
        have hrl := hri.lt
        have HR := Lib.hid hri.len
        have hb := HB.out (k + 1) (by omega)
        have hb0 := HB.out k (by omega)
        have hsn : sizeTo f.times (k + 1) = sizeTo f.times k * min ((rn : Int) + 1) 4 := by simp only [sizeTo, HR.out]
        have HS := Lib.hid hsn
        rw [hsn] at hb
        clear hsn
        have hif : (if (4 : Int) < (rn : Int) + 1 then (4 : Int) else (rn : Int) + 1) = min ((rn : Int) + 1) 4 := by split <;> omega
        have HIF := Lib.hid hif
        clear hif
        go_wp2
        go_round
        case rel => exact ⟨k + 1, by omega, by omega, by go_num, by rw [HS.out, HIF.out, IntWalk.wrap64_in _ (by omega)]⟩
        case measure => simp [intOf]; omega
      · go_wp2
        go_ret
        exact ⟨ret_bool (by have : min f.times.length 6 = k := by rw [HT.out]; omega
                            rw [largeB, this]), hg1⟩
    · go_wp2
      go_ret
      exact ⟨ret_bool (by have : min f.times.length 6 = k := by rw [HT.out]; omega
                          rw [largeB, this]), hg1⟩
end
section
open Go.RowKit

theorem Try.info3 : (Try.prog.info? 3).map (fun i => (i.zero, i.size, i.bytes)) = some (some (.int .i64 0), 1, 8) := by kernel_rfl

/-- a block of numbers -/
def Is3 (w : World) (b : Nat) : Prop := ∃ cur fr, w.heap[b]? = some (.cells cur 3 fr)

theorem ints_own {w : World} {base : Nat} {v : Value} {n : Nat} {xs : List Int} (hl : xs.length = n) (hn : n < 1152921504606846976) (h : w.ownsRow base 3 1 v n (xs.map (Value.int .i64))) (h0 : 0 < n) :
    ∃ g c, v = .slice (some ⟨g, 0, none⟩) n c ∧ base ≤ g ∧ n ≤ c ∧ Ints w (some ⟨g, 0, none⟩) n xs ∧ Is3 w g := by
  rcases h.2 with ⟨_, h1⟩ | ⟨g, cap, cur, rfl, hb, hg, hnc, _, _, _⟩
  · omega
  · refine ⟨g, cap, rfl, hb, hnc, ⟨hl, hn, fun j hj => ⟨_, rfl, (Array.getElem?_eq_some_iff.1 hg).1, ?_⟩⟩, _, _, hg⟩
    have := h.cells (g := g) rfl j (.int .i64 (xs[j]?.getD 0)) (by simp [hl, hj])
    exact this

theorem Ints.cells {w : World} {ad : Addr} {n : Nat} {xs : List Int} (h : Ints w (some ad) n xs) : ∀ j u, (xs.map (Value.int .i64))[j]? = some u → w.cell? (ad.add j) = some u := by
  intro j u hu
  have hj : j < n := by
    have := (List.getElem?_eq_some_iff.1 hu).1
    rw [List.length_map, h.len] at this; exact this
  obtain ⟨ad', e, _, hc⟩ := h.at hj
  injection e with e
  subst e
  rw [hc]
  rw [List.getElem?_map] at hu
  cases hx : xs[j]? with
  | none => rw [hx] at hu; simp at hu
  | some x => rw [hx] at hu; simpa using hu

theorem ints_one (xs : List Int) : ∀ u ∈ xs.map (Value.int .i64), u.oneCell' = true := by
  intro u hu
  simp only [List.mem_map] at hu
  obtain ⟨x, _, rfl⟩ := hu
  rfl

/-- a new slice that holds xs -/
def NewInts (w : World) (xs : List Int) (e : Ending) (w' : World) : Prop := ∃ g c, e = .returned (.slice (some ⟨g, 0, none⟩) xs.length c) ∧ w.heap.size ≤ g ∧ Ints w' (some ⟨g, 0, none⟩) xs.length xs ∧ Gr w w' ∧ Is3 w' g

set_option maxHeartbeats 1000000 in
theorem clone_any (a : Option Addr) (n c : Nat) (xs : List Int) (w : World) (hx : Ints w a n xs) (h0 : 0 < n) (hn : n ≤ 1000000) : Calls Try.prog 51 #[.slice a n c] w (NewInts w xs) := by
  obtain ⟨ad, rfl, hab, _⟩ := hx.at h0
  obtain ⟨i0, hi, hz0, hz1, hz2⟩ := info_parts Try.info3
  have hnil := fun w a n c => Lib.run_eql_slice_nil (P := Try.prog) w 26 3 a n c 0 0 Try.underlying26
  have hg := Gr.alloc w (.cells #[] 3)
  have hxg := hx.gr hg
  have hown : (w.alloc (.cells #[] 3)).ownsRow w.heap.size 3 1 (.slice (some ⟨w.heap.size, 0, none⟩) 0 0) 0 [] := ⟨rfl, .inr ⟨w.heap.size, 0, #[], rfl, Nat.le_refl _, heap_alloc_new w _, Nat.le_refl _, by unfold maxLen; omega, rfl, rfl⟩⟩
  have HOWN := Lib.hid hown
  clear hown
  go_enter Try.func51, Try.ntmps51
  go_wp2_with (at_builtin; refine wpList_append_own _ rfl _ _ 26 rfl w.heap.size 3 i0 (.int .i64 0) 1 8 Try.underlying26 hi hz0 hz1 hz2 rfl (by decide) _ _ _ rfl HOWN.out ad n c (xs.map (Value.int .i64)) rfl (by rw [List.length_map, hx.len, Nat.mul_one]) hxg.cells (ints_one xs) (by unfold maxLen; omega) (by omega) (by simp) ?_; intro v' w1 hown' hgrow _)
  have hown2 : w1.ownsRow w.heap.size 3 1 v' n (xs.map (Value.int .i64)) := by simpa using hown'
  obtain ⟨g, c', rfl, hge, _, hint, his3⟩ := ints_own hx.len (by omega) hown2 h0
  go_wp2
  go_ret
  have hgr : Gr w w1 := Below.grown hg hgrow (Gr.size hg) (fun k hk => by cases hk; exact Nat.le_refl _)
  rw [← hx.len] at hint ⊢
  exact ⟨g, c', rfl, hge, hint, hgr, his3⟩
end
section
open Go.RowKit

/-- Only blocks of S (and new ones) have turned. -/
structure Only (S : Nat → Prop) (w w' : World) : Prop where
  os : w'.os = w.os
  tape : w'.tape = w.tape
  output : w'.output = w.output
  size : w.heap.size ≤ w'.heap.size
  block : ∀ b, b < w.heap.size → ¬ S b → w'.heap[b]? = w.heap[b]?

theorem Only.refl (S : Nat → Prop) (w : World) : Only S w w := ⟨rfl, rfl, rfl, Nat.le_refl _, fun _ _ _ => rfl⟩
theorem Only.trans {S : Nat → Prop} {a b c : World} (h : Only S a b) (k : Only S b c) : Only S a c :=
  ⟨k.os.trans h.os, k.tape.trans h.tape, k.output.trans h.output, Nat.le_trans h.size k.size, fun i hi hs => (k.block i (Nat.lt_of_lt_of_le hi h.size) hs).trans (h.block i hi hs)⟩
theorem Only.mono {S S' : Nat → Prop} {a b : World} (h : Only S a b) (hs : ∀ i, i < a.heap.size → S i → S' i) : Only S' a b :=
  ⟨h.os, h.tape, h.output, h.size, fun i hi hn => h.block i hi (fun hS => hn (hs i hi hS))⟩
theorem Gr.only {a b : World} (h : Gr a b) (S : Nat → Prop) : Only S a b := ⟨Below.os h, Below.tape h, Below.output h, Below.size h, fun i hi _ => Below.block h i hi⟩
theorem Only.gr {S : Nat → Prop} {a b : World} (h : Only S a b) (hs : ∀ i, i < a.heap.size → ¬ S i) : Gr a b := ⟨h.os, h.tape, h.output, h.size, fun i hi => h.block i hi (hs i hi)⟩
theorem Only.setCell {S : Nat → Prop} {a b : World} (h : Only S a b) {p : Addr} (hp : S p.block ∨ a.heap.size ≤ p.block) (u : Value) : Only S a (b.setCell p u) :=
  ⟨h.os, h.tape, h.output, by simpa [World.setCell] using h.size, fun i hi hn => (Below.heap_setCell b p u i (by
    rintro rfl
    rcases hp with hp | hp
    · exact hn hp
    · omega)).trans (h.block i hi hn)⟩
theorem Only.putObj {S : Nat → Prop} {a b : World} (h : Only S a b) {r : Nat} (hp : S r ∨ a.heap.size ≤ r) (o : Obj) : Only S a (b.putObj r o) :=
  ⟨h.os, h.tape, h.output, by simpa using h.size, fun i hi hn => (World.putObj_heap_other (by
    rintro rfl
    rcases hp with hp | hp
    · exact hn hp
    · omega)).trans (h.block i hi hn)⟩
theorem Only.thenGr {S : Nat → Prop} {a b c : World} (h : Only S a b) (k : Gr b c) : Only S a c := h.trans (k.only S)

/-- no block of S is a row of cells -/
def NoCells (S : Nat → Prop) (w : World) : Prop := ∀ b cs t fr, S b → w.heap[b]? ≠ some (.cells cs t fr)

theorem cell_block {w : World} {p : Addr} {v : Value} (h : w.cell? p = some v) : ∃ cs t fr, w.heap[p.block]? = some (.cells cs t fr) := by
  unfold World.cell? at h
  cases hb : w.heap[p.block]? with
  | none => rw [hb] at h; simp at h
  | some o => cases o <;> first | (rw [hb] at h; simp at h; done) | exact ⟨_, _, _, rfl⟩

theorem Only.cell {S : Nat → Prop} {a b : World} (h : Only S a b) {p : Addr} {v : Value} (hc : a.cell? p = some v) (hs : ¬ S p.block) : b.cell? p = some v := by
  obtain ⟨cs, t, fr, hb⟩ := cell_block hc
  have hlt : p.block < a.heap.size := (Array.getElem?_eq_some_iff.1 hb).1
  rw [World.cell?_of_block (w := a) (h.block p.block hlt hs)]; exact hc
theorem Only.cellN {S : Nat → Prop} {a b : World} (h : Only S a b) (hn : NoCells S a) {p : Addr} {v : Value} (hc : a.cell? p = some v) : b.cell? p = some v := by
  obtain ⟨cs, t, fr, hb⟩ := cell_block hc
  exact h.cell hc (fun hs => hn _ _ _ _ hs hb)

theorem Ints.only {S : Nat → Prop} {w w' : World} {a : Option Addr} {n : Nat} {xs : List Int} (h : Ints w a n xs) (g : Only S w w') (hn : NoCells S w) : Ints w' a n xs :=
  ⟨h.1, h.2.1, fun j hj => by
    obtain ⟨ad, e, hb, hc⟩ := h.2.2 j hj
    exact ⟨ad, e, Nat.lt_of_lt_of_le hb g.size, g.cellN hn hc⟩⟩
theorem Ints.onlyAt {S : Nat → Prop} {w w' : World} {a : Option Addr} {n : Nat} {xs : List Int} (h : Ints w a n xs) (g : Only S w w') (hn : ∀ ad, a = some ad → ¬ S ad.block) : Ints w' a n xs :=
  ⟨h.1, h.2.1, fun j hj => by
    obtain ⟨ad, e, hb, hc⟩ := h.2.2 j hj
    exact ⟨ad, e, Nat.lt_of_lt_of_le hb g.size, g.cell hc (by rw [add_block]; exact hn ad e)⟩⟩
theorem RowsAt.only {S : Nat → Prop} {w w' : World} {a : Option Addr} {n : Nat} {L : List (List Int)} (h : RowsAt w a n L) (g : Only S w w') (hn : NoCells S w) : RowsAt w' a n L :=
  ⟨h.1, h.2.1, fun j hj => by
    obtain ⟨ad, a', n', c', e, hb, hc, hi⟩ := h.2.2 j hj
    exact ⟨ad, a', n', c', e, Nat.lt_of_lt_of_le hb g.size, g.cellN hn hc, hi.only g hn⟩⟩
theorem ClAt.only {S : Nat → Prop} {w w' : World} {a : Option Addr} {n : Nat} {C : List Cl} (h : ClAt w a n C) (g : Only S w w') (hn : NoCells S w) : ClAt w' a n C :=
  ⟨h.1, h.2.1, fun j hj => by
    obtain ⟨ad, e, hb, h0, h1, h2, h3⟩ := h.2.2 j hj
    exact ⟨ad, e, Nat.lt_of_lt_of_le hb g.size, g.cellN hn h0, g.cellN hn h1, g.cellN hn h2, g.cellN hn h3⟩⟩
theorem FlAt.only {S : Nat → Prop} {w w' : World} {ta : Option Addr} {tn : Nat} {ca : Option Addr} {cn : Nat} {f : Fl} (h : FlAt w ta tn ca cn f) (g : Only S w w') (hn : NoCells S w) : FlAt w' ta tn ca cn f :=
  ⟨h.t.only g hn, h.c.only g hn⟩

/-- how the body of a round may be left -/
def roundQ {α : Type} (Y : Nat → Prop) (I : List α → World → Prop) (Ix : Code → World → Prop) (xs : List α) (W : World) : Exit → Act → World → Prop
  | .normal, _, W' => Only Y W W' ∧ I xs W'
  | .ret, _, W' => Only Y W W' ∧ Ix .ret W'
  | .exit id, _, W' => Only Y W W' ∧ Ix (.exit id) W'
  | _, _, _ => False

/-- what holds between two rounds: the caller's word, and the loop's own two blocks -/
def Between {α : Type} (D : Nat) (L : Loop) (I : List α → World → Prop) (xs : List α) (W : World) : Prop :=
  I xs W ∧ W.heap[D + 1]? = some (.loop L) ∧ W.heap[D]? = some (.deferred (some []))
/-- what holds when a round has left the loop -/
def Left (D : Nat) (L : Loop) (Ix : Code → World → Prop) (W : World) : Prop :=
  ∃ c, Ix c W ∧ W.heap[D + 1]? = some (.loop { L with state := .done, pending := some c }) ∧ W.heap[D]? = some (.deferred (some []))

/-- **A RANGE OVER A FUNCTION.** D: the heap's size where the loop begins. -/
theorem range_rule {P : Program} {α : Type} {g : Operand} {ps : Array Tmp} {assign body : Code} {Q : Exit → Act → World → Prop} {a : Act} {w : World} {gf : Nat} {lb : Array Value}
    (hg : a.eval g = .func (.func gf) #[] lb) (eg : ∀ args w, (callFunc gf args).run P w = .ok (.enter gf args) w)
    (I : List α → World → Prop) (Ix : Code → World → Prop) (Y : Nat → Prop) (E : α → Array Value → World → Prop) (S : List α → Prop) (a₁ : Array Value → Act)
    (hY0 : ¬ Y w.heap.size) (hY1 : ¬ Y (w.heap.size + 1))
    (hI : ∀ xs W o, I xs W → I xs (W.putObj (w.heap.size + 1) (.loop o))) (hIx : ∀ c W o, Ix c W → Ix c (W.putObj (w.heap.size + 1) (.loop o)))
    (hEs : ∀ x args W, E x args W → args.size = ps.size) (hEp : ∀ x args W o, E x args W → E x args (W.putObj (w.heap.size + 1) (.loop o)))
    (h0 : I [] w) (hIa : ∀ xs W o, I xs W → I xs (W.alloc o))
    (hassign : ∀ (l : Nat) (x : α) (args : Array Value) (W : World) (K : Act → World → Prop), E x args W → K (a₁ args) W →
      assign.wpIn (Fence.wide.inRound l) 0 P (Exit.then K (fun _ _ _ => False)) { tmps := (ps.zip args).foldl (fun t (p, v) => t.setIfInBounds p v) a.tmps, defers := [] } W)
    (hbody : ∀ (pre : List α) (x : α) (args : Array Value) (W : World), I pre W → E x args W → w.heap.size + 1 < W.heap.size → body.wpIn (Fence.wide.inRound (w.heap.size + 1)) 0 P (roundQ Y I Ix (pre ++ [x]) W) (a₁ args) W)
    (hiter : ∀ (L : Loop), L.state = .ready → L.pending = none →
      (∀ pre x args W, Between w.heap.size L I pre W → E x args W → YieldAt Fence.wide 0 P (w.heap.size + 1) args W fun e W' =>
        (e = .returned (.bool true) ∧ Between w.heap.size L I (pre ++ [x]) W' ∧ Only Y W W') ∨ (e = .returned (.bool false) ∧ Left w.heap.size L Ix W')) →
      Between w.heap.size L I [] ((w.alloc (.deferred (some []))).alloc (.loop L)) →
      CallsIn Fence.wide 0 P gf (#[.func (.yield (w.heap.size + 1)) #[] #[]] ++ lb) ((w.alloc (.deferred (some []))).alloc (.loop L)) fun e W' =>
        (∃ v, e = .returned v) ∧ ((∃ xs, S xs ∧ Between w.heap.size L I xs W') ∨ Left w.heap.size L Ix W'))
    (hdone : ∀ (xs : List α) (W : World), S xs → I xs W → W.heap[w.heap.size]? = some (.deferred (some [])) → Q .normal { a with defers := { target := .collected w.heap.size, args := #[] } :: a.defers } W)
    (hstop : ∀ (c : Code) (W : World), Ix c W → W.heap[w.heap.size]? = some (.deferred (some [])) → c.wpIn Fence.wide 0 P Q { a with defers := { target := .collected w.heap.size, args := #[] } :: a.defers } W) :
    (Code.rangeFunc g ps assign body).wp P Q a w := by
  refine (wpIn_wide (n := 0)).1 ?_
  refine wpIn_rangeFunc ?_
  intro fn hfn
  obtain ⟨L, hL⟩ : ∃ L : Loop, L = { state := .ready, pending := none, fn, tmps := a.tmps, params := ps, assign, body, defers := w.heap.size } := ⟨_, rfl⟩
  obtain ⟨W1, hW1⟩ : ∃ W1, (w.alloc (.deferred (some []))).alloc (.loop L) = W1 := ⟨_, rfl⟩
  have hL1 : W1.heap[w.heap.size + 1]? = some (.loop L) := by
    rw [← hW1]; have := World.alloc_heap_new (w.alloc (.deferred (some []))) (.loop L); rwa [World.size_alloc] at this
  have hK1 : W1.heap[w.heap.size]? = some (.deferred (some [])) := by
    rw [← hW1]; exact (Below.heap_alloc _ _ _ (by simp)).trans (World.alloc_heap_new w _)
  have hI1 : I [] W1 := by rw [← hW1]; exact hIa _ _ _ (hIa _ _ _ h0)
  refine ⟨w.heap.size + 1, [{ target := .collected w.heap.size, args := #[] }], W1, { target := .fn (.func gf) lb, args := #[.func (.yield (w.heap.size + 1)) #[] #[]] }, W1, gf,
    #[.func (.yield (w.heap.size + 1)) #[] #[]] ++ lb, W1, ?_, ?_, fun _ _ => trivial, ?_, fun h => by simp [Fence.wide] at h, ?_⟩
  · rw [← hW1, hL]; exact run_enterLoop_outer _ _ _ _ _
  · simp only [resolve, hg]
    simp [go_sem]
  · simp [invoke, go_sem, eg]
  · have hit := hiter L (by rw [hL]) (by rw [hL])
    rw [hW1] at hit
    refine (hit ?_ ⟨hI1, hL1, hK1⟩).mono ?_
    · rintro pre x args W ⟨hi, hl, hk⟩ hE
      have hlt : w.heap.size + 1 < W.heap.size := (Array.getElem?_eq_some_iff.1 hl).1
      have hy := run_yield (P := P) (args := args) hl (by rw [hL]; exact hEs x args W hE)
      rw [hL] at hy
      refine ⟨fn, _, assign, body, hy, roundIn_of_wpIn (F := Fence.wide) trivial (hassign _ x args W _ hE ⟨_, run_beginRound hl (by rw [hL]), ?_⟩)⟩
      have hl2 : (W.putObj (w.heap.size + 1) (.loop { L with state := .busy })).heap[w.heap.size + 1]? = some (.loop { L with state := .busy }) := World.putObj_heap_same hlt
      have hk2 : (W.putObj (w.heap.size + 1) (.loop { L with state := .busy })).heap[w.heap.size]? = some (.deferred (some [])) := (World.putObj_heap_other (by omega)).trans hk
      have hsz2 : (W.putObj (w.heap.size + 1) (.loop { L with state := .busy })).heap.size = W.heap.size := by simp
      refine wpIn_mono (hbody pre x args _ (hI _ _ _ hi) (hEp _ _ _ _ hE) (by rw [hsz2]; exact hlt)) ?_
      have hrest : ∀ (W3 : World) (o : Loop), Only Y (W.putObj (w.heap.size + 1) (.loop { L with state := .busy })) W3 → (W3.putObj (w.heap.size + 1) (.loop o)).heap[w.heap.size]? = some (.deferred (some [])) := fun W3 o ho =>
        (World.putObj_heap_other (by omega)).trans ((ho.block _ (by rw [hsz2]; omega) hY0).trans hk2)
      have hl3 : ∀ (W3 : World), Only Y (W.putObj (w.heap.size + 1) (.loop { L with state := .busy })) W3 → W3.heap[w.heap.size + 1]? = some (.loop { L with state := .busy }) := fun W3 ho =>
        (ho.block _ (by rw [hsz2]; omega) hY1).trans hl2
      rintro e a3 W3 hp
      cases e with
      | normal =>
        obtain ⟨ho, hi3⟩ := hp
        have hl4 := hl3 W3 ho
        have hlt4 : w.heap.size + 1 < W3.heap.size := (Array.getElem?_eq_some_iff.1 hl4).1
        have hrun := run_endRound (P := P) none hl4
        have hLL : ({ ({ L with state := .busy } : Loop) with state := if (none : Option Code).isNone then .ready else .done, pending := none } : Loop) = L := by rw [hL]; rfl
        rw [hLL] at hrun
        refine ⟨_, _, hrun, .inl ⟨rfl, ⟨hI _ _ _ hi3, World.putObj_heap_same hlt4, hrest W3 L ho⟩, ?_⟩⟩
        refine ⟨ho.os, ho.tape, ho.output, by have := ho.size; simp at this ⊢; exact this, fun b hb hn => ?_⟩
        by_cases e : b = w.heap.size + 1
        · subst e; rw [World.putObj_heap_same hlt4, hl]
        · rw [World.putObj_heap_other e, ho.block b (by rw [hsz2]; exact hb) hn, World.putObj_heap_other e]
      | ret =>
        obtain ⟨ho, hi3⟩ := hp
        have hl4 := hl3 W3 ho
        have hlt4 : w.heap.size + 1 < W3.heap.size := (Array.getElem?_eq_some_iff.1 hl4).1
        have hrun := run_endRound (P := P) (some .ret) hl4
        exact ⟨_, _, hrun, .inr ⟨rfl, .ret, hIx _ _ _ hi3, World.putObj_heap_same hlt4, hrest W3 _ ho⟩⟩
      | exit id =>
        obtain ⟨ho, hi3⟩ := hp
        have hl4 := hl3 W3 ho
        have hlt4 : w.heap.size + 1 < W3.heap.size := (Array.getElem?_eq_some_iff.1 hl4).1
        have hrun := run_endRound (P := P) (some (.exit id)) hl4
        exact ⟨_, _, hrun, .inr ⟨rfl, .exit id, hIx _ _ _ hi3, World.putObj_heap_same hlt4, hrest W3 _ ho⟩⟩
      | goto t => exact hp.elim
      | panic ch => exact hp.elim
      | outgrown => exact hp.elim
    · rintro e W2 ⟨⟨v, rfl⟩, (⟨xs, hS, hi, hl, hk⟩ | ⟨c, hi, hl, hk⟩)⟩
      · refine ⟨L.pending, _, run_endLoop (P := P) hl (by rw [hL]; simp), ?_⟩
        have : L.pending = none := by rw [hL]
        rw [this]
        exact hdone xs _ hS (hI _ _ _ hi) ((World.putObj_heap_other (by omega)).trans hk)
      · refine ⟨some c, _, run_endLoop (P := P) hl (by simp), ?_⟩
        exact hstop c _ (hIx _ _ _ hi) ((World.putObj_heap_other (by omega)).trans hk)

theorem run_yield_op {P : Program} {o : Oper} {a : Act} {W : World} {l fn : Nat} {tmps : Array Value} {assign body : Code} {f x : Operand} {ts : Array TypeId} {v : Value} {ro : Option Nat}
    (ho : o.op = .call { callee := .value f, args := #[x], argTypes := ts }) (hf : a.eval f = .func (.yield l) #[] #[]) (hx : a.eval x = v) (hy : (Instr.yield l #[v]).run P W = .ok (.round l fn tmps assign body) W) :
    (o.semAt ro a.eval).run P W = .ok (.round l fn tmps assign body) W := by
  rw [Oper.semAt_eq _ _ _ (by rw [ho]; intro c h; cases h)]
  unfold execOp
  simp only [ho, resolve, hf, hx, Deferred.ofValue, List.map_toArray, List.map_cons, List.map_nil]
  simp [invoke, hy, go_sem]

/-- a call of yield as an operation -/
theorem op_yield {P : Program} {o : Oper} {a : Act} {W : World} {l : Nat} {f x : Operand} {ts : Array TypeId} {v : Value} {ro : Option Nat} {n : Nat} {K : Act → World → Prop} {Q : Exit → Act → World → Prop} {Rr : Ending → World → Prop}
    (ho : o.op = .call { callee := .value f, args := #[x], argTypes := ts }) (hf : a.eval f = .func (.yield l) #[] #[]) (hx : a.eval x = v) (hy : YieldAt Fence.wide 0 P l #[v] W Rr)
    (hr : ∀ e W', Rr e W' → ∃ v', e = .returned v') (hK : ∀ v' W', Rr (.returned v') W' → K (a.put o.dst v') W') : o.wpIn { Fence.wide with round := ro } n P a W K Q := by
  obtain ⟨fn, tmps, assign, body, hy, hR⟩ := hy
  refine ⟨fun _ _ => trivial, ?_⟩
  show Oper.uponIn _ _ _ _ _ _ _ ((o.semAt ro a.eval).run P W)
  rw [run_yield_op ho hf hx hy, Oper.uponIn_round]
  refine ⟨fun h => by simp [Fence.wide] at h, trivial, fun c cs _ => ?_⟩
  obtain ⟨e, w', hRe, hs⟩ := hR.2 c cs (room_wide _)
  obtain ⟨v', rfl⟩ := hr e w' hRe
  exact ⟨.returned v', w', hK v' w' hRe, hs⟩
end
end Go.Proofs.Ytlilojpnhmfnaaa
