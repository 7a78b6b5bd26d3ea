/- Contracts: accept and Accept, the program's and the reference's. -/
import Derived.Test.YtlilojpnhmfnaaaTagR
namespace Go.Proofs.Ytlilojpnhmfnaaa
open Go.RowKit

def acceptE (f : Fl) (s c v : Int) (data : ByteArray) (tg : Int) : Int := if tagE s c v data = 0 then (if verB f.times c v then (if tagR s c v data = tg then 0 else 113) else 1) else tagE s c v data
def AcceptE (f : Fl) (s c v : Int) (data : ByteArray) (tg : Int) : Int := if chkE f = 0 then acceptE f s c v data tg else chkE f

/-- the boxes of a fleet and a packet -/
structure PkB (w w2 : World) (va vb p0 p1 p2 p3 : Value) : Prop where
  gr : Gr w w2
  c0 : w2.cell? ⟨w.heap.size, 0, none⟩ = some va
  c1 : w2.cell? ⟨w.heap.size, 1, none⟩ = some vb
  d0 : w2.cell? ⟨w.heap.size + 1, 0, none⟩ = some p0
  d1 : w2.cell? ⟨w.heap.size + 1, 1, none⟩ = some p1
  d2 : w2.cell? ⟨w.heap.size + 1, 2, none⟩ = some p2
  d3 : w2.cell? ⟨w.heap.size + 1, 3, none⟩ = some p3
theorem pkB (w : World) (va vb p0 p1 p2 p3 : Value) : PkB w ((w.alloc (.cells #[va, vb] 25)).alloc (.cells #[p0, p1, p2, p3] 46)) va vb p0 p1 p2 p3 := by
  have s1 : (w.alloc (.cells #[va, vb] 25)).heap.size = w.heap.size + 1 := by simp
  have g := Gr.alloc (w.alloc (.cells #[va, vb] 25)) (.cells #[p0, p1, p2, p3] 46)
  refine ⟨(Gr.alloc _ _).allocR _, (g.cell (by simp)).trans (cell_new rfl), (g.cell (by simp)).trans (cell_new rfl), ?_, ?_, ?_, ?_⟩ <;> (rw [← s1]; exact cell_new rfl)
theorem PkB.then {w w2 w' : World} {va vb p0 p1 p2 p3 : Value} (h : PkB w w2 va vb p0 p1 p2 p3) (g : Gr w2 w') : PkB w w' va vb p0 p1 p2 p3 :=
  ⟨h.gr.trans g, (g.cell (lt_cell h.c0)).trans h.c0, (g.cell (lt_cell h.c1)).trans h.c1, (g.cell (lt_cell h.d0)).trans h.d0, (g.cell (lt_cell h.d1)).trans h.d1, (g.cell (lt_cell h.d2)).trans h.d2, (g.cell (lt_cell h.d3)).trans h.d3⟩
-- PRINTED

set_option maxHeartbeats 1000000 in
theorem accept_any (ta ca : Option Addr) (tn tc cn cc : Nat) (f : Fl) (s c v tg : Int) (data : ByteArray) (w : World) (hf : FlAt w ta tn ca cn f) (hd : data.size < 1152921504606846976) :
    Calls Try.prog 65 #[.agg #[.slice ta tn tc, .slice ca cn cc], .int .i64 s, .agg #[.int .i64 c, .int .i64 v, .string data, .int .i64 tg]] w fun e w' => e = .returned (.int .i64 (acceptE f s c v data tg)) ∧ Gr w w' := by
  have hB := pkB w (.slice ta tn tc) (.slice ca cn cc) (.int .i64 c) (.int .i64 v) (.string data) (.int .i64 tg)
  obtain ⟨w2, hw2⟩ : ∃ w2, (w.alloc (.cells #[.slice ta tn tc, .slice ca cn cc] 25)).alloc (.cells #[.int .i64 c, .int .i64 v, .string data, .int .i64 tg] 46) = w2 := ⟨_, rfl⟩
  rw [hw2] at hB
  have d0 := hB.d0
  have d1 := hB.d1
  have d2 := hB.d2
  have d3 := hB.d3
  have HT := Lib.hid (Tag_any s c v tg data w2 hd)
  by_cases he : tagE s c v data = 0
  · have heb : (tagE s c v data != 0) = false := by simp [he]
    have HA : Hid (acceptE f s c v data tg = if verB f.times c v then (if tagR s c v data = tg then 0 else 113) else 1) := Lib.hid (by unfold acceptE; rw [if_pos he])
    clear he
    go_enter Try.func65, Try.ntmps65
    go_wp2_with fail
    refine HT.out.mono ?_
    rintro e w3 ⟨rfl, g3⟩
    have hB3 := hB.then g3
    clear hw2 hB HT g3 d0 d1 d2 d3
    have c0 := hB3.c0
    have c1 := hB3.c1
    have d0 := hB3.d0
    have d1 := hB3.d1
    have HV := Lib.hid (version_any ta ca tn tc cn cc f c v w3 (hf.gr hB3.gr))
    go_wp2_with fail
    refine HV.out.mono ?_
    rintro e w4 ⟨rfl, g4⟩
    have hB4 := hB3.then g4
    clear HV hB3 g4 c0 c1 d0 d1
    have d3 := hB4.d3
    cases hv : verB f.times c v with
    | false =>
      have HP : Hid (acceptE f s c v data tg = 1) := Lib.hid (by rw [HA.out, hv]; rfl)
      go_wp2_with fail
      go_ret
      exact ⟨by rw [HP.out]; rfl, hB4.gr⟩
    | true =>
      by_cases ht : tagR s c v data = tg
      · have htb : (tg != tagR s c v data) = false := by simp [ht]
        have HP : Hid (acceptE f s c v data tg = 0) := Lib.hid (by rw [HA.out, hv, if_pos rfl, if_pos ht])
        clear ht
        go_wp2_with fail
        go_ret
        exact ⟨by rw [HP.out]; rfl, hB4.gr⟩
      · have htb : (tg != tagR s c v data) = true := by simp; omega
        have HP : Hid (acceptE f s c v data tg = 113) := Lib.hid (by rw [HA.out, hv, if_pos rfl, if_neg ht])
        clear ht
        go_wp2_with fail
        go_ret
        exact ⟨by rw [HP.out]; rfl, hB4.gr⟩
  · have heb : (tagE s c v data != 0) = true := by simp [he]
    have HP : Hid (acceptE f s c v data tg = tagE s c v data) := Lib.hid (by unfold acceptE; rw [if_neg he])
    clear he
    go_enter Try.func65, Try.ntmps65
    go_wp2_with fail
    refine HT.out.mono ?_
    rintro e w3 ⟨rfl, g3⟩
    go_wp2_with fail
    go_ret
    exact ⟨by rw [HP.out]; rfl, hB.gr.trans g3⟩

set_option maxHeartbeats 1000000 in
theorem accept2_any (ta ca : Option Addr) (tn tc cn cc : Nat) (f : Fl) (s c v tg : Int) (data : ByteArray) (w : World) (hf : FlAt w ta tn ca cn f) (hd : data.size < 1152921504606846976) :
    Calls Try.prog 66 #[.agg #[.slice ta tn tc, .slice ca cn cc], .int .i64 s, .agg #[.int .i64 c, .int .i64 v, .string data, .int .i64 tg]] w fun e w' => e = .returned (.int .i64 (acceptE f s c v data tg)) ∧ Gr w w' := by
  have hB := pkB w (.slice ta tn tc) (.slice ca cn cc) (.int .i64 c) (.int .i64 v) (.string data) (.int .i64 tg)
  obtain ⟨w2, hw2⟩ : ∃ w2, (w.alloc (.cells #[.slice ta tn tc, .slice ca cn cc] 25)).alloc (.cells #[.int .i64 c, .int .i64 v, .string data, .int .i64 tg] 46) = w2 := ⟨_, rfl⟩
  rw [hw2] at hB
  have d0 := hB.d0
  have d1 := hB.d1
  have d2 := hB.d2
  have d3 := hB.d3
  have HT := Lib.hid (TagR_any s c v tg data w2 hd)
  by_cases he : tagE s c v data = 0
  · have heb : (tagE s c v data != 0) = false := by simp [he]
    have HA : Hid (acceptE f s c v data tg = if verB f.times c v then (if tagR s c v data = tg then 0 else 113) else 1) := Lib.hid (by unfold acceptE; rw [if_pos he])
    clear he
    go_enter Try.func66, Try.ntmps66
    go_wp2_with fail
    refine HT.out.mono ?_
    rintro e w3 ⟨rfl, g3⟩
    have hB3 := hB.then g3
    clear hw2 hB HT g3 d0 d1 d2 d3
    have c0 := hB3.c0
    have c1 := hB3.c1
    have d0 := hB3.d0
    have d1 := hB3.d1
    have HV := Lib.hid (version2_any ta ca tn tc cn cc f c v w3 (hf.gr hB3.gr))
    go_wp2_with fail
    refine HV.out.mono ?_
    rintro e w4 ⟨rfl, g4⟩
    have hB4 := hB3.then g4
    clear HV hB3 g4 c0 c1 d0 d1
    have d3 := hB4.d3
    cases hv : verB f.times c v with
    | false =>
      have HP : Hid (acceptE f s c v data tg = 1) := Lib.hid (by rw [HA.out, hv]; rfl)
      go_wp2_with fail
      go_ret
      exact ⟨by rw [HP.out]; rfl, hB4.gr⟩
    | true =>
      by_cases ht : tagR s c v data = tg
      · have htb : (tagR s c v data != tg) = false := by simp [ht]
        have HP : Hid (acceptE f s c v data tg = 0) := Lib.hid (by rw [HA.out, hv, if_pos rfl, if_pos ht])
        clear ht
        go_wp2_with fail
        go_ret
        exact ⟨by rw [HP.out]; rfl, hB4.gr⟩
      · have htb : (tagR s c v data != tg) = true := by simp; omega
        have HP : Hid (acceptE f s c v data tg = 113) := Lib.hid (by rw [HA.out, hv, if_pos rfl, if_neg ht])
        clear ht
        go_wp2_with fail
        go_ret
        exact ⟨by rw [HP.out]; rfl, hB4.gr⟩
  · have heb : (tagE s c v data != 0) = true := by simp [he]
    have HP : Hid (acceptE f s c v data tg = tagE s c v data) := Lib.hid (by unfold acceptE; rw [if_neg he])
    clear he
    go_enter Try.func66, Try.ntmps66
    go_wp2_with fail
    refine HT.out.mono ?_
    rintro e w3 ⟨rfl, g3⟩
    go_wp2_with fail
    go_ret
    exact ⟨by rw [HP.out]; rfl, hB.gr.trans g3⟩

set_option maxHeartbeats 1000000 in
theorem Accept_any (ta ca : Option Addr) (tn tc cn cc : Nat) (f : Fl) (s c v tg : Int) (data : ByteArray) (w : World) (hf : FlAt w ta tn ca cn f) (hd : data.size < 1152921504606846976) :
    Calls Try.prog 27 #[.agg #[.slice ta tn tc, .slice ca cn cc], .int .i64 s, .agg #[.int .i64 c, .int .i64 v, .string data, .int .i64 tg]] w fun e w' => e = .returned (.int .i64 (AcceptE f s c v data tg)) ∧ Gr w w' := by
  have hB := pkB w (.slice ta tn tc) (.slice ca cn cc) (.int .i64 c) (.int .i64 v) (.string data) (.int .i64 tg)
  obtain ⟨w2, hw2⟩ : ∃ w2, (w.alloc (.cells #[.slice ta tn tc, .slice ca cn cc] 25)).alloc (.cells #[.int .i64 c, .int .i64 v, .string data, .int .i64 tg] 46) = w2 := ⟨_, rfl⟩
  rw [hw2] at hB
  have c0 := hB.c0
  have c1 := hB.c1
  have HC := Lib.hid (check_any ta ca tn tc cn cc f w2 (hf.gr hB.gr))
  by_cases he : chkE f = 0
  · have heb : (chkE f != 0) = false := by simp [he]
    have HP : Hid (AcceptE f s c v data tg = acceptE f s c v data tg) := Lib.hid (by unfold AcceptE; rw [if_pos he])
    clear he
    go_enter Try.func27, Try.ntmps27
    go_wp2_with fail
    refine HC.out.mono ?_
    rintro e w3 ⟨rfl, g3⟩
    have hB3 := hB.then g3
    clear hw2 hB HC g3 c0 c1
    have c0 := hB3.c0
    have c1 := hB3.c1
    have d0 := hB3.d0
    have d1 := hB3.d1
    have d2 := hB3.d2
    have d3 := hB3.d3
    have HA := Lib.hid (accept_any ta ca tn tc cn cc f s c v tg data w3 (hf.gr hB3.gr) hd)
    go_wp2_with fail
    refine HA.out.mono ?_
    rintro e w4 ⟨rfl, g4⟩
    go_wp2_with fail
    go_ret
    exact ⟨by rw [HP.out]; rfl, hB3.gr.trans g4⟩
  · have heb : (chkE f != 0) = true := by simp [he]
    have HP : Hid (AcceptE f s c v data tg = chkE f) := Lib.hid (by unfold AcceptE; rw [if_neg he])
    clear he
    go_enter Try.func27, Try.ntmps27
    go_wp2_with fail
    refine HC.out.mono ?_
    rintro e w3 ⟨rfl, g3⟩
    go_wp2_with fail
    go_ret
    exact ⟨by rw [HP.out]; rfl, hB.gr.trans g3⟩

set_option maxHeartbeats 1000000 in
theorem Accept2_any (ta ca : Option Addr) (tn tc cn cc : Nat) (f : Fl) (s c v tg : Int) (data : ByteArray) (w : World) (hf : FlAt w ta tn ca cn f) (hd : data.size < 1152921504606846976) :
    Calls Try.prog 28 #[.agg #[.slice ta tn tc, .slice ca cn cc], .int .i64 s, .agg #[.int .i64 c, .int .i64 v, .string data, .int .i64 tg]] w fun e w' => e = .returned (.int .i64 (AcceptE f s c v data tg)) ∧ Gr w w' := by
  have hB := pkB w (.slice ta tn tc) (.slice ca cn cc) (.int .i64 c) (.int .i64 v) (.string data) (.int .i64 tg)
  obtain ⟨w2, hw2⟩ : ∃ w2, (w.alloc (.cells #[.slice ta tn tc, .slice ca cn cc] 25)).alloc (.cells #[.int .i64 c, .int .i64 v, .string data, .int .i64 tg] 46) = w2 := ⟨_, rfl⟩
  rw [hw2] at hB
  have c0 := hB.c0
  have c1 := hB.c1
  have HC := Lib.hid (check2_any ta ca tn tc cn cc f w2 (hf.gr hB.gr))
  by_cases he : chkE f = 0
  · have heb : (chkE f != 0) = false := by simp [he]
    have HP : Hid (AcceptE f s c v data tg = acceptE f s c v data tg) := Lib.hid (by unfold AcceptE; rw [if_pos he])
    clear he
    go_enter Try.func28, Try.ntmps28
    go_wp2_with fail
    refine HC.out.mono ?_
    rintro e w3 ⟨rfl, g3⟩
    have hB3 := hB.then g3
    clear hw2 hB HC g3 c0 c1
    have c0 := hB3.c0
    have c1 := hB3.c1
    have d0 := hB3.d0
    have d1 := hB3.d1
    have d2 := hB3.d2
    have d3 := hB3.d3
    have HA := Lib.hid (accept2_any ta ca tn tc cn cc f s c v tg data w3 (hf.gr hB3.gr) hd)
    go_wp2_with fail
    refine HA.out.mono ?_
    rintro e w4 ⟨rfl, g4⟩
    go_wp2_with fail
    go_ret
    exact ⟨by rw [HP.out]; rfl, hB3.gr.trans g4⟩
  · have heb : (chkE f != 0) = true := by simp [he]
    have HP : Hid (AcceptE f s c v data tg = chkE f) := Lib.hid (by unfold AcceptE; rw [if_neg he])
    clear he
    go_enter Try.func28, Try.ntmps28
    go_wp2_with fail
    refine HC.out.mono ?_
    rintro e w3 ⟨rfl, g3⟩
    go_wp2_with fail
    go_ret
    exact ⟨by rw [HP.out]; rfl, hB.gr.trans g3⟩
end Go.Proofs.Ytlilojpnhmfnaaa
