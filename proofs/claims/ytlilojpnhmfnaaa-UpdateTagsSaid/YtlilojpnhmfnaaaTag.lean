/- Contracts: tags, the program's and the reference's. -/
import Derived.Test.YtlilojpnhmfnaaaCheckR
import Derived.IntWalk
import Derived.Deep.QuietTactic
import Derived.BigQuiet
namespace Go.Proofs.Ytlilojpnhmfnaaa
open Go.RowKit

def nextV (t n : Int) : Int := (t * 257 + n + 1) % 65521
theorem nextV_bd (t n : Int) : 0 ≤ nextV t n ∧ nextV t n ≤ 65520 := by unfold nextV; omega

/-- the tag over the first bytes of the data -/
def tagL (s c v : Int) (data : List UInt8) : Int := data.foldl (fun t b => nextV t (b.toNat : Int)) (nextV (nextV s c) v)
theorem tagL_bd (s c v : Int) (data : List UInt8) : 0 ≤ tagL s c v data ∧ tagL s c v data ≤ 65520 := by
  have : ∀ (l : List UInt8) (t : Int), 0 ≤ t ∧ t ≤ 65520 → 0 ≤ l.foldl (fun t b => nextV t (b.toNat : Int)) t ∧ l.foldl (fun t b => nextV t (b.toNat : Int)) t ≤ 65520 := by
    intro l
    induction l with
    | nil => intro t h; exact h
    | cons b l ih => intro t _; exact ih _ (nextV_bd _ _)
  exact this _ _ (nextV_bd _ _)
theorem take_snocB (s : ByteArray) (k : Nat) (h : k < s.size) : s.data.toList.take (k + 1) = s.data.toList.take k ++ [s[k]] := by
  rw [List.take_succ_eq_append_getElem (by simpa using h)]; rfl
theorem tagL_snoc (s c v : Int) (l : List UInt8) (b : UInt8) : tagL s c v (l ++ [b]) = nextV (tagL s c v l) (b.toNat : Int) := by simp [tagL]

set_option maxHeartbeats 400000 in
theorem tag1_any (n t : Int) (B : Nat) (w : World) (hc : w.cell? ⟨B, 0, none⟩ = some (.int .i64 t)) (hf : w.frozen? ⟨B, 0, none⟩ = false) (h0 : 0 ≤ t) (h1 : t ≤ 65520) (h2 : 0 ≤ n) (h3 : n ≤ 255) :
    Calls Try.prog 92 #[.int .i64 n, .pointer (some ⟨B, 0, none⟩)] w fun e w' => (∃ v, e = .returned v) ∧ w' = w.setCell ⟨B, 0, none⟩ (.int .i64 (nextV t n)) := by
  go_enter Try.func92, Try.ntmps92
  go_wp2
  go_end0
  exact ⟨⟨_, rfl⟩, rfl⟩

set_option maxHeartbeats 400000 in
theorem next2_any (t n : Int) (w : World) (h0 : 0 ≤ t) (h1 : t ≤ 65520) (h2 : 0 ≤ n) (h3 : n ≤ 255) : Calls Try.prog 64 #[.int .i64 t, .int .i64 n] w fun e w' => e = .returned (.int .i64 (nextV t n)) ∧ w = w' := by
  go_enter Try.func64, Try.ntmps64
  go_wp2
  go_ret
  exact ⟨rfl, rfl⟩

/-- a packet as a value -/
def pkV (c v : Int) (data : ByteArray) (tg : Int) : Value := .agg #[.int .i64 c, .int .i64 v, .string data, .int .i64 tg]

set_option maxHeartbeats 1000000 in
theorem tag_any (s c v tg : Int) (data : ByteArray) (w : World) (hs0 : 0 ≤ s) (hs1 : s ≤ 65520) (hc0 : 0 ≤ c) (hc1 : c ≤ 255) (hv0 : 0 ≤ v) (hv1 : v ≤ 255) (hd : data.size ≤ 1000) :
    Calls Try.prog 62 #[.int .i64 s, .agg #[.int .i64 c, .int .i64 v, .string data, .int .i64 tg]] w fun e w' => e = .returned (.int .i64 (tagL s c v data.data.toList)) ∧ Gr w w' := by
  have b1 := nextV_bd s c
  have b2 := nextV_bd (nextV s c) v
  go_enter Try.func62, Try.ntmps62
  go_wp2_with fail
  refine (tag1_any c s (w.heap.size + 1) _ (by simp [go_sem]) (by simp [go_sem]) hs0 hs1 hc0 hc1).mono ?_
  rintro e w1 ⟨⟨x, rfl⟩, rfl⟩
  go_wp2_with fail
  refine (tag1_any v (nextV s c) (w.heap.size + 1) _ (by simp [go_sem]) (by simp [go_sem]) b1.1 b1.2 hv0 hv1).mono ?_
  rintro e w2 ⟨⟨x2, rfl⟩, rfl⟩
  go_wp2_with fail
  go_loopw [21] (fun i wr => ∃ k : Nat, k ≤ data.size ∧ i = .int .i64 k ∧ Gr w wr ∧ wr.cell? ⟨w.heap.size, 2, none⟩ = some (.string data) ∧ wr.cell? ⟨w.heap.size + 1, 0, none⟩ = some (.int .i64 (tagL s c v (data.data.toList.take k))) ∧ wr.frozen? ⟨w.heap.size + 1, 0, none⟩ = false) (fun i _ => data.size - (intOf i).toNat)
  case atStart =>
    refine ⟨0, Nat.zero_le _, rfl, ?_, by simp [go_sem], by simp [go_sem, tagL], by simp [go_sem]⟩
    exact (Gr.alloc _ _).allocR _
  case round =>
    obtain ⟨k, hk, rfl, hg, hcd, hct, hft⟩ := hrel
    have hb := tagL_bd s c v (data.data.toList.take k)
    by_cases hlt : k < data.size
    · have hsn : Hid (tagL s c v (data.data.toList.take (k + 1)) = nextV (tagL s c v (data.data.toList.take k)) (data[k].toNat : Int)) := Lib.hid (by rw [take_snocB data k hlt, tagL_snoc])
      have hby : (data[k].toNat : Int) ≤ 255 := by have := data[k].toNat_lt; omega
      generalize tagL s c v (data.data.toList.take k) = tk at *
      go_wp2_with fail
      refine (tag1_any _ tk (w.heap.size + 1) wr hct hft hb.1 hb.2 (by omega) hby).mono ?_
      rintro e w3 ⟨⟨x3, rfl⟩, rfl⟩
      have k1 : (wr.setCell ⟨w.heap.size + 1, 0, none⟩ (.int .i64 (nextV tk (data[k].toNat : Int)))).cell? ⟨w.heap.size, 2, none⟩ = some (.string data) := by simp [go_sem, hcd]
      have k2 : (wr.setCell ⟨w.heap.size + 1, 0, none⟩ (.int .i64 (nextV tk (data[k].toNat : Int)))).cell? ⟨w.heap.size + 1, 0, none⟩ = some (.int .i64 (nextV tk (data[k].toNat : Int))) := by simp [go_sem, hct]
      have k3 : (wr.setCell ⟨w.heap.size + 1, 0, none⟩ (.int .i64 (nextV tk (data[k].toNat : Int)))).frozen? ⟨w.heap.size + 1, 0, none⟩ = false := by simpa using hft
      have k4 : Gr w (wr.setCell ⟨w.heap.size + 1, 0, none⟩ (.int .i64 (nextV tk (data[k].toNat : Int)))) := hg.setCell (by simp only; omega) _
      generalize wr.setCell ⟨w.heap.size + 1, 0, none⟩ (.int .i64 (nextV tk (data[k].toNat : Int))) = w3 at *
      go_wp2_with fail
      go_roundw
      case rel => exact ⟨k + 1, by omega, by go_num, k4, k1, by rw [hsn.out]; exact k2, k3⟩
      case measure => simp [intOf]; omega
    · obtain rfl : k = data.size := by omega
      go_wp2_with fail
      go_ret
      exact ⟨ret_int (by rw [List.take_of_length_le (by simp)]), hg⟩

/-- the arguments of Tag are in order -/
def tagB (s c v : Int) (data : ByteArray) : Bool := withinB s 1 65520 && withinB c 0 5 && withinB v 0 3 && decide (data.size ≤ 1000)
def tagE (s c v : Int) (data : ByteArray) : Int := if tagB s c v data then 0 else 1
def tagR (s c v : Int) (data : ByteArray) : Int := if tagB s c v data then tagL s c v data.data.toList else 0

set_option maxHeartbeats 1000000 in
theorem Tag_any (s c v tg : Int) (data : ByteArray) (w : World) (hd : data.size < 1152921504606846976) :
    Calls Try.prog 25 #[.int .i64 s, .agg #[.int .i64 c, .int .i64 v, .string data, .int .i64 tg]] w fun e w' => e = .returned (.tuple #[.int .i64 (tagR s c v data), .int .i64 (tagE s c v data)]) ∧ Gr w w' := by
  have HW := Lib.hid within_any
  cases h1 : withinB s 1 65520 with
  | false =>
    have HP : Hid (tagR s c v data = 0 ∧ tagE s c v data = 1) := Lib.hid (by simp [tagR, tagE, tagB, h1])
    go_enter Try.func25, Try.ntmps25
    go_wp2_with fail
    refine (HW.out _ _ _ _).mono ?_
    rintro e w1 ⟨rfl, rfl⟩
    go_wp2_with fail
    go_ret2
    exact ⟨by rw [HP.out.1, HP.out.2]; rfl, Gr.alloc _ _⟩
  | true =>
    cases h2 : withinB c 0 5 with
    | false =>
      have HP : Hid (tagR s c v data = 0 ∧ tagE s c v data = 1) := Lib.hid (by simp [tagR, tagE, tagB, h1, h2])
      go_enter Try.func25, Try.ntmps25
      go_wp2_with fail
      refine (HW.out _ _ _ _).mono ?_
      rintro e w1 ⟨rfl, rfl⟩
      go_wp2_with fail
      refine (HW.out _ _ _ _).mono ?_
      rintro e w1 ⟨rfl, rfl⟩
      go_wp2_with fail
      go_ret2
      exact ⟨by rw [HP.out.1, HP.out.2]; rfl, Gr.alloc _ _⟩
    | true =>
      cases h3 : withinB v 0 3 with
      | false =>
        have HP : Hid (tagR s c v data = 0 ∧ tagE s c v data = 1) := Lib.hid (by simp [tagR, tagE, tagB, h1, h2, h3])
        go_enter Try.func25, Try.ntmps25
        go_wp2_with fail
        refine (HW.out _ _ _ _).mono ?_
        rintro e w1 ⟨rfl, rfl⟩
        go_wp2_with fail
        refine (HW.out _ _ _ _).mono ?_
        rintro e w1 ⟨rfl, rfl⟩
        go_wp2_with fail
        refine (HW.out _ _ _ _).mono ?_
        rintro e w1 ⟨rfl, rfl⟩
        go_wp2_with fail
        go_ret2
        exact ⟨by rw [HP.out.1, HP.out.2]; rfl, Gr.alloc _ _⟩
      | true =>
        by_cases h4 : data.size ≤ 1000
        · have HP : Hid (tagR s c v data = tagL s c v data.data.toList ∧ tagE s c v data = 0) := Lib.hid (by simp [tagR, tagE, tagB, h1, h2, h3, h4])
          have h1' := withinB_iff.1 h1
          have h2' := withinB_iff.1 h2
          have h3' := withinB_iff.1 h3
          have HT := Lib.hid (fun w => tag_any s c v tg data w (by omega) (by omega) (by omega) (by omega) (by omega) (by omega) h4)
          go_enter Try.func25, Try.ntmps25
          go_wp2_with fail
          refine (HW.out _ _ _ _).mono ?_
          rintro e w1 ⟨rfl, rfl⟩
          go_wp2_with fail
          refine (HW.out _ _ _ _).mono ?_
          rintro e w1 ⟨rfl, rfl⟩
          go_wp2_with fail
          refine (HW.out _ _ _ _).mono ?_
          rintro e w1 ⟨rfl, rfl⟩
          go_wp2_with fail
          refine (HT.out _).mono ?_
          rintro e w2 ⟨rfl, g2⟩
          go_wp2_with fail
          go_ret2
          exact ⟨by rw [HP.out.1, HP.out.2]; rfl, (Gr.alloc _ _).trans g2⟩
        · have HP : Hid (tagR s c v data = 0 ∧ tagE s c v data = 1) := Lib.hid (by simp [tagR, tagE, tagB, h1, h2, h3, h4])
          go_enter Try.func25, Try.ntmps25
          go_wp2_with fail
          refine (HW.out _ _ _ _).mono ?_
          rintro e w1 ⟨rfl, rfl⟩
          go_wp2_with fail
          refine (HW.out _ _ _ _).mono ?_
          rintro e w1 ⟨rfl, rfl⟩
          go_wp2_with fail
          refine (HW.out _ _ _ _).mono ?_
          rintro e w1 ⟨rfl, rfl⟩
          go_wp2_with fail
          go_ret2
          exact ⟨by rw [HP.out.1, HP.out.2]; rfl, Gr.alloc _ _⟩
end Go.Proofs.Ytlilojpnhmfnaaa
