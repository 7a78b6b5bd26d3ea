/- Contract: UpdateTags returns true. -/
import Derived.Test.YtlilojpnhmfnaaaLook
import Derived.Test.YtlilojpnhmfnaaaAccept
namespace Go.Proofs.Ytlilojpnhmfnaaa
open Go.RowKit

set_option maxRecDepth 100000 in
set_option maxHeartbeats 2000000 in
theorem tags_any (ta ca : Option Addr) (tn tc cn cc : Nat) (f : Fl) (s c v tg : Int) (data : ByteArray) (w : World) (hf : FlAt w ta tn ca cn f) (hd : data.size < 1152921504606846976) :
    Calls Try.prog 6 #[.agg #[.slice ta tn tc, .slice ca cn cc], .int .i64 s, .agg #[.int .i64 c, .int .i64 v, .string data, .int .i64 tg]] w fun e w' => e = .returned (.bool true) ∧ Gr w w' := by
  have hB := pkB w (.slice ta tn tc) (.slice ca cn cc) (.int .i64 c) (.int .i64 v) (.string data) (.int .i64 tg)
  obtain ⟨w2, hw2⟩ : ∃ w2, (w.alloc (.cells #[.slice ta tn tc, .slice ca cn cc] 25)).alloc (.cells #[.int .i64 c, .int .i64 v, .string data, .int .i64 tg] 46) = w2 := ⟨_, rfl⟩
  rw [hw2] at hB
  have d0 := hB.d0
  have d1 := hB.d1
  have d2 := hB.d2
  have d3 := hB.d3
  have HT := Lib.hid (Tag_any s c v tg data w2 hd)
  have hA1 : ∀ W, FlAt W ta tn ca cn f → Calls Try.prog 27 #[.agg #[.slice ta tn tc, .slice ca cn cc], .int .i64 s, .agg #[.int .i64 c, .int .i64 v, .string data, .int .i64 tg]] W fun e w' => e = .returned (.int .i64 (AcceptE f s c v data tg)) ∧ Gr W w' := fun W h => Accept_any ta ca tn tc cn cc f s c v tg data W h hd
  have hA2 : ∀ W, FlAt W ta tn ca cn f → Calls Try.prog 28 #[.agg #[.slice ta tn tc, .slice ca cn cc], .int .i64 s, .agg #[.int .i64 c, .int .i64 v, .string data, .int .i64 tg]] W fun e w' => e = .returned (.int .i64 (AcceptE f s c v data tg)) ∧ Gr W w' := fun W h => Accept2_any ta ca tn tc cn cc f s c v tg data W h hd
  have HA1 := Lib.hid hA1
  have HA2 := Lib.hid hA2
  clear hA1 hA2
  go_enter Try.func6, Try.ntmps6
  go_wp2_with fail
  refine HT.out.mono ?_
  rintro e w3 ⟨rfl, g3⟩
  have hB3 := hB.then g3
  clear hw2 hB HT g3 d0 d1 d2 d3
  have d0 := hB3.d0
  have d1 := hB3.d1
  have d2 := hB3.d2
  have d3 := hB3.d3
  have HT := Lib.hid (TagR_any s c v tg data w3 hd)
  go_wp2_with fail
  refine HT.out.mono ?_
  rintro e w4 ⟨rfl, g4⟩
  have hB4 := hB3.then g4
  clear hB3 HT g4 d0 d1 d2 d3
  have c0 := hB4.c0
  have c1 := hB4.c1
  have d0 := hB4.d0
  have d1 := hB4.d1
  have d2 := hB4.d2
  have d3 := hB4.d3
  have hf4 := hf.gr hB4.gr
  generalize tagR s c v data = tr at *
  generalize tagE s c v data = te at *
  generalize AcceptE f s c v data tg = ae at *
  go_wp2_with fail
  refine (wpIn_wide (n := 0)).1 ?_
  refine region_inv (F := Fence.wide) (by kernel_rfl) (by rfl) (by decide) (fun _ => trivial)
    (fun done' u W' => Kn [some (.int .i64 tr), some (.int .i64 tr), some (.bool true), some (.bool true), some (.int .i64 te), some (.int .i64 te), some (.bool true), some (.bool true), some (.bool true), some (.agg #[.slice ta tn tc, .slice ca cn cc]), some (.int .i64 s), some (.agg #[.int .i64 c, .int .i64 v, .string data, .int .i64 tg]), some (.int .i64 ae), some (.agg #[.slice ta tn tc, .slice ca cn cc]), some (.int .i64 s), some (.agg #[.int .i64 c, .int .i64 v, .string data, .int .i64 tg]), some (.int .i64 ae), some (.bool true), some (.bool true), some (.bool true), some (.bool true), some (.bool true), some (.bool true)] done' u ∧ Gr w4 W')
    (fun u => ⟨Kn.start _ _, Gr.drew w4⟩) ⟨?_, ?_, ?_, ?_, ?_, ?_, ?_, ?_, ?_, ?_, ?_, ?_, ?_, ?_, ?_, ?_, ?_, ?_, ?_, ?_, ?_, ?_, ?_, trivial⟩ ?_
  · rintro u done' W' hd hanc hclo ⟨hk, hg⟩
    refine op_plain (ro := none) rfl (fun c h => by cases h) fun K hK => ?_
    simp only [fillL, List.setIfInBounds_toArray, List.set_cons_zero, List.set_cons_succ, Nat.zero_add, Nat.reduceAdd] at hK ⊢
    go_simp
    exact hK _ _ ⟨hk.new rfl, hg⟩
  · rintro u done' W' hd hanc hclo ⟨hk, hg⟩
    refine op_plain (ro := none) rfl (fun c h => by cases h) fun K hK => ?_
    simp only [fillL, List.setIfInBounds_toArray, List.set_cons_zero, List.set_cons_succ, Nat.zero_add, Nat.reduceAdd] at hK ⊢
    go_simp
    exact hK _ _ ⟨hk.new rfl, hg⟩
  · rintro u done' W' hd hanc hclo ⟨hk, hg⟩
    have e0 := hk.get 0 rfl (hanc 0 (mem_of (by kernel_rfl)))
    have e1 := hk.get 1 rfl (hanc 1 (mem_of (by kernel_rfl)))
    refine op_plain (ro := none) rfl (fun c h => by cases h) fun K hK => ?_
    simp only [fillL, List.setIfInBounds_toArray, List.set_cons_zero, List.set_cons_succ, Nat.zero_add, Nat.reduceAdd, e0, e1] at hK ⊢
    go_simp
    exact hK _ _ ⟨hk.new rfl, hg⟩
  · rintro u done' W' hd hanc hclo ⟨hk, hg⟩
    have e2 := hk.get 2 rfl (hanc 2 (mem_of (by kernel_rfl)))
    refine op_plain (ro := none) rfl (fun c h => by cases h) fun K hK => ?_
    simp only [fillL, List.setIfInBounds_toArray, List.set_cons_zero, List.set_cons_succ, Nat.zero_add, Nat.reduceAdd, e2] at hK ⊢
    go_simp
    exact hK _ _ ⟨hk.new rfl, hg⟩
  · intro u done' W' hd hanc hclo hR
    have hk := hR.1
    have e3 := hk.get 3 rfl (hanc 3 (mem_of (by kernel_rfl)))
    with_reducible refine op_meetIn 3 true e3 ?_ ?_ ?_ ?_
    · decide
    · rfl
    · rfl
    refine op_in (ro := none) ?_ ?_
    · intro c h; cases h
    intro K hK
    have hg := hR.2
    simp only [fillL, List.setIfInBounds_toArray, List.set_cons_zero, List.set_cons_succ, Nat.zero_add, Nat.reduceAdd, e3] at hK ⊢
    go_simp
    exact hK _ _ ⟨hk.new rfl, hg⟩
  · intro u done' W' hd hanc hclo hR
    have hk := hR.1
    have e3 := hk.get 3 rfl (hanc 3 (mem_of (by kernel_rfl)))
    with_reducible refine op_meetIn 3 true e3 ?_ ?_ ?_ ?_
    · decide
    · rfl
    · rfl
    refine op_in (ro := none) ?_ ?_
    · intro c h; cases h
    intro K hK
    have hg := hR.2
    simp only [fillL, List.setIfInBounds_toArray, List.set_cons_zero, List.set_cons_succ, Nat.zero_add, Nat.reduceAdd, e3] at hK ⊢
    go_simp
    exact hK _ _ ⟨hk.new rfl, hg⟩
  · intro u done' W' hd hanc hclo hR
    have hk := hR.1
    have e3 := hk.get 3 rfl (hanc 3 (mem_of (by kernel_rfl)))
    have e4 := hk.get 4 rfl (hanc 4 (mem_of (by kernel_rfl)))
    have e5 := hk.get 5 rfl (hanc 5 (mem_of (by kernel_rfl)))
    with_reducible refine op_meetIn 3 true e3 ?_ ?_ ?_ ?_
    · decide
    · rfl
    · rfl
    refine op_in (ro := none) ?_ ?_
    · intro c h; cases h
    intro K hK
    have hg := hR.2
    simp only [fillL, List.setIfInBounds_toArray, List.set_cons_zero, List.set_cons_succ, Nat.zero_add, Nat.reduceAdd, e3, e4, e5] at hK ⊢
    go_simp
    exact hK _ _ ⟨hk.new rfl, hg⟩
  · rintro u done' W' hd hanc hclo ⟨hk, hg⟩
    have e3 := hk.get 3 rfl (hanc 3 (mem_of (by kernel_rfl)))
    have e6 := hk.get 6 rfl (hanc 6 (mem_of (by kernel_rfl)))
    refine op_plain (ro := none) rfl (fun c h => by cases h) fun K hK => ?_
    simp only [fillL, List.setIfInBounds_toArray, List.set_cons_zero, List.set_cons_succ, Nat.zero_add, Nat.reduceAdd, e3, e6] at hK ⊢
    go_simp
    exact hK _ _ ⟨hk.new rfl, hg⟩
  · rintro u done' W' hd hanc hclo ⟨hk, hg⟩
    have e7 := hk.get 7 rfl (hanc 7 (mem_of (by kernel_rfl)))
    refine op_plain (ro := none) rfl (fun c h => by cases h) fun K hK => ?_
    simp only [fillL, List.setIfInBounds_toArray, List.set_cons_zero, List.set_cons_succ, Nat.zero_add, Nat.reduceAdd, e7] at hK ⊢
    go_simp
    exact hK _ _ ⟨hk.new rfl, hg⟩
  · intro u done' W' hd hanc hclo hR
    have hk := hR.1
    have e8 := hk.get 8 rfl (hanc 8 (mem_of (by kernel_rfl)))
    with_reducible refine op_meetIn 8 true e8 ?_ ?_ ?_ ?_
    · decide
    · rfl
    · rfl
    refine op_in (ro := none) ?_ ?_
    · intro c h; cases h
    intro K hK
    have hg := hR.2
    have c_c0 := (hg.cell (lt_cell c0)).trans c0
    have c_c1 := (hg.cell (lt_cell c1)).trans c1
    simp only [fillL, List.setIfInBounds_toArray, List.set_cons_zero, List.set_cons_succ, Nat.zero_add, Nat.reduceAdd, e8] at hK ⊢
    go_simp
    exact hK _ _ ⟨hk.new rfl, hg⟩
  · intro u done' W' hd hanc hclo hR
    have hk := hR.1
    have e8 := hk.get 8 rfl (hanc 8 (mem_of (by kernel_rfl)))
    with_reducible refine op_meetIn 8 true e8 ?_ ?_ ?_ ?_
    · decide
    · rfl
    · rfl
    refine op_in (ro := none) ?_ ?_
    · intro c h; cases h
    intro K hK
    have hg := hR.2
    simp only [fillL, List.setIfInBounds_toArray, List.set_cons_zero, List.set_cons_succ, Nat.zero_add, Nat.reduceAdd, e8] at hK ⊢
    go_simp
    exact hK _ _ ⟨hk.new rfl, hg⟩
  · intro u done' W' hd hanc hclo hR
    have hk := hR.1
    have e8 := hk.get 8 rfl (hanc 8 (mem_of (by kernel_rfl)))
    with_reducible refine op_meetIn 8 true e8 ?_ ?_ ?_ ?_
    · decide
    · rfl
    · rfl
    refine op_in (ro := none) ?_ ?_
    · intro c h; cases h
    intro K hK
    have hg := hR.2
    have c_d0 := (hg.cell (lt_cell d0)).trans d0
    have c_d1 := (hg.cell (lt_cell d1)).trans d1
    have c_d2 := (hg.cell (lt_cell d2)).trans d2
    have c_d3 := (hg.cell (lt_cell d3)).trans d3
    simp only [fillL, List.setIfInBounds_toArray, List.set_cons_zero, List.set_cons_succ, Nat.zero_add, Nat.reduceAdd, e8] at hK ⊢
    go_simp
    exact hK _ _ ⟨hk.new rfl, hg⟩
  · intro u done' W' hd hanc hclo hR
    have hk := hR.1
    have e8 := hk.get 8 rfl (hanc 8 (mem_of (by kernel_rfl)))
    have e9 := hk.get 9 rfl (hanc 9 (mem_of (by kernel_rfl)))
    have e10 := hk.get 10 rfl (hanc 10 (mem_of (by kernel_rfl)))
    have e11 := hk.get 11 rfl (hanc 11 (mem_of (by kernel_rfl)))
    with_reducible refine op_meetIn 8 true e8 ?_ ?_ ?_ ?_
    · decide
    · rfl
    · rfl
    refine op_in (ro := none) ?_ ?_
    · intro c h; cases h
    intro K hK
    have hg := hR.2
    have HCON := Lib.hid (HA1.out W' (hf4.gr hg))
    simp only [fillL, List.setIfInBounds_toArray, List.set_cons_zero, List.set_cons_succ, Nat.zero_add, Nat.reduceAdd, e8, e9, e10, e11] at hK ⊢
    go_simp
    refine HCON.out.mono ?_
    rintro e w6 ⟨rfl, hg6⟩
    exact hK _ _ ⟨hk.new rfl, hg.trans hg6⟩
  · intro u done' W' hd hanc hclo hR
    have hk := hR.1
    have e8 := hk.get 8 rfl (hanc 8 (mem_of (by kernel_rfl)))
    with_reducible refine op_meetIn 8 true e8 ?_ ?_ ?_ ?_
    · decide
    · rfl
    · rfl
    refine op_in (ro := none) ?_ ?_
    · intro c h; cases h
    intro K hK
    have hg := hR.2
    have c_c0 := (hg.cell (lt_cell c0)).trans c0
    have c_c1 := (hg.cell (lt_cell c1)).trans c1
    simp only [fillL, List.setIfInBounds_toArray, List.set_cons_zero, List.set_cons_succ, Nat.zero_add, Nat.reduceAdd, e8] at hK ⊢
    go_simp
    exact hK _ _ ⟨hk.new rfl, hg⟩
  · intro u done' W' hd hanc hclo hR
    have hk := hR.1
    have e8 := hk.get 8 rfl (hanc 8 (mem_of (by kernel_rfl)))
    with_reducible refine op_meetIn 8 true e8 ?_ ?_ ?_ ?_
    · decide
    · rfl
    · rfl
    refine op_in (ro := none) ?_ ?_
    · intro c h; cases h
    intro K hK
    have hg := hR.2
    simp only [fillL, List.setIfInBounds_toArray, List.set_cons_zero, List.set_cons_succ, Nat.zero_add, Nat.reduceAdd, e8] at hK ⊢
    go_simp
    exact hK _ _ ⟨hk.new rfl, hg⟩
  · intro u done' W' hd hanc hclo hR
    have hk := hR.1
    have e8 := hk.get 8 rfl (hanc 8 (mem_of (by kernel_rfl)))
    with_reducible refine op_meetIn 8 true e8 ?_ ?_ ?_ ?_
    · decide
    · rfl
    · rfl
    refine op_in (ro := none) ?_ ?_
    · intro c h; cases h
    intro K hK
    have hg := hR.2
    have c_d0 := (hg.cell (lt_cell d0)).trans d0
    have c_d1 := (hg.cell (lt_cell d1)).trans d1
    have c_d2 := (hg.cell (lt_cell d2)).trans d2
    have c_d3 := (hg.cell (lt_cell d3)).trans d3
    simp only [fillL, List.setIfInBounds_toArray, List.set_cons_zero, List.set_cons_succ, Nat.zero_add, Nat.reduceAdd, e8] at hK ⊢
    go_simp
    exact hK _ _ ⟨hk.new rfl, hg⟩
  · intro u done' W' hd hanc hclo hR
    have hk := hR.1
    have e8 := hk.get 8 rfl (hanc 8 (mem_of (by kernel_rfl)))
    have e13 := hk.get 13 rfl (hanc 13 (mem_of (by kernel_rfl)))
    have e14 := hk.get 14 rfl (hanc 14 (mem_of (by kernel_rfl)))
    have e15 := hk.get 15 rfl (hanc 15 (mem_of (by kernel_rfl)))
    with_reducible refine op_meetIn 8 true e8 ?_ ?_ ?_ ?_
    · decide
    · rfl
    · rfl
    refine op_in (ro := none) ?_ ?_
    · intro c h; cases h
    intro K hK
    have hg := hR.2
    have HCON := Lib.hid (HA2.out W' (hf4.gr hg))
    simp only [fillL, List.setIfInBounds_toArray, List.set_cons_zero, List.set_cons_succ, Nat.zero_add, Nat.reduceAdd, e8, e13, e14, e15] at hK ⊢
    go_simp
    refine HCON.out.mono ?_
    rintro e w6 ⟨rfl, hg6⟩
    exact hK _ _ ⟨hk.new rfl, hg.trans hg6⟩
  · intro u done' W' hd hanc hclo hR
    have hk := hR.1
    have e8 := hk.get 8 rfl (hanc 8 (mem_of (by kernel_rfl)))
    have e12 := hk.get 12 rfl (hanc 12 (mem_of (by kernel_rfl)))
    have e16 := hk.get 16 rfl (hanc 16 (mem_of (by kernel_rfl)))
    with_reducible refine op_meetIn 8 true e8 ?_ ?_ ?_ ?_
    · decide
    · rfl
    · rfl
    refine op_in (ro := none) ?_ ?_
    · intro c h; cases h
    intro K hK
    have hg := hR.2
    simp only [fillL, List.setIfInBounds_toArray, List.set_cons_zero, List.set_cons_succ, Nat.zero_add, Nat.reduceAdd, e8, e12, e16] at hK ⊢
    go_simp
    exact hK _ _ ⟨hk.new rfl, hg⟩
  · rintro u done' W' hd hanc hclo ⟨hk, hg⟩
    have e8 := hk.get 8 rfl (hanc 8 (mem_of (by kernel_rfl)))
    have e17 := hk.get 17 rfl (hanc 17 (mem_of (by kernel_rfl)))
    refine op_plain (ro := none) rfl (fun c h => by cases h) fun K hK => ?_
    simp only [fillL, List.setIfInBounds_toArray, List.set_cons_zero, List.set_cons_succ, Nat.zero_add, Nat.reduceAdd, e8, e17] at hK ⊢
    go_simp
    exact hK _ _ ⟨hk.new rfl, hg⟩
  · rintro u done' W' hd hanc hclo ⟨hk, hg⟩
    have e18 := hk.get 18 rfl (hanc 18 (mem_of (by kernel_rfl)))
    refine op_plain (ro := none) rfl (fun c h => by cases h) fun K hK => ?_
    simp only [fillL, List.setIfInBounds_toArray, List.set_cons_zero, List.set_cons_succ, Nat.zero_add, Nat.reduceAdd, e18] at hK ⊢
    go_simp
    exact hK _ _ ⟨hk.new rfl, hg⟩
  · intro u done' W' hd hanc hclo hR
    have hk := hR.1
    have e19 := hk.get 19 rfl (hanc 19 (mem_of (by kernel_rfl)))
    with_reducible refine op_meetIn 19 true e19 ?_ ?_ ?_ ?_
    · decide
    · rfl
    · rfl
    refine op_in (ro := none) ?_ ?_
    · intro c h; cases h
    intro K hK
    have hg := hR.2
    have HCON := Lib.hid (look_any W')
    simp only [fillL, List.setIfInBounds_toArray, List.set_cons_zero, List.set_cons_succ, Nat.zero_add, Nat.reduceAdd, e19] at hK ⊢
    go_simp
    refine HCON.out.mono ?_
    rintro e w6 ⟨rfl, hg6⟩
    exact hK _ _ ⟨hk.new rfl, hg.trans hg6⟩
  · rintro u done' W' hd hanc hclo ⟨hk, hg⟩
    have e19 := hk.get 19 rfl (hanc 19 (mem_of (by kernel_rfl)))
    have e20 := hk.get 20 rfl (hanc 20 (mem_of (by kernel_rfl)))
    refine op_plain (ro := none) rfl (fun c h => by cases h) fun K hK => ?_
    simp only [fillL, List.setIfInBounds_toArray, List.set_cons_zero, List.set_cons_succ, Nat.zero_add, Nat.reduceAdd, e19, e20] at hK ⊢
    go_simp
    exact hK _ _ ⟨hk.new rfl, hg⟩
  · rintro u done' W' hd hanc hclo ⟨hk, hg⟩
    have e21 := hk.get 21 rfl (hanc 21 (mem_of (by kernel_rfl)))
    refine op_plain (ro := none) rfl (fun c h => by cases h) fun K hK => ?_
    simp only [fillL, List.setIfInBounds_toArray, List.set_cons_zero, List.set_cons_succ, Nat.zero_add, Nat.reduceAdd, e21] at hK ⊢
    go_simp
    exact hK _ _ ⟨hk.new rfl, hg⟩
  · rintro u W' ⟨done', hdn, hk, hg⟩
    have e22 := hk.get 22 rfl (hdn 22 (by decide))
    simp only [fillL, List.setIfInBounds_toArray, List.set_cons_zero, List.set_cons_succ, Nat.zero_add, Nat.reduceAdd, e22]
    go_wp2_with fail
    go_ret
    exact ⟨rfl, hB4.gr.trans hg⟩
end Go.Proofs.Ytlilojpnhmfnaaa
