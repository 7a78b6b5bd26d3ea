/- Several texts of this claim in one file. (1) Packets in memory; a block of numbers of a call's own; plain words for Install; contracts of the search for a packet. (2) Blocks of a call's own that it turns. Nothing of the program is proved here. (3) Rules for a range over a function in which a round knows how far it has come. Nothing of the program is proved here. (4) The reference's list of all states that work: plain words; lists that are joined; the invariant of its region. (5) A walk by lemmas: properties of values, and a range over states. (6) Bytes, strings and packets of a call's own. (7) What seat u does not have of the walk by lemmas: lists of structures, blocks of a call's own. Nothing of the program is proved here. (8) Copies of lists, and lists that a call collects. Nothing of the program is proved here. (9) Contracts: ints, sameInts; properties of what calls hand out. (10) Contract: Install. (11) Plain law: the states of an interrupted update, position by position. No program in sight. -/
import Derived.Test.YtaidcocjcidggaaBd5
import Derived.Test.YtaidcocjcidggaaBd2
import Derived.Deep.Upon
import Derived.Laws.IdiomStrings
import Derived.Deep.AppendSrc
import Derived.Test.YtaidcocjcidggaaBd3
import Derived.Test.YtaidcocjcidggaaBd4
namespace Go.Proofs.Ytaidcocjcidggaa
set_option linter.unusedSimpArgs false
set_option linter.unusedVariables false
section
open Go.RowKit

theorem Try.info46 : (Try.prog.info? 46).map (fun i => (i.zero, i.size, i.bytes)) = some (some (.agg #[.int .i64 0, .int .i64 0, .string ⟨#[]⟩, .int .i64 0]), 4, 40) := by kernel_rfl
/-- a packet -/
structure Pk where
  c : Int
  v : Int
  data : ByteArray
  tg : Int
instance : Inhabited Pk := ⟨⟨0, 0, ⟨#[]⟩, 0⟩⟩

def PkAt (w : World) (a : Option Addr) (n : Nat) (P : List Pk) : Prop :=
  P.length = n ∧ n < 1152921504606846976 ∧ ∀ j, j < n → ∃ ad, a = some ad ∧ ad.block < w.heap.size ∧ (P[j]?.getD default).data.size < 1152921504606846976 ∧
    w.cell? (ad.add (j * 4)) = some (.int .i64 (P[j]?.getD default).c) ∧ w.cell? ⟨(ad.add (j * 4)).block, (ad.add (j * 4)).off + 1, none⟩ = some (.int .i64 (P[j]?.getD default).v) ∧
    w.cell? ⟨(ad.add (j * 4)).block, (ad.add (j * 4)).off + 2, none⟩ = some (.string (P[j]?.getD default).data) ∧ w.cell? ⟨(ad.add (j * 4)).block, (ad.add (j * 4)).off + 3, none⟩ = some (.int .i64 (P[j]?.getD default).tg)
theorem PkAt.len {w : World} {a : Option Addr} {n : Nat} {P : List Pk} (h : PkAt w a n P) : P.length = n := h.1
theorem PkAt.lt {w : World} {a : Option Addr} {n : Nat} {P : List Pk} (h : PkAt w a n P) : n < 1152921504606846976 := h.2.1
theorem PkAt.at {w : World} {a : Option Addr} {n : Nat} {P : List Pk} (h : PkAt w a n P) {j : Nat} (hj : j < n) : ∃ ad, a = some ad ∧ ad.block < w.heap.size ∧ (P[j]?.getD default).data.size < 1152921504606846976 ∧
    w.cell? (ad.add (j * 4)) = some (.int .i64 (P[j]?.getD default).c) ∧ w.cell? ⟨(ad.add (j * 4)).block, (ad.add (j * 4)).off + 1, none⟩ = some (.int .i64 (P[j]?.getD default).v) ∧
    w.cell? ⟨(ad.add (j * 4)).block, (ad.add (j * 4)).off + 2, none⟩ = some (.string (P[j]?.getD default).data) ∧ w.cell? ⟨(ad.add (j * 4)).block, (ad.add (j * 4)).off + 3, none⟩ = some (.int .i64 (P[j]?.getD default).tg) := h.2.2 j hj
theorem PkAt.gr {w w' : World} {a : Option Addr} {n : Nat} {P : List Pk} (h : PkAt w a n P) (g : Gr w w') : PkAt w' a n P :=
  ⟨h.1, h.2.1, fun j hj => by
    obtain ⟨ad, e, hb, hd, h0, h1, h2, h3⟩ := h.2.2 j hj
    exact ⟨ad, e, Nat.lt_of_lt_of_le hb g.size, hd, (g.cell (lt_cell h0)).trans h0, (g.cell (lt_cell h1)).trans h1, (g.cell (lt_cell h2)).trans h2, (g.cell (lt_cell h3)).trans h3⟩⟩
theorem PkAt.take {w : World} {a : Option Addr} {n : Nat} {P : List Pk} (h : PkAt w a n P) {d : Nat} (hd : d ≤ n) : PkAt w a d (P.take d) := by
  refine ⟨by have := h.len; simp; omega, by have := h.lt; omega, fun j hj => ?_⟩
  rw [List.getElem?_take_of_lt hj]
  exact h.at (j := j) (by omega)

/-- a block of the call's own that begins with these numbers -/
def OwnS (w : World) (g n : Nat) (xs : List Int) : Prop := xs.length = n ∧ n < 1152921504606846976 ∧ ∃ rest : List Value, w.heap[g]? = some (.cells (xs.map (Value.int .i64) ++ rest).toArray 3 (0, 0))
theorem OwnS.gr {w w' : World} {g n : Nat} {xs : List Int} (h : OwnS w g n xs) (k : Gr w w') : OwnS w' g n xs := by
  obtain ⟨h1, h2, rest, h3⟩ := h
  refine ⟨h1, h2, rest, ?_⟩
  have hlt := (Array.getElem?_eq_some_iff.1 h3).1
  have := (k.only (fun _ => False)).block g hlt (fun h => h)
  rw [this]; exact h3
theorem addr_add0 (g j : Nat) : (⟨g, 0, none⟩ : Addr).add j = ⟨g, j, none⟩ := by
  unfold Addr.add; split
  · subst_vars; rfl
  · simp
theorem OwnS.ints {w : World} {g n : Nat} {xs : List Int} (h : OwnS w g n xs) : Ints w (some ⟨g, 0, none⟩) n xs := by
  obtain ⟨h1, h2, rest, h3⟩ := h
  refine ⟨h1, h2, fun j hj => ⟨_, rfl, (Array.getElem?_eq_some_iff.1 h3).1, ?_⟩⟩
  rw [addr_add0]
  refine cell_at h3 ?_
  have hj1 : j < xs.length := by omega
  simp [List.getElem?_append, hj1]
theorem OwnS.free {w : World} {g n : Nat} {xs : List Int} (h : OwnS w g n xs) (j : Nat) : w.frozen? ⟨g, j, none⟩ = false := by
  obtain ⟨_, _, rest, h3⟩ := h
  unfold World.frozen?
  simp [h3]
theorem OwnS.cell {w : World} {g n : Nat} {xs : List Int} (h : OwnS w g n xs) {j : Nat} (hj : j < n) : w.cell? ⟨g, j, none⟩ = some (.int .i64 (xs[j]?.getD 0)) := by
  obtain ⟨ad, e, _, hc⟩ := h.ints.at hj
  cases e
  rw [addr_add0] at hc; exact hc
theorem OwnS.set {w : World} {g n : Nat} {xs : List Int} (h : OwnS w g n xs) {j : Nat} (hj : j < n) (x : Int) : OwnS (w.setCell ⟨g, j, none⟩ (.int .i64 x)) g n (xs.set j x) := by
  obtain ⟨h1, h2, rest, h3⟩ := h
  refine ⟨by simp [h1], h2, rest, ?_⟩
  have hj1 : j < xs.length := by omega
  rw [heap_setCell_same w g j _ 3 _ h3]
  congr 2
  simp [List.set_append, hj1, List.map_set]

/-- Install: the rounds. done: the packets before, r: the rest, cur: the state so far -/
def instL (f : Fl) (se : Int) (s : List Int) : List Pk → List Pk → List Int → Int × Int × List Int
  | _, [], cur => (0, 0, cur)
  | done, p :: r, cur => if acceptE f se p.c p.v p.data p.tg = 0 then (if done.any (fun q => q.c == p.c) then (done.length, 1, []) else if p.v ≤ s[p.c.toNat]?.getD 0 then (done.length, 112, []) else instL f se s (done ++ [p]) r (cur.set p.c.toNat p.v)) else (done.length, acceptE f se p.c p.v p.data p.tg, [])
/-- what Install returns: the state, the packet, the error -/
def instR (f : Fl) (se : Int) (s : List Int) (P : List Pk) : List Int × Int × Int :=
  if statesE f [s] = 0 then (if withinB P.length 1 f.times.length then (if (instL f se s [] P s).2.1 = 0 then (if worksB f s && worksB f (instL f se s [] P s).2.2 then ((instL f se s [] P s).2.2, 0, 0) else ([], 0, 111)) else ([], (instL f se s [] P s).1, (instL f se s [] P s).2.1)) else ([], 0, 1)) else ([], 0, statesE f [s])
/-- what a state's function returns -/
def InstPost (w : World) (r : List Int × Int × Int) (e : Ending) (w' : World) : Prop := ∃ a n c, e = .returned (.tuple #[.slice a n c, .int .i64 r.2.1, .int .i64 r.2.2]) ∧ Ints w' a n r.1 ∧ Gr w w'

theorem anyP_hit {l : List Pk} {p : Pk → Bool} {k : Nat} (hk : k < l.length) (h : p (l[k]?.getD default) = true) : l.any p = true := by
  rw [List.any_eq_true]; exact ⟨l[k], List.getElem_mem hk, by simpa [hk] using h⟩
theorem anyP_none {l : List Pk} {p : Pk → Bool} (h : ∀ j, j < l.length → p (l[j]?.getD default) = false) : l.any p = false := by
  rw [List.any_eq_false]; intro x hx
  obtain ⟨j, hj, rfl⟩ := List.getElem_of_mem hx
  have := h j hj
  simpa [hj] using this

set_option maxHeartbeats 1000000 in
theorem inst1_any (p : Pk) (B : Nat) (x : Int) (w : World) (hc : w.cell? ⟨B, 0, none⟩ = some (.int .i64 x)) :
    Calls Try.prog 77 #[.agg #[.int .i64 p.c, .int .i64 p.v, .string p.data, .int .i64 p.tg], .pointer (some ⟨B, 0, none⟩)] w fun e w' => e = .returned (.bool (p.c == x)) ∧ Gr w w' := by
  have hg := Gr.alloc w (.cells #[.int .i64 p.c, .int .i64 p.v, .string p.data, .int .i64 p.tg] 46)
  have hc1 := (hg.cell (lt_cell hc)).trans hc
  go_enter Try.func77, Try.ntmps77
  go_wp2
  go_ret
  exact ⟨rfl, hg⟩

set_option maxHeartbeats 1000000 in
theorem indexFunc74 (a : Option Addr) (n c B : Nat) (P : List Pk) (x : Int) (w : World) (hP : PkAt w a n P) (hc : w.cell? ⟨B, 0, none⟩ = some (.int .i64 x)) :
    Calls Try.prog 98 #[.slice a n c, .func (.func 77) #[] #[.pointer (some ⟨B, 0, none⟩)]] w (IdxPost (P.any fun q => q.c == x) w) := by
  have hn := hP.lt
  go_enter Try.func98, Try.ntmps98
  go_wp2
  go_loopw [8] (fun i wr => ∃ k : Nat, k ≤ n ∧ i = .int .i64 k ∧ Gr w wr ∧ Hid (∀ j, j < k → ((P[j]?.getD default).c == x) = false)) (fun i _ => n - (intOf i).toNat)
  case atStart => exact ⟨0, Nat.zero_le _, rfl, Gr.refl _, Lib.hid (by intros; omega)⟩
  case round =>
    obtain ⟨k, hk, rfl, hg, hall⟩ := hrel
    by_cases hlt : k < n
    · obtain ⟨aa, rfl, hab, hds, c0, c1, c2, c3⟩ := (hP.gr hg).at hlt
      have hcon := inst1_any (P[k]?.getD default) B x wr ((hg.cell (lt_cell hc)).trans hc)
      have HCON := Lib.hid hcon
      clear hcon
      cases hb : ((P[k]?.getD default).c == x) with
      | true =>
        rw [hb] at HCON
        go_wp2_with (go_at_call 77; refine HCON.out.mono ?_; rintro e w' ⟨rfl, hg2⟩)
        go_ret
        exact ⟨k, rfl, by rw [anyP_hit (p := fun q => q.c == x) (by rw [hP.len]; exact hlt) hb]; simp, hg.trans hg2⟩
      | false =>
        rw [hb] at HCON
        go_wp2_with (go_at_call 77; refine HCON.out.mono ?_; rintro e w' ⟨rfl, hg2⟩)
        go_roundw
        case rel => exact ⟨k + 1, by omega, by go_num, hg.trans hg2, Lib.hid (fun j hj => by
          by_cases e : j = k
          · subst e; exact hb
          · exact hall.out j (by omega))⟩
        case measure => simp [intOf]; omega
    · obtain rfl : k = n := by omega
      go_wp2
      go_ret
      exact ⟨-1, rfl, by rw [anyP_none (p := fun q => q.c == x) (fun j hj => hall.out j (by rw [← hP.len]; exact hj))]; simp, hg⟩

theorem run_take53 (w : World) (pa : Option Addr) (n c k : Nat) (hk : k ≤ c) : (Instr.slice 53 (.slice pa n c) none (some (.int .i64 k)) none).run Try.prog w = .ok (.slice pa k c) w := by
  have hu := Try.underlying53
  have ha : ∀ a : Addr, a.add 0 = a := fun a => by unfold Addr.add; rfl
  have hm : pa.map (fun a => a.add 0) = pa := by cases pa <;> simp [ha]
  have h1 : (0 : Int) ≤ k ∧ (k : Int) ≤ c := by omega
  obtain ⟨i0, hi, hz0, hz1, hz2⟩ := info_parts Try.info46
  simp [Instr.slice, Instr.sliceBounds, Instr.sliceBound, underlying, hu, sizeOf, hi, hz1, asIntOf, h1, hm, go_sem]
  intro h; omega

theorem containsFunc74 (a : Option Addr) (n c B : Nat) (P : List Pk) (x : Int) (w : World) (hP : PkAt w a n P) (hc : w.cell? ⟨B, 0, none⟩ = some (.int .i64 x)) :
    Calls Try.prog 76 #[.slice a n c, .func (.func 77) #[] #[.pointer (some ⟨B, 0, none⟩)]] w fun e w' => e = .returned (.bool (P.any fun q => q.c == x)) ∧ Gr w w' := by
  go_enter Try.func76, Try.ntmps76
  go_wp2_with (go_at_call 98; refine (indexFunc74 _ _ _ _ _ _ _ hP hc).mono ?_; rintro e w' ⟨r, rfl, hr, hg⟩)
  go_ret
  exact ⟨rfl, by assumption⟩
theorem own_of_row {w : World} {base : Nat} {v : Value} {n : Nat} {xs : List Int} (hl : xs.length = n) (hn : n < 1152921504606846976) (h : w.ownsRow base 3 1 v n (xs.map (Value.int .i64))) (h0 : 0 < n) :
    ∃ g c, v = .slice (some ⟨g, 0, none⟩) n c ∧ base ≤ g ∧ n ≤ c ∧ OwnS w g n xs := by
  rcases h.2 with ⟨_, h1⟩ | ⟨g, cap, cur, rfl, hb, hg, hnc, _, _, ht⟩
  · omega
  · refine ⟨g, cap, rfl, hb, hnc, hl, hn, cur.toList.drop (n * 1), ?_⟩
    rw [← ht, List.take_append_drop]; exact hg
def NewOwn (w : World) (n : Nat) (xs : List Int) (e : Ending) (w' : World) : Prop := ∃ g c, e = .returned (.slice (some ⟨g, 0, none⟩) n c) ∧ w.heap.size ≤ g ∧ n ≤ c ∧ OwnS w' g n xs ∧ Gr w w'
set_option maxHeartbeats 1000000 in
theorem cloneOwn_any (a : Option Addr) (n c : Nat) (xs : List Int) (w : World) (hx : Ints w a n xs) (h0 : 0 < n) (hn : n ≤ 1000000) : Calls Try.prog 54 #[.slice a n c] w (NewOwn w n xs) := by
  obtain ⟨ad, rfl, hab, _⟩ := hx.at h0
  obtain ⟨i0, hi, hz0, hz1, hz2⟩ := info_parts Try.info3
  have hnil := fun w a n c => Lib.run_eql_slice_nil (P := Try.prog) w 26 3 a n c 0 0 Try.underlying26
  have hg := Gr.alloc w (.cells #[] 3)
  have hxg := hx.gr hg
  have hown : (w.alloc (.cells #[] 3)).ownsRow w.heap.size 3 1 (.slice (some ⟨w.heap.size, 0, none⟩) 0 0) 0 [] := ⟨rfl, .inr ⟨w.heap.size, 0, #[], rfl, Nat.le_refl _, heap_alloc_new w _, Nat.le_refl _, by unfold maxLen; omega, rfl, rfl⟩⟩
  have HOWN := Lib.hid hown
  clear hown
  go_enter Try.func54, Try.ntmps54
  go_wp2_with (at_builtin; refine wpList_append_own _ rfl _ _ 26 rfl w.heap.size 3 i0 (.int .i64 0) 1 8 Try.underlying26 hi hz0 hz1 hz2 rfl (by decide) _ _ _ rfl HOWN.out ad n c (xs.map (Value.int .i64)) rfl (by rw [List.length_map, hx.len, Nat.mul_one]) hxg.cells (ints_one xs) (by unfold maxLen; omega) (by omega) (by simp) ?_; intro v' w1 hown' hgrow _)
  have hown2 : w1.ownsRow w.heap.size 3 1 v' n (xs.map (Value.int .i64)) := by simpa using hown'
  obtain ⟨g, c', rfl, hge, hnc, how⟩ := own_of_row hx.len (by omega) hown2 h0
  go_wp2
  go_ret
  have hgr : Gr w w1 := Below.grown hg hgrow (Gr.size hg) (fun k hk => by cases hk; exact Nat.le_refl _)
  exact ⟨g, c', rfl, hge, hnc, how, hgr⟩
end
section
open Go.RowKit
namespace Y
variable {P : Program} {W W' : World}

theorem addr_add (g i j : Nat) : (⟨g, i, none⟩ : Addr).add j = ⟨g, i + j, none⟩ := by
  unfold Addr.add; split
  · subst_vars; rfl
  · rfl
/-- a block of N cells: what each holds -/
def Own (W : World) (b N : Nat) (val : Nat → Value) : Prop := ∃ cs t, W.heap[b]? = some (.cells cs t (0, 0)) ∧ cs.size = N ∧ ∀ k, k < N → cs[k]? = some (val k)
section
variable {b N : Nat} {val : Nat → Value}
theorem Own.lt (h : Own W b N val) : b < W.heap.size := by
  obtain ⟨_, _, h, _⟩ := h
  exact (Array.getElem?_eq_some_iff.1 h).1
theorem Own.only {S : Nat → Prop} (h : Own W b N val) (g : Only S W W') (hs : ¬ S b) : Own W' b N val := by
  have hlt := h.lt
  obtain ⟨cs, t, h1, h2⟩ := h
  exact ⟨cs, t, (g.block b hlt hs).trans h1, h2⟩
theorem Own.gr (h : Own W b N val) (g : Gr W W') : Own W' b N val := h.only (g.only (fun _ => False)) (fun h => h)
theorem Own.cell (h : Own W b N val) {k : Nat} (hk : k < N) : W.cell? ⟨b, k, none⟩ = some (val k) := by
  obtain ⟨cs, t, h1, _, h3⟩ := h
  exact cell_at h1 (h3 k hk)
theorem Own.fz (h : Own W b N val) (k : Nat) : W.frozen? ⟨b, k, none⟩ = false := by
  obtain ⟨cs, t, h1, _⟩ := h
  unfold World.frozen?
  simp [h1]
theorem Own.set (h : Own W b N val) {k : Nat} (v : Value) : Own (W.setCell ⟨b, k, none⟩ v) b N (fun j => if j = k then v else val j) := by
  obtain ⟨cs, t, h1, h2, h3⟩ := h
  refine ⟨cs.setIfInBounds k v, t, heap_setCell_same W b k cs t v h1, by simpa using h2, fun j hj => ?_⟩
  show _ = some (if j = k then v else val j)
  by_cases e : j = k
  · subst e; rw [if_pos rfl, Array.getElem?_setIfInBounds_self_of_lt (by omega)]
  · rw [if_neg e, Array.getElem?_setIfInBounds_ne (Ne.symm e)]; exact h3 j hj
theorem Own.congr {val' : Nat → Value} (h : Own W b N val) (he : ∀ k, k < N → val k = val' k) : Own W b N val' := by
  obtain ⟨cs, t, h1, h2, h3⟩ := h
  exact ⟨cs, t, h1, h2, fun k hk => by rw [h3 k hk, he k hk]⟩
theorem Own.new {cs : Array Value} {t : TypeId} (h : W.heap[b]? = some (.cells cs t)) (hn : cs.size = N) (hv : ∀ k, k < N → cs[k]? = some (val k)) : Own W b N val := ⟨cs, t, h, hn, hv⟩
theorem set_only (W : World) (b k : Nat) (v : Value) : Only (fun x => x = b) W (W.setCell ⟨b, k, none⟩ v) := Only.setCell (S := fun x => x = b) (Only.refl _ _) (p := ⟨b, k, none⟩) (.inl rfl) v
/-- what was there before the block was made stays -/
theorem Only.up {wb : World} (g : Gr wb W) (h : Only (fun x => x = b) W W') (hb : wb.heap.size ≤ b) : Gr wb W' :=
  ((g.only (fun x => wb.heap.size ≤ x)).trans (h.mono' (fun i e => by subst e; exact hb))).gr (fun i hi e => by omega)

/-- a cell that is written -/
theorem Own.st1 {t : TypeId} {k : Nat} {v : Value} (h : Own W b N val) (hS : (sizeOf t).run P W = .ok 1 W) (hv : v.cells = #[v]) (hv1 : v.oneCell' = true) (hk : k < N) :
    ∃ W', (Instr.storeAt t (.pointer (some ⟨b, k, none⟩)) v).run P W = .ok () W' ∧ Own W' b N (fun j => if j = k then v else val j) ∧ Only (fun x => x = b) W W' :=
  ⟨_, Y.st1 hS hv hv1 (h.cell hk) (h.fz k), h.set v, set_only _ _ _ _⟩
end
theorem bd {o : Oper} {ρ : Operand → Value} {t : TypeId} {xs : Array (Nat × Operand)} {vs : List (Nat × Value)} {v : Value} (ho : o.op = .build t xs) (hx : xs.toList.map (fun p => (p.1, ρ p.2)) = vs) (hr : (Instr.build t vs.toArray).run P W = .ok v W') : (execOp ρ o).run P W = .ok (.value v) W' := by
  unfold execOp; rw [ho]
  have : (xs.map fun (i, x) => (i, ρ x)) = vs.toArray := by
    cases xs with
    | mk l => subst hx; simp
  simp only [this]; exact X.run_v hr
theorem b3 {ρ : Operand → Value} {x y z : Operand} {v1 v2 v3 : Value} (h1 : ρ x = v1) (h2 : ρ y = v2) (h3 : ρ z = v3) : [(0, x), (1, y), (2, z)].map (fun p : Nat × Operand => (p.1, ρ p.2)) = [(0, v1), (1, v2), (2, v3)] := by simp [h1, h2, h3]

/-- what is held in a region whose last operation is its only store -/
def RT (w : World) (Pr : List (Nat × MP)) (s : Nat) (T : (Nat → Value) → World → Prop) : (Nat → Bool) → (Nat → Value) → World → Prop := fun done u W => (done s = false → RP w Pr done u W) ∧ (done s = true → T u W)
theorem RT.of {w : World} {Pr : List (Nat × MP)} {s i : Nat} {T : (Nat → Value) → World → Prop} {done : Nat → Bool} {u : Nat → Value} (hs : done s = false) (hi : (s == i) = false) (h : RP w Pr (upd done i) u W) : RT w Pr s T (upd done i) u W :=
  ⟨fun _ => h, fun h2 => by rw [upd_ne (by simpa using hi), hs] at h2; cases h2⟩
theorem RT.fin {w : World} {Pr : List (Nat × MP)} {s : Nat} {T : (Nat → Value) → World → Prop} {done : Nat → Bool} {u : Nat → Value} (h : T u W) : RT w Pr s T (upd done s) u W :=
  ⟨fun h2 => absurd h2 (by rw [upd_self]; decide), fun _ => h⟩
theorem regionS {ro : Option Nat} {n : Nat} {L : List (Nat × Value)} {D : List Deferred} {Q : Exit → Act → World → Prop} {id : Nat} {l : List Oper} {d : Bool} {w : World} {a : Act} (F : Fr a n L D) (vs : List (Option Value)) (Pr : List (Nat × MP)) (s : Nat) (T : (Nat → Value) → World → Prop) (hm : P.follows .mixedOrders = true) (ok : RegOk l vs n) (hsl : s < l.length)
    (hstep : AllIdx (StepX P l vs L Q (RT w Pr s T)) l 0)
    (hfin : ∀ (A : Act) (u : Nat → Value) (W : World), A.tmps.size = n → A.defers = D → (∀ s v, lastAt l vs L s = some v → A.tmps[s]? = some v) → (∀ j d, ((l[j]?).bind fun o : Oper => o.dst) = some d → A.tmps[d]? = some (u j)) → T u W → Q .normal A W) :
    (Code.region id l.toArray d).wpIn (FW ro) 0 P Q a w :=
  region_xi F vs (RT w Pr s T) hm ok (fun _ => ⟨⟨fun _ => ⟨Gr.refl _, fun _ _ _ h => by cases h⟩, fun h => by cases h⟩, ⟨fun _ => ⟨Gr.drew _, fun _ _ _ h => by cases h⟩, fun h => by cases h⟩⟩) hstep
    (fun A u W h1 h2 h3 h4 h5 => hfin A u W h1 h2 h3 h4 (h5.2 (by simpa using hsl)))
end Y
end
section
open Go.RowKit
end
section
open Go.RowKit






section
variable {w3 w0 : World} {pre : List Int} {v : Int} {vv : Value} {acc rec : List (List Int)} {done : Nat → Bool} {u : Nat → Value} {W : World}
end
end
section
open Go.RowKit
namespace Y






variable {N : Nat} {L : List (Nat × Value)} {g : Operand} {pt : Tmp} {body : Code} {Q : Exit → Act → World → Prop} {A : Act} {w wB : World} {S Y : Nat → Prop} {f : Fl} {ta ca fa toa : Option Addr} {tn tc cn cc n fc toc : Nat} {lo hi : List Int} {bfr bfl bto : Nat}

end Y
end
section
open Go.RowKit


theorem Y.lenS {P : Program} {W : World} {o : Oper} {ρ : Operand → Value} {x : Operand} {tx : TypeId} {s : ByteArray} (hu : P.underlying tx = some .string) (ho : o.op = .call { callee := .builtin .len, args := #[x], argTypes := #[tx] }) (hx : ρ x = .string s) : (execOp ρ o).run P W = .ok (.value (.int .i64 (s.size : Nat))) W := by
  unfold execOp; rw [ho]; simp [hx, resolve, invoke, builtin, Builtin.len_, run_underlying hu, go_sem]
/-- four cells -/
def lv4 (a b c d : Value) (k : Nat) : Value := if k = 0 then a else if k = 1 then b else if k = 2 then c else d
theorem lv4_new {W : World} {b : Nat} {t : TypeId} {x0 x1 x2 x3 : Value} (h : W.heap[b]? = some (.cells #[x0, x1, x2, x3] t)) : Y.Own W b 4 (lv4 x0 x1 x2 x3) := Y.Own.new h rfl (fun k hk => by
  have : k = 0 ∨ k = 1 ∨ k = 2 ∨ k = 3 := by omega
  rcases this with rfl | rfl | rfl | rfl <;> rfl)
theorem lv4_one {W' : World} {b k : Nat} {x0 x1 x2 x3 v y0 y1 y2 y3 : Value} (h : Y.Own W' b 4 (fun j => if j = k then v else lv4 x0 x1 x2 x3 j)) (h0 : (if 0 = k then v else x0) = y0) (h1 : (if 1 = k then v else x1) = y1) (h2 : (if 2 = k then v else x2) = y2) (h3 : (if 3 = k then v else x3) = y3) : Y.Own W' b 4 (lv4 y0 y1 y2 y3) :=
  h.congr (fun j hj => by
    have : j = 0 ∨ j = 1 ∨ j = 2 ∨ j = 3 := by omega
    subst h0 h1 h2 h3
    rcases this with rfl | rfl | rfl | rfl <;> rfl)
theorem lv4_st {P : Program} {W : World} {b : Nat} {t : TypeId} {x0 x1 x2 x3 y0 y1 y2 y3 : Value} (h : Y.Own W b 4 (lv4 x0 x1 x2 x3)) (hS : (sizeOf t).run P W = .ok 4 W) (k0 : y0.oneCell' = true) (k1 : y1.oneCell' = true) (k2 : y2.oneCell' = true) (k3 : y3.oneCell' = true) :
    ∃ W', (Instr.storeAt t (.pointer (some ⟨b, 0, none⟩)) (.agg #[y0, y1, y2, y3])).run P W = .ok () W' ∧ Y.Own W' b 4 (lv4 y0 y1 y2 y3) ∧ Only (fun x => x = b) W W' := by
  have h0 := h.set (k := 0) y0
  have h1 := h0.set (k := 1) y1
  have h2 := h1.set (k := 2) y2
  have h3 := h2.set (k := 3) y3
  refine ⟨_, ?_, h3.congr (fun j hj => by
    have : j = 0 ∨ j = 1 ∨ j = 2 ∨ j = 3 := by omega
    rcases this with rfl | rfl | rfl | rfl <;> rfl), (((Y.set_only _ _ _ _).trans (Y.set_only _ _ _ _)).trans (Y.set_only _ _ _ _)).trans (Y.set_only _ _ _ _)⟩
  have c0 := h.cell (k := 0) (by omega)
  have f0 := h.fz 0
  have c1 := h0.cell (k := 1) (by omega)
  have f1 := h0.fz 1
  have c2 := h1.cell (k := 2) (by omega)
  have f2 := h1.fz 2
  have c3 := h2.cell (k := 3) (by omega)
  have f3 := h2.fz 3
  have e0 : (⟨b, 0, none⟩ : Addr).add 0 = ⟨b, 0, none⟩ := rfl
  have e1 : (⟨b, 0, none⟩ : Addr).add 1 = ⟨b, 1, none⟩ := rfl
  have e2 : (⟨b, 0, none⟩ : Addr).add 2 = ⟨b, 2, none⟩ := rfl
  have e3 : (⟨b, 0, none⟩ : Addr).add 3 = ⟨b, 3, none⟩ := rfl
  simp [Instr.storeAt, storeVar, Instr.sureAddr, hS, storeCells, Value.cells, run_store, k0, k1, k2, k3, go_sem, e0, e1, e2, e3, c0, f0, c1, f1, c2, f2, c3, f3]
end
section
set_option linter.unusedVariables false
section
/-- short names for what the printed walks say over and over -/
abbrev Vi (x : Int) : Value := .int .i64 x
abbrev Vp (b : Nat) : Value := .pointer (some ⟨b, 0, none⟩)
abbrev Ad (b k : Nat) : Addr := ⟨b, k, none⟩
set_option linter.unusedVariables false
section
open Go.RowKit

end
section
open Go.RowKit

end
section
open Go.RowKit
end
section
open Go.RowKit

end
end
section
set_option linter.unusedVariables false
section
set_option linter.unusedVariables false
open Go.RowKit

theorem Fr.e {a : Act} {n : Nat} {L : List (Nat × Value)} {D : List Deferred} (h : Fr a n L D) (s : Nat) {v : Value} (hl : lookS L s = some v) : a.eval (.tmp s) = v := eval_of (h.look hl)

end
section
open Go.RowKit
namespace X
variable {P : Program} {o : Oper} {ρ : Operand → Value} {W W' : World}

section
variable {l : List Oper} {vs : List (Option Value)} {Q : Exit → Act → World → Prop} {R : (Nat → Bool) → (Nat → Value) → World → Prop} {i : Nat} {A : Act} {done : Nat → Bool} {u : Nat → Value} {y : Nat → Option Bool}
end

end X
end
section
open Go.RowKit
namespace X
variable {P : Program}

end X
end
section
open Go.RowKit
namespace X
variable {P : Program} {ops : Array Oper} {Q : Exit → Act → World → Prop} {o : Oper} {rest : List Oper} {A : Act} {W W' : World} {n : Nat} {L : List (Nat × Value)} {D : List Deferred}

end X
end
end
section
set_option linter.unusedVariables false
section
open Go.RowKit

end
section
open Go.RowKit
namespace Y
variable {ro : Option Nat} {P : Program} {ops : Array Oper} {Q : Exit → Act → World → Prop} {o : Oper} {rest : List Oper} {A : Act} {W W' : World} {n : Nat} {L : List (Nat × Value)} {D : List Deferred}

section
variable {w : World} {Pr : List (Nat × MP)} {done : Nat → Bool} {u : Nat → Value}
end
end Y
end
section
open Go.RowKit
namespace Y
variable {P : Program} {W W' : World}

section
variable {b N : Nat} {val : Nat → Value}
end
end Y
section
variable {P : Program} {A : Act} {W W' : World} {Q : Exit → Act → World → Prop} {n : Nat} {L : List (Nat × Value)} {D : List Deferred} {ops : Array Oper} {o : Oper} {rest : List Oper}
theorem Y.pv {v : Value} (F : Fr A n L D) (hrun : (execOp A.eval o).run P W = .ok (.value v) W') (h : ∀ A', Fr A' n (X.putS L o.dst v) D → wpL P ops Q rest A' W') (hg : o.guard = none := by exact rfl) (hd : (match o.dst with | some d => decide (d < n) | none => true) = true := by exact rfl) : wpL P ops Q (o :: rest) A W :=
  Y.pval F (X.w0 hg) hd hrun h
theorem X.vl {R : (Nat → Bool) → (Nat → Value) → World → Prop} {vs : List (Option Value)} {i : Nat} {done : Nat → Bool} {u : Nat → Value} {y : Nat → Option Bool} {v : Value} (hrun : (execOp A.eval o).run P W = .ok (.value v) W') (hR : R (upd done i) (fun j => if j = i then v else u j) W') (hg : o.guard = none := by exact rfl) (hv : vs[i]? = some (some v) := by exact rfl) :
    if Region.wanted o y then ∀ K : Act → World → Prop, (∀ v W', (∀ x, vs[i]? = some (some x) → v = x) → R (upd done i) (fun j => if j = i then v else u j) W' → K (A.put o.dst v) W') → o.wp P A W K Q
    else (vs[i]? = some none ∧ R (upd done i) (fun j => if j = i then undef else u j) W) := X.val (X.w0 hg) hv hrun hR
theorem Y.RP.st0 {w : World} {Pr : List (Nat × Y.MP)} {done : Nat → Bool} {u : Nat → Value} {i : Nat} {v : Value} (h : Y.RP w Pr done u W) (hi : Pr.lookup i = none := by exact rfl) : Y.RP w Pr (upd done i) (fun j => if j = i then v else u j) W := h.step (Gr.refl _) hi
end
end
section
open Go.RowKit

end
end
section
set_option linter.unusedVariables false
open Go.RowKit

def shlV (x y : Int) : Int := IntKind.i64.wrap (x * 2 ^ (min y.toNat 64))
theorem X.shlI {P : Program} {W : World} {t : TypeId} {k : IntKind} (_hu : P.underlying t = some (.int .i64)) {x y : Operand} {p q z : Int} (hz : shlV p q = z) (h0 : 0 ≤ q) : (do eqGuard .shl t x y (.int .i64 p) (.int k q); binOp .shl t (.int .i64 p) (.int k q) : Sem Value).run P W = .ok (.int .i64 z) W := by
  have h : ¬ q < 0 := by omega
  subst hz; simp [eqGuard, binOp, Op.shift, go_sem, h, shlV, IntKind.bits]
/-- a row of structures: k numbers each -/
def StAt (w : World) (k : Nat) (a : Option Addr) (n : Nat) (L : List (List Int)) : Prop :=
  L.length = n ∧ n * k * 8 ≤ 140737488351232 ∧ ∀ j, j < n → ∃ ad, a = some ad ∧ ad.block < w.heap.size ∧ (L[j]?.getD []).length = k ∧ ∀ r, r < k → w.cell? ((ad.add (j * k)).add r) = some (.int .i64 ((L[j]?.getD [])[r]?.getD 0))
theorem StAt.at {w : World} {k : Nat} {a : Option Addr} {n : Nat} {L : List (List Int)} (h : StAt w k a n L) {j : Nat} (hj : j < n) : ∃ ad, a = some ad ∧ ad.block < w.heap.size ∧ (L[j]?.getD []).length = k ∧ ∀ r, r < k → w.cell? ((ad.add (j * k)).add r) = some (.int .i64 ((L[j]?.getD [])[r]?.getD 0)) := h.2.2 j hj
theorem StAt.gr {w w' : World} {k : Nat} {a : Option Addr} {n : Nat} {L : List (List Int)} (h : StAt w k a n L) (g : Gr w w') : StAt w' k a n L :=
  ⟨h.1, h.2.1, fun j hj => by
    obtain ⟨ad, e, hb, hl, hc⟩ := h.2.2 j hj
    exact ⟨ad, e, Nat.lt_of_lt_of_le hb g.size, hl, fun r hr => (g.cell (by rw [add_block, add_block]; exact hb)).trans (hc r hr)⟩⟩
/-- the number at a place of a row -/
def cv (L : List (List Int)) (i r : Nat) : Int := (L[i]?.getD [])[r]?.getD 0

/-- a block, of which the first n cells hold these -/
def OwnP (W : World) (b n : Nat) (val : Nat → Value) : Prop := ∃ cs t, W.heap[b]? = some (.cells cs t (0, 0)) ∧ n ≤ cs.size ∧ ∀ k, k < n → cs[k]? = some (val k)
section
variable {W W' : World} {b n : Nat} {val : Nat → Value} {P : Program}
theorem OwnP.only {S : Nat → Prop} (h : OwnP W b n val) (g : Only S W W') (hs : ¬ S b) : OwnP W' b n val := by
  obtain ⟨cs, t, h1, h2, h3⟩ := h
  exact ⟨cs, t, (g.block b (Array.getElem?_eq_some_iff.1 h1).1 hs).trans h1, h2, h3⟩
theorem OwnP.cell (h : OwnP W b n val) {k : Nat} (hk : k < n) : W.cell? ⟨b, k, none⟩ = some (val k) := by
  obtain ⟨cs, t, h1, _, h3⟩ := h
  exact cell_at h1 (h3 k hk)
theorem OwnP.fz (h : OwnP W b n val) (k : Nat) : W.frozen? ⟨b, k, none⟩ = false := by
  obtain ⟨cs, t, h1, _⟩ := h
  unfold World.frozen?
  simp [h1]
theorem OwnP.set (h : OwnP W b n val) {k : Nat} (v : Value) : OwnP (W.setCell ⟨b, k, none⟩ v) b n (fun j => if j = k then v else val j) := by
  obtain ⟨cs, t, h1, h2, h3⟩ := h
  refine ⟨cs.setIfInBounds k v, t, heap_setCell_same W b k cs t v h1, by simpa using h2, fun j hj => ?_⟩
  show _ = some (if j = k then v else val j)
  by_cases e : j = k
  · subst e; rw [if_pos rfl, Array.getElem?_setIfInBounds_self_of_lt (by omega)]
  · rw [if_neg e, Array.getElem?_setIfInBounds_ne (Ne.symm e)]; exact h3 j hj
theorem OwnP.congr {val' : Nat → Value} (h : OwnP W b n val) (he : ∀ k, k < n → val k = val' k) : OwnP W b n val' := by
  obtain ⟨cs, t, h1, h2, h3⟩ := h
  exact ⟨cs, t, h1, h2, fun k hk => by rw [h3 k hk, he k hk]⟩
theorem OwnP.st1 {t : TypeId} {k : Nat} {v : Value} (h : OwnP W b n val) (hS : (sizeOf t).run P W = .ok 1 W) (hv : v.cells = #[v]) (hv1 : v.oneCell' = true) (hk : k < n) :
    (Instr.storeAt t (.pointer (some ⟨b, k, none⟩)) v).run P W = .ok () (W.setCell ⟨b, k, none⟩ v) := Y.st1 hS hv hv1 (h.cell hk) (h.fz k)
end
end
section
set_option linter.unusedVariables false
open Go.RowKit
end
section
set_option linter.unusedVariables false
open Go.RowKit
namespace Y
variable {P : Program} {W W' : World} {o : Oper} {ρ : Operand → Value}
theorem min2 {x y : Operand} {ats : Array TypeId} {p q : Int} (ho : o.op = .call { callee := .builtin .min, args := #[x, y], argTypes := ats }) (hx : ρ x = .int .i64 p) (hy : ρ y = .int .i64 q) : (execOp ρ o).run P W = .ok (.value (.int .i64 (min p q))) W := by
  have e : (if q < p then q else p) = min p q := by split <;> omega
  simp [execOp, ho, hx, hy, resolve, invoke, builtin, Builtin.min_, Builtin.min2, go_sem, e]
theorem nilC {x : Operand} {p : Addr} (ho : o.op = .nilCheck x) (hx : ρ x = .pointer (some p)) : (execOp ρ o).run P W = .ok (.value (.pointer (some p))) W := by
  simp [execOp, ho, hx, go_sem]
theorem fnc {fn : Fn} {xs : Array Operand} {vs : Array Value} (ho : o.op = .makeFunc fn #[] xs) (hx : xs.map ρ = vs) : (execOp ρ o).run P W = .ok (.value (.func fn #[] vs)) W := by
  simp [execOp, ho, hx, Instr.makeFunc, go_sem]
theorem idxA {t e : TypeId} {p : Addr} {n k sz : Nat} (hu : P.underlying t = some (.array n e)) (hS : (sizeOf e).run P W = .ok sz W) (h1 : 1 < n) (hk : k < n) {z : Int} (hz : z = (k : Int)) {q : Addr} (hq : p.add (k * sz) = q) : (Instr.indexAt t (.pointer (some p)) (.int .i64 z)).run P W = .ok (.pointer (some q)) W := by
  subst hz hq
  have h2 : (0 : Int) ≤ k ∧ (k : Int) < n := by omega
  simp [Instr.indexAt, Instr.sureAddr, run_underlying hu, hS, asIntOf, h2, go_sem]
  intro h; omega
/-- the cells from a place on hold these -/
def AtFrom (W : World) (p : Addr) (k : Nat) (vs : List Value) : Prop := ∀ j v, vs[j]? = some v → W.cell? (p.add (k + j)) = some v
theorem AtFrom.nil (W : World) (p : Addr) (k : Nat) : AtFrom W p k [] := fun j v h => by simp at h
theorem AtFrom.cons {p : Addr} {k : Nat} {v : Value} {vs : List Value} (h : W.cell? (p.add k) = some v) (t : AtFrom W p (k + 1) vs) : AtFrom W p k (v :: vs) := fun j u hj => by
  cases j with
  | zero => simp at hj; subst hj; exact h
  | succ j => have := t j u (by simpa using hj); rwa [show k + 1 + j = k + (j + 1) by omega] at this
theorem AtFrom.z {p : Addr} {vs : List Value} (h : AtFrom W p 0 vs) : ∀ j v, vs[j]? = some v → W.cell? (p.add j) = some v := fun j v hj => by have := h j v hj; rwa [Nat.zero_add] at this
theorem atz {vs : List Value} (p : Addr) (h : AtFrom W p 0 vs) : ∀ j v, vs[j]? = some v → W.cell? (p.add j) = some v := h.z
theorem alloc_set (W : World) (cs : Array Value) (T : TypeId) (i : Nat) (v : Value) : (W.alloc (.cells cs T)).setCell ⟨W.heap.size, i, none⟩ v = W.alloc (.cells (cs.setIfInBounds i v) T) := by
  unfold World.alloc World.setCell
  congr 1
  apply Array.ext
  · simp
  · intro j h1 h2
    rw [Array.getElem_modify]
    by_cases e : W.heap.size = j
    · subst e; simp
    · rw [if_neg e]
      have hj : j < W.heap.size := by simp at h2; omega
      rw [Array.getElem_push_lt hj, Array.getElem_push_lt hj]
theorem fresh_fz (W : World) (cs : Array Value) (T : TypeId) (i : Nat) : (W.alloc (.cells cs T)).frozen? ⟨W.heap.size, i, none⟩ = false := by
  have := World.alloc_heap_new W (.cells cs T)
  unfold World.frozen?
  simp only [this]
  simp
theorem store_fill (T : TypeId) : ∀ (rest zs pre : List Value), zs.length = rest.length → (∀ v ∈ rest, v.oneCell' = true) →
    (storeCells ⟨W.heap.size, 0, none⟩ rest pre.length).run P (W.alloc (.cells (pre ++ zs).toArray T)) = .ok () (W.alloc (.cells (pre ++ rest).toArray T)) := by
  intro rest
  induction rest with
  | nil => intro zs pre h _; simp at h; subst h; simp [storeCells, go_sem]
  | cons v rest ih =>
    intro zs pre h h1
    cases zs with
    | nil => simp at h
    | cons z zs =>
      have hc : (W.alloc (.cells (pre ++ z :: zs).toArray T)).cell? ⟨W.heap.size, pre.length, none⟩ = some z := cell_new (by simp)
      have hs := run_store P (W.alloc (.cells (pre ++ z :: zs).toArray T)) ⟨W.heap.size, pre.length, none⟩ v .plain (h1 v (by simp))
      rw [hc, fresh_fz] at hs
      simp only [Bool.false_eq_true, if_false] at hs
      have e : (pre ++ z :: zs).toArray.setIfInBounds pre.length v = ((pre ++ [v]) ++ zs).toArray := by simp
      rw [alloc_set, e] at hs
      have hi := ih zs (pre ++ [v]) (by simpa using h) (fun u hu => h1 u (by simp [hu]))
      have e2 : (pre ++ [v]).length = pre.length + 1 := by simp
      have e3 : (pre ++ [v]) ++ rest = pre ++ v :: rest := by simp
      rw [e2, e3] at hi
      have e4 : (⟨W.heap.size, 0, none⟩ : Addr).add pre.length = ⟨W.heap.size, pre.length, none⟩ := addr_add0 _ _
      simp [storeCells, e4, hs, go_sem]
      simpa using hi
/-- a variable that is made and filled -/
theorem stNew {t T : TypeId} (vs zs : List Value) (hS : (sizeOf t).run P (W.alloc (.cells zs.toArray T)) = .ok vs.length (W.alloc (.cells zs.toArray T))) (hl : zs.length = vs.length) (h1 : (vs.all fun v => v.oneCell') = true) :
    (Instr.storeAt t (.pointer (some ⟨W.heap.size, 0, none⟩)) (.agg vs.toArray)).run P (W.alloc (.cells zs.toArray T)) = .ok () (W.alloc (.cells vs.toArray T)) := by
  have h := store_fill (P := P) (W := W) T vs zs [] hl (fun v hv => List.all_eq_true.1 h1 v hv)
  simp only [List.nil_append, List.length_nil] at h
  simp [Instr.storeAt, storeVar, Instr.sureAddr, hS, Value.cells, go_sem]
  exact h
theorem m1 {x : Operand} {v : Value} (h : ρ x = v) : #[x].map ρ = #[v] := by simp [h]
end Y
end
section
set_option linter.unusedVariables false
open Go.RowKit
/-- the slice v, of the call's own, with n elements of k cells -/
def OwnR (w : World) (B e k : Nat) (v : Value) (n : Nat) (xs : List Value) : Prop := w.ownsRow B e k v n xs
section
variable {w w' : World} {B e k n : Nat} {v : Value} {xs : List Value}
theorem OwnR.nil (w : World) (B e k : Nat) : OwnR w B e k (.slice none 0 0) 0 [] := World.ownsRow_nil w B e k
theorem OwnR.ge (h : OwnR w B e k v n xs) {b : Nat} (hb : v.ownBlock = some b) : B ≤ b ∧ b < w.heap.size := by
  rcases h.2 with ⟨rfl, _⟩ | ⟨g, cap, cur, rfl, h2, h3, _⟩
  · simp [Value.ownBlock] at hb
  · simp [Value.ownBlock] at hb; subst hb; exact ⟨h2, (Array.getElem?_eq_some_iff.1 h3).1⟩
theorem OwnR.only {S : Nat → Prop} (h : OwnR w B e k v n xs) (g : Only S w w') (hs : ∀ b, v.ownBlock = some b → ¬ S b) : OwnR w' B e k v n xs := by
  refine ⟨h.1, ?_⟩
  rcases h.2 with h2 | ⟨b, cap, cur, h1, h2, h3, h4⟩
  · exact .inl h2
  · exact .inr ⟨b, cap, cur, h1, h2, (g.block b (Array.getElem?_eq_some_iff.1 h3).1 (hs b (by rw [h1]; rfl))).trans h3, h4⟩
theorem OwnR.gr (h : OwnR w B e k v n xs) (g : Gr w w') : OwnR w' B e k v n xs := h.only (g.only (fun _ => False)) (fun _ _ h => h)
theorem OwnR.shape (h : OwnR w B e k v n xs) : (v = .slice none 0 0 ∧ n = 0) ∨ ∃ g c, v = .slice (some ⟨g, 0, none⟩) n c ∧ B ≤ g ∧ g < w.heap.size := by
  rcases h.2 with h2 | ⟨g, cap, cur, h1, h2, h3, h4⟩
  · exact .inl h2
  · exact .inr ⟨g, cap, h1, h2, (Array.getElem?_eq_some_iff.1 h3).1⟩
theorem OwnR.ownP {g c : Nat} (h : OwnR w B e k (.slice (some ⟨g, 0, none⟩) n c) n xs) {val : Nat → Value} (hv : ∀ j u, xs[j]? = some u → u = val j) : OwnP w g (n * k) val := by
  rcases h.2 with ⟨h2, _⟩ | ⟨g', cap, cur, h1, h2, h3, h4, h5, h6, h7⟩
  · cases h2
  · injection h1 with h1 _ h1c
    injection h1 with h1
    injection h1 with h1
    subst h1
    refine ⟨cur, e, h3, by rw [h6]; exact Nat.mul_le_mul_right _ h4, fun j hj => ?_⟩
    have hl := h.1
    have hx : xs[j]? = some xs[j] := List.getElem?_eq_getElem (by omega)
    have h8 : (cur.toList.take (n * k))[j]? = some xs[j] := by rw [h7]; exact hx
    rw [List.getElem?_take_of_lt hj] at h8
    rw [← hv j _ hx]
    simpa using h8
/-- the numbers of a list of the call's own -/
theorem OwnR.ints {zs : List Int} (h : OwnR w B e 1 v zs.length (zs.map (Value.int .i64))) (hl : zs.length < 1152921504606846976) : ∃ a c, v = .slice a zs.length c ∧ Ints w a zs.length zs := by
  rcases h.2 with ⟨rfl, h0⟩ | ⟨g, cap, cur, rfl, _, h3, hnc, _⟩
  · exact ⟨none, 0, by rw [h0], ⟨rfl, hl, fun j hj => by omega⟩⟩
  · refine ⟨some ⟨g, 0, none⟩, cap, rfl, ⟨rfl, hl, fun j hj => ?_⟩⟩
    exact ⟨⟨g, 0, none⟩, rfl, (Array.getElem?_eq_some_iff.1 h3).1, World.ownsRow.cells h (g := g) rfl j _ (by simp [hj])⟩
end
theorem cells_at {w : World} {g : Nat} {vs : List Value} {t : TypeId} (h : w.heap[g]? = some (.cells vs.toArray t)) : ∀ j u, vs[j]? = some u → w.cell? ((⟨g, 0, none⟩ : Addr).add j) = some u := by
  intro j u hj
  rw [addr_add0]
  exact cell_at h (by simpa using hj)
/-- append to a slice of the call's own -/
theorem wp_pushV {P : Program} {o : Oper} {a : Act} {W : World} {K : Act → World → Prop} {Q : Exit → Act → World → Prop} {s x : Operand} {ts e k bytes B n m c : Nat} {z v : Value} {xs news : List Value} {ad : Addr}
    (hu : P.underlying ts = some (.slice e)) (hinfo : (P.info? e).map (fun i => (i.zero, i.size, i.bytes)) = some (some z, k, bytes)) (hzs : z.cells.size = k) (h0 : 0 < k)
    (ho : o.op = .call { callee := .builtin .append, args := #[s, x], argTypes := #[ts, ts] }) (hs : a.eval s = v) (hx : a.eval x = .slice (some ad) m c) (hO : OwnR W B e k v n xs)
    (hl : news.length = m * k) (hnews : ∀ j u, news[j]? = some u → W.cell? (ad.add j) = some u) (h1 : (news.all fun u => u.oneCell') = true) (hmax : n + m ≤ 1000000) (hbt : bytes ≤ 1000) (hB : B ≤ W.heap.size)
    (h : ∀ v' w', OwnR w' B e k v' (n + m) (xs ++ news) → Only (fun b => v.ownBlock = some b) W w' → (v'.ownBlock = v.ownBlock ∨ v'.ownBlock = some W.heap.size) → K (a.put o.dst v') w') : o.wp P a W K Q := by
  obtain ⟨i0, hi, hz, hsz, hby⟩ := info_parts hinfo
  have hb : (n + m) * bytes ≤ 140737488355328 := by
    have := Nat.mul_le_mul hmax hbt
    omega
  obtain ⟨v', w', hr, hown', hgrow, _, hat⟩ := run_append_own_at (P := P) W B ts o.type e i0 z k bytes hu hi hz hsz hby hzs h0 v n xs hO ad m c news hl hnews (fun u hu => List.all_eq_true.1 h1 u hu) (by unfold maxLen; omega) hb hB
  have hrun : (execOp a.eval o).run P W = .ok (.value v') w' := by
    unfold execOp
    simp only [ho, resolve, invoke, builtin, Sem.run_bind, Sem.run_pure, Result.andThen_ok, List.map_toArray, List.map_cons, List.map_nil, hs, hx, hr]
  unfold Oper.wp
  rw [hrun]
  exact h v' w' hown' (only_grown hgrow) hat
/-- a region that makes a block (a), appends it (b) and stores the list (c) -/
structure RAp (w : World) (a b c : Nat) (T9 T10 : Value → World → Prop) (T13 : World → Prop) (done : Nat → Bool) (u : Nat → Value) (W : World) : Prop where
  g : done b = false → done c = false → Gr w W
  g9 : done a = true → done b = false → done c = false → T9 (u a) W
  g10 : done b = true → done c = false → T10 (u b) W
  g13 : done c = true → T13 W
section
variable {w W W' : World} {a b c i : Nat} {T9 T10 : Value → World → Prop} {T13 : World → Prop} {done : Nat → Bool} {u : Nat → Value} {v : Value}
theorem RAp.start {u : Nat → Value} (g : Gr w W) : RAp w a b c T9 T10 T13 (fun _ => false) u W := ⟨fun _ _ => g, fun h => by simp at h, fun h => by simp at h, fun h => by simp at h⟩
theorem RAp.quiet (h : RAp w a b c T9 T10 T13 done u W) (hi : (i == a || i == b || i == c) = false) : RAp w a b c T9 T10 T13 (upd done i) (fun j => if j = i then v else u j) W := by
  simp only [Bool.or_eq_false_iff, beq_eq_false_iff_ne] at hi
  obtain ⟨⟨h1, h2⟩, h3⟩ := hi
  have e1 := upd_ne (done := done) (Ne.symm h1)
  have e2 := upd_ne (done := done) (Ne.symm h2)
  have e3 := upd_ne (done := done) (Ne.symm h3)
  refine ⟨fun k1 k2 => h.g (e2 ▸ k1) (e3 ▸ k2), fun k0 k1 k2 => ?_, fun k1 k2 => ?_, fun k => h.g13 (e3 ▸ k)⟩
  · have := h.g9 (e1 ▸ k0) (e2 ▸ k1) (e3 ▸ k2)
    simpa [Ne.symm h1] using this
  · have := h.g10 (e2 ▸ k1) (e3 ▸ k2)
    simpa [Ne.symm h2] using this
theorem RAp.s9 (h : RAp w a b c T9 T10 T13 done u W) (hab : (a == b || a == c) = false) (hb : done b = false) (hc : done c = false) (g : Gr W W') (ht : T9 v W') : RAp w a b c T9 T10 T13 (upd done a) (fun j => if j = a then v else u j) W' := by
  simp only [Bool.or_eq_false_iff, beq_eq_false_iff_ne] at hab
  have e2 := upd_ne (done := done) (Ne.symm hab.1)
  have e3 := upd_ne (done := done) (Ne.symm hab.2)
  exact ⟨fun _ _ => (h.g hb hc).trans g, fun _ _ _ => by simpa using ht, fun k => (by rw [e2, hb] at k; cases k), fun k => (by rw [e3, hc] at k; cases k)⟩
theorem RAp.s10 (h : RAp w a b c T9 T10 T13 done u W) (hbc : (b == c) = false) (hc : done c = false) (ht : T10 v W') : RAp w a b c T9 T10 T13 (upd done b) (fun j => if j = b then v else u j) W' := by
  have e3 := upd_ne (done := done) (i := b) (j := c) (by intro e; simp [e] at hbc)
  exact ⟨fun k => (by rw [upd_self] at k; cases k), fun _ k => (by rw [upd_self] at k; cases k), fun _ _ => by simpa using ht, fun k => (by rw [e3, hc] at k; cases k)⟩
theorem RAp.s13 (ht : T13 W') : RAp w a b c T9 T10 T13 (upd done c) (fun j => if j = c then v else u j) W' :=
  ⟨fun _ k => (by rw [upd_self] at k; cases k), fun _ _ k => (by rw [upd_self] at k; cases k), fun _ k => (by rw [upd_self] at k; cases k), fun _ => ht⟩
end
end
section
set_option linter.unusedVariables false
open Go.RowKit
namespace X
variable {P : Program} {W W' : World} {o : Oper} {ρ : Operand → Value}
end X
section
variable {w W W' : World} {b1 s1 b2 s2 i : Nat} {o1 n1 o2 n2 : Nat → Value} {done : Nat → Bool} {u : Nat → Value} {v : Value}
end
section
variable {w W W' : World} {S : Nat → Prop} {M : World → Prop} {a s i : Nat} {old new : Nat → Value} {done : Nat → Bool} {u : Nat → Value} {v : Value}
end
section
variable {W W' : World} {bq : Nat} {gq aw za bu re hold T : Int} {bm : Nat}
end
section
variable {P : Program} {A : Act} {W : World} {n : Nat} {L : List (Nat × Value)} {D : List Deferred} {fn : Func} {s s2 s3 b b2 : Nat} {t t2 : TypeId} {x y x2 y2 v3 : Value}
end
end
section
open Go.RowKit
theorem Try.bs34_1 (x0 : Int) (w : World) : (Instr.buildSlice 26 1 #[(0, .int .i64 x0)]).run Try.prog w = .ok (.slice (some ⟨w.heap.size, 0, none⟩) 1 1) (w.alloc (.cells #[.int .i64 x0] 3)) := by kernel_rfl
theorem Try.bs34_2 (x0 x1 : Int) (w : World) : (Instr.buildSlice 26 2 #[(0, .int .i64 x0), (1, .int .i64 x1)]).run Try.prog w = .ok (.slice (some ⟨w.heap.size, 0, none⟩) 2 2) (w.alloc (.cells #[.int .i64 x0, .int .i64 x1] 3)) := by kernel_rfl
end
end
section
open Go.RowKit
set_option linter.unusedVariables false
set_option linter.unusedSimpArgs false
def cl4 (c : Cl) : List Value := [.int .i64 c.a, .int .i64 c.va, .int .i64 c.b, .int .i64 c.vb]
def flatC (C : List Cl) : List Value := C.flatMap cl4
theorem flatC_len (C : List Cl) : (flatC C).length = C.length * 4 := by
  induction C with
  | nil => rfl
  | cons c C ih => simp only [flatC, List.flatMap_cons, List.length_append, List.length_cons] at ih ⊢; rw [ih]; simp [cl4]; omega
theorem flatC_at : ∀ (C : List Cl) (i r : Nat), i < C.length → r < 4 → (flatC C)[i * 4 + r]? = (cl4 (C[i]?.getD default))[r]? := by
  intro C
  induction C with
  | nil => intro i r h; simp at h
  | cons c C ih =>
    intro i r hi hr
    cases i with
    | zero => simp only [flatC, List.flatMap_cons, Nat.zero_mul, Nat.zero_add]; rw [List.getElem?_append_left (by simpa [cl4] using hr)]; simp
    | succ i =>
      simp only [flatC, List.flatMap_cons]
      rw [List.getElem?_append_right (by simp [cl4]; omega)]
      have := ih i r (by simpa using hi) hr
      simp only [flatC] at this
      rw [show (i + 1) * 4 + r - (cl4 c).length = i * 4 + r by simp [cl4]; omega, this]
      simp
theorem addr_more (ad : Addr) (i r : Nat) (hr : 0 < r) : ad.add (i * 4 + r) = ⟨(ad.add (i * 4)).block, (ad.add (i * 4)).off + r, none⟩ := by
  unfold Addr.add
  rw [if_neg (by omega)]
  split
  · rename_i h; rw [h]; simp
  · simp; omega
theorem ClAt.cells {w : World} {ad : Addr} {n : Nat} {C : List Cl} (h : ClAt w (some ad) n C) : ∀ j u, (flatC C)[j]? = some u → w.cell? (ad.add j) = some u := by
  intro j u hj
  have hl := flatC_len C
  have hjl := (List.getElem?_eq_some_iff.1 hj).1
  have hn := h.len
  obtain ⟨i, r, rfl, hr⟩ : ∃ i r, j = i * 4 + r ∧ r < 4 := ⟨j / 4, j % 4, by omega, by omega⟩
  have hi : i < C.length := by omega
  have h1 := flatC_at C i r hi hr
  rw [hj] at h1
  obtain ⟨ad', e, _, c0, c1, c2, c3⟩ := h.at (j := i) (by omega)
  injection e with e
  subst e
  have hm : r = 0 ∨ r = 1 ∨ r = 2 ∨ r = 3 := by omega
  rcases hm with rfl | rfl | rfl | rfl
  · simp [cl4] at h1; subst h1; exact c0
  · simp [cl4] at h1; subst h1
    rw [addr_more _ _ _ (by omega)]; exact c1
  · simp [cl4] at h1; subst h1
    rw [addr_more _ _ _ (by omega)]; exact c2
  · simp [cl4] at h1; subst h1
    rw [addr_more _ _ _ (by omega)]; exact c3
theorem flatC_one (C : List Cl) : ∀ u ∈ flatC C, u.oneCell' = true := by
  intro u hu
  simp only [flatC, List.mem_flatMap] at hu
  obtain ⟨c, _, h⟩ := hu
  simp [cl4] at h
  rcases h with rfl | rfl | rfl | rfl <;> rfl
theorem Try.info107 : (Try.prog.info? 107).map (fun i => (i.zero, i.size, i.bytes)) = some (some (.agg #[.int .i64 0, .int .i64 0, .int .i64 0, .int .i64 0]), 4, 32) := by kernel_rfl
/-- all of a slice, appended to one that was laid empty -/
theorem wp_lit {P : Program} {o : Oper} {a : Act} {W : World} {K : Act → World → Prop} {Q : Exit → Act → World → Prop} {s x : Operand} {ts e k bytes b n c : Nat} {z : Value} {sa : Option Addr} {news : List Value}
    (hu : P.underlying ts = some (.slice e)) (hinfo : (P.info? e).map (fun i => (i.zero, i.size, i.bytes)) = some (some z, k, bytes))
    (ho : o.op = .call { callee := .builtin .append, args := #[s, x], argTypes := #[ts, ts] }) (hs : a.eval s = .slice (some ⟨b, 0, none⟩) 0 0) (hx : a.eval x = .slice sa n c) (hlit : ∃ cs, W.heap[b]? = some (.cells cs e (0, 0)))
    (hnil : sa = none → n = 0) (hl : news.length = n * k) (hsrc : ∀ ad, sa = some ad → ∀ j u, news[j]? = some u → W.cell? (ad.add j) = some u) (h1 : ∀ u ∈ news, u.oneCell' = true) (hn : n ≤ 1000000) (hb : bytes ≤ 100)
    (h : ∀ g c' w', (∃ rest : List Value, w'.heap[g]? = some (.cells (news ++ rest).toArray e (0, 0))) → Gr W w' → K (a.put o.dst (.slice (some ⟨g, 0, none⟩) n c')) w') : o.wp P a W K Q := by
  obtain ⟨i0, hi, hz, hsz, hby⟩ := info_parts hinfo
  have fin : ∀ v' w', (Builtin.append_ #[ts, ts] o.type #[.slice (some ⟨b, 0, none⟩) 0 0, .slice sa n c]).run P W = .ok v' w' → K (a.put o.dst v') w' → o.wp P a W K Q := by
    intro v' w' hr hk
    have hrun : (execOp a.eval o).run P W = .ok (.value v') w' := by
      unfold execOp
      simp only [ho, resolve, invoke, builtin, Sem.run_bind, Sem.run_pure, Result.andThen_ok, List.map_toArray, List.map_cons, List.map_nil, hs, hx, hr]
    unfold Oper.wp
    rw [hrun]
    exact hk
  by_cases h0 : n = 0
  · subst h0
    have hn0 : news = [] := List.eq_nil_of_length_eq_zero (by omega)
    subst hn0
    have hs2 : Src P i0.size ts (.slice sa 0 c) 0 [] W := by
      cases sa with
      | none => exact Src.ofNil W hu c
      | some ad => exact Src.ofSlice W hu ad 0 c [] (by simp) (fun j u hj => by simp at hj) (fun u hu => by cases hu)
    obtain ⟨cs, hcs⟩ := hlit
    exact fin _ _ (run_append_nothing W ts ts o.type e i0 hu hi (some ⟨b, 0, none⟩) 0 0 (Nat.le_refl _) _ hs2) (h b 0 W ⟨cs.toList, by simpa using hcs⟩ (Gr.refl _))
  · obtain ⟨ad, rfl⟩ : ∃ ad, sa = some ad := by
      cases sa with
      | none => exact absurd (hnil rfl) h0
      | some ad => exact ⟨ad, rfl⟩
    have hs2 : Src P i0.size ts (.slice (some ad) n c) n news W := Src.ofSlice W hu ad n c news (by rw [hl, hsz]) (hsrc ad rfl) h1
    have hmul : n * bytes ≤ 1000000 * 100 := Nat.mul_le_mul hn hb
    have hr := run_append_grow_src W ts ts o.type e i0 _ hu hi hz (some ⟨b, 0, none⟩) 0 0 [] (run_firstCells_some W.drew i0.size 0 ⟨b, 0, none⟩ 0 0 [] (by simp) (fun j u hj => by simp at hj)) _ n news hs2 (by omega) (by omega)
      (by rw [Nat.zero_add, nextslicecap_zero (by omega), hby]; omega)
    rw [Nat.zero_add] at hr
    refine fin _ _ hr (h W.heap.size _ _ ⟨(Builtin.zeroCells z.cells (grownCap W n 0 e - n)).toList, ?_⟩ ((Gr.drew W).allocR _))
    refine (heap_alloc_new W.drew _).trans ?_
    congr 2
    apply Array.ext'
    simp
theorem row_at {w : World} {g : Nat} {vs rest : List Value} {e : TypeId} (h : w.heap[g]? = some (.cells (vs ++ rest).toArray e (0, 0))) : ∀ j u, vs[j]? = some u → w.cell? ((⟨g, 0, none⟩ : Addr).add j) = some u := by
  intro j u hj
  rw [addr_add0]
  refine cell_at h ?_
  have hl := (List.getElem?_eq_some_iff.1 hj).1
  simp [List.getElem?_append, hl]
  simpa [hl] using hj
theorem ints_row {w : World} {g n : Nat} {xs : List Int} {rest : List Value} (h : w.heap[g]? = some (.cells (xs.map (Value.int .i64) ++ rest).toArray 3 (0, 0))) (hl : xs.length = n) (hn : n < 1152921504606846976) : Ints w (some ⟨g, 0, none⟩) n xs := by
  refine ⟨hl, hn, fun j hj => ⟨_, rfl, (Array.getElem?_eq_some_iff.1 h).1, row_at h j _ ?_⟩⟩
  simp [hl, hj]
theorem cl_row {w : World} {g n : Nat} {C : List Cl} {rest : List Value} (h : w.heap[g]? = some (.cells (flatC C ++ rest).toArray 107 (0, 0))) (hl : C.length = n) (hn : n < 1152921504606846976) : ClAt w (some ⟨g, 0, none⟩) n C := by
  subst hl
  refine ⟨rfl, hn, fun j hj => ?_⟩
  have hh := row_at h
  have ha : ∀ r, 0 < r → (⟨((⟨g, 0, none⟩ : Addr).add (j * 4)).block, ((⟨g, 0, none⟩ : Addr).add (j * 4)).off + r, none⟩ : Addr) = (⟨g, 0, none⟩ : Addr).add (j * 4 + r) := fun r h => (addr_more _ _ _ h).symm
  refine ⟨⟨g, 0, none⟩, rfl, (Array.getElem?_eq_some_iff.1 h).1, ?_, ?_, ?_, ?_⟩
  · have := flatC_at C j 0 hj (by omega)
    rw [Nat.add_zero] at this
    exact hh _ _ (this.trans rfl)
  · rw [ha 1 (by omega)]; exact hh _ _ ((flatC_at C j 1 hj (by omega)).trans rfl)
  · rw [ha 2 (by omega)]; exact hh _ _ ((flatC_at C j 2 hj (by omega)).trans rfl)
  · rw [ha 3 (by omega)]; exact hh _ _ ((flatC_at C j 3 hj (by omega)).trans rfl)
/-- packets, cell by cell -/
def pk4 (p : Pk) : List Value := [.int .i64 p.c, .int .i64 p.v, .string p.data, .int .i64 p.tg]
def flatP (L : List Pk) : List Value := L.flatMap pk4
theorem flatP_app (L M : List Pk) : flatP (L ++ M) = flatP L ++ flatP M := by simp [flatP]
theorem flatP_at : ∀ (L : List Pk) (i r : Nat), i < L.length → r < 4 → (flatP L)[i * 4 + r]? = (pk4 (L[i]?.getD default))[r]? := by
  intro L
  induction L with
  | nil => intro i r h; simp at h
  | cons c L ih =>
    intro i r hi hr
    cases i with
    | zero => simp only [flatP, List.flatMap_cons, Nat.zero_mul, Nat.zero_add]; rw [List.getElem?_append_left (by simpa [pk4] using hr)]; simp
    | succ i =>
      simp only [flatP, List.flatMap_cons]
      rw [List.getElem?_append_right (by simp [pk4]; omega)]
      have := ih i r (by simpa using hi) hr
      simp only [flatP] at this
      rw [show (i + 1) * 4 + r - (pk4 c).length = i * 4 + r by simp [pk4]; omega, this]
      simp
/-- packets that a call has collected -/
theorem OwnR.pks {w : World} {B : Nat} {v : Value} {L : List Pk} (h : OwnR w B 46 4 v L.length (flatP L)) (hl : L.length < 1152921504606846976) (hd : ∀ q ∈ L, q.data.size < 1152921504606846976) : ∃ a c, v = .slice a L.length c ∧ PkAt w a L.length L ∧ L.length ≤ c := by
  rcases h.2 with ⟨rfl, h0⟩ | ⟨g, cap, cur, rfl, h2, h3, hnc, _⟩
  · exact ⟨none, 0, by rw [h0], ⟨rfl, hl, fun j hj => by omega⟩, by omega⟩
  · refine ⟨some ⟨g, 0, none⟩, cap, rfl, ⟨rfl, hl, fun j hj => ?_⟩, hnc⟩
    have hh : ∀ j u, (flatP L)[j]? = some u → w.cell? ((⟨g, 0, none⟩ : Addr).add j) = some u := fun j u hj => World.ownsRow.cells h (g := g) rfl j u hj
    have ha : ∀ r, 0 < r → (⟨((⟨g, 0, none⟩ : Addr).add (j * 4)).block, ((⟨g, 0, none⟩ : Addr).add (j * 4)).off + r, none⟩ : Addr) = (⟨g, 0, none⟩ : Addr).add (j * 4 + r) := fun r h => (addr_more _ _ _ h).symm
    refine ⟨⟨g, 0, none⟩, rfl, (Array.getElem?_eq_some_iff.1 h3).1, ?_, ?_, ?_, ?_, ?_⟩
    · rw [List.getElem?_eq_getElem hj]; exact hd _ (List.getElem_mem hj)
    · have := flatP_at L j 0 hj (by omega)
      rw [Nat.add_zero] at this
      exact hh _ _ (this.trans rfl)
    · rw [ha 1 (by omega)]; exact hh _ _ ((flatP_at L j 1 hj (by omega)).trans rfl)
    · rw [ha 2 (by omega)]; exact hh _ _ ((flatP_at L j 2 hj (by omega)).trans rfl)
    · rw [ha 3 (by omega)]; exact hh _ _ ((flatP_at L j 3 hj (by omega)).trans rfl)
/-- append of one row of numbers to the list that a call collects: what turns -/
theorem wp_pushF {o : Oper} {a : Act} {W : World} {K : Act → World → Prop} {Q : Exit → Act → World → Prop} {s x : Operand} {v : Value} {L : List (List Int)} {ad : Addr} {n c g B : Nat} {y : List Int}
    (ho : o.op = .call { callee := .builtin .append, args := #[s, x], argTypes := #[22, 22] }) (hs : a.eval s = v) (hx : a.eval x = .slice (some ⟨g, 0, none⟩) 1 1)
    (hg : W.heap[g]? = some (.cells #[.slice (some ad) n c] 26)) (hO : OutR W B v L) (hB : B ≤ W.heap.size) (hy : Ints W (some ad) n y) (h3 : Is3 W ad.block) (hl : L.length ≤ 1000000)
    (h : ∀ v' w', OutR w' B v' (L ++ [y]) → Only (fun b => v.ownBlock = some b) W w' → (∀ b, v.ownBlock = some b → B ≤ b) → K (a.put o.dst v') w') : o.wp Try.prog a W K Q := by
  obtain ⟨i0, hi, hz0, hz1, hz2⟩ := info_parts Try.info26
  obtain ⟨ov, hown, hrw⟩ := hO
  refine wp_append_own W s x 22 ho B 26 i0 (.slice none 0 0) 1 24 Try.underlying22 hi hz0 hz1 hz2 rfl (by decide) v L.length ov hs hown ⟨g, 0, none⟩ 1 1 [.slice (some ad) n c] hx rfl (one_cell_at hg) (one_one _ _ _) (by unfold maxLen; omega) (by omega) hB (fun v' w' hown' hgrow _ => ?_)
  exact h v' w' (OutR.push hown hrw hy h3 hown' hgrow) (only_grown hgrow) (fun b e => (own_block hown e).1)
end
section
open Go.RowKit
set_option linter.unusedVariables false
set_option linter.unusedSimpArgs false

theorem Try.bs26_0 (w : World) : (Instr.buildSlice 26 0 #[]).run Try.prog w = .ok (.slice (some ⟨w.heap.size, 0, none⟩) 0 0) (w.alloc (.cells #[] 3)) := by kernel_rfl
theorem Ints.nilZ {w : World} {a : Option Addr} {n : Nat} {xs : List Int} (h : Ints w a n xs) : a = none → n = 0 := fun e => by
  refine Classical.byContradiction fun h0 => ?_
  obtain ⟨ad, e2, _⟩ := h.at (j := 0) (by omega)
  rw [e] at e2; cases e2
theorem Ints.src {w : World} {a : Option Addr} {n : Nat} {xs : List Int} (h : Ints w a n xs) : ∀ ad, a = some ad → ∀ j u, (xs.map (Value.int .i64))[j]? = some u → w.cell? (ad.add j) = some u := fun ad e => by subst e; exact h.cells
theorem ClAt.nilZ {w : World} {a : Option Addr} {n : Nat} {C : List Cl} (h : ClAt w a n C) : a = none → n = 0 := fun e => by
  refine Classical.byContradiction fun h0 => ?_
  obtain ⟨ad, e2, _⟩ := h.at (j := 0) (by omega)
  rw [e] at e2; cases e2
theorem ClAt.src {w : World} {a : Option Addr} {n : Nat} {C : List Cl} (h : ClAt w a n C) : ∀ ad, a = some ad → ∀ j u, (flatC C)[j]? = some u → w.cell? (ad.add j) = some u := fun ad e => by subst e; exact h.cells
theorem same_yes2 {xs ys : List Int} (hl : xs.length = ys.length) (h : ∀ j, j < xs.length → xs[j]?.getD 0 = ys[j]?.getD 0) : decide (xs = ys) = true := by
  refine decide_eq_true (List.ext_getElem hl fun j h1 h2 => ?_)
  have := h j h1
  simpa [h1, h2] using this
theorem same_no2 {xs ys : List Int} {i : Nat} (h : ¬ xs[i]?.getD 0 = ys[i]?.getD 0) : decide (xs = ys) = false := decide_eq_false fun e => h (by rw [e])
/-- what a call hands out -/
def MP.intsG (n : Nat) (xs : List Int) : Y.MP := ⟨fun v W => ∃ g c, v = .slice (some ⟨g, 0, none⟩) n c ∧ Ints W (some ⟨g, 0, none⟩) n xs ∧ Is3 W g, fun _ _ _ ⟨g, c, h, k, l⟩ gr => ⟨g, c, h, k.gr gr, l.gr gr⟩⟩
def MP.intsA (xs : List Int) : Y.MP := ⟨fun v W => ∃ a n c, v = .slice a n c ∧ Ints W a n xs, fun _ _ _ ⟨a, n, c, h, k⟩ gr => ⟨a, n, c, h, k.gr gr⟩⟩
def MP.rowsC (L : List (List Int)) : Y.MP := ⟨fun v W => ∃ a n c, v = .slice a n c ∧ RowsAt W a n L ∧ n ≤ c, fun _ _ _ ⟨a, n, c, h, k, l⟩ gr => ⟨a, n, c, h, k.gr gr, l⟩⟩
def MP.plan (L : List (List Int)) (code : Int) : Y.MP := ⟨fun v W => ∃ a n c, v = .tuple #[.slice a n c, .int .i64 code] ∧ RowsAt W a n L ∧ n ≤ c, fun _ _ _ ⟨a, n, c, h, k, l⟩ gr => ⟨a, n, c, h, k.gr gr, l⟩⟩
def MP.inst (xs : List Int) : Y.MP := ⟨fun v W => ∃ a n c, v = .tuple #[.slice a n c, .int .i64 0, .int .i64 0] ∧ Ints W a n xs, fun _ _ _ ⟨a, n, c, h, k⟩ gr => ⟨a, n, c, h, k.gr gr⟩⟩
def MP.var46 (B : Nat) : Y.MP := ⟨fun v W => ∃ b, v = .pointer (some ⟨b, 0, none⟩) ∧ Y.Own W b 4 (lv4 (.int .i64 0) (.int .i64 0) (.string ByteArray.empty) (.int .i64 0)) ∧ B ≤ b, fun _ _ _ ⟨b, h1, h2, h3⟩ g => ⟨b, h1, h2.gr g, h3⟩⟩
theorem PlanPost.mp {w w' : World} {L : List (List Int)} {code : Int} {e : Ending} (h : PlanPost w L code e w') : ∃ v, e = .returned v ∧ (MP.plan L code).p v w' ∧ Gr w w' := by
  obtain ⟨a, n, c, h1, h2, h3, h4⟩ := h
  exact ⟨_, h1, ⟨a, n, c, rfl, h2, h4⟩, h3⟩
theorem InstPost.mp {w w' : World} {r : List Int × Int × Int} {xs : List Int} {e : Ending} (h : InstPost w r e w') (hr : r = (xs, 0, 0)) : ∃ v, e = .returned v ∧ (MP.inst xs).p v w' ∧ Gr w w' := by
  obtain ⟨a, n, c, h1, h2, h3⟩ := h
  subst hr
  exact ⟨_, h1, ⟨a, n, c, rfl, h2⟩, h3⟩

set_option maxRecDepth 100000 in
set_option maxHeartbeats 400000 in
theorem ints_mp (a : Option Addr) (n c : Nat) (xs : List Int) (w : World) (hx : Ints w a n xs) (hn : n ≤ 1000) :
  Calls Try.prog 47 #[.slice a n c] w fun e w' => ∃ v, e = .returned v ∧ (MP.intsG n xs).p v w' ∧ Gr w w' := by
 have G := Gr.refl w
 have hlen := hx.len
 refine Y.calls 6 Try.func47 rfl rfl ?_
 intro ac F0
 have F : Fr ac 6 [(0, .slice a n c)] := F0.sub _
 clear F0
 refine Y.seq ?_
 refine Y.lit (by kernel_rfl) ?_
 refine Y.pv F (X.assign rfl (X.kc (.slice none 0 0) rfl)) ?_;clear F ac;intro ac F
 refine Y.nil ?_
 replace F : Fr ac 6 [(0, .slice a n c)] := F.sub _
 refine X.thenN ?_
 refine Y.seq ?_
 refine Y.lit (by kernel_rfl) ?_
 refine Y.pv F (X.bs rfl rfl (Try.bs26_0 _)) ?_;clear F ac;intro ac F
 have g := Gr.alloc w (.cells #[] 3)
 have hb := heap_alloc_new w (.cells #[] 3)
 have hbl : w.heap.size < (w.alloc (.cells #[] 3)).heap.size := by simp
 generalize w.alloc (.cells #[] 3) = w3 at *
 replace G := G.trans g
 replace hx := hx.gr g
 have hlit := hb
 clear g hb hbl
 refine Y.pv F (X.move rfl (F.e 0 rfl)) ?_;clear F ac;intro ac F
 refine Y.wpL_plain rfl fun _ hK => wp_lit Try.underlying26 Try.info3 rfl (F.e 3 rfl) (F.e 4 rfl) ⟨_, hlit⟩ hx.nilZ (by rw [List.length_map, hlen, Nat.mul_one]) hx.src (ints_one xs) (by omega) (by decide) (fun g cc w4 hrow g2 => hK _ _ ?_)
 refine Y.pput F rfl ?_
 clear F ac hlit
 intro ac F
 obtain ⟨rest, hrow⟩ := hrow
 replace G := G.trans g2
 refine Y.pv F (X.assign rfl (F.e 5 rfl)) ?_;clear F ac;intro ac F
 refine Y.nil ?_
 replace F : Fr ac 6 [(2, .slice (some ⟨g, 0, none⟩) n cc)] := F.sub _
 refine X.thenN ?_
 refine Y.ret ?_
 exact Y.ret0 (v := .slice (some ⟨g, 0, none⟩) n cc) F (Y.rs1 F rfl (by kernel_rfl)) ⟨_, rfl, ⟨g, cc, rfl, ints_row hrow hlen (by omega), ⟨_, _, hrow⟩⟩, G⟩
set_option maxRecDepth 100000 in
set_option maxHeartbeats 400000 in
theorem same_top (a b : Option Addr) (n c m d : Nat) (xs ys : List Int) (w : World) (hx : Ints w a n xs) (hy : Ints w b m ys) :
  Calls Try.prog 48 #[.slice a n c, .slice b m d] w fun e w' => e = .returned (.bool (decide (xs = ys))) ∧ Gr w w' := by
 have G := Gr.refl w
 have hxl := hx.len
 have hyl := hy.len
 have hlt := hx.lt
 have hlt2 := hy.lt
 refine Y.calls 26 Try.func48 rfl rfl ?_
 intro ac F0
 have F : Fr ac 26 [(0, .slice a n c), (1, .slice b m d)] := F0.sub _
 clear F0
 refine Y.seq ?_
 refine Y.lit (by kernel_rfl) ?_
 refine Y.pv F (X.assign rfl (X.kc (.bool false) rfl)) ?_;clear F ac;intro ac F
 refine Y.nil ?_
 replace F : Fr ac 26 [(0, .slice a n c), (1, .slice b m d)] := F.sub _
 refine X.thenN ?_
 refine Y.seq ?_
 refine Y.seq ?_
 refine Y.lit (by kernel_rfl) ?_
 refine Y.pv F (X.move rfl (F.e 0 rfl)) ?_;clear F ac;intro ac F
 refine Y.pv F (X.len1 Try.underlying26 rfl (F.e 6 rfl)) ?_;clear F ac;intro ac F
 refine Y.pv F (X.move rfl (F.e 1 rfl)) ?_;clear F ac;intro ac F
 refine Y.pv F (X.len1 Try.underlying26 rfl (F.e 8 rfl)) ?_;clear F ac;intro ac F
 refine Y.pv F (X.binop rfl (F.e 7 rfl) (F.e 9 rfl) (X.neqI Try.underlying3 rfl)) ?_;clear F ac;intro ac F
 refine Y.nil ?_
 replace F : Fr ac 26 [(0, .slice a n c), (1, .slice b m d), (10, .bool ((n : Int) != m))] := F.sub _
 refine X.thenN ?_
 cases h3 : ((n : Int) != m) with
 | false =>
  try rw [h3] at F
  have h3p : (n : Int) = m := by simpa using h3
  have hnm : m = n := by omega
  have hl2 : xs.length = ys.length := by omega
  refine Y.condF (F.e 10 rfl) ?_
  refine Y.skip ?_
  refine X.thenN ?_
  refine Y.seq ?_
  refine Y.seq ?_
  refine Y.lit (by kernel_rfl) ?_
  refine Y.pv F (X.assign rfl (X.kc (Vi 0) rfl)) ?_;clear F ac;intro ac F
  refine Y.nil ?_
  replace F : Fr ac 26 [(0, .slice a n c), (1, .slice b m d), (5, Vi 0)] := F.sub _
  refine X.thenN ?_
  refine Y.block ?_
  have hxB := hx
  have hyB := hy
  have GB := G
  refine Y.loop (fun me_ ac wr => ∃ (i : Nat), me_ = n - i ∧ Gr w wr ∧ i ≤ n ∧ (∀ j, j < i → xs[j]?.getD 0 = ys[j]?.getD 0) ∧ Fr ac 26 [(0, .slice a n c), (1, .slice b m d), (5, Vi i)]) _ ⟨0, rfl, Gr.refl _, Nat.zero_le _, fun j h => absurd h (Nat.not_lt_zero _), F.sub _⟩ ?_
  clear F
  intro me_ ac w4 hI
  obtain ⟨i, rfl, gr, hi, hsame, F⟩ := hI
  replace G := GB.trans gr
  replace hx := hxB.gr gr
  replace hy := hyB.gr gr
  have GB_ := gr
  clear gr
  refine Y.seq ?_
  refine Y.seq ?_
  refine Y.lit (by kernel_rfl) ?_
  refine Y.pv F (X.move rfl (F.e 5 rfl)) ?_;clear F ac;intro ac F
  refine Y.pv F (X.move rfl (F.e 0 rfl)) ?_;clear F ac;intro ac F
  refine Y.pv F (X.len1 Try.underlying26 rfl (F.e 12 rfl)) ?_;clear F ac;intro ac F
  refine Y.pv F (X.binop rfl (F.e 11 rfl) (F.e 13 rfl) (X.lssI Try.underlying3 rfl)) ?_;clear F ac;intro ac F
  refine Y.nil ?_
  replace F : Fr ac 26 [(0, .slice a n c), (1, .slice b m d), (5, Vi i), (14, .bool (decide ((i : Int) < n)))] := F.sub _
  refine X.thenN ?_
  cases h5 : decide ((i : Int) < n) with
  | false =>
   try rw [h5] at F
   have h5p : ¬ ((i : Int) < n) := of_decide_eq_false h5
   have hin : i = n := by omega
   refine Y.condF (F.e 14 rfl) ?_
   refine Y.exit ?_
   refine X.thenX ?_
   refine X.thenX ?_
   refine X.blockX ?_
   refine X.thenN ?_
   refine Y.seq ?_
   refine Y.lit (by kernel_rfl) ?_
   refine Y.pv F (X.assign rfl (X.kc (.bool true) rfl)) ?_;clear F ac;intro ac F
   refine Y.nil ?_
   replace F : Fr ac 26 [(4, .bool true)] := F.sub _
   refine X.thenN ?_
   refine Y.ret ?_
   exact Y.ret0 (v := .bool true) F (Y.rs1 F rfl (by kernel_rfl)) ⟨by rw [same_yes2 hl2 (fun j hj => hsame j (by omega))], G⟩
  | true =>
   try rw [h5] at F
   have h5p : ((i : Int) < n) := of_decide_eq_true h5
   refine Y.condT (F.e 14 rfl) ?_
   refine Y.skip ?_
   refine X.thenN ?_
   refine Y.seq ?_
   refine Y.block ?_
   refine Y.seq ?_
   obtain ⟨pd6, pe6, -, pc6⟩ := hx.at (j := i) (by omega)
   subst pe6
   have hC : RCells w4 [(pd6.add i, Vi (xs[i]?.getD 0))] := (RCells.cons pc6 (RCells.nil _))
   clear pc6
   obtain ⟨pd7, pe7, -, pc7⟩ := hy.at (j := i) (by omega)
   subst pe7
   replace hC : RCells w4 [(pd6.add i, Vi (xs[i]?.getD 0)), (pd7.add i, Vi (ys[i]?.getD 0))] := hC.append ((RCells.cons pc7 (RCells.nil _)))
   clear pc7
   refine Y.region F [some (.slice (some pd6) n c), some (Vi i), some (.pointer (some (pd6.add i))), some (Vi (xs[i]?.getD 0)), some (.slice (some pd7) m d), some (Vi i), some (.pointer (some (pd7.add i))), some (Vi (ys[i]?.getD 0)), some (.bool ((xs[i]?.getD 0 : Int) != (ys[i]?.getD 0)))] [] rfl ⟨by kernel_rfl, of_decide_eq_true (by kernel_rfl), by kernel_rfl, by kernel_rfl, by kernel_rfl⟩ ⟨?_, ?_, ?_, ?_, ?_, ?_, ?_, ?_, ?_, trivial⟩ ?_
   ·intro ac done u W Sx hR
    exact X.vl (X.move rfl (Sx.ev 0 (.slice (some pd6) n c))) hR.st0
   ·intro ac done u W Sx hR
    exact X.vl (X.move rfl (Sx.ev 5 (Vi i))) hR.st0
   ·intro ac done u W Sx hR
    exact X.val (X.w0 rfl) rfl (X.index rfl (Sx.ev 17 (.slice (some pd6) n c)) (Sx.ev 18 (Vi i)) (X.idx (k := i) Try.underlying26 (Try.siz3 _) (by omega) (by omega) (by rw [Nat.mul_one]))) hR.st0
   ·intro ac done u W Sx hR
    have g : Gr w4 W := hR.1
    exact X.vl (X.load rfl (Sx.ev 19 (.pointer (some (pd6.add i)))) (X.ld1 (Try.agg3 _) ((hC.gr g).at 0 rfl))) hR.st0
   ·intro ac done u W Sx hR
    exact X.vl (X.move rfl (Sx.ev 1 (.slice (some pd7) m d))) hR.st0
   ·intro ac done u W Sx hR
    exact X.vl (X.move rfl (Sx.ev 5 (Vi i))) hR.st0
   ·intro ac done u W Sx hR
    exact X.val (X.w0 rfl) rfl (X.index rfl (Sx.ev 21 (.slice (some pd7) m d)) (Sx.ev 22 (Vi i)) (X.idx (k := i) Try.underlying26 (Try.siz3 _) (by omega) (by omega) (by rw [Nat.mul_one]))) hR.st0
   ·intro ac done u W Sx hR
    have g : Gr w4 W := hR.1
    exact X.vl (X.load rfl (Sx.ev 23 (.pointer (some (pd7.add i)))) (X.ld1 (Try.agg3 _) ((hC.gr g).at 1 rfl))) hR.st0
   ·intro ac done u W Sx hR
    exact X.vl (X.binop rfl (Sx.ev 20 (Vi (xs[i]?.getD 0))) (Sx.ev 24 (Vi (ys[i]?.getD 0))) (X.neqI Try.underlying3 rfl)) hR.st0
   intro ac u w8 hs hd hl ho hR
   have g : Gr w4 w8 := hR.1
   replace F : Fr ac 26 [(0, .slice (some pd6) n c), (1, .slice (some pd7) m d), (5, Vi i), (25, .bool ((xs[i]?.getD 0 : Int) != (ys[i]?.getD 0)))] := X.fr hs hd hl _ (by kernel_rfl)
   clear hs hd hl ho hR
   replace G := G.trans g
   replace hC := hC.gr g
   replace GB_ := GB_.trans g
   replace hx := hx.gr g
   replace hy := hy.gr g
   clear g
   refine X.thenN ?_
   cases h9 : ((xs[i]?.getD 0 : Int) != (ys[i]?.getD 0)) with
   | false =>
    try rw [h9] at F
    have h9p : (xs[i]?.getD 0 : Int) = (ys[i]?.getD 0) := by simpa using h9
    refine Y.condF (F.e 25 rfl) ?_
    refine Y.skip ?_
    refine X.blockN ?_
    refine X.thenN ?_
    refine Y.lit (by kernel_rfl) ?_
    refine Y.pv F (X.move rfl (F.e 5 rfl)) ?_;clear F ac;intro ac F
    refine Y.pv F (X.binop rfl (F.e 15 rfl) (X.kc (Vi 1) rfl) (X.addI Try.underlying3 rfl (by omega) (by omega))) ?_;clear F ac;intro ac F
    refine Y.pv F (X.assign rfl (F.e 16 rfl)) ?_;clear F ac;intro ac F
    refine Y.nil ?_
    replace F : Fr ac 26 [(0, .slice (some pd6) n c), (1, .slice (some pd7) m d), (5, Vi ((i : Int) + 1))] := F.sub _
    refine X.thenN ?_
    refine ⟨_, ?_, i + 1, rfl, GB_, by omega, fun j hj => if e : j = i then by rw [e]; exact h9p else hsame j (by omega), F.sub _⟩
    omega
   | true =>
    try rw [h9] at F
    have h9p : ¬ (xs[i]?.getD 0 : Int) = (ys[i]?.getD 0) := by simpa using h9
    refine Y.condT (F.e 25 rfl) ?_
    refine Y.seq ?_
    refine Y.lit (by kernel_rfl) ?_
    refine Y.pv F (X.assign rfl (X.kc (.bool false) rfl)) ?_;clear F ac;intro ac F
    refine Y.nil ?_
    replace F : Fr ac 26 [(4, .bool false)] := F.sub _
    refine X.thenN ?_
    refine Y.ret ?_
    refine X.blockR ?_
    refine X.thenR ?_
    refine X.thenR ?_
    refine X.blockR ?_
    refine X.thenR ?_
    exact Y.ret0 (v := .bool false) F (Y.rs1 F rfl (by kernel_rfl)) ⟨by rw [same_no2 h9p], G⟩
 | true =>
  try rw [h3] at F
  have h3p : ¬ (n : Int) = m := by simpa using h3
  refine Y.condT (F.e 10 rfl) ?_
  refine Y.seq ?_
  refine Y.lit (by kernel_rfl) ?_
  refine Y.pv F (X.assign rfl (X.kc (.bool false) rfl)) ?_;clear F ac;intro ac F
  refine Y.nil ?_
  replace F : Fr ac 26 [(4, .bool false)] := F.sub _
  refine X.thenN ?_
  refine Y.ret ?_
  refine X.thenR ?_
  exact Y.ret0 (v := .bool false) F (Y.rs1 F rfl (by kernel_rfl)) ⟨by rw [show decide (xs = ys) = false by simp only [decide_eq_false_iff_not]; intro e; subst e; omega], G⟩
end
section
open Go.RowKit

theorem drop_atP {P : List Pk} {k : Nat} (h : k < P.length) : P.drop k = (P[k]?.getD default) :: P.drop (k + 1) := by
  rw [List.drop_eq_getElem_cons h]; simp [h]
theorem take_atP {P : List Pk} {k : Nat} (h : k < P.length) : P.take (k + 1) = P.take k ++ [P[k]?.getD default] := by
  rw [List.take_succ_eq_append_getElem h]; simp [h]
theorem accept_ver {f : Fl} {s c v tg : Int} {data : ByteArray} (h : acceptE f s c v data tg = 0) : verB f.times c v = true := by
  unfold acceptE at h
  split at h
  · split at h
    · assumption
    · omega
  · omega
theorem stOk_set {f : Fl} {cur : List Int} {c v : Int} (h : StOk f cur) (hv : verB f.times c v = true) : StOk f (cur.set c.toNat v) := by
  have hb := verB_in hv
  refine ⟨by simp [h.len], fun j hj => ?_⟩
  have hl := h.len
  by_cases e : j = c.toNat
  · subst e
    have : c.toNat < cur.length := by omega
    simp [List.getElem?_set, this]
    omega
  · rw [List.getElem?_set_ne (Ne.symm e)]
    exact h.ver j hj

set_option maxRecDepth 100000 in
set_option maxHeartbeats 4000000 in
theorem install_any (ta ca a pa : Option Addr) (tn tc cn cc n c ln lc : Nat) (f : Fl) (se : Int) (xs : List Int) (P : List Pk) (w : World) (hf : FlAt w ta tn ca cn f) (hx : Ints w a n xs) (hP : PkAt w pa ln P) (hpc : ln ≤ lc) :
    Calls Try.prog 34 #[.agg #[.slice ta tn tc, .slice ca cn cc], .int .i64 se, .slice a n c, .slice pa ln lc] w (InstPost w (instR f se xs P)) := by
  have g := Gr.alloc w (.cells #[.slice ta tn tc, .slice ca cn cc] 25)
  have hC : RCells (w.alloc (.cells #[.slice ta tn tc, .slice ca cn cc] 25)) [(⟨w.heap.size, 0, none⟩, .slice ta tn tc), (⟨w.heap.size, 1, none⟩, .slice ca cn cc)] := (RCells.nil w).box (b := w.heap.size) #[.slice ta tn tc, .slice ca cn cc] 25 rfl
  obtain ⟨w2, hw2⟩ : ∃ w2, w.alloc (.cells #[.slice ta tn tc, .slice ca cn cc] 25) = w2 := ⟨_, rfl⟩
  rw [hw2] at g hC
  have G := g
  replace hf := hf.gr g
  replace hx := hx.gr g
  replace hP := hP.gr g
  clear g
  have c0 : w2.cell? (⟨w.heap.size, 0, none⟩) = some (.slice ta tn tc) := hC.at 0 rfl
  have c1 : w2.cell? (⟨w.heap.size, 1, none⟩) = some (.slice ca cn cc) := hC.at 1 rfl
  have HPL : Hid (P.length = ln) := Lib.hid hP.len
  have hpl := hP.lt
  go_enter Try.func34, Try.ntmps34
  have g := Gr.alloc w2 (.cells #[.slice a n c] 26)
  have hb := heap_alloc_new w2 (.cells #[.slice a n c] 26)
  have hbl : w2.heap.size < (w2.alloc (.cells #[.slice a n c] 26)).heap.size := by simp
  obtain ⟨w4, hww4⟩ : ∃ w0, w2.alloc (.cells #[.slice a n c] 26) = w0 := ⟨_, rfl⟩
  rw [hww4] at g hb hbl
  replace G := G.trans g
  replace hC := hC.gr g
  replace hf := hf.gr g
  replace hx := hx.gr g
  replace hP := hP.gr g
  have c0a4 : w4.cell? (⟨w.heap.size, 0, none⟩) = some (.slice ta tn tc) := hC.at 0 rfl
  have c1a4 : w4.cell? (⟨w.heap.size, 1, none⟩) = some (.slice ca cn cc) := hC.at 1 rfl
  have hR3 := (rows1 (c := c) hbl (cell_at hb rfl) hx : RowsAt w4 (some ⟨w2.heap.size, 0, none⟩) 1 [xs])
  clear g hb hbl
  have HC := Lib.hid (checkStates_any ta ca (some ⟨w2.heap.size, 0, none⟩) tn tc cn cc 1 1 f ([xs]) w4 hf hR3)
  go_wp2_with fail
  refine HC.out.mono ?_
  rintro e w5 ⟨rfl, g⟩
  clear HC
  clear hw2 hww4
  replace G := G.trans g
  replace hC := hC.gr g
  replace hf := hf.gr g
  replace hx := hx.gr g
  replace hP := hP.gr g
  replace hR3 := hR3.gr g
  clear g
  clear c0 c1 c0a4 c1a4
  have c0 : w5.cell? (⟨w.heap.size, 0, none⟩) = some (.slice ta tn tc) := hC.at 0 rfl
  have c1 : w5.cell? (⟨w.heap.size, 1, none⟩) = some (.slice ca cn cc) := hC.at 1 rfl
  by_cases h6 : (statesE f ([xs]) : Int) = 0
  · have h6b : ((statesE f ([xs]) : Int) != 0) = false := by simp [h6]
    have Hh6 := Lib.hid h6
    clear h6
    have hok : FlOk f := chkB_ok (statesE_zero Hh6.out).1
    have hst : StOk f xs := stB_ok (by have := (statesE_zero Hh6.out).2; simpa [stsB] using this)
    have HR : Hid (instR f se xs P = if withinB ln 1 tn then (if (instL f se xs [] P xs).2.1 = 0 then (if worksB f xs && worksB f (instL f se xs [] P xs).2.2 then ((instL f se xs [] P xs).2.2, 0, 0) else ([], 0, 111)) else ([], (instL f se xs [] P xs).1, (instL f se xs [] P xs).2.1)) else ([], 0, 1)) := Lib.hid (by rw [instR, if_pos Hh6.out, hP.len, hf.t.len])
    have hn1 : 0 < n := by have := hok.n1; have := hst.len; have := hx.len; omega
    have hn6 : n ≤ 6 := by have := hok.n6; have := hst.len; have := hx.len; omega
    have HNN : Hid (n = f.times.length) := Lib.hid (by rw [← hst.len, hx.len])
    have HST := Lib.hid hst
    have HC := Lib.hid (within_any ln 1 tn w5)
    go_wp2_with fail
    refine HC.out.mono ?_
    rintro e w' ⟨rfl, rfl⟩
    clear HC
    cases h7 : withinB ln 1 tn with
    | false =>
      have Hh7 := Lib.hid h7
      clear h7
      have HR2 : Hid (instR f se xs P = ([], 0, 1)) := Lib.hid (by rw [HR.out, Hh7.out]; rfl)
      go_wp2_with fail
      go_ret3
      exact ⟨none, 0, 0, by rw [HR2.out]; rfl, by rw [HR2.out]; exact Ints.nil _, G⟩
    | true =>
      have Hh7 := Lib.hid h7
      clear h7
      have HR2 : Hid (instR f se xs P = if (instL f se xs [] P xs).2.1 = 0 then (if worksB f xs && worksB f (instL f se xs [] P xs).2.2 then ((instL f se xs [] P xs).2.2, 0, 0) else ([], 0, 111)) else ([], (instL f se xs [] P xs).1, (instL f se xs [] P xs).2.1)) := Lib.hid (by rw [HR.out, Hh7.out]; rfl)
      have hln : 1 ≤ ln ∧ ln ≤ tn := by have := Hh7.out; simp [withinB] at this; omega
      have hfB := hf
      have hxB := hx
      have hPB := hP
      have hR3B := hR3
      have hCB := hC
      have GB := G
      have HC := Lib.hid (cloneOwn_any a n c xs w5 hx hn1 (by omega))
      go_wp2_with fail
      refine HC.out.mono ?_
      rintro e w9 ⟨g8, cg8, rfl, hge, hgc, hO, g⟩
      have gC := g
      clear HC
      replace G := G.trans g
      replace hC := hC.gr g
      replace hf := hf.gr g
      replace hx := hx.gr g
      replace hP := hP.gr g
      replace hR3 := hR3.gr g
      clear g
      clear c0 c1
      have c0 : w9.cell? (⟨w.heap.size, 0, none⟩) = some (.slice ta tn tc) := hC.at 0 rfl
      have c1 : w9.cell? (⟨w.heap.size, 1, none⟩) = some (.slice ca cn cc) := hC.at 1 rfl
      go_wp2_with fail
      go_loopw [8, 33] (fun v i wr => ∃ (k : Nat) (cur : List Int), k ≤ ln ∧ i = .int .i64 k ∧ v = .slice (some ⟨g8, 0, none⟩) n cg8 ∧ Gr w5 wr ∧ OwnS wr g8 n cur ∧ Hid (StOk f cur) ∧ Hid (instL f se xs (P.take k) (P.drop k) cur = instL f se xs [] P xs)) (fun _ i _ => ln - (intOf i).toNat)
      case atStart => exact ⟨0, xs, Nat.zero_le _, rfl, rfl, gC, hO, HST, Lib.hid (by simp)⟩
      case round =>
        obtain ⟨k, cur, hk, rfl, rfl, gr, hO, HS, HI⟩ := hrel
        replace G := GB.trans gr
        replace hC := hCB.gr gr
        replace hf := hfB.gr gr
        replace hx := hxB.gr gr
        replace hP := hPB.gr gr
        replace hR3 := hR3B.gr gr
        clear c0 c1
        have c0 : wr.cell? (⟨w.heap.size, 0, none⟩) = some (.slice ta tn tc) := hC.at 0 rfl
        have c1 : wr.cell? (⟨w.heap.size, 1, none⟩) = some (.slice ca cn cc) := hC.at 1 rfl
        have GB_ := gr
        clear gr
        have hOi := hO.ints
        by_cases h10 : (k : Int) < ln
        · have hlt : k < ln := by omega
          obtain ⟨pd, hpa, hpb, hds, q0, q1, q2, q3⟩ := hP.at hlt
          subst hpa
          have hdr : Hid (P.drop k = (P[k]?.getD default) :: P.drop (k + 1)) := Lib.hid (drop_atP (by rw [HPL.out]; exact hlt))
          have htk : Hid (P.take (k + 1) = P.take k ++ [P[k]?.getD default]) := Lib.hid (take_atP (by rw [HPL.out]; exact hlt))
          generalize P[k]?.getD default = p at *
          replace hC : RCells wr [(⟨w.heap.size, 0, none⟩, .slice ta tn tc), (⟨w.heap.size, 1, none⟩, .slice ca cn cc), (pd.add (k * 4), .int .i64 p.c), (⟨(pd.add (k * 4)).block, (pd.add (k * 4)).off + 1, none⟩, .int .i64 p.v), (⟨(pd.add (k * 4)).block, (pd.add (k * 4)).off + 2, none⟩, .string p.data), (⟨(pd.add (k * 4)).block, (pd.add (k * 4)).off + 3, none⟩, .int .i64 p.tg)] := hC.append ((RCells.cons q0 (RCells.cons q1 (RCells.cons q2 (RCells.cons q3 (RCells.nil _))))))
          clear c0 c1
          have c0 : wr.cell? (⟨w.heap.size, 0, none⟩) = some (.slice ta tn tc) := hC.at 0 rfl
          have c1 : wr.cell? (⟨w.heap.size, 1, none⟩) = some (.slice ca cn cc) := hC.at 1 rfl
          have c2 : wr.cell? (pd.add (k * 4)) = some (.int .i64 p.c) := hC.at 2 rfl
          have c3 : wr.cell? (⟨(pd.add (k * 4)).block, (pd.add (k * 4)).off + 1, none⟩) = some (.int .i64 p.v) := hC.at 3 rfl
          have c4 : wr.cell? (⟨(pd.add (k * 4)).block, (pd.add (k * 4)).off + 2, none⟩) = some (.string p.data) := hC.at 4 rfl
          have c5 : wr.cell? (⟨(pd.add (k * 4)).block, (pd.add (k * 4)).off + 3, none⟩) = some (.int .i64 p.tg) := hC.at 5 rfl
          clear q0 q1 q2 q3
          have hsl := run_take53 wr (some pd) ln lc k (by omega)
          have hPk := hP.take (d := k) (by omega)
          have g := Gr.alloc wr (.cells #[.int .i64 p.c, .int .i64 p.v, .string p.data, .int .i64 p.tg] 46)
          have hb := heap_alloc_new wr (.cells #[.int .i64 p.c, .int .i64 p.v, .string p.data, .int .i64 p.tg] 46)
          have hbl : wr.heap.size < (wr.alloc (.cells #[.int .i64 p.c, .int .i64 p.v, .string p.data, .int .i64 p.tg] 46)).heap.size := by simp
          obtain ⟨w11, hww11⟩ : ∃ w0, wr.alloc (.cells #[.int .i64 p.c, .int .i64 p.v, .string p.data, .int .i64 p.tg] 46) = w0 := ⟨_, rfl⟩
          have hC2 : RCells (wr.alloc (.cells #[.int .i64 p.c, .int .i64 p.v, .string p.data, .int .i64 p.tg] 46)) [(⟨w.heap.size, 0, none⟩, .slice ta tn tc), (⟨w.heap.size, 1, none⟩, .slice ca cn cc), (pd.add (k * 4), .int .i64 p.c), (⟨(pd.add (k * 4)).block, (pd.add (k * 4)).off + 1, none⟩, .int .i64 p.v), (⟨(pd.add (k * 4)).block, (pd.add (k * 4)).off + 2, none⟩, .string p.data), (⟨(pd.add (k * 4)).block, (pd.add (k * 4)).off + 3, none⟩, .int .i64 p.tg), (⟨wr.heap.size, 0, none⟩, .int .i64 p.c), (⟨wr.heap.size, 1, none⟩, .int .i64 p.v), (⟨wr.heap.size, 2, none⟩, .string p.data), (⟨wr.heap.size, 3, none⟩, .int .i64 p.tg)] := hC.box (b := wr.heap.size) #[.int .i64 p.c, .int .i64 p.v, .string p.data, .int .i64 p.tg] 46 rfl
          rw [hww11] at g hb hbl hC2
          replace G := G.trans g
          replace hC := hC2
          replace GB_ := GB_.trans g
          replace hf := hf.gr g
          replace hx := hx.gr g
          replace hP := hP.gr g
          replace hR3 := hR3.gr g
          replace hO := hO.gr g
          replace hOi := hOi.gr g
          replace hPk := hPk.gr g
          have c0a11 : w11.cell? (⟨w.heap.size, 0, none⟩) = some (.slice ta tn tc) := hC.at 0 rfl
          have c1a11 : w11.cell? (⟨w.heap.size, 1, none⟩) = some (.slice ca cn cc) := hC.at 1 rfl
          have c2a11 : w11.cell? (pd.add (k * 4)) = some (.int .i64 p.c) := hC.at 2 rfl
          have c3a11 : w11.cell? (⟨(pd.add (k * 4)).block, (pd.add (k * 4)).off + 1, none⟩) = some (.int .i64 p.v) := hC.at 3 rfl
          have c4a11 : w11.cell? (⟨(pd.add (k * 4)).block, (pd.add (k * 4)).off + 2, none⟩) = some (.string p.data) := hC.at 4 rfl
          have c5a11 : w11.cell? (⟨(pd.add (k * 4)).block, (pd.add (k * 4)).off + 3, none⟩) = some (.int .i64 p.tg) := hC.at 5 rfl
          have c6a11 : w11.cell? (⟨wr.heap.size, 0, none⟩) = some (.int .i64 p.c) := hC.at 6 rfl
          have c7a11 : w11.cell? (⟨wr.heap.size, 1, none⟩) = some (.int .i64 p.v) := hC.at 7 rfl
          have c8a11 : w11.cell? (⟨wr.heap.size, 2, none⟩) = some (.string p.data) := hC.at 8 rfl
          have c9a11 : w11.cell? (⟨wr.heap.size, 3, none⟩) = some (.int .i64 p.tg) := hC.at 9 rfl
          clear g hb hbl
          have HC := Lib.hid (accept_any ta ca tn tc cn cc f se p.c p.v p.tg p.data w11 hf hds)
          go_wp2_with fail
          refine HC.out.mono ?_
          rintro e w12 ⟨rfl, g⟩
          clear HC
          clear hww11
          replace G := G.trans g
          replace hC := hC.gr g
          replace GB_ := GB_.trans g
          replace hf := hf.gr g
          replace hx := hx.gr g
          replace hP := hP.gr g
          replace hR3 := hR3.gr g
          replace hO := hO.gr g
          replace hOi := hOi.gr g
          replace hPk := hPk.gr g
          clear g
          clear c0 c1 c2 c3 c4 c5 c0a11 c1a11 c2a11 c3a11 c4a11 c5a11 c6a11 c7a11 c8a11 c9a11
          have c0 : w12.cell? (⟨w.heap.size, 0, none⟩) = some (.slice ta tn tc) := hC.at 0 rfl
          have c1 : w12.cell? (⟨w.heap.size, 1, none⟩) = some (.slice ca cn cc) := hC.at 1 rfl
          have c2 : w12.cell? (pd.add (k * 4)) = some (.int .i64 p.c) := hC.at 2 rfl
          have c3 : w12.cell? (⟨(pd.add (k * 4)).block, (pd.add (k * 4)).off + 1, none⟩) = some (.int .i64 p.v) := hC.at 3 rfl
          have c4 : w12.cell? (⟨(pd.add (k * 4)).block, (pd.add (k * 4)).off + 2, none⟩) = some (.string p.data) := hC.at 4 rfl
          have c5 : w12.cell? (⟨(pd.add (k * 4)).block, (pd.add (k * 4)).off + 3, none⟩) = some (.int .i64 p.tg) := hC.at 5 rfl
          have c6 : w12.cell? (⟨wr.heap.size, 0, none⟩) = some (.int .i64 p.c) := hC.at 6 rfl
          have c7 : w12.cell? (⟨wr.heap.size, 1, none⟩) = some (.int .i64 p.v) := hC.at 7 rfl
          have c8 : w12.cell? (⟨wr.heap.size, 2, none⟩) = some (.string p.data) := hC.at 8 rfl
          have c9 : w12.cell? (⟨wr.heap.size, 3, none⟩) = some (.int .i64 p.tg) := hC.at 9 rfl
          by_cases h13 : (acceptE f se p.c p.v p.data p.tg : Int) = 0
          · have h13b : ((acceptE f se p.c p.v p.data p.tg : Int) != 0) = false := by simp [h13]
            have Hh13 := Lib.hid h13
            clear h13
            have hver := accept_ver Hh13.out
            have hv := verB_in hver
            have hcn : p.c.toNat < n := by have := HNN.out; omega
            have hc0 : (0 : Int) ≤ p.c := hv.1
            have hc1 : p.c < (n : Int) := by have := HNN.out; omega
            obtain ⟨sd, hsa, hsb, hsc⟩ := hx.at hcn
            subst hsa
            replace hC : RCells w12 [(⟨w.heap.size, 0, none⟩, .slice ta tn tc), (⟨w.heap.size, 1, none⟩, .slice ca cn cc), (pd.add (k * 4), .int .i64 p.c), (⟨(pd.add (k * 4)).block, (pd.add (k * 4)).off + 1, none⟩, .int .i64 p.v), (⟨(pd.add (k * 4)).block, (pd.add (k * 4)).off + 2, none⟩, .string p.data), (⟨(pd.add (k * 4)).block, (pd.add (k * 4)).off + 3, none⟩, .int .i64 p.tg), (⟨wr.heap.size, 0, none⟩, .int .i64 p.c), (⟨wr.heap.size, 1, none⟩, .int .i64 p.v), (⟨wr.heap.size, 2, none⟩, .string p.data), (⟨wr.heap.size, 3, none⟩, .int .i64 p.tg), (sd.add p.c.toNat, .int .i64 (xs[p.c.toNat]?.getD 0)), (⟨g8, p.c.toNat, none⟩, .int .i64 (cur[p.c.toNat]?.getD 0))] := hC.append ((RCells.cons hsc (RCells.cons (hO.cell hcn) (RCells.nil _))))
            clear c0 c1 c2 c3 c4 c5 c6 c7 c8 c9
            have c0 : w12.cell? (⟨w.heap.size, 0, none⟩) = some (.slice ta tn tc) := hC.at 0 rfl
            have c1 : w12.cell? (⟨w.heap.size, 1, none⟩) = some (.slice ca cn cc) := hC.at 1 rfl
            have c2 : w12.cell? (pd.add (k * 4)) = some (.int .i64 p.c) := hC.at 2 rfl
            have c3 : w12.cell? (⟨(pd.add (k * 4)).block, (pd.add (k * 4)).off + 1, none⟩) = some (.int .i64 p.v) := hC.at 3 rfl
            have c4 : w12.cell? (⟨(pd.add (k * 4)).block, (pd.add (k * 4)).off + 2, none⟩) = some (.string p.data) := hC.at 4 rfl
            have c5 : w12.cell? (⟨(pd.add (k * 4)).block, (pd.add (k * 4)).off + 3, none⟩) = some (.int .i64 p.tg) := hC.at 5 rfl
            have c6 : w12.cell? (⟨wr.heap.size, 0, none⟩) = some (.int .i64 p.c) := hC.at 6 rfl
            have c7 : w12.cell? (⟨wr.heap.size, 1, none⟩) = some (.int .i64 p.v) := hC.at 7 rfl
            have c8 : w12.cell? (⟨wr.heap.size, 2, none⟩) = some (.string p.data) := hC.at 8 rfl
            have c9 : w12.cell? (⟨wr.heap.size, 3, none⟩) = some (.int .i64 p.tg) := hC.at 9 rfl
            have c10 : w12.cell? (sd.add p.c.toNat) = some (.int .i64 (xs[p.c.toNat]?.getD 0)) := hC.at 10 rfl
            have c11 : w12.cell? (⟨g8, p.c.toNat, none⟩) = some (.int .i64 (cur[p.c.toNat]?.getD 0)) := hC.at 11 rfl
            clear hsc
            have HC := Lib.hid (containsFunc74 (some pd) k lc wr.heap.size (P.take k) p.c w12 hPk c6)
            go_wp2_with fail
            refine HC.out.mono ?_
            rintro e w14 ⟨rfl, g⟩
            clear HC
            replace G := G.trans g
            replace hC := hC.gr g
            replace GB_ := GB_.trans g
            replace hf := hf.gr g
            replace hx := hx.gr g
            replace hP := hP.gr g
            replace hR3 := hR3.gr g
            replace hO := hO.gr g
            replace hOi := hOi.gr g
            replace hPk := hPk.gr g
            clear g
            clear c0 c1 c2 c3 c4 c5 c6 c7 c8 c9 c10 c11
            have c0 : w14.cell? (⟨w.heap.size, 0, none⟩) = some (.slice ta tn tc) := hC.at 0 rfl
            have c1 : w14.cell? (⟨w.heap.size, 1, none⟩) = some (.slice ca cn cc) := hC.at 1 rfl
            have c2 : w14.cell? (pd.add (k * 4)) = some (.int .i64 p.c) := hC.at 2 rfl
            have c3 : w14.cell? (⟨(pd.add (k * 4)).block, (pd.add (k * 4)).off + 1, none⟩) = some (.int .i64 p.v) := hC.at 3 rfl
            have c4 : w14.cell? (⟨(pd.add (k * 4)).block, (pd.add (k * 4)).off + 2, none⟩) = some (.string p.data) := hC.at 4 rfl
            have c5 : w14.cell? (⟨(pd.add (k * 4)).block, (pd.add (k * 4)).off + 3, none⟩) = some (.int .i64 p.tg) := hC.at 5 rfl
            have c6 : w14.cell? (⟨wr.heap.size, 0, none⟩) = some (.int .i64 p.c) := hC.at 6 rfl
            have c7 : w14.cell? (⟨wr.heap.size, 1, none⟩) = some (.int .i64 p.v) := hC.at 7 rfl
            have c8 : w14.cell? (⟨wr.heap.size, 2, none⟩) = some (.string p.data) := hC.at 8 rfl
            have c9 : w14.cell? (⟨wr.heap.size, 3, none⟩) = some (.int .i64 p.tg) := hC.at 9 rfl
            have c10 : w14.cell? (sd.add p.c.toNat) = some (.int .i64 (xs[p.c.toNat]?.getD 0)) := hC.at 10 rfl
            have c11 : w14.cell? (⟨g8, p.c.toNat, none⟩) = some (.int .i64 (cur[p.c.toNat]?.getD 0)) := hC.at 11 rfl
            cases h15 : (P.take k).any fun q => q.c == p.c with
            | false =>
              have Hh15 := Lib.hid h15
              clear h15
              go_wp2_with fail
              refine (wpIn_wide (n := 0)).1 ?_
              refine region_inv (F := Fence.wide) (by kernel_rfl) (by rfl) (by decide) (fun _ => trivial)
                (fun done' u W' => Kn [some (.pointer (some ⟨wr.heap.size, 1, none⟩)), some (.int .i64 p.v), some (.slice (some sd) n c), some (.pointer (some ⟨wr.heap.size, 0, none⟩)), some (.int .i64 p.c), some (.pointer (some (sd.add p.c.toNat))), some (.int .i64 (xs[p.c.toNat]?.getD 0)), some (.bool (decide ((p.v : Int) ≤ (xs[p.c.toNat]?.getD 0))))] done' u ∧ Gr w14 W')
                (fun u => ⟨Kn.start _ _, Gr.drew w14⟩) ⟨?_, ?_, ?_, ?_, ?_, ?_, ?_, ?_, trivial⟩ ?_
              · rintro u done' W' hd hanc hclo ⟨hk, hg⟩
                refine op_plain (ro := none) rfl (fun c h => by cases h) fun K hK => ?_
                simp only [fillL, List.setIfInBounds_toArray, List.set_cons_zero, List.set_cons_succ, Nat.zero_add, Nat.reduceAdd] at hK ⊢
                go_simp
                exact hK _ _ ⟨hk.new rfl, hg⟩
              · rintro u done' W' hd hanc hclo ⟨hk, hg⟩
                have e0 := hk.get 0 rfl (hanc 0 (mem_of (by kernel_rfl)))
                refine op_plain (ro := none) rfl (fun c h => by cases h) fun K hK => ?_
                have cc7 : W'.cell? (⟨wr.heap.size, 1, none⟩) = some (.int .i64 p.v) := (hC.gr hg).at 7 rfl
                simp only [fillL, List.setIfInBounds_toArray, List.set_cons_zero, List.set_cons_succ, Nat.zero_add, Nat.reduceAdd, e0] at hK ⊢
                go_simp
                exact hK _ _ ⟨hk.new rfl, hg⟩
              · rintro u done' W' hd hanc hclo ⟨hk, hg⟩
                refine op_plain (ro := none) rfl (fun c h => by cases h) fun K hK => ?_
                simp only [fillL, List.setIfInBounds_toArray, List.set_cons_zero, List.set_cons_succ, Nat.zero_add, Nat.reduceAdd] at hK ⊢
                go_simp
                exact hK _ _ ⟨hk.new rfl, hg⟩
              · rintro u done' W' hd hanc hclo ⟨hk, hg⟩
                refine op_plain (ro := none) rfl (fun c h => by cases h) fun K hK => ?_
                simp only [fillL, List.setIfInBounds_toArray, List.set_cons_zero, List.set_cons_succ, Nat.zero_add, Nat.reduceAdd] at hK ⊢
                go_simp
                exact hK _ _ ⟨hk.new rfl, hg⟩
              · rintro u done' W' hd hanc hclo ⟨hk, hg⟩
                have e3 := hk.get 3 rfl (hanc 3 (mem_of (by kernel_rfl)))
                refine op_plain (ro := none) rfl (fun c h => by cases h) fun K hK => ?_
                have cc6 : W'.cell? (⟨wr.heap.size, 0, none⟩) = some (.int .i64 p.c) := (hC.gr hg).at 6 rfl
                simp only [fillL, List.setIfInBounds_toArray, List.set_cons_zero, List.set_cons_succ, Nat.zero_add, Nat.reduceAdd, e3] at hK ⊢
                go_simp
                exact hK _ _ ⟨hk.new rfl, hg⟩
              · rintro u done' W' hd hanc hclo ⟨hk, hg⟩
                have e2 := hk.get 2 rfl (hanc 2 (mem_of (by kernel_rfl)))
                have e4 := hk.get 4 rfl (hanc 4 (mem_of (by kernel_rfl)))
                refine op_plain (ro := none) rfl (fun c h => by cases h) fun K hK => ?_
                simp only [fillL, List.setIfInBounds_toArray, List.set_cons_zero, List.set_cons_succ, Nat.zero_add, Nat.reduceAdd, e2, e4] at hK ⊢
                go_simp
                exact hK _ _ ⟨hk.new rfl, hg⟩
              · rintro u done' W' hd hanc hclo ⟨hk, hg⟩
                have e5 := hk.get 5 rfl (hanc 5 (mem_of (by kernel_rfl)))
                refine op_plain (ro := none) rfl (fun c h => by cases h) fun K hK => ?_
                have cc10 : W'.cell? (sd.add p.c.toNat) = some (.int .i64 (xs[p.c.toNat]?.getD 0)) := (hC.gr hg).at 10 rfl
                simp only [fillL, List.setIfInBounds_toArray, List.set_cons_zero, List.set_cons_succ, Nat.zero_add, Nat.reduceAdd, e5] at hK ⊢
                go_simp
                exact hK _ _ ⟨hk.new rfl, hg⟩
              · rintro u done' W' hd hanc hclo ⟨hk, hg⟩
                have e1 := hk.get 1 rfl (hanc 1 (mem_of (by kernel_rfl)))
                have e6 := hk.get 6 rfl (hanc 6 (mem_of (by kernel_rfl)))
                refine op_plain (ro := none) rfl (fun c h => by cases h) fun K hK => ?_
                simp only [fillL, List.setIfInBounds_toArray, List.set_cons_zero, List.set_cons_succ, Nat.zero_add, Nat.reduceAdd, e1, e6] at hK ⊢
                go_simp
                exact hK _ _ ⟨hk.new rfl, hg⟩
              · rintro u w16 ⟨done', hdn, hk, hg⟩
                have e7 := hk.get 7 rfl (hdn 7 (by decide))
                simp only [fillL, List.setIfInBounds_toArray, List.set_cons_zero, List.set_cons_succ, Nat.zero_add, Nat.reduceAdd, e7]
                clear hk hdn e7
                replace G := G.trans hg
                replace hC := hC.gr hg
                replace GB_ := GB_.trans hg
                replace hf := hf.gr hg
                replace hx := hx.gr hg
                replace hP := hP.gr hg
                replace hR3 := hR3.gr hg
                replace hO := hO.gr hg
                replace hOi := hOi.gr hg
                replace hPk := hPk.gr hg
                clear hg
                clear c0 c1 c2 c3 c4 c5 c6 c7 c8 c9 c10 c11
                have c0 : w16.cell? (⟨w.heap.size, 0, none⟩) = some (.slice ta tn tc) := hC.at 0 rfl
                have c1 : w16.cell? (⟨w.heap.size, 1, none⟩) = some (.slice ca cn cc) := hC.at 1 rfl
                have c2 : w16.cell? (pd.add (k * 4)) = some (.int .i64 p.c) := hC.at 2 rfl
                have c3 : w16.cell? (⟨(pd.add (k * 4)).block, (pd.add (k * 4)).off + 1, none⟩) = some (.int .i64 p.v) := hC.at 3 rfl
                have c4 : w16.cell? (⟨(pd.add (k * 4)).block, (pd.add (k * 4)).off + 2, none⟩) = some (.string p.data) := hC.at 4 rfl
                have c5 : w16.cell? (⟨(pd.add (k * 4)).block, (pd.add (k * 4)).off + 3, none⟩) = some (.int .i64 p.tg) := hC.at 5 rfl
                have c6 : w16.cell? (⟨wr.heap.size, 0, none⟩) = some (.int .i64 p.c) := hC.at 6 rfl
                have c7 : w16.cell? (⟨wr.heap.size, 1, none⟩) = some (.int .i64 p.v) := hC.at 7 rfl
                have c8 : w16.cell? (⟨wr.heap.size, 2, none⟩) = some (.string p.data) := hC.at 8 rfl
                have c9 : w16.cell? (⟨wr.heap.size, 3, none⟩) = some (.int .i64 p.tg) := hC.at 9 rfl
                have c10 : w16.cell? (sd.add p.c.toNat) = some (.int .i64 (xs[p.c.toNat]?.getD 0)) := hC.at 10 rfl
                have c11 : w16.cell? (⟨g8, p.c.toNat, none⟩) = some (.int .i64 (cur[p.c.toNat]?.getD 0)) := hC.at 11 rfl
                by_cases h17 : (p.v : Int) ≤ (xs[p.c.toNat]?.getD 0)
                · go_wp2_with fail
                  go_ret3
                  have HI2 : Hid (instL f se xs [] P xs = ((k : Int), 112, [])) := Lib.hid (by rw [← HI.out, hdr.out, instL, if_pos Hh13.out, if_neg (by rw [Hh15.out]; decide), if_pos h17, List.length_take, HPL.out, Nat.min_eq_left (Nat.le_of_lt hlt)])
                  have HR3 : Hid (instR f se xs P = ([], (k : Int), 112)) := Lib.hid (by rw [HR2.out, HI2.out, if_neg (by simp)])
                  exact ⟨none, 0, 0, by rw [HR3.out]; rfl, by rw [HR3.out]; exact Ints.nil _, G⟩
                · have HI2 : Hid (instL f se xs (P.take (k + 1)) (P.drop (k + 1)) (cur.set p.c.toNat p.v) = instL f se xs [] P xs) := Lib.hid (by rw [htk.out, ← HI.out, hdr.out, instL, if_pos Hh13.out, if_neg (by rw [Hh15.out]; decide), if_neg h17])
                  have HS2 : Hid (StOk f (cur.set p.c.toNat p.v)) := Lib.hid (stOk_set HS.out hver)
                  have hof := hO.free p.c.toNat
                  go_wp2_with fail
                  go_roundw
                  case rel => exact ⟨k + 1, _, by omega, by go_num, rfl, GB_.setCell hge _, hO.set hcn _, HS2, HI2⟩
                  case measure => simp [intOf] <;> omega
            | true =>
              have Hh15 := Lib.hid h15
              clear h15
              go_wp2_with fail
              go_ret3
              have HI2 : Hid (instL f se xs [] P xs = ((k : Int), 1, [])) := Lib.hid (by rw [← HI.out, hdr.out, instL, if_pos Hh13.out, if_pos Hh15.out, List.length_take, HPL.out, Nat.min_eq_left (Nat.le_of_lt hlt)])
              have HR3 : Hid (instR f se xs P = ([], (k : Int), 1)) := Lib.hid (by rw [HR2.out, HI2.out, if_neg (by simp)])
              exact ⟨none, 0, 0, by rw [HR3.out]; rfl, by rw [HR3.out]; exact Ints.nil _, G⟩
          · have h13b : ((acceptE f se p.c p.v p.data p.tg : Int) != 0) = true := by simp [h13]
            have Hh13 := Lib.hid h13
            clear h13
            go_wp2_with fail
            go_ret3
            have HI2 : Hid (instL f se xs [] P xs = ((k : Int), acceptE f se p.c p.v p.data p.tg, [])) := Lib.hid (by rw [← HI.out, hdr.out, instL, if_neg Hh13.out, List.length_take, HPL.out, Nat.min_eq_left (Nat.le_of_lt hlt)])
            have HR3 : Hid (instR f se xs P = ([], (k : Int), acceptE f se p.c p.v p.data p.tg)) := Lib.hid (by rw [HR2.out, HI2.out, if_neg (by exact Hh13.out)])
            exact ⟨none, 0, 0, by rw [HR3.out]; rfl, by rw [HR3.out]; exact Ints.nil _, G⟩
        · obtain rfl : k = ln := by omega
          have HI2 : Hid (instL f se xs [] P xs = (0, 0, cur)) := Lib.hid (by rw [← HI.out, List.drop_eq_nil_of_le (by rw [HPL.out]; exact Nat.le_refl _)]; simp [instL])
          have HC := Lib.hid (works_any ta ca a tn tc cn cc n c f xs wr hf hok hx hst)
          go_wp2_with fail
          refine HC.out.mono ?_
          rintro e w18 ⟨rfl, g⟩
          clear HC
          replace G := G.trans g
          replace hC := hC.gr g
          replace GB_ := GB_.trans g
          replace hf := hf.gr g
          replace hx := hx.gr g
          replace hP := hP.gr g
          replace hR3 := hR3.gr g
          replace hO := hO.gr g
          replace hOi := hOi.gr g
          clear g
          clear c0 c1
          have c0 : w18.cell? (⟨w.heap.size, 0, none⟩) = some (.slice ta tn tc) := hC.at 0 rfl
          have c1 : w18.cell? (⟨w.heap.size, 1, none⟩) = some (.slice ca cn cc) := hC.at 1 rfl
          cases h19 : worksB f xs with
          | false =>
            have Hh19 := Lib.hid h19
            clear h19
            go_wp2_with fail
            go_ret3
            have HR3 : Hid (instR f se xs P = ([], 0, 111)) := Lib.hid (by rw [HR2.out, HI2.out, if_pos rfl, if_neg (by rw [show worksB f xs = false from Hh19.out]; simp)])
            exact ⟨none, 0, 0, by rw [HR3.out]; rfl, by rw [HR3.out]; exact Ints.nil _, G⟩
          | true =>
            have Hh19 := Lib.hid h19
            clear h19
            have HC := Lib.hid (works_any ta ca (some ⟨g8, 0, none⟩) tn tc cn cc n cg8 f cur w18 hf hok hOi HS.out)
            go_wp2_with fail
            refine HC.out.mono ?_
            rintro e w20 ⟨rfl, g⟩
            clear HC
            replace G := G.trans g
            replace hC := hC.gr g
            replace GB_ := GB_.trans g
            replace hf := hf.gr g
            replace hx := hx.gr g
            replace hP := hP.gr g
            replace hR3 := hR3.gr g
            replace hO := hO.gr g
            replace hOi := hOi.gr g
            clear g
            clear c0 c1
            have c0 : w20.cell? (⟨w.heap.size, 0, none⟩) = some (.slice ta tn tc) := hC.at 0 rfl
            have c1 : w20.cell? (⟨w.heap.size, 1, none⟩) = some (.slice ca cn cc) := hC.at 1 rfl
            cases h21 : worksB f cur with
            | false =>
              have Hh21 := Lib.hid h21
              clear h21
              go_wp2_with fail
              go_ret3
              have HR3 : Hid (instR f se xs P = ([], 0, 111)) := Lib.hid (by rw [HR2.out, HI2.out, if_pos rfl, if_neg (by rw [show worksB f cur = false from Hh21.out]; simp)])
              exact ⟨none, 0, 0, by rw [HR3.out]; rfl, by rw [HR3.out]; exact Ints.nil _, G⟩
            | true =>
              have Hh21 := Lib.hid h21
              clear h21
              go_wp2_with fail
              go_ret3
              have HR3 : Hid (instR f se xs P = (cur, 0, 0)) := Lib.hid (by rw [HR2.out, HI2.out, if_pos rfl, if_pos (by rw [show worksB f xs = true from Hh19.out, show worksB f cur = true from Hh21.out, Bool.and_self])])
              exact ⟨_, _, _, by rw [HR3.out]; rfl, by rw [HR3.out]; exact hO.ints, G⟩
  · have h6b : ((statesE f ([xs]) : Int) != 0) = true := by simp [h6]
    have Hh6 := Lib.hid h6
    clear h6
    have HR : Hid (instR f se xs P = ([], 0, statesE f [xs])) := Lib.hid (by rw [instR, if_neg Hh6.out])
    go_wp2_with fail
    go_ret3
    exact ⟨none, 0, 0, by rw [HR.out]; rfl, by rw [HR.out]; exact Ints.nil _, G⟩
end
section
def nxt (T : List (List Int)) (xs : List Int) (L : List (List Int)) (a : Nat) (m : Int) : Nat := if a < L.length ∧ dur T (pAt xs L a) (pAt xs L (a + 1)) ≤ m then a + 1 else a

theorem pAt_succ {xs : List Int} {L : List (List Int)} {a : Nat} : pAt xs L (a + 1) = L[a]?.getD [] := by simp [pAt]

theorem okPlan_ne {f : Fl} {bu : Int} : ∀ (L : List (List Int)) (xs : List Int), okPlan f bu xs L → ∀ k, k < L.length → pAt xs L k ≠ pAt xs L (k + 1) ∧ worksB f (pAt xs L (k + 1)) = true ∧ dur f.times (pAt xs L k) (pAt xs L (k + 1)) ≤ bu := by
  intro L
  induction L with
  | nil => intro xs _ k hk; simp at hk
  | cons s r ih =>
    intro xs h k hk
    cases k with
    | zero =>
      have := h.2.1
      simp only [stepsB, Bool.and_eq_true, Bool.not_eq_true', decide_eq_false_iff_not, decide_eq_true_eq] at this
      exact ⟨by simpa [pAt] using this.1.2, by simpa [pAt] using h.1, by simpa [pAt] using this.2⟩
    | succ k => have := ih s h.2.2 k (by simpa using hk); simpa [pAt] using this
theorem PlOk.works {f : Fl} {bu : Int} {xs : List Int} {L : List (List Int)} (h : PlOk f bu xs L) (hx : worksB f xs = true) {k : Nat} (hk : k ≤ L.length) : worksB f (pAt xs L k) = true := by
  cases k with
  | zero => simpa [pAt] using hx
  | succ k => exact (okPlan_ne L xs h.pl k (by omega)).2.1
theorem cpR_chk {f : Fl} {xs : List Int} {L : List (List Int)} {bu : Int} (h : (cpR f xs L bu).2 = 0) : chkB f = true ∧ worksB f xs = true ∧ 0 ≤ bu := by
  unfold cpR at h
  by_cases hp : cpPre f xs L bu = 0
  · rw [if_pos hp] at h
    by_cases hw : worksB f xs = true
    · have hp2 := hp
      unfold cpPre at hp2
      by_cases hc : chkE f = 0
      · rw [if_pos hc] at hp2
        split at hp2
        · omega
        · have hb : statesE f (xs :: L) = 0 ∧ withinB bu 0 1000000 = true := by
            unfold beginE at hp2
            by_cases hz : statesE f (xs :: L) = 0
            · rw [if_pos hz] at hp2
              refine ⟨hz, ?_⟩
              cases hb : withinB bu 0 1000000 with
              | true => rfl
              | false => rw [hb] at hp2; simp at hp2
            · rw [if_neg hz] at hp2; exact absurd hp2 hz
          refine ⟨(statesE_zero hb.1).1, hw, ?_⟩
          have := hb.2
          simp [withinB] at this; omega
      · rw [if_neg hc] at hp2; exact absurd hp2 hc
    · rw [if_neg hw] at h; simp at h
  · rw [if_neg hp] at h; exact absurd h hp
theorem wE_zero {f : Fl} {s : List Int} (h1 : chkB f = true) (hs : StOk f s) : wE f s = 0 := by
  unfold wE statesE
  rw [if_pos h1, stsB_cons, hs.b]
  simp [stsB]
theorem wB_true {f : Fl} {s : List Int} (h : chkB f = true) (hs : StOk f s) (hw : worksB f s = true) : wB f s = true := by
  unfold wB; rw [show statesE f [s] = 0 from wE_zero h hs, if_pos rfl]; exact hw

theorem bk_len (xs : List Int) (L : List (List Int)) : ∀ d, (bk xs L d).length = d := by
  intro d
  induction d with
  | zero => rfl
  | succ d ih => simp [bk, ih]
theorem bk_at (xs : List Int) (L : List (List Int)) : ∀ d j, j < d → (bk xs L d)[j]?.getD [] = pAt xs L (d - 1 - j) := by
  intro d
  induction d with
  | zero => intro j hj; omega
  | succ d ih =>
    intro j hj
    cases j with
    | zero => simp [bk]
    | succ j =>
      simp only [bk, List.getElem?_cons_succ]
      rw [ih j (by omega)]
      congr 1; omega
theorem back_ok {f : Fl} {bu : Int} {xs : List Int} {L : List (List Int)} (hc : (cpR f xs L bu).2 = 0) {d : Nat} (hd : d ≤ L.length) : backE f xs L bu d = 0 ∧ backV f xs L bu d = bk xs L d := by
  have h1 : backE f xs L bu d = 0 := by
    unfold backE; rw [if_pos hc, show withinB (d : Int) 0 L.length = true from by simp [withinB]; omega]; rfl
  exact ⟨h1, by unfold backV; rw [if_pos h1]; rfl⟩
end
end Go.Proofs.Ytaidcocjcidggaa
