/- Several texts of this claim in one file. (1) The reference's search for a conflict: marks of bonds, regions that append and store. Nothing of the program is proved here. (2) How much longer all tasks may take. Nothing of the program is proved here. (3) The easier problem in memory: bonds moved up, hosts turned in place. Nothing of the program is proved here. (4) The law about conflicts: a copy of the problem whose bonds are emptied and filled; what Best says of it. Nothing of the program is proved here. (5) Contract: Conflict. (6) Contract: the reference's Conflict. -/
import Derived.Test.YtodedneanlekdaaBd13
import Derived.Test.YtodedneanlekdaaBd10
import Derived.Test.YtodedneanlekdaaBd8
import Derived.Test.YtodedneanlekdaaBd12
import Derived.Test.YtodedneanlekdaaBd4
namespace Go.Proofs.Ytodedneanlekdaa
set_option linter.unusedSimpArgs false
set_option linter.unusedVariables false
section
set_option linter.unusedVariables false
open Go.RowKit
theorem Try.info4 : (Try.prog.info? 4).map (fun i => (i.zero, i.size, i.bytes)) = some (some (.bool false), 1, 1) := by kernel_rfl
theorem make117 (W : World) {N : Nat} {x : Int} (hx : x = N) (hN : N ≤ 1000000) : ∃ W', (Instr.makeSlice 117 (.int .i64 x) (.int .i64 x)).run Try.prog W = .ok (.slice (some ⟨W.heap.size, 0, none⟩) N N) W' ∧ OwnP W' W.heap.size N (fun _ => .bool false) ∧ Gr W W' := by
  subst hx
  obtain ⟨i, hi, h0, h1, h2⟩ := info_parts Try.info4
  have hr := run_make (P := Try.prog) W 117 4 i _ Try.underlying117 hi h0 .i64 .i64 N N (by omega) (Int.le_refl _) (by rw [h2]; omega) (by omega)
  simp only [Int.toNat_natCast, h1] at hr
  refine ⟨_, hr, ⟨_, _, World.alloc_heap_new _ _, by rw [size_madeCells]; omega, fun k hk => ?_⟩, Gr.alloc _ _⟩
  unfold madeCells
  simp only [Value.cells, Array.getElem?_map]
  rw [Array.getElem?_eq_getElem (by simpa using hk)]
  simp [Nat.mod_one]
/-- which bonds are gone -/
def gvV (G : List Nat) : Nat → Value := fun k => .bool (G.contains k)
theorem gv_nil (k : Nat) : Value.bool false = gvV [] k := rfl
theorem gv_set {G : List Nat} {i : Nat} (j : Nat) : (if j = i then Value.bool true else gvV G j) = gvV (G ++ [i]) j := by
  unfold gvV
  by_cases e : j = i
  · subst e; rw [if_pos rfl]; simp
  · rw [if_neg e]; simp [e]
theorem gv_del {G : List Nat} {i : Nat} (h : ∀ x ∈ G, x < i) (j : Nat) : (if j = i then Value.bool false else gvV (G ++ [i]) j) = gvV G j := by
  unfold gvV
  by_cases e : j = i
  · subst e; rw [if_pos rfl]
    have : j ∉ G := fun hj => by have := h j hj; omega
    simp [this]
  · rw [if_neg e]; simp [e]
theorem con_nin {p : Pb} : ∀ j, nin j (conS p j).1 = (conS p j).2 := by
  intro j
  induction j with
  | zero => rfl
  | succ j ih =>
    have hm : ∀ x ∈ (conS p j).1, x < j := fun x hx => (con_mem j x).1.1 (.inl hx)
    rw [conS]
    split
    · rw [nin_s, ih, if_neg (by rw [List.contains_iff_mem]; exact fun h => by have := hm j h; omega)]
    · rw [nin_s, if_pos (by simp), List.append_nil, ← ih]
      unfold nin
      refine List.filter_congr fun k hk => ?_
      rw [List.mem_range] at hk
      have : ¬ k = j := by omega
      simp [this]
/-- a region that makes a row of one (a), appends it to an older row (b), and stores this (c) -/
structure RPh (w : World) (a b c : Nat) (Ta Tb : Value → World → Prop) (Tc : World → Prop) (done : Nat → Bool) (u : Nat → Value) (W : World) : Prop where
  g : done b = false → Gr w W
  ga : done a = true → done b = false → Ta (u a) W
  gb : done b = true → done c = false → Tb (u b) W
  gc : done c = true → Tc W
def ne3 (a b c : Nat) : Bool := !(a == b || a == c || b == c)
section
variable {w W W' : World} {a b c i : Nat} {Ta Tb : Value → World → Prop} {Tc : World → Prop} {done : Nat → Bool} {u : Nat → Value} {v : Value}
theorem ne3_all (h : ne3 a b c = true) : a ≠ b ∧ a ≠ c ∧ b ≠ c := by
  simp only [ne3, Bool.not_eq_true', Bool.or_eq_false_iff, beq_eq_false_iff_ne] at h
  exact ⟨h.1.1, h.1.2, h.2⟩
theorem RPh.start {u : Nat → Value} (g : Gr w W) : RPh w a b c Ta Tb Tc (fun _ => false) u W := ⟨fun _ => g, fun h => by simp at h, fun h => by simp at h, fun h => by simp at h⟩
theorem RPh.quiet (h : RPh w a b c Ta Tb Tc done u W) (ha : UpV Ta) (hb : done b = false) (hc : done c = false) (g : Gr W W') (hi : (i == a || i == b || i == c) = false) : RPh w a b c Ta Tb Tc (upd done i) (fun j => if j = i then v else u j) W' := by
  simp only [Bool.or_eq_false_iff, beq_eq_false_iff_ne] at hi
  obtain ⟨⟨h1, h2⟩, h3⟩ := hi
  refine ⟨fun _ => (h.g hb).trans g, fun k0 k1 => ?_, fun k0 => ?_, fun k0 => ?_⟩
  · rw [upd_ne (Ne.symm h1)] at k0
    simp only [if_neg (Ne.symm h1)]
    exact ha _ _ _ (h.ga k0 hb) g
  · rw [upd_ne (Ne.symm h2), hb] at k0; cases k0
  · rw [upd_ne (Ne.symm h3), hc] at k0; cases k0
theorem RPh.pure (h : RPh w a b c Ta Tb Tc done u W) (hi : (i == a || i == b || i == c) = false) : RPh w a b c Ta Tb Tc (upd done i) (fun j => if j = i then v else u j) W := by
  simp only [Bool.or_eq_false_iff, beq_eq_false_iff_ne] at hi
  obtain ⟨⟨h1, h2⟩, h3⟩ := hi
  refine ⟨fun k => h.g ?_, fun k0 k1 => ?_, fun k0 k1 => ?_, fun k0 => h.gc ?_⟩
  · rwa [upd_ne (Ne.symm h2)] at k
  · rw [upd_ne (Ne.symm h1)] at k0; rw [upd_ne (Ne.symm h2)] at k1
    simp only [if_neg (Ne.symm h1)]
    exact h.ga k0 k1
  · rw [upd_ne (Ne.symm h2)] at k0; rw [upd_ne (Ne.symm h3)] at k1
    simp only [if_neg (Ne.symm h2)]
    exact h.gb k0 k1
  · rwa [upd_ne (Ne.symm h3)] at k0
theorem RPh.sa (h : RPh w a b c Ta Tb Tc done u W) (hn : ne3 a b c = true) (hb : done b = false) (hc : done c = false) (g : Gr W W') (ht : Ta v W') : RPh w a b c Ta Tb Tc (upd done a) (fun j => if j = a then v else u j) W' := by
  obtain ⟨h1, h2, h3⟩ := ne3_all hn
  refine ⟨fun _ => (h.g hb).trans g, fun _ _ => by simpa using ht, fun k0 => ?_, fun k0 => ?_⟩
  · rw [upd_ne (Ne.symm h1), hb] at k0; cases k0
  · rw [upd_ne (Ne.symm h2), hc] at k0; cases k0
theorem RPh.sb (hn : ne3 a b c = true) (hc : done c = false) (ht : Tb v W') : RPh w a b c Ta Tb Tc (upd done b) (fun j => if j = b then v else u j) W' := by
  obtain ⟨h1, h2, h3⟩ := ne3_all hn
  refine ⟨fun k => ?_, fun _ k => ?_, fun _ _ => by simpa using ht, fun k0 => ?_⟩
  · rw [upd_self] at k; cases k
  · rw [upd_self] at k; cases k
  · rw [upd_ne (Ne.symm h3), hc] at k0; cases k0
theorem RPh.sc (hn : ne3 a b c = true) (hb : done b = true) (ht : Tc W') : RPh w a b c Ta Tb Tc (upd done c) (fun j => if j = c then v else u j) W' := by
  obtain ⟨h1, h2, h3⟩ := ne3_all hn
  refine ⟨fun k => ?_, fun _ k => ?_, fun _ k => ?_, fun _ => ht⟩
  · rw [upd_ne h3, hb] at k; cases k
  · rw [upd_ne h3, hb] at k; cases k
  · rw [upd_self] at k; cases k
end
/-- a problem in a variable of the call's own, whose bonds are chosen -/
def qsV (ta ha a la : Option Addr) (tc hc c lc nt nh n nl : Nat) : Nat → Value := VL [.slice ta nt tc, .slice ha nh hc, .slice a n c, .slice la nl lc]
theorem qs_set {ta ha a la a2 : Option Addr} {tc hc c lc nt nh n nl n2 c2 : Nat} : ∀ k, k < 4 → (if k = 2 then .slice a2 n2 c2 else qsV ta ha a la tc hc c lc nt nh n nl k) = qsV ta ha a2 la tc hc c2 lc nt nh n2 nl k := VL4_2 _ _ _ _ _
/-- what the append makes, and what the store makes -/
def TbS (w : World) (B : Nat) (p : Pb) (S : List Nat) (v0 : Value) (v : Value) (W : World) : Prop := ∃ a c, v = .slice a S.length c ∧ OwnR W B 65 3 (.slice a S.length c) S.length (selV p S) ∧ Only (fun b => v0.ownBlock = some b) w W ∧ Moved w v0 (.slice a S.length c)
def TcS (w : World) (q B : Nat) (p : Pb) (ta ha la : Option Addr) (tc hc lc : Nat) (S : List Nat) (v0 : Value) (W : World) : Prop := ∃ a c, OwnP W q 4 (qsV ta ha a la tc hc c lc p.nt p.nh S.length p.nl) ∧ OwnR W B 65 3 (.slice a S.length c) S.length (selV p S) ∧ Only (fun b => v0.ownBlock = some b ∨ b = q) w W ∧ Moved w v0 (.slice a S.length c)
theorem pos_len {p : Pb} {E : List BegE} (h : E.map BegE.xs = allP p) : posB p = decide ((0 : Int) < E.length) := by
  unfold posB
  rw [← h]
  cases E with
  | nil => rfl
  | cons x t => simp
end
section
set_option linter.unusedVariables false
open Go.RowKit
section
variable {p : Pb} {xs : List Int}
end
end
section
set_option linter.unusedVariables false
open Go.RowKit
section
variable {w W : World} {B B' e e' k k' n n' m c : Nat} {a : Option Addr} {v v' : Value} {xs xs' : List Value} {p : Pb} {b m0 m1 m2 : Int}
end
section
variable {W W' : World} {B : Nat} {p : Pb} {b m0 m1 m2 : Int} {ta ha ba la : Option Addr} {tc hc bc lc i r : Nat}
/-- what an address points to is not in block q -/
def Nq (a : Option Addr) (q : Nat) : Prop := ∀ ad, a = some ad → ad.block ≠ q
theorem Nq.own {a : Option Addr} {q n c x : Nat} (h : Nq a q) (hx : (Value.slice a n c).ownBlock = some x) : x ≠ q := by
  cases a with
  | none => simp [Value.ownBlock] at hx
  | some a => simp [Value.ownBlock] at hx; subst hx; exact h a rfl
theorem OwnR.nq {e k n c : Nat} {a : Option Addr} {xs : List Value} (h : OwnR W B e k (.slice a n c) n xs) : Nq a W.heap.size := fun ad e9 => by
  subst e9
  have := (h.ge (b := ad.block) rfl).2
  omega
variable {q : Nat}
theorem PbOwn.nq (h : PbOwn W B p ta ha ba la tc hc bc lc) : Nq ta W.heap.size ∧ Nq ha W.heap.size ∧ Nq ba W.heap.size ∧ Nq la W.heap.size := ⟨h.t.nq, h.h.nq, h.b.nq, h.l.nq⟩
end
end
section
set_option linter.unusedVariables false
open Go.RowKit
/-- the copy without its bonds; no row lies in block q -/
structure CqR (W : World) (B q : Nat) (p : Pb) (ta ha la : Option Addr) (tc hc lc : Nat) : Prop where
  t : OwnR W B 74 4 (.slice ta p.nt tc) p.nt (tbL (tvV p) p.nt 4)
  h : OwnR W B 53 6 (.slice ha p.nh hc) p.nh (tbL (hvV p) p.nh 6)
  l : OwnR W B 84 3 (.slice la p.nl lc) p.nl (tbL (lvV p) p.nl 3)
  n : Nq ta q ∧ Nq ha q ∧ Nq la q
  s1 : ∀ i, i < p.nt → (p.tn i).size ≤ 9223372036854775807
  s2 : ∀ i, i < p.nh → (p.hn i).size ≤ 9223372036854775807
section
variable {W W' : World} {B q : Nat} {p : Pb} {ta ha ba la a : Option Addr} {tc hc bc lc c : Nat} {S : List Nat}
theorem CqR.gr (h : CqR W B q p ta ha la tc hc lc) (g : Gr W W') : CqR W' B q p ta ha la tc hc lc := ⟨h.t.gr g, h.h.gr g, h.l.gr g, h.n, h.s1, h.s2⟩
theorem CqR.only (h : CqR W B q p ta ha la tc hc lc) (g : Only (fun x => x = q) W W') : CqR W' B q p ta ha la tc hc lc :=
  ⟨h.t.only g fun x hx e => h.n.1.own hx e, h.h.only g fun x hx e => h.n.2.1.own hx e, h.l.only g fun x hx e => h.n.2.2.own hx e, h.n, h.s1, h.s2⟩
theorem CqR.of (h : PbOwn W B p ta ha ba la tc hc bc lc) : CqR W B W.heap.size p ta ha la tc hc lc := ⟨h.t, h.h, h.l, ⟨h.nq.1, h.nq.2.1, h.nq.2.2.2⟩, h.s1, h.s2⟩
theorem CqR.at {B2 : Nat} (h : CqR W B q p ta ha la tc hc lc) (hz : SmlP p) (hO : OwnR W B2 65 3 (.slice a S.length c) S.length (selV p S)) (hn : S.length ≤ 40) : PbAt W (selP p S) ta ha a la tc hc c lc := by
  obtain ⟨h1, h2, h3, h4⟩ := hz
  exact ⟨h.t.tb (by omega), h.h.tb (by omega), hO.tb (by omega), h.l.tb (by omega), h.s1, h.s2⟩
end
section
variable {p : Pb} {K : List Nat} {s : Int} {n : Nat}
theorem skp_y (h : (n : Int) = s) : skp K s (n + 1) = skp K s n := if_pos h
theorem skp_n (h : ¬ (n : Int) = s) : skp K s (n + 1) = skp K s n ++ [K[n]?.getD 0] := if_neg h
theorem best_pos (h : chkE p = 0) : (bestR p).2.2 = if posB p then 0 else 3 := by
  have hl := srtK_len (keyC p) (allP p)
  unfold bestR posB
  rw [if_neg (by rw [h]; decide)]
  cases e : srtK (keyC p) (allP p) with
  | nil =>
    rw [e] at hl
    have : allP p = [] := List.eq_nil_of_length_eq_zero hl.symm
    rw [this]; rfl
  | cons y t =>
    rw [e] at hl
    cases e2 : allP p with
    | nil => rw [e2] at hl; simp at hl
    | cons z u => rfl
theorem conf_ok (h : confE p = 0) : chkE p = 0 ∧ posB p = false ∧ confK p = (conS p p.nb).2 := by
  unfold confE at h
  split at h
  · rename_i h1; exact absurd h h1
  · rename_i h1
    split at h
    · cases h
    · rename_i h2
      have h1 : chkE p = 0 := Classical.byContradiction h1
      have h2 : posB p = false := by simpa using h2
      exact ⟨h1, h2, (conf_3 h1 h2).2⟩
theorem confK_lt (h : confE p = 0) : ∀ x ∈ confK p, x < p.nb := fun x hx => by
  rw [(conf_ok h).2.2] at hx
  exact (con_mem p.nb x).1.1 (.inr hx)
theorem confK_len (h : confE p = 0) : (confK p).length ≤ p.nb := by
  rw [(conf_ok h).2.2]
  have := con_len (p := p) p.nb; omega
theorem confK_get (h : confE p = 0) {k : Nat} (hk : k < (confK p).length) : (confK p)[k]?.getD 0 < p.nb := by
  rw [List.getElem?_eq_getElem hk]; exact confK_lt h _ (List.getElem_mem hk)
/-- what Best says of the bonds in conflict, and of all but one of them -/
theorem conf_best (h : confE p = 0) (i : Nat) (hi : i ≤ (confK p).length) : (bestR (selP p (skp (confK p) ((i : Int) - 1) (confK p).length))).2.2 = if i = 0 then 3 else 0 := by
  obtain ⟨h1, h2, h3⟩ := conf_ok h
  have hc : chkE (selP p (skp (confK p) ((i : Int) - 1) (confK p).length)) = 0 := sel_chk h1 (fun k hk => by
    obtain ⟨j, hj, _, rfl⟩ := skp_mem.1 hk
    exact confK_get h hj) (Nat.le_trans skp_len (confK_len h))
  rw [best_pos hc]
  obtain ⟨k1, k2⟩ := con_law h1 h2
  rw [← h3] at k1 k2
  by_cases e : i = 0
  · subst e
    rw [if_pos rfl, show ((0 : Nat) : Int) - 1 = -1 from rfl, k1]; rfl
  · rw [if_neg e]
    have := k2 (i - 1) (by omega)
    rw [show (((i - 1 : Nat) : Nat) : Int) = (i : Int) - 1 by omega] at this
    rw [this]; rfl
end
end
section
open Go.RowKit

set_option maxRecDepth 100000 in
set_option maxHeartbeats 4000000 in
theorem conflict_any (p : Pb) (ta ha ba la : Option Addr) (tc hc bc lc : Nat) (w : World) (hP : PbAt w p ta ha ba la tc hc bc lc) :
  Calls Try.prog 45 #[.agg #[.slice ta p.nt tc, .slice ha p.nh hc, .slice ba p.nb bc, .slice la p.nl lc]] w fun e w' => ∃ a c, e = .returned (.tuple #[.slice a (intsN (confK p)).length c, Vi (confE p)]) ∧ Ints w' a (intsN (confK p)).length (intsN (confK p)) ∧ (∀ ad, a = some ad → ad.block < w'.heap.size) ∧ Gr w w' := by
 have G := Gr.refl w
 have hpt := hP.t
 have hph := hP.h
 have hpb := hP.b
 have hpl := hP.l
 have hplen := hP.len
 obtain ⟨hn1, hn2, hn3, hn4⟩ := hplen
 have hcp1 := hpt.cap
 have hcp2 := hph.cap
 have hcp3 := hpb.cap
 have hcp4 := hpl.cap
 refine Y.calls 40 Try.func45 rfl rfl ?_
 intro ac F0
 have F : Fr ac 40 [(0, .agg #[.slice ta p.nt tc, .slice ha p.nh hc, .slice ba p.nb bc, .slice la p.nl lc])] := F0.sub _
 clear F0
 refine Y.sl ?_
 have hgs3 : w.heap.size ≤ w.heap.size := G.size
 refine Y.pv F (X.box rfl (F.ev 0 (.agg #[.slice ta p.nt tc, .slice ha p.nh hc, .slice ba p.nb bc, .slice la p.nl lc])) X.bx) ?_;clear F ac;intro ac F
 have hgs5 : w.heap.size ≤ w.heap.size := G.size
 obtain ⟨w6, hw_, g, hb, hbl, hC2⟩ := Y.bxd (RCells.nil w) #[.slice ta p.nt tc, .slice ha p.nh hc, .slice ba p.nb bc, .slice la p.nl lc] 27;rw [hw_];clear hw_
 replace G := G.trans g
 have hC := hC2
 clear hC2
 replace hpt := hpt.gr g
 replace hph := hph.gr g
 replace hpb := hpb.gr g
 replace hpl := hpl.gr g
 have hsz4 := hbl
 clear g hb hbl
 refine Y.pv2 F (X.assign rfl (X.kc (.slice none 0 0) rfl)) (fun _ F=>X.assign rfl (X.kc (Vi 0) rfl)) ?_;clear F ac;intro ac F
 refine Y.nt F [(1, Vp w.heap.size)] ?_;clear F ac;intro ac F
 refine Y.seq ?_
 refine Y.sl ?_
 refine Y.pv F (X.load rfl (F.ev 1 (Vp w.heap.size)) (X.ldN (Try.agg27 _) (Try.siz27 _) (Y.atz (⟨w.heap.size, 0, none⟩) (Y.AtFrom.cons (hC.at 0 rfl) (Y.AtFrom.cons (hC.at 1 rfl) (Y.AtFrom.cons (hC.at 2 rfl) (Y.AtFrom.cons (hC.at 3 rfl) (Y.AtFrom.nil _ _ _)))))))) ?_;clear F ac;intro ac F
 refine Y.pc F 18 (X.a1 (F.ev 8 (.agg #[.slice ta p.nt tc, .slice ha p.nh hc, .slice ba p.nb bc, .slice la p.nl lc]))) Try.func18 (check_any p ta ha ba la tc hc bc lc w6 (hP.gr G)) ?_
 clear F ac
 rintro e w7 ⟨rfl, g⟩
 refine ⟨_, rfl, ?_⟩
 intro ac F
 replace G := G.trans g
 replace hC := hC.gr g
 replace hpt := hpt.gr g
 replace hph := hph.gr g
 replace hpb := hpb.gr g
 replace hpl := hpl.gr g
 clear g
 refine Y.pv F (X.assign rfl (F.ev 9 (Vi (chkE p)))) ?_;clear F ac;intro ac F
 refine Y.nt F [(1, Vp w.heap.size), (4, Vi (chkE p))] ?_;clear F ac;intro ac F
 refine Y.sg F [(1, Vp w.heap.size), (4, Vi (chkE p)), (11, .bool ((chkE p : Int) != 0))] (Y.pv F (X.move rfl (F.ev 4 (Vi (chkE p)))) fun ac F=>Y.pv F (X.binop rfl (F.ev 10 (Vi (chkE p))) (X.kc (Vi 0) rfl) (X.neqI Try.underlying31 rfl)) fun ac F=>Y.fin F) ?_;clear F ac;intro ac F
 cases h8 : ((chkE p : Int) != 0) with
 | false =>
  try rw [h8] at F
  have h8p : (chkE p : Int) = 0 := by simpa using h8
  have hck : chkE p = 0 := by omega
  have hp := chk_ok hck
  have hb30 := hp.b30
  refine Y.condF (F.ev 11 (.bool false)) ?_
  refine Y.skip ?_
  refine X.thenN ?_
  refine Y.seq ?_
  refine Y.sl ?_
  refine Y.pv F (X.load rfl (F.ev 1 (Vp w.heap.size)) (X.ldN (Try.agg27 _) (Try.siz27 _) (Y.atz (⟨w.heap.size, 0, none⟩) (Y.AtFrom.cons (hC.at 0 rfl) (Y.AtFrom.cons (hC.at 1 rfl) (Y.AtFrom.cons (hC.at 2 rfl) (Y.AtFrom.cons (hC.at 3 rfl) (Y.AtFrom.nil _ _ _)))))))) ?_;clear F ac;intro ac F
  refine Y.pc F 84 (X.a1 (F.ev 13 (.agg #[.slice ta p.nt tc, .slice ha p.nh hc, .slice ba p.nb bc, .slice la p.nl lc]))) Try.func84 (possible_any p ta ha ba la tc hc bc lc hp w7 (hP.gr G)) ?_
  clear F ac
  rintro e w9 ⟨rfl, g⟩
  refine ⟨_, rfl, ?_⟩
  intro ac F
  replace G := G.trans g
  replace hC := hC.gr g
  replace hpt := hpt.gr g
  replace hph := hph.gr g
  replace hpb := hpb.gr g
  replace hpl := hpl.gr g
  clear g
  refine Y.nt F [(1, Vp w.heap.size), (14, .bool (posB p))] ?_;clear F ac;intro ac F
  cases h10 : posB p with
  | false =>
   try rw [h10] at F
   refine Y.condF (F.ev 14 (.bool false)) ?_
   refine Y.skip ?_
   refine X.thenN ?_
   refine Y.sg F [(1, Vp w.heap.size), (5, .slice none 0 0), (6, .slice none 0 0)] (Y.pv F (X.assign rfl (X.kc (.slice none 0 0) rfl)) fun ac F=>Y.pv F (X.assign rfl (X.kc (.slice none 0 0) rfl)) fun ac F=>Y.fin F) ?_;clear F ac;intro ac F
   refine Y.seq ?_
   refine Y.sg F [(1, Vp w.heap.size), (5, .slice none 0 0), (6, .slice none 0 0), (17, Vi p.nb), (18, Vi 0)] (by
    refine Y.pv F (X.field rfl (F.ev 1 (Vp w.heap.size)) (X.fld Try.underlying27 rfl (Try.siz24 _) rfl rfl)) fun ac F=>?_
    refine Y.pv F (X.load rfl (F.ev 15 (.pointer (some ⟨w.heap.size, 2, none⟩))) (X.ld1 (Try.agg24 _) (hC.at 2 rfl))) fun ac F=>?_
    refine Y.pv F (X.len1 Try.underlying24 rfl (F.ev 16 (.slice ba p.nb bc))) fun ac F=>?_
    refine Y.pv F (X.move rfl (X.kc (Vi 0) rfl)) fun ac F=>?_
    exact Y.fin F) ?_;clear F ac;intro ac F
   refine Y.block ?_
   have hW1 : w.heap.size ≤ w9.heap.size := G.size
   refine Y.loop (fun me_ ac wr => ∃ (i : Nat) (Gn Ho : List Nat) (ga : Option Addr) (gc : Nat) (oa : Option Addr) (oc : Nat), me_ = p.nb - i ∧ Only (fun b => False) w9 wr ∧ i ≤ p.nb ∧ conS p i = (Gn, Ho) ∧ NrR wr w9.heap.size ga gc Gn ∧ NrR wr w9.heap.size oa oc Ho ∧ (∀ b, (Value.slice ga (intsN Gn).length gc).ownBlock = some b → (Value.slice oa (intsN Ho).length oc).ownBlock ≠ some b) ∧ Fr ac 40 [(1, Vp w.heap.size), (5, .slice ga ((intsN Gn).length) gc), (6, .slice oa ((intsN Ho).length) oc), (17, Vi p.nb), (18, Vi i)]) _ ⟨0, [], [], none, 0, none, 0, rfl, Only.refl _ _, Nat.zero_le _, rfl, NrR.nil _ _, NrR.nil _ _, fun b e => (by cases e), F.sub _⟩ ?_
   have hptB1 := hpt
   have hphB1 := hph
   have hpbB1 := hpb
   have hplB1 := hpl
   have GB1 := G
   have hCB1 := hC
   clear F ac
   intro me_ ac w11 hI
   obtain ⟨i, Gn, Ho, ga, gc, oa, oc, rfl, hO1, hi, hcs, hGa, hOa, hne, F⟩ := hI
   replace G := GB1.trans (hO1.gr (fun _ _ h => h))
   replace hpt := (hP.t).gr G
   replace hph := (hP.h).gr G
   replace hpb := (hP.b).gr G
   replace hpl := (hP.l).gr G
   replace hC := (RCells.cons (hO1.cell (hCB1.at 0 rfl) (fun h => h)) (RCells.cons (hO1.cell (hCB1.at 1 rfl) (fun h => h)) (RCells.cons (hO1.cell (hCB1.at 2 rfl) (fun h => h)) (RCells.cons (hO1.cell (hCB1.at 3 rfl) (fun h => h)) (RCells.nil _)))))
   have hll := con_lt hcs
   refine Y.sg F [(1, Vp w.heap.size), (5, .slice ga ((intsN Gn).length) gc), (6, .slice oa ((intsN Ho).length) oc), (17, Vi p.nb), (18, Vi i), (19, .bool (decide ((i : Int) < p.nb)))] (Y.pv F (X.binop rfl (F.ev 18 (Vi i)) (F.ev 17 (Vi p.nb)) (X.lssI Try.underlying3 rfl)) fun ac F=>Y.fin F) ?_;clear F ac;intro ac F
   refine Y.seq ?_
   cases h12 : decide ((i : Int) < p.nb) with
   | false =>
    try rw [h12] at F
    have h12p : ¬ ((i : Int) < p.nb) := of_decide_eq_false h12
    obtain rfl : i = p.nb := by omega
    refine Y.condF (F.ev 19 (.bool false)) ?_
    refine Y.exit ?_
    refine X.thenX (X.thenX (X.blockX (X.thenN ?_)))
    refine Y.sg F [(2, .slice oa ((intsN Ho).length) oc), (3, Vi 0)] (Y.pv F (X.move rfl (F.ev 6 (.slice oa ((intsN Ho).length) oc))) fun ac F=>Y.pv F (X.assign rfl (F.ev 39 (.slice oa ((intsN Ho).length) oc))) fun ac F=>Y.pv F (X.assign rfl (X.kc (Vi 0) rfl)) fun ac F=>Y.fin F) ?_;clear F ac;intro ac F
    refine Y.ret ?_
    have hb := conf_3 (p := p) hck h10
    rw [hcs] at hb
    exact Y.ret0 (v := .tuple #[.slice oa ((intsN Ho).length) oc, Vi 0]) F (Y.rs2 F rfl (by kernel_rfl) (by kernel_rfl)) ⟨_, _, by rw [hb.1, hb.2], by rw [hb.2]; exact hOa.ints (by omega), hOa.lt, G⟩
   | true =>
    try rw [h12] at F
    have h12p : ((i : Int) < p.nb) := of_decide_eq_true h12
    have hi2 : i < p.nb := by omega
    have hgl : (intsN Gn).length = Gn.length := intsN_len Gn
    have hhl : (intsN Ho).length = Ho.length := intsN_len Ho
    refine Y.condT (F.ev 19 (.bool true)) ?_
    refine Y.skip ?_
    refine X.thenN ?_
    refine Y.seq ?_
    refine Y.block ?_
    refine Y.sg F [(1, Vp w.heap.size), (5, .slice ga ((intsN Gn).length) gc), (6, .slice oa ((intsN Ho).length) oc), (7, Vi i), (17, Vi p.nb), (18, Vi i)] (Y.pv F (X.move rfl (F.ev 18 (Vi i))) fun ac F=>Y.pv F (X.assign rfl (F.ev 20 (Vi i))) fun ac F=>Y.fin F) ?_;clear F ac;intro ac F
    refine Y.seq ?_
    obtain ⟨Te, hTe⟩ : ∃ T : Value → World → Prop, T = fun v W => ∃ b6a b6c, v = .agg #[.slice ta p.nt tc, .slice ha p.nh hc, .slice b6a (nin p.nb (Gn ++ [i])).length b6c, .slice la p.nl lc] ∧ PbAt W (selP p (nin p.nb (Gn ++ [i]))) ta ha b6a la tc hc b6c lc := ⟨_, rfl⟩
    have uTe : UpV Te := by subst hTe; exact fun v W W2 ⟨a, c, h1, h2⟩ g => ⟨a, c, h1, h2.gr g⟩
    have hup : UpV (TiR w11.heap.size 3 (intsN Gn).length ((intsN Gn).map (Value.int .i64))) ∧ UpV (TiC 3 (Vi i)) ∧ UpV (TiR w11.heap.size 3 (intsN (Gn ++ [i])).length ((intsN (Gn ++ [i])).map (Value.int .i64))) ∧ UpV (Te) := ⟨TiR.up _ _ _ _, TiC.up _ _, TiR.up _ _ _ _, uTe⟩
    have hq6 : PbOk (selP p (nin p.nb (Gn ++ [i]))) := chk_ok (sel_chk hck (fun k hk => (nin_mem.1 hk).1) nin_len)
    refine region_xi F [some (.agg #[.slice ta p.nt tc, .slice ha p.nh hc, .slice ba p.nb bc, .slice la p.nl lc]), some (.slice ga ((intsN Gn).length) gc), none, some (Vi i), none, none, none, some (.bool (posB (selP p (nin p.nb (Gn ++ [i]))))), some (.bool (!posB (selP p (nin p.nb (Gn ++ [i])))))] (RC4 w11 2 4 5 6 (TiR w11.heap.size 3 (intsN Gn).length ((intsN Gn).map (Value.int .i64))) (TiC 3 (Vi i)) (TiR w11.heap.size 3 (intsN (Gn ++ [i])).length ((intsN (Gn ++ [i])).map (Value.int .i64))) Te) rfl ⟨by kernel_rfl, of_decide_eq_true (by kernel_rfl), by kernel_rfl, by kernel_rfl, by kernel_rfl⟩ (fun _ => ⟨RC4.start (Gr.refl _), RC4.start (Gr.drew _)⟩) ⟨?_, ?_, ?_, ?_, ?_, ?_, ?_, ?_, ?_, trivial⟩ ?_
    ·intro ac done u W Sx hR
     have g : Gr w11 W := hR.g
     exact X.vl (X.load rfl (Sx.ev 1 (Vp w.heap.size)) (X.ldN (Try.agg27 _) (Try.siz27 _) (Y.atz (⟨w.heap.size, 0, none⟩) (Y.AtFrom.cons ((hC.gr g).at 0 rfl) (Y.AtFrom.cons ((hC.gr g).at 1 rfl) (Y.AtFrom.cons ((hC.gr g).at 2 rfl) (Y.AtFrom.cons ((hC.gr g).at 3 rfl) (Y.AtFrom.nil _ _ _)))))))) (hR.quiet hup (Gr.refl _) (by decide))
    ·intro ac done u W Sx hR
     have g : Gr w11 W := hR.g
     exact X.vl (X.move rfl (Sx.ev 5 (.slice ga ((intsN Gn).length) gc))) (hR.quiet hup (Gr.refl _) (by decide))
    ·intro ac done u W Sx hR
     have g : Gr w11 W := hR.g
     refine X.call (X.w0 rfl) (X.enter (F := 86) rfl (X.kc (.func (.func 86) #[] #[]) rfl) (X.a1 (Sx.ev 22 (.slice ga ((intsN Gn).length) gc))) (enters_of Try.func86 (by kernel_rfl) rfl _)) (clone_any ga (intsN Gn).length gc (intsN Gn) W ((hGa.ints (by omega)).gr g) (by omega) hGa.nul) ?_
     rintro e W2 ⟨v2, rfl, hO2, g2⟩
     obtain ⟨a8, c8, rfl⟩ := hO2.form
     exact ⟨_, rfl, X.un rfl, hR.sb (by decide) hup g2 ⟨a8, c8, rfl, hO2.lower g.size⟩⟩
    ·intro ac done u W Sx hR
     have g : Gr w11 W := hR.g
     exact X.vl (X.move rfl (Sx.ev 7 (Vi i))) (hR.quiet hup (Gr.refl _) (by decide))
    ·intro ac done u W Sx hR
     have g : Gr w11 W := hR.g
     exact X.valN (X.w0 rfl) rfl (X.bs rfl (X.b1 (Sx.ev 24 (Vi i))) (Try.bs34_1 _ _)) (hR.sc (by decide) hup (Gr.alloc _ _) ⟨_, rfl, heap_alloc_new _ _⟩)
    ·intro ac done u W Sx hR
     have g : Gr w11 W := hR.g
     obtain ⟨b9, c9, e0, hB9⟩ := hR.gb (Sx.an 2 (by kernel_rfl)) Sx.nd
     obtain ⟨g9c, e1, hc9⟩ := hR.gc (Sx.an 4 (by kernel_rfl)) Sx.nd
     refine X.law (X.w0 rfl) (fun K_ hK => wp_pushV Try.underlying34 Try.info3 rfl (by decide) rfl ((Sx.own 2 23 rfl).trans e0) ((Sx.own 4 25 rfl).trans e1) hB9 (m := 1) (news := [Vi i]) rfl (cells_at (vs := [Vi i]) hc9) rfl (by omega) (by decide) g.size (fun v2 W2 hO2 hon hat => hK v2 W2 (fun x hx => by cases hx) (hR.sd (by decide) (Sx.no 6 (by kernel_rfl)) (OnlyG g hon (fun b e => (hB9.ge e).1)) ?_)))
     obtain ⟨a8, c8, rfl⟩ := hO2.form
     exact ⟨a8, c8, by rw [intsN_app, List.length_append]; rfl, by rw [intsN_app, List.length_append, List.map_append]; exact hO2⟩
    ·intro ac done u W Sx hR
     have g : Gr w11 W := hR.g
     obtain ⟨b9, c9, e5, hB9⟩ := hR.gd (Sx.an 5 (by kernel_rfl)) Sx.nd
     refine X.call (X.w0 rfl) (X.enter (F := 85) rfl (X.kc (.func (.func 85) #[] #[]) rfl) (X.a2 (Sx.ev 21 (.agg #[.slice ta p.nt tc, .slice ha p.nh hc, .slice ba p.nb bc, .slice la p.nl lc])) ((Sx.own 5 26 rfl).trans e5)) (enters_of Try.func85 (by kernel_rfl) rfl _)) (but_any p ta ha ba la tc hc bc lc b9 c9 (Gn ++ [i]) W (hP.gr (G.trans g)) (hB9.intsS (by rw [intsN_len, List.length_append, List.length_singleton]; omega)) hb30) ?_
     rintro e W2 ⟨b6a, b6c, rfl, hP6, g2⟩
     exact ⟨_, rfl, X.un rfl, hR.se (by decide) (Sx.an 5 (by kernel_rfl)) (g.trans g2) (by subst hTe; exact ⟨b6a, b6c, rfl, hP6⟩)⟩
    ·intro ac done u W Sx hR
     have g : Gr w11 W := hR.g
     have hE := hR.ge (Sx.an 6 (by kernel_rfl))
     rw [hTe] at hE
     obtain ⟨b6a, b6c, e6, hP6⟩ := hE
     refine X.call (X.w0 rfl) (X.enter (F := 84) rfl (X.kc (.func (.func 84) #[] #[]) rfl) (X.a1 ((Sx.own 6 27 rfl).trans e6)) (enters_of Try.func84 (by kernel_rfl) rfl _)) (possible_any (selP p (nin p.nb (Gn ++ [i]))) ta ha b6a la tc hc b6c lc hq6 W hP6) ?_
     rintro e W2 ⟨rfl, g2⟩
     exact ⟨_, rfl, X.kn rfl, hR.quiet hup g2 (by decide)⟩
    ·intro ac done u W Sx hR
     have g : Gr w11 W := hR.g
     exact X.vl (X.notB rfl (Sx.ev 28 (.bool (posB (selP p (nin p.nb (Gn ++ [i])))))) rfl) (hR.quiet hup (Gr.refl _) (by decide))
    rintro ac u w13 hs hd hl_ ho hR
    have g : Gr w11 w13 := hR.g
    clear hup hTe uTe hq6
    replace F : Fr ac 40 [(1, Vp w.heap.size), (5, .slice ga ((intsN Gn).length) gc), (6, .slice oa ((intsN Ho).length) oc), (7, Vi i), (17, Vi p.nb), (18, Vi i), (29, .bool (!posB (selP p (nin p.nb (Gn ++ [i])))))] := X.fr hs hd hl_ _ (by kernel_rfl)
    clear hs hd hl_ ho hR
    replace G := G.trans g
    replace hC := hC.gr g
    replace hO1 := hO1.thenGr g
    replace hpt := hpt.gr g
    replace hph := hph.gr g
    replace hpb := hpb.gr g
    replace hpl := hpl.gr g
    replace hGa := hGa.gr g
    replace hOa := hOa.gr g
    clear g
    refine X.thenN ?_
    cases h14 : posB (selP p (nin p.nb (Gn ++ [i]))) with
    | false =>
     try rw [h14] at F
     refine Y.condT (F.ev 29 (.bool true)) ?_
     refine Y.lit (by kernel_rfl) ?_
     refine Y.pv3 F (X.move rfl (F.ev 5 (.slice ga ((intsN Gn).length) gc))) (fun _ F=>X.move rfl (F.ev 7 (Vi i))) (fun _ F=>X.bs rfl (X.b1 (F.ev 31 (Vi i))) (Try.bs34_1 _ _)) ?_;clear F ac;intro ac F
     have g := Gr.alloc w13 (.cells #[Vi i] 3)
     have hg9 := heap_alloc_new w13 (.cells #[Vi i] 3)
     generalize w13.alloc (.cells #[Vi i] 3) = w15 at *
     replace G := G.trans g
     replace hC := hC.gr g
     replace hO1 := hO1.thenGr g
     replace hpt := hpt.gr g
     replace hph := hph.gr g
     replace hpb := hpb.gr g
     replace hpl := hpl.gr g
     replace hGa := hGa.gr g
     replace hOa := hOa.gr g
     clear g
     refine Y.wpL_plain rfl fun _ hK => wp_pushV Try.underlying34 Try.info3 rfl (by decide) rfl (F.ev 30 (.slice ga ((intsN Gn).length) gc)) (F.ev 32 (.slice (some ⟨w13.heap.size, 0, none⟩) 1 1)) hGa (m := 1) (news := [Vi i]) rfl (cells_at (vs := [Vi i]) hg9) rfl (by omega) (by decide) hO1.size (fun v2 w16 hO3 hon hat => hK _ _ ?_)
     refine Y.pput F rfl ?_;clear F ac;intro ac F
     clear hK hg9
     obtain ⟨xa3, xc3, rfl⟩ := hO3.form
     have hNw := NrR.snoc hO3
     have hgR : ∀ b, (Value.slice ga (intsN Gn).length gc).ownBlock = some b → w9.heap.size ≤ b := fun b e => (OwnR.ge hGa e).1
     have hMl : ∀ b, (Value.slice oa (intsN Ho).length oc).ownBlock = some b → b < w15.heap.size := fun b e => (OwnR.ge hOa e).2
     have hOa2 : NrR w16 w9.heap.size oa oc Ho := OwnR.only hOa hon (fun b e h => hne b h e)
     have hne2 : ∀ b, (Value.slice xa3 (intsN (Gn ++ [i])).length xc3).ownBlock = some b → (Value.slice oa (intsN Ho).length oc).ownBlock ≠ some b := fun b e e2 => by
      rw [intsN_app, List.length_append] at e
      rcases hat with h | h
      ·exact hne b (h ▸ e) e2
      ·have h1 := hMl b e2; have e3 := h ▸ e; injection e3 with e3; omega
     replace hO1 := hO1.step2 hon (fun r e => .inr (hgR r e))
     clear G hC hon hat hgR hMl
     refine Y.pv F (X.assign rfl (F.ev 33 (.slice xa3 ((intsN Gn).length + 1) xc3))) ?_;clear F ac;intro ac F
     refine Y.nil ?_
     replace F : Fr ac 40 [(1, Vp w.heap.size), (5, .slice xa3 ((intsN Gn).length + 1) xc3), (6, .slice oa ((intsN Ho).length) oc), (17, Vi p.nb), (18, Vi i)] := F.sub _
     refine X.blockN (X.thenN ?_)
     refine Y.lg F [(1, Vp w.heap.size), (5, .slice xa3 ((intsN Gn).length + 1) xc3), (6, .slice oa ((intsN Ho).length) oc), (17, Vi p.nb), (18, Vi ((i : Int) + 1))] (by
      refine Y.pv F (X.binop rfl (F.ev 18 (Vi i)) (X.kc (Vi 1) rfl) (X.addI Try.underlying3 rfl (by omega) (by omega))) fun ac F=>?_
      refine Y.pv F (X.move rfl (F.ev 38 (Vi ((i : Int) + 1)))) fun ac F=>?_
      exact Y.fin F) ?_;clear F ac;intro ac F
     refine ⟨_, ?_, i + 1, Gn ++ [i], Ho, xa3, xc3, oa, oc, rfl, hO1, by omega, con_n hcs h14, hNw, hOa2, hne2, (by rw [intsN_app, List.length_append]; exact F.sub _)⟩
     omega
    | true =>
     try rw [h14] at F
     refine Y.condF (F.ev 29 (.bool false)) ?_
     refine Y.lit (by kernel_rfl) ?_
     refine Y.pv3 F (X.move rfl (F.ev 6 (.slice oa ((intsN Ho).length) oc))) (fun _ F=>X.move rfl (F.ev 7 (Vi i))) (fun _ F=>X.bs rfl (X.b1 (F.ev 35 (Vi i))) (Try.bs34_1 _ _)) ?_;clear F ac;intro ac F
     have g := Gr.alloc w13 (.cells #[Vi i] 3)
     have hg9 := heap_alloc_new w13 (.cells #[Vi i] 3)
     generalize w13.alloc (.cells #[Vi i] 3) = w17 at *
     replace G := G.trans g
     replace hC := hC.gr g
     replace hO1 := hO1.thenGr g
     replace hpt := hpt.gr g
     replace hph := hph.gr g
     replace hpb := hpb.gr g
     replace hpl := hpl.gr g
     replace hGa := hGa.gr g
     replace hOa := hOa.gr g
     clear g
     refine Y.wpL_plain rfl fun _ hK => wp_pushV Try.underlying34 Try.info3 rfl (by decide) rfl (F.ev 34 (.slice oa ((intsN Ho).length) oc)) (F.ev 36 (.slice (some ⟨w13.heap.size, 0, none⟩) 1 1)) hOa (m := 1) (news := [Vi i]) rfl (cells_at (vs := [Vi i]) hg9) rfl (by omega) (by decide) hO1.size (fun v2 w18 hO3 hon hat => hK _ _ ?_)
     refine Y.pput F rfl ?_;clear F ac;intro ac F
     clear hK hg9
     obtain ⟨xa3, xc3, rfl⟩ := hO3.form
     have hNw := NrR.snoc hO3
     have hgR : ∀ b, (Value.slice oa (intsN Ho).length oc).ownBlock = some b → w9.heap.size ≤ b := fun b e => (OwnR.ge hOa e).1
     have hMl : ∀ b, (Value.slice ga (intsN Gn).length gc).ownBlock = some b → b < w17.heap.size := fun b e => (OwnR.ge hGa e).2
     have hGa2 : NrR w18 w9.heap.size ga gc Gn := OwnR.only hGa hon (fun b e h => hne b e h)
     have hne2 : ∀ b, (Value.slice ga (intsN Gn).length gc).ownBlock = some b → (Value.slice xa3 (intsN (Ho ++ [i])).length xc3).ownBlock ≠ some b := fun b e e2 => by
      rw [intsN_app, List.length_append] at e2
      rcases hat with h | h
      ·exact hne b e (h ▸ e2)
      ·have h1 := hMl b e; have e3 := h ▸ e2; injection e3 with e3; omega
     replace hO1 := hO1.step2 hon (fun r e => .inr (hgR r e))
     clear G hC hon hat hgR hMl
     refine Y.pv F (X.assign rfl (F.ev 37 (.slice xa3 ((intsN Ho).length + 1) xc3))) ?_;clear F ac;intro ac F
     refine Y.nil ?_
     replace F : Fr ac 40 [(1, Vp w.heap.size), (5, .slice ga ((intsN Gn).length) gc), (6, .slice xa3 ((intsN Ho).length + 1) xc3), (17, Vi p.nb), (18, Vi i)] := F.sub _
     refine X.blockN (X.thenN ?_)
     refine Y.lg F [(1, Vp w.heap.size), (5, .slice ga ((intsN Gn).length) gc), (6, .slice xa3 ((intsN Ho).length + 1) xc3), (17, Vi p.nb), (18, Vi ((i : Int) + 1))] (by
      refine Y.pv F (X.binop rfl (F.ev 18 (Vi i)) (X.kc (Vi 1) rfl) (X.addI Try.underlying3 rfl (by omega) (by omega))) fun ac F=>?_
      refine Y.pv F (X.move rfl (F.ev 38 (Vi ((i : Int) + 1)))) fun ac F=>?_
      exact Y.fin F) ?_;clear F ac;intro ac F
     refine ⟨_, ?_, i + 1, Gn, Ho ++ [i], ga, gc, xa3, xc3, rfl, hO1, by omega, con_y hcs h14, hGa2, hNw, hne2, (by rw [intsN_app, List.length_append]; exact F.sub _)⟩
     omega
  | true =>
   try rw [h10] at F
   refine Y.condT (F.ev 14 (.bool true)) ?_
   refine Y.sg F [(2, .slice none 0 0), (3, Vi 3)] (Y.pv F (X.assign rfl (X.kc (.slice none 0 0) rfl)) fun ac F=>Y.pv F (X.assign rfl (X.kc (Vi 3) rfl)) fun ac F=>Y.fin F) ?_;clear F ac;intro ac F
   refine Y.ret ?_
   refine X.thenR ?_
   have hb := conf_2 (p := p) hck h10
   exact Y.ret0 (v := .tuple #[.slice none 0 0, Vi 3]) F (Y.rs2 F rfl (by kernel_rfl) (by kernel_rfl)) ⟨none, 0, by rw [hb.1, hb.2]; rfl, by rw [hb.2]; exact Ints.nilZ _, fun ad e => (by cases e), G⟩
 | true =>
  try rw [h8] at F
  have h8p : ¬ (chkE p : Int) = 0 := by simpa using h8
  refine Y.condT (F.ev 11 (.bool true)) ?_
  refine Y.sg F [(2, .slice none 0 0), (3, Vi (chkE p))] (Y.pv F (X.move rfl (F.ev 4 (Vi (chkE p)))) fun ac F=>Y.pv F (X.assign rfl (X.kc (.slice none 0 0) rfl)) fun ac F=>Y.pv F (X.assign rfl (F.ev 12 (Vi (chkE p)))) fun ac F=>Y.fin F) ?_;clear F ac;intro ac F
  refine Y.ret ?_
  refine X.thenR ?_
  have hb := conf_1 (p := p) (by omega)
  exact Y.ret0 (v := .tuple #[.slice none 0 0, Vi (chkE p)]) F (Y.rs2 F rfl (by kernel_rfl) (by kernel_rfl)) ⟨none, 0, by rw [hb.1, hb.2]; rfl, by rw [hb.2]; exact Ints.nilZ _, fun ad e => (by cases e), G⟩
end
section
open Go.RowKit

set_option maxRecDepth 100000 in
set_option maxHeartbeats 4000000 in
theorem conflictR_any (p : Pb) (ta ha ba la : Option Addr) (tc hc bc lc : Nat) (hsm0 : chkE p = 0 → p.nt ≤ 5 ∧ p.nh ≤ 4) (w : World) (hP : PbAt w p ta ha ba la tc hc bc lc) :
  Calls Try.prog 46 #[.agg #[.slice ta p.nt tc, .slice ha p.nh hc, .slice ba p.nb bc, .slice la p.nl lc]] w fun e w' => ∃ a c, e = .returned (.tuple #[.slice a (intsN (confK p)).length c, Vi (confE p)]) ∧ Ints w' a (intsN (confK p)).length (intsN (confK p)) ∧ (∀ ad, a = some ad → ad.block < w'.heap.size) ∧ Gr w w' := by
 have G := Gr.refl w
 have hpt := hP.t
 have hph := hP.h
 have hpb := hP.b
 have hpl := hP.l
 have hplen := hP.len
 obtain ⟨hn1, hn2, hn3, hn4⟩ := hplen
 have hcp1 := hpt.cap
 have hcp2 := hph.cap
 have hcp3 := hpb.cap
 have hcp4 := hpl.cap
 refine Y.calls 81 Try.func46 rfl rfl ?_
 intro ac F0
 have F : Fr ac 81 [(0, .agg #[.slice ta p.nt tc, .slice ha p.nh hc, .slice ba p.nb bc, .slice la p.nl lc])] := F0.sub _
 clear F0
 refine Y.sl ?_
 have hgs3 : w.heap.size ≤ w.heap.size := G.size
 refine Y.pv F (X.box rfl (F.ev 0 (.agg #[.slice ta p.nt tc, .slice ha p.nh hc, .slice ba p.nb bc, .slice la p.nl lc])) X.bx) ?_;clear F ac;intro ac F
 have hgs5 : w.heap.size ≤ w.heap.size := G.size
 obtain ⟨w6, hw_, g, hb, hbl, hC2⟩ := Y.bxd (RCells.nil w) #[.slice ta p.nt tc, .slice ha p.nh hc, .slice ba p.nb bc, .slice la p.nl lc] 27;rw [hw_];clear hw_
 replace G := G.trans g
 have hC := hC2
 clear hC2
 replace hpt := hpt.gr g
 replace hph := hph.gr g
 replace hpb := hpb.gr g
 replace hpl := hpl.gr g
 have hsz4 := hbl
 clear g hb hbl
 refine Y.pv2 F (X.assign rfl (X.kc (.slice none 0 0) rfl)) (fun _ F=>X.assign rfl (X.kc (Vi 0) rfl)) ?_;clear F ac;intro ac F
 refine Y.nt F [(1, Vp w.heap.size)] ?_;clear F ac;intro ac F
 refine Y.sl ?_
 refine Y.pv F (X.load rfl (F.ev 1 (Vp w.heap.size)) (X.ldN (Try.agg27 _) (Try.siz27 _) (Y.atz (⟨w.heap.size, 0, none⟩) (Y.AtFrom.cons (hC.at 0 rfl) (Y.AtFrom.cons (hC.at 1 rfl) (Y.AtFrom.cons (hC.at 2 rfl) (Y.AtFrom.cons (hC.at 3 rfl) (Y.AtFrom.nil _ _ _)))))))) ?_;clear F ac;intro ac F
 refine Y.pc F 19 (X.a1 (F.ev 11 (.agg #[.slice ta p.nt tc, .slice ha p.nh hc, .slice ba p.nb bc, .slice la p.nl lc]))) Try.func19 (check2_any p ta ha ba la tc hc bc lc w6 (hP.gr G)) ?_
 clear F ac
 rintro e w7 ⟨rfl, g⟩
 refine ⟨_, rfl, ?_⟩
 intro ac F
 replace G := G.trans g
 replace hC := hC.gr g
 replace hpt := hpt.gr g
 replace hph := hph.gr g
 replace hpb := hpb.gr g
 replace hpl := hpl.gr g
 clear g
 refine Y.pv F (X.assign rfl (F.ev 12 (Vi (chkE p)))) ?_;clear F ac;intro ac F
 refine Y.nt F [(1, Vp w.heap.size), (4, Vi (chkE p))] ?_;clear F ac;intro ac F
 refine Y.seq ?_
 refine Y.sg F [(1, Vp w.heap.size), (4, Vi (chkE p)), (14, .bool ((chkE p : Int) != 0))] (Y.pv F (X.move rfl (F.ev 4 (Vi (chkE p)))) fun ac F=>Y.pv F (X.binop rfl (F.ev 13 (Vi (chkE p))) (X.kc (Vi 0) rfl) (X.neqI Try.underlying31 rfl)) fun ac F=>Y.fin F) ?_;clear F ac;intro ac F
 cases h8 : ((chkE p : Int) != 0) with
 | false =>
  try rw [h8] at F
  have h8p : (chkE p : Int) = 0 := by simpa using h8
  have hck : chkE p = 0 := by omega
  have hp := chk_ok hck
  have hb30 := hp.b30
  have hsm := hsm0 hck
  refine Y.condF (F.ev 14 (.bool false)) ?_
  refine Y.skip ?_
  refine X.thenN ?_
  refine Y.seq ?_
  refine Y.sl ?_
  refine Y.pv F (X.load rfl (F.ev 1 (Vp w.heap.size)) (X.ldN (Try.agg27 _) (Try.siz27 _) (Y.atz (⟨w.heap.size, 0, none⟩) (Y.AtFrom.cons (hC.at 0 rfl) (Y.AtFrom.cons (hC.at 1 rfl) (Y.AtFrom.cons (hC.at 2 rfl) (Y.AtFrom.cons (hC.at 3 rfl) (Y.AtFrom.nil _ _ _)))))))) ?_;clear F ac;intro ac F
  refine Y.pc F 68 (X.a2 (F.ev 16 (.agg #[.slice ta p.nt tc, .slice ha p.nh hc, .slice ba p.nb bc, .slice la p.nl lc])) (X.kc (.slice none 0 0) rfl)) Try.func68 (all_mp p ta ha ba la tc hc bc lc hp hsm w7 (hP.gr G)) ?_
  clear F ac
  rintro e w9 ⟨v, rfl, ⟨ra5, rc5, E5, rfl, -, hm5, -, hl5⟩, g⟩
  refine ⟨_, rfl, ?_⟩
  intro ac F
  replace G := G.trans g
  replace hC := hC.gr g
  replace hpt := hpt.gr g
  replace hph := hph.gr g
  replace hpb := hpb.gr g
  replace hpl := hpl.gr g
  clear g
  refine Y.pv2 F (X.len1 Try.underlying38 rfl (F.ev 17 (.slice ra5 E5.length rc5))) (fun _ F=>X.binop rfl (F.ev 18 (Vi E5.length)) (X.kc (Vi 0) rfl) (X.gtrI Try.underlying3 rfl)) ?_;clear F ac;intro ac F
  refine Y.nt F [(1, Vp w.heap.size), (19, .bool (decide ((0 : Int) < E5.length)))] ?_;clear F ac;intro ac F
  cases h10 : decide ((0 : Int) < E5.length) with
  | false =>
   try rw [h10] at F
   have h10p : ¬ ((0 : Int) < E5.length) := of_decide_eq_false h10
   have hpos : posB p = false := (pos_len hm5).trans h10
   refine Y.condF (F.ev 19 (.bool false)) ?_
   refine Y.skip ?_
   refine X.thenN ?_
   refine Y.sl ?_
   refine Y.pv3 F (X.field rfl (F.ev 1 (Vp w.heap.size)) (X.fld Try.underlying27 rfl (Try.siz24 _) rfl rfl)) (fun _ F=>X.load rfl (F.ev 20 (.pointer (some ⟨w.heap.size, 2, none⟩))) (X.ld1 (Try.agg24 _) (hC.at 2 rfl))) (fun _ F=>X.len1 Try.underlying24 rfl (F.ev 21 (.slice ba p.nb bc))) ?_;clear F ac;intro ac F
   obtain ⟨w11, hmk, hGv, g⟩ := make117 w9 (N := p.nb) (x := p.nb) (by omega) (by omega)
   have hgb0 : w.heap.size ≤ w9.heap.size := G.size
   have hbl12 : w.heap.size < w9.heap.size := lt_cell (hC.at 0 rfl)
   refine Y.pv F (Y.mk rfl (F.ev 22 (Vi p.nb)) (F.ev 22 (Vi p.nb)) hmk) ?_
   clear F ac hmk
   intro ac F
   replace hGv := hGv.congr (fun k _ => gv_nil k)
   replace G := G.trans g
   replace hC := hC.gr g
   replace hpt := hpt.gr g
   replace hph := hph.gr g
   replace hpb := hpb.gr g
   replace hpl := hpl.gr g
   clear g
   obtain ⟨gb, hgbe⟩ : ∃ x, w9.heap.size = x := ⟨_, rfl⟩
   rw [hgbe] at F hGv hgb0
   refine Y.pv F (X.assign rfl (F.ev 23 (.slice (some ⟨gb, 0, none⟩) p.nb p.nb))) ?_;clear F ac;intro ac F
   refine Y.nt F [(1, Vp w.heap.size), (5, .slice (some ⟨gb, 0, none⟩) p.nb p.nb)] ?_;clear F ac;intro ac F
   refine Y.seq ?_
   refine Y.sg F [(1, Vp w.heap.size), (5, .slice (some ⟨gb, 0, none⟩) p.nb p.nb), (6, Vi 0)] (Y.pv F (X.assign rfl (X.kc (Vi 0) rfl)) fun ac F=>Y.fin F) ?_;clear F ac;intro ac F
   refine Y.block ?_
   refine Y.loop (fun me_ ac wr => ∃ (i : Nat) (Gn Ho : List Nat), me_ = p.nb - i ∧ Only (fun b => b = gb) w11 wr ∧ OwnP wr gb p.nb (gvV Gn) ∧ i ≤ p.nb ∧ conS p i = (Gn, Ho) ∧ Fr ac 81 [(1, Vp w.heap.size), (5, .slice (some ⟨gb, 0, none⟩) p.nb p.nb), (6, Vi i)]) _ ⟨0, [], [], rfl, Only.refl _ _, hGv, Nat.zero_le _, rfl, F.sub _⟩ ?_
   have hptB1 := hpt
   have hphB1 := hph
   have hpbB1 := hpb
   have hplB1 := hpl
   have hGvB1 := hGv
   have GB1 := G
   have hCB1 := hC
   clear F ac hGv
   intro me_ ac w13 hI
   obtain ⟨i, Gn, Ho, rfl, hO1, hGv, hi, hcs, F⟩ := hI
   replace G : Gr w w13 := ((GB1.only (fun b => w.heap.size ≤ b)).trans (hO1.mono' (fun i e => by omega))).gr (fun i hi e => by omega)
   replace hpt := (hP.t).gr G
   replace hph := (hP.h).gr G
   replace hpb := (hP.b).gr G
   replace hpl := (hP.l).gr G
   replace hC := (RCells.cons (hO1.cell (hCB1.at 0 rfl) (by show ¬ (w.heap.size = gb); omega)) (RCells.cons (hO1.cell (hCB1.at 1 rfl) (by show ¬ (w.heap.size = gb); omega)) (RCells.cons (hO1.cell (hCB1.at 2 rfl) (by show ¬ (w.heap.size = gb); omega)) (RCells.cons (hO1.cell (hCB1.at 3 rfl) (by show ¬ (w.heap.size = gb); omega)) (RCells.nil _)))))
   refine Y.seq ?_
   refine Y.sg F [(1, Vp w.heap.size), (5, .slice (some ⟨gb, 0, none⟩) p.nb p.nb), (6, Vi i), (28, .bool (decide ((i : Int) < p.nb)))] (by
    refine Y.pv F (X.move rfl (F.ev 6 (Vi i))) fun ac F=>?_
    refine Y.pv F (X.field rfl (F.ev 1 (Vp w.heap.size)) (X.fld Try.underlying27 rfl (Try.siz24 _) rfl rfl)) fun ac F=>?_
    refine Y.pv F (X.load rfl (F.ev 25 (.pointer (some ⟨w.heap.size, 2, none⟩))) (X.ld1 (Try.agg24 _) (hC.at 2 rfl))) fun ac F=>?_
    refine Y.pv F (X.len1 Try.underlying24 rfl (F.ev 26 (.slice ba p.nb bc))) fun ac F=>?_
    refine Y.pv F (X.binop rfl (F.ev 24 (Vi i)) (F.ev 27 (Vi p.nb)) (X.lssI Try.underlying3 rfl)) fun ac F=>?_
    exact Y.fin F) ?_;clear F ac;intro ac F
   cases h14 : decide ((i : Int) < p.nb) with
   | false =>
    try rw [h14] at F
    have h14p : ¬ ((i : Int) < p.nb) := of_decide_eq_false h14
    obtain rfl : i = p.nb := by omega
    refine Y.condF (F.ev 28 (.bool false)) ?_
    refine Y.exit ?_
    refine X.thenX (X.thenX (X.blockX (X.thenN ?_)))
    refine Y.sg F [(5, .slice (some ⟨gb, 0, none⟩) p.nb p.nb), (9, .slice none 0 0)] (Y.pv F (X.assign rfl (X.kc (.slice none 0 0) rfl)) fun ac F=>Y.fin F) ?_;clear F ac;intro ac F
    refine Y.seq ?_
    refine Y.sg F [(5, .slice (some ⟨gb, 0, none⟩) p.nb p.nb), (9, .slice none 0 0), (10, Vi 0)] (Y.pv F (X.assign rfl (X.kc (Vi 0) rfl)) fun ac F=>Y.fin F) ?_;clear F ac;intro ac F
    refine Y.block ?_
    have hGn9 := nin_len (n := p.nb) (r := Gn)
    refine Y.loop (fun me_ ac wr => ∃ (j : Nat) (oa : Option Addr) (oc : Nat), me_ = p.nb - j ∧ Only (fun b => False) w13 wr ∧ j ≤ p.nb ∧ NrR wr w13.heap.size oa oc (nin j Gn) ∧ Fr ac 81 [(5, .slice (some ⟨gb, 0, none⟩) p.nb p.nb), (9, .slice oa ((intsN (nin j Gn)).length) oc), (10, Vi j)]) _ ⟨0, none, 0, rfl, Only.refl _ _, Nat.zero_le _, NrR.nil _ _, F.sub _⟩ ?_
    have hptB1 := hpt
    have hphB1 := hph
    have hpbB1 := hpb
    have hplB1 := hpl
    have hGvB1 := hGv
    have GB1 := G
    have hCB1 := hC
    clear F ac
    intro me_ ac w15 hI
    obtain ⟨j, oa, oc, rfl, hO1, hj, hNo, F⟩ := hI
    replace G := GB1.trans (hO1.gr (fun _ _ h => h))
    replace hpt := (hP.t).gr G
    replace hph := (hP.h).gr G
    replace hpb := (hP.b).gr G
    replace hpl := (hP.l).gr G
    replace hGv := hGvB1.only hO1 (fun h => h)
    replace hC := (RCells.cons (hO1.cell (hCB1.at 0 rfl) (fun h => h)) (RCells.cons (hO1.cell (hCB1.at 1 rfl) (fun h => h)) (RCells.cons (hO1.cell (hCB1.at 2 rfl) (fun h => h)) (RCells.cons (hO1.cell (hCB1.at 3 rfl) (fun h => h)) (RCells.nil _)))))
    refine Y.seq ?_
    refine Y.sg F [(5, .slice (some ⟨gb, 0, none⟩) p.nb p.nb), (9, .slice oa ((intsN (nin j Gn)).length) oc), (10, Vi j), (68, .bool (decide ((j : Int) < p.nb)))] (Y.pv F (X.move rfl (F.ev 10 (Vi j))) fun ac F=>Y.pv F (X.move rfl (F.ev 5 (.slice (some ⟨gb, 0, none⟩) p.nb p.nb))) fun ac F=>Y.pv F (X.len1 Try.underlying117 rfl (F.ev 66 (.slice (some ⟨gb, 0, none⟩) p.nb p.nb))) fun ac F=>Y.pv F (X.binop rfl (F.ev 65 (Vi j)) (F.ev 67 (Vi p.nb)) (X.lssI Try.underlying3 rfl)) fun ac F=>Y.fin F) ?_;clear F ac;intro ac F
    cases h16 : decide ((j : Int) < p.nb) with
    | false =>
     try rw [h16] at F
     have h16p : ¬ ((j : Int) < p.nb) := of_decide_eq_false h16
     obtain rfl : j = p.nb := by omega
     refine Y.condF (F.ev 68 (.bool false)) ?_
     refine Y.exit ?_
     refine X.thenX (X.thenX (X.blockX (X.thenN ?_)))
     refine Y.sg F [(2, .slice oa ((intsN (nin p.nb Gn)).length) oc), (3, Vi 0)] (Y.pv F (X.move rfl (F.ev 9 (.slice oa ((intsN (nin p.nb Gn)).length) oc))) fun ac F=>Y.pv F (X.assign rfl (F.ev 80 (.slice oa ((intsN (nin p.nb Gn)).length) oc))) fun ac F=>Y.pv F (X.assign rfl (X.kc (Vi 0) rfl)) fun ac F=>Y.fin F) ?_;clear F ac;intro ac F
     refine Y.ret ?_
     have hb := conf_3 (p := p) hck hpos
     have hcn := con_nin (p := p) p.nb
     rw [hcs] at hb hcn
     rw [show (Gn, Ho).2 = nin p.nb Gn from hcn.symm] at hb
     exact Y.ret0 (v := .tuple #[.slice oa ((intsN (nin p.nb Gn)).length) oc, Vi 0]) F (Y.rs2 F rfl (by kernel_rfl) (by kernel_rfl)) ⟨_, _, by rw [hb.1, hb.2], by rw [hb.2]; exact hNo.ints (by omega), hNo.lt, G⟩
    | true =>
     try rw [h16] at F
     have h16p : ((j : Int) < p.nb) := of_decide_eq_true h16
     have h2j : j < p.nb := by omega
     have hnl := nin_len (n := j) (r := Gn)
     refine Y.condT (F.ev 68 (.bool true)) ?_
     refine Y.skip ?_
     refine X.thenN ?_
     refine Y.seq ?_
     refine Y.block ?_
     refine Y.sl ?_
     refine Y.pv2 F (X.move rfl (F.ev 5 (.slice (some ⟨gb, 0, none⟩) p.nb p.nb))) (fun _ F=>X.move rfl (F.ev 10 (Vi j))) ?_;clear F ac;intro ac F
     refine Y.pval F (X.w0 rfl) rfl (X.index rfl (F.ev 71 (.slice (some ⟨gb, 0, none⟩) p.nb p.nb)) (F.ev 72 (Vi j)) (X.idx (k := j) Try.underlying117 (Try.siz4 _) (by omega) (by omega) ((addr_add0 _ _).trans (by rw [Nat.mul_one])))) ?_;clear F ac;intro ac F
     replace hC := hC.append (show RCells w15 ([(⟨gb, j, none⟩, .bool (Gn.contains j))]) from (RCells.cons (hGv.cell (k := j) (by omega)) (RCells.nil _)))
     refine Y.pv2 F (X.load rfl (F.ev 73 (.pointer (some ⟨gb, j, none⟩))) (X.ld1 (Try.agg4 _) (hC.at 4 rfl))) (fun _ F=>X.notB rfl (F.ev 74 (.bool (Gn.contains j))) rfl) ?_;clear F ac;intro ac F
     refine Y.nt F [(5, .slice (some ⟨gb, 0, none⟩) p.nb p.nb), (9, .slice oa ((intsN (nin j Gn)).length) oc), (10, Vi j), (75, .bool (!(Gn.contains j)))] ?_;clear F ac;intro ac F
     cases h17 : Gn.contains j with
     | false =>
      try rw [h17] at F
      refine Y.condT (F.ev 75 (.bool true)) ?_
      refine Y.lit (by kernel_rfl) ?_
      refine Y.pv3 F (X.move rfl (F.ev 9 (.slice oa ((intsN (nin j Gn)).length) oc))) (fun _ F=>X.move rfl (F.ev 10 (Vi j))) (fun _ F=>X.bs rfl (X.b1 (F.ev 77 (Vi j))) (Try.bs34_1 _ _)) ?_;clear F ac;intro ac F
      have g := Gr.alloc w15 (.cells #[Vi j] 3)
      have hg9 := heap_alloc_new w15 (.cells #[Vi j] 3)
      generalize w15.alloc (.cells #[Vi j] 3) = w18 at *
      replace G := G.trans g
      replace hC := hC.gr g
      replace hO1 := hO1.thenGr g
      replace hpt := hpt.gr g
      replace hph := hph.gr g
      replace hpb := hpb.gr g
      replace hpl := hpl.gr g
      replace hGv := hGv.gr g
      replace hNo := hNo.gr g
      clear g
      refine Y.wpL_plain rfl fun _ hK => wp_pushV Try.underlying34 Try.info3 rfl (by decide) rfl (F.ev 76 (.slice oa ((intsN (nin j Gn)).length) oc)) (F.ev 78 (.slice (some ⟨w15.heap.size, 0, none⟩) 1 1)) hNo (m := 1) (news := [Vi j]) rfl (cells_at (vs := [Vi j]) hg9) rfl (by rw [intsN_len]; omega) (by decide) hO1.size (fun v2 w19 hO3 hon hat => hK _ _ ?_)
      refine Y.pput F rfl ?_;clear F ac;intro ac F
      clear hK hg9
      obtain ⟨oa3, oc3, rfl⟩ := hO3.form
      have hNw := NrR.snoc hO3
      replace hO1 := hO1.step2 hon (fun r e => .inr (OwnR.ge hNo e).1)
      clear G hC hon hat
      refine Y.pv F (X.assign rfl (F.ev 79 (.slice oa3 ((intsN (nin j Gn)).length + 1) oc3))) ?_;clear F ac;intro ac F
      refine Y.nil ?_
      replace F : Fr ac 81 [(5, .slice (some ⟨gb, 0, none⟩) p.nb p.nb), (9, .slice oa3 ((intsN (nin j Gn)).length + 1) oc3), (10, Vi j)] := F.sub _
      refine X.blockN (X.thenN ?_)
      refine Y.lg F [(5, .slice (some ⟨gb, 0, none⟩) p.nb p.nb), (9, .slice oa3 ((intsN (nin j Gn)).length + 1) oc3), (10, Vi ((j : Int) + 1))] (by
       refine Y.pv F (X.move rfl (F.ev 10 (Vi j))) fun ac F=>?_
       refine Y.pv F (X.binop rfl (F.ev 69 (Vi j)) (X.kc (Vi 1) rfl) (X.addI Try.underlying3 rfl (by omega) (by omega))) fun ac F=>?_
       refine Y.pv F (X.assign rfl (F.ev 70 (Vi ((j : Int) + 1)))) fun ac F=>?_
       exact Y.fin F) ?_;clear F ac;intro ac F
      refine ⟨_, ?_, j + 1, oa3, oc3, rfl, hO1, by omega, by rw [nin_n h17]; exact hNw, (by rw [nin_n h17, intsN_app, List.length_append]; exact F.sub _)⟩
      omega
     | true =>
      try rw [h17] at F
      refine Y.condF (F.ev 75 (.bool false)) ?_
      refine Y.skip ?_
      refine X.blockN (X.thenN ?_)
      refine Y.lg F [(5, .slice (some ⟨gb, 0, none⟩) p.nb p.nb), (9, .slice oa ((intsN (nin j Gn)).length) oc), (10, Vi ((j : Int) + 1))] (by
       refine Y.pv F (X.move rfl (F.ev 10 (Vi j))) fun ac F=>?_
       refine Y.pv F (X.binop rfl (F.ev 69 (Vi j)) (X.kc (Vi 1) rfl) (X.addI Try.underlying3 rfl (by omega) (by omega))) fun ac F=>?_
       refine Y.pv F (X.assign rfl (F.ev 70 (Vi ((j : Int) + 1)))) fun ac F=>?_
       exact Y.fin F) ?_;clear F ac;intro ac F
      refine ⟨_, ?_, j + 1, oa, oc, rfl, hO1, by omega, by rw [nin_y h17]; exact hNo, (by rw [nin_y h17]; exact F.sub _)⟩
      omega
   | true =>
    try rw [h14] at F
    have h14p : ((i : Int) < p.nb) := of_decide_eq_true h14
    have h2i : i < p.nb := by omega
    refine Y.condT (F.ev 28 (.bool true)) ?_
    refine Y.skip ?_
    refine X.thenN ?_
    refine Y.seq ?_
    refine Y.block ?_
    refine Y.sl ?_
    refine Y.pv2 F (X.move rfl (F.ev 5 (.slice (some ⟨gb, 0, none⟩) p.nb p.nb))) (fun _ F=>X.move rfl (F.ev 6 (Vi i))) ?_;clear F ac;intro ac F
    refine Y.pval F (X.w0 rfl) rfl (X.index rfl (F.ev 31 (.slice (some ⟨gb, 0, none⟩) p.nb p.nb)) (F.ev 32 (Vi i)) (X.idx (k := i) Try.underlying117 (Try.siz4 _) (by omega) (by omega) ((addr_add0 _ _).trans (by rw [Nat.mul_one])))) ?_;clear F ac;intro ac F
    obtain ⟨Gi, hGi⟩ : ∃ x, x = Gn ++ [i] := ⟨_, rfl⟩
    have hGl : ∀ x ∈ Gn, x < i := fun x hx => (con_mem i x).1.1 (.inl (by rw [hcs]; exact hx))
    refine Y.punit F (X.w0 rfl) rfl (X.store rfl (F.ev 33 (.pointer (some ⟨gb, i, none⟩))) (X.kc (.bool true) rfl) (hGv.st1 (Try.siz4 _) rfl rfl (by omega))) ?_;clear F ac;intro ac F
    have hon := Y.set_only w13 gb i (.bool true)
    have hV2 := (hGv.set (k := i) (.bool true)).congr (val' := gvV Gi) (fun k _ => by rw [hGi]; exact gv_set k)
    generalize w13.setCell ⟨gb, i, none⟩ (.bool true) = w20 at *
    replace hGv : OwnP w20 gb p.nb (gvV Gi) := hV2
    clear hV2
    replace G := Y.Only.up G hon (by omega)
    replace hpt := (hP.t).gr G
    replace hph := (hP.h).gr G
    replace hpb := (hP.b).gr G
    replace hpl := (hP.l).gr G
    replace hO1 := hO1.step hon (.inl (by simp))
    replace hC := (hC.kc hon 0 rfl (hC.kc hon 1 rfl (hC.kc hon 2 rfl (hC.kc hon 3 rfl (RCells.nil _)))))
    clear hon
    refine Y.nt F [(1, Vp w.heap.size), (5, .slice (some ⟨gb, 0, none⟩) p.nb p.nb), (6, Vi i)] ?_;clear F ac;intro ac F
    refine Y.sl ?_
    refine Y.pv2 F (X.load rfl (F.ev 1 (Vp w.heap.size)) (X.ldN (Try.agg27 _) (Try.siz27 _) (Y.atz (⟨w.heap.size, 0, none⟩) (Y.AtFrom.cons (hC.at 0 rfl) (Y.AtFrom.cons (hC.at 1 rfl) (Y.AtFrom.cons (hC.at 2 rfl) (Y.AtFrom.cons (hC.at 3 rfl) (Y.AtFrom.nil _ _ _)))))))) (fun _ F=>Y.al rfl (Try.new27 _)) ?_;clear F ac;intro ac F
    refine Y.punit F (X.w0 rfl) rfl (X.store rfl (F.ev 7 (Vp w20.heap.size)) (F.ev 34 (.agg #[.slice ta p.nt tc, .slice ha p.nh hc, .slice ba p.nb bc, .slice la p.nl lc])) (Y.stNew [.slice ta p.nt tc, .slice ha p.nh hc, .slice ba p.nb bc, .slice la p.nl lc] [.slice none 0 0, .slice none 0 0, .slice none 0 0, .slice none 0 0] (Try.siz27 _) rfl rfl)) ?_;clear F ac;intro ac F
    have hgq := hGv.lt
    have hW1q : w11.heap.size ≤ w20.heap.size := hO1.size
    have hbq21 : w.heap.size < w20.heap.size := lt_cell (hC.at 0 rfl)
    have g := Gr.alloc w20 (.cells #[.slice ta p.nt tc, .slice ha p.nh hc, .slice ba p.nb bc, .slice la p.nl lc] 27)
    have hb := heap_alloc_new w20 (.cells #[.slice ta p.nt tc, .slice ha p.nh hc, .slice ba p.nb bc, .slice la p.nl lc] 27)
    have hszw22 : w20.heap.size < (w20.alloc (.cells #[.slice ta p.nt tc, .slice ha p.nh hc, .slice ba p.nb bc, .slice la p.nl lc] 27)).heap.size := by simp
    have hgsw22 : w.heap.size ≤ w20.heap.size := G.size
    generalize w20.alloc (.cells #[.slice ta p.nt tc, .slice ha p.nh hc, .slice ba p.nb bc, .slice la p.nl lc] 27) = w22 at *
    replace G := G.trans g
    replace hC := hC.gr g
    replace hO1 := hO1.thenGr g
    replace hpt := hpt.gr g
    replace hph := hph.gr g
    replace hpb := hpb.gr g
    replace hpl := hpl.gr g
    replace hGv := hGv.gr g
    have hVw22 : OwnP w22 w20.heap.size 4 (qsV ta ha ba la tc hc bc lc p.nt p.nh p.nb p.nl) := ownP_bx (vs := [.slice ta p.nt tc, .slice ha p.nh hc, .slice ba p.nb bc, .slice la p.nl lc]) hb
    clear g hb
    obtain ⟨q9, hq9⟩ : ∃ x, w20.heap.size = x := ⟨_, rfl⟩
    rw [hq9] at F hVw22 hgq hW1q
    have hqw : w.heap.size ≤ q9 := by rw [← hq9]; exact Nat.le_trans hgb0 (by omega)
    refine Y.nt F [(1, Vp w.heap.size), (5, .slice (some ⟨gb, 0, none⟩) p.nb p.nb), (6, Vi i), (7, Vp q9)] ?_;clear F ac;intro ac F
    refine Y.sl ?_
    refine Y.pv F (X.field rfl (F.ev 7 (Vp q9)) (X.fld Try.underlying27 rfl (Try.siz24 _) rfl rfl)) ?_;clear F ac;intro ac F
    refine Y.punit F (X.w0 rfl) rfl (X.store rfl (F.ev 35 (.pointer (some ⟨q9, 2, none⟩))) (X.kc (.slice none 0 0) rfl) (hVw22.st1 (Try.siz24 _) rfl rfl (by omega))) ?_;clear F ac;intro ac F
    have hon := Y.set_only w22 q9 2 (.slice none 0 0)
    have hV2 := (hVw22.set (k := 2) (.slice none 0 0)).congr (val' := qsV ta ha none la tc hc 0 lc p.nt p.nh 0 p.nl) qs_set
    generalize w22.setCell ⟨q9, 2, none⟩ (.slice none 0 0) = w24 at *
    replace hVw22 : OwnP w24 q9 4 (qsV ta ha none la tc hc 0 lc p.nt p.nh 0 p.nl) := hV2
    clear hV2
    replace G := Y.Only.up G hon (by omega)
    replace hpt := (hP.t).gr G
    replace hph := (hP.h).gr G
    replace hpb := (hP.b).gr G
    replace hpl := (hP.l).gr G
    replace hGv := hGv.only hon (by show ¬ _ = _; omega)
    replace hO1 := hO1.step hon (.inr (by omega))
    replace hC := (hC.kc hon 0 rfl (hC.kc hon 1 rfl (hC.kc hon 2 rfl (hC.kc hon 3 rfl (RCells.nil _)))))
    clear hon
    refine Y.nt F [(1, Vp w.heap.size), (5, .slice (some ⟨gb, 0, none⟩) p.nb p.nb), (6, Vi i), (7, Vp q9)] ?_;clear F ac;intro ac F
    refine Y.seq ?_
    refine Y.sg F [(1, Vp w.heap.size), (5, .slice (some ⟨gb, 0, none⟩) p.nb p.nb), (6, Vi i), (7, Vp q9), (8, Vi 0)] (Y.pv F (X.assign rfl (X.kc (Vi 0) rfl)) fun ac F=>Y.fin F) ?_;clear F ac;intro ac F
    refine Y.block ?_
    have hW2 : w.heap.size ≤ w24.heap.size := G.size
    have hqW2 := hVw22.lt
    refine Y.loop (fun me_ ac wr => ∃ (k : Nat) (xa : Option Addr) (xc : Nat), me_ = p.nb - k ∧ Only (fun b => b = q9) w24 wr ∧ OwnP wr q9 4 (qsV ta ha xa la tc hc xc lc p.nt p.nh (nin k Gi).length p.nl) ∧ k ≤ p.nb ∧ OwnR wr w24.heap.size 65 3 (.slice xa (nin k Gi).length xc) (nin k Gi).length (selV p (nin k Gi)) ∧ Fr ac 81 [(1, Vp w.heap.size), (5, .slice (some ⟨gb, 0, none⟩) p.nb p.nb), (6, Vi i), (7, Vp q9), (8, Vi k)]) _ ⟨0, none, 0, rfl, Only.refl _ _, hVw22, Nat.zero_le _, OwnR.nil _ _ _ _, F.sub _⟩ ?_
    have hptB2 := hpt
    have hphB2 := hph
    have hpbB2 := hpb
    have hplB2 := hpl
    have hGvB2 := hGv
    have hVw22B2 := hVw22
    have GB2 := G
    have hCB2 := hC
    clear F ac hVw22
    intro me_ ac w25 hI
    obtain ⟨k, xa, xc, rfl, hO2, hVw22, hk, hRo, F⟩ := hI
    replace G : Gr w w25 := ((GB2.only (fun b => w.heap.size ≤ b)).trans (hO2.mono' (fun i e => by omega))).gr (fun i hi e => by omega)
    replace hpt := (hP.t).gr G
    replace hph := (hP.h).gr G
    replace hpb := (hP.b).gr G
    replace hpl := (hP.l).gr G
    replace hGv := hGvB2.only hO2 (by omega)
    replace hC := (RCells.cons (hO2.cell (hCB2.at 0 rfl) (by show ¬ (w.heap.size = q9); omega)) (RCells.cons (hO2.cell (hCB2.at 1 rfl) (by show ¬ (w.heap.size = q9); omega)) (RCells.cons (hO2.cell (hCB2.at 2 rfl) (by show ¬ (w.heap.size = q9); omega)) (RCells.cons (hO2.cell (hCB2.at 3 rfl) (by show ¬ (w.heap.size = q9); omega)) (RCells.nil _)))))
    replace hO1 := hO1.step2 hO2 (fun r e => by (have e2 := e; first | omega | (simp only at e2; omega)))
    refine Y.seq ?_
    refine Y.sg F [(1, Vp w.heap.size), (5, .slice (some ⟨gb, 0, none⟩) p.nb p.nb), (6, Vi i), (7, Vp q9), (8, Vi k), (40, .bool (decide ((k : Int) < p.nb)))] (by
     refine Y.pv F (X.move rfl (F.ev 8 (Vi k))) fun ac F=>?_
     refine Y.pv F (X.field rfl (F.ev 1 (Vp w.heap.size)) (X.fld Try.underlying27 rfl (Try.siz24 _) rfl rfl)) fun ac F=>?_
     refine Y.pv F (X.load rfl (F.ev 37 (.pointer (some ⟨w.heap.size, 2, none⟩))) (X.ld1 (Try.agg24 _) (hC.at 2 rfl))) fun ac F=>?_
     refine Y.pv F (X.len1 Try.underlying24 rfl (F.ev 38 (.slice ba p.nb bc))) fun ac F=>?_
     refine Y.pv F (X.binop rfl (F.ev 36 (Vi k)) (F.ev 39 (Vi p.nb)) (X.lssI Try.underlying3 rfl)) fun ac F=>?_
     exact Y.fin F) ?_;clear F ac;intro ac F
    cases h26 : decide ((k : Int) < p.nb) with
    | false =>
     try rw [h26] at F
     have h26p : ¬ ((k : Int) < p.nb) := of_decide_eq_false h26
     obtain rfl : k = p.nb := by omega
     refine Y.condF (F.ev 40 (.bool false)) ?_
     refine Y.exit ?_
     refine X.thenX (X.thenX (X.blockX (X.thenN ?_)))
     refine Y.sl ?_
     refine Y.pv F (X.load rfl (F.ev 7 (Vp q9)) (ownP_load hVw22 (Try.agg27 _) (Try.siz27 _) rfl)) ?_;clear F ac;intro ac F
     have hP6 : PbAt w25 (selP p (nin p.nb Gi)) ta ha xa la tc hc xc lc := sel_at (hP.gr G) hRo (by have := nin_len (n := p.nb) (r := Gi); omega)
     have hq6 : PbOk (selP p (nin p.nb Gi)) := chk_ok (sel_chk hck (fun k hk => (nin_mem.1 hk).1) nin_len)
     refine Y.pc F 68 (X.a2 (F.ev 58 (.agg #[.slice ta p.nt tc, .slice ha p.nh hc, .slice xa ((nin p.nb Gi).length) xc, .slice la p.nl lc])) (X.kc (.slice none 0 0) rfl)) Try.func68 (all_mp (selP p (nin p.nb Gi)) ta ha xa la tc hc xc lc hq6 hsm w25 hP6) ?_
     clear F ac
     rintro e w27 ⟨v, rfl, ⟨ra6, rc6, E6, rfl, -, hm6, -, hl6⟩, g⟩
     refine ⟨_, rfl, ?_⟩
     intro ac F
     replace G := G.trans g
     replace hC := hC.gr g
     replace hO1 := hO1.thenGr g
     replace hpt := hpt.gr g
     replace hph := hph.gr g
     replace hpb := hpb.gr g
     replace hpl := hpl.gr g
     replace hGv := hGv.gr g
     replace hVw22 := hVw22.gr g
     replace hRo := hRo.gr g
     clear g
     refine Y.pv2 F (X.len1 Try.underlying38 rfl (F.ev 59 (.slice ra6 E6.length rc6))) (fun _ F=>X.binop rfl (F.ev 60 (Vi E6.length)) (X.kc (Vi 0) rfl) (X.gtrI Try.underlying3 rfl)) ?_;clear F ac;intro ac F
     refine Y.nt F [(1, Vp w.heap.size), (5, .slice (some ⟨gb, 0, none⟩) p.nb p.nb), (6, Vi i), (61, .bool (decide ((0 : Int) < E6.length)))] ?_;clear F ac;intro ac F
     cases h28 : decide ((0 : Int) < E6.length) with
     | false =>
      try rw [h28] at F
      have h28p : ¬ ((0 : Int) < E6.length) := of_decide_eq_false h28
      have hpo : posB (selP p (nin p.nb Gi)) = false := (pos_len hm6).trans h28
      refine Y.condF (F.ev 61 (.bool false)) ?_
      refine Y.skip ?_
      refine X.blockN (X.thenN ?_)
      refine Y.lg F [(1, Vp w.heap.size), (5, .slice (some ⟨gb, 0, none⟩) p.nb p.nb), (6, Vi ((i : Int) + 1))] (by
       refine Y.pv F (X.move rfl (F.ev 6 (Vi i))) fun ac F=>?_
       refine Y.pv F (X.binop rfl (F.ev 29 (Vi i)) (X.kc (Vi 1) rfl) (X.addI Try.underlying3 rfl (by omega) (by omega))) fun ac F=>?_
       refine Y.pv F (X.assign rfl (F.ev 30 (Vi ((i : Int) + 1)))) fun ac F=>?_
       exact Y.fin F) ?_;clear F ac;intro ac F
      refine ⟨_, ?_, i + 1, Gi, Ho, rfl, hO1, hGv, by omega, by rw [hGi]; exact con_n hcs (by rw [← hGi]; exact hpo), F.sub _⟩
      omega
     | true =>
      try rw [h28] at F
      have h28p : ((0 : Int) < E6.length) := of_decide_eq_true h28
      have hpo : posB (selP p (nin p.nb Gi)) = true := (pos_len hm6).trans h28
      refine Y.condT (F.ev 61 (.bool true)) ?_
      refine Y.lit (by kernel_rfl) ?_
      refine Y.pv2 F (X.move rfl (F.ev 5 (.slice (some ⟨gb, 0, none⟩) p.nb p.nb))) (fun _ F=>X.move rfl (F.ev 6 (Vi i))) ?_;clear F ac;intro ac F
      refine Y.pval F (X.w0 rfl) rfl (X.index rfl (F.ev 62 (.slice (some ⟨gb, 0, none⟩) p.nb p.nb)) (F.ev 63 (Vi i)) (X.idx (k := i) Try.underlying117 (Try.siz4 _) (by omega) (by omega) ((addr_add0 _ _).trans (by rw [Nat.mul_one])))) ?_;clear F ac;intro ac F
      refine Y.punit F (X.w0 rfl) rfl (X.store rfl (F.ev 64 (.pointer (some ⟨gb, i, none⟩))) (X.kc (.bool false) rfl) (hGv.st1 (Try.siz4 _) rfl rfl (by omega))) ?_;clear F ac;intro ac F
      have hon := Y.set_only w27 gb i (.bool false)
      have hV2 := (hGv.set (k := i) (.bool false)).congr (val' := gvV Gn) (fun k _ => by rw [hGi]; exact gv_del hGl k)
      generalize w27.setCell ⟨gb, i, none⟩ (.bool false) = w29 at *
      replace hGv : OwnP w29 gb p.nb (gvV Gn) := hV2
      clear hV2
      replace G := Y.Only.up G hon (by omega)
      replace hpt := (hP.t).gr G
      replace hph := (hP.h).gr G
      replace hpb := (hP.b).gr G
      replace hpl := (hP.l).gr G
      replace hVw22 := hVw22.only hon (by show ¬ _ = _; omega)
      replace hRo := hRo.only hon (fun x e h => by have h1 := (hRo.ge e).1; have h2 : x = gb := h; omega)
      replace hO1 := hO1.step hon (.inl (by simp))
      replace hC := (hC.kc hon 0 rfl (hC.kc hon 1 rfl (hC.kc hon 2 rfl (hC.kc hon 3 rfl (RCells.nil _)))))
      clear hon
      refine Y.nil ?_
      replace F : Fr ac 81 [(1, Vp w.heap.size), (5, .slice (some ⟨gb, 0, none⟩) p.nb p.nb), (6, Vi i)] := F.sub _
      refine X.blockN (X.thenN ?_)
      refine Y.lg F [(1, Vp w.heap.size), (5, .slice (some ⟨gb, 0, none⟩) p.nb p.nb), (6, Vi ((i : Int) + 1))] (by
       refine Y.pv F (X.move rfl (F.ev 6 (Vi i))) fun ac F=>?_
       refine Y.pv F (X.binop rfl (F.ev 29 (Vi i)) (X.kc (Vi 1) rfl) (X.addI Try.underlying3 rfl (by omega) (by omega))) fun ac F=>?_
       refine Y.pv F (X.assign rfl (F.ev 30 (Vi ((i : Int) + 1)))) fun ac F=>?_
       exact Y.fin F) ?_;clear F ac;intro ac F
      refine ⟨_, ?_, i + 1, Gn, Ho ++ [i], rfl, hO1, hGv, by omega, con_y hcs (by rw [← hGi]; exact hpo), F.sub _⟩
      omega
    | true =>
     try rw [h26] at F
     have h26p : ((k : Int) < p.nb) := of_decide_eq_true h26
     have h2k : k < p.nb := by omega
     have hnl := nin_len (n := k) (r := Gi)
     refine Y.condT (F.ev 40 (.bool true)) ?_
     refine Y.skip ?_
     refine X.thenN ?_
     refine Y.seq ?_
     refine Y.block ?_
     refine Y.sl ?_
     refine Y.pv2 F (X.move rfl (F.ev 5 (.slice (some ⟨gb, 0, none⟩) p.nb p.nb))) (fun _ F=>X.move rfl (F.ev 8 (Vi k))) ?_;clear F ac;intro ac F
     refine Y.pval F (X.w0 rfl) rfl (X.index rfl (F.ev 43 (.slice (some ⟨gb, 0, none⟩) p.nb p.nb)) (F.ev 44 (Vi k)) (X.idx (k := k) Try.underlying117 (Try.siz4 _) (by omega) (by omega) ((addr_add0 _ _).trans (by rw [Nat.mul_one])))) ?_;clear F ac;intro ac F
     replace hC := hC.append (show RCells w25 ([(⟨gb, k, none⟩, .bool (Gi.contains k))]) from (RCells.cons (hGv.cell (k := k) (by omega)) (RCells.nil _)))
     refine Y.pv2 F (X.load rfl (F.ev 45 (.pointer (some ⟨gb, k, none⟩))) (X.ld1 (Try.agg4 _) (hC.at 4 rfl))) (fun _ F=>X.notB rfl (F.ev 46 (.bool (Gi.contains k))) rfl) ?_;clear F ac;intro ac F
     refine Y.nt F [(1, Vp w.heap.size), (5, .slice (some ⟨gb, 0, none⟩) p.nb p.nb), (6, Vi i), (7, Vp q9), (8, Vi k), (47, .bool (!(Gi.contains k)))] ?_;clear F ac;intro ac F
     cases h30 : Gi.contains k with
     | false =>
      try rw [h30] at F
      refine Y.condT (F.ev 47 (.bool true)) ?_
      replace hC := hC.append (show RCells w25 ([(Ad q9 2, .slice xa ((nin k Gi).length) xc)]) from (RCells.cons (hVw22.cell (k := 2) (by decide)) (RCells.nil _)))
      obtain ⟨pd31, pe31, -, pc31⟩ := hpb.at (j := k) (by omega)
      subst pe31
      replace hC := hC.append (show RCells w25 (Y.cs (pd31.add (k * 3)) [Vi (p.bv k 0), Vi (p.bv k 1), Vi (p.bv k 2)]) from (RCells.cons (pc31 0 (by decide)) (RCells.cons (pc31 1 (by decide)) (RCells.cons (pc31 2 (by decide)) (RCells.nil _)))))
      clear pc31
      obtain ⟨Ta, hTa⟩ : ∃ T : Value → World → Prop, T = fun v W => ∃ g, v = .slice (some ⟨g, 0, none⟩) 1 1 ∧ W.heap[g]? = some (.cells #[Vi (p.bv k 0), Vi (p.bv k 1), Vi (p.bv k 2)] 65) := ⟨_, rfl⟩
      have uTa : UpV Ta := by subst hTa; exact fun v W W2 ⟨q, h1, h2⟩ g => ⟨q, h1, (g.below.block _ (Array.getElem?_eq_some_iff.1 h2).1).trans h2⟩
      have hgR : ∀ b, (Value.slice xa (nin k Gi).length xc).ownBlock = some b → w24.heap.size ≤ b := fun b e => (hRo.ge e).1
      refine region_xi F [some (.pointer (some ⟨q9, 2, none⟩)), some (.slice xa ((nin k Gi).length) xc), some (.pointer (some ⟨w.heap.size, 2, none⟩)), some (.slice (some pd31) p.nb bc), some (Vi k), some (.pointer (some (pd31.add (k * 3)))), some (.agg #[Vi (p.bv k 0), Vi (p.bv k 1), Vi (p.bv k 2)]), none, none, some (.pointer (some ⟨q9, 2, none⟩)), none] (RPh w25 7 8 10 Ta (TbS w25 w24.heap.size p (nin k Gi ++ [k]) (.slice xa (nin k Gi).length xc)) (TcS w25 q9 w24.heap.size p ta ha la tc hc lc (nin k Gi ++ [k]) (.slice xa (nin k Gi).length xc))) rfl ⟨by kernel_rfl, of_decide_eq_true (by kernel_rfl), by kernel_rfl, by kernel_rfl, by kernel_rfl⟩ (fun _ => ⟨RPh.start (Gr.refl _), RPh.start (Gr.drew _)⟩) ⟨?_, ?_, ?_, ?_, ?_, ?_, ?_, ?_, ?_, ?_, ?_, trivial⟩ ?_
      ·intro ac done u W Sx hR
       exact X.vl (X.field rfl (Sx.ev 7 (Vp q9)) (X.fld Try.underlying27 rfl (Try.siz24 _) rfl rfl)) (hR.pure (by decide))
      ·intro ac done u W Sx hR
       have hb8 := Sx.no 8 (by kernel_rfl)
       have g : Gr w25 W := hR.g hb8
       exact X.vl (X.load rfl (Sx.ev 48 (.pointer (some ⟨q9, 2, none⟩))) (X.ld1 (Try.agg24 _) ((hC.gr g).at 5 rfl))) (hR.quiet uTa hb8 (Sx.no 10 (by kernel_rfl)) (Gr.refl _) (by decide))
      ·intro ac done u W Sx hR
       exact X.vl (X.field rfl (Sx.ev 1 (Vp w.heap.size)) (X.fld Try.underlying27 rfl (Try.siz24 _) rfl rfl)) (hR.pure (by decide))
      ·intro ac done u W Sx hR
       have hb8 := Sx.no 8 (by kernel_rfl)
       have g : Gr w25 W := hR.g hb8
       exact X.vl (X.load rfl (Sx.ev 50 (.pointer (some ⟨w.heap.size, 2, none⟩))) (X.ld1 (Try.agg24 _) ((hC.gr g).at 2 rfl))) (hR.quiet uTa hb8 (Sx.no 10 (by kernel_rfl)) (Gr.refl _) (by decide))
      ·intro ac done u W Sx hR
       exact X.vl (X.move rfl (Sx.ev 8 (Vi k))) (hR.pure (by decide))
      ·intro ac done u W Sx hR
       have hb8 := Sx.no 8 (by kernel_rfl)
       have g : Gr w25 W := hR.g hb8
       exact X.vl (X.index rfl (Sx.ev 51 (.slice (some pd31) p.nb bc)) (Sx.ev 52 (Vi k)) (X.idx (k := k) Try.underlying24 (Try.siz65 _) (by omega) (by omega) rfl)) (hR.quiet uTa hb8 (Sx.no 10 (by kernel_rfl)) (Gr.refl _) (by decide))
      ·intro ac done u W Sx hR
       have hb8 := Sx.no 8 (by kernel_rfl)
       have g : Gr w25 W := hR.g hb8
       exact X.vl (X.load rfl (Sx.ev 53 (.pointer (some (pd31.add (k * 3))))) (X.ldN (Try.agg65 _) (Try.siz65 _) (Y.atz (pd31.add (k * 3)) (Y.AtFrom.cons ((hC.gr g).at 6 rfl) (Y.AtFrom.cons ((hC.gr g).at 7 rfl) (Y.AtFrom.cons ((hC.gr g).at 8 rfl) (Y.AtFrom.nil _ _ _))))))) (hR.quiet uTa hb8 (Sx.no 10 (by kernel_rfl)) (Gr.refl _) (by decide))
      ·intro ac done u W Sx hR
       have hb8 := Sx.no 8 (by kernel_rfl)
       have g : Gr w25 W := hR.g hb8
       exact X.valN (X.w0 rfl) rfl (X.bs rfl (X.b1 (Sx.ev 54 (.agg #[Vi (p.bv k 0), Vi (p.bv k 1), Vi (p.bv k 2)]))) (Try.bs24_1 _ _ _ _)) (hR.sa (by decide) hb8 (Sx.no 10 (by kernel_rfl)) (Gr.alloc _ _) (by subst hTa; exact ⟨_, rfl, heap_alloc_new _ _⟩))
      ·intro ac done u W Sx hR
       have g : Gr w25 W := hR.g Sx.nd
       have hA := hR.ga (Sx.an 7 (by kernel_rfl)) Sx.nd
       rw [hTa] at hA
       obtain ⟨g7, e7, hc9⟩ := hA
       refine X.law (X.w0 rfl) (fun K_ hK => wp_pushV Try.underlying24 Try.info65 rfl (by decide) rfl (Sx.ev 49 (.slice xa ((nin k Gi).length) xc)) ((Sx.own 7 55 rfl).trans e7) (hRo.gr g) (m := 1) (news := [Vi (p.bv k 0), Vi (p.bv k 1), Vi (p.bv k 2)]) rfl (cells_at (vs := [Vi (p.bv k 0), Vi (p.bv k 1), Vi (p.bv k 2)]) hc9) rfl (by omega) (by decide) (Nat.le_trans hO2.size g.size) (fun v2 W2 hO2 hon hat => hK v2 W2 (fun x hx => by cases hx) (RPh.sb (by decide) (Sx.no 10 (by kernel_rfl)) ?_)))
       obtain ⟨xa3, xc3, rfl⟩ := hO2.form
       refine ⟨xa3, xc3, by rw [List.length_append]; rfl, by rw [List.length_append, selV_snoc]; exact hO2, (g.only _).trans hon, ?_⟩
       rw [List.length_append]
       exact hat.imp (fun h => h) (fun h => ⟨_, h, g.size⟩)
      ·intro ac done u W Sx hR
       exact X.vl (X.field rfl (Sx.ev 7 (Vp q9)) (X.fld Try.underlying27 rfl (Try.siz24 _) rfl rfl)) (hR.pure (by decide))
      ·intro ac done u W Sx hR
       have hB := hR.gb (Sx.an 8 (by kernel_rfl)) Sx.nd
       obtain ⟨xa3, xc3, e8, hO2, hon, hmv⟩ := hB
       have hQ2 := hVw22.only hon (fun e => by have := hgR _ e; omega)
       exact X.unit (X.w0 rfl) rfl (X.store rfl (Sx.ev 57 (.pointer (some ⟨q9, 2, none⟩))) ((Sx.own 8 56 rfl).trans e8) (hQ2.st1 (Try.siz24 _) rfl rfl (by decide))) (RPh.sc (by decide) (Sx.an 8 (by kernel_rfl)) ⟨xa3, xc3, (hQ2.set (k := 2) _).congr qs_set, hO2.only (Y.set_only _ _ _ _) (fun b e h => by have h1 := (hO2.ge e).1; have h2 : b = q9 := h; omega), (hon.mono' (fun i e => .inl e)).trans ((Y.set_only _ _ _ _).mono' (fun i e => .inr e)), hmv⟩)
      rintro ac u w32 hs hd hl_ ho hR
      obtain ⟨xa3, xc3, hQ3, hR3, hon, hmv⟩ := hR.gc rfl
      clear hTa uTa hR
      replace F : Fr ac 81 [(1, Vp w.heap.size), (5, .slice (some ⟨gb, 0, none⟩) p.nb p.nb), (6, Vi i), (7, Vp q9), (8, Vi k)] := X.fr hs hd hl_ _ (by kernel_rfl)
      clear hs hd hl_ ho
      replace hO2 := hO2.step2 hon (fun r e => e.elim (fun e => .inr (hgR r e)) .inl)
      clear hVw22 hRo
      have hVw22 := hQ3
      have hRo := hR3
      clear hQ3 hR3
      refine X.blockN (X.thenN ?_)
      refine Y.lg F [(1, Vp w.heap.size), (5, .slice (some ⟨gb, 0, none⟩) p.nb p.nb), (6, Vi i), (7, Vp q9), (8, Vi ((k : Int) + 1))] (by
       refine Y.pv F (X.move rfl (F.ev 8 (Vi k))) fun ac F=>?_
       refine Y.pv F (X.binop rfl (F.ev 41 (Vi k)) (X.kc (Vi 1) rfl) (X.addI Try.underlying3 rfl (by omega) (by omega))) fun ac F=>?_
       refine Y.pv F (X.assign rfl (F.ev 42 (Vi ((k : Int) + 1)))) fun ac F=>?_
       exact Y.fin F) ?_;clear F ac;intro ac F
      refine ⟨_, ?_, k + 1, xa3, xc3, rfl, hO2, (by rw [nin_n h30]; exact hVw22), by omega, by rw [nin_n h30]; exact hRo, F.sub _⟩
      omega
     | true =>
      try rw [h30] at F
      refine Y.condF (F.ev 47 (.bool false)) ?_
      refine Y.skip ?_
      refine X.blockN (X.thenN ?_)
      refine Y.lg F [(1, Vp w.heap.size), (5, .slice (some ⟨gb, 0, none⟩) p.nb p.nb), (6, Vi i), (7, Vp q9), (8, Vi ((k : Int) + 1))] (by
       refine Y.pv F (X.move rfl (F.ev 8 (Vi k))) fun ac F=>?_
       refine Y.pv F (X.binop rfl (F.ev 41 (Vi k)) (X.kc (Vi 1) rfl) (X.addI Try.underlying3 rfl (by omega) (by omega))) fun ac F=>?_
       refine Y.pv F (X.assign rfl (F.ev 42 (Vi ((k : Int) + 1)))) fun ac F=>?_
       exact Y.fin F) ?_;clear F ac;intro ac F
      refine ⟨_, ?_, k + 1, xa, xc, rfl, hO2, (by rw [nin_y h30]; exact hVw22), by omega, by rw [nin_y h30]; exact hRo, F.sub _⟩
      omega
  | true =>
   try rw [h10] at F
   have h10p : ((0 : Int) < E5.length) := of_decide_eq_true h10
   have hpos : posB p = true := (pos_len hm5).trans h10
   refine Y.condT (F.ev 19 (.bool true)) ?_
   refine Y.sg F [(2, .slice none 0 0), (3, Vi 3)] (Y.pv F (X.assign rfl (X.kc (.slice none 0 0) rfl)) fun ac F=>Y.pv F (X.assign rfl (X.kc (Vi 3) rfl)) fun ac F=>Y.fin F) ?_;clear F ac;intro ac F
   refine Y.ret ?_
   refine X.thenR ?_
   have hb := conf_2 (p := p) hck hpos
   exact Y.ret0 (v := .tuple #[.slice none 0 0, Vi 3]) F (Y.rs2 F rfl (by kernel_rfl) (by kernel_rfl)) ⟨none, 0, by rw [hb.1, hb.2]; rfl, by rw [hb.2]; exact Ints.nilZ _, fun ad e => (by cases e), G⟩
 | true =>
  try rw [h8] at F
  have h8p : ¬ (chkE p : Int) = 0 := by simpa using h8
  refine Y.condT (F.ev 14 (.bool true)) ?_
  refine Y.sg F [(2, .slice none 0 0), (3, Vi (chkE p))] (Y.pv F (X.move rfl (F.ev 4 (Vi (chkE p)))) fun ac F=>Y.pv F (X.assign rfl (X.kc (.slice none 0 0) rfl)) fun ac F=>Y.pv F (X.assign rfl (F.ev 15 (Vi (chkE p)))) fun ac F=>Y.fin F) ?_;clear F ac;intro ac F
  refine Y.ret ?_
  refine X.thenR ?_
  have hb := conf_1 (p := p) (by omega)
  exact Y.ret0 (v := .tuple #[.slice none 0 0, Vi (chkE p)]) F (Y.rs2 F rfl (by kernel_rfl) (by kernel_rfl)) ⟨none, 0, by rw [hb.1, hb.2]; rfl, by rw [hb.2]; exact Ints.nilZ _, fun ad e => (by cases e), G⟩
end
end Go.Proofs.Ytodedneanlekdaa
