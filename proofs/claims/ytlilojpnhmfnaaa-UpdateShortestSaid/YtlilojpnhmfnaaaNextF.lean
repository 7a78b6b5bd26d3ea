/- The closures of states: the iterator. -/
import Derived.Test.YtlilojpnhmfnaaaNextE
import Derived.Laws.EntriesVeiled
namespace Go.Proofs.Ytlilojpnhmfnaaa
open Go.RowKit

theorem cell_new {w : World} {cs : Array Value} {t : TypeId} {j : Nat} {v : Value} (h : cs[j]? = some v) : (w.alloc (.cells cs t)).cell? ⟨w.heap.size, j, none⟩ = some v := by
  have := World.alloc_heap_new w (.cells cs t)
  unfold World.cell?
  simp only [this]
  exact h

theorem run_makeSlice_ints (w : World) (n : Nat) (hn : n ≤ 6) : (Instr.makeSlice 26 (.int .i64 0) (.int .i64 (n : Int))).run Try.prog w = .ok (.slice (some ⟨w.heap.size, 0, none⟩) 0 n) (w.alloc (.cells (List.replicate n (.int .i64 0)).toArray 3)) := by
  obtain rfl | rfl | rfl | rfl | rfl | rfl | rfl : n = 0 ∨ n = 1 ∨ n = 2 ∨ n = 3 ∨ n = 4 ∨ n = 5 ∨ n = 6 := by omega
  all_goals kernel_rfl

set_option maxHeartbeats 1000000 in
theorem states1_any (wB W0 : World) (S Y : Nat → Prop) (J : List (List Int) → World → Prop) (Jx : World → Prop) (f : Fl) (ta ca fa toa : Option Addr) (tn tc cn cc n fc toc : Nat) (lo hi : List Int) (bfr bfl bto l : Nat)
    (hb : SBase wB S f ta tn ca cn fa toa n lo hi) (hbase : Only S wB W0) (hYS : ∀ b, Y b → S b) (hYlt : ∀ b, Y b → b < W0.heap.size)
    (c1 : W0.cell? ⟨bfr, 0, none⟩ = some (.slice fa n fc)) (c2 : W0.cell? ⟨bfl, 0, none⟩ = some (.slice ta tn tc)) (c3 : W0.cell? ⟨bfl, 1, none⟩ = some (.slice ca cn cc)) (c4 : W0.cell? ⟨bto, 0, none⟩ = some (.slice toa n toc))
    (n1 : ¬ Y bfr) (n2 : ¬ Y bfl) (n3 : ¬ Y bto) (hJ0 : J [] W0) (hJ : ∀ done W W', J done W → Only (fun b => b = W0.heap.size + 2) W W' → J done W') (hJx : ∀ W W', Jx W → Gr W W' → Jx W')
    (hY : ∀ done x rest W a c, J done W → Only S wB W → Ints W (some a) n x → Is3 W a.block → W0.heap.size + 2 < a.block → enum f lo hi n [] = done ++ x :: rest → StOk f x → worksB f x = true →
      YieldAt Fence.wide 0 Try.prog l #[.slice (some a) n c] W fun e W' => (e = .returned (.bool true) ∧ J (done ++ [x]) W' ∧ Only Y W W') ∨ (e = .returned (.bool false) ∧ Jx W')) :
    Calls Try.prog 90 #[.func (.yield l) #[] #[], .pointer (some ⟨bfr, 0, none⟩), .pointer (some ⟨bfl, 0, none⟩), .pointer (some ⟨bto, 0, none⟩)] W0 (SPost J Jx (enum f lo hi n [])) := by
  have hn6 : n ≤ 6 := by have := hb.ok.n6; have := hb.nt; omega
  obtain ⟨q, hq⟩ : ∃ q : NP, q = ⟨bfr, bfl, W0.heap.size, bto, W0.heap.size + 1, W0.heap.size + 2, l, fa, fc, ta, tn, tc, ca, cn, cc, toa, toc, n, f, lo, hi, wB, S⟩ := ⟨_, rfl⟩
  have hsz0 : wB.heap.size ≤ W0.heap.size := hbase.size
  have H : NHyp q Y J Jx (enum f lo hi n []) := by
    subst hq
    refine ⟨hb.ok, hb.n1, hb.nt, hb.lo0, hb.hi1, ?_, fun h => by have := hYlt _ h; simp only at this; omega, fun done W W' hj ho => hJ done W W' hj ho, hJx, ?_⟩
    · intro W W' hE ho
      have hbs : Only S wB W' := hE.base.trans (ho.mono (fun b _ h => by
        rcases h with h | h
        · exact hYS b h
        · subst h; exact hb.new _ (by simp; omega)))
      have hk : ∀ (p : Addr) (v : Value), W.cell? p = some v → ¬ Y p.block → p.block ≠ W0.heap.size + 2 → W'.cell? p = some v := fun p v hc h1 h2 => ho.cell hc (fun h => h.elim h1 h2)
      have l1 := lt_cell c1
      have l2 := lt_cell c2
      have l4 := lt_cell c4
      simp only at l1 l2 l4
      refine ⟨hk _ _ hE.cfr n1 (by simp only; omega), hk _ _ hE.cfl0 n2 (by simp only; omega), hk _ _ hE.cfl1 n2 (by simp only; omega), hk _ _ hE.cy (fun h => by have := hYlt _ h; simp only at this; omega) (by simp), hk _ _ hE.cto n3 (by simp only; omega), hk _ _ hE.cn_ (fun h => by have := hYlt _ h; simp only at this; omega) (by simp),
        hb.fl.only hbs hb.noc, hb.ilo.only hbs hb.noc, hb.ihi.only hbs hb.noc, Nat.lt_of_lt_of_le hE.pl ho.size, hbs⟩
    · intro done x rest W a c hj hE hi h3 hp hall hst hw
      exact hY done x rest W a c hj hE.base hi h3 hp hall hst hw
  obtain ⟨w2, hw2⟩ : ∃ w2, (W0.alloc (.cells #[.func (.yield l) #[] #[]] 118)).alloc (.cells #[.func (.func 91) #[] #[.pointer (some ⟨bfr, 0, none⟩), .pointer (some ⟨bfl, 0, none⟩), .pointer (some ⟨W0.heap.size, 0, none⟩), .pointer (some ⟨bto, 0, none⟩), .pointer (some ⟨W0.heap.size + 1, 0, none⟩)]] 118) = w2 := ⟨_, rfl⟩
  have g2 : Gr W0 w2 := by rw [← hw2]; exact (Gr.alloc _ _).allocR _
  have s2 : w2.heap.size = W0.heap.size + 2 := by rw [← hw2]; simp
  have cy2 : w2.cell? ⟨W0.heap.size, 0, none⟩ = some (.func (.yield l) #[] #[]) := by
    rw [← hw2, (Gr.alloc _ _).cell (by simp)]; exact cell_new rfl
  have cn2 : w2.cell? ⟨W0.heap.size + 1, 0, none⟩ = some (.func (.func 91) #[] #[.pointer (some ⟨bfr, 0, none⟩), .pointer (some ⟨bfl, 0, none⟩), .pointer (some ⟨W0.heap.size, 0, none⟩), .pointer (some ⟨bto, 0, none⟩), .pointer (some ⟨W0.heap.size + 1, 0, none⟩)]) := by
    rw [← hw2]; simp
  have c12 := (g2.cell (lt_cell c1)).trans c1
  have HQ := Lib.hid hq
  have S2 := Lib.hid s2
  go_enter Try.func90, Try.ntmps90
  go_wp2_with fail
  clear hw2
  refine (wpIn_wide (n := 0)).1 ?_
  refine region_inv (F := Fence.wide) (by kernel_rfl) (by rfl) (by decide) (fun _ => trivial)
    (fun done' u W' => Kn [some (.func (.func 91) #[] #[.pointer (some ⟨bfr, 0, none⟩), .pointer (some ⟨bfl, 0, none⟩), .pointer (some ⟨W0.heap.size, 0, none⟩), .pointer (some ⟨bto, 0, none⟩), .pointer (some ⟨W0.heap.size + 1, 0, none⟩)]), some (.slice fa n fc), some (.int .i64 (n : Int)), some (.slice (some ⟨W0.heap.size + 2, 0, none⟩) 0 n), none] done' u ∧ R3 q J Jx (enum f lo hi n []) w2 done' u W')
    (fun u => ⟨Kn.start _ _, ⟨fun _ => Gr.drew w2, fun _ => rfl, (fun _ h => by cases h), (fun h => by cases h)⟩⟩) ⟨?_, ?_, ?_, ?_, ?_, trivial⟩ ?_
  · rintro u done' W' hd hanc hclo ⟨hk, hR⟩
    have hg := hR.gr (not_done hclo hd 4 rfl (by kernel_rfl))
    have hc := (hg.cell (lt_cell cn2)).trans cn2
    refine op_plain (ro := none) rfl (fun c h => by cases h) fun K hK => ?_
    simp only [fillL, List.setIfInBounds_toArray, List.set_cons_zero, List.set_cons_succ, Nat.zero_add, Nat.reduceAdd] at hK ⊢
    go_simp
    exact hK _ _ ⟨hk.new rfl, hR.quiet (by decide) _⟩
  · rintro u done' W' hd hanc hclo ⟨hk, hR⟩
    have hg := hR.gr (not_done hclo hd 4 rfl (by kernel_rfl))
    have hc := (hg.cell (lt_cell c12)).trans c12
    refine op_plain (ro := none) rfl (fun c h => by cases h) fun K hK => ?_
    simp only [fillL, List.setIfInBounds_toArray, List.set_cons_zero, List.set_cons_succ, Nat.zero_add, Nat.reduceAdd] at hK ⊢
    go_simp
    exact hK _ _ ⟨hk.new rfl, hR.quiet (by decide) _⟩
  · rintro u done' W' hd hanc hclo ⟨hk, hR⟩
    have e1 := hk.get 1 rfl (hanc 1 (mem_of (by kernel_rfl)))
    refine op_plain (ro := none) rfl (fun c h => by cases h) fun K hK => ?_
    simp only [fillL, List.setIfInBounds_toArray, List.set_cons_zero, List.set_cons_succ, Nat.zero_add, Nat.reduceAdd, e1] at hK ⊢
    go_simp
    exact hK _ _ ⟨hk.new rfl, hR.quiet (by decide) _⟩
  · rintro u done' W' hd hanc hclo ⟨hk, hR⟩
    have e2 := hk.get 2 rfl (hanc 2 (mem_of (by kernel_rfl)))
    have h4 : done' 4 = false := not_done hclo hd 4 rfl (by kernel_rfl)
    have hg := hR.gr h4
    have hsz := (hR.sz hd).trans S2.out
    have hmk := run_makeSlice_ints W' n hn6
    rw [hsz] at hmk
    refine op_plain (ro := none) rfl (fun c h => by cases h) fun K hK => ?_
    simp only [fillL, List.setIfInBounds_toArray, List.set_cons_zero, List.set_cons_succ, Nat.zero_add, Nat.reduceAdd, e2] at hK ⊢
    have HS := Lib.hid hsz
    clear hsz
    go_simp
    refine hK _ _ ⟨hk.new rfl, ⟨fun _ => hg.allocR _, (fun h => by rw [upd_self] at h; cases h), fun _ _ => ⟨⟨List.replicate n (.int .i64 0), ?_, by rw [HQ.out]; simp⟩, ?_⟩, (fun h => by rw [upd_ne (by decide), h4] at h; cases h)⟩⟩
    · rw [HQ.out]; simp only; rw [← HS.out]; exact World.alloc_heap_new _ _
    · rw [HQ.out]; simp only [World.size_alloc]; rw [HS.out]; omega
  · rintro u done' W' hd hanc hclo ⟨hk, hR⟩
    have e0 := hk.get 0 rfl (hanc 0 (mem_of (by kernel_rfl)))
    have e3 := hk.get 3 rfl (hanc 3 (mem_of (by kernel_rfl)))
    have hg := hR.gr hd
    obtain ⟨hbuf, hpl⟩ := hR.buf hd (hanc 3 (mem_of (by kernel_rfl)))
    have hgg := g2.trans hg
    have hbs : Only S wB W' := hbase.thenGr hgg
    have hE : NEnv q W' := by
      rw [HQ.out] at hpl ⊢
      exact ⟨(hgg.cell (lt_cell c1)).trans c1, (hgg.cell (lt_cell c2)).trans c2, (hgg.cell (lt_cell c3)).trans c3, (hg.cell (lt_cell cy2)).trans cy2, (hgg.cell (lt_cell c4)).trans c4, (hg.cell (lt_cell cn2)).trans cn2, hb.fl.only hbs hb.noc, hb.ilo.only hbs hb.noc, hb.ihi.only hbs hb.noc, hpl, hbs⟩
    have hall : enum f lo hi n [] = [] ++ (enum q.f q.lo q.hi n [] ++ []) := by rw [HQ.out]; simp
    have hcon := next_any q Y J Jx (enum f lo hi n []) H n [] [] [] W' (by rw [HQ.out]; simp) (fun c h => by simp at h) hE hbuf (hJ _ _ _ hJ0 (hgg.only _)) hall
    have hpost : ∀ e W'', NPost q J Jx [] ([] ++ enum q.f q.lo q.hi n []) e W'' → (∃ v, e = .returned v) ∧ (J (enum f lo hi n []) W'' ∨ Jx W'') := by
      rw [HQ.out]
      rintro e W'' (⟨h1, h2, _⟩ | ⟨h1, h2⟩)
      · exact ⟨⟨_, h1⟩, .inl (by simpa using h2)⟩
      · exact ⟨⟨_, h1⟩, .inr h2⟩
    have hcon2 : Calls Try.prog 91 #[.slice (some ⟨W0.heap.size + 2, 0, none⟩) 0 n, .pointer (some ⟨bfr, 0, none⟩), .pointer (some ⟨bfl, 0, none⟩), .pointer (some ⟨W0.heap.size, 0, none⟩), .pointer (some ⟨bto, 0, none⟩), .pointer (some ⟨W0.heap.size + 1, 0, none⟩)] W' (fun e W'' => (∃ v, e = .returned v) ∧ (J (enum f lo hi n []) W'' ∨ Jx W'')) := by
      have := hcon.mono hpost
      rw [HQ.out] at this
      exact this
    have HCON := Lib.hid hcon2
    clear hcon hcon2 hpost hall
    refine op_plain (ro := none) rfl (fun c h => by cases h) fun K hK => ?_
    simp only [fillL, List.setIfInBounds_toArray, List.set_cons_zero, List.set_cons_succ, Nat.zero_add, Nat.reduceAdd, e0, e3] at hK ⊢
    go_simp
    refine HCON.out.mono ?_
    rintro e w3 ⟨⟨v, rfl⟩, hfin⟩
    exact hK _ _ ⟨hk.skip rfl, ⟨(fun h => by rw [upd_self] at h; cases h), (fun h => by rw [upd_ne (by decide), hanc 3 (mem_of (by kernel_rfl))] at h; cases h), (fun h => by rw [upd_self] at h; cases h), fun _ => hfin⟩⟩
  · rintro u W' ⟨done', hdn, hk, hR⟩
    have hf := hR.fin (hdn 4 (by decide))
    go_wp2
    go_end0
    exact ⟨⟨_, rfl⟩, hf⟩
end Go.Proofs.Ytlilojpnhmfnaaa
