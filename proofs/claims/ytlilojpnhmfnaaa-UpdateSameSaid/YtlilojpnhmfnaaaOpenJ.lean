/- An argument that came in: a journey, read off its data. -/
import Derived.Test.YtlilojpnhmfnaaaBd1
namespace Go.Proofs.Ytlilojpnhmfnaaa
open Go.ChangeShapes Go.WideShapes Go.RowKit Go.Deep Go.Joins
section
variable {H : Type} {enc : TypeId × Value → H} {w : World} {base : Nat} {spare : Nat → Bool} {held : Bool}

theorem five {α : Type} {l : List α} (h : l.length = 5) : ∃ a b c d e, l = [a, b, c, d, e] := by
  match l, h with
  | [a, b, c, d, e], _ => exact ⟨a, b, c, d, e, rfl⟩

theorem Try.cells41 : Try.prog.cellsOf 41 = 5 := by kernel_rfl
theorem Try.cells22 : Try.prog.cellsOf 22 = 1 := by kernel_rfl

set_option maxRecDepth 100000 in
/-- a journey -/
theorem open_jn {r : Reach} {b0 : Nat} {v : Value} {d : DataW H} {p : List MemPlace} (hv : Value.okWide Try.prog w r b0 41 v) (h : DataW.Trod enc Try.prog w base spare held 41 v d p) (hw : Wt 41 d) :
    ∃ fa fn fc fs pa pn pc Q bu dn ma mn mc ms, v = .agg #[.slice fa fn fc, .slice pa pn pc, .int .i64 bu, .int .i64 dn, .slice ma mn mc] ∧ Ints w fa fn fs ∧ RowsAt w pa pn Q ∧ Ints w ma mn ms := by
  obtain ⟨cs, rfl, hsz⟩ := okWide_struct Try.underlying41 hv
  obtain ⟨l⟩ := cs
  obtain ⟨v0, v1, v2, v3, v4, rfl⟩ := five (hsz.trans Try.cells41)
  obtain ⟨fuel, hf⟩ := h
  obtain ⟨ys, n, _, hy, _, hlen, hg⟩ := DataW.trod_struct Try.underlying41 hf
  obtain ⟨y0, y1, y2, y3, y4, rfl⟩ := five (by simpa using hlen)
  have f0 := hg 0 _ rfl
  have f1 := hg 1 _ rfl
  have f2 := hg 2 _ rfl
  have f3 := hg 3 _ rfl
  have f4 := hg 4 _ rfl
  simp [Value.cells, Try.cells3, Try.cells26, Try.cells22] at f0 f1 f2 f3 f4
  simp only [Prod.mk.injEq] at hy
  have hd : d = .agg [y0.1, y1.1, y2.1, y3.1, y4.1] := by simpa using hy.1
  subst hd
  obtain ⟨fa, fn, fc, fs, rfl, hfs⟩ := open_st f0 (hw.field Try.underlying41 (j := 0) (ft := 26) (by simp) (by simp))
  obtain ⟨pa, pn, pc, Q, rfl, hQ⟩ := open_rs f1 (hw.field Try.underlying41 (j := 1) (ft := 22) (by simp) (by simp))
  obtain ⟨i2, e2, _⟩ := DataW.trod_int Try.underlying3 f2
  obtain ⟨i3, e3, _⟩ := DataW.trod_int Try.underlying3 f3
  obtain ⟨ma, mn, mc, ms, rfl, hms⟩ := open_st f4 (hw.field Try.underlying41 (j := 4) (ft := 26) (by simp) (by simp))
  simp at e2 e3
  subst e2 e3
  exact ⟨fa, fn, fc, fs, pa, pn, pc, Q, i2, i3, ma, mn, mc, ms, rfl, hfs, hQ, hms⟩
/-- a slice of slices of numbers, with its capacity -/
theorem open_rsc {fuel : Nat} {v : Value} {x : DataW H × List MemPlace} (h : DataW.trod enc Try.prog w base spare held fuel 22 [v] = some x) (hw : Wt 22 x.1) : ∃ a n c L, v = .slice a n c ∧ RowsAt w a n L ∧ n ≤ c := by
  obtain ⟨a, n, c, L, rfl, hL⟩ := open_rs h hw
  refine ⟨a, n, c, L, rfl, hL, ?_⟩
  rcases open_slice Try.underlying22 h with ⟨hcs, _⟩ | ⟨a', len, cap, m, k, D, Pl, hcs, _, hl, _⟩
  · simp at hcs; omega
  · simp at hcs; omega

set_option maxRecDepth 100000 in
/-- a journey, with the capacity of its plan -/
theorem open_jn2 {r : Reach} {b0 : Nat} {v : Value} {d : DataW H} {p : List MemPlace} (hv : Value.okWide Try.prog w r b0 41 v) (h : DataW.Trod enc Try.prog w base spare held 41 v d p) (hw : Wt 41 d) :
    ∃ fa fn fc fs pa pn pc Q bu dn ma mn mc ms, v = .agg #[.slice fa fn fc, .slice pa pn pc, .int .i64 bu, .int .i64 dn, .slice ma mn mc] ∧ Ints w fa fn fs ∧ RowsAt w pa pn Q ∧ Ints w ma mn ms ∧ pn ≤ pc := by
  obtain ⟨cs, rfl, hsz⟩ := okWide_struct Try.underlying41 hv
  obtain ⟨l⟩ := cs
  obtain ⟨v0, v1, v2, v3, v4, rfl⟩ := five (hsz.trans Try.cells41)
  obtain ⟨fuel, hf⟩ := h
  obtain ⟨ys, n, _, hy, _, hlen, hg⟩ := DataW.trod_struct Try.underlying41 hf
  obtain ⟨y0, y1, y2, y3, y4, rfl⟩ := five (by simpa using hlen)
  have f0 := hg 0 _ rfl
  have f1 := hg 1 _ rfl
  have f2 := hg 2 _ rfl
  have f3 := hg 3 _ rfl
  have f4 := hg 4 _ rfl
  simp [Value.cells, Try.cells3, Try.cells26, Try.cells22] at f0 f1 f2 f3 f4
  simp only [Prod.mk.injEq] at hy
  have hd : d = .agg [y0.1, y1.1, y2.1, y3.1, y4.1] := by simpa using hy.1
  subst hd
  obtain ⟨fa, fn, fc, fs, rfl, hfs⟩ := open_st f0 (hw.field Try.underlying41 (j := 0) (ft := 26) (by simp) (by simp))
  obtain ⟨pa, pn, pc, Q, rfl, hQ, hpc⟩ := open_rsc f1 (hw.field Try.underlying41 (j := 1) (ft := 22) (by simp) (by simp))
  obtain ⟨i2, e2, _⟩ := DataW.trod_int Try.underlying3 f2
  obtain ⟨i3, e3, _⟩ := DataW.trod_int Try.underlying3 f3
  obtain ⟨ma, mn, mc, ms, rfl, hms⟩ := open_st f4 (hw.field Try.underlying41 (j := 4) (ft := 26) (by simp) (by simp))
  simp at e2 e3
  subst e2 e3
  exact ⟨fa, fn, fc, fs, pa, pn, pc, Q, i2, i3, ma, mn, mc, ms, rfl, hfs, hQ, hms, hpc⟩
end
end Go.Proofs.Ytlilojpnhmfnaaa
