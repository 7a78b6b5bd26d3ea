/- Several texts of this claim in one file. (1) An argument that came in: a journey, read off its data. (2) Arguments that came in: packets and a batch, read off their data. (3) Arguments that came in: two states in a row; a budget, a secret, parked times and a text. Nothing of the program is proved here. -/
import Derived.Test.YtaidcocjcidggaaBd1
import Derived.Test.YtaidcocjcidggaaBd6
import Derived.WideKeyArr2
namespace Go.Proofs.Ytaidcocjcidggaa
set_option linter.unusedSimpArgs false
set_option linter.unusedVariables false
section
open Go.ChangeShapes Go.WideShapes Go.RowKit Go.Deep Go.Joins
section
variable {H : Type} {enc : TypeId × Value → H} {w : World} {base : Nat} {spare : Nat → Bool} {held : Bool}




end
end
section
open Go.ChangeShapes Go.WideShapes Go.RowKit Go.Deep Go.Joins
section
variable {H : Type} {enc : TypeId × Value → H} {w : World} {base : Nat} {spare : Nat → Bool} {held : Bool}



end
end
section
set_option linter.unusedVariables false
open Go.ChangeShapes Go.WideShapes Go.RowKit Go.Deep Go.Joins
section
variable {H : Type} {enc : TypeId × Value → H} {w : World} {base : Nat} {spare : Nat → Bool} {held : Bool}
theorem Try.cells69 : Try.prog.cellsOf 69 = 2 := by kernel_rfl
theorem Wt.arr {t e n : Nat} {parts : List (DataW H)} (hs : Try.prog.underlying t = some (.array n e)) (h : Wt t (.agg parts)) {d : DataW H} (hd : d ∈ parts) : Wt e d := fun x hx =>
  h x (by simp only [DataW.weights, hs]; exact weights_all hd x hx)
set_option maxRecDepth 100000 in
theorem open_s2 {r : Reach} {b0 : Nat} {v : Value} {d : DataW H} {p : List MemPlace} (hv : Value.okWide Try.prog w r b0 69 v) (h : DataW.Trod enc Try.prog w base spare held 69 v d p) (hw : Wt 69 d) :
    ∃ a n c b m k xs ys, v = .agg #[.slice a n c, .slice b m k] ∧ Ints w a n xs ∧ Ints w b m ys := by
  have hu : Try.prog.underlying 69 = some (.array 2 26) := by kernel_rfl
  simp only [Value.okWide, hu] at hv
  obtain ⟨cs, rfl, hsz, _⟩ := hv
  rw [Try.cells69] at hsz
  obtain ⟨fuel, hf⟩ := h
  cases fuel with
  | zero => simp [DataW.trod] at hf
  | succ m =>
    rw [DataW.trod_step] at hf
    unfold DataW.trodStep at hf
    simp only [hu, Value.cells] at hf
    rw [if_pos (by rw [Try.cells69]; simpa using hsz)] at hf
    simp only [Option.map_eq_some_iff] at hf
    obtain ⟨yl, hy, e1⟩ := hf
    obtain ⟨l⟩ := cs
    match l, hsz with
    | [x0, x1], _ =>
      simp only [Try.cells26, List.range_succ, List.range_zero, List.nil_append, List.cons_append, List.mapM_cons, List.mapM_nil, bind, Option.bind_eq_some_iff, pure, Option.some.injEq] at hy
      obtain ⟨y0, h0, ys2, ⟨y1, h1, e3, e4, e5⟩, e6⟩ := hy
      subst e4 e5 e6
      simp only [Prod.mk.injEq] at e1
      have hd : d = .agg [y0.1, y1.1] := by rw [← e1.1]; rfl
      subst hd
      obtain ⟨a, n, c, xs, e7, hx⟩ := open_st (v := x0) h0 (hw.arr hu (by simp))
      obtain ⟨b, m2, k, ys, e8, hy2⟩ := open_st (v := x1) h1 (hw.arr hu (by simp))
      subst e7 e8
      exact ⟨a, n, c, b, m2, k, xs, ys, rfl, hx, hy2⟩
set_option maxRecDepth 100000 in
theorem open_pkg {r : Reach} {b0 : Nat} {v : Value} {d : DataW H} {p : List MemPlace} (hv : Value.okWide Try.prog w r b0 71 v) (h : DataW.Trod enc Try.prog w base spare held 71 v d p) (hw : Wt 71 d) :
    ∃ bu se ma mn mc ms data, v = .agg #[.int .i64 bu, .int .i64 se, .slice ma mn mc, .string data] ∧ Ints w ma mn ms ∧ data.size < 1152921504606846976 := by
  obtain ⟨v0, v1, v2, v3, y0, y1, y2, y3, n, rfl, rfl, _, h0, h1, h2, h3⟩ := open_agg4 Try.underlying71 (by kernel_rfl) (by kernel_rfl) hv h
  obtain ⟨i0, e0, _⟩ := DataW.trod_int Try.underlying3 h0
  obtain ⟨i1, e1, _⟩ := DataW.trod_int Try.underlying3 h1
  obtain ⟨ma, mn, mc, ms, rfl, hms⟩ := open_st h2 (hw.field Try.underlying71 (j := 2) (ft := 26) (by simp) (by simp))
  obtain ⟨s3, e3, hx3, _⟩ := DataW.trod_string Try.underlying9 h3
  simp at e0 e1 e3
  subst e0 e1 e3
  refine ⟨i0, i1, ma, mn, mc, ms, s3, rfl, hms, ?_⟩
  have hw3 : Wt 9 y3.1 := hw.field Try.underlying71 (j := 3) (ft := 9) (by simp) (by simp)
  rw [hx3] at hw3
  have := hw3 s3.data.toList.length (by simp [DataW.weights])
  simp [reachBytes] at this
  omega
end
end
end Go.Proofs.Ytaidcocjcidggaa
