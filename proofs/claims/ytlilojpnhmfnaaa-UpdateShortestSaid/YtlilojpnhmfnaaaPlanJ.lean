/- Contract: Plan. -/
import Derived.Test.YtlilojpnhmfnaaaPlanI
namespace Go.Proofs.Ytlilojpnhmfnaaa
open Go.RowKit

theorem plan_any (ta ca a b : Option Addr) (tn tc cn cc n c m d : Nat) (f : Fl) (xs ys : List Int) (bu : Int) (w : World) (hf : FlAt w ta tn ca cn f) (hx : Ints w a n xs) (hy : Ints w b m ys) :
    Calls Try.prog 17 #[.agg #[.slice ta tn tc, .slice ca cn cc], .slice a n c, .slice b m d, .int .i64 bu] w (PlanPost w (planV f xs ys bu) (planE f xs ys bu)) := by
  by_cases he : plannedE f xs ys bu = 0
  · obtain ⟨hb, _, _⟩ := plannedE_ok he
    obtain ⟨_, hsx, hsy⟩ := beginE_ok hb
    obtain rfl : n = m := by rw [← hx.len, ← hy.len, hsx.len, hsy.len]
    exact plan_good ta ca a b tn tc cn cc n c d f xs ys bu w hf hx hy he
  · have h1 : planE f xs ys bu = plannedE f xs ys bu := by unfold planE; rw [if_neg he]
    have h2 : planV f xs ys bu = [] := by unfold planV; rw [h1, if_neg he]
    rw [h1, h2]
    exact plan_bad ta ca a b tn tc cn cc n c m d f xs ys bu w hf hx hy he
end Go.Proofs.Ytlilojpnhmfnaaa
