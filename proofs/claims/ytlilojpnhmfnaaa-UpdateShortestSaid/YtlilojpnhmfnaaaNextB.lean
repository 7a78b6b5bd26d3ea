/- The closure of states: appending in place. -/
import Derived.Test.YtlilojpnhmfnaaaNext
namespace Go.Proofs.Ytlilojpnhmfnaaa
set_option linter.unusedVariables false
open Go.RowKit

theorem wp_append_room {P : Program} {w : World} {o : Oper} {a : Act} {K : Act → World → Prop} {Q : Exit → Act → World → Prop} (s x : Operand) (t e : TypeId) (i : TypeInfo)
    (ho : o.op = .call { callee := .builtin .append, args := #[s, x], argTypes := #[t, t] }) (ht : P.underlying t = some (.slice e)) (hi : P.info? e = some i) (g sLen sCap : Nat) (cur : Array Value)
    (hs : a.eval s = .slice (some ⟨g, 0, none⟩) sLen sCap) (hg : w.heap[g]? = some (.cells cur e (0, 0))) (ad : Addr) (m c : Nat) (news : List Value) (hx : a.eval x = .slice (some ad) m c)
    (hl : news.length = m * i.size) (hnews : ∀ j u, news[j]? = some u → w.cell? (ad.add j) = some u) (h1 : ∀ u ∈ news, u.oneCell' = true) (hroom : sLen + m ≤ sCap) (hfit : sLen * i.size + news.length ≤ cur.size)
    (h : K (a.put o.dst (.slice (some ⟨g, 0, none⟩) (sLen + m) sCap)) (w.setRow g (cur.toList.take (sLen * i.size) ++ news ++ cur.toList.drop (sLen * i.size + news.length)).toArray)) : o.wp P a w K Q := by
  have hrun := run_append_room (P := P) w t o.type e i ht hi g sLen sCap cur hg ad m c news hl hnews h1 hroom hfit
  unfold Oper.wp execOp
  simp only [ho, resolve, invoke, builtin, Sem.run_bind, Sem.run_pure, Result.andThen_ok, List.map_toArray, List.map_cons, List.map_nil, hs, hx, hrun]
  exact h

theorem setRow_only {w : World} {g : Nat} {cur arr : Array Value} {e : TypeId} (hg : w.heap[g]? = some (.cells cur e (0, 0))) : Only (fun b => b = g) w (w.setRow g arr) ∧ (w.setRow g arr).heap[g]? = some (.cells arr e (0, 0)) := by
  refine ⟨⟨rfl, rfl, rfl, by simp [World.setRow], fun b _ hne => ?_⟩, ?_⟩
  · simp [World.setRow, Array.getElem?_modify, Ne.symm hne]
  · simp [World.setRow, Array.getElem?_modify, hg]

/-- one more number in the buffer -/
theorem Buf.push {q : NP} {W : World} {pre : List Int} {v : Int} (h : Buf q W pre) (hlt : pre.length < q.n) :
    ∃ cur : Array Value, W.heap[q.p]? = some (.cells cur 3 (0, 0)) ∧ cur.size = q.n ∧ (cur.toList.take (pre.length * 1) ++ [Value.int .i64 v] ++ cur.toList.drop (pre.length * 1 + 1)).toArray = ((pre ++ [v]).map (Value.int .i64) ++ cur.toList.drop (pre.length + 1)).toArray := by
  obtain ⟨rest, hb, hl⟩ := h
  refine ⟨_, hb, by simp; omega, ?_⟩
  congr 1
  simp

theorem Buf.shorten {q : NP} {W : World} {pre : List Int} {v : Int} (h : Buf q W (pre ++ [v])) : Buf q W pre := by
  obtain ⟨rest, hb, hl⟩ := h
  refine ⟨.int .i64 v :: rest, ?_, ?_⟩
  · rw [hb]; simp
  · simp at hl ⊢; omega
end Go.Proofs.Ytlilojpnhmfnaaa
