/- Several texts of this claim in one file. (1) Bytes, strings and packets of a call's own. (2) Contract: Install. (3) Plain law: a byte that turns turns the tag; what one packet installs. No program in sight. (4) Contract: the reference's Install. -/
import Derived.Test.YtlilojpnhmfnaaaBd8
import Derived.Laws.IdiomStrings
import Derived.Test.YtlilojpnhmfnaaaBd7
import Derived.Test.YtlilojpnhmfnaaaBd3
import Derived.Test.YtlilojpnhmfnaaaBd6
namespace Go.Proofs.Ytlilojpnhmfnaaa
section
open Go.RowKit

/-- a block whose first cells are bytes -/
def OwnBy (W : World) (b : Nat) (l : List UInt8) : Prop := b < W.heap.size ∧ ∀ j (hj : j < l.length), W.cell? ⟨b, j, none⟩ = some (.int .u8 ((l[j]).toNat : Int)) ∧ W.frozen? ⟨b, j, none⟩ = false
theorem OwnBy.only {S : Nat → Prop} {W W' : World} {b : Nat} {l : List UInt8} (h : OwnBy W b l) (g : Only S W W') (hs : ¬ S b) : OwnBy W' b l := by
  refine ⟨Nat.lt_of_lt_of_le h.1 g.size, fun j hj => ⟨g.cell (h.2 j hj).1 hs, ?_⟩⟩
  have := (h.2 j hj).2
  have hb := g.block b h.1 hs
  unfold World.frozen? at this ⊢
  simp only at this ⊢
  rw [hb]; exact this
theorem OwnBy.gr {W W' : World} {b : Nat} {l : List UInt8} (h : OwnBy W b l) (g : Gr W W') : OwnBy W' b l := h.only (g.only (fun _ => False)) (fun h => h)
theorem OwnBy.at {W : World} {b : Nat} {l : List UInt8} (h : OwnBy W b l) {j : Nat} (hj : j < l.length) : W.cell? ⟨b, j, none⟩ = some (.int .u8 (((l[j]?.getD 0).toNat : Nat) : Int)) := by
  rw [(h.2 j hj).1]; simp [hj]
/-- '[]byte(s)' -/
theorem bytes_of (s : ByteArray) (W : World) : ∃ c W', (convert 9 66 (.string s)).run Try.prog W = .ok (.slice (some ⟨W.heap.size, 0, none⟩) s.size c) W' ∧ OwnBy W' W.heap.size s.data.toList ∧ Gr W W' := by
  have h := run_bytes_of_string (P := Try.prog) W 9 66 5 s Try.underlying9 Try.underlying66 Try.underlying5
  refine ⟨_, _, h, ⟨by simp, fun j hj => ?_⟩, (Gr.drew _).allocR _⟩
  have hj' : j < s.data.size := by simpa using hj
  have e0 : W.heap.size = W.drew.heap.size := rfl
  constructor
  · rw [e0, World.cell?_alloc_mark, bytesRow_at s _ j hj']
    simp
  · rw [e0, World.frozen?_alloc_mark]
    have : ¬ (bytesRow s (grownCap W s.size 0 5)).size ≤ j := by
      have : s.data.size ≤ (bytesRow s (grownCap W s.size 0 5)).size := by simp [bytesRow]
      omega
    simp [this]
/-- 'string(b)' -/
theorem string_of {W : World} {b c n : Nat} {l : List UInt8} (h : OwnBy W b l) (hn : l.length = n) : (convert 66 9 (.slice (some ⟨b, 0, none⟩) n c)).run Try.prog W = .ok (.string ⟨l.toArray⟩) W := by
  subst hn
  exact run_convert_bytes_back W 66 9 5 ⟨b, 0, none⟩ c l Try.underlying66 Try.underlying5 Try.underlying9 (fun j hj => by rw [addr_add0]; exact (h.2 j hj).1)
theorem Try.siz5 (w : World) : (sizeOf 5).run Try.prog w = .ok 1 w := by kernel_rfl
theorem Try.agg5 (w : World) : (isAgg 5).run Try.prog w = .ok false w := by kernel_rfl
theorem Try.agg66 (w : World) : (isAgg 66).run Try.prog w = .ok false w := by kernel_rfl
theorem Try.siz66 (w : World) : (sizeOf 66).run Try.prog w = .ok 1 w := by kernel_rfl
/-- a byte that is written -/
theorem OwnBy.st {W : World} {b j : Nat} {l : List UInt8} (h : OwnBy W b l) (hj : j < l.length) (z : Int) (h0 : 0 ≤ z) (h1 : z < 256) :
    ∃ W', (Instr.storeAt 5 (.pointer (some ⟨b, j, none⟩)) (.int .u8 z)).run Try.prog W = .ok () W' ∧ OwnBy W' b (l.set j (UInt8.ofNat z.toNat)) ∧ Only (fun x => x = b) W W' := by
  refine ⟨_, Y.st1 (Try.siz5 _) rfl rfl (h.2 j hj).1 (h.2 j hj).2, ⟨by simpa [World.setCell] using h.1, fun k hk => ?_⟩, Y.set_only _ _ _ _⟩
  have hk' : k < l.length := by simpa using hk
  constructor
  · by_cases e : k = j
    · subst e
      rw [World.cell?_setCell_same' _ _ _ (by rw [(h.2 k hj).1]; rfl)]
      have h3 : z.toNat % 256 = z.toNat := Nat.mod_eq_of_lt (by omega)
      simp only [List.getElem_set_self, UInt8.toNat_ofNat', Nat.reducePow, h3]
      congr 2
      omega
    · have h2 := (h.2 k hk').1
      rw [show (l.set j (UInt8.ofNat z.toNat))[k] = l[k] from List.getElem_set_ne (Ne.symm e) _]
      have : (W.setCell ⟨b, j, none⟩ (.int .u8 z)).cell? ⟨b, k, none⟩ = W.cell? ⟨b, k, none⟩ := by
        apply World.cell?_setCell_other
        simp [Ne.symm e, e]
      rw [this]; exact h2
  · have := (h.2 k hk').2
    simpa using this

theorem X.remI {P : Program} {W : World} {t : TypeId} (_hu : P.underlying t = some (.int .i64)) {x y : Operand} {p q z : Int} (hz : Int.tmod p q = z) (h0 : 0 < q) (_h1 : (0 : Int) ≤ 0) : (do eqGuard .rem t x y (.int .i64 p) (.int .i64 q); binOp .rem t (.int .i64 p) (.int .i64 q) : Sem Value).run P W = .ok (.int .i64 z) W := by
  have hne : ¬ q = 0 := by omega
  subst hz
  simp [eqGuard, binOp, Op.intDiv, go_sem, hne]
theorem tmod_bd {p q : Int} (h : 0 < q) : -q < Int.tmod p q ∧ Int.tmod p q < q := by
  refine ⟨?_, Int.tmod_lt_of_pos _ h⟩
  by_cases h0 : 0 ≤ p
  · have := Int.tmod_nonneg q h0; omega
  · have h1 : Int.tmod p q = - Int.tmod (-p) q := by rw [Int.neg_tmod]; omega
    have := Int.tmod_lt_of_pos (-p) h
    omega
theorem tmod_in {p q : Int} (h : 0 < q) (h0 : 0 ≤ p) : 0 ≤ Int.tmod p q ∧ Int.tmod p q < q := ⟨Int.tmod_nonneg q h0, Int.tmod_lt_of_pos _ h⟩
/-- the exclusive or of two bytes -/
def xorV (p q : Int) : Int := ((BitVec.ofInt 8 p ^^^ BitVec.ofInt 8 q).toNat : Int)
theorem xorV_bd (p q : Int) : 0 ≤ xorV p q ∧ xorV p q < 256 := by
  have := (BitVec.ofInt 8 p ^^^ BitVec.ofInt 8 q).isLt
  unfold xorV
  omega
theorem xorV_ne {p q : Int} (hp : 0 ≤ p ∧ p < 256) (hq : 1 ≤ q ∧ q < 256) : xorV p q ≠ p := by
  intro h
  have h1 : (BitVec.ofInt 8 p).toNat = p.toNat := by
    rw [BitVec.toNat_ofInt]
    omega
  have h2 : (BitVec.ofInt 8 q).toNat = q.toNat := by
    rw [BitVec.toNat_ofInt]
    omega
  have h3 : BitVec.ofInt 8 p ^^^ BitVec.ofInt 8 q = BitVec.ofInt 8 p := by
    apply BitVec.eq_of_toNat_eq
    unfold xorV at h
    omega
  have h4 : BitVec.ofInt 8 q = 0#8 := by
    have : BitVec.ofInt 8 p ^^^ (BitVec.ofInt 8 p ^^^ BitVec.ofInt 8 q) = BitVec.ofInt 8 p ^^^ BitVec.ofInt 8 p := by rw [h3]
    rw [← BitVec.xor_assoc, BitVec.xor_self, BitVec.zero_xor] at this
    exact this
  rw [h4] at h2
  simp at h2
  omega
theorem xor_byte_ne (b : UInt8) {z : Int} (hz : 1 ≤ z ∧ z < 256) : UInt8.ofNat (xorV (b.toNat : Nat) z).toNat ≠ b := by
  intro h
  have h1 := congrArg UInt8.toNat h
  have h2 := xorV_bd (b.toNat : Nat) z
  have h3 := b.toNat_lt
  have h4 := xorV_ne (p := (b.toNat : Nat)) (q := z) (by omega) hz
  have h5 : (xorV (b.toNat : Nat) z).toNat % 256 = (xorV (b.toNat : Nat) z).toNat := Nat.mod_eq_of_lt (by omega)
  rw [UInt8.toNat_ofNat'] at h1
  simp only [Nat.reducePow, h5] at h1
  omega
theorem X.xorB {P : Program} {W : World} {t : TypeId} (_hu : P.underlying t = some (.int .u8)) {x y : Operand} {p q : Int} : (do eqGuard .xor t x y (.int .u8 p) (.int .u8 q); binOp .xor t (.int .u8 p) (.int .u8 q) : Sem Value).run P W = .ok (.int .u8 (xorV p q)) W := by
  have h := xorV_bd p q
  have hw : IntKind.u8.wrap (xorV p q) = xorV p q := by
    simp [IntKind.wrap, IntKind.bits, IntKind.signed]
    omega
  unfold xorV at hw ⊢
  simp [eqGuard, binOp, Op.intBits, go_sem, IntKind.bits]
  refine Eq.trans hw ?_
  simp
theorem Y.cv {P : Program} {W W' : World} {o : Oper} {ρ : Operand → Value} {s t : TypeId} {x : Operand} {p v : Value} (ho : o.op = .convert s t x) (hx : ρ x = p) (hr : (convert s t p).run P W = .ok v W') : (execOp ρ o).run P W = .ok (.value v) W' := by
  unfold execOp; rw [ho]; simp only [hx]; exact X.run_v hr
set_option maxRecDepth 100000 in
theorem Try.cv35 (z : Int) (W : World) (h : 0 ≤ z ∧ z < 256) : (convert 3 5 (.int .i64 z)).run Try.prog W = .ok (.int .u8 z) W := by
  have h1 := run_convert_int (P := Try.prog) W 3 5 .i64 z (by rw [Try.underlying3]; rfl) (by rw [Try.underlying5]; rfl)
  have h2 : Try.prog.intKind 5 = .u8 := by kernel_rfl
  rw [h2] at h1
  rw [h1]
  have hw : IntKind.u8.wrap z = z := by
    simp [IntKind.wrap, IntKind.bits, IntKind.signed]
    omega
  rw [hw]
theorem Y.lenS {P : Program} {W : World} {o : Oper} {ρ : Operand → Value} {x : Operand} {tx : TypeId} {s : ByteArray} (hu : P.underlying tx = some .string) (ho : o.op = .call { callee := .builtin .len, args := #[x], argTypes := #[tx] }) (hx : ρ x = .string s) : (execOp ρ o).run P W = .ok (.value (.int .i64 (s.size : Nat))) W := by
  unfold execOp; rw [ho]; simp [hx, resolve, invoke, builtin, Builtin.len_, run_underlying hu, go_sem]
/-- four cells -/
def lv4 (a b c d : Value) (k : Nat) : Value := if k = 0 then a else if k = 1 then b else if k = 2 then c else d
theorem lv4_new {W : World} {b : Nat} {t : TypeId} {x0 x1 x2 x3 : Value} (h : W.heap[b]? = some (.cells #[x0, x1, x2, x3] t)) : Y.Own W b 4 (lv4 x0 x1 x2 x3) := Y.Own.new h rfl (fun k hk => by
  have : k = 0 ∨ k = 1 ∨ k = 2 ∨ k = 3 := by omega
  rcases this with rfl | rfl | rfl | rfl <;> rfl)
theorem lv4_one {W' : World} {b k : Nat} {x0 x1 x2 x3 v y0 y1 y2 y3 : Value} (h : Y.Own W' b 4 (fun j => if j = k then v else lv4 x0 x1 x2 x3 j)) (h0 : (if 0 = k then v else x0) = y0) (h1 : (if 1 = k then v else x1) = y1) (h2 : (if 2 = k then v else x2) = y2) (h3 : (if 3 = k then v else x3) = y3) : Y.Own W' b 4 (lv4 y0 y1 y2 y3) :=
  h.congr (fun j hj => by
    have : j = 0 ∨ j = 1 ∨ j = 2 ∨ j = 3 := by omega
    subst h0 h1 h2 h3
    rcases this with rfl | rfl | rfl | rfl <;> rfl)
theorem lv4_st {P : Program} {W : World} {b : Nat} {t : TypeId} {x0 x1 x2 x3 y0 y1 y2 y3 : Value} (h : Y.Own W b 4 (lv4 x0 x1 x2 x3)) (hS : (sizeOf t).run P W = .ok 4 W) (k0 : y0.oneCell' = true) (k1 : y1.oneCell' = true) (k2 : y2.oneCell' = true) (k3 : y3.oneCell' = true) :
    ∃ W', (Instr.storeAt t (.pointer (some ⟨b, 0, none⟩)) (.agg #[y0, y1, y2, y3])).run P W = .ok () W' ∧ Y.Own W' b 4 (lv4 y0 y1 y2 y3) ∧ Only (fun x => x = b) W W' := by
  have h0 := h.set (k := 0) y0
  have h1 := h0.set (k := 1) y1
  have h2 := h1.set (k := 2) y2
  have h3 := h2.set (k := 3) y3
  refine ⟨_, ?_, h3.congr (fun j hj => by
    have : j = 0 ∨ j = 1 ∨ j = 2 ∨ j = 3 := by omega
    rcases this with rfl | rfl | rfl | rfl <;> rfl), (((Y.set_only _ _ _ _).trans (Y.set_only _ _ _ _)).trans (Y.set_only _ _ _ _)).trans (Y.set_only _ _ _ _)⟩
  have c0 := h.cell (k := 0) (by omega)
  have f0 := h.fz 0
  have c1 := h0.cell (k := 1) (by omega)
  have f1 := h0.fz 1
  have c2 := h1.cell (k := 2) (by omega)
  have f2 := h1.fz 2
  have c3 := h2.cell (k := 3) (by omega)
  have f3 := h2.fz 3
  have e0 : (⟨b, 0, none⟩ : Addr).add 0 = ⟨b, 0, none⟩ := rfl
  have e1 : (⟨b, 0, none⟩ : Addr).add 1 = ⟨b, 1, none⟩ := rfl
  have e2 : (⟨b, 0, none⟩ : Addr).add 2 = ⟨b, 2, none⟩ := rfl
  have e3 : (⟨b, 0, none⟩ : Addr).add 3 = ⟨b, 3, none⟩ := rfl
  simp [Instr.storeAt, storeVar, Instr.sureAddr, hS, storeCells, Value.cells, run_store, k0, k1, k2, k3, go_sem, e0, e1, e2, e3, c0, f0, c1, f1, c2, f2, c3, f3]
/-- one packet in a new block -/
theorem pk1 {W : World} {b : Nat} {c v tg : Int} {data : ByteArray} (h : W.heap[b]? = some (.cells #[.int .i64 c, .int .i64 v, .string data, .int .i64 tg] 46)) (hd : data.size < 1152921504606846976) : PkAt W (some ⟨b, 0, none⟩) 1 [⟨c, v, data, tg⟩] := by
  refine ⟨rfl, by omega, fun j hj => ?_⟩
  obtain rfl : j = 0 := by omega
  exact ⟨_, rfl, (Array.getElem?_eq_some_iff.1 h).1, hd, cell_at h rfl, cell_at h rfl, cell_at h rfl, cell_at h rfl⟩
end
section
open Go.RowKit

theorem drop_atP {P : List Pk} {k : Nat} (h : k < P.length) : P.drop k = (P[k]?.getD default) :: P.drop (k + 1) := by
  rw [List.drop_eq_getElem_cons h]; simp [h]
theorem take_atP {P : List Pk} {k : Nat} (h : k < P.length) : P.take (k + 1) = P.take k ++ [P[k]?.getD default] := by
  rw [List.take_succ_eq_append_getElem h]; simp [h]
theorem accept_ver {f : Fl} {s c v tg : Int} {data : ByteArray} (h : acceptE f s c v data tg = 0) : verB f.times c v = true := by
  unfold acceptE at h
  split at h
  · split at h
    · assumption
    · omega
  · omega
theorem stOk_set {f : Fl} {cur : List Int} {c v : Int} (h : StOk f cur) (hv : verB f.times c v = true) : StOk f (cur.set c.toNat v) := by
  have hb := verB_in hv
  refine ⟨by simp [h.len], fun j hj => ?_⟩
  have hl := h.len
  by_cases e : j = c.toNat
  · subst e
    have : c.toNat < cur.length := by omega
    simp [List.getElem?_set, this]
    omega
  · rw [List.getElem?_set_ne (Ne.symm e)]
    exact h.ver j hj

set_option maxRecDepth 100000 in
set_option maxHeartbeats 4000000 in
theorem install_any (ta ca a pa : Option Addr) (tn tc cn cc n c ln lc : Nat) (f : Fl) (se : Int) (xs : List Int) (P : List Pk) (w : World) (hf : FlAt w ta tn ca cn f) (hx : Ints w a n xs) (hP : PkAt w pa ln P) (hpc : ln ≤ lc) :
    Calls Try.prog 34 #[.agg #[.slice ta tn tc, .slice ca cn cc], .int .i64 se, .slice a n c, .slice pa ln lc] w (InstPost w (instR f se xs P)) := by
  have g := Gr.alloc w (.cells #[.slice ta tn tc, .slice ca cn cc] 25)
  have hC : RCells (w.alloc (.cells #[.slice ta tn tc, .slice ca cn cc] 25)) [(⟨w.heap.size, 0, none⟩, .slice ta tn tc), (⟨w.heap.size, 1, none⟩, .slice ca cn cc)] := (RCells.nil w).box (b := w.heap.size) #[.slice ta tn tc, .slice ca cn cc] 25 rfl
  obtain ⟨w2, hw2⟩ : ∃ w2, w.alloc (.cells #[.slice ta tn tc, .slice ca cn cc] 25) = w2 := ⟨_, rfl⟩
  rw [hw2] at g hC
  have G := g
  replace hf := hf.gr g
  replace hx := hx.gr g
  replace hP := hP.gr g
  clear g
  have c0 : w2.cell? (⟨w.heap.size, 0, none⟩) = some (.slice ta tn tc) := hC.at 0 rfl
  have c1 : w2.cell? (⟨w.heap.size, 1, none⟩) = some (.slice ca cn cc) := hC.at 1 rfl
  have HPL : Hid (P.length = ln) := Lib.hid hP.len
  have hpl := hP.lt
  go_enter Try.func34, Try.ntmps34
  have g := Gr.alloc w2 (.cells #[.slice a n c] 26)
  have hb := heap_alloc_new w2 (.cells #[.slice a n c] 26)
  have hbl : w2.heap.size < (w2.alloc (.cells #[.slice a n c] 26)).heap.size := by simp
  obtain ⟨w4, hww4⟩ : ∃ w0, w2.alloc (.cells #[.slice a n c] 26) = w0 := ⟨_, rfl⟩
  rw [hww4] at g hb hbl
  replace G := G.trans g
  replace hC := hC.gr g
  replace hf := hf.gr g
  replace hx := hx.gr g
  replace hP := hP.gr g
  have c0a4 : w4.cell? (⟨w.heap.size, 0, none⟩) = some (.slice ta tn tc) := hC.at 0 rfl
  have c1a4 : w4.cell? (⟨w.heap.size, 1, none⟩) = some (.slice ca cn cc) := hC.at 1 rfl
  have hR3 := (rows1 (c := c) hbl (cell_at hb rfl) hx : RowsAt w4 (some ⟨w2.heap.size, 0, none⟩) 1 [xs])
  clear g hb hbl
  have HC := Lib.hid (checkStates_any ta ca (some ⟨w2.heap.size, 0, none⟩) tn tc cn cc 1 1 f ([xs]) w4 hf hR3)
  go_wp2_with fail
  refine HC.out.mono ?_
  rintro e w5 ⟨rfl, g⟩
  clear HC
  clear hw2 hww4
  replace G := G.trans g
  replace hC := hC.gr g
  replace hf := hf.gr g
  replace hx := hx.gr g
  replace hP := hP.gr g
  replace hR3 := hR3.gr g
  clear g
  clear c0 c1 c0a4 c1a4
  have c0 : w5.cell? (⟨w.heap.size, 0, none⟩) = some (.slice ta tn tc) := hC.at 0 rfl
  have c1 : w5.cell? (⟨w.heap.size, 1, none⟩) = some (.slice ca cn cc) := hC.at 1 rfl
  by_cases h6 : (statesE f ([xs]) : Int) = 0
  · have h6b : ((statesE f ([xs]) : Int) != 0) = false := by simp [h6]
    have Hh6 := Lib.hid h6
    clear h6
    have hok : FlOk f := chkB_ok (statesE_zero Hh6.out).1
    have hst : StOk f xs := stB_ok (by have := (statesE_zero Hh6.out).2; simpa [stsB] using this)
    have HR : Hid (instR f se xs P = if withinB ln 1 tn then (if (instL f se xs [] P xs).2.1 = 0 then (if worksB f xs && worksB f (instL f se xs [] P xs).2.2 then ((instL f se xs [] P xs).2.2, 0, 0) else ([], 0, 111)) else ([], (instL f se xs [] P xs).1, (instL f se xs [] P xs).2.1)) else ([], 0, 1)) := Lib.hid (by rw [instR, if_pos Hh6.out, hP.len, hf.t.len])
    have hn1 : 0 < n := by have := hok.n1; have := hst.len; have := hx.len; omega
    have hn6 : n ≤ 6 := by have := hok.n6; have := hst.len; have := hx.len; omega
    have HNN : Hid (n = f.times.length) := Lib.hid (by rw [← hst.len, hx.len])
    have HST := Lib.hid hst
    have HC := Lib.hid (within_any ln 1 tn w5)
    go_wp2_with fail
    refine HC.out.mono ?_
    rintro e w' ⟨rfl, rfl⟩
    clear HC
    cases h7 : withinB ln 1 tn with
    | false =>
      have Hh7 := Lib.hid h7
      clear h7
      have HR2 : Hid (instR f se xs P = ([], 0, 1)) := Lib.hid (by rw [HR.out, Hh7.out]; rfl)
      go_wp2_with fail
      go_ret3
      exact ⟨none, 0, 0, by rw [HR2.out]; rfl, by rw [HR2.out]; exact Ints.nil _, G⟩
    | true =>
      have Hh7 := Lib.hid h7
      clear h7
      have HR2 : Hid (instR f se xs P = if (instL f se xs [] P xs).2.1 = 0 then (if worksB f xs && worksB f (instL f se xs [] P xs).2.2 then ((instL f se xs [] P xs).2.2, 0, 0) else ([], 0, 111)) else ([], (instL f se xs [] P xs).1, (instL f se xs [] P xs).2.1)) := Lib.hid (by rw [HR.out, Hh7.out]; rfl)
      have hln : 1 ≤ ln ∧ ln ≤ tn := by have := Hh7.out; simp [withinB] at this; omega
      have hfB := hf
      have hxB := hx
      have hPB := hP
      have hR3B := hR3
      have hCB := hC
      have GB := G
      have HC := Lib.hid (cloneOwn_any a n c xs w5 hx hn1 (by omega))
      go_wp2_with fail
      refine HC.out.mono ?_
      rintro e w9 ⟨g8, cg8, rfl, hge, hgc, hO, g⟩
      have gC := g
      clear HC
      replace G := G.trans g
      replace hC := hC.gr g
      replace hf := hf.gr g
      replace hx := hx.gr g
      replace hP := hP.gr g
      replace hR3 := hR3.gr g
      clear g
      clear c0 c1
      have c0 : w9.cell? (⟨w.heap.size, 0, none⟩) = some (.slice ta tn tc) := hC.at 0 rfl
      have c1 : w9.cell? (⟨w.heap.size, 1, none⟩) = some (.slice ca cn cc) := hC.at 1 rfl
      go_wp2_with fail
      go_loopw [8, 33] (fun v i wr => ∃ (k : Nat) (cur : List Int), k ≤ ln ∧ i = .int .i64 k ∧ v = .slice (some ⟨g8, 0, none⟩) n cg8 ∧ Gr w5 wr ∧ OwnS wr g8 n cur ∧ Hid (StOk f cur) ∧ Hid (instL f se xs (P.take k) (P.drop k) cur = instL f se xs [] P xs)) (fun _ i _ => ln - (intOf i).toNat)
      case atStart => exact ⟨0, xs, Nat.zero_le _, rfl, rfl, gC, hO, HST, Lib.hid (by simp)⟩
      case round =>
        obtain ⟨k, cur, hk, rfl, rfl, gr, hO, HS, HI⟩ := hrel
        replace G := GB.trans gr
        replace hC := hCB.gr gr
        replace hf := hfB.gr gr
        replace hx := hxB.gr gr
        replace hP := hPB.gr gr
        replace hR3 := hR3B.gr gr
        clear c0 c1
        have c0 : wr.cell? (⟨w.heap.size, 0, none⟩) = some (.slice ta tn tc) := hC.at 0 rfl
        have c1 : wr.cell? (⟨w.heap.size, 1, none⟩) = some (.slice ca cn cc) := hC.at 1 rfl
        have GB_ := gr
        clear gr
        have hOi := hO.ints
        by_cases h10 : (k : Int) < ln
        · have hlt : k < ln := by omega
          obtain ⟨pd, hpa, hpb, hds, q0, q1, q2, q3⟩ := hP.at hlt
          subst hpa
          have hdr : Hid (P.drop k = (P[k]?.getD default) :: P.drop (k + 1)) := Lib.hid (drop_atP (by rw [HPL.out]; exact hlt))
          have htk : Hid (P.take (k + 1) = P.take k ++ [P[k]?.getD default]) := Lib.hid (take_atP (by rw [HPL.out]; exact hlt))
          generalize P[k]?.getD default = p at *
          replace hC : RCells wr [(⟨w.heap.size, 0, none⟩, .slice ta tn tc), (⟨w.heap.size, 1, none⟩, .slice ca cn cc), (pd.add (k * 4), .int .i64 p.c), (⟨(pd.add (k * 4)).block, (pd.add (k * 4)).off + 1, none⟩, .int .i64 p.v), (⟨(pd.add (k * 4)).block, (pd.add (k * 4)).off + 2, none⟩, .string p.data), (⟨(pd.add (k * 4)).block, (pd.add (k * 4)).off + 3, none⟩, .int .i64 p.tg)] := hC.append ((RCells.cons q0 (RCells.cons q1 (RCells.cons q2 (RCells.cons q3 (RCells.nil _))))))
          clear c0 c1
          have c0 : wr.cell? (⟨w.heap.size, 0, none⟩) = some (.slice ta tn tc) := hC.at 0 rfl
          have c1 : wr.cell? (⟨w.heap.size, 1, none⟩) = some (.slice ca cn cc) := hC.at 1 rfl
          have c2 : wr.cell? (pd.add (k * 4)) = some (.int .i64 p.c) := hC.at 2 rfl
          have c3 : wr.cell? (⟨(pd.add (k * 4)).block, (pd.add (k * 4)).off + 1, none⟩) = some (.int .i64 p.v) := hC.at 3 rfl
          have c4 : wr.cell? (⟨(pd.add (k * 4)).block, (pd.add (k * 4)).off + 2, none⟩) = some (.string p.data) := hC.at 4 rfl
          have c5 : wr.cell? (⟨(pd.add (k * 4)).block, (pd.add (k * 4)).off + 3, none⟩) = some (.int .i64 p.tg) := hC.at 5 rfl
          clear q0 q1 q2 q3
          have hsl := run_take53 wr (some pd) ln lc k (by omega)
          have hPk := hP.take (d := k) (by omega)
          have g := Gr.alloc wr (.cells #[.int .i64 p.c, .int .i64 p.v, .string p.data, .int .i64 p.tg] 46)
          have hb := heap_alloc_new wr (.cells #[.int .i64 p.c, .int .i64 p.v, .string p.data, .int .i64 p.tg] 46)
          have hbl : wr.heap.size < (wr.alloc (.cells #[.int .i64 p.c, .int .i64 p.v, .string p.data, .int .i64 p.tg] 46)).heap.size := by simp
          obtain ⟨w11, hww11⟩ : ∃ w0, wr.alloc (.cells #[.int .i64 p.c, .int .i64 p.v, .string p.data, .int .i64 p.tg] 46) = w0 := ⟨_, rfl⟩
          have hC2 : RCells (wr.alloc (.cells #[.int .i64 p.c, .int .i64 p.v, .string p.data, .int .i64 p.tg] 46)) [(⟨w.heap.size, 0, none⟩, .slice ta tn tc), (⟨w.heap.size, 1, none⟩, .slice ca cn cc), (pd.add (k * 4), .int .i64 p.c), (⟨(pd.add (k * 4)).block, (pd.add (k * 4)).off + 1, none⟩, .int .i64 p.v), (⟨(pd.add (k * 4)).block, (pd.add (k * 4)).off + 2, none⟩, .string p.data), (⟨(pd.add (k * 4)).block, (pd.add (k * 4)).off + 3, none⟩, .int .i64 p.tg), (⟨wr.heap.size, 0, none⟩, .int .i64 p.c), (⟨wr.heap.size, 1, none⟩, .int .i64 p.v), (⟨wr.heap.size, 2, none⟩, .string p.data), (⟨wr.heap.size, 3, none⟩, .int .i64 p.tg)] := hC.box (b := wr.heap.size) #[.int .i64 p.c, .int .i64 p.v, .string p.data, .int .i64 p.tg] 46 rfl
          rw [hww11] at g hb hbl hC2
          replace G := G.trans g
          replace hC := hC2
          replace GB_ := GB_.trans g
          replace hf := hf.gr g
          replace hx := hx.gr g
          replace hP := hP.gr g
          replace hR3 := hR3.gr g
          replace hO := hO.gr g
          replace hOi := hOi.gr g
          replace hPk := hPk.gr g
          have c0a11 : w11.cell? (⟨w.heap.size, 0, none⟩) = some (.slice ta tn tc) := hC.at 0 rfl
          have c1a11 : w11.cell? (⟨w.heap.size, 1, none⟩) = some (.slice ca cn cc) := hC.at 1 rfl
          have c2a11 : w11.cell? (pd.add (k * 4)) = some (.int .i64 p.c) := hC.at 2 rfl
          have c3a11 : w11.cell? (⟨(pd.add (k * 4)).block, (pd.add (k * 4)).off + 1, none⟩) = some (.int .i64 p.v) := hC.at 3 rfl
          have c4a11 : w11.cell? (⟨(pd.add (k * 4)).block, (pd.add (k * 4)).off + 2, none⟩) = some (.string p.data) := hC.at 4 rfl
          have c5a11 : w11.cell? (⟨(pd.add (k * 4)).block, (pd.add (k * 4)).off + 3, none⟩) = some (.int .i64 p.tg) := hC.at 5 rfl
          have c6a11 : w11.cell? (⟨wr.heap.size, 0, none⟩) = some (.int .i64 p.c) := hC.at 6 rfl
          have c7a11 : w11.cell? (⟨wr.heap.size, 1, none⟩) = some (.int .i64 p.v) := hC.at 7 rfl
          have c8a11 : w11.cell? (⟨wr.heap.size, 2, none⟩) = some (.string p.data) := hC.at 8 rfl
          have c9a11 : w11.cell? (⟨wr.heap.size, 3, none⟩) = some (.int .i64 p.tg) := hC.at 9 rfl
          clear g hb hbl
          have HC := Lib.hid (accept_any ta ca tn tc cn cc f se p.c p.v p.tg p.data w11 hf hds)
          go_wp2_with fail
          refine HC.out.mono ?_
          rintro e w12 ⟨rfl, g⟩
          clear HC
          clear hww11
          replace G := G.trans g
          replace hC := hC.gr g
          replace GB_ := GB_.trans g
          replace hf := hf.gr g
          replace hx := hx.gr g
          replace hP := hP.gr g
          replace hR3 := hR3.gr g
          replace hO := hO.gr g
          replace hOi := hOi.gr g
          replace hPk := hPk.gr g
          clear g
          clear c0 c1 c2 c3 c4 c5 c0a11 c1a11 c2a11 c3a11 c4a11 c5a11 c6a11 c7a11 c8a11 c9a11
          have c0 : w12.cell? (⟨w.heap.size, 0, none⟩) = some (.slice ta tn tc) := hC.at 0 rfl
          have c1 : w12.cell? (⟨w.heap.size, 1, none⟩) = some (.slice ca cn cc) := hC.at 1 rfl
          have c2 : w12.cell? (pd.add (k * 4)) = some (.int .i64 p.c) := hC.at 2 rfl
          have c3 : w12.cell? (⟨(pd.add (k * 4)).block, (pd.add (k * 4)).off + 1, none⟩) = some (.int .i64 p.v) := hC.at 3 rfl
          have c4 : w12.cell? (⟨(pd.add (k * 4)).block, (pd.add (k * 4)).off + 2, none⟩) = some (.string p.data) := hC.at 4 rfl
          have c5 : w12.cell? (⟨(pd.add (k * 4)).block, (pd.add (k * 4)).off + 3, none⟩) = some (.int .i64 p.tg) := hC.at 5 rfl
          have c6 : w12.cell? (⟨wr.heap.size, 0, none⟩) = some (.int .i64 p.c) := hC.at 6 rfl
          have c7 : w12.cell? (⟨wr.heap.size, 1, none⟩) = some (.int .i64 p.v) := hC.at 7 rfl
          have c8 : w12.cell? (⟨wr.heap.size, 2, none⟩) = some (.string p.data) := hC.at 8 rfl
          have c9 : w12.cell? (⟨wr.heap.size, 3, none⟩) = some (.int .i64 p.tg) := hC.at 9 rfl
          by_cases h13 : (acceptE f se p.c p.v p.data p.tg : Int) = 0
          · have h13b : ((acceptE f se p.c p.v p.data p.tg : Int) != 0) = false := by simp [h13]
            have Hh13 := Lib.hid h13
            clear h13
            have hver := accept_ver Hh13.out
            have hv := verB_in hver
            have hcn : p.c.toNat < n := by have := HNN.out; omega
            have hc0 : (0 : Int) ≤ p.c := hv.1
            have hc1 : p.c < (n : Int) := by have := HNN.out; omega
            obtain ⟨sd, hsa, hsb, hsc⟩ := hx.at hcn
            subst hsa
            replace hC : RCells w12 [(⟨w.heap.size, 0, none⟩, .slice ta tn tc), (⟨w.heap.size, 1, none⟩, .slice ca cn cc), (pd.add (k * 4), .int .i64 p.c), (⟨(pd.add (k * 4)).block, (pd.add (k * 4)).off + 1, none⟩, .int .i64 p.v), (⟨(pd.add (k * 4)).block, (pd.add (k * 4)).off + 2, none⟩, .string p.data), (⟨(pd.add (k * 4)).block, (pd.add (k * 4)).off + 3, none⟩, .int .i64 p.tg), (⟨wr.heap.size, 0, none⟩, .int .i64 p.c), (⟨wr.heap.size, 1, none⟩, .int .i64 p.v), (⟨wr.heap.size, 2, none⟩, .string p.data), (⟨wr.heap.size, 3, none⟩, .int .i64 p.tg), (sd.add p.c.toNat, .int .i64 (xs[p.c.toNat]?.getD 0)), (⟨g8, p.c.toNat, none⟩, .int .i64 (cur[p.c.toNat]?.getD 0))] := hC.append ((RCells.cons hsc (RCells.cons (hO.cell hcn) (RCells.nil _))))
            clear c0 c1 c2 c3 c4 c5 c6 c7 c8 c9
            have c0 : w12.cell? (⟨w.heap.size, 0, none⟩) = some (.slice ta tn tc) := hC.at 0 rfl
            have c1 : w12.cell? (⟨w.heap.size, 1, none⟩) = some (.slice ca cn cc) := hC.at 1 rfl
            have c2 : w12.cell? (pd.add (k * 4)) = some (.int .i64 p.c) := hC.at 2 rfl
            have c3 : w12.cell? (⟨(pd.add (k * 4)).block, (pd.add (k * 4)).off + 1, none⟩) = some (.int .i64 p.v) := hC.at 3 rfl
            have c4 : w12.cell? (⟨(pd.add (k * 4)).block, (pd.add (k * 4)).off + 2, none⟩) = some (.string p.data) := hC.at 4 rfl
            have c5 : w12.cell? (⟨(pd.add (k * 4)).block, (pd.add (k * 4)).off + 3, none⟩) = some (.int .i64 p.tg) := hC.at 5 rfl
            have c6 : w12.cell? (⟨wr.heap.size, 0, none⟩) = some (.int .i64 p.c) := hC.at 6 rfl
            have c7 : w12.cell? (⟨wr.heap.size, 1, none⟩) = some (.int .i64 p.v) := hC.at 7 rfl
            have c8 : w12.cell? (⟨wr.heap.size, 2, none⟩) = some (.string p.data) := hC.at 8 rfl
            have c9 : w12.cell? (⟨wr.heap.size, 3, none⟩) = some (.int .i64 p.tg) := hC.at 9 rfl
            have c10 : w12.cell? (sd.add p.c.toNat) = some (.int .i64 (xs[p.c.toNat]?.getD 0)) := hC.at 10 rfl
            have c11 : w12.cell? (⟨g8, p.c.toNat, none⟩) = some (.int .i64 (cur[p.c.toNat]?.getD 0)) := hC.at 11 rfl
            clear hsc
            have HC := Lib.hid (containsFunc74 (some pd) k lc wr.heap.size (P.take k) p.c w12 hPk c6)
            go_wp2_with fail
            refine HC.out.mono ?_
            rintro e w14 ⟨rfl, g⟩
            clear HC
            replace G := G.trans g
            replace hC := hC.gr g
            replace GB_ := GB_.trans g
            replace hf := hf.gr g
            replace hx := hx.gr g
            replace hP := hP.gr g
            replace hR3 := hR3.gr g
            replace hO := hO.gr g
            replace hOi := hOi.gr g
            replace hPk := hPk.gr g
            clear g
            clear c0 c1 c2 c3 c4 c5 c6 c7 c8 c9 c10 c11
            have c0 : w14.cell? (⟨w.heap.size, 0, none⟩) = some (.slice ta tn tc) := hC.at 0 rfl
            have c1 : w14.cell? (⟨w.heap.size, 1, none⟩) = some (.slice ca cn cc) := hC.at 1 rfl
            have c2 : w14.cell? (pd.add (k * 4)) = some (.int .i64 p.c) := hC.at 2 rfl
            have c3 : w14.cell? (⟨(pd.add (k * 4)).block, (pd.add (k * 4)).off + 1, none⟩) = some (.int .i64 p.v) := hC.at 3 rfl
            have c4 : w14.cell? (⟨(pd.add (k * 4)).block, (pd.add (k * 4)).off + 2, none⟩) = some (.string p.data) := hC.at 4 rfl
            have c5 : w14.cell? (⟨(pd.add (k * 4)).block, (pd.add (k * 4)).off + 3, none⟩) = some (.int .i64 p.tg) := hC.at 5 rfl
            have c6 : w14.cell? (⟨wr.heap.size, 0, none⟩) = some (.int .i64 p.c) := hC.at 6 rfl
            have c7 : w14.cell? (⟨wr.heap.size, 1, none⟩) = some (.int .i64 p.v) := hC.at 7 rfl
            have c8 : w14.cell? (⟨wr.heap.size, 2, none⟩) = some (.string p.data) := hC.at 8 rfl
            have c9 : w14.cell? (⟨wr.heap.size, 3, none⟩) = some (.int .i64 p.tg) := hC.at 9 rfl
            have c10 : w14.cell? (sd.add p.c.toNat) = some (.int .i64 (xs[p.c.toNat]?.getD 0)) := hC.at 10 rfl
            have c11 : w14.cell? (⟨g8, p.c.toNat, none⟩) = some (.int .i64 (cur[p.c.toNat]?.getD 0)) := hC.at 11 rfl
            cases h15 : (P.take k).any fun q => q.c == p.c with
            | false =>
              have Hh15 := Lib.hid h15
              clear h15
              go_wp2_with fail
              refine (wpIn_wide (n := 0)).1 ?_
              refine region_inv (F := Fence.wide) (by kernel_rfl) (by rfl) (by decide) (fun _ => trivial)
                (fun done' u W' => Kn [some (.pointer (some ⟨wr.heap.size, 1, none⟩)), some (.int .i64 p.v), some (.slice (some sd) n c), some (.pointer (some ⟨wr.heap.size, 0, none⟩)), some (.int .i64 p.c), some (.pointer (some (sd.add p.c.toNat))), some (.int .i64 (xs[p.c.toNat]?.getD 0)), some (.bool (decide ((p.v : Int) ≤ (xs[p.c.toNat]?.getD 0))))] done' u ∧ Gr w14 W')
                (fun u => ⟨Kn.start _ _, Gr.drew w14⟩) ⟨?_, ?_, ?_, ?_, ?_, ?_, ?_, ?_, trivial⟩ ?_
              · rintro u done' W' hd hanc hclo ⟨hk, hg⟩
                refine op_plain (ro := none) rfl (fun c h => by cases h) fun K hK => ?_
                simp only [fillL, List.setIfInBounds_toArray, List.set_cons_zero, List.set_cons_succ, Nat.zero_add, Nat.reduceAdd] at hK ⊢
                go_simp
                exact hK _ _ ⟨hk.new rfl, hg⟩
              · rintro u done' W' hd hanc hclo ⟨hk, hg⟩
                have e0 := hk.get 0 rfl (hanc 0 (mem_of (by kernel_rfl)))
                refine op_plain (ro := none) rfl (fun c h => by cases h) fun K hK => ?_
                have cc7 : W'.cell? (⟨wr.heap.size, 1, none⟩) = some (.int .i64 p.v) := (hC.gr hg).at 7 rfl
                simp only [fillL, List.setIfInBounds_toArray, List.set_cons_zero, List.set_cons_succ, Nat.zero_add, Nat.reduceAdd, e0] at hK ⊢
                go_simp
                exact hK _ _ ⟨hk.new rfl, hg⟩
              · rintro u done' W' hd hanc hclo ⟨hk, hg⟩
                refine op_plain (ro := none) rfl (fun c h => by cases h) fun K hK => ?_
                simp only [fillL, List.setIfInBounds_toArray, List.set_cons_zero, List.set_cons_succ, Nat.zero_add, Nat.reduceAdd] at hK ⊢
                go_simp
                exact hK _ _ ⟨hk.new rfl, hg⟩
              · rintro u done' W' hd hanc hclo ⟨hk, hg⟩
                refine op_plain (ro := none) rfl (fun c h => by cases h) fun K hK => ?_
                simp only [fillL, List.setIfInBounds_toArray, List.set_cons_zero, List.set_cons_succ, Nat.zero_add, Nat.reduceAdd] at hK ⊢
                go_simp
                exact hK _ _ ⟨hk.new rfl, hg⟩
              · rintro u done' W' hd hanc hclo ⟨hk, hg⟩
                have e3 := hk.get 3 rfl (hanc 3 (mem_of (by kernel_rfl)))
                refine op_plain (ro := none) rfl (fun c h => by cases h) fun K hK => ?_
                have cc6 : W'.cell? (⟨wr.heap.size, 0, none⟩) = some (.int .i64 p.c) := (hC.gr hg).at 6 rfl
                simp only [fillL, List.setIfInBounds_toArray, List.set_cons_zero, List.set_cons_succ, Nat.zero_add, Nat.reduceAdd, e3] at hK ⊢
                go_simp
                exact hK _ _ ⟨hk.new rfl, hg⟩
              · rintro u done' W' hd hanc hclo ⟨hk, hg⟩
                have e2 := hk.get 2 rfl (hanc 2 (mem_of (by kernel_rfl)))
                have e4 := hk.get 4 rfl (hanc 4 (mem_of (by kernel_rfl)))
                refine op_plain (ro := none) rfl (fun c h => by cases h) fun K hK => ?_
                simp only [fillL, List.setIfInBounds_toArray, List.set_cons_zero, List.set_cons_succ, Nat.zero_add, Nat.reduceAdd, e2, e4] at hK ⊢
                go_simp
                exact hK _ _ ⟨hk.new rfl, hg⟩
              · rintro u done' W' hd hanc hclo ⟨hk, hg⟩
                have e5 := hk.get 5 rfl (hanc 5 (mem_of (by kernel_rfl)))
                refine op_plain (ro := none) rfl (fun c h => by cases h) fun K hK => ?_
                have cc10 : W'.cell? (sd.add p.c.toNat) = some (.int .i64 (xs[p.c.toNat]?.getD 0)) := (hC.gr hg).at 10 rfl
                simp only [fillL, List.setIfInBounds_toArray, List.set_cons_zero, List.set_cons_succ, Nat.zero_add, Nat.reduceAdd, e5] at hK ⊢
                go_simp
                exact hK _ _ ⟨hk.new rfl, hg⟩
              · rintro u done' W' hd hanc hclo ⟨hk, hg⟩
                have e1 := hk.get 1 rfl (hanc 1 (mem_of (by kernel_rfl)))
                have e6 := hk.get 6 rfl (hanc 6 (mem_of (by kernel_rfl)))
                refine op_plain (ro := none) rfl (fun c h => by cases h) fun K hK => ?_
                simp only [fillL, List.setIfInBounds_toArray, List.set_cons_zero, List.set_cons_succ, Nat.zero_add, Nat.reduceAdd, e1, e6] at hK ⊢
                go_simp
                exact hK _ _ ⟨hk.new rfl, hg⟩
              · rintro u w16 ⟨done', hdn, hk, hg⟩
                have e7 := hk.get 7 rfl (hdn 7 (by decide))
                simp only [fillL, List.setIfInBounds_toArray, List.set_cons_zero, List.set_cons_succ, Nat.zero_add, Nat.reduceAdd, e7]
                clear hk hdn e7
                replace G := G.trans hg
                replace hC := hC.gr hg
                replace GB_ := GB_.trans hg
                replace hf := hf.gr hg
                replace hx := hx.gr hg
                replace hP := hP.gr hg
                replace hR3 := hR3.gr hg
                replace hO := hO.gr hg
                replace hOi := hOi.gr hg
                replace hPk := hPk.gr hg
                clear hg
                clear c0 c1 c2 c3 c4 c5 c6 c7 c8 c9 c10 c11
                have c0 : w16.cell? (⟨w.heap.size, 0, none⟩) = some (.slice ta tn tc) := hC.at 0 rfl
                have c1 : w16.cell? (⟨w.heap.size, 1, none⟩) = some (.slice ca cn cc) := hC.at 1 rfl
                have c2 : w16.cell? (pd.add (k * 4)) = some (.int .i64 p.c) := hC.at 2 rfl
                have c3 : w16.cell? (⟨(pd.add (k * 4)).block, (pd.add (k * 4)).off + 1, none⟩) = some (.int .i64 p.v) := hC.at 3 rfl
                have c4 : w16.cell? (⟨(pd.add (k * 4)).block, (pd.add (k * 4)).off + 2, none⟩) = some (.string p.data) := hC.at 4 rfl
                have c5 : w16.cell? (⟨(pd.add (k * 4)).block, (pd.add (k * 4)).off + 3, none⟩) = some (.int .i64 p.tg) := hC.at 5 rfl
                have c6 : w16.cell? (⟨wr.heap.size, 0, none⟩) = some (.int .i64 p.c) := hC.at 6 rfl
                have c7 : w16.cell? (⟨wr.heap.size, 1, none⟩) = some (.int .i64 p.v) := hC.at 7 rfl
                have c8 : w16.cell? (⟨wr.heap.size, 2, none⟩) = some (.string p.data) := hC.at 8 rfl
                have c9 : w16.cell? (⟨wr.heap.size, 3, none⟩) = some (.int .i64 p.tg) := hC.at 9 rfl
                have c10 : w16.cell? (sd.add p.c.toNat) = some (.int .i64 (xs[p.c.toNat]?.getD 0)) := hC.at 10 rfl
                have c11 : w16.cell? (⟨g8, p.c.toNat, none⟩) = some (.int .i64 (cur[p.c.toNat]?.getD 0)) := hC.at 11 rfl
                by_cases h17 : (p.v : Int) ≤ (xs[p.c.toNat]?.getD 0)
                · go_wp2_with fail
                  go_ret3
                  have HI2 : Hid (instL f se xs [] P xs = ((k : Int), 112, [])) := Lib.hid (by rw [← HI.out, hdr.out, instL, if_pos Hh13.out, if_neg (by rw [Hh15.out]; decide), if_pos h17, List.length_take, HPL.out, Nat.min_eq_left (Nat.le_of_lt hlt)])
                  have HR3 : Hid (instR f se xs P = ([], (k : Int), 112)) := Lib.hid (by rw [HR2.out, HI2.out, if_neg (by simp)])
                  exact ⟨none, 0, 0, by rw [HR3.out]; rfl, by rw [HR3.out]; exact Ints.nil _, G⟩
                · have HI2 : Hid (instL f se xs (P.take (k + 1)) (P.drop (k + 1)) (cur.set p.c.toNat p.v) = instL f se xs [] P xs) := Lib.hid (by rw [htk.out, ← HI.out, hdr.out, instL, if_pos Hh13.out, if_neg (by rw [Hh15.out]; decide), if_neg h17])
                  have HS2 : Hid (StOk f (cur.set p.c.toNat p.v)) := Lib.hid (stOk_set HS.out hver)
                  have hof := hO.free p.c.toNat
                  go_wp2_with fail
                  go_roundw
                  case rel => exact ⟨k + 1, _, by omega, by go_num, rfl, GB_.setCell hge _, hO.set hcn _, HS2, HI2⟩
                  case measure => simp [intOf] <;> omega
            | true =>
              have Hh15 := Lib.hid h15
              clear h15
              go_wp2_with fail
              go_ret3
              have HI2 : Hid (instL f se xs [] P xs = ((k : Int), 1, [])) := Lib.hid (by rw [← HI.out, hdr.out, instL, if_pos Hh13.out, if_pos Hh15.out, List.length_take, HPL.out, Nat.min_eq_left (Nat.le_of_lt hlt)])
              have HR3 : Hid (instR f se xs P = ([], (k : Int), 1)) := Lib.hid (by rw [HR2.out, HI2.out, if_neg (by simp)])
              exact ⟨none, 0, 0, by rw [HR3.out]; rfl, by rw [HR3.out]; exact Ints.nil _, G⟩
          · have h13b : ((acceptE f se p.c p.v p.data p.tg : Int) != 0) = true := by simp [h13]
            have Hh13 := Lib.hid h13
            clear h13
            go_wp2_with fail
            go_ret3
            have HI2 : Hid (instL f se xs [] P xs = ((k : Int), acceptE f se p.c p.v p.data p.tg, [])) := Lib.hid (by rw [← HI.out, hdr.out, instL, if_neg Hh13.out, List.length_take, HPL.out, Nat.min_eq_left (Nat.le_of_lt hlt)])
            have HR3 : Hid (instR f se xs P = ([], (k : Int), acceptE f se p.c p.v p.data p.tg)) := Lib.hid (by rw [HR2.out, HI2.out, if_neg (by exact Hh13.out)])
            exact ⟨none, 0, 0, by rw [HR3.out]; rfl, by rw [HR3.out]; exact Ints.nil _, G⟩
        · obtain rfl : k = ln := by omega
          have HI2 : Hid (instL f se xs [] P xs = (0, 0, cur)) := Lib.hid (by rw [← HI.out, List.drop_eq_nil_of_le (by rw [HPL.out]; exact Nat.le_refl _)]; simp [instL])
          have HC := Lib.hid (works_any ta ca a tn tc cn cc n c f xs wr hf hok hx hst)
          go_wp2_with fail
          refine HC.out.mono ?_
          rintro e w18 ⟨rfl, g⟩
          clear HC
          replace G := G.trans g
          replace hC := hC.gr g
          replace GB_ := GB_.trans g
          replace hf := hf.gr g
          replace hx := hx.gr g
          replace hP := hP.gr g
          replace hR3 := hR3.gr g
          replace hO := hO.gr g
          replace hOi := hOi.gr g
          clear g
          clear c0 c1
          have c0 : w18.cell? (⟨w.heap.size, 0, none⟩) = some (.slice ta tn tc) := hC.at 0 rfl
          have c1 : w18.cell? (⟨w.heap.size, 1, none⟩) = some (.slice ca cn cc) := hC.at 1 rfl
          cases h19 : worksB f xs with
          | false =>
            have Hh19 := Lib.hid h19
            clear h19
            go_wp2_with fail
            go_ret3
            have HR3 : Hid (instR f se xs P = ([], 0, 111)) := Lib.hid (by rw [HR2.out, HI2.out, if_pos rfl, if_neg (by rw [show worksB f xs = false from Hh19.out]; simp)])
            exact ⟨none, 0, 0, by rw [HR3.out]; rfl, by rw [HR3.out]; exact Ints.nil _, G⟩
          | true =>
            have Hh19 := Lib.hid h19
            clear h19
            have HC := Lib.hid (works_any ta ca (some ⟨g8, 0, none⟩) tn tc cn cc n cg8 f cur w18 hf hok hOi HS.out)
            go_wp2_with fail
            refine HC.out.mono ?_
            rintro e w20 ⟨rfl, g⟩
            clear HC
            replace G := G.trans g
            replace hC := hC.gr g
            replace GB_ := GB_.trans g
            replace hf := hf.gr g
            replace hx := hx.gr g
            replace hP := hP.gr g
            replace hR3 := hR3.gr g
            replace hO := hO.gr g
            replace hOi := hOi.gr g
            clear g
            clear c0 c1
            have c0 : w20.cell? (⟨w.heap.size, 0, none⟩) = some (.slice ta tn tc) := hC.at 0 rfl
            have c1 : w20.cell? (⟨w.heap.size, 1, none⟩) = some (.slice ca cn cc) := hC.at 1 rfl
            cases h21 : worksB f cur with
            | false =>
              have Hh21 := Lib.hid h21
              clear h21
              go_wp2_with fail
              go_ret3
              have HR3 : Hid (instR f se xs P = ([], 0, 111)) := Lib.hid (by rw [HR2.out, HI2.out, if_pos rfl, if_neg (by rw [show worksB f cur = false from Hh21.out]; simp)])
              exact ⟨none, 0, 0, by rw [HR3.out]; rfl, by rw [HR3.out]; exact Ints.nil _, G⟩
            | true =>
              have Hh21 := Lib.hid h21
              clear h21
              go_wp2_with fail
              go_ret3
              have HR3 : Hid (instR f se xs P = (cur, 0, 0)) := Lib.hid (by rw [HR2.out, HI2.out, if_pos rfl, if_pos (by rw [show worksB f xs = true from Hh19.out, show worksB f cur = true from Hh21.out, Bool.and_self])])
              exact ⟨_, _, _, by rw [HR3.out]; rfl, by rw [HR3.out]; exact hO.ints, G⟩
  · have h6b : ((statesE f ([xs]) : Int) != 0) = true := by simp [h6]
    have Hh6 := Lib.hid h6
    clear h6
    have HR : Hid (instR f se xs P = ([], 0, statesE f [xs])) := Lib.hid (by rw [instR, if_neg Hh6.out])
    go_wp2_with fail
    go_ret3
    exact ⟨none, 0, 0, by rw [HR.out]; rfl, by rw [HR.out]; exact Ints.nil _, G⟩
end
section
theorem nextV_inj {t t' n : Int} (h : 0 ≤ t ∧ t ≤ 65520) (h' : 0 ≤ t' ∧ t' ≤ 65520) (hne : t ≠ t') : nextV t n ≠ nextV t' n := by
  unfold nextV; omega
theorem nextV_byte {t : Int} {b b' : UInt8} (hne : b' ≠ b) : nextV t (b'.toNat : Int) ≠ nextV t (b.toNat : Int) := by
  have h1 := b.toNat_lt
  have h2 := b'.toNat_lt
  have h3 : b'.toNat ≠ b.toNat := fun h => hne (UInt8.toNat.inj h)
  unfold nextV
  omega
theorem fold_ne : ∀ (l : List UInt8) (t t' : Int), (0 ≤ t ∧ t ≤ 65520) → (0 ≤ t' ∧ t' ≤ 65520) → t ≠ t' → l.foldl (fun t b => nextV t (b.toNat : Int)) t ≠ l.foldl (fun t b => nextV t (b.toNat : Int)) t' := by
  intro l
  induction l with
  | nil => intro t t' _ _ h; exact h
  | cons x l ih =>
    intro t t' h h' hne
    exact ih _ _ (nextV_bd _ _) (nextV_bd _ _) (nextV_inj h h' hne)
theorem fold_set : ∀ (l : List UInt8) (i : Nat) (b : UInt8) (t : Int), i < l.length → b ≠ l[i]?.getD 0 → (l.set i b).foldl (fun t b => nextV t (b.toNat : Int)) t ≠ l.foldl (fun t b => nextV t (b.toNat : Int)) t := by
  intro l
  induction l with
  | nil => intro i b t h; simp at h
  | cons x l ih =>
    intro i b t hi hb
    cases i with
    | zero =>
      simp at hb
      exact fold_ne l _ _ (nextV_bd _ _) (nextV_bd _ _) (nextV_byte hb)
    | succ i => exact ih i b _ (by simpa using hi) (by simpa using hb)
theorem tag_set {s c v : Int} {l : List UInt8} {i : Nat} {b : UInt8} (hi : i < l.length) (hb : b ≠ l[i]?.getD 0) : tagL s c v (l.set i b) ≠ tagL s c v l := fold_set l i b _ hi hb

theorem Accept_zero {f : Fl} {s c v : Int} {d : ByteArray} {tg : Int} (h : AcceptE f s c v d tg = 0) : chkE f = 0 ∧ tagE s c v d = 0 ∧ verB f.times c v = true ∧ tagR s c v d = tg := by
  unfold AcceptE at h
  by_cases h1 : chkE f = 0
  · rw [if_pos h1] at h
    unfold acceptE at h
    by_cases h2 : tagE s c v d = 0
    · rw [if_pos h2] at h
      cases h3 : verB f.times c v with
      | false => rw [h3] at h; simp at h
      | true =>
        rw [h3, if_pos rfl] at h
        by_cases h4 : tagR s c v d = tg
        · exact ⟨h1, h2, rfl, h4⟩
        · rw [if_neg h4] at h; cases h
    · rw [if_neg h2] at h; exact absurd h h2
  · rw [if_neg h1] at h; exact absurd h h1
theorem Accept_ver {f : Fl} {s c v : Int} {d : ByteArray} {tg : Int} (h : AcceptE f s c v d tg = 0) : c < f.times.length ∧ v ≤ ((f.times[c.toNat]?.getD []).length : Int) := by
  have hv := (Accept_zero h).2.2.1
  simp only [verB, Bool.and_eq_true, decide_eq_true_eq] at hv
  omega
/-- another packet is not accepted -/
theorem Accept_other {f : Fl} {s c v : Int} {d : ByteArray} {tg : Int} (h : AcceptE f s c v d tg = 0) {i : Nat} {b : UInt8} (hi : i < d.size) (hb : b ≠ d.data.toList[i]?.getD 0) :
    AcceptE f s c v ⟨(d.data.toList.set i b).toArray⟩ tg = 113 := by
  obtain ⟨h1, h2, h3, h4⟩ := Accept_zero h
  have hsz : (⟨(d.data.toList.set i b).toArray⟩ : ByteArray).size = d.size := by
    show ((d.data.toList.set i b).toArray).size = d.data.size
    rw [List.size_toArray, List.length_set, Array.length_toList]
  have htb : tagB s c v d = true := by
    unfold tagE at h2
    split at h2
    · assumption
    · cases h2
  have htb2 : tagB s c v ⟨(d.data.toList.set i b).toArray⟩ = true := by unfold tagB at htb ⊢; rw [hsz]; exact htb
  have e0 : tagE s c v ⟨(d.data.toList.set i b).toArray⟩ = 0 := by unfold tagE; rw [htb2]; rfl
  unfold AcceptE acceptE
  rw [if_pos h1, if_pos e0, if_pos h3, if_neg]
  unfold tagR at h4 ⊢
  rw [htb2, if_pos rfl]
  rw [htb, if_pos rfl] at h4
  rw [← h4]
  have := tag_set (s := s) (c := c) (v := v) (l := d.data.toList) (i := i) (b := b) (by rw [Array.length_toList]; exact hi) hb
  exact this
theorem tagE_zero {s c v : Int} {d : ByteArray} (h : tagE s c v d = 0) : 0 ≤ c ∧ c ≤ 5 ∧ 0 ≤ v ∧ v ≤ 3 ∧ d.size ≤ 1000 := by
  have htb : tagB s c v d = true := by
    unfold tagE at h
    split at h
    · assumption
    · cases h
  simp [tagB, withinB] at htb
  omega
/-- a packet with its tag is accepted -/
theorem Accept_own {f : Fl} {s c v : Int} {d : ByteArray} (h : tagE s c v d = 0) (h1 : chkE f = 0) (h2 : c < f.times.length) (h3 : v ≤ ((f.times[c.toNat]?.getD []).length : Int)) : AcceptE f s c v d (tagR s c v d) = 0 := by
  have hb := tagE_zero h
  have hv : verB f.times c v = true := by
    simp [verB]
    exact ⟨⟨⟨by omega, by omega⟩, by omega⟩, by simpa using h3⟩
  unfold AcceptE acceptE
  rw [if_pos h1, if_pos h, if_pos hv, if_pos rfl]

/-- what one packet installs -/
structure SgOk (f : Fl) (xs nx : List Int) (c v : Int) : Prop where
  len : nx.length = xs.length
  on : ∀ j : Nat, j < nx.length → (j : Int) = c → nx[j]?.getD 0 = v ∧ xs[j]?.getD 0 < v
  off : ∀ j : Nat, j < nx.length → ¬ (j : Int) = c → nx[j]?.getD 0 = xs[j]?.getD 0
  st : StOk f nx
  w : worksB f nx = true
theorem inst_one {f : Fl} {s : Int} {xs : List Int} {p : Pk} (hchk : chkB f = true) (hc : 0 ≤ p.c) (h : (instR f s xs [p]).2.2 = 0) (ha : AcceptE f s p.c p.v p.data p.tg = 0) : SgOk f xs (instR f s xs [p]).1 p.c p.v := by
  obtain ⟨_, _, hv, _⟩ := Accept_zero ha
  have hok := chkB_ok hchk
  unfold instR at h ⊢
  by_cases h1 : statesE f [xs] = 0
  · rw [if_pos h1] at h ⊢
    have hst : StOk f xs := by
      have := (statesE_zero h1).2
      rw [stsB_cons] at this
      simp only [Bool.and_eq_true] at this
      exact stB_ok this.1
    cases h2 : withinB ([p] : List Pk).length 1 f.times.length with
    | false => rw [h2] at h; simp at h
    | true =>
      simp only [h2, if_true] at h ⊢
      by_cases h3 : (instL f s xs [] [p] xs).2.1 = 0
      · rw [if_pos h3] at h ⊢
        cases h4 : (worksB f xs && worksB f (instL f s xs [] [p] xs).2.2) with
        | false => rw [h4] at h; simp at h
        | true =>
          simp only [if_true]
          have hL : instL f s xs [] [p] xs = (0, 0, xs.set p.c.toNat p.v) ∧ xs[p.c.toNat]?.getD 0 < p.v := by
            simp only [instL] at h3 ⊢
            by_cases h5 : acceptE f s p.c p.v p.data p.tg = 0
            · rw [if_pos h5] at h3 ⊢
              simp only [List.any_nil, Bool.false_eq_true, if_false] at h3 ⊢
              by_cases h6 : p.v ≤ xs[p.c.toNat]?.getD 0
              · rw [if_pos h6] at h3; simp at h3
              · rw [if_neg h6]; exact ⟨rfl, by omega⟩
            · rw [if_neg h5] at h3; exact absurd h3 h5
          rw [hL.1] at h4 ⊢
          have hcl : p.c.toNat < xs.length := by
            rw [hst.len]
            simp [verB] at hv
            omega
          simp only [Bool.and_eq_true] at h4
          refine ⟨by simp, fun j hj e => ?_, fun j hj e => ?_, ?_, h4.2⟩
          · have : p.c.toNat = j := by omega
            subst this
            exact ⟨by simp [hcl], hL.2⟩
          · have : ¬ p.c.toNat = j := by omega
            simp [List.getElem?_set, this]
          · refine stOk_set hst ?_
            exact hv
      · rw [if_neg h3] at h; exact absurd h h3
  · rw [if_neg h1] at h; exact absurd h h1
end
section
open Go.RowKit

theorem any_take_hit {P : List Pk} {k j : Nat} {x : Int} (hj : j < k) (hk : k ≤ P.length) (h : (P[j]?.getD default).c = x) : ((P.take k).any fun q => q.c == x) = true :=
  anyP_hit (p := fun q => q.c == x) (k := j) (by simp; omega) (by rw [List.getElem?_take_of_lt hj]; simpa using h)
theorem any_take_none {P : List Pk} {k : Nat} {x : Int} (hk : k ≤ P.length) (h : ∀ j, j < k → ¬ (P[j]?.getD default).c = x) : ((P.take k).any fun q => q.c == x) = false :=
  anyP_none (p := fun q => q.c == x) (fun j hj => by
    have hj' : j < k := by simp at hj; omega
    rw [List.getElem?_take_of_lt hj']; simpa using h j hj')

set_option maxRecDepth 100000 in
set_option maxHeartbeats 4000000 in
theorem install2_any (ta ca a pa : Option Addr) (tn tc cn cc n c ln lc : Nat) (f : Fl) (se : Int) (xs : List Int) (P : List Pk) (w : World) (hf : FlAt w ta tn ca cn f) (hx : Ints w a n xs) (hP : PkAt w pa ln P) :
    Calls Try.prog 35 #[.agg #[.slice ta tn tc, .slice ca cn cc], .int .i64 se, .slice a n c, .slice pa ln lc] w (InstPost w (instR f se xs P)) := by
  have g := Gr.alloc w (.cells #[.slice ta tn tc, .slice ca cn cc] 25)
  have hC : RCells (w.alloc (.cells #[.slice ta tn tc, .slice ca cn cc] 25)) [(⟨w.heap.size, 0, none⟩, .slice ta tn tc), (⟨w.heap.size, 1, none⟩, .slice ca cn cc)] := (RCells.nil w).box (b := w.heap.size) #[.slice ta tn tc, .slice ca cn cc] 25 rfl
  obtain ⟨w2, hw2⟩ : ∃ w2, w.alloc (.cells #[.slice ta tn tc, .slice ca cn cc] 25) = w2 := ⟨_, rfl⟩
  rw [hw2] at g hC
  have G := g
  replace hf := hf.gr g
  replace hx := hx.gr g
  replace hP := hP.gr g
  clear g
  have c0 : w2.cell? (⟨w.heap.size, 0, none⟩) = some (.slice ta tn tc) := hC.at 0 rfl
  have c1 : w2.cell? (⟨w.heap.size, 1, none⟩) = some (.slice ca cn cc) := hC.at 1 rfl
  have HPL : Hid (P.length = ln) := Lib.hid hP.len
  have hpl := hP.lt
  go_enter Try.func35, Try.ntmps35
  have g := Gr.alloc w2 (.cells #[.slice a n c] 26)
  have hb := heap_alloc_new w2 (.cells #[.slice a n c] 26)
  have hbl : w2.heap.size < (w2.alloc (.cells #[.slice a n c] 26)).heap.size := by simp
  obtain ⟨w4, hww4⟩ : ∃ w0, w2.alloc (.cells #[.slice a n c] 26) = w0 := ⟨_, rfl⟩
  rw [hww4] at g hb hbl
  replace G := G.trans g
  replace hC := hC.gr g
  replace hf := hf.gr g
  replace hx := hx.gr g
  replace hP := hP.gr g
  have c0a4 : w4.cell? (⟨w.heap.size, 0, none⟩) = some (.slice ta tn tc) := hC.at 0 rfl
  have c1a4 : w4.cell? (⟨w.heap.size, 1, none⟩) = some (.slice ca cn cc) := hC.at 1 rfl
  have hR3 := (rows1 (c := c) hbl (cell_at hb rfl) hx : RowsAt w4 (some ⟨w2.heap.size, 0, none⟩) 1 [xs])
  clear g hb hbl
  have HC := Lib.hid (stated_any ta ca (some ⟨w2.heap.size, 0, none⟩) tn tc cn cc 1 1 f ([xs]) w4 hf hR3)
  go_wp2_with fail
  refine HC.out.mono ?_
  rintro e w5 ⟨rfl, g⟩
  clear HC
  clear hw2 hww4
  replace G := G.trans g
  replace hC := hC.gr g
  replace hf := hf.gr g
  replace hx := hx.gr g
  replace hP := hP.gr g
  replace hR3 := hR3.gr g
  clear g
  clear c0 c1 c0a4 c1a4
  have c0 : w5.cell? (⟨w.heap.size, 0, none⟩) = some (.slice ta tn tc) := hC.at 0 rfl
  have c1 : w5.cell? (⟨w.heap.size, 1, none⟩) = some (.slice ca cn cc) := hC.at 1 rfl
  by_cases h6 : (statesE f ([xs]) : Int) = 0
  · have h6b : ((statesE f ([xs]) : Int) != 0) = false := by simp [h6]
    have Hh6 := Lib.hid h6
    clear h6
    have hok : FlOk f := chkB_ok (statesE_zero Hh6.out).1
    have hst : StOk f xs := stB_ok (by have := (statesE_zero Hh6.out).2; simpa [stsB] using this)
    have HR : Hid (instR f se xs P = if withinB ln 1 tn then (if (instL f se xs [] P xs).2.1 = 0 then (if worksB f xs && worksB f (instL f se xs [] P xs).2.2 then ((instL f se xs [] P xs).2.2, 0, 0) else ([], 0, 111)) else ([], (instL f se xs [] P xs).1, (instL f se xs [] P xs).2.1)) else ([], 0, 1)) := Lib.hid (by rw [instR, if_pos Hh6.out, hP.len, hf.t.len])
    have hn1 : 0 < n := by have := hok.n1; have := hst.len; have := hx.len; omega
    have hn6 : n ≤ 6 := by have := hok.n6; have := hst.len; have := hx.len; omega
    have HNN : Hid (n = f.times.length) := Lib.hid (by rw [← hst.len, hx.len])
    have HST := Lib.hid hst
    have HC := Lib.hid (within2_any ln 1 tn w5)
    go_wp2_with fail
    refine HC.out.mono ?_
    rintro e w' ⟨rfl, rfl⟩
    clear HC
    cases h7 : withinB ln 1 tn with
    | false =>
      have Hh7 := Lib.hid h7
      clear h7
      have HR2 : Hid (instR f se xs P = ([], 0, 1)) := Lib.hid (by rw [HR.out, Hh7.out]; rfl)
      go_wp2_with fail
      go_ret3
      exact ⟨none, 0, 0, by rw [HR2.out]; rfl, by rw [HR2.out]; exact Ints.nil _, G⟩
    | true =>
      have Hh7 := Lib.hid h7
      clear h7
      have HR2 : Hid (instR f se xs P = if (instL f se xs [] P xs).2.1 = 0 then (if worksB f xs && worksB f (instL f se xs [] P xs).2.2 then ((instL f se xs [] P xs).2.2, 0, 0) else ([], 0, 111)) else ([], (instL f se xs [] P xs).1, (instL f se xs [] P xs).2.1)) := Lib.hid (by rw [HR.out, Hh7.out]; rfl)
      have hln : 1 ≤ ln ∧ ln ≤ tn := by have := Hh7.out; simp [withinB] at this; omega
      have hfB := hf
      have hxB := hx
      have hPB := hP
      have hR3B := hR3
      have hCB := hC
      have GB := G
      go_wp2_with (at_builtin; refine wpList_copyOwn rfl rfl rfl rfl hx hn1 (by omega) ?_; intro g9 cg9 w8 hO hgc hge g)
      have gC := g
      replace G := G.trans g
      replace hC := hC.gr g
      replace hf := hf.gr g
      replace hx := hx.gr g
      replace hP := hP.gr g
      replace hR3 := hR3.gr g
      clear g
      clear c0 c1
      have c0 : w8.cell? (⟨w.heap.size, 0, none⟩) = some (.slice ta tn tc) := hC.at 0 rfl
      have c1 : w8.cell? (⟨w.heap.size, 1, none⟩) = some (.slice ca cn cc) := hC.at 1 rfl
      go_wp2_with fail
      go_loopw [13] (fun i wr => ∃ (k : Nat) (cur : List Int), k ≤ ln ∧ i = .int .i64 k ∧ Gr w5 wr ∧ OwnS wr g9 n cur ∧ Hid (StOk f cur) ∧ Hid (instL f se xs (P.take k) (P.drop k) cur = instL f se xs [] P xs)) (fun i _ => ln - (intOf i).toNat)
      case atStart => exact ⟨0, xs, Nat.zero_le _, rfl, gC, hO, HST, Lib.hid (by simp)⟩
      case round =>
        obtain ⟨k, cur, hk, rfl, gr, hO, HS, HI⟩ := hrel
        replace G := GB.trans gr
        replace hC := hCB.gr gr
        replace hf := hfB.gr gr
        replace hx := hxB.gr gr
        replace hP := hPB.gr gr
        replace hR3 := hR3B.gr gr
        clear c0 c1
        have c0 : wr.cell? (⟨w.heap.size, 0, none⟩) = some (.slice ta tn tc) := hC.at 0 rfl
        have c1 : wr.cell? (⟨w.heap.size, 1, none⟩) = some (.slice ca cn cc) := hC.at 1 rfl
        have GB_ := gr
        clear gr
        have hOi := hO.ints
        by_cases h10 : (k : Int) < ln
        · have hlt : k < ln := by omega
          obtain ⟨pd, hpa, hpb, hds, q0, q1, q2, q3⟩ := hP.at hlt
          subst hpa
          have hdr : Hid (P.drop k = (P[k]?.getD default) :: P.drop (k + 1)) := Lib.hid (drop_atP (by rw [HPL.out]; exact hlt))
          have htk : Hid (P.take (k + 1) = P.take k ++ [P[k]?.getD default]) := Lib.hid (take_atP (by rw [HPL.out]; exact hlt))
          generalize P[k]?.getD default = p at *
          replace hC : RCells wr [(⟨w.heap.size, 0, none⟩, .slice ta tn tc), (⟨w.heap.size, 1, none⟩, .slice ca cn cc), (pd.add (k * 4), .int .i64 p.c), (⟨(pd.add (k * 4)).block, (pd.add (k * 4)).off + 1, none⟩, .int .i64 p.v), (⟨(pd.add (k * 4)).block, (pd.add (k * 4)).off + 2, none⟩, .string p.data), (⟨(pd.add (k * 4)).block, (pd.add (k * 4)).off + 3, none⟩, .int .i64 p.tg)] := hC.append ((RCells.cons q0 (RCells.cons q1 (RCells.cons q2 (RCells.cons q3 (RCells.nil _))))))
          clear c0 c1
          have c0 : wr.cell? (⟨w.heap.size, 0, none⟩) = some (.slice ta tn tc) := hC.at 0 rfl
          have c1 : wr.cell? (⟨w.heap.size, 1, none⟩) = some (.slice ca cn cc) := hC.at 1 rfl
          have c2 : wr.cell? (pd.add (k * 4)) = some (.int .i64 p.c) := hC.at 2 rfl
          have c3 : wr.cell? (⟨(pd.add (k * 4)).block, (pd.add (k * 4)).off + 1, none⟩) = some (.int .i64 p.v) := hC.at 3 rfl
          have c4 : wr.cell? (⟨(pd.add (k * 4)).block, (pd.add (k * 4)).off + 2, none⟩) = some (.string p.data) := hC.at 4 rfl
          have c5 : wr.cell? (⟨(pd.add (k * 4)).block, (pd.add (k * 4)).off + 3, none⟩) = some (.int .i64 p.tg) := hC.at 5 rfl
          clear q0 q1 q2 q3
          go_wp2_with fail
          refine (wpIn_wide (n := 0)).1 ?_
          refine region_inv (F := Fence.wide) (by kernel_rfl) (by rfl) (by decide) (fun _ => trivial)
            (fun done' u W' => Kn [some (.agg #[.slice ta tn tc, .slice ca cn cc]), some (.int .i64 se), some (.slice (some pd) ln lc), some (.int .i64 k), some (.pointer (some (pd.add (k * 4)))), some (.agg #[.int .i64 p.c, .int .i64 p.v, .string p.data, .int .i64 p.tg]), some (.int .i64 (acceptE f se p.c p.v p.data p.tg)), some (.int .i64 (acceptE f se p.c p.v p.data p.tg))] done' u ∧ Gr wr W')
            (fun u => ⟨Kn.start _ _, Gr.drew wr⟩) ⟨?_, ?_, ?_, ?_, ?_, ?_, ?_, ?_, trivial⟩ ?_
          · rintro u done' W' hd hanc hclo ⟨hk, hg⟩
            refine op_plain (ro := none) rfl (fun c h => by cases h) fun K hK => ?_
            have cc0 : W'.cell? (⟨w.heap.size, 0, none⟩) = some (.slice ta tn tc) := (hC.gr hg).at 0 rfl
            have cc1 : W'.cell? (⟨w.heap.size, 1, none⟩) = some (.slice ca cn cc) := (hC.gr hg).at 1 rfl
            simp only [fillL, List.setIfInBounds_toArray, List.set_cons_zero, List.set_cons_succ, Nat.zero_add, Nat.reduceAdd] at hK ⊢
            go_simp
            exact hK _ _ ⟨hk.new rfl, hg⟩
          · rintro u done' W' hd hanc hclo ⟨hk, hg⟩
            refine op_plain (ro := none) rfl (fun c h => by cases h) fun K hK => ?_
            simp only [fillL, List.setIfInBounds_toArray, List.set_cons_zero, List.set_cons_succ, Nat.zero_add, Nat.reduceAdd] at hK ⊢
            go_simp
            exact hK _ _ ⟨hk.new rfl, hg⟩
          · rintro u done' W' hd hanc hclo ⟨hk, hg⟩
            refine op_plain (ro := none) rfl (fun c h => by cases h) fun K hK => ?_
            simp only [fillL, List.setIfInBounds_toArray, List.set_cons_zero, List.set_cons_succ, Nat.zero_add, Nat.reduceAdd] at hK ⊢
            go_simp
            exact hK _ _ ⟨hk.new rfl, hg⟩
          · rintro u done' W' hd hanc hclo ⟨hk, hg⟩
            refine op_plain (ro := none) rfl (fun c h => by cases h) fun K hK => ?_
            simp only [fillL, List.setIfInBounds_toArray, List.set_cons_zero, List.set_cons_succ, Nat.zero_add, Nat.reduceAdd] at hK ⊢
            go_simp
            exact hK _ _ ⟨hk.new rfl, hg⟩
          · rintro u done' W' hd hanc hclo ⟨hk, hg⟩
            have e2 := hk.get 2 rfl (hanc 2 (mem_of (by kernel_rfl)))
            have e3 := hk.get 3 rfl (hanc 3 (mem_of (by kernel_rfl)))
            refine op_plain (ro := none) rfl (fun c h => by cases h) fun K hK => ?_
            simp only [fillL, List.setIfInBounds_toArray, List.set_cons_zero, List.set_cons_succ, Nat.zero_add, Nat.reduceAdd, e2, e3] at hK ⊢
            go_simp
            exact hK _ _ ⟨hk.new rfl, hg⟩
          · rintro u done' W' hd hanc hclo ⟨hk, hg⟩
            have e4 := hk.get 4 rfl (hanc 4 (mem_of (by kernel_rfl)))
            refine op_plain (ro := none) rfl (fun c h => by cases h) fun K hK => ?_
            have cc2 : W'.cell? (pd.add (k * 4)) = some (.int .i64 p.c) := (hC.gr hg).at 2 rfl
            have cc3 : W'.cell? (⟨(pd.add (k * 4)).block, (pd.add (k * 4)).off + 1, none⟩) = some (.int .i64 p.v) := (hC.gr hg).at 3 rfl
            have cc4 : W'.cell? (⟨(pd.add (k * 4)).block, (pd.add (k * 4)).off + 2, none⟩) = some (.string p.data) := (hC.gr hg).at 4 rfl
            have cc5 : W'.cell? (⟨(pd.add (k * 4)).block, (pd.add (k * 4)).off + 3, none⟩) = some (.int .i64 p.tg) := (hC.gr hg).at 5 rfl
            simp only [fillL, List.setIfInBounds_toArray, List.set_cons_zero, List.set_cons_succ, Nat.zero_add, Nat.reduceAdd, e4] at hK ⊢
            go_simp
            exact hK _ _ ⟨hk.new rfl, hg⟩
          · rintro u done' W' hd hanc hclo ⟨hk, hg⟩
            have e0 := hk.get 0 rfl (hanc 0 (mem_of (by kernel_rfl)))
            have e1 := hk.get 1 rfl (hanc 1 (mem_of (by kernel_rfl)))
            have e5 := hk.get 5 rfl (hanc 5 (mem_of (by kernel_rfl)))
            refine op_plain (ro := none) rfl (fun c h => by cases h) fun K hK => ?_
            have HCON := Lib.hid (accept2_any ta ca tn tc cn cc f se p.c p.v p.tg p.data W' (hf.gr hg) hds)
            simp only [fillL, List.setIfInBounds_toArray, List.set_cons_zero, List.set_cons_succ, Nat.zero_add, Nat.reduceAdd, e0, e1, e5] at hK ⊢
            go_simp
            refine HCON.out.mono ?_
            rintro e w6 ⟨rfl, hg6⟩
            exact hK _ _ ⟨hk.new rfl, hg.trans hg6⟩
          · rintro u done' W' hd hanc hclo ⟨hk, hg⟩
            have e6 := hk.get 6 rfl (hanc 6 (mem_of (by kernel_rfl)))
            refine op_plain (ro := none) rfl (fun c h => by cases h) fun K hK => ?_
            simp only [fillL, List.setIfInBounds_toArray, List.set_cons_zero, List.set_cons_succ, Nat.zero_add, Nat.reduceAdd, e6] at hK ⊢
            go_simp
            exact hK _ _ ⟨hk.new rfl, hg⟩
          · rintro u w11 ⟨done', hdn, hk, hg⟩
            have e7 := hk.get 7 rfl (hdn 7 (by decide))
            simp only [fillL, List.setIfInBounds_toArray, List.set_cons_zero, List.set_cons_succ, Nat.zero_add, Nat.reduceAdd, e7]
            clear hk hdn e7
            replace G := G.trans hg
            replace hC := hC.gr hg
            replace GB_ := GB_.trans hg
            replace hf := hf.gr hg
            replace hx := hx.gr hg
            replace hP := hP.gr hg
            replace hR3 := hR3.gr hg
            replace hO := hO.gr hg
            replace hOi := hOi.gr hg
            clear hg
            clear c0 c1 c2 c3 c4 c5
            have c0 : w11.cell? (⟨w.heap.size, 0, none⟩) = some (.slice ta tn tc) := hC.at 0 rfl
            have c1 : w11.cell? (⟨w.heap.size, 1, none⟩) = some (.slice ca cn cc) := hC.at 1 rfl
            have c2 : w11.cell? (pd.add (k * 4)) = some (.int .i64 p.c) := hC.at 2 rfl
            have c3 : w11.cell? (⟨(pd.add (k * 4)).block, (pd.add (k * 4)).off + 1, none⟩) = some (.int .i64 p.v) := hC.at 3 rfl
            have c4 : w11.cell? (⟨(pd.add (k * 4)).block, (pd.add (k * 4)).off + 2, none⟩) = some (.string p.data) := hC.at 4 rfl
            have c5 : w11.cell? (⟨(pd.add (k * 4)).block, (pd.add (k * 4)).off + 3, none⟩) = some (.int .i64 p.tg) := hC.at 5 rfl
            by_cases h12 : (acceptE f se p.c p.v p.data p.tg : Int) = 0
            · have h12b : ((acceptE f se p.c p.v p.data p.tg : Int) != 0) = false := by simp [h12]
              have Hh12 := Lib.hid h12
              clear h12
              have hver := accept_ver Hh12.out
              have hv := verB_in hver
              have hcn : p.c.toNat < n := by have := HNN.out; omega
              have hc0 : (0 : Int) ≤ p.c := hv.1
              have hc1 : p.c < (n : Int) := by have := HNN.out; omega
              obtain ⟨sd, hsa, hsb, hsc⟩ := hx.at hcn
              subst hsa
              replace hC : RCells w11 [(⟨w.heap.size, 0, none⟩, .slice ta tn tc), (⟨w.heap.size, 1, none⟩, .slice ca cn cc), (pd.add (k * 4), .int .i64 p.c), (⟨(pd.add (k * 4)).block, (pd.add (k * 4)).off + 1, none⟩, .int .i64 p.v), (⟨(pd.add (k * 4)).block, (pd.add (k * 4)).off + 2, none⟩, .string p.data), (⟨(pd.add (k * 4)).block, (pd.add (k * 4)).off + 3, none⟩, .int .i64 p.tg), (sd.add p.c.toNat, .int .i64 (xs[p.c.toNat]?.getD 0)), (⟨g9, p.c.toNat, none⟩, .int .i64 (cur[p.c.toNat]?.getD 0))] := hC.append ((RCells.cons hsc (RCells.cons (hO.cell hcn) (RCells.nil _))))
              clear c0 c1 c2 c3 c4 c5
              have c0 : w11.cell? (⟨w.heap.size, 0, none⟩) = some (.slice ta tn tc) := hC.at 0 rfl
              have c1 : w11.cell? (⟨w.heap.size, 1, none⟩) = some (.slice ca cn cc) := hC.at 1 rfl
              have c2 : w11.cell? (pd.add (k * 4)) = some (.int .i64 p.c) := hC.at 2 rfl
              have c3 : w11.cell? (⟨(pd.add (k * 4)).block, (pd.add (k * 4)).off + 1, none⟩) = some (.int .i64 p.v) := hC.at 3 rfl
              have c4 : w11.cell? (⟨(pd.add (k * 4)).block, (pd.add (k * 4)).off + 2, none⟩) = some (.string p.data) := hC.at 4 rfl
              have c5 : w11.cell? (⟨(pd.add (k * 4)).block, (pd.add (k * 4)).off + 3, none⟩) = some (.int .i64 p.tg) := hC.at 5 rfl
              have c6 : w11.cell? (sd.add p.c.toNat) = some (.int .i64 (xs[p.c.toNat]?.getD 0)) := hC.at 6 rfl
              have c7 : w11.cell? (⟨g9, p.c.toNat, none⟩) = some (.int .i64 (cur[p.c.toNat]?.getD 0)) := hC.at 7 rfl
              clear hsc
              go_wp2_with fail
              go_loopw [15] (fun i wr => ∃ (j : Nat), j ≤ k ∧ i = .int .i64 j ∧ Gr w11 wr ∧ Hid (∀ t, t < j → ¬ (P[t]?.getD default).c = p.c)) (fun i _ => k - (intOf i).toNat)
              case atStart => exact ⟨0, Nat.zero_le _, rfl, Gr.refl _, Lib.hid (fun t ht => by omega)⟩
              case round =>
                obtain ⟨j, hj, rfl, gr, hall⟩ := hrel
                have hfBB := hf
                have hxBB := hx
                have hPBB := hP
                have hR3BB := hR3
                have hOBB := hO
                have hOiBB := hOi
                have hCBB := hC
                have GBB := G
                replace G := GBB.trans gr
                replace hC := hCBB.gr gr
                replace hf := hfBB.gr gr
                replace hx := hxBB.gr gr
                replace hP := hPBB.gr gr
                replace hR3 := hR3BB.gr gr
                replace hO := hOBB.gr gr
                replace hOi := hOiBB.gr gr
                replace GB_ := GB_.trans gr
                clear c0 c1 c2 c3 c4 c5 c6 c7
                have c0 : wr.cell? (⟨w.heap.size, 0, none⟩) = some (.slice ta tn tc) := hC.at 0 rfl
                have c1 : wr.cell? (⟨w.heap.size, 1, none⟩) = some (.slice ca cn cc) := hC.at 1 rfl
                have c2 : wr.cell? (pd.add (k * 4)) = some (.int .i64 p.c) := hC.at 2 rfl
                have c3 : wr.cell? (⟨(pd.add (k * 4)).block, (pd.add (k * 4)).off + 1, none⟩) = some (.int .i64 p.v) := hC.at 3 rfl
                have c4 : wr.cell? (⟨(pd.add (k * 4)).block, (pd.add (k * 4)).off + 2, none⟩) = some (.string p.data) := hC.at 4 rfl
                have c5 : wr.cell? (⟨(pd.add (k * 4)).block, (pd.add (k * 4)).off + 3, none⟩) = some (.int .i64 p.tg) := hC.at 5 rfl
                have c6 : wr.cell? (sd.add p.c.toNat) = some (.int .i64 (xs[p.c.toNat]?.getD 0)) := hC.at 6 rfl
                have c7 : wr.cell? (⟨g9, p.c.toNat, none⟩) = some (.int .i64 (cur[p.c.toNat]?.getD 0)) := hC.at 7 rfl
                have GBB_ := gr
                clear gr
                by_cases h13 : (j : Int) < k
                · have hjk : j < k := by omega
                  have hjl : j < ln := by omega
                  obtain ⟨pd2, hpe, _, _, q0, _, _, _⟩ := hP.at (j := j) (by omega)
                  cases hpe
                  replace hC : RCells wr [(⟨w.heap.size, 0, none⟩, .slice ta tn tc), (⟨w.heap.size, 1, none⟩, .slice ca cn cc), (pd.add (k * 4), .int .i64 p.c), (⟨(pd.add (k * 4)).block, (pd.add (k * 4)).off + 1, none⟩, .int .i64 p.v), (⟨(pd.add (k * 4)).block, (pd.add (k * 4)).off + 2, none⟩, .string p.data), (⟨(pd.add (k * 4)).block, (pd.add (k * 4)).off + 3, none⟩, .int .i64 p.tg), (sd.add p.c.toNat, .int .i64 (xs[p.c.toNat]?.getD 0)), (⟨g9, p.c.toNat, none⟩, .int .i64 (cur[p.c.toNat]?.getD 0)), (pd.add (j * 4), .int .i64 ((P[j]?.getD default).c))] := hC.append ((RCells.cons q0 (RCells.nil _)))
                  clear c0 c1 c2 c3 c4 c5 c6 c7
                  have c0 : wr.cell? (⟨w.heap.size, 0, none⟩) = some (.slice ta tn tc) := hC.at 0 rfl
                  have c1 : wr.cell? (⟨w.heap.size, 1, none⟩) = some (.slice ca cn cc) := hC.at 1 rfl
                  have c2 : wr.cell? (pd.add (k * 4)) = some (.int .i64 p.c) := hC.at 2 rfl
                  have c3 : wr.cell? (⟨(pd.add (k * 4)).block, (pd.add (k * 4)).off + 1, none⟩) = some (.int .i64 p.v) := hC.at 3 rfl
                  have c4 : wr.cell? (⟨(pd.add (k * 4)).block, (pd.add (k * 4)).off + 2, none⟩) = some (.string p.data) := hC.at 4 rfl
                  have c5 : wr.cell? (⟨(pd.add (k * 4)).block, (pd.add (k * 4)).off + 3, none⟩) = some (.int .i64 p.tg) := hC.at 5 rfl
                  have c6 : wr.cell? (sd.add p.c.toNat) = some (.int .i64 (xs[p.c.toNat]?.getD 0)) := hC.at 6 rfl
                  have c7 : wr.cell? (⟨g9, p.c.toNat, none⟩) = some (.int .i64 (cur[p.c.toNat]?.getD 0)) := hC.at 7 rfl
                  have c8 : wr.cell? (pd.add (j * 4)) = some (.int .i64 ((P[j]?.getD default).c)) := hC.at 8 rfl
                  clear q0
                  go_wp2_with fail
                  refine (wpIn_wide (n := 0)).1 ?_
                  refine region_inv (F := Fence.wide) (by kernel_rfl) (by rfl) (by decide) (fun _ => trivial)
                    (fun done' u W' => Kn [some (.slice (some pd) ln lc), some (.int .i64 j), some (.pointer (some (pd.add (j * 4)))), some (.pointer (some (pd.add (j * 4)))), some (.int .i64 ((P[j]?.getD default).c)), some (.slice (some pd) ln lc), some (.int .i64 k), some (.pointer (some (pd.add (k * 4)))), some (.pointer (some (pd.add (k * 4)))), some (.int .i64 p.c), some (.bool (((P[j]?.getD default).c : Int) == p.c))] done' u ∧ Gr wr W')
                    (fun u => ⟨Kn.start _ _, Gr.drew wr⟩) ⟨?_, ?_, ?_, ?_, ?_, ?_, ?_, ?_, ?_, ?_, ?_, trivial⟩ ?_
                  · rintro u done' W' hd hanc hclo ⟨hk, hg⟩
                    refine op_plain (ro := none) rfl (fun c h => by cases h) fun K hK => ?_
                    simp only [fillL, List.setIfInBounds_toArray, List.set_cons_zero, List.set_cons_succ, Nat.zero_add, Nat.reduceAdd] at hK ⊢
                    go_simp
                    exact hK _ _ ⟨hk.new rfl, hg⟩
                  · rintro u done' W' hd hanc hclo ⟨hk, hg⟩
                    refine op_plain (ro := none) rfl (fun c h => by cases h) fun K hK => ?_
                    simp only [fillL, List.setIfInBounds_toArray, List.set_cons_zero, List.set_cons_succ, Nat.zero_add, Nat.reduceAdd] at hK ⊢
                    go_simp
                    exact hK _ _ ⟨hk.new rfl, hg⟩
                  · rintro u done' W' hd hanc hclo ⟨hk, hg⟩
                    have e0 := hk.get 0 rfl (hanc 0 (mem_of (by kernel_rfl)))
                    have e1 := hk.get 1 rfl (hanc 1 (mem_of (by kernel_rfl)))
                    refine op_plain (ro := none) rfl (fun c h => by cases h) fun K hK => ?_
                    simp only [fillL, List.setIfInBounds_toArray, List.set_cons_zero, List.set_cons_succ, Nat.zero_add, Nat.reduceAdd, e0, e1] at hK ⊢
                    go_simp
                    exact hK _ _ ⟨hk.new rfl, hg⟩
                  · rintro u done' W' hd hanc hclo ⟨hk, hg⟩
                    have e2 := hk.get 2 rfl (hanc 2 (mem_of (by kernel_rfl)))
                    refine op_plain (ro := none) rfl (fun c h => by cases h) fun K hK => ?_
                    simp only [fillL, List.setIfInBounds_toArray, List.set_cons_zero, List.set_cons_succ, Nat.zero_add, Nat.reduceAdd, e2] at hK ⊢
                    go_simp
                    exact hK _ _ ⟨hk.new rfl, hg⟩
                  · rintro u done' W' hd hanc hclo ⟨hk, hg⟩
                    have e3 := hk.get 3 rfl (hanc 3 (mem_of (by kernel_rfl)))
                    refine op_plain (ro := none) rfl (fun c h => by cases h) fun K hK => ?_
                    have cc8 : W'.cell? (pd.add (j * 4)) = some (.int .i64 ((P[j]?.getD default).c)) := (hC.gr hg).at 8 rfl
                    simp only [fillL, List.setIfInBounds_toArray, List.set_cons_zero, List.set_cons_succ, Nat.zero_add, Nat.reduceAdd, e3] at hK ⊢
                    go_simp
                    exact hK _ _ ⟨hk.new rfl, hg⟩
                  · rintro u done' W' hd hanc hclo ⟨hk, hg⟩
                    refine op_plain (ro := none) rfl (fun c h => by cases h) fun K hK => ?_
                    simp only [fillL, List.setIfInBounds_toArray, List.set_cons_zero, List.set_cons_succ, Nat.zero_add, Nat.reduceAdd] at hK ⊢
                    go_simp
                    exact hK _ _ ⟨hk.new rfl, hg⟩
                  · rintro u done' W' hd hanc hclo ⟨hk, hg⟩
                    refine op_plain (ro := none) rfl (fun c h => by cases h) fun K hK => ?_
                    simp only [fillL, List.setIfInBounds_toArray, List.set_cons_zero, List.set_cons_succ, Nat.zero_add, Nat.reduceAdd] at hK ⊢
                    go_simp
                    exact hK _ _ ⟨hk.new rfl, hg⟩
                  · rintro u done' W' hd hanc hclo ⟨hk, hg⟩
                    have e5 := hk.get 5 rfl (hanc 5 (mem_of (by kernel_rfl)))
                    have e6 := hk.get 6 rfl (hanc 6 (mem_of (by kernel_rfl)))
                    refine op_plain (ro := none) rfl (fun c h => by cases h) fun K hK => ?_
                    simp only [fillL, List.setIfInBounds_toArray, List.set_cons_zero, List.set_cons_succ, Nat.zero_add, Nat.reduceAdd, e5, e6] at hK ⊢
                    go_simp
                    exact hK _ _ ⟨hk.new rfl, hg⟩
                  · rintro u done' W' hd hanc hclo ⟨hk, hg⟩
                    have e7 := hk.get 7 rfl (hanc 7 (mem_of (by kernel_rfl)))
                    refine op_plain (ro := none) rfl (fun c h => by cases h) fun K hK => ?_
                    simp only [fillL, List.setIfInBounds_toArray, List.set_cons_zero, List.set_cons_succ, Nat.zero_add, Nat.reduceAdd, e7] at hK ⊢
                    go_simp
                    exact hK _ _ ⟨hk.new rfl, hg⟩
                  · rintro u done' W' hd hanc hclo ⟨hk, hg⟩
                    have e8 := hk.get 8 rfl (hanc 8 (mem_of (by kernel_rfl)))
                    refine op_plain (ro := none) rfl (fun c h => by cases h) fun K hK => ?_
                    have cc2 : W'.cell? (pd.add (k * 4)) = some (.int .i64 p.c) := (hC.gr hg).at 2 rfl
                    simp only [fillL, List.setIfInBounds_toArray, List.set_cons_zero, List.set_cons_succ, Nat.zero_add, Nat.reduceAdd, e8] at hK ⊢
                    go_simp
                    exact hK _ _ ⟨hk.new rfl, hg⟩
                  · rintro u done' W' hd hanc hclo ⟨hk, hg⟩
                    have e4 := hk.get 4 rfl (hanc 4 (mem_of (by kernel_rfl)))
                    have e9 := hk.get 9 rfl (hanc 9 (mem_of (by kernel_rfl)))
                    refine op_plain (ro := none) rfl (fun c h => by cases h) fun K hK => ?_
                    simp only [fillL, List.setIfInBounds_toArray, List.set_cons_zero, List.set_cons_succ, Nat.zero_add, Nat.reduceAdd, e4, e9] at hK ⊢
                    go_simp
                    exact hK _ _ ⟨hk.new rfl, hg⟩
                  · rintro u w14 ⟨done', hdn, hk, hg⟩
                    have e10 := hk.get 10 rfl (hdn 10 (by decide))
                    simp only [fillL, List.setIfInBounds_toArray, List.set_cons_zero, List.set_cons_succ, Nat.zero_add, Nat.reduceAdd, e10]
                    clear hk hdn e10
                    replace G := G.trans hg
                    replace hC := hC.gr hg
                    replace GB_ := GB_.trans hg
                    replace GBB_ := GBB_.trans hg
                    replace hf := hf.gr hg
                    replace hx := hx.gr hg
                    replace hP := hP.gr hg
                    replace hR3 := hR3.gr hg
                    replace hO := hO.gr hg
                    replace hOi := hOi.gr hg
                    clear hg
                    clear c0 c1 c2 c3 c4 c5 c6 c7 c8
                    have c0 : w14.cell? (⟨w.heap.size, 0, none⟩) = some (.slice ta tn tc) := hC.at 0 rfl
                    have c1 : w14.cell? (⟨w.heap.size, 1, none⟩) = some (.slice ca cn cc) := hC.at 1 rfl
                    have c2 : w14.cell? (pd.add (k * 4)) = some (.int .i64 p.c) := hC.at 2 rfl
                    have c3 : w14.cell? (⟨(pd.add (k * 4)).block, (pd.add (k * 4)).off + 1, none⟩) = some (.int .i64 p.v) := hC.at 3 rfl
                    have c4 : w14.cell? (⟨(pd.add (k * 4)).block, (pd.add (k * 4)).off + 2, none⟩) = some (.string p.data) := hC.at 4 rfl
                    have c5 : w14.cell? (⟨(pd.add (k * 4)).block, (pd.add (k * 4)).off + 3, none⟩) = some (.int .i64 p.tg) := hC.at 5 rfl
                    have c6 : w14.cell? (sd.add p.c.toNat) = some (.int .i64 (xs[p.c.toNat]?.getD 0)) := hC.at 6 rfl
                    have c7 : w14.cell? (⟨g9, p.c.toNat, none⟩) = some (.int .i64 (cur[p.c.toNat]?.getD 0)) := hC.at 7 rfl
                    have c8 : w14.cell? (pd.add (j * 4)) = some (.int .i64 ((P[j]?.getD default).c)) := hC.at 8 rfl
                    by_cases h15 : ((P[j]?.getD default).c : Int) = p.c
                    · have h15b : (((P[j]?.getD default).c : Int) == p.c) = true := by simp [h15]
                      have Hh15 := Lib.hid h15
                      clear h15
                      have HANY := Lib.hid (any_take_hit hjk (by rw [HPL.out]; omega) Hh15.out)
                      go_wp2_with fail
                      go_ret3
                      have HI2 : Hid (instL f se xs [] P xs = ((k : Int), 1, [])) := Lib.hid (by rw [← HI.out, hdr.out, instL, if_pos Hh12.out, if_pos HANY.out, List.length_take, HPL.out, Nat.min_eq_left (Nat.le_of_lt hlt)])
                      have HR3 : Hid (instR f se xs P = ([], (k : Int), 1)) := Lib.hid (by rw [HR2.out, HI2.out, if_neg (by simp)])
                      exact ⟨none, 0, 0, by rw [HR3.out]; rfl, by rw [HR3.out]; exact Ints.nil _, G⟩
                    · have h15b : (((P[j]?.getD default).c : Int) == p.c) = false := by simp [h15]
                      have Hh15 := Lib.hid h15
                      clear h15
                      go_wp2_with fail
                      go_roundw
                      case rel => exact ⟨j + 1, by omega, by go_num, GBB_, Lib.hid (fun t ht => by
                                  by_cases e : t = j
                                  · subst e; exact Hh15.out
                                  · exact hall.out t (by omega))⟩
                      case measure => simp [intOf] <;> omega
                · obtain rfl : k = j := by omega
                  have HANY := Lib.hid (any_take_none (P := P) (x := p.c) (k := k) (by rw [HPL.out]; omega) hall.out)
                  go_wp2_with fail
                  refine (wpIn_wide (n := 0)).1 ?_
                  refine region_inv (F := Fence.wide) (by kernel_rfl) (by rfl) (by decide) (fun _ => trivial)
                    (fun done' u W' => Kn [some (.slice (some pd) ln lc), some (.int .i64 k), some (.pointer (some (pd.add (k * 4)))), some (.pointer (some (⟨(pd.add (k * 4)).block, (pd.add (k * 4)).off + 1, none⟩))), some (.int .i64 p.v), some (.slice (some sd) n c), some (.slice (some pd) ln lc), some (.int .i64 k), some (.pointer (some (pd.add (k * 4)))), some (.pointer (some (pd.add (k * 4)))), some (.int .i64 p.c), some (.pointer (some (sd.add p.c.toNat))), some (.int .i64 (xs[p.c.toNat]?.getD 0)), some (.bool (decide ((p.v : Int) ≤ (xs[p.c.toNat]?.getD 0))))] done' u ∧ Gr wr W')
                    (fun u => ⟨Kn.start _ _, Gr.drew wr⟩) ⟨?_, ?_, ?_, ?_, ?_, ?_, ?_, ?_, ?_, ?_, ?_, ?_, ?_, ?_, trivial⟩ ?_
                  · rintro u done' W' hd hanc hclo ⟨hk, hg⟩
                    refine op_plain (ro := none) rfl (fun c h => by cases h) fun K hK => ?_
                    simp only [fillL, List.setIfInBounds_toArray, List.set_cons_zero, List.set_cons_succ, Nat.zero_add, Nat.reduceAdd] at hK ⊢
                    go_simp
                    exact hK _ _ ⟨hk.new rfl, hg⟩
                  · rintro u done' W' hd hanc hclo ⟨hk, hg⟩
                    refine op_plain (ro := none) rfl (fun c h => by cases h) fun K hK => ?_
                    simp only [fillL, List.setIfInBounds_toArray, List.set_cons_zero, List.set_cons_succ, Nat.zero_add, Nat.reduceAdd] at hK ⊢
                    go_simp
                    exact hK _ _ ⟨hk.new rfl, hg⟩
                  · rintro u done' W' hd hanc hclo ⟨hk, hg⟩
                    have e0 := hk.get 0 rfl (hanc 0 (mem_of (by kernel_rfl)))
                    have e1 := hk.get 1 rfl (hanc 1 (mem_of (by kernel_rfl)))
                    refine op_plain (ro := none) rfl (fun c h => by cases h) fun K hK => ?_
                    simp only [fillL, List.setIfInBounds_toArray, List.set_cons_zero, List.set_cons_succ, Nat.zero_add, Nat.reduceAdd, e0, e1] at hK ⊢
                    go_simp
                    exact hK _ _ ⟨hk.new rfl, hg⟩
                  · rintro u done' W' hd hanc hclo ⟨hk, hg⟩
                    have e2 := hk.get 2 rfl (hanc 2 (mem_of (by kernel_rfl)))
                    refine op_plain (ro := none) rfl (fun c h => by cases h) fun K hK => ?_
                    simp only [fillL, List.setIfInBounds_toArray, List.set_cons_zero, List.set_cons_succ, Nat.zero_add, Nat.reduceAdd, e2] at hK ⊢
                    go_simp
                    exact hK _ _ ⟨hk.new rfl, hg⟩
                  · rintro u done' W' hd hanc hclo ⟨hk, hg⟩
                    have e3 := hk.get 3 rfl (hanc 3 (mem_of (by kernel_rfl)))
                    refine op_plain (ro := none) rfl (fun c h => by cases h) fun K hK => ?_
                    have cc3 : W'.cell? (⟨(pd.add (k * 4)).block, (pd.add (k * 4)).off + 1, none⟩) = some (.int .i64 p.v) := (hC.gr hg).at 3 rfl
                    simp only [fillL, List.setIfInBounds_toArray, List.set_cons_zero, List.set_cons_succ, Nat.zero_add, Nat.reduceAdd, e3] at hK ⊢
                    go_simp
                    exact hK _ _ ⟨hk.new rfl, hg⟩
                  · rintro u done' W' hd hanc hclo ⟨hk, hg⟩
                    refine op_plain (ro := none) rfl (fun c h => by cases h) fun K hK => ?_
                    simp only [fillL, List.setIfInBounds_toArray, List.set_cons_zero, List.set_cons_succ, Nat.zero_add, Nat.reduceAdd] at hK ⊢
                    go_simp
                    exact hK _ _ ⟨hk.new rfl, hg⟩
                  · rintro u done' W' hd hanc hclo ⟨hk, hg⟩
                    refine op_plain (ro := none) rfl (fun c h => by cases h) fun K hK => ?_
                    simp only [fillL, List.setIfInBounds_toArray, List.set_cons_zero, List.set_cons_succ, Nat.zero_add, Nat.reduceAdd] at hK ⊢
                    go_simp
                    exact hK _ _ ⟨hk.new rfl, hg⟩
                  · rintro u done' W' hd hanc hclo ⟨hk, hg⟩
                    refine op_plain (ro := none) rfl (fun c h => by cases h) fun K hK => ?_
                    simp only [fillL, List.setIfInBounds_toArray, List.set_cons_zero, List.set_cons_succ, Nat.zero_add, Nat.reduceAdd] at hK ⊢
                    go_simp
                    exact hK _ _ ⟨hk.new rfl, hg⟩
                  · rintro u done' W' hd hanc hclo ⟨hk, hg⟩
                    have e6 := hk.get 6 rfl (hanc 6 (mem_of (by kernel_rfl)))
                    have e7 := hk.get 7 rfl (hanc 7 (mem_of (by kernel_rfl)))
                    refine op_plain (ro := none) rfl (fun c h => by cases h) fun K hK => ?_
                    simp only [fillL, List.setIfInBounds_toArray, List.set_cons_zero, List.set_cons_succ, Nat.zero_add, Nat.reduceAdd, e6, e7] at hK ⊢
                    go_simp
                    exact hK _ _ ⟨hk.new rfl, hg⟩
                  · rintro u done' W' hd hanc hclo ⟨hk, hg⟩
                    have e8 := hk.get 8 rfl (hanc 8 (mem_of (by kernel_rfl)))
                    refine op_plain (ro := none) rfl (fun c h => by cases h) fun K hK => ?_
                    simp only [fillL, List.setIfInBounds_toArray, List.set_cons_zero, List.set_cons_succ, Nat.zero_add, Nat.reduceAdd, e8] at hK ⊢
                    go_simp
                    exact hK _ _ ⟨hk.new rfl, hg⟩
                  · rintro u done' W' hd hanc hclo ⟨hk, hg⟩
                    have e9 := hk.get 9 rfl (hanc 9 (mem_of (by kernel_rfl)))
                    refine op_plain (ro := none) rfl (fun c h => by cases h) fun K hK => ?_
                    have cc2 : W'.cell? (pd.add (k * 4)) = some (.int .i64 p.c) := (hC.gr hg).at 2 rfl
                    simp only [fillL, List.setIfInBounds_toArray, List.set_cons_zero, List.set_cons_succ, Nat.zero_add, Nat.reduceAdd, e9] at hK ⊢
                    go_simp
                    exact hK _ _ ⟨hk.new rfl, hg⟩
                  · rintro u done' W' hd hanc hclo ⟨hk, hg⟩
                    have e5 := hk.get 5 rfl (hanc 5 (mem_of (by kernel_rfl)))
                    have e10 := hk.get 10 rfl (hanc 10 (mem_of (by kernel_rfl)))
                    refine op_plain (ro := none) rfl (fun c h => by cases h) fun K hK => ?_
                    simp only [fillL, List.setIfInBounds_toArray, List.set_cons_zero, List.set_cons_succ, Nat.zero_add, Nat.reduceAdd, e5, e10] at hK ⊢
                    go_simp
                    exact hK _ _ ⟨hk.new rfl, hg⟩
                  · rintro u done' W' hd hanc hclo ⟨hk, hg⟩
                    have e11 := hk.get 11 rfl (hanc 11 (mem_of (by kernel_rfl)))
                    refine op_plain (ro := none) rfl (fun c h => by cases h) fun K hK => ?_
                    have cc6 : W'.cell? (sd.add p.c.toNat) = some (.int .i64 (xs[p.c.toNat]?.getD 0)) := (hC.gr hg).at 6 rfl
                    simp only [fillL, List.setIfInBounds_toArray, List.set_cons_zero, List.set_cons_succ, Nat.zero_add, Nat.reduceAdd, e11] at hK ⊢
                    go_simp
                    exact hK _ _ ⟨hk.new rfl, hg⟩
                  · rintro u done' W' hd hanc hclo ⟨hk, hg⟩
                    have e4 := hk.get 4 rfl (hanc 4 (mem_of (by kernel_rfl)))
                    have e12 := hk.get 12 rfl (hanc 12 (mem_of (by kernel_rfl)))
                    refine op_plain (ro := none) rfl (fun c h => by cases h) fun K hK => ?_
                    simp only [fillL, List.setIfInBounds_toArray, List.set_cons_zero, List.set_cons_succ, Nat.zero_add, Nat.reduceAdd, e4, e12] at hK ⊢
                    go_simp
                    exact hK _ _ ⟨hk.new rfl, hg⟩
                  · rintro u w16 ⟨done', hdn, hk, hg⟩
                    have e13 := hk.get 13 rfl (hdn 13 (by decide))
                    simp only [fillL, List.setIfInBounds_toArray, List.set_cons_zero, List.set_cons_succ, Nat.zero_add, Nat.reduceAdd, e13]
                    clear hk hdn e13
                    replace G := G.trans hg
                    replace hC := hC.gr hg
                    replace GB_ := GB_.trans hg
                    replace GBB_ := GBB_.trans hg
                    replace hf := hf.gr hg
                    replace hx := hx.gr hg
                    replace hP := hP.gr hg
                    replace hR3 := hR3.gr hg
                    replace hO := hO.gr hg
                    replace hOi := hOi.gr hg
                    clear hg
                    clear c0 c1 c2 c3 c4 c5 c6 c7
                    have c0 : w16.cell? (⟨w.heap.size, 0, none⟩) = some (.slice ta tn tc) := hC.at 0 rfl
                    have c1 : w16.cell? (⟨w.heap.size, 1, none⟩) = some (.slice ca cn cc) := hC.at 1 rfl
                    have c2 : w16.cell? (pd.add (k * 4)) = some (.int .i64 p.c) := hC.at 2 rfl
                    have c3 : w16.cell? (⟨(pd.add (k * 4)).block, (pd.add (k * 4)).off + 1, none⟩) = some (.int .i64 p.v) := hC.at 3 rfl
                    have c4 : w16.cell? (⟨(pd.add (k * 4)).block, (pd.add (k * 4)).off + 2, none⟩) = some (.string p.data) := hC.at 4 rfl
                    have c5 : w16.cell? (⟨(pd.add (k * 4)).block, (pd.add (k * 4)).off + 3, none⟩) = some (.int .i64 p.tg) := hC.at 5 rfl
                    have c6 : w16.cell? (sd.add p.c.toNat) = some (.int .i64 (xs[p.c.toNat]?.getD 0)) := hC.at 6 rfl
                    have c7 : w16.cell? (⟨g9, p.c.toNat, none⟩) = some (.int .i64 (cur[p.c.toNat]?.getD 0)) := hC.at 7 rfl
                    by_cases h17 : (p.v : Int) ≤ (xs[p.c.toNat]?.getD 0)
                    · go_wp2_with fail
                      go_ret3
                      have HI2 : Hid (instL f se xs [] P xs = ((k : Int), 112, [])) := Lib.hid (by rw [← HI.out, hdr.out, instL, if_pos Hh12.out, if_neg (by rw [HANY.out]; decide), if_pos h17, List.length_take, HPL.out, Nat.min_eq_left (Nat.le_of_lt hlt)])
                      have HR3 : Hid (instR f se xs P = ([], (k : Int), 112)) := Lib.hid (by rw [HR2.out, HI2.out, if_neg (by simp)])
                      exact ⟨none, 0, 0, by rw [HR3.out]; rfl, by rw [HR3.out]; exact Ints.nil _, G⟩
                    · go_wp2_with fail
                      refine (wpIn_wide (n := 0)).1 ?_
                      refine region_inv (F := Fence.wide) (by kernel_rfl) (by rfl) (by decide) (fun _ => trivial)
                        (fun done' u W' => Kn [some (.slice (some ⟨g9, 0, none⟩) n cg9), some (.slice (some pd) ln lc), some (.int .i64 k), some (.pointer (some (pd.add (k * 4)))), some (.pointer (some (pd.add (k * 4)))), some (.int .i64 p.c), some (.slice (some pd) ln lc), some (.int .i64 k), some (.pointer (some (pd.add (k * 4)))), some (.pointer (some (⟨(pd.add (k * 4)).block, (pd.add (k * 4)).off + 1, none⟩))), some (.int .i64 p.v), some (.pointer (some (⟨g9, p.c.toNat, none⟩))), none] done' u ∧ Tail 12 w16 (fun W => W = w16.drew.setCell (⟨g9, p.c.toNat, none⟩) (.int .i64 p.v)) done' W')
                        (fun u => ⟨Kn.start _ _, Tail.start⟩) ⟨?_, ?_, ?_, ?_, ?_, ?_, ?_, ?_, ?_, ?_, ?_, ?_, ?_, trivial⟩ ?_
                      · rintro u done' W' hd hanc hclo ⟨hk, hT⟩
                        refine op_plain (ro := none) rfl (fun c h => by cases h) fun K hK => ?_
                        simp only [fillL, List.setIfInBounds_toArray, List.set_cons_zero, List.set_cons_succ, Nat.zero_add, Nat.reduceAdd] at hK ⊢
                        go_simp
                        exact hK _ _ ⟨hk.new rfl, hT.quiet (by decide)⟩
                      · rintro u done' W' hd hanc hclo ⟨hk, hT⟩
                        refine op_plain (ro := none) rfl (fun c h => by cases h) fun K hK => ?_
                        simp only [fillL, List.setIfInBounds_toArray, List.set_cons_zero, List.set_cons_succ, Nat.zero_add, Nat.reduceAdd] at hK ⊢
                        go_simp
                        exact hK _ _ ⟨hk.new rfl, hT.quiet (by decide)⟩
                      · rintro u done' W' hd hanc hclo ⟨hk, hT⟩
                        refine op_plain (ro := none) rfl (fun c h => by cases h) fun K hK => ?_
                        simp only [fillL, List.setIfInBounds_toArray, List.set_cons_zero, List.set_cons_succ, Nat.zero_add, Nat.reduceAdd] at hK ⊢
                        go_simp
                        exact hK _ _ ⟨hk.new rfl, hT.quiet (by decide)⟩
                      · rintro u done' W' hd hanc hclo ⟨hk, hT⟩
                        have e1 := hk.get 1 rfl (hanc 1 (mem_of (by kernel_rfl)))
                        have e2 := hk.get 2 rfl (hanc 2 (mem_of (by kernel_rfl)))
                        refine op_plain (ro := none) rfl (fun c h => by cases h) fun K hK => ?_
                        simp only [fillL, List.setIfInBounds_toArray, List.set_cons_zero, List.set_cons_succ, Nat.zero_add, Nat.reduceAdd, e1, e2] at hK ⊢
                        go_simp
                        exact hK _ _ ⟨hk.new rfl, hT.quiet (by decide)⟩
                      · rintro u done' W' hd hanc hclo ⟨hk, hT⟩
                        have e3 := hk.get 3 rfl (hanc 3 (mem_of (by kernel_rfl)))
                        refine op_plain (ro := none) rfl (fun c h => by cases h) fun K hK => ?_
                        simp only [fillL, List.setIfInBounds_toArray, List.set_cons_zero, List.set_cons_succ, Nat.zero_add, Nat.reduceAdd, e3] at hK ⊢
                        go_simp
                        exact hK _ _ ⟨hk.new rfl, hT.quiet (by decide)⟩
                      · rintro u done' W' hd hanc hclo ⟨hk, hT⟩
                        have e4 := hk.get 4 rfl (hanc 4 (mem_of (by kernel_rfl)))
                        obtain rfl := hT.before (not_done hclo hd 12 rfl (by kernel_rfl))
                        have cc2 : w16.drew.cell? (pd.add (k * 4)) = some (.int .i64 p.c) := (hC.gr (Gr.drew _)).at 2 rfl
                        refine op_plain (ro := none) rfl (fun c h => by cases h) fun K hK => ?_
                        simp only [fillL, List.setIfInBounds_toArray, List.set_cons_zero, List.set_cons_succ, Nat.zero_add, Nat.reduceAdd, e4] at hK ⊢
                        go_simp
                        exact hK _ _ ⟨hk.new rfl, hT.quiet (by decide)⟩
                      · rintro u done' W' hd hanc hclo ⟨hk, hT⟩
                        refine op_plain (ro := none) rfl (fun c h => by cases h) fun K hK => ?_
                        simp only [fillL, List.setIfInBounds_toArray, List.set_cons_zero, List.set_cons_succ, Nat.zero_add, Nat.reduceAdd] at hK ⊢
                        go_simp
                        exact hK _ _ ⟨hk.new rfl, hT.quiet (by decide)⟩
                      · rintro u done' W' hd hanc hclo ⟨hk, hT⟩
                        refine op_plain (ro := none) rfl (fun c h => by cases h) fun K hK => ?_
                        simp only [fillL, List.setIfInBounds_toArray, List.set_cons_zero, List.set_cons_succ, Nat.zero_add, Nat.reduceAdd] at hK ⊢
                        go_simp
                        exact hK _ _ ⟨hk.new rfl, hT.quiet (by decide)⟩
                      · rintro u done' W' hd hanc hclo ⟨hk, hT⟩
                        have e6 := hk.get 6 rfl (hanc 6 (mem_of (by kernel_rfl)))
                        have e7 := hk.get 7 rfl (hanc 7 (mem_of (by kernel_rfl)))
                        refine op_plain (ro := none) rfl (fun c h => by cases h) fun K hK => ?_
                        simp only [fillL, List.setIfInBounds_toArray, List.set_cons_zero, List.set_cons_succ, Nat.zero_add, Nat.reduceAdd, e6, e7] at hK ⊢
                        go_simp
                        exact hK _ _ ⟨hk.new rfl, hT.quiet (by decide)⟩
                      · rintro u done' W' hd hanc hclo ⟨hk, hT⟩
                        have e8 := hk.get 8 rfl (hanc 8 (mem_of (by kernel_rfl)))
                        refine op_plain (ro := none) rfl (fun c h => by cases h) fun K hK => ?_
                        simp only [fillL, List.setIfInBounds_toArray, List.set_cons_zero, List.set_cons_succ, Nat.zero_add, Nat.reduceAdd, e8] at hK ⊢
                        go_simp
                        exact hK _ _ ⟨hk.new rfl, hT.quiet (by decide)⟩
                      · rintro u done' W' hd hanc hclo ⟨hk, hT⟩
                        have e9 := hk.get 9 rfl (hanc 9 (mem_of (by kernel_rfl)))
                        obtain rfl := hT.before (not_done hclo hd 12 rfl (by kernel_rfl))
                        have cc3 : w16.drew.cell? (⟨(pd.add (k * 4)).block, (pd.add (k * 4)).off + 1, none⟩) = some (.int .i64 p.v) := (hC.gr (Gr.drew _)).at 3 rfl
                        refine op_plain (ro := none) rfl (fun c h => by cases h) fun K hK => ?_
                        simp only [fillL, List.setIfInBounds_toArray, List.set_cons_zero, List.set_cons_succ, Nat.zero_add, Nat.reduceAdd, e9] at hK ⊢
                        go_simp
                        exact hK _ _ ⟨hk.new rfl, hT.quiet (by decide)⟩
                      · rintro u done' W' hd hanc hclo ⟨hk, hT⟩
                        have e0 := hk.get 0 rfl (hanc 0 (mem_of (by kernel_rfl)))
                        have e5 := hk.get 5 rfl (hanc 5 (mem_of (by kernel_rfl)))
                        refine op_plain (ro := none) rfl (fun c h => by cases h) fun K hK => ?_
                        simp only [fillL, List.setIfInBounds_toArray, List.set_cons_zero, List.set_cons_succ, Nat.zero_add, Nat.reduceAdd, e0, e5] at hK ⊢
                        go_simp
                        exact hK _ _ ⟨hk.new rfl, hT.quiet (by decide)⟩
                      · rintro u done' W' hd hanc hclo ⟨hk, hT⟩
                        have e10 := hk.get 10 rfl (hanc 10 (mem_of (by kernel_rfl)))
                        have e11 := hk.get 11 rfl (hanc 11 (mem_of (by kernel_rfl)))
                        obtain rfl := hT.before hd
                        have cc7 : w16.drew.cell? (⟨g9, p.c.toNat, none⟩) = some (.int .i64 (cur[p.c.toNat]?.getD 0)) := (hC.gr (Gr.drew _)).at 7 rfl
                        have hff : w16.drew.frozen? (⟨g9, p.c.toNat, none⟩) = false := (hO.gr (Gr.drew _)).free p.c.toNat
                        refine op_plain (ro := none) rfl (fun c h => by cases h) fun K hK => ?_
                        simp only [fillL, List.setIfInBounds_toArray, List.set_cons_zero, List.set_cons_succ, Nat.zero_add, Nat.reduceAdd, e10, e11] at hK ⊢
                        go_simp
                        exact hK undef _ ⟨hk.skip rfl, Tail.done rfl⟩
                      · rintro u w18 ⟨done', hdn, hk, hT⟩
                        obtain rfl := hT.after (hdn 12 (by decide))
                        simp only [fillL, List.setIfInBounds_toArray, List.set_cons_zero, List.set_cons_succ, Nat.zero_add, Nat.reduceAdd]
                        clear hk hdn hT 
                        have HI2 : Hid (instL f se xs (P.take (k + 1)) (P.drop (k + 1)) (cur.set p.c.toNat p.v) = instL f se xs [] P xs) := Lib.hid (by rw [htk.out, ← HI.out, hdr.out, instL, if_pos Hh12.out, if_neg (by rw [HANY.out]; decide), if_neg (by have := h17; omega)])
                        have HS2 : Hid (StOk f (cur.set p.c.toNat p.v)) := Lib.hid (stOk_set HS.out hver)
                        go_wp2_with fail
                        go_roundw
                        case rel => exact ⟨k + 1, _, by omega, by go_num, GB_.drewR.setCell hge _, (hO.gr (Gr.drew _)).set hcn _, HS2, HI2⟩
                        case measure => simp [intOf] <;> omega
            · have h12b : ((acceptE f se p.c p.v p.data p.tg : Int) != 0) = true := by simp [h12]
              have Hh12 := Lib.hid h12
              clear h12
              go_wp2_with fail
              go_ret3
              have HI2 : Hid (instL f se xs [] P xs = ((k : Int), acceptE f se p.c p.v p.data p.tg, [])) := Lib.hid (by rw [← HI.out, hdr.out, instL, if_neg Hh12.out, List.length_take, HPL.out, Nat.min_eq_left (Nat.le_of_lt hlt)])
              have HR3 : Hid (instR f se xs P = ([], (k : Int), acceptE f se p.c p.v p.data p.tg)) := Lib.hid (by rw [HR2.out, HI2.out, if_neg (by exact Hh12.out)])
              exact ⟨none, 0, 0, by rw [HR3.out]; rfl, by rw [HR3.out]; exact Ints.nil _, G⟩
        · obtain rfl : k = ln := by omega
          have HI2 : Hid (instL f se xs [] P xs = (0, 0, cur)) := Lib.hid (by rw [← HI.out, List.drop_eq_nil_of_le (by rw [HPL.out]; exact Nat.le_refl _)]; simp [instL])
          have HC := Lib.hid (clash2_any ta ca a tn tc cn cc n c f xs wr hf hok hx hst)
          go_wp2_with fail
          refine HC.out.mono ?_
          rintro e w19 ⟨rfl, g⟩
          clear HC
          replace G := G.trans g
          replace hC := hC.gr g
          replace GB_ := GB_.trans g
          replace hf := hf.gr g
          replace hx := hx.gr g
          replace hP := hP.gr g
          replace hR3 := hR3.gr g
          replace hO := hO.gr g
          replace hOi := hOi.gr g
          clear g
          clear c0 c1
          have c0 : w19.cell? (⟨w.heap.size, 0, none⟩) = some (.slice ta tn tc) := hC.at 0 rfl
          have c1 : w19.cell? (⟨w.heap.size, 1, none⟩) = some (.slice ca cn cc) := hC.at 1 rfl
          by_cases h20 : (0 : Int) ≤ (clashI f xs)
          · have HWxs : Hid (worksB f xs = false) := Lib.hid (by unfold worksB; exact decide_eq_false (by omega))
            go_wp2_with fail
            go_ret3
            have HR3 : Hid (instR f se xs P = ([], 0, 111)) := Lib.hid (by rw [HR2.out, HI2.out, if_pos rfl, if_neg (by rw [show worksB f xs = false from HWxs.out]; simp)])
            exact ⟨none, 0, 0, by rw [HR3.out]; rfl, by rw [HR3.out]; exact Ints.nil _, G⟩
          · have HWxs : Hid (worksB f xs = true) := Lib.hid (by unfold worksB; exact decide_eq_true (by omega))
            have HC := Lib.hid (clash2_any ta ca (some ⟨g9, 0, none⟩) tn tc cn cc n cg9 f cur w19 hf hok hOi HS.out)
            go_wp2_with fail
            refine HC.out.mono ?_
            rintro e w21 ⟨rfl, g⟩
            clear HC
            replace G := G.trans g
            replace hC := hC.gr g
            replace GB_ := GB_.trans g
            replace hf := hf.gr g
            replace hx := hx.gr g
            replace hP := hP.gr g
            replace hR3 := hR3.gr g
            replace hO := hO.gr g
            replace hOi := hOi.gr g
            clear g
            clear c0 c1
            have c0 : w21.cell? (⟨w.heap.size, 0, none⟩) = some (.slice ta tn tc) := hC.at 0 rfl
            have c1 : w21.cell? (⟨w.heap.size, 1, none⟩) = some (.slice ca cn cc) := hC.at 1 rfl
            by_cases h22 : (0 : Int) ≤ (clashI f cur)
            · have HWcur : Hid (worksB f cur = false) := Lib.hid (by unfold worksB; exact decide_eq_false (by omega))
              go_wp2_with fail
              go_ret3
              have HR3 : Hid (instR f se xs P = ([], 0, 111)) := Lib.hid (by rw [HR2.out, HI2.out, if_pos rfl, if_neg (by rw [show worksB f cur = false from HWcur.out]; simp)])
              exact ⟨none, 0, 0, by rw [HR3.out]; rfl, by rw [HR3.out]; exact Ints.nil _, G⟩
            · have HWcur : Hid (worksB f cur = true) := Lib.hid (by unfold worksB; exact decide_eq_true (by omega))
              go_wp2_with fail
              go_ret3
              have HR3 : Hid (instR f se xs P = (cur, 0, 0)) := Lib.hid (by rw [HR2.out, HI2.out, if_pos rfl, if_pos (by rw [show worksB f xs = true from HWxs.out, show worksB f cur = true from HWcur.out, Bool.and_self])])
              exact ⟨_, _, _, by rw [HR3.out]; rfl, by rw [HR3.out]; exact hO.ints, G⟩
  · have h6b : ((statesE f ([xs]) : Int) != 0) = true := by simp [h6]
    have Hh6 := Lib.hid h6
    clear h6
    have HR : Hid (instR f se xs P = ([], 0, statesE f [xs])) := Lib.hid (by rw [instR, if_neg Hh6.out])
    go_wp2_with fail
    go_ret3
    exact ⟨none, 0, 0, by rw [HR.out]; rfl, by rw [HR.out]; exact Ints.nil _, G⟩
end
end Go.Proofs.Ytlilojpnhmfnaaa
