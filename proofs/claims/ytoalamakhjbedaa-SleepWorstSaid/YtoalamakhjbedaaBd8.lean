/- Several texts of this claim in one file. (1) Contract: Noises. (2) The play of a cluster: what a tick does, in plain words. Nothing of the program is proved here. (3) If nothing is lost, who is asked for is awake. Nothing of the program is proved here. (4) Whom nobody asks for, and who hears no noise, is asleep. Nothing of the program is proved here. (5) The greatest energy of a parked node, tick by tick; what a node takes in a play beyond the calls is no more. Nothing of the program is proved here. (6) The greatest number of awake ticks, as a table; tables of rows of numbers. Nothing of the program is walked here. (7) The noise of Noises hangs on the ticks awake alone; how long it is. Nothing of the program is proved here. -/
import Derived.Test.YtoalamakhjbedaaBd7
import Derived.Laws.StructEq
import Derived.Test.YtoalamakhjbedaaBd3
import Derived.Laws.MakeOwn
namespace Go.Proofs.Ytoalamakhjbedaa
section
open Go.RowKit

/-- the same energy, as often -/
def eq2 (x y : Int × Int) : Bool := x.1 == y.1 && x.2 == y.2
def takeB (p : Nd) (t x : Int) : Bool := eq2 (add2 (bestV p (t + 1 + wkN p t) (wkV p t (refV p t x) (wkN p t)).1) ((wkV p t (refV p t x) (wkN p t)).2, 1)) (bestV p t x)
/-- the ticks of noise -/
def noiF (p : Nd) : Nat → Int → Int → List Int
  | 0, _, _ => []
  | f + 1, t, x =>
    if p.T ≤ t then [] else if refV p t x = 0 then noiF p f (t + 1) (refV p t x)
    else if takeB p t x then t :: noiF p f (t + 1 + wkN p t) (wkV p t (refV p t x) (wkN p t)).1 else noiF p f (t + 1) (refV p t x)
def noiV (p : Nd) (t x : Int) : List Int := noiF p (p.T - t).toNat t x
theorem noiF_eq (p : Nd) : ∀ (f f' : Nat) (t x : Int), (p.T - t).toNat ≤ f → (p.T - t).toNat ≤ f' → noiF p f t x = noiF p f' t x := by
  intro f
  induction f with
  | zero =>
    intro f' t x h h'
    cases f' with
    | zero => rfl
    | succ f' =>
      unfold noiF
      rw [if_pos (by omega)]
  | succ f ih =>
    intro f' t x h h'
    cases f' with
    | zero =>
      unfold noiF
      rw [if_pos (by omega)]
    | succ f' =>
      unfold noiF
      by_cases ht : p.T ≤ t
      · rw [if_pos ht, if_pos ht]
      · rw [if_neg ht, if_neg ht, ih f' (t + 1) _ (by omega) (by omega), ih f' (t + 1 + wkN p t) _ (by omega) (by omega)]
section
variable {p : Nd} {t x : Int}
theorem noi_done (h : p.T ≤ t) : noiV p t x = [] := by
  unfold noiV
  rw [show (p.T - t).toNat = 0 by omega]; rfl
theorem noi_none (h : t < p.T) (ha : refV p t x = 0) : noiV p t x = noiV p (t + 1) (refV p t x) := by
  obtain ⟨f, hf⟩ : ∃ f, (p.T - t).toNat = f + 1 := ⟨(p.T - t).toNat - 1, by omega⟩
  unfold noiV
  rw [hf]
  conv => lhs; unfold noiF
  rw [if_neg (by omega), if_pos ha, noiF_eq p f (p.T - (t + 1)).toNat (t + 1) _ (by omega) (by omega)]
theorem noi_skip (h : t < p.T) (ha : ¬ refV p t x = 0) (hk : takeB p t x = false) : noiV p t x = noiV p (t + 1) (refV p t x) := by
  obtain ⟨f, hf⟩ : ∃ f, (p.T - t).toNat = f + 1 := ⟨(p.T - t).toNat - 1, by omega⟩
  unfold noiV
  rw [hf]
  conv => lhs; unfold noiF
  rw [if_neg (by omega), if_neg ha, if_neg (by rw [hk]; decide), noiF_eq p f (p.T - (t + 1)).toNat (t + 1) _ (by omega) (by omega)]
theorem noi_take (h : t < p.T) (ha : ¬ refV p t x = 0) (hk : takeB p t x = true) : noiV p t x = t :: noiV p (t + 1 + wkN p t) (wkV p t (refV p t x) (wkN p t)).1 := by
  obtain ⟨f, hf⟩ : ∃ f, (p.T - t).toNat = f + 1 := ⟨(p.T - t).toNat - 1, by omega⟩
  unfold noiV
  rw [hf]
  conv => lhs; unfold noiF
  rw [if_neg (by omega), if_neg ha, if_pos hk, noiF_eq p f (p.T - (t + 1 + wkN p t)).toNat (t + 1 + wkN p t) _ (by omega) (by omega)]
end
def noiR (gr hold : Int) (nd : List (List Int)) (i T : Int) : List Int := if nodeE gr hold nd i T = 0 then noiV (ndV nd hold i.toNat T) 0 (cv nd i.toNat 3) else []

def Bw (B : Nat) (W : World) : Prop := B ≤ W.heap.size
theorem Bw.gr {B : Nat} {W W' : World} (h : Bw B W) (g : Gr W W') : Bw B W' := Nat.le_trans h g.size
theorem Bw.only {B : Nat} {W W' : World} {S : Nat → Prop} (h : Bw B W) (g : Only S W W') : Bw B W' := Nat.le_trans h g.size
theorem fieldsOf_eq {o : Option TypeDesc} {f g : Array Field} (h : o = some (.struct f)) (k : o = some (.struct g)) : f = g := by rw [k] at h; injection h with h; injection h with h; exact h.symm
theorem Try.hm69 : Try.prog.eqGuardType Try.prog.depth 69 = false := by kernel_rfl
theorem Try.st69 : Try.prog.stoodInHeld 69 = false := by kernel_rfl
theorem Try.fo69 : Try.prog.underlying 69 = some (.struct (Try.prog.fieldsOf 69)) := by kernel_rfl
theorem Try.eq69 (x y : Operand) (a b c d : Int) (W : World) : (do eqGuard .eql 69 x y (.agg #[.int .i64 a, .int .i64 b]) (.agg #[.int .i64 c, .int .i64 d]); binOp .eql 69 (.agg #[.int .i64 a, .int .i64 b]) (.agg #[.int .i64 c, .int .i64 d]) : Sem Value).run Try.prog W = .ok (.bool (eq2 (a, b) (c, d))) W := by
  have h1 := run_eqGuard_agg (P := Try.prog) W .eql 69 x y #[Vi a, Vi b] #[Vi c, Vi d] Try.hm69
  have h2 := run_eql_struct (P := Try.prog) W 69 #[Vi a, Vi b] #[Vi c, Vi d]
  have h3 := run_equalIn_agg (P := Try.prog) W 9999 69 #[Vi a, Vi b] #[Vi c, Vi d] Try.fo69 Try.st69
  have h4 := fieldsOf_eq Try.fo69 Try.underlying69
  have s3 : Try.prog.cellsOf 3 = 1 := by kernel_rfl
  rw [Sem.run_bind, h1, Result.andThen_ok, h2, h3, h4]
  simp [Op.eqFields, part, go_sem, eq2]
  by_cases e1 : a = c <;> by_cases e2 : b = d <;> simp [e1, e2]

set_option maxRecDepth 100000 in
set_option maxHeartbeats 1000000 in
theorem noises_any (na : Option Addr) (n nc : Nat) (gr hold node T : Int) (nd : List (List Int)) (w : World) (hnd : StAt w 5 na n nd) :
  Calls Try.prog 33 #[.agg #[Vi gr, Vi hold, .slice na n nc], Vi node, Vi T] w fun e w' => ∃ a m c, e = .returned (.tuple #[.slice a m c, Vi (nodeE gr hold nd node T)]) ∧ Ints w' a m (noiR gr hold nd node T) ∧ Gr w w' := by
 have G := Gr.refl w
 have hnd0 := hnd
 have hlen := hnd.len
 have hlt := hnd.lt
 refine Y.calls 66 Try.func33 rfl rfl ?_
 intro ac F0
 have F : Fr ac 66 [(0, .agg #[Vi gr, Vi hold, .slice na n nc]), (1, Vi node), (2, Vi T)] := F0.sub _
 clear F0
 refine Y.seq ?_
 refine Y.lit (by kernel_rfl) ?_
 refine Y.pval F (X.w0 rfl) rfl (X.box rfl (F.e 0 rfl) X.bx) ?_
 clear F ac
 intro ac F
 have g := Gr.alloc w (.cells #[Vi gr, Vi hold, .slice na n nc] 24)
 have hb := heap_alloc_new w (.cells #[Vi gr, Vi hold, .slice na n nc] 24)
 have hbl : w.heap.size < (w.alloc (.cells #[Vi gr, Vi hold, .slice na n nc] 24)).heap.size := by simp
 have hC2 : RCells (w.alloc (.cells #[Vi gr, Vi hold, .slice na n nc] 24)) [(Ad w.heap.size 0, Vi gr), (Ad w.heap.size 1, Vi hold), (Ad w.heap.size 2, .slice na n nc)] := (RCells.nil w).box (b := w.heap.size) #[Vi gr, Vi hold, .slice na n nc] 24 rfl
 generalize w.alloc (.cells #[Vi gr, Vi hold, .slice na n nc] 24) = w3 at *
 replace G := G.trans g
 have hC := hC2
 clear hC2
 replace hnd := hnd.gr g
 clear g hb hbl
 refine Y.pval F (X.w0 rfl) rfl (X.assign rfl (X.kc (.slice none 0 0) rfl)) ?_
 clear F ac
 intro ac F
 refine Y.pval F (X.w0 rfl) rfl (X.assign rfl (X.kc (Vi 0) rfl)) ?_
 clear F ac
 intro ac F
 refine Y.nil ?_
 replace F : Fr ac 66 [(0, .agg #[Vi gr, Vi hold, .slice na n nc]), (1, Vi node), (2, Vi T), (3, Vp w.heap.size), (6, .slice none 0 0), (7, Vi 0)] := F.sub _
 refine X.thenN ?_
 refine Y.seq ?_
 refine Y.seq ?_
 refine Y.lit (by kernel_rfl) ?_
 refine Y.pval F (X.w0 rfl) rfl (X.load rfl (F.e 3 rfl) (X.ldN (Try.agg24 _) (Try.siz24 _) (Y.atz (⟨w.heap.size, 0, none⟩) (Y.AtFrom.cons (hC.at 0 rfl) (Y.AtFrom.cons (hC.at 1 rfl) (Y.AtFrom.cons (hC.at 2 rfl) (Y.AtFrom.nil _ _ _))))))) ?_
 clear F ac
 intro ac F
 refine Y.pval F (X.w0 rfl) rfl (X.move rfl (F.e 1 rfl)) ?_
 clear F ac
 intro ac F
 refine Y.pval F (X.w0 rfl) rfl (X.move rfl (F.e 2 rfl)) ?_
 clear F ac
 intro ac F
 refine Y.pcall F (X.w0 rfl) rfl (X.enter (F := 46) rfl (X.kc (.func (.func 46) #[] #[]) rfl) (X.a3 (F.e 15 rfl) (F.e 16 rfl) (F.e 17 rfl)) (enters_of Try.func46 (by kernel_rfl) rfl _)) (chkNode_any na n nc gr hold node T nd w3 hnd) ?_
 clear F ac
 rintro e w4 ⟨rfl, g⟩
 refine ⟨_, rfl, ?_⟩
 intro ac F
 replace G := G.trans g
 replace hC := hC.gr g
 replace hnd := hnd.gr g
 clear g
 refine Y.pval F (X.w0 rfl) rfl (X.assign rfl (F.e 18 rfl)) ?_
 clear F ac
 intro ac F
 refine Y.nil ?_
 replace F : Fr ac 66 [(0, .agg #[Vi gr, Vi hold, .slice na n nc]), (1, Vi node), (2, Vi T), (3, Vp w.heap.size), (6, .slice none 0 0), (7, Vi 0), (8, Vi (nodeE gr hold nd node T))] := F.sub _
 refine X.thenN ?_
 refine Y.seq ?_
 refine Y.lit (by kernel_rfl) ?_
 refine Y.pval F (X.w0 rfl) rfl (X.move rfl (F.e 8 rfl)) ?_
 clear F ac
 intro ac F
 refine Y.pval F (X.w0 rfl) rfl (X.binop rfl (F.e 19 rfl) (X.kc (Vi 0) rfl) (X.neqI Try.underlying26 rfl)) ?_
 clear F ac
 intro ac F
 refine Y.nil ?_
 replace F : Fr ac 66 [(0, .agg #[Vi gr, Vi hold, .slice na n nc]), (1, Vi node), (2, Vi T), (3, Vp w.heap.size), (6, .slice none 0 0), (7, Vi 0), (8, Vi (nodeE gr hold nd node T)), (20, .bool ((nodeE gr hold nd node T : Int) != 0))] := F.sub _
 refine X.thenN ?_
 cases h5 : ((nodeE gr hold nd node T : Int) != 0) with
 | false =>
  try rw [h5] at F
  have h5p : (nodeE gr hold nd node T : Int) = 0 := by simpa using h5
  have hE : nodeE gr hold nd node T = 0 := by simpa using h5p
  have hno_ := nodeE_ok hE
  have hc := (ticksE_ok hno_.1).1
  have hT : 0 ≤ T ∧ T ≤ 1001 := by have := (ticksE_ok hno_.1).2; omega
  obtain ⟨i, rfl⟩ : ∃ i : Nat, node = i := ⟨node.toNat, by omega⟩
  have hin : i < n := by omega
  refine Y.condF (F.e 20 rfl) ?_
  refine Y.skip ?_
  refine X.thenN ?_
  refine Y.seq ?_
  refine Y.lit (by kernel_rfl) ?_
  refine Y.pval F (X.w0 rfl) rfl (X.load rfl (F.e 3 rfl) (X.ldN (Try.agg24 _) (Try.siz24 _) (Y.atz (⟨w.heap.size, 0, none⟩) (Y.AtFrom.cons (hC.at 0 rfl) (Y.AtFrom.cons (hC.at 1 rfl) (Y.AtFrom.cons (hC.at 2 rfl) (Y.AtFrom.nil _ _ _))))))) ?_
  clear F ac
  intro ac F
  refine Y.pval F (X.w0 rfl) rfl (X.move rfl (F.e 1 rfl)) ?_
  clear F ac
  intro ac F
  refine Y.pval F (X.w0 rfl) rfl (X.move rfl (F.e 2 rfl)) ?_
  clear F ac
  intro ac F
  have hcb : w.heap.size < w4.heap.size := lt_cell (hC.at 0 rfl)
  have hgsw := G.size
  have hno := ndOk_of hc (i := i) (T := T) (by omega) hT.1 hT.2
  refine Y.pcall F (X.w0 rfl) rfl (X.enter (F := 47) rfl (X.kc (.func (.func 47) #[] #[]) rfl) (X.a3 (F.e 22 rfl) (F.e 23 rfl) (F.e 24 rfl)) (enters_of Try.func47 (by kernel_rfl) rfl _)) (newp_any na n nc hold i T gr nd w4 hnd (by omega)) ?_
  clear F ac
  rintro e w6 ⟨bq, bm, rfl, hq, hM, hbq, hbmB, hbm, g⟩
  refine ⟨_, rfl, ?_⟩
  intro ac F
  have h := hno
  have hpT : (ndV nd hold i T).T = T := rfl
  have hpb : (ndV nd hold i T).bu = cv nd i 3 := rfl
  generalize hpe : ndV nd hold i T = p at *
  generalize cv nd i 0 = gq at *
  have ha0 := h.a0
  have ha1 := h.a1
  have ha2 := h.a2
  have hb0 := h.b0
  have hb1 := h.b1
  have hr0 := h.r0
  have hr1 := h.r1
  have hh0 := h.h0
  have hh1 := h.h1
  have ht0_ := h.t0
  have ht1_ := h.t1
  replace G := G.trans g
  replace hC := hC.gr g
  replace hnd := hnd.gr g
  clear g
  have hC : RCells w6 [] := RCells.nil _
  have hgw1 := G.size
  have hqlt := hq.lt
  have hMlt := hM.lt
  refine Y.pval F (X.w0 rfl) rfl (X.assign rfl (F.e 25 rfl)) ?_
  clear F ac
  intro ac F
  refine Y.nil ?_
  replace F : Fr ac 66 [(0, .agg #[Vi gr, Vi hold, .slice na n nc]), (1, Vi i), (2, Vi T), (3, Vp w.heap.size), (6, .slice none 0 0), (7, Vi 0), (8, Vi (nodeE gr hold nd i T)), (9, Vp bq), (20, .bool false)] := F.sub _
  refine X.thenN ?_
  refine Y.seq ?_
  refine Y.seq ?_
  refine Y.lit (by kernel_rfl) ?_
  refine Y.pval F (X.w0 rfl) rfl (X.move rfl (F.e 9 rfl)) ?_
  clear F ac
  intro ac F
  refine Y.pcall F (X.w0 rfl) rfl (X.enter (F := 49) rfl (X.kc (.func (.func 49) #[] #[]) rfl) (X.a1 (F.e 26 rfl)) (enters_of Try.func49 (by kernel_rfl) rfl _)) (start_any bq bm gq p w6 hq) ?_
  clear F ac
  rintro e w7 ⟨rfl, g⟩
  refine ⟨_, rfl, ?_⟩
  intro ac F
  replace G := G.trans g
  replace hq := hq.gr g
  replace hM := hM.gr g
  clear g
  refine Y.pval F (X.w0 rfl) rfl (Y.al rfl (Try.new72 _)) ?_
  clear F ac
  intro ac F
  have hgshV8 := G.size
  have hqm9 : bq < w7.heap.size ∧ bm < w7.heap.size := ⟨hq.lt, hM.lt⟩
  have g := Gr.alloc w7 (.cells #[Vi 0, Vi 0] 72)
  have hb := heap_alloc_new w7 (.cells #[Vi 0, Vi 0] 72)
  have hbl : w7.heap.size < (w7.alloc (.cells #[Vi 0, Vi 0] 72)).heap.size := by simp
  generalize w7.alloc (.cells #[Vi 0, Vi 0] 72) = w10 at *
  replace G := G.trans g
  replace hq := hq.gr g
  replace hM := hM.gr g
  have hV8 := ownP_2 hb
  clear g hb hbl
  obtain ⟨w11, hrun, hS2, hon⟩ := hV8.st2 (P := Try.prog) (t := 72) (x := Vi 0) (y := Vi p.bu) (fun W => Try.siz72 W) rfl rfl
  refine Y.punit F (X.w0 rfl) rfl (X.store rfl (F.e 10 rfl) (F.e 27 rfl) hrun) ?_
  clear F ac hrun
  intro ac F
  replace G := Y.Only.up G hon (by omega)
  replace hq := hq.only hon (by show ¬ _ = _; omega)
  replace hM := hM.only hon (by show ¬ _ = _; omega)
  have hC : RCells w11 [] :=  (RCells.nil _)
  replace hV8 := hS2
  clear hS2 hon
  refine Y.nil ?_
  replace F : Fr ac 66 [(0, .agg #[Vi gr, Vi hold, .slice na n nc]), (1, Vi i), (2, Vi T), (3, Vp w.heap.size), (6, .slice none 0 0), (7, Vi 0), (8, Vi (nodeE gr hold nd i T)), (9, Vp bq), (10, Vp w7.heap.size), (20, .bool false)] := F.sub _
  refine X.thenN ?_
  refine Y.block ?_
  have hsz0 : bq < w11.heap.size ∧ bm < w11.heap.size := ⟨hq.lt, hM.lt⟩
  obtain ⟨B0, hB0⟩ : ∃ B0, w11.heap.size = B0 := ⟨_, rfl⟩
  have hgB := G.size
  rw [hB0] at hsz0 hgB
  refine Y.loop (fun me_ ac wr => ∃ (t x : Int) (sb : Nat) (v : Value) (D : List Int), me_ = (p.T - t).toNat ∧ (0 ≤ t ∧ t ≤ p.T ∧ (D.length : Int) ≤ t) ∧ (0 ≤ x ∧ x ≤ p.bu) ∧ D ++ noiV p t x = noiV p 0 p.bu ∧ (w.heap.size ≤ sb ∧ ¬ sb = bq ∧ ¬ sb = bm ∧ ∀ b, v.ownBlock = some b → ¬ b = sb) ∧ Gr w wr ∧ Bw B0 wr ∧ Pq wr bq gq p.aw p.za p.bu p.re p.hold p.T bm ∧ Memo wr bm (gdV p) ∧ OwnP wr sb 2 (VL [Vi t, Vi x]) ∧ OwnR wr B0 3 1 v D.length (D.map (Value.int .i64)) ∧ Fr ac 66 [(0, .agg #[Vi gr, Vi hold, .slice na n nc]), (1, Vi i), (2, Vi T), (3, Vp w.heap.size), (6, v), (7, Vi 0), (8, Vi (nodeE gr hold nd i T)), (9, Vp bq), (10, Vp sb), (20, .bool false)]) _ ⟨0, p.bu, _, _, [], rfl, ⟨Int.le_refl _, by omega, by simp⟩, ⟨by omega, Int.le_refl _⟩, rfl, ⟨by omega, by omega, by omega, fun b e => by simp [Value.ownBlock] at e⟩, G, Nat.le_of_eq hB0.symm, hq, hM, hV8, OwnR.nil _ _ _ _, F.sub _⟩ ?_
  clear F hC G hq hM hV8 ac hqlt hMlt
  intro me_ ac w12 hI
  obtain ⟨t, x, sb, v, D, rfl, ht, hx, hD, hsb, G, hBw, hq, hM, hV, hO, F⟩ := hI
  obtain ⟨hsw, hsq, hsm, hOs⟩ := hsb
  have hC : RCells w12 [] := RCells.nil _
  have hsl := hV.lt
  refine Y.seq ?_
  refine Y.seq ?_
  refine Y.lit (by kernel_rfl) ?_
  refine Y.pval F (X.w0 rfl) rfl (X.field rfl (F.e 10 rfl) (X.fld Try.underlying72 rfl (Try.siz3 _) rfl rfl)) ?_
  clear F ac
  intro ac F
  have hC : RCells w12 [(Ad sb 0, Vi t)] := (RCells.cons (hV.cell (k := 0) (by decide)) (RCells.nil _))
  refine Y.pval F (X.w0 rfl) rfl (X.load rfl (F.e 28 rfl) (X.ld1 (Try.agg3 _) (hC.at 0 rfl))) ?_
  clear F ac
  intro ac F
  refine Y.pval F (X.w0 rfl) rfl (X.move rfl (F.e 2 rfl)) ?_
  clear F ac
  intro ac F
  refine Y.pval F (X.w0 rfl) rfl (X.binop rfl (F.e 29 rfl) (F.e 30 rfl) (X.lssI Try.underlying3 rfl)) ?_
  clear F ac
  intro ac F
  refine Y.nil ?_
  replace F : Fr ac 66 [(0, .agg #[Vi gr, Vi hold, .slice na n nc]), (1, Vi i), (2, Vi T), (3, Vp w.heap.size), (6, v), (7, Vi 0), (8, Vi (nodeE gr hold nd i T)), (9, Vp bq), (10, Vp sb), (20, .bool false), (31, .bool (decide ((t : Int) < T)))] := F.sub _
  refine X.thenN ?_
  cases h13 : decide ((t : Int) < T) with
  | false =>
   try rw [h13] at F
   have h13p : ¬ ((t : Int) < T) := of_decide_eq_false h13
   refine Y.condF (F.e 31 rfl) ?_
   refine Y.exit ?_
   refine X.thenX ?_
   refine X.thenX ?_
   refine X.blockX ?_
   refine X.thenN ?_
   refine Y.seq ?_
   refine Y.lit (by kernel_rfl) ?_
   refine Y.pval F (X.w0 rfl) rfl (X.move rfl (F.e 6 rfl)) ?_
   clear F ac
   intro ac F
   refine Y.pval F (X.w0 rfl) rfl (X.assign rfl (F.e 65 rfl)) ?_
   clear F ac
   intro ac F
   refine Y.pval F (X.w0 rfl) rfl (X.assign rfl (X.kc (Vi 0) rfl)) ?_
   clear F ac
   intro ac F
   refine Y.nil ?_
   replace F : Fr ac 66 [(0, .agg #[Vi gr, Vi hold, .slice na n nc]), (1, Vi i), (2, Vi T), (3, Vp w.heap.size), (6, v), (7, Vi 0), (8, Vi (nodeE gr hold nd i T)), (9, Vp bq), (10, Vp sb), (20, .bool false), (31, .bool false)] := F.sub _
   refine X.thenN ?_
   refine Y.ret ?_
   rw [noi_done (show p.T ≤ t by omega), List.append_nil] at hD
   obtain ⟨a9, c9, rfl, hI9⟩ := hO.ints (by omega)
   rw [hD] at hI9
   have hDl : D.length = (noiV p 0 p.bu).length := by rw [hD]
   exact Y.ret0 (v := .tuple #[.slice a9 D.length c9, Vi 0]) F (Y.rs2 F rfl (by kernel_rfl) (by kernel_rfl)) ⟨a9, _, c9, by rw [hE], by unfold noiR; rw [if_pos hE, Int.toNat_natCast, hpe, ← hpb, hDl]; exact hI9, G⟩
  | true =>
   try rw [h13] at F
   have h13p : ((t : Int) < T) := of_decide_eq_true h13
   have htT : t < p.T := by omega
   have hrb := refV_bd h (t := t) hx.1 hx.2
   have hbs := bestV_bd h (t := (t : Int) + 1) (x := refV p t x) (by omega) hrb.1 hrb.2
   have hbt := bestV_bd h (t := t) (x := x) (by omega) hx.1 hx.2
   refine Y.condT (F.e 31 rfl) ?_
   refine Y.skip ?_
   refine X.thenN ?_
   refine Y.seq ?_
   refine Y.block ?_
   refine Y.seq ?_
   refine Y.lit (by kernel_rfl) ?_
   refine Y.pval F (X.w0 rfl) rfl (X.move rfl (F.e 9 rfl)) ?_
   clear F ac
   intro ac F
   replace hC : RCells w12 [(Ad sb 0, Vi t), (Ad sb 1, Vi x)] := hC.append ((RCells.cons (hV.cell (k := 1) (by decide)) (RCells.nil _)))
   refine Y.pval F (X.w0 rfl) rfl (X.load rfl (F.e 10 rfl) (X.ldN (Try.agg72 _) (Try.siz72 _) (Y.atz (⟨sb, 0, none⟩) (Y.AtFrom.cons (hC.at 0 rfl) (Y.AtFrom.cons (hC.at 1 rfl) (Y.AtFrom.nil _ _ _)))))) ?_
   clear F ac
   intro ac F
   refine Y.pcall F (X.w0 rfl) rfl (X.enter (F := 48) rfl (X.kc (.func (.func 48) #[] #[]) rfl) (X.a2 (F.e 32 rfl) (F.e 33 rfl)) (enters_of Try.func48 (by kernel_rfl) rfl _)) (best_any bq bm gq p h hbm 10000 t x w12 (by omega) ⟨by omega, by omega⟩ ⟨by omega, by omega⟩ hq hM) ?_
   clear F ac
   rintro e w14 ⟨rfl, hon, hM2⟩
   refine ⟨_, rfl, ?_⟩
   intro ac F
   replace G := Y.Only.up G hon (by omega)
   replace hq := hq.only hon (by show ¬ bq = bm; omega)
   replace hM := hM2
   replace hV := hV.only hon (by show ¬ sb = bm; omega)
   replace hO := hO.only hon (fun b e h => by have h1 := (hO.ge e).1; omega)
   replace hBw := hBw.only hon
   replace hC := (hC.kc hon 0 rfl (hC.kc hon 1 rfl (RCells.nil _)))
   clear hon
   refine Y.pval F (X.w0 rfl) rfl (Y.al rfl (Try.new69 _)) ?_
   clear F ac
   intro ac F
   have hgshV15 := G.size
   have hq16 : sb < w14.heap.size := hV.lt
   have hq17 : sb < w14.heap.size := lt_cell (hC.at 0 rfl)
   have hqm18 : bq < w14.heap.size ∧ bm < w14.heap.size := ⟨hq.lt, hM.lt⟩
   have hOq19 : ∀ b, v.ownBlock = some b → b < w14.heap.size := fun b e => (hO.ge e).2
   have g := Gr.alloc w14 (.cells #[Vi 0, Vi 0] 69)
   have hb := heap_alloc_new w14 (.cells #[Vi 0, Vi 0] 69)
   have hbl : w14.heap.size < (w14.alloc (.cells #[Vi 0, Vi 0] 69)).heap.size := by simp
   generalize w14.alloc (.cells #[Vi 0, Vi 0] 69) = w20 at *
   replace G := G.trans g
   replace hC := hC.gr g
   replace hq := hq.gr g
   replace hM := hM.gr g
   replace hV := hV.gr g
   replace hO := hO.gr g
   replace hBw := hBw.gr g
   have hV15 := ownP_2 hb
   clear g hb hbl
   obtain ⟨w21, hrun, hS2, hon⟩ := hV15.st2 (P := Try.prog) (t := 69) (x := Vi ((bestV p t x).1)) (y := Vi ((bestV p t x).2)) (fun W => Try.siz69 W) rfl rfl
   refine Y.punit F (X.w0 rfl) rfl (X.store rfl (F.e 11 rfl) (F.e 34 rfl) hrun) ?_
   clear F ac hrun
   intro ac F
   replace G := Y.Only.up G hon (by omega)
   replace hq := hq.only hon (by show ¬ _ = _; omega)
   replace hM := hM.only hon (by show ¬ _ = _; omega)
   replace hV := hV.only hon (by show ¬ _ = _; omega)
   replace hO := hO.only hon (fun b e h => by have h1 := (hO.ge e).1; have h2 := hOs _ e; have hOq19_ := hOq19 _ e; omega)
   replace hBw := hBw.only hon
   replace hC := (hC.kc hon 0 rfl (hC.kc hon 1 rfl (RCells.nil _)))
   replace hV15 := hS2
   clear hS2 hon
   refine Y.nil ?_
   replace F : Fr ac 66 [(0, .agg #[Vi gr, Vi hold, .slice na n nc]), (1, Vi i), (2, Vi T), (3, Vp w.heap.size), (6, v), (7, Vi 0), (8, Vi (nodeE gr hold nd i T)), (9, Vp bq), (10, Vp sb), (11, Vp w14.heap.size), (20, .bool false), (31, .bool true)] := F.sub _
   refine X.thenN ?_
   refine Y.seq ?_
   refine Y.seq ?_
   refine Y.lit (by kernel_rfl) ?_
   refine Y.pval F (X.w0 rfl) rfl (X.move rfl (F.e 9 rfl)) ?_
   clear F ac
   intro ac F
   refine Y.pval F (X.w0 rfl) rfl (X.load rfl (F.e 10 rfl) (X.ldN (Try.agg72 _) (Try.siz72 _) (Y.atz (⟨sb, 0, none⟩) (Y.AtFrom.cons (hC.at 0 rfl) (Y.AtFrom.cons (hC.at 1 rfl) (Y.AtFrom.nil _ _ _)))))) ?_
   clear F ac
   intro ac F
   by_cases hwk : refV p t x = 0
   ·have hwk := hwk
    refine Y.pcall F (X.w0 rfl) rfl (X.enter (F := 61) rfl (X.kc (.func (.func 61) #[] #[]) rfl) (X.a2 (F.e 36 rfl) (F.e 37 rfl)) (enters_of Try.func61 (by kernel_rfl) rfl _)) ((wake_any bq bm gq p t x w21 hq h (by omega) (by omega)).mono (fun e w h => by rw [if_pos hwk] at h; exact h)) ?_
    clear F ac
    rintro e w23 ⟨rfl, g⟩
    refine ⟨_, rfl, ?_⟩
    intro ac F
    replace G := G.trans g
    replace hC := hC.gr g
    replace hq := hq.gr g
    replace hM := hM.gr g
    replace hV := hV.gr g
    replace hO := hO.gr g
    replace hBw := hBw.gr g
    replace hV15 := hV15.gr g
    clear g
    refine Y.pval F (X.w0 rfl) rfl (X.move rfl (F.e 38 rfl)) ?_
    clear F ac
    intro ac F
    refine Y.pval F (X.w0 rfl) rfl (X.extract rfl (F.e 35 rfl) rfl) ?_
    clear F ac
    intro ac F
    refine Y.pval F (X.w0 rfl) rfl (X.extract rfl (F.e 35 rfl) rfl) ?_
    clear F ac
    intro ac F
    refine Y.pval F (X.w0 rfl) rfl (X.extract rfl (F.e 35 rfl) rfl) ?_
    clear F ac
    intro ac F
    refine Y.pval F (X.w0 rfl) rfl (Y.al rfl (Try.new72 _)) ?_
    clear F ac
    intro ac F
    have hgshV24 := G.size
    have hq25 : sb < w23.heap.size := hV.lt
    have hq26 : w14.heap.size < w23.heap.size := hV15.lt
    have hq27 : sb < w23.heap.size := lt_cell (hC.at 0 rfl)
    have hqm28 : bq < w23.heap.size ∧ bm < w23.heap.size := ⟨hq.lt, hM.lt⟩
    have hOq29 : ∀ b, v.ownBlock = some b → b < w23.heap.size := fun b e => (hO.ge e).2
    have g := Gr.alloc w23 (.cells #[Vi 0, Vi 0] 72)
    have hb := heap_alloc_new w23 (.cells #[Vi 0, Vi 0] 72)
    have hbl : w23.heap.size < (w23.alloc (.cells #[Vi 0, Vi 0] 72)).heap.size := by simp
    generalize w23.alloc (.cells #[Vi 0, Vi 0] 72) = w30 at *
    replace G := G.trans g
    replace hC := hC.gr g
    replace hq := hq.gr g
    replace hM := hM.gr g
    replace hV := hV.gr g
    replace hO := hO.gr g
    replace hBw := hBw.gr g
    replace hV15 := hV15.gr g
    have hV24 := ownP_2 hb
    clear g hb hbl
    refine Y.pval F (X.w0 rfl) rfl (Y.al rfl (Try.new69 _)) ?_
    clear F ac
    intro ac F
    have hgshV31 := G.size
    have hq32 : sb < w30.heap.size := hV.lt
    have hq33 : w14.heap.size < w30.heap.size := hV15.lt
    have hq34 : w23.heap.size < w30.heap.size := hV24.lt
    have hq35 : sb < w30.heap.size := lt_cell (hC.at 0 rfl)
    have hqm36 : bq < w30.heap.size ∧ bm < w30.heap.size := ⟨hq.lt, hM.lt⟩
    have hOq37 : ∀ b, v.ownBlock = some b → b < w30.heap.size := fun b e => (hO.ge e).2
    have g := Gr.alloc w30 (.cells #[Vi 0, Vi 0] 69)
    have hb := heap_alloc_new w30 (.cells #[Vi 0, Vi 0] 69)
    have hbl : w30.heap.size < (w30.alloc (.cells #[Vi 0, Vi 0] 69)).heap.size := by simp
    generalize w30.alloc (.cells #[Vi 0, Vi 0] 69) = w38 at *
    replace G := G.trans g
    replace hC := hC.gr g
    replace hq := hq.gr g
    replace hM := hM.gr g
    replace hV := hV.gr g
    replace hO := hO.gr g
    replace hBw := hBw.gr g
    replace hV15 := hV15.gr g
    replace hV24 := hV24.gr g
    have hV31 := ownP_2 hb
    clear g hb hbl
    obtain ⟨w39, hrun, hS2, hon⟩ := hV24.st2 (P := Try.prog) (t := 72) (x := Vi t) (y := Vi x) (fun W => Try.siz72 W) rfl rfl
    refine Y.punit F (X.w0 rfl) rfl (X.store rfl (F.e 12 rfl) (F.e 39 rfl) hrun) ?_
    clear F ac hrun
    intro ac F
    replace G := Y.Only.up G hon (by omega)
    replace hq := hq.only hon (by show ¬ _ = _; omega)
    replace hM := hM.only hon (by show ¬ _ = _; omega)
    replace hV := hV.only hon (by show ¬ _ = _; omega)
    replace hO := hO.only hon (fun b e h => by have h1 := (hO.ge e).1; have h2 := hOs _ e; have hOq19_ := hOq19 _ e; have hOq29_ := hOq29 _ e; have hOq37_ := hOq37 _ e; omega)
    replace hBw := hBw.only hon
    replace hV15 := hV15.only hon (by show ¬ _ = _; omega)
    replace hV31 := hV31.only hon (by show ¬ _ = _; omega)
    replace hC := (hC.kc hon 0 rfl (hC.kc hon 1 rfl (RCells.nil _)))
    replace hV24 := hS2
    clear hS2 hon
    obtain ⟨w40, hrun, hS2, hon⟩ := hV31.st2 (P := Try.prog) (t := 69) (x := Vi 0) (y := Vi 0) (fun W => Try.siz69 W) rfl rfl
    refine Y.punit F (X.w0 rfl) rfl (X.store rfl (F.e 13 rfl) (F.e 40 rfl) hrun) ?_
    clear F ac hrun
    intro ac F
    replace G := Y.Only.up G hon (by omega)
    replace hq := hq.only hon (by show ¬ _ = _; omega)
    replace hM := hM.only hon (by show ¬ _ = _; omega)
    replace hV := hV.only hon (by show ¬ _ = _; omega)
    replace hO := hO.only hon (fun b e h => by have h1 := (hO.ge e).1; have h2 := hOs _ e; have hOq19_ := hOq19 _ e; have hOq29_ := hOq29 _ e; have hOq37_ := hOq37 _ e; omega)
    replace hBw := hBw.only hon
    replace hV15 := hV15.only hon (by show ¬ _ = _; omega)
    replace hV24 := hV24.only hon (by show ¬ _ = _; omega)
    replace hC := (hC.kc hon 0 rfl (hC.kc hon 1 rfl (RCells.nil _)))
    replace hV31 := hS2
    clear hS2 hon
    refine Y.pval F (X.w0 rfl) rfl (X.assign rfl (F.e 41 rfl)) ?_
    clear F ac
    intro ac F
    refine Y.nil ?_
    replace F : Fr ac 66 [(0, .agg #[Vi gr, Vi hold, .slice na n nc]), (1, Vi i), (2, Vi T), (3, Vp w.heap.size), (6, v), (7, Vi 0), (8, Vi (nodeE gr hold nd i T)), (9, Vp bq), (10, Vp sb), (11, Vp w14.heap.size), (12, Vp w23.heap.size), (13, Vp w30.heap.size), (14, .bool false), (20, .bool false), (31, .bool true)] := F.sub _
    refine X.thenN ?_
    refine Y.seq ?_
    refine Y.region F [some (.bool false), some (.bool false), none, none, none, none, none, none, none, some (.bool false)] [] rfl ⟨by kernel_rfl, of_decide_eq_true (by kernel_rfl), by kernel_rfl, by kernel_rfl, by kernel_rfl⟩ ⟨?_, ?_, ?_, ?_, ?_, ?_, ?_, ?_, ?_, ?_, trivial⟩ ?_
    ·intro ac done u W Sx hR
     exact X.val (X.w0 rfl) rfl (X.move rfl (Sx.ev 14 (.bool false))) (hR.step (Gr.refl _) rfl)
    ·intro ac done u W Sx hR
     exact X.val (X.w0 rfl) rfl (X.move rfl (Sx.ev 42 (.bool false))) (hR.step (Gr.refl _) rfl)
    ·intro ac done u W Sx hR
     exact X.skip (X.w2 rfl (Sx.yl 1 43 false (by kernel_rfl) rfl rfl) rfl) rfl (hR.skip rfl)
    ·intro ac done u W Sx hR
     exact X.skip (X.w2 rfl (Sx.yl 1 43 false (by kernel_rfl) rfl rfl) rfl) rfl (hR.skip rfl)
    ·intro ac done u W Sx hR
     exact X.skip (X.w2 rfl (Sx.yl 1 43 false (by kernel_rfl) rfl rfl) rfl) rfl (hR.skip rfl)
    ·intro ac done u W Sx hR
     exact X.skip (X.w2 rfl (Sx.yl 1 43 false (by kernel_rfl) rfl rfl) rfl) rfl (hR.skip rfl)
    ·intro ac done u W Sx hR
     exact X.skip (X.w2 rfl (Sx.yl 1 43 false (by kernel_rfl) rfl rfl) rfl) rfl (hR.skip rfl)
    ·intro ac done u W Sx hR
     exact X.skip (X.w2 rfl (Sx.yl 1 43 false (by kernel_rfl) rfl rfl) rfl) rfl (hR.skip rfl)
    ·intro ac done u W Sx hR
     exact X.skip (X.w2 rfl (Sx.yl 1 43 false (by kernel_rfl) rfl rfl) rfl) rfl (hR.skip rfl)
    ·intro ac done u W Sx hR
     exact X.val (X.w0 rfl) rfl (X.pickF rfl (Sx.ev 43 (.bool false)) (X.kc (.bool false) rfl)) (hR.step (Gr.refl _) rfl)
    intro ac u w41 hs hd hl ho hR
    have g : Gr w40 w41 := hR.1
    replace F : Fr ac 66 [(0, .agg #[Vi gr, Vi hold, .slice na n nc]), (1, Vi i), (2, Vi T), (3, Vp w.heap.size), (6, v), (7, Vi 0), (8, Vi (nodeE gr hold nd i T)), (9, Vp bq), (10, Vp sb), (11, Vp w14.heap.size), (12, Vp w23.heap.size), (13, Vp w30.heap.size), (14, .bool false), (20, .bool false), (31, .bool true), (51, .bool false)] := X.fr hs hd hl _ (by kernel_rfl)
    clear hs hd hl ho hR
    replace G := G.trans g
    replace hC := hC.gr g
    replace hq := hq.gr g
    replace hM := hM.gr g
    replace hV := hV.gr g
    replace hO := hO.gr g
    replace hBw := hBw.gr g
    replace hV15 := hV15.gr g
    replace hV24 := hV24.gr g
    replace hV31 := hV31.gr g
    clear g
    refine X.thenN ?_
    refine Y.condF (F.e 51 rfl) ?_
    refine Y.skip ?_
    refine X.thenN ?_
    refine Y.lit (by kernel_rfl) ?_
    refine Y.pval F (X.w0 rfl) rfl (X.move rfl (F.e 9 rfl)) ?_
    clear F ac
    intro ac F
    refine Y.pval F (X.w0 rfl) rfl (X.load rfl (F.e 10 rfl) (X.ldN (Try.agg72 _) (Try.siz72 _) (Y.atz (⟨sb, 0, none⟩) (Y.AtFrom.cons (hC.at 0 rfl) (Y.AtFrom.cons (hC.at 1 rfl) (Y.AtFrom.nil _ _ _)))))) ?_
    clear F ac
    intro ac F
    refine Y.pcall F (X.w0 rfl) rfl (X.enter (F := 63) rfl (X.kc (.func (.func 63) #[] #[]) rfl) (X.a2 (F.e 59 rfl) (F.e 60 rfl)) (enters_of Try.func63 (by kernel_rfl) rfl _)) (stay_any bq bm gq p t x w41 hq h (by omega) (by omega)) ?_
    clear F ac
    rintro e w42 ⟨rfl, g⟩
    refine ⟨_, rfl, ?_⟩
    intro ac F
    replace G := G.trans g
    replace hC := hC.gr g
    replace hq := hq.gr g
    replace hM := hM.gr g
    replace hV := hV.gr g
    replace hO := hO.gr g
    replace hBw := hBw.gr g
    replace hV15 := hV15.gr g
    replace hV24 := hV24.gr g
    replace hV31 := hV31.gr g
    clear g
    refine Y.pval F (X.w0 rfl) rfl (X.move rfl (F.e 61 rfl)) ?_
    clear F ac
    intro ac F
    refine Y.pval F (X.w0 rfl) rfl (X.extract rfl (F.e 58 rfl) rfl) ?_
    clear F ac
    intro ac F
    refine Y.pval F (X.w0 rfl) rfl (X.extract rfl (F.e 58 rfl) rfl) ?_
    clear F ac
    intro ac F
    obtain ⟨w43, hrun, hS2, hon⟩ := hV.st2 (P := Try.prog) (t := 72) (x := Vi ((t : Int) + 1)) (y := Vi (refV p t x)) (fun W => Try.siz72 W) rfl rfl
    refine Y.punit F (X.w0 rfl) rfl (X.store rfl (F.e 10 rfl) (F.e 62 rfl) hrun) ?_
    clear F ac hrun
    intro ac F
    replace G := Y.Only.up G hon (by omega)
    replace hq := hq.only hon (by show ¬ _ = _; omega)
    replace hM := hM.only hon (by show ¬ _ = _; omega)
    replace hO := hO.only hon (fun b e h => by have h1 := (hO.ge e).1; have h2 := hOs _ e; have hOq19_ := hOq19 _ e; have hOq29_ := hOq29 _ e; have hOq37_ := hOq37 _ e; omega)
    replace hBw := hBw.only hon
    replace hV15 := hV15.only hon (by show ¬ _ = _; omega)
    replace hV24 := hV24.only hon (by show ¬ _ = _; omega)
    replace hV31 := hV31.only hon (by show ¬ _ = _; omega)
    replace hC : RCells w43 [] :=  (RCells.nil _)
    replace hV := hS2
    clear hS2 hon
    refine Y.nil ?_
    replace F : Fr ac 66 [(0, .agg #[Vi gr, Vi hold, .slice na n nc]), (1, Vi i), (2, Vi T), (3, Vp w.heap.size), (6, v), (7, Vi 0), (8, Vi (nodeE gr hold nd i T)), (9, Vp bq), (10, Vp sb), (11, Vp w14.heap.size), (12, Vp w23.heap.size), (13, Vp w30.heap.size), (14, .bool false), (20, .bool false), (31, .bool true), (51, .bool false)] := F.sub _
    refine X.blockN ?_
    refine X.thenN ?_
    refine Y.seq ?_
    refine Y.lit (by kernel_rfl) ?_
    have hC : RCells w43 [(Ad sb 0, Vi ((t : Int) + 1))] := (RCells.cons (hV.cell (k := 0) (by decide)) (RCells.nil _))
    replace hC : RCells w43 [(Ad sb 0, Vi ((t : Int) + 1)), (Ad sb 1, Vi (refV p t x))] := hC.append ((RCells.cons (hV.cell (k := 1) (by decide)) (RCells.nil _)))
    refine Y.pval F (X.w0 rfl) rfl (X.load rfl (F.e 10 rfl) (X.ldN (Try.agg72 _) (Try.siz72 _) (Y.atz (⟨sb, 0, none⟩) (Y.AtFrom.cons (hC.at 0 rfl) (Y.AtFrom.cons (hC.at 1 rfl) (Y.AtFrom.nil _ _ _)))))) ?_
    clear F ac
    intro ac F
    refine Y.nil ?_
    replace F : Fr ac 66 [(0, .agg #[Vi gr, Vi hold, .slice na n nc]), (1, Vi i), (2, Vi T), (3, Vp w.heap.size), (6, v), (7, Vi 0), (8, Vi (nodeE gr hold nd i T)), (9, Vp bq), (10, Vp sb), (11, Vp w14.heap.size), (12, Vp w23.heap.size), (13, Vp w30.heap.size), (14, .bool false), (20, .bool false), (31, .bool true), (51, .bool false), (64, .agg #[Vi ((t : Int) + 1), Vi (refV p t x)])] := F.sub _
    refine X.thenN ?_
    refine Y.lit (by kernel_rfl) ?_
    refine Y.pval F (X.w0 rfl) rfl (Y.al rfl (Try.new72 _)) ?_
    clear F ac
    intro ac F
    have hgshV44 := G.size
    have hq45 : sb < w43.heap.size := hV.lt
    have hq46 : w14.heap.size < w43.heap.size := hV15.lt
    have hq47 : w23.heap.size < w43.heap.size := hV24.lt
    have hq48 : w30.heap.size < w43.heap.size := hV31.lt
    have hq49 : sb < w43.heap.size := lt_cell (hC.at 0 rfl)
    have hqm50 : bq < w43.heap.size ∧ bm < w43.heap.size := ⟨hq.lt, hM.lt⟩
    have hOq51 : ∀ b, v.ownBlock = some b → b < w43.heap.size := fun b e => (hO.ge e).2
    have g := Gr.alloc w43 (.cells #[Vi 0, Vi 0] 72)
    have hb := heap_alloc_new w43 (.cells #[Vi 0, Vi 0] 72)
    have hbl : w43.heap.size < (w43.alloc (.cells #[Vi 0, Vi 0] 72)).heap.size := by simp
    generalize w43.alloc (.cells #[Vi 0, Vi 0] 72) = w52 at *
    replace G := G.trans g
    replace hC := hC.gr g
    replace hq := hq.gr g
    replace hM := hM.gr g
    replace hV := hV.gr g
    replace hO := hO.gr g
    replace hBw := hBw.gr g
    replace hV15 := hV15.gr g
    replace hV24 := hV24.gr g
    replace hV31 := hV31.gr g
    have hV44 := ownP_2 hb
    clear g hb hbl
    obtain ⟨w53, hrun, hS2, hon⟩ := hV44.st2 (P := Try.prog) (t := 72) (x := Vi ((t : Int) + 1)) (y := Vi (refV p t x)) (fun W => Try.siz72 W) rfl rfl
    refine Y.punit F (X.w0 rfl) rfl (X.store rfl (F.e 10 rfl) (F.e 64 rfl) hrun) ?_
    clear F ac hrun
    intro ac F
    replace G := Y.Only.up G hon (by omega)
    replace hq := hq.only hon (by show ¬ _ = _; omega)
    replace hM := hM.only hon (by show ¬ _ = _; omega)
    replace hV := hV.only hon (by show ¬ _ = _; omega)
    replace hO := hO.only hon (fun b e h => by have h1 := (hO.ge e).1; have h2 := hOs _ e; have hOq19_ := hOq19 _ e; have hOq29_ := hOq29 _ e; have hOq37_ := hOq37 _ e; have hOq51_ := hOq51 _ e; omega)
    replace hBw := hBw.only hon
    replace hV15 := hV15.only hon (by show ¬ _ = _; omega)
    replace hV24 := hV24.only hon (by show ¬ _ = _; omega)
    replace hV31 := hV31.only hon (by show ¬ _ = _; omega)
    replace hC := (hC.kc hon 0 rfl (hC.kc hon 1 rfl (RCells.nil _)))
    replace hV44 := hS2
    clear hS2 hon
    refine Y.nil ?_
    replace F : Fr ac 66 [(0, .agg #[Vi gr, Vi hold, .slice na n nc]), (1, Vi i), (2, Vi T), (3, Vp w.heap.size), (6, v), (7, Vi 0), (8, Vi (nodeE gr hold nd i T)), (9, Vp bq), (10, Vp w43.heap.size), (11, Vp w14.heap.size), (12, Vp w23.heap.size), (13, Vp w30.heap.size), (14, .bool false), (20, .bool false), (31, .bool true), (51, .bool false), (64, .agg #[Vi ((t : Int) + 1), Vi (refV p t x)])] := F.sub _
    refine X.thenN ?_
    refine ⟨_, ?_, (t : Int) + 1, refV p t x, _, _, D, rfl, ⟨by omega, by omega, by omega⟩, ⟨by omega, by omega⟩, by rw [← hD, noi_none htT hwk], ⟨by omega, by omega, by omega, fun b e => by have := hOq51 b e; omega⟩, G, hBw, hq, hM, hV44, hO, F.sub _⟩
    omega
   ·have hwk := hwk
    have hwb := wkV_bd h (t := t) (a := refV p t x) (by omega) hrb.2 (wkN p t)
    have hwn := wkN_bd h ht.1 htT
    have hwh := wkN_hold hh0 t
    have hby := bestV_bd h (t := (t : Int) + 1 + ((wkN p t : Nat) : Int)) (x := (wkV p t (refV p t x) (wkN p t)).1) (by omega) hwb.1.1 hwb.1.2
    refine Y.pcall F (X.w0 rfl) rfl (X.enter (F := 61) rfl (X.kc (.func (.func 61) #[] #[]) rfl) (X.a2 (F.e 36 rfl) (F.e 37 rfl)) (enters_of Try.func61 (by kernel_rfl) rfl _)) ((wake_any bq bm gq p t x w21 hq h (by omega) (by omega)).mono (fun e w h => by rw [if_neg hwk] at h; exact h)) ?_
    clear F ac
    rintro e w54 ⟨rfl, g⟩
    refine ⟨_, rfl, ?_⟩
    intro ac F
    replace G := G.trans g
    replace hC := hC.gr g
    replace hq := hq.gr g
    replace hM := hM.gr g
    replace hV := hV.gr g
    replace hO := hO.gr g
    replace hBw := hBw.gr g
    replace hV15 := hV15.gr g
    clear g
    refine Y.pval F (X.w0 rfl) rfl (X.move rfl (F.e 38 rfl)) ?_
    clear F ac
    intro ac F
    refine Y.pval F (X.w0 rfl) rfl (X.extract rfl (F.e 35 rfl) rfl) ?_
    clear F ac
    intro ac F
    refine Y.pval F (X.w0 rfl) rfl (X.extract rfl (F.e 35 rfl) rfl) ?_
    clear F ac
    intro ac F
    refine Y.pval F (X.w0 rfl) rfl (X.extract rfl (F.e 35 rfl) rfl) ?_
    clear F ac
    intro ac F
    refine Y.pval F (X.w0 rfl) rfl (Y.al rfl (Try.new72 _)) ?_
    clear F ac
    intro ac F
    have hgshV55 := G.size
    have hq56 : sb < w54.heap.size := hV.lt
    have hq57 : w14.heap.size < w54.heap.size := hV15.lt
    have hq58 : sb < w54.heap.size := lt_cell (hC.at 0 rfl)
    have hqm59 : bq < w54.heap.size ∧ bm < w54.heap.size := ⟨hq.lt, hM.lt⟩
    have hOq60 : ∀ b, v.ownBlock = some b → b < w54.heap.size := fun b e => (hO.ge e).2
    have g := Gr.alloc w54 (.cells #[Vi 0, Vi 0] 72)
    have hb := heap_alloc_new w54 (.cells #[Vi 0, Vi 0] 72)
    have hbl : w54.heap.size < (w54.alloc (.cells #[Vi 0, Vi 0] 72)).heap.size := by simp
    generalize w54.alloc (.cells #[Vi 0, Vi 0] 72) = w61 at *
    replace G := G.trans g
    replace hC := hC.gr g
    replace hq := hq.gr g
    replace hM := hM.gr g
    replace hV := hV.gr g
    replace hO := hO.gr g
    replace hBw := hBw.gr g
    replace hV15 := hV15.gr g
    have hV55 := ownP_2 hb
    clear g hb hbl
    refine Y.pval F (X.w0 rfl) rfl (Y.al rfl (Try.new69 _)) ?_
    clear F ac
    intro ac F
    have hgshV62 := G.size
    have hq63 : sb < w61.heap.size := hV.lt
    have hq64 : w14.heap.size < w61.heap.size := hV15.lt
    have hq65 : w54.heap.size < w61.heap.size := hV55.lt
    have hq66 : sb < w61.heap.size := lt_cell (hC.at 0 rfl)
    have hqm67 : bq < w61.heap.size ∧ bm < w61.heap.size := ⟨hq.lt, hM.lt⟩
    have hOq68 : ∀ b, v.ownBlock = some b → b < w61.heap.size := fun b e => (hO.ge e).2
    have g := Gr.alloc w61 (.cells #[Vi 0, Vi 0] 69)
    have hb := heap_alloc_new w61 (.cells #[Vi 0, Vi 0] 69)
    have hbl : w61.heap.size < (w61.alloc (.cells #[Vi 0, Vi 0] 69)).heap.size := by simp
    generalize w61.alloc (.cells #[Vi 0, Vi 0] 69) = w69 at *
    replace G := G.trans g
    replace hC := hC.gr g
    replace hq := hq.gr g
    replace hM := hM.gr g
    replace hV := hV.gr g
    replace hO := hO.gr g
    replace hBw := hBw.gr g
    replace hV15 := hV15.gr g
    replace hV55 := hV55.gr g
    have hV62 := ownP_2 hb
    clear g hb hbl
    obtain ⟨w70, hrun, hS2, hon⟩ := hV55.st2 (P := Try.prog) (t := 72) (x := Vi ((t : Int) + 1 + ((wkN p t : Nat) : Int))) (y := Vi ((wkV p t (refV p t x) (wkN p t)).1)) (fun W => Try.siz72 W) rfl rfl
    refine Y.punit F (X.w0 rfl) rfl (X.store rfl (F.e 12 rfl) (F.e 39 rfl) hrun) ?_
    clear F ac hrun
    intro ac F
    replace G := Y.Only.up G hon (by omega)
    replace hq := hq.only hon (by show ¬ _ = _; omega)
    replace hM := hM.only hon (by show ¬ _ = _; omega)
    replace hV := hV.only hon (by show ¬ _ = _; omega)
    replace hO := hO.only hon (fun b e h => by have h1 := (hO.ge e).1; have h2 := hOs _ e; have hOq19_ := hOq19 _ e; have hOq60_ := hOq60 _ e; have hOq68_ := hOq68 _ e; omega)
    replace hBw := hBw.only hon
    replace hV15 := hV15.only hon (by show ¬ _ = _; omega)
    replace hV62 := hV62.only hon (by show ¬ _ = _; omega)
    replace hC := (hC.kc hon 0 rfl (hC.kc hon 1 rfl (RCells.nil _)))
    replace hV55 := hS2
    clear hS2 hon
    obtain ⟨w71, hrun, hS2, hon⟩ := hV62.st2 (P := Try.prog) (t := 69) (x := Vi ((wkV p t (refV p t x) (wkN p t)).2)) (y := Vi 1) (fun W => Try.siz69 W) rfl rfl
    refine Y.punit F (X.w0 rfl) rfl (X.store rfl (F.e 13 rfl) (F.e 40 rfl) hrun) ?_
    clear F ac hrun
    intro ac F
    replace G := Y.Only.up G hon (by omega)
    replace hq := hq.only hon (by show ¬ _ = _; omega)
    replace hM := hM.only hon (by show ¬ _ = _; omega)
    replace hV := hV.only hon (by show ¬ _ = _; omega)
    replace hO := hO.only hon (fun b e h => by have h1 := (hO.ge e).1; have h2 := hOs _ e; have hOq19_ := hOq19 _ e; have hOq60_ := hOq60 _ e; have hOq68_ := hOq68 _ e; omega)
    replace hBw := hBw.only hon
    replace hV15 := hV15.only hon (by show ¬ _ = _; omega)
    replace hV55 := hV55.only hon (by show ¬ _ = _; omega)
    replace hC := (hC.kc hon 0 rfl (hC.kc hon 1 rfl (RCells.nil _)))
    replace hV62 := hS2
    clear hS2 hon
    refine Y.pval F (X.w0 rfl) rfl (X.assign rfl (F.e 41 rfl)) ?_
    clear F ac
    intro ac F
    refine Y.nil ?_
    replace F : Fr ac 66 [(0, .agg #[Vi gr, Vi hold, .slice na n nc]), (1, Vi i), (2, Vi T), (3, Vp w.heap.size), (6, v), (7, Vi 0), (8, Vi (nodeE gr hold nd i T)), (9, Vp bq), (10, Vp sb), (11, Vp w14.heap.size), (12, Vp w54.heap.size), (13, Vp w61.heap.size), (14, .bool true), (20, .bool false), (31, .bool true)] := F.sub _
    refine X.thenN ?_
    refine Y.seq ?_
    replace hC : RCells w71 [(Ad sb 0, Vi t), (Ad sb 1, Vi x), (Ad w54.heap.size 0, Vi ((t : Int) + 1 + ((wkN p t : Nat) : Int)))] := hC.append ((RCells.cons (hV55.cell (k := 0) (by decide)) (RCells.nil _)))
    replace hC : RCells w71 [(Ad sb 0, Vi t), (Ad sb 1, Vi x), (Ad w54.heap.size 0, Vi ((t : Int) + 1 + ((wkN p t : Nat) : Int))), (Ad w54.heap.size 1, Vi ((wkV p t (refV p t x) (wkN p t)).1))] := hC.append ((RCells.cons (hV55.cell (k := 1) (by decide)) (RCells.nil _)))
    replace hC : RCells w71 [(Ad sb 0, Vi t), (Ad sb 1, Vi x), (Ad w54.heap.size 0, Vi ((t : Int) + 1 + ((wkN p t : Nat) : Int))), (Ad w54.heap.size 1, Vi ((wkV p t (refV p t x) (wkN p t)).1)), (Ad w61.heap.size 0, Vi ((wkV p t (refV p t x) (wkN p t)).2))] := hC.append ((RCells.cons (hV62.cell (k := 0) (by decide)) (RCells.nil _)))
    replace hC : RCells w71 [(Ad sb 0, Vi t), (Ad sb 1, Vi x), (Ad w54.heap.size 0, Vi ((t : Int) + 1 + ((wkN p t : Nat) : Int))), (Ad w54.heap.size 1, Vi ((wkV p t (refV p t x) (wkN p t)).1)), (Ad w61.heap.size 0, Vi ((wkV p t (refV p t x) (wkN p t)).2)), (Ad w61.heap.size 1, Vi 1)] := hC.append ((RCells.cons (hV62.cell (k := 1) (by decide)) (RCells.nil _)))
    replace hC : RCells w71 [(Ad sb 0, Vi t), (Ad sb 1, Vi x), (Ad w54.heap.size 0, Vi ((t : Int) + 1 + ((wkN p t : Nat) : Int))), (Ad w54.heap.size 1, Vi ((wkV p t (refV p t x) (wkN p t)).1)), (Ad w61.heap.size 0, Vi ((wkV p t (refV p t x) (wkN p t)).2)), (Ad w61.heap.size 1, Vi 1), (Ad w14.heap.size 0, Vi ((bestV p t x).1))] := hC.append ((RCells.cons (hV15.cell (k := 0) (by decide)) (RCells.nil _)))
    replace hC : RCells w71 [(Ad sb 0, Vi t), (Ad sb 1, Vi x), (Ad w54.heap.size 0, Vi ((t : Int) + 1 + ((wkN p t : Nat) : Int))), (Ad w54.heap.size 1, Vi ((wkV p t (refV p t x) (wkN p t)).1)), (Ad w61.heap.size 0, Vi ((wkV p t (refV p t x) (wkN p t)).2)), (Ad w61.heap.size 1, Vi 1), (Ad w14.heap.size 0, Vi ((bestV p t x).1)), (Ad w14.heap.size 1, Vi ((bestV p t x).2))] := hC.append ((RCells.cons (hV15.cell (k := 1) (by decide)) (RCells.nil _)))
    have hmlt := hM.lt
    refine region_xi F [some (.bool true), some (.bool true), some (Vp bq), some (.agg #[Vi ((t : Int) + 1 + ((wkN p t : Nat) : Int)), Vi ((wkV p t (refV p t x) (wkN p t)).1)]), some (.agg #[Vi ((bestV p ((t : Int) + 1 + ((wkN p t : Nat) : Int)) ((wkV p t (refV p t x) (wkN p t)).1)).1), Vi ((bestV p ((t : Int) + 1 + ((wkN p t : Nat) : Int)) ((wkV p t (refV p t x) (wkN p t)).1)).2)]), some (.agg #[Vi ((wkV p t (refV p t x) (wkN p t)).2), Vi 1]), some (.agg #[Vi (((bestV p ((t : Int) + 1 + ((wkN p t : Nat) : Int)) ((wkV p t (refV p t x) (wkN p t)).1)).1 : Int) + ((wkV p t (refV p t x) (wkN p t)).2)), Vi (((bestV p ((t : Int) + 1 + ((wkN p t : Nat) : Int)) ((wkV p t (refV p t x) (wkN p t)).1)).2 : Int) + 1)]), some (.agg #[Vi ((bestV p t x).1), Vi ((bestV p t x).2)]), some (.bool (eq2 (((bestV p ((t : Int) + 1 + ((wkN p t : Nat) : Int)) ((wkV p t (refV p t x) (wkN p t)).1)).1 : Int) + ((wkV p t (refV p t x) (wkN p t)).2), ((bestV p ((t : Int) + 1 + ((wkN p t : Nat) : Int)) ((wkV p t (refV p t x) (wkN p t)).1)).2 : Int) + 1) ((bestV p t x).1, (bestV p t x).2))), some (.bool (eq2 (((bestV p ((t : Int) + 1 + ((wkN p t : Nat) : Int)) ((wkV p t (refV p t x) (wkN p t)).1)).1 : Int) + ((wkV p t (refV p t x) (wkN p t)).2), ((bestV p ((t : Int) + 1 + ((wkN p t : Nat) : Int)) ((wkV p t (refV p t x) (wkN p t)).1)).2 : Int) + 1) ((bestV p t x).1, (bestV p t x).2)))] (RTk w71 (fun b => b = bm) (fun W => Memo W bm (gdV p)) 100 101 (VL []) (VL [])) rfl ⟨by kernel_rfl, of_decide_eq_true (by kernel_rfl), by kernel_rfl, by kernel_rfl, by kernel_rfl⟩ (fun _ => ⟨RTk.start (Gr.refl _) hM, RTk.start (Gr.drew _) (hM.gr (Gr.drew _))⟩) ⟨?_, ?_, ?_, ?_, ?_, ?_, ?_, ?_, ?_, ?_, trivial⟩ ?_
    ·intro ac done u W Sx hR
     exact X.val (X.w0 rfl) rfl (X.move rfl (Sx.ev 14 (.bool true))) (hR.quiet (by decide))
    ·intro ac done u W Sx hR
     exact X.val (X.w0 rfl) rfl (X.move rfl (Sx.ev 42 (.bool true))) (hR.quiet (by decide))
    ·intro ac done u W Sx hR
     exact X.val (X.w1 rfl (Sx.yl 1 43 true (by kernel_rfl) rfl rfl)) rfl (X.move rfl (Sx.ev 9 (Vp bq))) (hR.quiet (by decide))
    ·intro ac done u W Sx hR
     exact X.val (X.w1 rfl (Sx.yl 1 43 true (by kernel_rfl) rfl rfl)) rfl (X.load rfl (Sx.ev 12 (Vp w54.heap.size)) (X.ldN (Try.agg72 _) (Try.siz72 _) (Y.atz (⟨w54.heap.size, 0, none⟩) (Y.AtFrom.cons (hR.o.cell (hC.at 2 rfl) (by show ¬ w54.heap.size = bm; omega)) (Y.AtFrom.cons (hR.o.cell (hC.at 3 rfl) (by show ¬ w54.heap.size = bm; omega)) (Y.AtFrom.nil _ _ _)))))) (hR.quiet (by decide))
    ·intro ac done u W Sx hR
     refine X.call (X.w1 rfl (Sx.yl 1 43 true (by kernel_rfl) rfl rfl)) (X.enter (F := 48) rfl (X.kc (.func (.func 48) #[] #[]) rfl) (X.a2 (Sx.ev 44 (Vp bq)) (Sx.ev 45 (.agg #[Vi ((t : Int) + 1 + ((wkN p t : Nat) : Int)), Vi ((wkV p t (refV p t x) (wkN p t)).1)]))) (enters_of Try.func48 (by kernel_rfl) rfl _)) (best_any bq bm gq p h hbm 10000 ((t : Int) + 1 + ((wkN p t : Nat) : Int)) ((wkV p t (refV p t x) (wkN p t)).1) W (by omega) ⟨by omega, by omega⟩ ⟨by omega, by omega⟩ (hq.only hR.o (by show ¬ bq = bm; omega)) hR.m) ?_
     rintro e W2 ⟨rfl, hon, hM2⟩
     exact ⟨_, rfl, X.kn rfl, hR.call (by decide) (fun b e => by subst e; exact hmlt) hon hM2⟩
    ·intro ac done u W Sx hR
     exact X.val (X.w1 rfl (Sx.yl 1 43 true (by kernel_rfl) rfl rfl)) rfl (X.load rfl (Sx.ev 13 (Vp w61.heap.size)) (X.ldN (Try.agg69 _) (Try.siz69 _) (Y.atz (⟨w61.heap.size, 0, none⟩) (Y.AtFrom.cons (hR.o.cell (hC.at 4 rfl) (by show ¬ w61.heap.size = bm; omega)) (Y.AtFrom.cons (hR.o.cell (hC.at 5 rfl) (by show ¬ w61.heap.size = bm; omega)) (Y.AtFrom.nil _ _ _)))))) (hR.quiet (by decide))
    ·intro ac done u W Sx hR
     refine X.call (X.w1 rfl (Sx.yl 1 43 true (by kernel_rfl) rfl rfl)) (X.enter (F := 62) rfl (X.kc (.func (.func 62) #[] #[]) rfl) (X.a2 (Sx.ev 46 (.agg #[Vi ((bestV p ((t : Int) + 1 + ((wkN p t : Nat) : Int)) ((wkV p t (refV p t x) (wkN p t)).1)).1), Vi ((bestV p ((t : Int) + 1 + ((wkN p t : Nat) : Int)) ((wkV p t (refV p t x) (wkN p t)).1)).2)])) (Sx.ev 47 (.agg #[Vi ((wkV p t (refV p t x) (wkN p t)).2), Vi 1]))) (enters_of Try.func62 (by kernel_rfl) rfl _)) (and_any ((bestV p ((t : Int) + 1 + ((wkN p t : Nat) : Int)) ((wkV p t (refV p t x) (wkN p t)).1)).1) ((bestV p ((t : Int) + 1 + ((wkN p t : Nat) : Int)) ((wkV p t (refV p t x) (wkN p t)).1)).2) ((wkV p t (refV p t x) (wkN p t)).2) 1 W (by omega) (by omega)) ?_
     rintro e W2 ⟨rfl, g2⟩
     exact ⟨_, rfl, X.kn rfl, hR.call (by decide) (fun b e => by subst e; exact hmlt) (g2.only _) (hR.m.gr g2)⟩
    ·intro ac done u W Sx hR
     exact X.val (X.w1 rfl (Sx.yl 1 43 true (by kernel_rfl) rfl rfl)) rfl (X.load rfl (Sx.ev 11 (Vp w14.heap.size)) (X.ldN (Try.agg69 _) (Try.siz69 _) (Y.atz (⟨w14.heap.size, 0, none⟩) (Y.AtFrom.cons (hR.o.cell (hC.at 6 rfl) (by show ¬ w14.heap.size = bm; omega)) (Y.AtFrom.cons (hR.o.cell (hC.at 7 rfl) (by show ¬ w14.heap.size = bm; omega)) (Y.AtFrom.nil _ _ _)))))) (hR.quiet (by decide))
    ·intro ac done u W Sx hR
     exact X.val (X.w1 rfl (Sx.yl 1 43 true (by kernel_rfl) rfl rfl)) rfl (X.binop rfl (Sx.ev 48 (.agg #[Vi (((bestV p ((t : Int) + 1 + ((wkN p t : Nat) : Int)) ((wkV p t (refV p t x) (wkN p t)).1)).1 : Int) + ((wkV p t (refV p t x) (wkN p t)).2)), Vi (((bestV p ((t : Int) + 1 + ((wkN p t : Nat) : Int)) ((wkV p t (refV p t x) (wkN p t)).1)).2 : Int) + 1)])) (Sx.ev 49 (.agg #[Vi ((bestV p t x).1), Vi ((bestV p t x).2)])) (Try.eq69 _ _ _ _ _ _ _)) (hR.quiet (by decide))
    ·intro ac done u W Sx hR
     exact X.val (X.w0 rfl) rfl (X.pickT rfl (Sx.ev 43 (.bool true)) (Sx.ev 50 (.bool (eq2 (((bestV p ((t : Int) + 1 + ((wkN p t : Nat) : Int)) ((wkV p t (refV p t x) (wkN p t)).1)).1 : Int) + ((wkV p t (refV p t x) (wkN p t)).2), ((bestV p ((t : Int) + 1 + ((wkN p t : Nat) : Int)) ((wkV p t (refV p t x) (wkN p t)).1)).2 : Int) + 1) ((bestV p t x).1, (bestV p t x).2))))) (hR.quiet (by decide))
    rintro ac u w72 hs hd hl_ ho hR
    replace F : Fr ac 66 [(0, .agg #[Vi gr, Vi hold, .slice na n nc]), (1, Vi i), (2, Vi T), (3, Vp w.heap.size), (6, v), (7, Vi 0), (8, Vi (nodeE gr hold nd i T)), (9, Vp bq), (10, Vp sb), (11, Vp w14.heap.size), (12, Vp w54.heap.size), (13, Vp w61.heap.size), (14, .bool true), (20, .bool false), (31, .bool true), (51, .bool (eq2 (((bestV p ((t : Int) + 1 + ((wkN p t : Nat) : Int)) ((wkV p t (refV p t x) (wkN p t)).1)).1 : Int) + ((wkV p t (refV p t x) (wkN p t)).2), ((bestV p ((t : Int) + 1 + ((wkN p t : Nat) : Int)) ((wkV p t (refV p t x) (wkN p t)).1)).2 : Int) + 1) ((bestV p t x).1, (bestV p t x).2)))] := X.fr hs hd hl_ _ (by kernel_rfl)
    have hon := hR.o
    have hM2 := hR.m
    clear hs hd hl_ ho hR
    replace G := Y.Only.up G hon (by omega)
    replace hq := hq.only hon (by show ¬ bq = bm; omega)
    replace hM := hM2
    replace hV := hV.only hon (by show ¬ sb = bm; omega)
    replace hO := hO.only hon (fun b e h => by have h1 := (hO.ge e).1; omega)
    replace hBw := hBw.only hon
    replace hV15 := hV15.only hon (by show ¬ w14.heap.size = bm; omega)
    replace hV55 := hV55.only hon (by show ¬ w54.heap.size = bm; omega)
    replace hV62 := hV62.only hon (by show ¬ w61.heap.size = bm; omega)
    replace hC := (hC.kc hon 0 rfl (hC.kc hon 1 rfl (hC.kc hon 2 rfl (hC.kc hon 3 rfl (hC.kc hon 4 rfl (hC.kc hon 5 rfl (hC.kc hon 6 rfl (hC.kc hon 7 rfl (RCells.nil _)))))))))
    clear hon
    refine X.thenN ?_
    cases h73 : eq2 (((bestV p ((t : Int) + 1 + ((wkN p t : Nat) : Int)) ((wkV p t (refV p t x) (wkN p t)).1)).1 : Int) + ((wkV p t (refV p t x) (wkN p t)).2), ((bestV p ((t : Int) + 1 + ((wkN p t : Nat) : Int)) ((wkV p t (refV p t x) (wkN p t)).1)).2 : Int) + 1) ((bestV p t x).1, (bestV p t x).2) with
    | false =>
     try rw [h73] at F
     have htk : takeB p t x = false := h73
     refine Y.condF (F.e 51 rfl) ?_
     refine Y.skip ?_
     refine X.thenN ?_
     refine Y.lit (by kernel_rfl) ?_
     refine Y.pval F (X.w0 rfl) rfl (X.move rfl (F.e 9 rfl)) ?_
     clear F ac
     intro ac F
     refine Y.pval F (X.w0 rfl) rfl (X.load rfl (F.e 10 rfl) (X.ldN (Try.agg72 _) (Try.siz72 _) (Y.atz (⟨sb, 0, none⟩) (Y.AtFrom.cons (hC.at 0 rfl) (Y.AtFrom.cons (hC.at 1 rfl) (Y.AtFrom.nil _ _ _)))))) ?_
     clear F ac
     intro ac F
     refine Y.pcall F (X.w0 rfl) rfl (X.enter (F := 63) rfl (X.kc (.func (.func 63) #[] #[]) rfl) (X.a2 (F.e 59 rfl) (F.e 60 rfl)) (enters_of Try.func63 (by kernel_rfl) rfl _)) (stay_any bq bm gq p t x w72 hq h (by omega) (by omega)) ?_
     clear F ac
     rintro e w74 ⟨rfl, g⟩
     refine ⟨_, rfl, ?_⟩
     intro ac F
     replace G := G.trans g
     replace hC := hC.gr g
     replace hq := hq.gr g
     replace hM := hM.gr g
     replace hV := hV.gr g
     replace hO := hO.gr g
     replace hBw := hBw.gr g
     replace hV15 := hV15.gr g
     replace hV55 := hV55.gr g
     replace hV62 := hV62.gr g
     clear g
     refine Y.pval F (X.w0 rfl) rfl (X.move rfl (F.e 61 rfl)) ?_
     clear F ac
     intro ac F
     refine Y.pval F (X.w0 rfl) rfl (X.extract rfl (F.e 58 rfl) rfl) ?_
     clear F ac
     intro ac F
     refine Y.pval F (X.w0 rfl) rfl (X.extract rfl (F.e 58 rfl) rfl) ?_
     clear F ac
     intro ac F
     obtain ⟨w75, hrun, hS2, hon⟩ := hV.st2 (P := Try.prog) (t := 72) (x := Vi ((t : Int) + 1)) (y := Vi (refV p t x)) (fun W => Try.siz72 W) rfl rfl
     refine Y.punit F (X.w0 rfl) rfl (X.store rfl (F.e 10 rfl) (F.e 62 rfl) hrun) ?_
     clear F ac hrun
     intro ac F
     replace G := Y.Only.up G hon (by omega)
     replace hq := hq.only hon (by show ¬ _ = _; omega)
     replace hM := hM.only hon (by show ¬ _ = _; omega)
     replace hO := hO.only hon (fun b e h => by have h1 := (hO.ge e).1; have h2 := hOs _ e; have hOq19_ := hOq19 _ e; have hOq60_ := hOq60 _ e; have hOq68_ := hOq68 _ e; omega)
     replace hBw := hBw.only hon
     replace hV15 := hV15.only hon (by show ¬ _ = _; omega)
     replace hV55 := hV55.only hon (by show ¬ _ = _; omega)
     replace hV62 := hV62.only hon (by show ¬ _ = _; omega)
     replace hC := (hC.kc hon 2 rfl (hC.kc hon 3 rfl (hC.kc hon 4 rfl (hC.kc hon 5 rfl (hC.kc hon 6 rfl (hC.kc hon 7 rfl (RCells.nil _)))))))
     replace hV := hS2
     clear hS2 hon
     refine Y.nil ?_
     replace F : Fr ac 66 [(0, .agg #[Vi gr, Vi hold, .slice na n nc]), (1, Vi i), (2, Vi T), (3, Vp w.heap.size), (6, v), (7, Vi 0), (8, Vi (nodeE gr hold nd i T)), (9, Vp bq), (10, Vp sb), (11, Vp w14.heap.size), (12, Vp w54.heap.size), (13, Vp w61.heap.size), (14, .bool true), (20, .bool false), (31, .bool true), (51, .bool false)] := F.sub _
     refine X.blockN ?_
     refine X.thenN ?_
     refine Y.seq ?_
     refine Y.lit (by kernel_rfl) ?_
     replace hC : RCells w75 [(Ad w54.heap.size 0, Vi ((t : Int) + 1 + ((wkN p t : Nat) : Int))), (Ad w54.heap.size 1, Vi ((wkV p t (refV p t x) (wkN p t)).1)), (Ad w61.heap.size 0, Vi ((wkV p t (refV p t x) (wkN p t)).2)), (Ad w61.heap.size 1, Vi 1), (Ad w14.heap.size 0, Vi ((bestV p t x).1)), (Ad w14.heap.size 1, Vi ((bestV p t x).2)), (Ad sb 0, Vi ((t : Int) + 1))] := hC.append ((RCells.cons (hV.cell (k := 0) (by decide)) (RCells.nil _)))
     replace hC : RCells w75 [(Ad w54.heap.size 0, Vi ((t : Int) + 1 + ((wkN p t : Nat) : Int))), (Ad w54.heap.size 1, Vi ((wkV p t (refV p t x) (wkN p t)).1)), (Ad w61.heap.size 0, Vi ((wkV p t (refV p t x) (wkN p t)).2)), (Ad w61.heap.size 1, Vi 1), (Ad w14.heap.size 0, Vi ((bestV p t x).1)), (Ad w14.heap.size 1, Vi ((bestV p t x).2)), (Ad sb 0, Vi ((t : Int) + 1)), (Ad sb 1, Vi (refV p t x))] := hC.append ((RCells.cons (hV.cell (k := 1) (by decide)) (RCells.nil _)))
     refine Y.pval F (X.w0 rfl) rfl (X.load rfl (F.e 10 rfl) (X.ldN (Try.agg72 _) (Try.siz72 _) (Y.atz (⟨sb, 0, none⟩) (Y.AtFrom.cons (hC.at 6 rfl) (Y.AtFrom.cons (hC.at 7 rfl) (Y.AtFrom.nil _ _ _)))))) ?_
     clear F ac
     intro ac F
     refine Y.nil ?_
     replace F : Fr ac 66 [(0, .agg #[Vi gr, Vi hold, .slice na n nc]), (1, Vi i), (2, Vi T), (3, Vp w.heap.size), (6, v), (7, Vi 0), (8, Vi (nodeE gr hold nd i T)), (9, Vp bq), (10, Vp sb), (11, Vp w14.heap.size), (12, Vp w54.heap.size), (13, Vp w61.heap.size), (14, .bool true), (20, .bool false), (31, .bool true), (51, .bool false), (64, .agg #[Vi ((t : Int) + 1), Vi (refV p t x)])] := F.sub _
     refine X.thenN ?_
     refine Y.lit (by kernel_rfl) ?_
     refine Y.pval F (X.w0 rfl) rfl (Y.al rfl (Try.new72 _)) ?_
     clear F ac
     intro ac F
     have hgshV76 := G.size
     have hq77 : sb < w75.heap.size := hV.lt
     have hq78 : w14.heap.size < w75.heap.size := hV15.lt
     have hq79 : w54.heap.size < w75.heap.size := hV55.lt
     have hq80 : w61.heap.size < w75.heap.size := hV62.lt
     have hq81 : sb < w75.heap.size := lt_cell (hC.at 6 rfl)
     have hq82 : w14.heap.size < w75.heap.size := lt_cell (hC.at 4 rfl)
     have hq83 : w54.heap.size < w75.heap.size := lt_cell (hC.at 0 rfl)
     have hq84 : w61.heap.size < w75.heap.size := lt_cell (hC.at 2 rfl)
     have hqm85 : bq < w75.heap.size ∧ bm < w75.heap.size := ⟨hq.lt, hM.lt⟩
     have hOq86 : ∀ b, v.ownBlock = some b → b < w75.heap.size := fun b e => (hO.ge e).2
     have g := Gr.alloc w75 (.cells #[Vi 0, Vi 0] 72)
     have hb := heap_alloc_new w75 (.cells #[Vi 0, Vi 0] 72)
     have hbl : w75.heap.size < (w75.alloc (.cells #[Vi 0, Vi 0] 72)).heap.size := by simp
     generalize w75.alloc (.cells #[Vi 0, Vi 0] 72) = w87 at *
     replace G := G.trans g
     replace hC := hC.gr g
     replace hq := hq.gr g
     replace hM := hM.gr g
     replace hV := hV.gr g
     replace hO := hO.gr g
     replace hBw := hBw.gr g
     replace hV15 := hV15.gr g
     replace hV55 := hV55.gr g
     replace hV62 := hV62.gr g
     have hV76 := ownP_2 hb
     clear g hb hbl
     obtain ⟨w88, hrun, hS2, hon⟩ := hV76.st2 (P := Try.prog) (t := 72) (x := Vi ((t : Int) + 1)) (y := Vi (refV p t x)) (fun W => Try.siz72 W) rfl rfl
     refine Y.punit F (X.w0 rfl) rfl (X.store rfl (F.e 10 rfl) (F.e 64 rfl) hrun) ?_
     clear F ac hrun
     intro ac F
     replace G := Y.Only.up G hon (by omega)
     replace hq := hq.only hon (by show ¬ _ = _; omega)
     replace hM := hM.only hon (by show ¬ _ = _; omega)
     replace hV := hV.only hon (by show ¬ _ = _; omega)
     replace hO := hO.only hon (fun b e h => by have h1 := (hO.ge e).1; have h2 := hOs _ e; have hOq19_ := hOq19 _ e; have hOq60_ := hOq60 _ e; have hOq68_ := hOq68 _ e; have hOq86_ := hOq86 _ e; omega)
     replace hBw := hBw.only hon
     replace hV15 := hV15.only hon (by show ¬ _ = _; omega)
     replace hV55 := hV55.only hon (by show ¬ _ = _; omega)
     replace hV62 := hV62.only hon (by show ¬ _ = _; omega)
     replace hC := (hC.kc hon 0 rfl (hC.kc hon 1 rfl (hC.kc hon 2 rfl (hC.kc hon 3 rfl (hC.kc hon 4 rfl (hC.kc hon 5 rfl (hC.kc hon 6 rfl (hC.kc hon 7 rfl (RCells.nil _)))))))))
     replace hV76 := hS2
     clear hS2 hon
     refine Y.nil ?_
     replace F : Fr ac 66 [(0, .agg #[Vi gr, Vi hold, .slice na n nc]), (1, Vi i), (2, Vi T), (3, Vp w.heap.size), (6, v), (7, Vi 0), (8, Vi (nodeE gr hold nd i T)), (9, Vp bq), (10, Vp w75.heap.size), (11, Vp w14.heap.size), (12, Vp w54.heap.size), (13, Vp w61.heap.size), (14, .bool true), (20, .bool false), (31, .bool true), (51, .bool false), (64, .agg #[Vi ((t : Int) + 1), Vi (refV p t x)])] := F.sub _
     refine X.thenN ?_
     refine ⟨_, ?_, (t : Int) + 1, refV p t x, _, _, D, rfl, ⟨by omega, by omega, by omega⟩, ⟨by omega, by omega⟩, by rw [← hD, noi_skip htT hwk htk], ⟨by omega, by omega, by omega, fun b e => by have := hOq86 b e; omega⟩, G, hBw, hq, hM, hV76, hO, F.sub _⟩
     omega
    | true =>
     try rw [h73] at F
     have htk : takeB p t x = true := h73
     refine Y.condT (F.e 51 rfl) ?_
     refine Y.seq ?_
     refine Y.lit (by kernel_rfl) ?_
     refine Y.pval F (X.w0 rfl) rfl (X.move rfl (F.e 6 rfl)) ?_
     clear F ac
     intro ac F
     refine Y.pval F (X.w0 rfl) rfl (X.field rfl (F.e 10 rfl) (X.fld Try.underlying72 rfl (Try.siz3 _) rfl rfl)) ?_
     clear F ac
     intro ac F
     refine Y.pval F (X.w0 rfl) rfl (X.load rfl (F.e 53 rfl) (X.ld1 (Try.agg3 _) (hC.at 0 rfl))) ?_
     clear F ac
     intro ac F
     refine Y.pval F (X.w0 rfl) rfl (X.bs rfl (X.b1 (F.e 54 rfl)) (Try.bs34_1 t _)) ?_
     clear F ac
     intro ac F
     have hq89 : sb < w72.heap.size := hV.lt
     have hq90 : w14.heap.size < w72.heap.size := hV15.lt
     have hq91 : w54.heap.size < w72.heap.size := hV55.lt
     have hq92 : w61.heap.size < w72.heap.size := hV62.lt
     have hq93 : sb < w72.heap.size := lt_cell (hC.at 0 rfl)
     have hq94 : w14.heap.size < w72.heap.size := lt_cell (hC.at 6 rfl)
     have hq95 : w54.heap.size < w72.heap.size := lt_cell (hC.at 2 rfl)
     have hq96 : w61.heap.size < w72.heap.size := lt_cell (hC.at 4 rfl)
     have hqm97 : bq < w72.heap.size ∧ bm < w72.heap.size := ⟨hq.lt, hM.lt⟩
     have hOq98 : ∀ b, v.ownBlock = some b → b < w72.heap.size := fun b e => (hO.ge e).2
     have g := Gr.alloc w72 (.cells #[Vi t] 3)
     have hb := heap_alloc_new w72 (.cells #[Vi t] 3)
     have hbl : w72.heap.size < (w72.alloc (.cells #[Vi t] 3)).heap.size := by simp
     have hC2 : RCells (w72.alloc (.cells #[Vi t] 3)) [(Ad sb 0, Vi t), (Ad sb 1, Vi x), (Ad w54.heap.size 0, Vi ((t : Int) + 1 + ((wkN p t : Nat) : Int))), (Ad w54.heap.size 1, Vi ((wkV p t (refV p t x) (wkN p t)).1)), (Ad w61.heap.size 0, Vi ((wkV p t (refV p t x) (wkN p t)).2)), (Ad w61.heap.size 1, Vi 1), (Ad w14.heap.size 0, Vi ((bestV p t x).1)), (Ad w14.heap.size 1, Vi ((bestV p t x).2)), (Ad w72.heap.size 0, Vi t)] := hC.box (b := w72.heap.size) #[Vi t] 3 rfl
     generalize w72.alloc (.cells #[Vi t] 3) = w99 at *
     replace G := G.trans g
     replace hC := hC2
     clear hC2
     replace hq := hq.gr g
     replace hM := hM.gr g
     replace hV := hV.gr g
     replace hO := hO.gr g
     replace hBw := hBw.gr g
     replace hV15 := hV15.gr g
     replace hV55 := hV55.gr g
     replace hV62 := hV62.gr g
     have hbk := hb
     clear g hb hbl
     have hBW : B0 ≤ w99.heap.size := hBw
     have hsl9 : sb < w99.heap.size := hV.lt
     refine Y.wpL_plain rfl fun _ hK => wp_pushV Try.underlying34 Try.info3 rfl (by decide) rfl (F.e 52 rfl) (F.e 55 rfl) hO (m := 1) (news := [Vi t]) rfl (cells_at (vs := [Vi t]) hbk) rfl (by omega) (by decide) hBW (fun v_w100 w100 hO2 hon hat => hK _ _ ?_)
     refine Y.pput F rfl ?_
     clear F ac hbk
     intro ac F
     replace G := ((G.only (fun b => w.heap.size ≤ b)).trans (hon.mono' (fun i e => by have h1 := (hO.ge e).1; omega))).gr (fun i hi e => by omega)
     replace hq := hq.only hon (fun e => by have h1 := (hO.ge e).1; have h2 := hOs _ e; have hOq19_ := hOq19 _ e; have hOq60_ := hOq60 _ e; have hOq68_ := hOq68 _ e; have hOq98_ := hOq98 _ e; omega)
     replace hM := hM.only hon (fun e => by have h1 := (hO.ge e).1; have h2 := hOs _ e; have hOq19_ := hOq19 _ e; have hOq60_ := hOq60 _ e; have hOq68_ := hOq68 _ e; have hOq98_ := hOq98 _ e; omega)
     replace hV := hV.only hon (fun e => by have h1 := (hO.ge e).1; have h2 := hOs _ e; have hOq19_ := hOq19 _ e; have hOq60_ := hOq60 _ e; have hOq68_ := hOq68 _ e; have hOq98_ := hOq98 _ e; omega)
     replace hBw := hBw.only hon
     replace hV15 := hV15.only hon (fun e => by have h1 := (hO.ge e).1; have h2 := hOs _ e; have hOq19_ := hOq19 _ e; have hOq60_ := hOq60 _ e; have hOq68_ := hOq68 _ e; have hOq98_ := hOq98 _ e; omega)
     replace hV55 := hV55.only hon (fun e => by have h1 := (hO.ge e).1; have h2 := hOs _ e; have hOq19_ := hOq19 _ e; have hOq60_ := hOq60 _ e; have hOq68_ := hOq68 _ e; have hOq98_ := hOq98 _ e; omega)
     replace hV62 := hV62.only hon (fun e => by have h1 := (hO.ge e).1; have h2 := hOs _ e; have hOq19_ := hOq19 _ e; have hOq60_ := hOq60 _ e; have hOq68_ := hOq68 _ e; have hOq98_ := hOq98 _ e; omega)
     replace hC : RCells w100 [] := RCells.nil _
     replace hO := hO2
     clear hO2 hon
     have hOs2 : ∀ b, v_w100.ownBlock = some b → ¬ b = sb := fun b e => by
      rcases hat with h_ | h_
      ·exact hOs b (h_ ▸ e)
      ·rw [h_] at e; injection e with e; omega
     clear hOs hat
     have hOs := hOs2
     clear hOs2
     refine Y.pval F (X.w0 rfl) rfl (X.assign rfl (F.e 56 rfl)) ?_
     clear F ac
     intro ac F
     refine Y.nil ?_
     replace F : Fr ac 66 [(0, .agg #[Vi gr, Vi hold, .slice na n nc]), (1, Vi i), (2, Vi T), (3, Vp w.heap.size), (6, v_w100), (7, Vi 0), (8, Vi (nodeE gr hold nd i T)), (9, Vp bq), (10, Vp sb), (11, Vp w14.heap.size), (12, Vp w54.heap.size), (13, Vp w61.heap.size), (14, .bool true), (20, .bool false), (31, .bool true), (51, .bool true)] := F.sub _
     refine X.thenN ?_
     refine Y.seq ?_
     refine Y.lit (by kernel_rfl) ?_
     have hC : RCells w100 [(Ad w54.heap.size 0, Vi ((t : Int) + 1 + ((wkN p t : Nat) : Int)))] := (RCells.cons (hV55.cell (k := 0) (by decide)) (RCells.nil _))
     replace hC : RCells w100 [(Ad w54.heap.size 0, Vi ((t : Int) + 1 + ((wkN p t : Nat) : Int))), (Ad w54.heap.size 1, Vi ((wkV p t (refV p t x) (wkN p t)).1))] := hC.append ((RCells.cons (hV55.cell (k := 1) (by decide)) (RCells.nil _)))
     refine Y.pval F (X.w0 rfl) rfl (X.load rfl (F.e 12 rfl) (X.ldN (Try.agg72 _) (Try.siz72 _) (Y.atz (⟨w54.heap.size, 0, none⟩) (Y.AtFrom.cons (hC.at 0 rfl) (Y.AtFrom.cons (hC.at 1 rfl) (Y.AtFrom.nil _ _ _)))))) ?_
     clear F ac
     intro ac F
     obtain ⟨w101, hrun, hS2, hon⟩ := hV.st2 (P := Try.prog) (t := 72) (x := Vi ((t : Int) + 1 + ((wkN p t : Nat) : Int))) (y := Vi ((wkV p t (refV p t x) (wkN p t)).1)) (fun W => Try.siz72 W) rfl rfl
     refine Y.punit F (X.w0 rfl) rfl (X.store rfl (F.e 10 rfl) (F.e 57 rfl) hrun) ?_
     clear F ac hrun
     intro ac F
     replace G := Y.Only.up G hon (by omega)
     replace hq := hq.only hon (by show ¬ _ = _; omega)
     replace hM := hM.only hon (by show ¬ _ = _; omega)
     replace hO := hO.only hon (fun b e h => by have h1 := (hO.ge e).1; have h2 := hOs _ e; omega)
     replace hBw := hBw.only hon
     replace hV15 := hV15.only hon (by show ¬ _ = _; omega)
     replace hV55 := hV55.only hon (by show ¬ _ = _; omega)
     replace hV62 := hV62.only hon (by show ¬ _ = _; omega)
     replace hC := (hC.kc hon 0 rfl (hC.kc hon 1 rfl (RCells.nil _)))
     replace hV := hS2
     clear hS2 hon
     refine Y.nil ?_
     replace F : Fr ac 66 [(0, .agg #[Vi gr, Vi hold, .slice na n nc]), (1, Vi i), (2, Vi T), (3, Vp w.heap.size), (6, v_w100), (7, Vi 0), (8, Vi (nodeE gr hold nd i T)), (9, Vp bq), (10, Vp sb), (11, Vp w14.heap.size), (12, Vp w54.heap.size), (13, Vp w61.heap.size), (14, .bool true), (20, .bool false), (31, .bool true), (51, .bool true)] := F.sub _
     refine X.thenN ?_
     refine Y.exit ?_
     refine X.thenX ?_
     refine X.blockX ?_
     refine X.thenN ?_
     refine Y.seq ?_
     refine Y.lit (by kernel_rfl) ?_
     replace hC : RCells w101 [(Ad w54.heap.size 0, Vi ((t : Int) + 1 + ((wkN p t : Nat) : Int))), (Ad w54.heap.size 1, Vi ((wkV p t (refV p t x) (wkN p t)).1)), (Ad sb 0, Vi ((t : Int) + 1 + ((wkN p t : Nat) : Int)))] := hC.append ((RCells.cons (hV.cell (k := 0) (by decide)) (RCells.nil _)))
     replace hC : RCells w101 [(Ad w54.heap.size 0, Vi ((t : Int) + 1 + ((wkN p t : Nat) : Int))), (Ad w54.heap.size 1, Vi ((wkV p t (refV p t x) (wkN p t)).1)), (Ad sb 0, Vi ((t : Int) + 1 + ((wkN p t : Nat) : Int))), (Ad sb 1, Vi ((wkV p t (refV p t x) (wkN p t)).1))] := hC.append ((RCells.cons (hV.cell (k := 1) (by decide)) (RCells.nil _)))
     refine Y.pval F (X.w0 rfl) rfl (X.load rfl (F.e 10 rfl) (X.ldN (Try.agg72 _) (Try.siz72 _) (Y.atz (⟨sb, 0, none⟩) (Y.AtFrom.cons (hC.at 2 rfl) (Y.AtFrom.cons (hC.at 3 rfl) (Y.AtFrom.nil _ _ _)))))) ?_
     clear F ac
     intro ac F
     refine Y.nil ?_
     replace F : Fr ac 66 [(0, .agg #[Vi gr, Vi hold, .slice na n nc]), (1, Vi i), (2, Vi T), (3, Vp w.heap.size), (6, v_w100), (7, Vi 0), (8, Vi (nodeE gr hold nd i T)), (9, Vp bq), (10, Vp sb), (11, Vp w14.heap.size), (12, Vp w54.heap.size), (13, Vp w61.heap.size), (14, .bool true), (20, .bool false), (31, .bool true), (51, .bool true), (64, .agg #[Vi ((t : Int) + 1 + ((wkN p t : Nat) : Int)), Vi ((wkV p t (refV p t x) (wkN p t)).1)])] := F.sub _
     refine X.thenN ?_
     refine Y.lit (by kernel_rfl) ?_
     refine Y.pval F (X.w0 rfl) rfl (Y.al rfl (Try.new72 _)) ?_
     clear F ac
     intro ac F
     have hgshV102 := G.size
     have hq103 : sb < w101.heap.size := hV.lt
     have hq104 : w14.heap.size < w101.heap.size := hV15.lt
     have hq105 : w54.heap.size < w101.heap.size := hV55.lt
     have hq106 : w61.heap.size < w101.heap.size := hV62.lt
     have hq107 : sb < w101.heap.size := lt_cell (hC.at 2 rfl)
     have hq108 : w54.heap.size < w101.heap.size := lt_cell (hC.at 0 rfl)
     have hqm109 : bq < w101.heap.size ∧ bm < w101.heap.size := ⟨hq.lt, hM.lt⟩
     have hOq110 : ∀ b, v_w100.ownBlock = some b → b < w101.heap.size := fun b e => (hO.ge e).2
     have g := Gr.alloc w101 (.cells #[Vi 0, Vi 0] 72)
     have hb := heap_alloc_new w101 (.cells #[Vi 0, Vi 0] 72)
     have hbl : w101.heap.size < (w101.alloc (.cells #[Vi 0, Vi 0] 72)).heap.size := by simp
     generalize w101.alloc (.cells #[Vi 0, Vi 0] 72) = w111 at *
     replace G := G.trans g
     replace hC := hC.gr g
     replace hq := hq.gr g
     replace hM := hM.gr g
     replace hV := hV.gr g
     replace hO := hO.gr g
     replace hBw := hBw.gr g
     replace hV15 := hV15.gr g
     replace hV55 := hV55.gr g
     replace hV62 := hV62.gr g
     have hV102 := ownP_2 hb
     clear g hb hbl
     obtain ⟨w112, hrun, hS2, hon⟩ := hV102.st2 (P := Try.prog) (t := 72) (x := Vi ((t : Int) + 1 + ((wkN p t : Nat) : Int))) (y := Vi ((wkV p t (refV p t x) (wkN p t)).1)) (fun W => Try.siz72 W) rfl rfl
     refine Y.punit F (X.w0 rfl) rfl (X.store rfl (F.e 10 rfl) (F.e 64 rfl) hrun) ?_
     clear F ac hrun
     intro ac F
     replace G := Y.Only.up G hon (by omega)
     replace hq := hq.only hon (by show ¬ _ = _; omega)
     replace hM := hM.only hon (by show ¬ _ = _; omega)
     replace hV := hV.only hon (by show ¬ _ = _; omega)
     replace hO := hO.only hon (fun b e h => by have h1 := (hO.ge e).1; have h2 := hOs _ e; have hOq110_ := hOq110 _ e; omega)
     replace hBw := hBw.only hon
     replace hV15 := hV15.only hon (by show ¬ _ = _; omega)
     replace hV55 := hV55.only hon (by show ¬ _ = _; omega)
     replace hV62 := hV62.only hon (by show ¬ _ = _; omega)
     replace hC := (hC.kc hon 0 rfl (hC.kc hon 1 rfl (hC.kc hon 2 rfl (hC.kc hon 3 rfl (RCells.nil _)))))
     replace hV102 := hS2
     clear hS2 hon
     refine Y.nil ?_
     replace F : Fr ac 66 [(0, .agg #[Vi gr, Vi hold, .slice na n nc]), (1, Vi i), (2, Vi T), (3, Vp w.heap.size), (6, v_w100), (7, Vi 0), (8, Vi (nodeE gr hold nd i T)), (9, Vp bq), (10, Vp w101.heap.size), (11, Vp w14.heap.size), (12, Vp w54.heap.size), (13, Vp w61.heap.size), (14, .bool true), (20, .bool false), (31, .bool true), (51, .bool true), (64, .agg #[Vi ((t : Int) + 1 + ((wkN p t : Nat) : Int)), Vi ((wkV p t (refV p t x) (wkN p t)).1)])] := F.sub _
     refine X.thenN ?_
     have hO3 : OwnR w112 B0 3 1 v_w100 (D ++ [t]).length ((D ++ [t]).map (Value.int .i64)) := by rw [List.length_append, List.map_append]; exact hO
     clear hO
     have hO := hO3
     refine ⟨_, ?_, (t : Int) + 1 + ((wkN p t : Nat) : Int), (wkV p t (refV p t x) (wkN p t)).1, _, _, D ++ [t], rfl, ⟨by omega, by omega, by rw [List.length_append]; simp; omega⟩, ⟨by omega, by omega⟩, by rw [← hD, noi_take htT hwk htk]; simp, ⟨by omega, by omega, by omega, fun b e => by have := hOq110 b e; omega⟩, G, hBw, hq, hM, hV102, hO, F.sub _⟩
     omega
 | true =>
  try rw [h5] at F
  have h5p : ¬ (nodeE gr hold nd node T : Int) = 0 := by simpa using h5
  have hE : ¬ nodeE gr hold nd node T = 0 := by simpa using h5p
  refine Y.condT (F.e 20 rfl) ?_
  refine Y.seq ?_
  refine Y.lit (by kernel_rfl) ?_
  refine Y.pval F (X.w0 rfl) rfl (X.move rfl (F.e 8 rfl)) ?_
  clear F ac
  intro ac F
  refine Y.pval F (X.w0 rfl) rfl (X.assign rfl (X.kc (.slice none 0 0) rfl)) ?_
  clear F ac
  intro ac F
  refine Y.pval F (X.w0 rfl) rfl (X.assign rfl (F.e 21 rfl)) ?_
  clear F ac
  intro ac F
  refine Y.nil ?_
  replace F : Fr ac 66 [(0, .agg #[Vi gr, Vi hold, .slice na n nc]), (1, Vi node), (2, Vi T), (3, Vp w.heap.size), (6, .slice none 0 0), (7, Vi (nodeE gr hold nd node T)), (8, Vi (nodeE gr hold nd node T)), (20, .bool true)] := F.sub _
  refine X.thenN ?_
  refine Y.ret ?_
  refine X.thenR ?_
  exact Y.ret0 (v := .tuple #[.slice none 0 0, Vi (nodeE gr hold nd node T)]) F (Y.rs2 F rfl (by kernel_rfl) (by kernel_rfl)) ⟨none, 0, 0, rfl, by unfold noiR; rw [if_neg hE]; exact Ints.nil _, G⟩
end
section
set_option linter.unusedVariables false
open Go.RowKit


section
variable {hold : Int} {gr n : Nat} {l : List (List Int)} {s : PS}
end
section
variable {hold : Int} {gr n : Nat} {l : List (List Int)} {s : PS}
end
section
variable {hold : Int} {g n : Nat} {l : List (List Int)} {s : PS}
end
end
section
set_option linter.unusedVariables false
open Go.RowKit

section
variable {gr hold t : Int} {nd l : List (List Int)}
end
end
section
set_option linter.unusedVariables false
open Go.RowKit
section
variable {hold : Int} {gr n : Nat} {l : List (List Int)} {s z : PS}
end
section
variable {gr hold t : Int} {nd l : List (List Int)}
end
end
section
set_option linter.unusedVariables false
open Go.RowKit
/-- the greatest energy in m ticks from t on; r: 0 free, 1 asleep behind a noise, else awake for r - 1 ticks -/
def enF (p : Nd) : Nat → Int → Int → Nat → Int
  | 0, _, _, _ => 0
  | m + 1, t, x, r =>
    if r = 0 then (if refV p t x = 0 then p.za + enF p m (t + 1) (refV p t x) 0 else max (p.za + enF p m (t + 1) (refV p t x) 0) (p.aw + enF p m (t + 1) (refV p t x - 1) p.hold.toNat))
    else if r = 1 then p.za + enF p m (t + 1) (refV p t x) 0 else p.aw + enF p m (t + 1) (refV p t x) (r - 1)
theorem pick2_fst (a b : Int × Int) : (pick2 a b).1 = max b.1 a.1 := by
  unfold pick2 betB orI cmpI
  by_cases h1 : a.1 < b.1
  · simp [h1]; omega
  · by_cases h2 : b.1 < a.1
    · simp [h1, h2]; omega
    · have e : a.1 = b.1 := by omega
      have h : ∀ c : Bool, (if c = true then a else b).1 = a.1 := fun c => by
        cases c
        · exact e.symm
        · rfl
      rw [h]; omega
theorem wk_path {p : Nd} (h : NdOk p) {t y : Int} (m : Nat) : ∀ k : Nat, (k : Int) ≤ p.hold → k ≤ m → p.aw + enF p m (t + 1) (y - 1) p.hold.toNat = (wkV p t y k).2 + enF p (m - k) (t + 1 + k) (wkV p t y k).1 (p.hold.toNat - k)
  | 0, _, _ => by simp [wkV]
  | k + 1, h1, h2 => by
    have ih := wk_path h (t := t) (y := y) m k (by omega) (by omega)
    have h0 := h.h0
    rw [ih]
    obtain ⟨q, hq⟩ : ∃ q, m - k = q + 1 := ⟨m - k - 1, by omega⟩
    have hq2 : m - (k + 1) = q := by omega
    rw [hq, hq2]
    simp only [wkV]
    rw [enF, if_neg (by omega)]
    have e : t + 1 + ((k + 1 : Nat) : Int) = t + 1 + k + 1 := by omega
    rw [e]
    by_cases hr : p.hold.toNat - k = 1
    · rw [if_pos hr, if_neg (by omega), show p.hold.toNat - (k + 1) = 0 from by omega]; omega
    · rw [if_neg hr, if_pos (by omega), show p.hold.toNat - (k + 1) = p.hold.toNat - k - 1 from by omega]; omega
theorem best_enF {p : Nd} (h : NdOk p) : ∀ (m : Nat) (t x : Int), 0 ≤ t → p.T - t = m → 0 ≤ x → x ≤ p.bu → (bestV p t x).1 = enF p m t x 0 := by
  intro m
  induction m using Nat.strongRecOn with
  | _ m ih =>
    intro t x h0 hm hx0 hx1
    have hh := h.h0
    match m, ih, hm with
    | 0, _, hm => rw [bestV_done _ (by omega)]; rfl
    | m + 1, ih, hm =>
      have hr := refV_bd h (t := t) hx0 hx1
      rw [enF, if_pos rfl]
      by_cases ha : refV p t x = 0
      · rw [if_pos ha, bestV_stay (by omega) ha]
        simp only [add2]
        rw [ih m (by omega) (t + 1) _ (by omega) (by omega) hr.1 hr.2]; omega
      · rw [if_neg ha, bestV_wake (by omega) ha, pick2_fst]
        simp only [add2]
        have hwb := wkV_bd h (t := t) (a := refV p t x) (by omega) hr.2 (wkN p t)
        have hwn := wkN_bd h h0 (by omega)
        rw [ih m (by omega) (t + 1) _ (by omega) (by omega) hr.1 hr.2, wk_path h m (wkN p t) (by omega) (by omega), show enF p m (t + 1) (refV p t x) 0 + p.za = p.za + enF p m (t + 1) (refV p t x) 0 from Int.add_comm _ _]
        congr 1
        rw [Int.add_comm]
        congr 1
        by_cases hN : (wkN p t : Int) = p.hold
        · rw [show p.hold.toNat - wkN p t = 0 from by omega]
          exact ih (m - wkN p t) (by omega) _ _ (by omega) (by omega) hwb.1.1 hwb.1.2
        · have hd : m - wkN p t = 0 := by
            unfold wkN at *
            simp only [Int.min_def] at *
            split at hN <;> split <;> omega
          rw [hd, bestV_done _ (by omega)]; rfl
section
variable {gr hold t : Int} {nd l : List (List Int)}
end
section
variable {gr hold t : Int} {nd l : List (List Int)}
end
end
section
set_option linter.unusedVariables false
open Go.RowKit
def onP (bu re hold T : Nat) : Nd := ⟨1, 0, bu, re, hold, T⟩
def mvV (p : Nd) (t x : Int) : Int := enF p (p.T - t).toNat t x 0
/-- the tokens behind the refills of k ticks from a on -/
def gnV (p : Nd) (x a : Int) : Nat → Int
  | 0 => x
  | k + 1 => refV p (a + k) (gnV p x a k)
theorem onP_ok {bu re hold T : Nat} (h0 : bu ≤ 20) (h1 : 1 ≤ re) (h2 : re ≤ 1000) (h3 : 1 ≤ hold) (h4 : hold ≤ 100) (h5 : T ≤ 1000) : NdOk (onP bu re hold T) :=
  ⟨Int.le_refl _, by show (0 : Int) ≤ 1; decide, by show (1 : Int) ≤ 10000; decide, Int.natCast_nonneg _, by show (bu : Int) ≤ 20; omega, by show 1 ≤ (re : Int); omega, by show (re : Int) ≤ 1000; omega, by show 1 ≤ (hold : Int); omega, by show (hold : Int) ≤ 103; omega, Int.natCast_nonneg _, by show (T : Int) ≤ 1001; omega⟩
theorem gnV_bd {p : Nd} (h : NdOk p) {x a : Int} (h0 : 0 ≤ x) (h1 : x ≤ p.bu) : ∀ k, 0 ≤ gnV p x a k ∧ gnV p x a k ≤ p.bu
  | 0 => ⟨h0, h1⟩
  | k + 1 => refV_bd h (gnV_bd h h0 h1 k).1 (gnV_bd h h0 h1 k).2
theorem gnV_wk (p : Nd) (t y : Int) : ∀ k, (wkV p t y k).1 = gnV p (y - 1) (t + 1) k
  | 0 => rfl
  | k + 1 => by simp only [wkV, gnV]; rw [gnV_wk p t y k]
theorem mv_done {p : Nd} {t : Int} (x : Int) (h : p.T ≤ t) : mvV p t x = 0 := by
  unfold mvV
  rw [show (p.T - t).toNat = 0 by omega]; rfl
theorem mv_stay {p : Nd} (hz : p.za = 0) {t x : Int} (h : t < p.T) (ha : refV p t x = 0) : mvV p t x = mvV p (t + 1) (refV p t x) := by
  unfold mvV
  rw [show (p.T - t).toNat = (p.T - (t + 1)).toNat + 1 by omega, enF, if_pos rfl, if_pos ha, hz, Int.zero_add]
theorem wk_count {p : Nd} (ha : p.aw = 1) (hz : p.za = 0) (h0 : 1 ≤ p.hold) (t y : Int) : ∀ k : Nat, (k : Int) ≤ p.hold → (wkV p t y k).2 = min ((k : Int) + 1) p.hold
  | 0, _ => by simp only [wkV, ha]; simp only [Int.min_def]; split <;> omega
  | k + 1, hk => by
    simp only [wkV]
    rw [wk_count ha hz h0 t y k (by omega), ha, hz]
    simp only [Int.min_def]
    split <;> split <;> split <;> omega
/-- what a noise brings -/
def wakeV (p : Nd) (t y : Int) : Int := min p.hold (p.T - t) + (if t + p.hold + 1 ≤ p.T then mvV p (t + p.hold + 1) (gnV p (y - 1) (t + 1) p.hold.toNat) else 0)
theorem mv_wake {p : Nd} (h : NdOk p) (ha : p.aw = 1) (hz : p.za = 0) {t x : Int} (ht : t < p.T) (hr : ¬ refV p t x = 0) : mvV p t x = max (mvV p (t + 1) (refV p t x)) (wakeV p t (refV p t x)) := by
  have h0 := h.h0
  unfold mvV
  rw [show (p.T - t).toNat = (p.T - (t + 1)).toNat + 1 by omega, enF, if_pos rfl, if_neg hr, hz, Int.zero_add]
  congr 1
  obtain ⟨m, hm⟩ : ∃ m, (p.T - (t + 1)).toNat = m := ⟨_, rfl⟩
  rw [hm]
  unfold wakeV
  by_cases hc : t + p.hold + 1 ≤ p.T
  · rw [if_pos hc, wk_path h m p.hold.toNat (by omega) (by omega), wk_count ha hz h0 t _ _ (by omega), gnV_wk]
    rw [show p.hold.toNat - p.hold.toNat = 0 by omega, show t + 1 + (p.hold.toNat : Int) = t + p.hold + 1 by omega]
    unfold mvV
    rw [show (p.T - (t + p.hold + 1)).toNat = m - p.hold.toNat by omega]
    congr 1
    simp only [Int.min_def]
    split <;> split <;> omega
  · rw [if_neg hc, wk_path h m m (by omega) (Nat.le_refl _), wk_count ha hz h0 t _ _ (by omega), Nat.sub_self]
    show _ + (0 : Int) = _ + 0
    congr 1
    simp only [Int.min_def]
    split <;> split <;> omega
theorem enF_bd {p : Nd} (ha : p.aw = 1) (hz : p.za = 0) : ∀ (m : Nat) (t x : Int) (r : Nat), 0 ≤ enF p m t x r ∧ enF p m t x r ≤ m
  | 0, _, _, _ => ⟨Int.le_refl _, Int.le_refl _⟩
  | m + 1, t, x, r => by
    have i1 := enF_bd ha hz m (t + 1) (refV p t x) 0
    have i2 := enF_bd ha hz m (t + 1) (refV p t x - 1) p.hold.toNat
    have i3 := enF_bd ha hz m (t + 1) (refV p t x) (r - 1)
    rw [enF, ha, hz]
    simp only [Int.max_def]
    split
    · split
      · omega
      · split <;> omega
    · split <;> omega
theorem mv_bd {p : Nd} (ha : p.aw = 1) (hz : p.za = 0) (t x : Int) (h : t ≤ p.T) : 0 ≤ mvV p t x ∧ mvV p t x ≤ p.T - t := by
  have := enF_bd ha hz (p.T - t).toNat t x 0
  unfold mvV
  omega
/-- the energy goes by the ticks awake -/
theorem enF_lin {q p : Nd} (h01 : q.za ≤ q.aw) (ha : p.aw = 1) (hz : p.za = 0) (hb : p.bu = q.bu) (hr : p.re = q.re) (hh : p.hold = q.hold) : ∀ (m : Nat) (t x : Int) (r : Nat), enF q m t x r = m * q.za + enF p m t x r * (q.aw - q.za)
  | 0, _, _, _ => by simp [enF]
  | m + 1, t, x, r => by
    have er : refV q t x = refV p t x := by unfold refV; rw [hb, hr]
    have i1 := enF_lin h01 ha hz hb hr hh m (t + 1) (refV p t x) 0
    have i2 := enF_lin h01 ha hz hb hr hh m (t + 1) (refV p t x - 1) p.hold.toNat
    have i3 := enF_lin h01 ha hz hb hr hh m (t + 1) (refV p t x) (r - 1)
    rw [enF, enF, er, ← hh, ha, hz, i1, i2, i3]
    have hd : 0 ≤ q.aw - q.za := by omega
    have e1 : ((m + 1 : Nat) : Int) * q.za = m * q.za + q.za := by rw [show ((m + 1 : Nat) : Int) = (m : Int) + 1 by omega, Int.add_mul, Int.one_mul]
    rw [e1]
    generalize (m : Int) * q.za = z
    generalize enF p m (t + 1) (refV p t x) 0 = a
    generalize enF p m (t + 1) (refV p t x - 1) p.hold.toNat = b
    generalize enF p m (t + 1) (refV p t x) (r - 1) = c
    have e2 : (0 + a) * (q.aw - q.za) = a * (q.aw - q.za) := by rw [Int.zero_add]
    have e3 : (1 + b) * (q.aw - q.za) = (q.aw - q.za) + b * (q.aw - q.za) := by rw [Int.add_mul, Int.one_mul]
    have e4 : (1 + c) * (q.aw - q.za) = (q.aw - q.za) + c * (q.aw - q.za) := by rw [Int.add_mul, Int.one_mul]
    by_cases h1 : r = 0
    · rw [if_pos h1, if_pos h1]
      by_cases h2 : refV p t x = 0
      · rw [if_pos h2, if_pos h2, e2]; omega
      · rw [if_neg h2, if_neg h2]
        by_cases hc : 0 + a ≤ 1 + b
        · have := Int.mul_le_mul_of_nonneg_right hc hd
          rw [e2, e3] at this
          rw [Int.max_eq_right hc, e3]
          simp only [Int.max_def]; split <;> omega
        · have := Int.mul_le_mul_of_nonneg_right (show 1 + b ≤ 0 + a by omega) hd
          rw [e2, e3] at this
          rw [Int.max_eq_left (show 1 + b ≤ 0 + a by omega), e2]
          simp only [Int.max_def]; split <;> omega
    · rw [if_neg h1, if_neg h1]
      by_cases h2 : r = 1
      · rw [if_pos h2, if_pos h2, e2]; omega
      · rw [if_neg h2, if_neg h2, e4]; omega
/-- what a node takes at the most -/
def enrV (nd : List (List Int)) (hold : Int) (i : Nat) (T : Int) : Int := T * cv nd i 2 + mvV (onP (cv nd i 3).toNat (cv nd i 4).toNat hold.toNat T.toNat) 0 (cv nd i 3) * (cv nd i 1 - cv nd i 2)
theorem best_enr {gr hold : Int} {nd : List (List Int)} (h : CluOk gr hold nd) {i : Nat} {T : Int} (hi : i < nd.length) (h0 : 0 ≤ T) (h1 : T ≤ 1000) : (bestV (ndV nd hold i T) 0 (cv nd i 3)).1 = enrV nd hold i T := by
  have hb := h.bud i hi
  have hr := h.ref i hi
  have hz := h.asl i hi
  have hh := h.h1
  rw [best_enF (ndOk_of h hi h0 (by omega)) T.toNat 0 (cv nd i 3) (by omega) (by show T - 0 = _; omega) hb.1 (Int.le_refl _)]
  rw [enF_lin (q := ndV nd hold i T) (p := onP (cv nd i 3).toNat (cv nd i 4).toNat hold.toNat T.toNat) hz.2 rfl rfl (by show ((cv nd i 3).toNat : Int) = cv nd i 3; omega) (by show ((cv nd i 4).toNat : Int) = cv nd i 4; omega) (by show (hold.toNat : Int) = hold; omega)]
  unfold enrV mvV
  rw [show ((onP (cv nd i 3).toNat (cv nd i 4).toNat hold.toNat T.toNat).T - 0).toNat = T.toNat by show ((T.toNat : Int) - 0).toNat = _; omega, show (T.toNat : Int) = T by omega]
  rfl
/-- a table: rows of numbers, those from z on are done -/
def TbH (W : World) (tb T N : Nat) (p : Nd) (z hi B : Nat) : Prop :=
  ∃ TV : Nat → Value, OwnP W tb (T + 1) TV ∧ tb < hi ∧ B ≤ tb ∧ ∀ t, z ≤ t → t ≤ T → ∃ b, TV t = .slice (some ⟨b, 0, none⟩) N N ∧ B ≤ b ∧ b < hi ∧ ¬ b = tb ∧ OwnP W b N (EV (fun x => mvV p t x))
section
variable {W W' : World} {tb T N z hi B : Nat} {p : Nd}
theorem TbH.only {S : Nat → Prop} (h : TbH W tb T N p z hi B) (g : Only S W W') (hS : ∀ b, B ≤ b → b < hi → ¬ S b) : TbH W' tb T N p z hi B := by
  obtain ⟨TV, h1, h2, h3, h4⟩ := h
  refine ⟨TV, h1.only g (hS tb h3 h2), h2, h3, fun t a b => ?_⟩
  obtain ⟨x, e1, e2, e3, e4, e5⟩ := h4 t a b
  exact ⟨x, e1, e2, e3, e4, e5.only g (hS x e2 e3)⟩
theorem TbH.gr (h : TbH W tb T N p z hi B) (g : Gr W W') : TbH W' tb T N p z hi B := h.only (g.only (fun _ => False)) (fun _ _ _ h => h)
theorem TbH.up {hi' : Nat} (h : TbH W tb T N p z hi B) (hh : hi ≤ hi') : TbH W tb T N p z hi' B := by
  obtain ⟨TV, h1, h2, h3, h4⟩ := h
  refine ⟨TV, h1, by omega, h3, fun t a b => ?_⟩
  obtain ⟨x, e1, e2, e3, e4, e5⟩ := h4 t a b
  exact ⟨x, e1, e2, by omega, e4, e5⟩
theorem TbH.row (h : TbH W tb T N p z hi B) {t : Nat} (h0 : z ≤ t) (h1 : t ≤ T) : ∃ b, W.cell? ⟨tb, t, none⟩ = some (.slice (some ⟨b, 0, none⟩) N N) ∧ b < hi ∧ OwnP W b N (EV (fun x => mvV p t x)) := by
  obtain ⟨TV, k1, k2, k3, k4⟩ := h
  obtain ⟨x, e1, e2, e3, e4, e5⟩ := k4 t h0 h1
  exact ⟨x, by rw [← e1]; exact k1.cell (by omega), e3, e5⟩
/-- a new row is laid into the table -/
theorem TbH.lay (h : TbH W tb T N p (z + 1) hi B) {rb : Nat} (hr : ¬ rb = tb) {val : Nat → Value} (hR : OwnP W rb N val) :
    TbH (W.setCell ⟨tb, z, none⟩ (.slice (some ⟨rb, 0, none⟩) N N)) tb T N p (z + 1) hi B ∧ OwnP (W.setCell ⟨tb, z, none⟩ (.slice (some ⟨rb, 0, none⟩) N N)) rb N val ∧
      (z ≤ T → (W.setCell ⟨tb, z, none⟩ (.slice (some ⟨rb, 0, none⟩) N N)).cell? ⟨tb, z, none⟩ = some (.slice (some ⟨rb, 0, none⟩) N N)) := by
  obtain ⟨TV, k1, k2, k3, k4⟩ := h
  have g := Y.set_only W tb z (.slice (some ⟨rb, 0, none⟩) N N)
  have k5 := k1.set (k := z) (.slice (some ⟨rb, 0, none⟩) N N)
  refine ⟨⟨_, k5, k2, k3, fun t a b => ?_⟩, hR.only g (fun e => hr e), fun hz => by rw [k5.cell (k := z) (by omega), if_pos rfl]⟩
  obtain ⟨x, e1, e2, e3, e4, e5⟩ := k4 t a b
  exact ⟨x, by rw [if_neg (by omega)]; exact e1, e2, e3, e4, e5.only g (fun e => e4 e)⟩
/-- the new row is done -/
theorem TbH.done (h : TbH W tb T N p (z + 1) hi B) {rb : Nat} (hr : ¬ rb = tb) (hb : B ≤ rb) (hh : rb < hi) (hz : z ≤ T) (hc : W.cell? ⟨tb, z, none⟩ = some (.slice (some ⟨rb, 0, none⟩) N N)) (hR : OwnP W rb N (EV (fun x => mvV p z x))) : TbH W tb T N p z hi B := by
  obtain ⟨TV, k1, k2, k3, k4⟩ := h
  refine ⟨TV, k1, k2, k3, fun t a b => ?_⟩
  by_cases e : t = z
  · subst e
    exact ⟨rb, by have := k1.cell (k := t) (by omega); rw [hc] at this; exact (Option.some.inj this).symm, hb, hh, hr, hR⟩
  · exact k4 t (by omega) b
theorem TbH.new (h : OwnP W tb (T + 1) (fun _ => .slice none 0 0)) (hB : B ≤ tb) (hh : tb < hi) : TbH W tb T N p (T + 1) hi B := ⟨_, h, hh, hB, fun t a b => by omega⟩
theorem TbH.st (h : TbH W tb T N p z hi B) {k : Nat} {v : Value} (hk : k < T + 1) (hv : v.cells = #[v]) (hv1 : v.oneCell' = true) : (Instr.storeAt 34 (.pointer (some ⟨tb, k, none⟩)) v).run Try.prog W = .ok () (W.setCell ⟨tb, k, none⟩ v) := by
  obtain ⟨TV, k1, _⟩ := h
  exact k1.st1 (Try.siz34 _) hv hv1 hk
theorem TbH.lt (h : TbH W tb T N p z hi B) : tb < W.heap.size := by
  obtain ⟨TV, k1, _⟩ := h
  exact k1.lt
end
theorem make138 (W : World) {N : Nat} {x : Int} (hx : x = N) (hN : N ≤ 1000000) : ∃ W', (Instr.makeSlice 138 (.int .i64 x) (.int .i64 x)).run Try.prog W = .ok (.slice (some ⟨W.heap.size, 0, none⟩) N N) W' ∧ OwnP W' W.heap.size N (fun _ => .slice none 0 0) ∧ Gr W W' := by
  subst hx
  obtain ⟨i, hi, h0, h1, h2⟩ := info_parts Try.info34
  have hr := run_make (P := Try.prog) W 138 34 i _ Try.underlying138 hi h0 .i64 .i64 N N (by omega) (Int.le_refl _) (by rw [h2]; omega) (by omega)
  simp only [Int.toNat_natCast, h1] at hr
  refine ⟨_, hr, ⟨_, _, World.alloc_heap_new _ _, by rw [size_madeCells]; omega, fun k hk => ?_⟩, Gr.alloc _ _⟩
  unfold madeCells
  simp only [Value.cells, Array.getElem?_map]
  rw [Array.getElem?_eq_getElem (by simpa using hk)]
  simp [Nat.mod_one]
theorem make34 (W : World) {N : Nat} {x : Int} (hx : x = N) (hN : N ≤ 1000000) : ∃ W', (Instr.makeSlice 34 (.int .i64 x) (.int .i64 x)).run Try.prog W = .ok (.slice (some ⟨W.heap.size, 0, none⟩) N N) W' ∧ OwnP W' W.heap.size N (EV (fun _ => 0)) ∧ Gr W W' := by
  subst hx
  obtain ⟨i, hi, h0, h1, h2⟩ := info_parts Try.info3
  have hr := run_make (P := Try.prog) W 34 3 i _ Try.underlying34 hi h0 .i64 .i64 N N (by omega) (Int.le_refl _) (by rw [h2]; omega) (by omega)
  simp only [Int.toNat_natCast, h1] at hr
  refine ⟨_, hr, ⟨_, _, World.alloc_heap_new _ _, by rw [size_madeCells]; omega, fun k hk => ?_⟩, Gr.alloc _ _⟩
  unfold madeCells EV
  simp only [Value.cells, Array.getElem?_map]
  rw [Array.getElem?_eq_getElem (by simpa using hk)]
  simp [Nat.mod_one]
end
section
set_option linter.unusedVariables false
open Go.RowKit
theorem betB_iff {x y : Int × Int} : betB x y = true ↔ (y.1 < x.1 ∨ (x.1 = y.1 ∧ x.2 < y.2)) := by
  unfold betB orI cmpI
  rw [decide_eq_true_eq]
  by_cases h1 : x.1 < y.1
  · rw [if_pos h1]; simp; omega
  · rw [if_neg h1]
    by_cases h2 : y.1 < x.1
    · rw [if_pos h2]; simp; omega
    · rw [if_neg h2]
      have e : x.1 = y.1 := by omega
      rw [if_pos rfl]
      by_cases h3 : y.2 < x.2
      · rw [if_pos h3]; constructor <;> intro h <;> omega
      · rw [if_neg h3]
        by_cases h4 : x.2 < y.2
        · rw [if_pos h4]; constructor
          · intro _; exact .inr ⟨e, h4⟩
          · intro _; decide
        · rw [if_neg h4]; constructor <;> intro h <;> omega
/-- what a noise brings, and what it is to stay -/
def wkO (p : Nd) (t x : Int) : Int × Int := add2 (bestV p (t + 1 + wkN p t) (wkV p t (refV p t x) (wkN p t)).1) ((wkV p t (refV p t x) (wkN p t)).2, 1)
def stO (p : Nd) (t x : Int) : Int × Int := add2 (bestV p (t + 1) (refV p t x)) (p.za, 0)
theorem take_iff {p : Nd} {t x : Int} (ht : t < p.T) (ha : ¬ refV p t x = 0) : takeB p t x = true ↔ ((stO p t x).1 < (wkO p t x).1 ∨ ((wkO p t x).1 = (stO p t x).1 ∧ (wkO p t x).2 ≤ (stO p t x).2)) := by
  have h := bestV_wake ht ha
  have e : takeB p t x = eq2 (wkO p t x) (bestV p t x) := rfl
  rw [e, h]
  show eq2 (wkO p t x) (pick2 (wkO p t x) (stO p t x)) = true ↔ _
  unfold pick2
  by_cases hb : betB (wkO p t x) (stO p t x) = true
  · rw [if_pos hb]
    have := betB_iff.1 hb
    unfold eq2
    simp
    omega
  · rw [if_neg hb]
    have h2 : ¬ ((stO p t x).1 < (wkO p t x).1 ∨ ((wkO p t x).1 = (stO p t x).1 ∧ (wkO p t x).2 < (stO p t x).2)) := fun h => hb (betB_iff.2 h)
    unfold eq2
    simp
    omega
theorem best_take {p : Nd} {t x : Int} (hk : takeB p t x = true) : bestV p t x = wkO p t x := by
  have e : takeB p t x = eq2 (wkO p t x) (bestV p t x) := rfl
  rw [e] at hk
  unfold eq2 at hk
  simp only [Bool.and_eq_true, beq_iff_eq] at hk
  exact Prod.ext hk.1.symm hk.2.symm
theorem best_skip {p : Nd} {t x : Int} (ht : t < p.T) (ha : ¬ refV p t x = 0) (hk : takeB p t x = false) : bestV p t x = stO p t x := by
  have h := bestV_wake ht ha
  have e : takeB p t x = eq2 (wkO p t x) (bestV p t x) := rfl
  rw [e] at hk
  have h2 : bestV p t x = pick2 (wkO p t x) (stO p t x) := h
  unfold pick2 at h2
  split at h2
  · rw [h2] at hk; unfold eq2 at hk; simp at hk
  · exact h2
/-- as many wakes as noises -/
theorem best_len {p : Nd} (h : NdOk p) : ∀ (m : Nat) (t x : Int), 0 ≤ t → p.T - t = m → 0 ≤ x → x ≤ p.bu → (bestV p t x).2 = (noiV p t x).length := by
  intro m
  induction m using Nat.strongRecOn with
  | _ m ih =>
    intro t x h0 hm hx0 hx1
    match m, ih, hm with
    | 0, _, hm => rw [bestV_done _ (by omega), noi_done (by omega)]; rfl
    | m + 1, ih, hm =>
      have hr := refV_bd h (t := t) hx0 hx1
      have i1 := ih m (by omega) (t + 1) (refV p t x) (by omega) (by omega) hr.1 hr.2
      by_cases ha : refV p t x = 0
      · rw [bestV_stay (by omega) ha, noi_none (by omega) ha, ← i1]; simp [add2]
      · cases hk : takeB p t x with
        | false => rw [best_skip (by omega) ha hk, noi_skip (by omega) ha hk, ← i1]; simp [stO, add2]
        | true =>
          have hwb := wkV_bd h (t := t) (a := refV p t x) (by omega) hr.2 (wkN p t)
          have hwn := wkN_bd h h0 (by omega)
          have i2 := ih (m - wkN p t) (by omega) (t + 1 + wkN p t) (wkV p t (refV p t x) (wkN p t)).1 (by omega) (by omega) hwb.1.1 hwb.1.2
          rw [best_take hk, noi_take (by omega) ha hk, List.length_cons]
          simp only [wkO, add2]
          omega
/-- a node that takes more awake: as one that takes 1 awake and nothing asleep -/
theorem best_lin {q p : Nd} (h : NdOk p) (hlt : q.za < q.aw) (ha : p.aw = 1) (hz : p.za = 0) (hb : p.bu = q.bu) (hr : p.re = q.re) (hh : p.hold = q.hold) (hT : p.T = q.T) : ∀ (m : Nat) (t x : Int), 0 ≤ t → p.T - t = m → 0 ≤ x → x ≤ p.bu →
    bestV q t x = ((p.T - t) * q.za + (bestV p t x).1 * (q.aw - q.za), (bestV p t x).2) ∧ noiV q t x = noiV p t x := by
  have er : ∀ t x, refV q t x = refV p t x := fun t x => by unfold refV; rw [hb, hr]
  have en : ∀ t, wkN q t = wkN p t := fun t => by unfold wkN; rw [hh, hT]
  have ew1 : ∀ t y k, (wkV q t y k).1 = (wkV p t y k).1 := fun t y k => by
    induction k with
    | zero => rfl
    | succ k ih => simp only [wkV]; rw [ih, er]
  have ew2 : ∀ t y k, (wkV q t y k).2 = (k + 1 : Nat) * q.za + (wkV p t y k).2 * (q.aw - q.za) := fun t y k => by
    induction k with
    | zero => simp only [wkV, ha]; omega
    | succ k ih =>
      simp only [wkV]
      rw [ih, ← hh, ha, hz]
      have e1 : ((k + 1 + 1 : Nat) : Int) * q.za = ((k + 1 : Nat) : Int) * q.za + q.za := by rw [show ((k + 1 + 1 : Nat) : Int) = ((k + 1 : Nat) : Int) + 1 by omega, Int.add_mul, Int.one_mul]
      rw [e1]
      generalize ((k + 1 : Nat) : Int) * q.za = z
      generalize (wkV p t y k).2 = c
      split
      · have : (c + 1) * (q.aw - q.za) = c * (q.aw - q.za) + (q.aw - q.za) := by rw [Int.add_mul, Int.one_mul]
        rw [this]; omega
      · rw [Int.add_zero]; omega
  intro m
  induction m using Nat.strongRecOn with
  | _ m ih =>
    intro t x h0 hm hx0 hx1
    match m, ih, hm with
    | 0, _, hm =>
      rw [bestV_done _ (show q.T ≤ t by omega), bestV_done _ (show p.T ≤ t by omega), noi_done (show q.T ≤ t by omega), noi_done (show p.T ≤ t by omega)]
      exact ⟨by rw [hm]; simp, rfl⟩
    | m + 1, ih, hm =>
      have hrb := refV_bd h (t := t) hx0 hx1
      obtain ⟨i1, i1n⟩ := ih m (by omega) (t + 1) (refV p t x) (by omega) (by omega) hrb.1 hrb.2
      have eT : (p.T - t) * q.za = (p.T - (t + 1)) * q.za + q.za := by rw [show p.T - t = p.T - (t + 1) + 1 by omega, Int.add_mul, Int.one_mul]
      by_cases h00 : refV p t x = 0
      · have h00q : refV q t x = 0 := by rw [er]; exact h00
        rw [bestV_stay (show t < q.T by omega) h00q, bestV_stay (show t < p.T by omega) h00, noi_none (show t < q.T by omega) h00q, noi_none (show t < p.T by omega) h00, er, i1, i1n]
        refine ⟨?_, rfl⟩
        simp only [add2, hz, Int.add_zero]
        rw [eT]
        congr 1; omega
      · have h00q : ¬ refV q t x = 0 := by rw [er]; exact h00
        have hwb := wkV_bd h (t := t) (a := refV p t x) (by omega) hrb.2 (wkN p t)
        have hwn := wkN_bd h h0 (by omega)
        obtain ⟨i2, i2n⟩ := ih (m - wkN p t) (by omega) (t + 1 + wkN p t) (wkV p t (refV p t x) (wkN p t)).1 (by omega) (by omega) hwb.1.1 hwb.1.2
        have hs : stO q t x = ((p.T - t) * q.za + (stO p t x).1 * (q.aw - q.za), (stO p t x).2) := by
          simp only [stO, er, i1, add2, hz, Int.add_zero]
          rw [eT]
          congr 1; omega
        have hw : wkO q t x = ((p.T - t) * q.za + (wkO p t x).1 * (q.aw - q.za), (wkO p t x).2) := by
          simp only [wkO, er, en, ew1, ew2, i2, add2]
          have eT2 : (p.T - t) * q.za = (p.T - (t + 1 + wkN p t)) * q.za + ((wkN p t + 1 : Nat) : Int) * q.za := by
            rw [← Int.add_mul]; congr 1; omega
          rw [eT2, Int.add_mul]
          congr 1; omega
        have hd : 0 < q.aw - q.za := by omega
        have hmono : ∀ a b : Int, (a < b ↔ (p.T - t) * q.za + a * (q.aw - q.za) < (p.T - t) * q.za + b * (q.aw - q.za)) := fun a b => by
          constructor
          · intro hab; have := Int.mul_lt_mul_of_pos_right hab hd; omega
          · intro hab; exact Int.lt_of_mul_lt_mul_right (by omega) (Int.le_of_lt hd)
        have htk : takeB q t x = takeB p t x := by
          have h1 := take_iff (p := q) (t := t) (x := x) (by omega) h00q
          have h2 := take_iff (p := p) (t := t) (x := x) (by omega) h00
          rw [hs, hw] at h1
          have m1 := hmono (stO p t x).1 (wkO p t x).1
          have m2 := hmono (wkO p t x).1 (stO p t x).1
          have h3 : takeB q t x = true ↔ takeB p t x = true := by
            rw [h1, h2]
            simp only
            omega
          exact Bool.eq_iff_iff.2 h3
        cases hk : takeB p t x with
        | true =>
          rw [hk] at htk
          rw [best_take htk, best_take hk, hw, noi_take (by omega) h00q htk, noi_take (by omega) h00 hk, en, er, ew1, i2n]
          exact ⟨rfl, rfl⟩
        | false =>
          rw [hk] at htk
          rw [best_skip (by omega) h00q htk, best_skip (by omega) h00 hk, hs, noi_skip (by omega) h00q htk, noi_skip (by omega) h00 hk, er, i1n]
          exact ⟨rfl, rfl⟩
/-- one that takes no more awake needs no noise -/
theorem noi_flat {q : Nd} (h : NdOk q) (he : q.aw = q.za) : ∀ (m : Nat) (t x : Int), 0 ≤ t → q.T - t = m → 0 ≤ x → x ≤ q.bu → bestV q t x = ((q.T - t) * q.za, 0) ∧ noiV q t x = [] := by
  have ew2 : ∀ t y k, (wkV q t y k).2 = ((k + 1 : Nat) : Int) * q.za := fun t y k => by
    induction k with
    | zero => simp only [wkV, he]; omega
    | succ k ih =>
      simp only [wkV]
      rw [ih, he, show ((k + 1 + 1 : Nat) : Int) = ((k + 1 : Nat) : Int) + 1 by omega, Int.add_mul, Int.one_mul]
      split <;> rfl
  intro m
  induction m using Nat.strongRecOn with
  | _ m ih =>
    intro t x h0 hm hx0 hx1
    match m, ih, hm with
    | 0, _, hm =>
      rw [bestV_done _ (show q.T ≤ t by omega), noi_done (show q.T ≤ t by omega)]
      exact ⟨by rw [hm]; simp, rfl⟩
    | m + 1, ih, hm =>
      have hrb := refV_bd h (t := t) hx0 hx1
      obtain ⟨i1, i1n⟩ := ih m (by omega) (t + 1) (refV q t x) (by omega) (by omega) hrb.1 hrb.2
      have eT : (q.T - t) * q.za = (q.T - (t + 1)) * q.za + q.za := by rw [show q.T - t = q.T - (t + 1) + 1 by omega, Int.add_mul, Int.one_mul]
      by_cases h00 : refV q t x = 0
      · rw [bestV_stay (show t < q.T by omega) h00, noi_none (show t < q.T by omega) h00, i1, i1n]
        exact ⟨by simp only [add2]; rw [eT]; rfl, rfl⟩
      · have hwb := wkV_bd h (t := t) (a := refV q t x) (by omega) hrb.2 (wkN q t)
        have hwn := wkN_bd h h0 (by omega)
        obtain ⟨i2, i2n⟩ := ih (m - wkN q t) (by omega) (t + 1 + wkN q t) (wkV q t (refV q t x) (wkN q t)).1 (by omega) (by omega) hwb.1.1 hwb.1.2
        have hs : stO q t x = ((q.T - t) * q.za, 0) := by
          simp only [stO, i1, add2]; rw [eT]; rfl
        have hw : wkO q t x = ((q.T - t) * q.za, 1) := by
          simp only [wkO, i2, ew2, add2]
          rw [← Int.add_mul, show q.T - (t + 1 + (wkN q t : Int)) + ((wkN q t + 1 : Nat) : Int) = q.T - t by omega]; rfl
        have hk : takeB q t x = false := by
          cases e : takeB q t x with
          | false => rfl
          | true =>
            have := (take_iff (by omega) h00).1 e
            rw [hs, hw] at this
            simp only at this
            omega
        rw [best_skip (by omega) h00 hk, hs, noi_skip (by omega) h00 hk, i1n]
        exact ⟨rfl, rfl⟩
end
end Go.Proofs.Ytoalamakhjbedaa
