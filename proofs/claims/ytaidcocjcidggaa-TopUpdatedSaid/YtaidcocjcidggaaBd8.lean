/- Several texts of this claim in one file. (1) Contract: join. (2) Contracts: literal, not. (3) Contract: operands. (4) Contract: valid. (5) Contract: grow. -/
import Derived.Test.YtaidcocjcidggaaBd7
namespace Go.Proofs.Ytaidcocjcidggaa
set_option linter.unusedSimpArgs false
set_option linter.unusedVariables false
section
open Go.RowKit

set_option maxRecDepth 100000 in
set_option maxHeartbeats 1000000 in
theorem join_step (m : Nat) (ih : ∀ (t : Nat) (S : Nat → Prop) (fo fo' : Fo) (op a b r : Int) (w : World) (hF : FoAt w S t fo), Fo.join m fo op a b = some (fo', r) → Calls Try.prog 122 #[Vp t, .int .i64 op, .int .i64 a, .int .i64 b] w (fun e w' => e = .returned (.int .i64 r) ∧ FoAt w' (Gw S w w') t fo' ∧ Only S w w')) (t : Nat) (S : Nat → Prop) (fo fo' : Fo) (op a b r : Int) (w : World) (hF : FoAt w S t fo) (hb : Fo.join (m + 1) fo op a b = some (fo', r)) :
  Calls Try.prog 122 #[Vp t, Vi op, Vi a, Vi b] w fun e w' => e = .returned (Vi r) ∧ FoAt w' (Gw S w w') t fo' ∧ Only S w w' := by
 have G := Gr.refl w
 have hF0 := hF
 have hlt := hF.lt
 obtain ⟨x, hx⟩ : ∃ z, z = if b < a then b else a := ⟨_, rfl⟩
 obtain ⟨y, hy⟩ : ∃ z, z = if b < a then a else b := ⟨_, rfl⟩
 obtain ⟨gv, hgv⟩ : ∃ z, z = (getM fo.jn (op, x, y)).getD 0 := ⟨_, rfl⟩
 obtain ⟨gb, hgb⟩ : ∃ z, z = (getM fo.jn (op, x, y)).isSome := ⟨_, rfl⟩
 obtain ⟨ka, kc, m1, m2, hM⟩ := hF
 have hk := hM.rows
 have hsm := hM.small
 have hC : RCells w [(Ad t 0, Vi fo.n), (Ad t 1, .slice ka fo.kn.length kc), (Ad t 2, .map (some m1)), (Ad t 3, .map (some m2))] := (RCells.cons (hM.c.cell (k := 0) (by decide)) (RCells.cons (hM.c.cell (k := 1) (by decide)) (RCells.cons (hM.c.cell (k := 2) (by decide)) (RCells.cons (hM.c.cell (k := 3) (by decide)) (RCells.nil _)))))
 refine Y.calls 117 Try.func122 rfl rfl ?_
 intro ac F0
 have F : Fr ac 117 [(0, Vp t), (1, Vi op), (2, Vi a), (3, Vi b)] := F0.sub _
 clear F0
 refine Y.seq ?_
 refine Y.lit (by kernel_rfl) ?_
 refine Y.pv F (X.assign rfl (X.kc (Vi 0) rfl)) ?_;clear F ac;intro ac F
 refine Y.nil ?_
 replace F : Fr ac 117 [(0, Vp t), (1, Vi op), (2, Vi a), (3, Vi b)] := F.sub _
 refine X.thenN ?_
 refine Y.seqJ (fun ac wr => w = wr ∧ ¬ (a < 2 ∧ b < 2) ∧ Fr ac 117 [(0, Vp t), (1, Vi op), (2, Vi a), (3, Vi b)]) ?_ ?_
 ·refine Y.seq ?_
  refine Y.lit (by kernel_rfl) ?_
  refine Y.pv F (X.move rfl (F.e 2 rfl)) ?_;clear F ac;intro ac F
  refine Y.pv F (X.binop rfl (F.e 19 rfl) (X.kc (Vi 2) rfl) (X.lssI Try.underlying3 rfl)) ?_;clear F ac;intro ac F
  refine Y.pv F (X.move rfl (F.e 20 rfl)) ?_;clear F ac;intro ac F
  cases h3 : decide ((a : Int) < 2) with
  | false =>
   try rw [h3] at F
   have h3p : ¬ ((a : Int) < 2) := of_decide_eq_false h3
   refine Y.pskip F (X.w2 rfl (F.yl (j := 2) (d := 21) (b := false) rfl (by kernel_rfl)) rfl) rfl ?_;clear F ac;intro ac F
   refine Y.pskip F (X.w2 rfl (F.yl (j := 2) (d := 21) (b := false) rfl (by kernel_rfl)) rfl) rfl ?_;clear F ac;intro ac F
   refine Y.pv F (X.pickF rfl (F.e 21 rfl) (X.kc (.bool false) rfl)) ?_;clear F ac;intro ac F
   refine Y.nil ?_
   replace F : Fr ac 117 [(0, Vp t), (1, Vi op), (2, Vi a), (3, Vi b), (24, .bool false)] := F.sub _
   refine X.thenN ?_
   refine Y.condF (F.e 24 rfl) ?_
   refine Y.skip ?_
   refine X.thenN ?_
   exact ⟨rfl, by rintro ⟨k1, k2⟩; omega, F.sub _⟩
  | true =>
   try rw [h3] at F
   have h3p : ((a : Int) < 2) := of_decide_eq_true h3
   refine Y.pval F (X.w1 rfl (F.yl (j := 2) (d := 21) (b := true) rfl (by kernel_rfl))) rfl (X.move rfl (F.e 3 rfl)) ?_;clear F ac;intro ac F
   refine Y.pval F (X.w1 rfl (F.yl (j := 2) (d := 21) (b := true) rfl (by kernel_rfl))) rfl (X.binop rfl (F.e 22 rfl) (X.kc (Vi 2) rfl) (X.lssI Try.underlying3 rfl)) ?_;clear F ac;intro ac F
   refine Y.pv F (X.pickT rfl (F.e 21 rfl) (F.e 23 rfl)) ?_;clear F ac;intro ac F
   refine Y.nil ?_
   replace F : Fr ac 117 [(0, Vp t), (1, Vi op), (2, Vi a), (3, Vi b), (24, .bool (decide ((b : Int) < 2)))] := F.sub _
   refine X.thenN ?_
   cases h4 : decide ((b : Int) < 2) with
   | false =>
    try rw [h4] at F
    have h4p : ¬ ((b : Int) < 2) := of_decide_eq_false h4
    refine Y.condF (F.e 24 rfl) ?_
    refine Y.skip ?_
    refine X.thenN ?_
    exact ⟨rfl, by rintro ⟨k1, k2⟩; omega, F.sub _⟩
   | true =>
    try rw [h4] at F
    have h4p : ((b : Int) < 2) := of_decide_eq_true h4
    refine Y.condT (F.e 24 rfl) ?_
    refine Y.seq ?_
    refine Y.lit (by kernel_rfl) ?_
    refine Y.pv F (X.move rfl (F.e 2 rfl)) ?_;clear F ac;intro ac F
    refine Y.pv F (X.binop rfl (F.e 25 rfl) (X.kc (Vi 1) rfl) (X.eqlI Try.underlying3 rfl)) ?_;clear F ac;intro ac F
    refine Y.pv F (X.move rfl (F.e 3 rfl)) ?_;clear F ac;intro ac F
    refine Y.pv F (X.binop rfl (F.e 27 rfl) (X.kc (Vi 1) rfl) (X.eqlI Try.underlying3 rfl)) ?_;clear F ac;intro ac F
    refine Y.pv F (X.assign rfl (F.e 26 rfl)) ?_;clear F ac;intro ac F
    refine Y.pv F (X.assign rfl (F.e 28 rfl)) ?_;clear F ac;intro ac F
    refine Y.nil ?_
    replace F : Fr ac 117 [(1, Vi op), (9, .bool ((a : Int) == 1)), (10, .bool ((b : Int) == 1))] := F.sub _
    refine X.thenN ?_
    refine Y.seq ?_
    refine Y.lit (by kernel_rfl) ?_
    refine Y.pv F (X.move rfl (F.e 9 rfl)) ?_;clear F ac;intro ac F
    refine Y.pv F (X.move rfl (F.e 10 rfl)) ?_;clear F ac;intro ac F
    refine Y.pv F (X.binop rfl (F.e 29 rfl) (F.e 30 rfl) (Y.eqlB Try.underlying4 rfl)) ?_;clear F ac;intro ac F
    refine Y.pv F (X.assign rfl (F.e 31 rfl)) ?_;clear F ac;intro ac F
    refine Y.nil ?_
    replace F : Fr ac 117 [(1, Vi op), (9, .bool ((a : Int) == 1)), (10, .bool ((b : Int) == 1)), (11, .bool (((a : Int) == 1) == ((b : Int) == 1)))] := F.sub _
    refine X.thenN ?_
    refine Y.seq ?_
    refine Y.seq ?_
    refine Y.lit (by kernel_rfl) ?_
    refine Y.pv F (X.move rfl (F.e 1 rfl)) ?_;clear F ac;intro ac F
    refine Y.nil ?_
    replace F : Fr ac 117 [(9, .bool ((a : Int) == 1)), (10, .bool ((b : Int) == 1)), (11, .bool (((a : Int) == 1) == ((b : Int) == 1))), (32, Vi op)] := F.sub _
    refine X.thenN ?_
    refine Y.block ?_
    refine Y.seq ?_
    refine Y.lit (by kernel_rfl) ?_
    refine Y.pv F (X.binop rfl (F.e 32 rfl) (X.kc (Vi (-4)) rfl) (X.eqlI Try.underlying3 rfl)) ?_;clear F ac;intro ac F
    refine Y.pv F (X.assign rfl (F.e 34 rfl)) ?_;clear F ac;intro ac F
    refine Y.nil ?_
    replace F : Fr ac 117 [(9, .bool ((a : Int) == 1)), (10, .bool ((b : Int) == 1)), (11, .bool (((a : Int) == 1) == ((b : Int) == 1))), (32, Vi op), (33, .bool ((op : Int) == (-4)))] := F.sub _
    refine X.thenN ?_
    cases h5 : ((op : Int) == (-4)) with
    | false =>
     try rw [h5] at F
     have h5p : ¬ (op : Int) = (-4) := by simpa using h5
     refine Y.condF (F.e 33 rfl) ?_
     refine Y.seq ?_
     refine Y.lit (by kernel_rfl) ?_
     refine Y.pv F (X.binop rfl (F.e 32 rfl) (X.kc (Vi (-5)) rfl) (X.eqlI Try.underlying3 rfl)) ?_;clear F ac;intro ac F
     refine Y.pv F (X.assign rfl (F.e 40 rfl)) ?_;clear F ac;intro ac F
     refine Y.nil ?_
     replace F : Fr ac 117 [(9, .bool ((a : Int) == 1)), (10, .bool ((b : Int) == 1)), (11, .bool (((a : Int) == 1) == ((b : Int) == 1))), (39, .bool ((op : Int) == (-5)))] := F.sub _
     refine X.thenN ?_
     cases h6 : ((op : Int) == (-5)) with
     | false =>
      try rw [h6] at F
      have h6p : ¬ (op : Int) = (-5) := by simpa using h6
      refine Y.condF (F.e 39 rfl) ?_
      refine Y.skip ?_
      refine X.blockN ?_
      refine X.thenN ?_
      refine Y.seq ?_
      refine Y.seq ?_
      refine Y.lit (by kernel_rfl) ?_
      refine Y.pv F (X.move rfl (F.e 11 rfl)) ?_;clear F ac;intro ac F
      refine Y.nil ?_
      replace F : Fr ac 117 [(45, .bool (((a : Int) == 1) == ((b : Int) == 1)))] := F.sub _
      refine X.thenN ?_
      cases h7 : (((a : Int) == 1) == ((b : Int) == 1)) with
      | false =>
       try rw [h7] at F
       refine Y.condF (F.e 45 rfl) ?_
       refine Y.skip ?_
       refine X.thenN ?_
       refine Y.seq ?_
       refine Y.lit (by kernel_rfl) ?_
       refine Y.pv F (X.assign rfl (X.kc (Vi 0) rfl)) ?_;clear F ac;intro ac F
       refine Y.nil ?_
       replace F : Fr ac 117 [(8, Vi 0)] := F.sub _
       refine X.thenN ?_
       refine Y.ret ?_
       refine X.thenR ?_
       obtain ⟨e1, e2⟩ := join_end ⟨by omega, by omega⟩ hb
       subst e1
       exact Y.ret0 (v := Vi 0) F (Y.rs1 F rfl (by kernel_rfl)) ⟨by rw [e2]; simp [endJ, h3, h3p, h4, h4p, h5, h5p, h6, h6p, h7], (hF0.gr G).wide hlt G.size, G.only _⟩
      | true =>
       try rw [h7] at F
       refine Y.condT (F.e 45 rfl) ?_
       refine Y.seq ?_
       refine Y.lit (by kernel_rfl) ?_
       refine Y.pv F (X.assign rfl (X.kc (Vi 1) rfl)) ?_;clear F ac;intro ac F
       refine Y.nil ?_
       replace F : Fr ac 117 [(8, Vi 1)] := F.sub _
       refine X.thenN ?_
       refine Y.ret ?_
       refine X.thenR ?_
       refine X.thenR ?_
       obtain ⟨e1, e2⟩ := join_end ⟨by omega, by omega⟩ hb
       subst e1
       exact Y.ret0 (v := Vi 1) F (Y.rs1 F rfl (by kernel_rfl)) ⟨by rw [e2]; simp [endJ, h3, h3p, h4, h4p, h5, h5p, h6, h6p, h7], (hF0.gr G).wide hlt G.size, G.only _⟩
     | true =>
      try rw [h6] at F
      have h6p : (op : Int) = (-5) := by simpa using h6
      refine Y.condT (F.e 39 rfl) ?_
      refine Y.lit (by kernel_rfl) ?_
      refine Y.pv F (X.move rfl (F.e 9 rfl)) ?_;clear F ac;intro ac F
      refine Y.pv F (X.move rfl (F.e 41 rfl)) ?_;clear F ac;intro ac F
      cases h8 : ((a : Int) == 1) with
      | false =>
       try rw [h8] at F
       have h8p : ¬ (a : Int) = 1 := by simpa using h8
       refine Y.pval F (X.w1 rfl (F.yl (j := 1) (d := 42) (b := false) rfl (by kernel_rfl))) rfl (X.move rfl (F.e 10 rfl)) ?_;clear F ac;intro ac F
       refine Y.pv F (X.pickF rfl (F.e 42 rfl) (F.e 43 rfl)) ?_;clear F ac;intro ac F
       refine Y.pv F (X.assign rfl (F.e 44 rfl)) ?_;clear F ac;intro ac F
       refine Y.nil ?_
       replace F : Fr ac 117 [(11, .bool ((b : Int) == 1))] := F.sub _
       refine X.blockN ?_
       refine X.thenN ?_
       refine Y.seq ?_
       refine Y.seq ?_
       refine Y.lit (by kernel_rfl) ?_
       refine Y.pv F (X.move rfl (F.e 11 rfl)) ?_;clear F ac;intro ac F
       refine Y.nil ?_
       replace F : Fr ac 117 [(45, .bool ((b : Int) == 1))] := F.sub _
       refine X.thenN ?_
       cases h9 : ((b : Int) == 1) with
       | false =>
        try rw [h9] at F
        have h9p : ¬ (b : Int) = 1 := by simpa using h9
        refine Y.condF (F.e 45 rfl) ?_
        refine Y.skip ?_
        refine X.thenN ?_
        refine Y.seq ?_
        refine Y.lit (by kernel_rfl) ?_
        refine Y.pv F (X.assign rfl (X.kc (Vi 0) rfl)) ?_;clear F ac;intro ac F
        refine Y.nil ?_
        replace F : Fr ac 117 [(8, Vi 0)] := F.sub _
        refine X.thenN ?_
        refine Y.ret ?_
        refine X.thenR ?_
        obtain ⟨e1, e2⟩ := join_end ⟨by omega, by omega⟩ hb
        subst e1
        exact Y.ret0 (v := Vi 0) F (Y.rs1 F rfl (by kernel_rfl)) ⟨by rw [e2]; simp [endJ, h3, h3p, h4, h4p, h5, h5p, h6, h6p, h8, h8p, h9, h9p], (hF0.gr G).wide hlt G.size, G.only _⟩
       | true =>
        try rw [h9] at F
        have h9p : (b : Int) = 1 := by simpa using h9
        refine Y.condT (F.e 45 rfl) ?_
        refine Y.seq ?_
        refine Y.lit (by kernel_rfl) ?_
        refine Y.pv F (X.assign rfl (X.kc (Vi 1) rfl)) ?_;clear F ac;intro ac F
        refine Y.nil ?_
        replace F : Fr ac 117 [(8, Vi 1)] := F.sub _
        refine X.thenN ?_
        refine Y.ret ?_
        refine X.thenR ?_
        refine X.thenR ?_
        obtain ⟨e1, e2⟩ := join_end ⟨by omega, by omega⟩ hb
        subst e1
        exact Y.ret0 (v := Vi 1) F (Y.rs1 F rfl (by kernel_rfl)) ⟨by rw [e2]; simp [endJ, h3, h3p, h4, h4p, h5, h5p, h6, h6p, h8, h8p, h9, h9p], (hF0.gr G).wide hlt G.size, G.only _⟩
      | true =>
       try rw [h8] at F
       have h8p : (a : Int) = 1 := by simpa using h8
       refine Y.pskip F (X.w2 rfl (F.yl (j := 1) (d := 42) (b := true) rfl (by kernel_rfl)) rfl) rfl ?_;clear F ac;intro ac F
       refine Y.pv F (X.pickT rfl (F.e 42 rfl) (X.kc (.bool true) rfl)) ?_;clear F ac;intro ac F
       refine Y.pv F (X.assign rfl (F.e 44 rfl)) ?_;clear F ac;intro ac F
       refine Y.nil ?_
       replace F : Fr ac 117 [(11, .bool true)] := F.sub _
       refine X.blockN ?_
       refine X.thenN ?_
       refine Y.seq ?_
       refine Y.seq ?_
       refine Y.lit (by kernel_rfl) ?_
       refine Y.pv F (X.move rfl (F.e 11 rfl)) ?_;clear F ac;intro ac F
       refine Y.nil ?_
       replace F : Fr ac 117 [(45, .bool true)] := F.sub _
       refine X.thenN ?_
       refine Y.condT (F.e 45 rfl) ?_
       refine Y.seq ?_
       refine Y.lit (by kernel_rfl) ?_
       refine Y.pv F (X.assign rfl (X.kc (Vi 1) rfl)) ?_;clear F ac;intro ac F
       refine Y.nil ?_
       replace F : Fr ac 117 [(8, Vi 1)] := F.sub _
       refine X.thenN ?_
       refine Y.ret ?_
       refine X.thenR ?_
       refine X.thenR ?_
       obtain ⟨e1, e2⟩ := join_end ⟨by omega, by omega⟩ hb
       subst e1
       exact Y.ret0 (v := Vi 1) F (Y.rs1 F rfl (by kernel_rfl)) ⟨by rw [e2]; simp [endJ, h3, h3p, h4, h4p, h5, h5p, h6, h6p, h8, h8p], (hF0.gr G).wide hlt G.size, G.only _⟩
    | true =>
     try rw [h5] at F
     have h5p : (op : Int) = (-4) := by simpa using h5
     refine Y.condT (F.e 33 rfl) ?_
     refine Y.lit (by kernel_rfl) ?_
     refine Y.pv F (X.move rfl (F.e 9 rfl)) ?_;clear F ac;intro ac F
     refine Y.pv F (X.move rfl (F.e 35 rfl)) ?_;clear F ac;intro ac F
     cases h10 : ((a : Int) == 1) with
     | false =>
      try rw [h10] at F
      have h10p : ¬ (a : Int) = 1 := by simpa using h10
      refine Y.pskip F (X.w2 rfl (F.yl (j := 1) (d := 36) (b := false) rfl (by kernel_rfl)) rfl) rfl ?_;clear F ac;intro ac F
      refine Y.pv F (X.pickF rfl (F.e 36 rfl) (X.kc (.bool false) rfl)) ?_;clear F ac;intro ac F
      refine Y.pv F (X.assign rfl (F.e 38 rfl)) ?_;clear F ac;intro ac F
      refine Y.nil ?_
      replace F : Fr ac 117 [(11, .bool false)] := F.sub _
      refine X.blockN ?_
      refine X.thenN ?_
      refine Y.seq ?_
      refine Y.seq ?_
      refine Y.lit (by kernel_rfl) ?_
      refine Y.pv F (X.move rfl (F.e 11 rfl)) ?_;clear F ac;intro ac F
      refine Y.nil ?_
      replace F : Fr ac 117 [(45, .bool false)] := F.sub _
      refine X.thenN ?_
      refine Y.condF (F.e 45 rfl) ?_
      refine Y.skip ?_
      refine X.thenN ?_
      refine Y.seq ?_
      refine Y.lit (by kernel_rfl) ?_
      refine Y.pv F (X.assign rfl (X.kc (Vi 0) rfl)) ?_;clear F ac;intro ac F
      refine Y.nil ?_
      replace F : Fr ac 117 [(8, Vi 0)] := F.sub _
      refine X.thenN ?_
      refine Y.ret ?_
      refine X.thenR ?_
      obtain ⟨e1, e2⟩ := join_end ⟨by omega, by omega⟩ hb
      subst e1
      exact Y.ret0 (v := Vi 0) F (Y.rs1 F rfl (by kernel_rfl)) ⟨by rw [e2]; simp [endJ, h10, h10p, h3, h3p, h4, h4p, h5, h5p], (hF0.gr G).wide hlt G.size, G.only _⟩
     | true =>
      try rw [h10] at F
      have h10p : (a : Int) = 1 := by simpa using h10
      refine Y.pval F (X.w1 rfl (F.yl (j := 1) (d := 36) (b := true) rfl (by kernel_rfl))) rfl (X.move rfl (F.e 10 rfl)) ?_;clear F ac;intro ac F
      refine Y.pv F (X.pickT rfl (F.e 36 rfl) (F.e 37 rfl)) ?_;clear F ac;intro ac F
      refine Y.pv F (X.assign rfl (F.e 38 rfl)) ?_;clear F ac;intro ac F
      refine Y.nil ?_
      replace F : Fr ac 117 [(11, .bool ((b : Int) == 1))] := F.sub _
      refine X.blockN ?_
      refine X.thenN ?_
      refine Y.seq ?_
      refine Y.seq ?_
      refine Y.lit (by kernel_rfl) ?_
      refine Y.pv F (X.move rfl (F.e 11 rfl)) ?_;clear F ac;intro ac F
      refine Y.nil ?_
      replace F : Fr ac 117 [(45, .bool ((b : Int) == 1))] := F.sub _
      refine X.thenN ?_
      cases h11 : ((b : Int) == 1) with
      | false =>
       try rw [h11] at F
       have h11p : ¬ (b : Int) = 1 := by simpa using h11
       refine Y.condF (F.e 45 rfl) ?_
       refine Y.skip ?_
       refine X.thenN ?_
       refine Y.seq ?_
       refine Y.lit (by kernel_rfl) ?_
       refine Y.pv F (X.assign rfl (X.kc (Vi 0) rfl)) ?_;clear F ac;intro ac F
       refine Y.nil ?_
       replace F : Fr ac 117 [(8, Vi 0)] := F.sub _
       refine X.thenN ?_
       refine Y.ret ?_
       refine X.thenR ?_
       obtain ⟨e1, e2⟩ := join_end ⟨by omega, by omega⟩ hb
       subst e1
       exact Y.ret0 (v := Vi 0) F (Y.rs1 F rfl (by kernel_rfl)) ⟨by rw [e2]; simp [endJ, h10, h10p, h11, h11p, h3, h3p, h4, h4p, h5, h5p], (hF0.gr G).wide hlt G.size, G.only _⟩
      | true =>
       try rw [h11] at F
       have h11p : (b : Int) = 1 := by simpa using h11
       refine Y.condT (F.e 45 rfl) ?_
       refine Y.seq ?_
       refine Y.lit (by kernel_rfl) ?_
       refine Y.pv F (X.assign rfl (X.kc (Vi 1) rfl)) ?_;clear F ac;intro ac F
       refine Y.nil ?_
       replace F : Fr ac 117 [(8, Vi 1)] := F.sub _
       refine X.thenN ?_
       refine Y.ret ?_
       refine X.thenR ?_
       refine X.thenR ?_
       obtain ⟨e1, e2⟩ := join_end ⟨by omega, by omega⟩ hb
       subst e1
       exact Y.ret0 (v := Vi 1) F (Y.rs1 F rfl (by kernel_rfl)) ⟨by rw [e2]; simp [endJ, h10, h10p, h11, h11p, h3, h3p, h4, h4p, h5, h5p], (hF0.gr G).wide hlt G.size, G.only _⟩
 ·clear F ac
  rintro ac _ ⟨rfl, hnl, F⟩
  obtain ⟨hsk, hcase⟩ := join_rest hnl hb hx hy
  refine Y.seqJ (fun ac wr => w = wr ∧ Fr ac 117 [(0, Vp t), (1, Vi op), (2, Vi x), (3, Vi y)]) ?_ ?_
  ·refine Y.seq ?_
   refine Y.lit (by kernel_rfl) ?_
   refine Y.pv F (X.move rfl (F.e 2 rfl)) ?_;clear F ac;intro ac F
   refine Y.pv F (X.move rfl (F.e 3 rfl)) ?_;clear F ac;intro ac F
   refine Y.pv F (X.binop rfl (F.e 46 rfl) (F.e 47 rfl) (X.gtrI Try.underlying3 rfl)) ?_;clear F ac;intro ac F
   refine Y.nil ?_
   replace F : Fr ac 117 [(0, Vp t), (1, Vi op), (2, Vi a), (3, Vi b), (48, .bool (decide ((b : Int) < a)))] := F.sub _
   refine X.thenN ?_
   cases h12 : decide ((b : Int) < a) with
   | false =>
    try rw [h12] at F
    have h12p : ¬ ((b : Int) < a) := of_decide_eq_false h12
    refine Y.condF (F.e 48 rfl) ?_
    refine Y.skip ?_
    refine X.thenN ?_
    have e1 : x = a := by rw [hx, if_neg (by omega)]
    have e2 : y = b := by rw [hy, if_neg (by omega)]
    exact ⟨rfl, by rw [e1, e2]; exact F.sub _⟩
   | true =>
    try rw [h12] at F
    have h12p : ((b : Int) < a) := of_decide_eq_true h12
    refine Y.condT (F.e 48 rfl) ?_
    refine Y.lit (by kernel_rfl) ?_
    refine Y.pv F (X.move rfl (F.e 3 rfl)) ?_;clear F ac;intro ac F
    refine Y.pv F (X.move rfl (F.e 2 rfl)) ?_;clear F ac;intro ac F
    refine Y.pv F (X.assign rfl (F.e 49 rfl)) ?_;clear F ac;intro ac F
    refine Y.pv F (X.assign rfl (F.e 50 rfl)) ?_;clear F ac;intro ac F
    refine Y.nil ?_
    replace F : Fr ac 117 [(0, Vp t), (1, Vi op), (2, Vi b), (3, Vi a)] := F.sub _
    refine X.thenN ?_
    have e1 : x = b := by rw [hx, if_pos (by omega)]
    have e2 : y = a := by rw [hy, if_pos (by omega)]
    exact ⟨rfl, by rw [e1, e2]; exact F.sub _⟩
  ·clear F ac
   rintro ac _ ⟨rfl, F⟩
   refine Y.seq ?_
   refine Y.lit (by kernel_rfl) ?_
   refine Y.pv F (X.move rfl (F.e 1 rfl)) ?_;clear F ac;intro ac F
   refine Y.pv F (X.move rfl (F.e 2 rfl)) ?_;clear F ac;intro ac F
   refine Y.pv F (X.move rfl (F.e 3 rfl)) ?_;clear F ac;intro ac F
   refine Y.pv F (Y.bd rfl (Y.b3 (F.e 51 rfl) (F.e 52 rfl) (F.e 53 rfl)) (Try.bd157 op x y _)) ?_;clear F ac;intro ac F
   refine Y.pv F (Y.al rfl (Try.new174 _)) ?_;clear F ac;intro ac F
   refine Y.punit F (X.w0 rfl) rfl (X.store rfl (F.e 12 rfl) (F.e 54 rfl) (Y.stNew [Vi op, Vi x, Vi y] [Vi 0, Vi 0, Vi 0] (Try.siz174 _) rfl rfl)) ?_;clear F ac;intro ac F
   have hqS : ¬ S w.heap.size := fun e => by have := hlt _ e; have := G.size; omega
   have g := Gr.alloc w (.cells #[Vi op, Vi x, Vi y] 174)
   have hb := heap_alloc_new w (.cells #[Vi op, Vi x, Vi y] 174)
   have hbl : w.heap.size < (w.alloc (.cells #[Vi op, Vi x, Vi y] 174)).heap.size := by simp
   have hC2 : RCells (w.alloc (.cells #[Vi op, Vi x, Vi y] 174)) [(Ad t 0, Vi fo.n), (Ad t 1, .slice ka fo.kn.length kc), (Ad t 2, .map (some m1)), (Ad t 3, .map (some m2)), (Ad w.heap.size 0, Vi op), (Ad w.heap.size 1, Vi x), (Ad w.heap.size 2, Vi y)] := hC.box (b := w.heap.size) #[Vi op, Vi x, Vi y] 174 rfl
   generalize w.alloc (.cells #[Vi op, Vi x, Vi y] 174) = w13 at *
   replace G := G.trans g
   replace hC := hC2
   clear hC2
   replace hk := hk.gr g
   clear g hb hbl
   refine Y.nil ?_
   replace F : Fr ac 117 [(0, Vp t), (1, Vi op), (2, Vi x), (3, Vi y), (12, Vp w.heap.size)] := F.sub _
   refine X.thenN ?_
   refine Y.seq ?_
   refine Y.seq ?_
   refine Y.region F [some (Vp t), some (Vp t), some (.pointer (some ⟨t, 3, none⟩)), some (.map (some m2)), some (.agg #[Vi op, Vi x, Vi y]), some (.tuple #[Vi gv, .bool gb]), some (.tuple #[Vi gv, .bool gb]), some (Vi gv), some (.bool gb), some (Vi gv), some (.bool gb)] [] rfl ⟨by kernel_rfl, of_decide_eq_true (by kernel_rfl), by kernel_rfl, by kernel_rfl, by kernel_rfl⟩ ⟨?_, ?_, ?_, ?_, ?_, ?_, ?_, ?_, ?_, ?_, ?_, trivial⟩ ?_
   ·intro ac done u W Sx hR
    exact X.vl (X.move rfl (Sx.ev 0 (Vp t))) hR.st0
   ·intro ac done u W Sx hR
    exact X.vl (Y.nilC rfl (Sx.ev 56 (Vp t))) hR.st0
   ·intro ac done u W Sx hR
    exact X.vl (X.field rfl (Sx.ev 57 (Vp t)) (X.fld Try.underlying162 rfl (Try.siz160 _) rfl rfl)) hR.st0
   ·intro ac done u W Sx hR
    have g : Gr w13 W := hR.1
    exact X.vl (X.load rfl (Sx.ev 58 (.pointer (some ⟨t, 3, none⟩))) (X.ld1 (Try.agg160 _) ((hC.gr g).at 3 rfl))) hR.st0
   ·intro ac done u W Sx hR
    have g : Gr w13 W := hR.1
    exact X.vl (X.load rfl (Sx.ev 12 (Vp w.heap.size)) (X.ldN (Try.agg174 _) (Try.siz174 _) (Y.atz (⟨w.heap.size, 0, none⟩) (Y.AtFrom.cons ((hC.gr g).at 4 rfl) (Y.AtFrom.cons ((hC.gr g).at 5 rfl) (Y.AtFrom.cons ((hC.gr g).at 6 rfl) (Y.AtFrom.nil _ _ _))))))) hR.st0
   ·intro ac done u W Sx hR
    have g : Gr w13 W := hR.1
    have hq := mp_look (t := 160) (e := 3) (W := W) Try.underlying160 (Try.zero3 W) ((hM.gr (G.trans g)).j) (x := (op, x, y)) hsk
    rw [← hgv, ← hgb] at hq
    exact X.vl (Y.lk rfl (Sx.ev 59 (.map (some m2))) (Sx.ev 60 (.agg #[Vi op, Vi x, Vi y])) hq) hR.st0
   ·intro ac done u W Sx hR
    exact X.vl (X.move rfl (Sx.ev 61 (.tuple #[Vi gv, .bool gb]))) hR.st0
   ·intro ac done u W Sx hR
    exact X.vl (X.extract rfl (Sx.ev 55 (.tuple #[Vi gv, .bool gb])) rfl) hR.st0
   ·intro ac done u W Sx hR
    exact X.vl (X.extract rfl (Sx.ev 55 (.tuple #[Vi gv, .bool gb])) rfl) hR.st0
   ·intro ac done u W Sx hR
    exact X.vl (X.assign rfl (Sx.ev 62 (Vi gv))) hR.st0
   ·intro ac done u W Sx hR
    exact X.vl (X.assign rfl (Sx.ev 63 (.bool gb))) hR.st0
   intro ac u w14 hs hd hl ho hR
   have g : Gr w13 w14 := hR.1
   replace F : Fr ac 117 [(0, Vp t), (1, Vi op), (2, Vi x), (3, Vi y), (12, Vp w.heap.size), (13, Vi gv), (14, .bool gb)] := X.fr hs hd hl _ (by kernel_rfl)
   clear hs hd hl ho hR
   replace G := G.trans g
   replace hC := hC.gr g
   replace hk := hk.gr g
   clear g
   refine X.thenN ?_
   refine Y.seq ?_
   refine Y.lit (by kernel_rfl) ?_
   refine Y.pv F (X.move rfl (F.e 14 rfl)) ?_;clear F ac;intro ac F
   refine Y.nil ?_
   replace F : Fr ac 117 [(0, Vp t), (1, Vi op), (2, Vi x), (3, Vi y), (12, Vp w.heap.size), (13, Vi gv), (64, .bool gb)] := F.sub _
   refine X.thenN ?_
   cases h15 : gb with
   | false =>
    try rw [h15] at F
    obtain ⟨hnone, nx, ny, o, a0, b0, lo, a1, b1, hi, F1, F2, F3, hJ⟩ := join_n hcase (by rw [← hgb]; exact h15)
    clear hcase
    obtain ⟨ex, ey, lx, ly, eo, ba0, bb0, j1, ba1, bb1, j2, nd, fresh, res⟩ := hJ
    subst ex ey res
    replace F : Fr ac 117 [(0, Vp t), (1, Vi op), (2, Vi nx), (3, Vi ny), (12, Vp w.heap.size), (13, Vi gv), (64, .bool false)] := F
    refine Y.condF (F.e 64 rfl) ?_
    refine Y.skip ?_
    refine X.thenN ?_
    refine Y.seq ?_
    obtain ⟨pd16, pe16, -, -, pc16⟩ := hk.at (j := nx) (by omega)
    subst pe16
    replace hC : RCells w14 [(Ad t 0, Vi fo.n), (Ad t 1, .slice (some pd16) fo.kn.length kc), (Ad t 2, .map (some m1)), (Ad t 3, .map (some m2)), (Ad w.heap.size 0, Vi op), (Ad w.heap.size 1, Vi nx), (Ad w.heap.size 2, Vi ny), (pd16.add (nx * 3), Vi (cv (knL fo.kn) nx 0)), (⟨(pd16.add (nx * 3)).block, (pd16.add (nx * 3)).off + 1, none⟩, Vi (cv (knL fo.kn) nx 1)), (⟨(pd16.add (nx * 3)).block, (pd16.add (nx * 3)).off + 2, none⟩, Vi (cv (knL fo.kn) nx 2))] := hC.append ((RCells.cons (pc16 0 (by decide)) (RCells.cons (pc16 1 (by decide)) (RCells.cons (pc16 2 (by decide)) (RCells.nil _)))))
    clear pc16
    obtain ⟨pd17, pe17, -, -, pc17⟩ := hk.at (j := ny) (by omega)
    injection pe17 with pe17
    subst pe17
    replace hC : RCells w14 [(Ad t 0, Vi fo.n), (Ad t 1, .slice (some pd16) fo.kn.length kc), (Ad t 2, .map (some m1)), (Ad t 3, .map (some m2)), (Ad w.heap.size 0, Vi op), (Ad w.heap.size 1, Vi nx), (Ad w.heap.size 2, Vi ny), (pd16.add (nx * 3), Vi (cv (knL fo.kn) nx 0)), (⟨(pd16.add (nx * 3)).block, (pd16.add (nx * 3)).off + 1, none⟩, Vi (cv (knL fo.kn) nx 1)), (⟨(pd16.add (nx * 3)).block, (pd16.add (nx * 3)).off + 2, none⟩, Vi (cv (knL fo.kn) nx 2)), (pd16.add (ny * 3), Vi (cv (knL fo.kn) ny 0)), (⟨(pd16.add (ny * 3)).block, (pd16.add (ny * 3)).off + 1, none⟩, Vi (cv (knL fo.kn) ny 1)), (⟨(pd16.add (ny * 3)).block, (pd16.add (ny * 3)).off + 2, none⟩, Vi (cv (knL fo.kn) ny 2))] := hC.append ((RCells.cons (pc17 0 (by decide)) (RCells.cons (pc17 1 (by decide)) (RCells.cons (pc17 2 (by decide)) (RCells.nil _)))))
    clear pc17
    refine Y.region F [some (Vp t), some (Vp t), some (.pointer (some ⟨t, 1, none⟩)), some (.slice (some pd16) fo.kn.length kc), some (Vi nx), some (.pointer (some (pd16.add (nx * 3)))), some (.pointer (some (pd16.add (nx * 3)))), some (Vi (cv (knL fo.kn) nx 0)), some (Vp t), some (Vp t), some (.pointer (some ⟨t, 1, none⟩)), some (.slice (some pd16) fo.kn.length kc), some (Vi ny), some (.pointer (some (pd16.add (ny * 3)))), some (.pointer (some (pd16.add (ny * 3)))), some (Vi (cv (knL fo.kn) ny 0)), some (Vi (min (cv (knL fo.kn) nx 0 : Int) (cv (knL fo.kn) ny 0 : Int))), some (Vi (min (cv (knL fo.kn) nx 0 : Int) (cv (knL fo.kn) ny 0 : Int)))] [] rfl ⟨by kernel_rfl, of_decide_eq_true (by kernel_rfl), by kernel_rfl, by kernel_rfl, by kernel_rfl⟩ ⟨?_, ?_, ?_, ?_, ?_, ?_, ?_, ?_, ?_, ?_, ?_, ?_, ?_, ?_, ?_, ?_, ?_, ?_, trivial⟩ ?_
    ·intro ac done u W Sx hR
     exact X.vl (X.move rfl (Sx.ev 0 (Vp t))) hR.st0
    ·intro ac done u W Sx hR
     exact X.vl (Y.nilC rfl (Sx.ev 66 (Vp t))) hR.st0
    ·intro ac done u W Sx hR
     exact X.vl (X.field rfl (Sx.ev 67 (Vp t)) (X.fld Try.underlying162 rfl (Try.siz158 _) rfl rfl)) hR.st0
    ·intro ac done u W Sx hR
     have g : Gr w14 W := hR.1
     exact X.vl (X.load rfl (Sx.ev 68 (.pointer (some ⟨t, 1, none⟩))) (X.ld1 (Try.agg158 _) ((hC.gr g).at 1 rfl))) hR.st0
    ·intro ac done u W Sx hR
     exact X.vl (X.move rfl (Sx.ev 2 (Vi nx))) hR.st0
    ·intro ac done u W Sx hR
     exact X.vl (X.index rfl (Sx.ev 69 (.slice (some pd16) fo.kn.length kc)) (Sx.ev 70 (Vi nx)) (X.idx (k := nx) Try.underlying158 (Try.siz157 _) (by omega) (by omega) rfl)) hR.st0
    ·intro ac done u W Sx hR
     exact X.vl (X.field rfl (Sx.ev 71 (.pointer (some (pd16.add (nx * 3))))) (X.fld Try.underlying157 rfl (Try.siz3 _) rfl rfl)) hR.st0
    ·intro ac done u W Sx hR
     have g : Gr w14 W := hR.1
     exact X.vl (X.load rfl (Sx.ev 72 (.pointer (some (pd16.add (nx * 3))))) (X.ld1 (Try.agg3 _) ((hC.gr g).at 7 rfl))) hR.st0
    ·intro ac done u W Sx hR
     exact X.vl (X.move rfl (Sx.ev 0 (Vp t))) hR.st0
    ·intro ac done u W Sx hR
     exact X.vl (Y.nilC rfl (Sx.ev 74 (Vp t))) hR.st0
    ·intro ac done u W Sx hR
     exact X.vl (X.field rfl (Sx.ev 75 (Vp t)) (X.fld Try.underlying162 rfl (Try.siz158 _) rfl rfl)) hR.st0
    ·intro ac done u W Sx hR
     have g : Gr w14 W := hR.1
     exact X.vl (X.load rfl (Sx.ev 76 (.pointer (some ⟨t, 1, none⟩))) (X.ld1 (Try.agg158 _) ((hC.gr g).at 1 rfl))) hR.st0
    ·intro ac done u W Sx hR
     exact X.vl (X.move rfl (Sx.ev 3 (Vi ny))) hR.st0
    ·intro ac done u W Sx hR
     exact X.vl (X.index rfl (Sx.ev 77 (.slice (some pd16) fo.kn.length kc)) (Sx.ev 78 (Vi ny)) (X.idx (k := ny) Try.underlying158 (Try.siz157 _) (by omega) (by omega) rfl)) hR.st0
    ·intro ac done u W Sx hR
     exact X.vl (X.field rfl (Sx.ev 79 (.pointer (some (pd16.add (ny * 3))))) (X.fld Try.underlying157 rfl (Try.siz3 _) rfl rfl)) hR.st0
    ·intro ac done u W Sx hR
     have g : Gr w14 W := hR.1
     exact X.vl (X.load rfl (Sx.ev 80 (.pointer (some (pd16.add (ny * 3))))) (X.ld1 (Try.agg3 _) ((hC.gr g).at 10 rfl))) hR.st0
    ·intro ac done u W Sx hR
     exact X.vl (Y.min2 rfl (Sx.ev 73 (Vi (cv (knL fo.kn) nx 0))) (Sx.ev 81 (Vi (cv (knL fo.kn) ny 0)))) hR.st0
    ·intro ac done u W Sx hR
     exact X.vl (X.assign rfl (Sx.ev 82 (Vi (min (cv (knL fo.kn) nx 0 : Int) (cv (knL fo.kn) ny 0 : Int))))) hR.st0
    intro ac u w18 hs hd hl ho hR
    have g : Gr w14 w18 := hR.1
    replace F : Fr ac 117 [(0, Vp t), (1, Vi op), (2, Vi nx), (3, Vi ny), (12, Vp w.heap.size), (15, Vi (min (cv (knL fo.kn) nx 0 : Int) (cv (knL fo.kn) ny 0 : Int)))] := X.fr hs hd hl _ (by kernel_rfl)
    clear hs hd hl ho hR
    replace G := G.trans g
    replace hC := hC.gr g
    replace hk := hk.gr g
    clear g
    rw [show ((min (cv (knL fo.kn) nx 0 : Int) (cv (knL fo.kn) ny 0 : Int)) : Int) = o from eo.symm] at F
    have hT : Only S w w := Only.refl _ _
    have hS : ∀ b, S b → Gw S w w b := fun b e => .inl e
    have hq0 := hqS
    have hFn := hF0
    refine X.thenN ?_
    refine Y.seq ?_
    refine Y.lit (by kernel_rfl) ?_
    refine Y.pv F (X.move rfl (F.e 0 rfl)) ?_;clear F ac;intro ac F
    refine Y.pv F (X.move rfl (F.e 1 rfl)) ?_;clear F ac;intro ac F
    refine Y.pv F (X.move rfl (F.e 0 rfl)) ?_;clear F ac;intro ac F
    refine Y.pv F (X.move rfl (F.e 2 rfl)) ?_;clear F ac;intro ac F
    refine Y.pv F (X.move rfl (F.e 15 rfl)) ?_;clear F ac;intro ac F
    refine Y.pcall F (X.w0 rfl) rfl (X.enter (F := 133) rfl (X.kc (.func (.func 133) #[] #[]) rfl) (X.a4 (F.e 85 rfl) (F.e 86 rfl) (F.e 87 rfl) (X.kc (.bool false) rfl)) (enters_of Try.func133 (by kernel_rfl) rfl _)) (branch_any t S fo nx o a0 false w18 (hFn.gr G) ba0) ?_
    clear F ac
    rintro e w19 ⟨rfl, g⟩
    refine ⟨_, rfl, ?_⟩
    intro ac F
    replace G := G.trans g
    replace hC := hC.gr g
    replace hk := hk.gr g
    clear g
    refine Y.pv F (X.move rfl (F.e 0 rfl)) ?_;clear F ac;intro ac F
    refine Y.pv F (X.move rfl (F.e 3 rfl)) ?_;clear F ac;intro ac F
    refine Y.pv F (X.move rfl (F.e 15 rfl)) ?_;clear F ac;intro ac F
    refine Y.pcall F (X.w0 rfl) rfl (X.enter (F := 133) rfl (X.kc (.func (.func 133) #[] #[]) rfl) (X.a4 (F.e 89 rfl) (F.e 90 rfl) (F.e 91 rfl) (X.kc (.bool false) rfl)) (enters_of Try.func133 (by kernel_rfl) rfl _)) (branch_any t S fo ny o b0 false w19 (hFn.gr G) bb0) ?_
    clear F ac
    rintro e w20 ⟨rfl, g⟩
    refine ⟨_, rfl, ?_⟩
    intro ac F
    replace G := G.trans g
    replace hC := hC.gr g
    replace hk := hk.gr g
    clear g
    refine Y.pcall F (X.w0 rfl) rfl (X.enter (F := 122) rfl (X.kc (.func (.func 122) #[] #[]) rfl) (X.a4 (F.e 83 rfl) (F.e 84 rfl) (F.e 88 rfl) (F.e 92 rfl)) (enters_of Try.func122 (by kernel_rfl) rfl _)) (ih t S fo F1 op a0 b0 lo w20 (hFn.gr G) j1) ?_
    clear F ac
    rintro e w21 ⟨rfl, hF1, hon⟩
    refine ⟨_, rfl, ?_⟩
    intro ac F
    obtain ⟨hT1, hS1⟩ := fo_next hT hS G hon
    have hq1 : ¬ Gw S w20 w21 w.heap.size := fun e => e.elim hq0 (fun e => by have := lt_cell (hC.at 4 rfl); simp only at this; omega)
    replace hC : RCells w21 [(Ad w.heap.size 0, Vi op), (Ad w.heap.size 1, Vi nx), (Ad w.heap.size 2, Vi ny)] := (RCells.cons (hon.cell (hC.at 4 rfl) hq0) (RCells.cons (hon.cell (hC.at 5 rfl) hq0) (RCells.cons (hon.cell (hC.at 6 rfl) hq0) (RCells.nil _))))
    obtain ⟨T1, hTe⟩ : ∃ T, T = Gw S w20 w21 := ⟨_, rfl⟩
    rw [← hTe] at hF1 hS1 hq1
    clear hT hS hq0 hFn G hon hTe
    have hT := hT1
    have hS := hS1
    have hq0 := hq1
    have hFn := hF1
    have G := Gr.refl w21
    clear hT1 hS1 hq1 hF1
    refine Y.pv F (X.assign rfl (F.e 93 rfl)) ?_;clear F ac;intro ac F
    refine Y.nil ?_
    replace F : Fr ac 117 [(0, Vp t), (1, Vi op), (2, Vi nx), (3, Vi ny), (12, Vp w.heap.size), (15, Vi o), (16, Vi lo)] := F.sub _
    refine X.thenN ?_
    refine Y.seq ?_
    refine Y.lit (by kernel_rfl) ?_
    refine Y.pv F (X.move rfl (F.e 0 rfl)) ?_;clear F ac;intro ac F
    refine Y.pv F (X.move rfl (F.e 1 rfl)) ?_;clear F ac;intro ac F
    refine Y.pv F (X.move rfl (F.e 0 rfl)) ?_;clear F ac;intro ac F
    refine Y.pv F (X.move rfl (F.e 2 rfl)) ?_;clear F ac;intro ac F
    refine Y.pv F (X.move rfl (F.e 15 rfl)) ?_;clear F ac;intro ac F
    refine Y.pcall F (X.w0 rfl) rfl (X.enter (F := 133) rfl (X.kc (.func (.func 133) #[] #[]) rfl) (X.a4 (F.e 96 rfl) (F.e 97 rfl) (F.e 98 rfl) (X.kc (.bool true) rfl)) (enters_of Try.func133 (by kernel_rfl) rfl _)) (branch_any t T1 F1 nx o a1 true w21 (hFn.gr G) ba1) ?_
    clear F ac
    rintro e w22 ⟨rfl, g⟩
    refine ⟨_, rfl, ?_⟩
    intro ac F
    replace G := G.trans g
    replace hC := hC.gr g
    clear g
    refine Y.pv F (X.move rfl (F.e 0 rfl)) ?_;clear F ac;intro ac F
    refine Y.pv F (X.move rfl (F.e 3 rfl)) ?_;clear F ac;intro ac F
    refine Y.pv F (X.move rfl (F.e 15 rfl)) ?_;clear F ac;intro ac F
    refine Y.pcall F (X.w0 rfl) rfl (X.enter (F := 133) rfl (X.kc (.func (.func 133) #[] #[]) rfl) (X.a4 (F.e 100 rfl) (F.e 101 rfl) (F.e 102 rfl) (X.kc (.bool true) rfl)) (enters_of Try.func133 (by kernel_rfl) rfl _)) (branch_any t T1 F1 ny o b1 true w22 (hFn.gr G) bb1) ?_
    clear F ac
    rintro e w23 ⟨rfl, g⟩
    refine ⟨_, rfl, ?_⟩
    intro ac F
    replace G := G.trans g
    replace hC := hC.gr g
    clear g
    refine Y.pcall F (X.w0 rfl) rfl (X.enter (F := 122) rfl (X.kc (.func (.func 122) #[] #[]) rfl) (X.a4 (F.e 94 rfl) (F.e 95 rfl) (F.e 99 rfl) (F.e 103 rfl)) (enters_of Try.func122 (by kernel_rfl) rfl _)) (ih t T1 F1 F2 op a1 b1 hi w23 (hFn.gr G) j2) ?_
    clear F ac
    rintro e w24 ⟨rfl, hF1, hon⟩
    refine ⟨_, rfl, ?_⟩
    intro ac F
    obtain ⟨hT1, hS1⟩ := fo_next hT hS G hon
    have hq1 : ¬ Gw T1 w23 w24 w.heap.size := fun e => e.elim hq0 (fun e => by have := lt_cell (hC.at 0 rfl); simp only at this; omega)
    replace hC : RCells w24 [(Ad w.heap.size 0, Vi op), (Ad w.heap.size 1, Vi nx), (Ad w.heap.size 2, Vi ny)] := (RCells.cons (hon.cell (hC.at 0 rfl) hq0) (RCells.cons (hon.cell (hC.at 1 rfl) hq0) (RCells.cons (hon.cell (hC.at 2 rfl) hq0) (RCells.nil _))))
    obtain ⟨T2, hTe⟩ : ∃ T, T = Gw T1 w23 w24 := ⟨_, rfl⟩
    rw [← hTe] at hF1 hS1 hq1
    clear hT hS hq0 hFn G hon hTe
    have hT := hT1
    have hS := hS1
    have hq0 := hq1
    have hFn := hF1
    have G := Gr.refl w24
    clear hT1 hS1 hq1 hF1
    refine Y.pv F (X.assign rfl (F.e 104 rfl)) ?_;clear F ac;intro ac F
    refine Y.nil ?_
    replace F : Fr ac 117 [(0, Vp t), (12, Vp w.heap.size), (15, Vi o), (16, Vi lo), (17, Vi hi)] := F.sub _
    refine X.thenN ?_
    refine Y.seq ?_
    refine Y.lit (by kernel_rfl) ?_
    refine Y.pv F (X.move rfl (F.e 0 rfl)) ?_;clear F ac;intro ac F
    refine Y.pv F (X.move rfl (F.e 15 rfl)) ?_;clear F ac;intro ac F
    refine Y.pv F (X.move rfl (F.e 16 rfl)) ?_;clear F ac;intro ac F
    refine Y.pv F (X.move rfl (F.e 17 rfl)) ?_;clear F ac;intro ac F
    refine Y.pcall F (X.w0 rfl) rfl (X.enter (F := 134) rfl (X.kc (.func (.func 134) #[] #[]) rfl) (X.a4 (F.e 105 rfl) (F.e 106 rfl) (F.e 107 rfl) (F.e 108 rfl)) (enters_of Try.func134 (by kernel_rfl) rfl _)) (node_any t T2 F2 F3 o lo hi r w24 (hFn.gr G) nd) ?_
    clear F ac
    rintro e w25 ⟨rfl, hF1, hon⟩
    refine ⟨_, rfl, ?_⟩
    intro ac F
    obtain ⟨hT1, hS1⟩ := fo_next hT hS G hon
    have hq1 : ¬ Gw T2 w24 w25 w.heap.size := fun e => e.elim hq0 (fun e => by have := lt_cell (hC.at 0 rfl); simp only at this; omega)
    replace hC : RCells w25 [(Ad w.heap.size 0, Vi op), (Ad w.heap.size 1, Vi nx), (Ad w.heap.size 2, Vi ny)] := (RCells.cons (hon.cell (hC.at 0 rfl) hq0) (RCells.cons (hon.cell (hC.at 1 rfl) hq0) (RCells.cons (hon.cell (hC.at 2 rfl) hq0) (RCells.nil _))))
    obtain ⟨T3, hTe⟩ : ∃ T, T = Gw T2 w24 w25 := ⟨_, rfl⟩
    rw [← hTe] at hF1 hS1 hq1
    clear hT hS hq0 hFn G hon hTe
    have hT := hT1
    have hS := hS1
    have hq0 := hq1
    have hFn := hF1
    have G := Gr.refl w25
    clear hT1 hS1 hq1 hF1
    refine Y.pv F (X.assign rfl (F.e 109 rfl)) ?_;clear F ac;intro ac F
    refine Y.nil ?_
    replace F : Fr ac 117 [(0, Vp t), (12, Vp w.heap.size), (18, Vi r)] := F.sub _
    refine X.thenN ?_
    refine Y.seq ?_
    obtain ⟨ka, kc, m1, m2, hM⟩ := hFn.gr G
    replace hC : RCells w25 [(Ad w.heap.size 0, Vi op), (Ad w.heap.size 1, Vi nx), (Ad w.heap.size 2, Vi ny), (Ad t 3, .map (some m2))] := hC.append ((RCells.cons (hM.c.cell (k := 3) (by decide)) (RCells.nil _)))
    refine Y.regionS F [some (Vp t), some (Vp t), some (.pointer (some ⟨t, 3, none⟩)), some (.map (some m2)), some (.agg #[Vi op, Vi nx, Vi ny]), some (Vi r), none] [] 6 (fun _ W => FoM W T3 t ka kc m1 m2 { F3 with jn := F3.jn ++ [((op, (nx : Int), (ny : Int)), r)] } ∧ Only T3 w25 W) rfl ⟨by kernel_rfl, of_decide_eq_true (by kernel_rfl), by kernel_rfl, by kernel_rfl, by kernel_rfl⟩ (of_decide_eq_true (by kernel_rfl)) ⟨?_, ?_, ?_, ?_, ?_, ?_, ?_, trivial⟩ ?_
    ·intro ac done u W Sx hT_
     have hs := Sx.no 6 (by kernel_rfl)
     have hR := hT_.1 hs
     exact X.vl (X.move rfl (Sx.ev 0 (Vp t))) (Y.RT.of hs rfl hR.st0)
    ·intro ac done u W Sx hT_
     have hs := Sx.no 6 (by kernel_rfl)
     have hR := hT_.1 hs
     exact X.vl (Y.nilC rfl (Sx.ev 110 (Vp t))) (Y.RT.of hs rfl hR.st0)
    ·intro ac done u W Sx hT_
     have hs := Sx.no 6 (by kernel_rfl)
     have hR := hT_.1 hs
     exact X.vl (X.field rfl (Sx.ev 111 (Vp t)) (X.fld Try.underlying162 rfl (Try.siz160 _) rfl rfl)) (Y.RT.of hs rfl hR.st0)
    ·intro ac done u W Sx hT_
     have hs := Sx.no 6 (by kernel_rfl)
     have hR := hT_.1 hs
     have g : Gr w25 W := hR.1
     exact X.vl (X.load rfl (Sx.ev 112 (.pointer (some ⟨t, 3, none⟩))) (X.ld1 (Try.agg160 _) ((hC.gr g).at 3 rfl))) (Y.RT.of hs rfl hR.st0)
    ·intro ac done u W Sx hT_
     have hs := Sx.no 6 (by kernel_rfl)
     have hR := hT_.1 hs
     have g : Gr w25 W := hR.1
     exact X.vl (X.load rfl (Sx.ev 12 (Vp w.heap.size)) (X.ldN (Try.agg174 _) (Try.siz174 _) (Y.atz (⟨w.heap.size, 0, none⟩) (Y.AtFrom.cons ((hC.gr g).at 0 rfl) (Y.AtFrom.cons ((hC.gr g).at 1 rfl) (Y.AtFrom.cons ((hC.gr g).at 2 rfl) (Y.AtFrom.nil _ _ _))))))) (Y.RT.of hs rfl hR.st0)
    ·intro ac done u W Sx hT_
     have hs := Sx.no 6 (by kernel_rfl)
     have hR := hT_.1 hs
     exact X.vl (X.move rfl (Sx.ev 18 (Vi r))) (Y.RT.of hs rfl hR.st0)
    ·intro ac done u W Sx hT_
     have hR := hT_.1 Sx.nd
     have g : Gr w25 W := hR.1
     obtain ⟨ob, hrun, hmp⟩ := mp_store (t := 160) (e := 3) Try.underlying160 ((hM.gr g).j) (x := (op, (nx : Int), (ny : Int))) (v := r) hsk fresh
     exact X.unit (X.w0 rfl) rfl (Y.mu rfl (Sx.ev 113 (.map (some m2))) (Sx.ev 114 (.agg #[Vi op, Vi nx, Vi ny])) (Sx.ev 115 (Vi r)) hrun) (Y.RT.fin ⟨((hM.gr g).jnew hmp).1, (g.only _).trans ((hM.gr g).jnew hmp).2⟩)
    rintro ac u w26 hs hd hl_ ho ⟨hM8, hon8⟩
    replace F : Fr ac 117 [(18, Vi r)] := X.fr hs hd hl_ _ (by kernel_rfl)
    clear hs hd hl_ ho
    obtain ⟨hT1, hS1⟩ := fo_next hT hS G hon8
    refine X.thenN ?_
    refine Y.seq ?_
    refine Y.lit (by kernel_rfl) ?_
    refine Y.pv F (X.move rfl (F.e 18 rfl)) ?_;clear F ac;intro ac F
    refine Y.pv F (X.assign rfl (F.e 116 rfl)) ?_;clear F ac;intro ac F
    refine Y.nil ?_
    replace F : Fr ac 117 [(8, Vi r)] := F.sub _
    refine X.thenN ?_
    refine Y.ret ?_
    exact Y.ret0 (v := Vi r) F (Y.rs1 F rfl (by kernel_rfl)) ⟨rfl, FoAt.mono ⟨_, _, _, _, hM8⟩ (fun b e => hS1 b (.inl e)) (fun b e => e.elim (fun e => by have := hlt _ e; have := hT1.size; omega) (fun e => e.2)), hT1⟩
   | true =>
    try rw [h15] at F
    obtain ⟨e1, e2⟩ := join_k hcase (by rw [← hgb]; exact h15) hgv
    refine Y.condT (F.e 64 rfl) ?_
    refine Y.seq ?_
    refine Y.lit (by kernel_rfl) ?_
    refine Y.pv F (X.move rfl (F.e 13 rfl)) ?_;clear F ac;intro ac F
    refine Y.pv F (X.assign rfl (F.e 65 rfl)) ?_;clear F ac;intro ac F
    refine Y.nil ?_
    replace F : Fr ac 117 [(8, Vi gv)] := F.sub _
    refine X.thenN ?_
    refine Y.ret ?_
    refine X.thenR ?_
    subst e1
    exact Y.ret0 (v := Vi gv) F (Y.rs1 F rfl (by kernel_rfl)) ⟨by rw [e2], (hF0.gr G).wide hlt G.size, G.only _⟩
theorem join_any (m : Nat) : ∀ (t : Nat) (S : Nat → Prop) (fo fo' : Fo) (op a b r : Int) (w : World) (hF : FoAt w S t fo), Fo.join m fo op a b = some (fo', r) → Calls Try.prog 122 #[Vp t, .int .i64 op, .int .i64 a, .int .i64 b] w (fun e w' => e = .returned (.int .i64 r) ∧ FoAt w' (Gw S w w') t fo' ∧ Only S w w') := by
 induction m with
 | zero => intro t S fo fo' op a b r w hF hb; cases hb
 | succ m ih => intro t S fo fo' op a b r w hF hb; exact join_step m ih t S fo fo' op a b r w hF hb
end
section
open Go.RowKit

set_option maxRecDepth 100000 in
set_option maxHeartbeats 400000 in
theorem literal_any (t : Nat) (S : Nat → Prop) (fo fo' : Fo) (o : Int) (wb : Bool) (r : Int) (w : World) (hF : FoAt w S t fo) (hb : fo.literal o wb = some (fo', r)) :
  Calls Try.prog 124 #[Vp t, Vi o, .bool wb] w fun e w' => e = .returned (Vi r) ∧ FoAt w' (Gw S w w') t fo' ∧ Only S w w' := by
 have G := Gr.refl w
 refine Y.calls 14 Try.func124 rfl rfl ?_
 intro ac F0
 have F : Fr ac 14 [(0, Vp t), (1, Vi o), (2, .bool wb)] := F0.sub _
 clear F0
 refine Y.seq ?_
 refine Y.lit (by kernel_rfl) ?_
 refine Y.pv F (X.assign rfl (X.kc (Vi 0) rfl)) ?_;clear F ac;intro ac F
 refine Y.nil ?_
 replace F : Fr ac 14 [(0, Vp t), (1, Vi o), (2, .bool wb)] := F.sub _
 refine X.thenN ?_
 refine Y.seq ?_
 refine Y.seq ?_
 refine Y.lit (by kernel_rfl) ?_
 refine Y.pv F (X.move rfl (F.e 2 rfl)) ?_;clear F ac;intro ac F
 refine Y.nil ?_
 replace F : Fr ac 14 [(0, Vp t), (1, Vi o), (7, .bool wb)] := F.sub _
 refine X.thenN ?_
 cases h3 : wb with
 | false =>
  try rw [h3] at F
  have hb1 : fo.node (o, 1, 0) = some (fo', r) := by simpa [Fo.literal, h3] using hb
  refine Y.condF (F.e 7 rfl) ?_
  refine Y.skip ?_
  refine X.thenN ?_
  refine Y.seq ?_
  refine Y.lit (by kernel_rfl) ?_
  refine Y.pv F (X.move rfl (F.e 0 rfl)) ?_;clear F ac;intro ac F
  refine Y.pv F (X.move rfl (F.e 1 rfl)) ?_;clear F ac;intro ac F
  refine Y.pcall F (X.w0 rfl) rfl (X.enter (F := 134) rfl (X.kc (.func (.func 134) #[] #[]) rfl) (X.a4 (F.e 11 rfl) (F.e 12 rfl) (X.kc (Vi 1) rfl) (X.kc (Vi 0) rfl)) (enters_of Try.func134 (by kernel_rfl) rfl _)) (node_any t S fo fo' o 1 0 r w (hF.gr G) hb1) ?_
  clear F ac
  rintro e w4 ⟨rfl, hF1, hon⟩
  refine ⟨_, rfl, ?_⟩
  intro ac F
  refine Y.pv F (X.assign rfl (F.e 13 rfl)) ?_;clear F ac;intro ac F
  refine Y.nil ?_
  replace F : Fr ac 14 [(6, Vi r)] := F.sub _
  refine X.thenN ?_
  refine Y.ret ?_
  exact Y.ret0 (v := Vi r) F (Y.rs1 F rfl (by kernel_rfl)) ⟨rfl, hF1, hon⟩
 | true =>
  try rw [h3] at F
  have hb1 : fo.node (o, 0, 1) = some (fo', r) := by simpa [Fo.literal, h3] using hb
  refine Y.condT (F.e 7 rfl) ?_
  refine Y.seq ?_
  refine Y.lit (by kernel_rfl) ?_
  refine Y.pv F (X.move rfl (F.e 0 rfl)) ?_;clear F ac;intro ac F
  refine Y.pv F (X.move rfl (F.e 1 rfl)) ?_;clear F ac;intro ac F
  refine Y.pcall F (X.w0 rfl) rfl (X.enter (F := 134) rfl (X.kc (.func (.func 134) #[] #[]) rfl) (X.a4 (F.e 8 rfl) (F.e 9 rfl) (X.kc (Vi 0) rfl) (X.kc (Vi 1) rfl)) (enters_of Try.func134 (by kernel_rfl) rfl _)) (node_any t S fo fo' o 0 1 r w (hF.gr G) hb1) ?_
  clear F ac
  rintro e w5 ⟨rfl, hF1, hon⟩
  refine ⟨_, rfl, ?_⟩
  intro ac F
  refine Y.pv F (X.assign rfl (F.e 10 rfl)) ?_;clear F ac;intro ac F
  refine Y.nil ?_
  replace F : Fr ac 14 [(6, Vi r)] := F.sub _
  refine X.thenN ?_
  refine Y.ret ?_
  refine X.thenR ?_
  exact Y.ret0 (v := Vi r) F (Y.rs1 F rfl (by kernel_rfl)) ⟨rfl, hF1, hon⟩
set_option maxRecDepth 100000 in
set_option maxHeartbeats 400000 in
theorem not_any (m : Nat) (t : Nat) (S : Nat → Prop) (fo fo' : Fo) (n : Int) (r : Int) (w : World) (hF : FoAt w S t fo) (hb : Fo.join m fo (-6) n 0 = some (fo', r)) :
  Calls Try.prog 123 #[Vp t, Vi n] w fun e w' => e = .returned (Vi r) ∧ FoAt w' (Gw S w w') t fo' ∧ Only S w w' := by
 have G := Gr.refl w
 refine Y.calls 8 Try.func123 rfl rfl ?_
 intro ac F0
 have F : Fr ac 8 [(0, Vp t), (1, Vi n)] := F0.sub _
 clear F0
 refine Y.seq ?_
 refine Y.lit (by kernel_rfl) ?_
 refine Y.pv F (X.assign rfl (X.kc (Vi 0) rfl)) ?_;clear F ac;intro ac F
 refine Y.nil ?_
 replace F : Fr ac 8 [(0, Vp t), (1, Vi n)] := F.sub _
 refine X.thenN ?_
 refine Y.seq ?_
 refine Y.lit (by kernel_rfl) ?_
 refine Y.pv F (X.move rfl (F.e 0 rfl)) ?_;clear F ac;intro ac F
 refine Y.pv F (X.move rfl (F.e 1 rfl)) ?_;clear F ac;intro ac F
 refine Y.pcall F (X.w0 rfl) rfl (X.enter (F := 122) rfl (X.kc (.func (.func 122) #[] #[]) rfl) (X.a4 (F.e 5 rfl) (X.kc (Vi (-6)) rfl) (F.e 6 rfl) (X.kc (Vi 0) rfl)) (enters_of Try.func122 (by kernel_rfl) rfl _)) (join_any m t S fo fo' (-6) n 0 r w (hF.gr G) hb) ?_
 clear F ac
 rintro e w3 ⟨rfl, hF1, hon⟩
 refine ⟨_, rfl, ?_⟩
 intro ac F
 refine Y.pv F (X.assign rfl (F.e 7 rfl)) ?_;clear F ac;intro ac F
 refine Y.nil ?_
 replace F : Fr ac 8 [(4, Vi r)] := F.sub _
 refine X.thenN ?_
 refine Y.ret ?_
 exact Y.ret0 (v := Vi r) F (Y.rs1 F rfl (by kernel_rfl)) ⟨rfl, hF1, hon⟩
end
section
open Go.RowKit

set_option maxRecDepth 100000 in
set_option maxHeartbeats 400000 in
theorem operands_any (x : Int) (w : World) :
  Calls Try.prog 125 #[Vi x] w fun e w' => e = .returned (Vi (opn x : Nat)) ∧ w' = w := by
 have G := Gr.refl w
 refine Y.calls 10 Try.func125 rfl rfl ?_
 intro ac F0
 have F : Fr ac 10 [(0, Vi x)] := F0.sub _
 clear F0
 refine Y.seq ?_
 refine Y.lit (by kernel_rfl) ?_
 refine Y.pv F (X.assign rfl (X.kc (Vi 0) rfl)) ?_;clear F ac;intro ac F
 refine Y.nil ?_
 replace F : Fr ac 10 [(0, Vi x)] := F.sub _
 refine X.thenN ?_
 refine Y.seq ?_
 refine Y.seq ?_
 refine Y.lit (by kernel_rfl) ?_
 refine Y.pv F (X.move rfl (F.e 0 rfl)) ?_;clear F ac;intro ac F
 refine Y.nil ?_
 replace F : Fr ac 10 [(3, Vi x)] := F.sub _
 refine X.thenN ?_
 refine Y.block ?_
 refine Y.seq ?_
 refine Y.lit (by kernel_rfl) ?_
 refine Y.pv F (X.binop rfl (F.e 3 rfl) (X.kc (Vi (-3)) rfl) (X.eqlI Try.underlying3 rfl)) ?_;clear F ac;intro ac F
 refine Y.pv F (X.assign rfl (F.e 5 rfl)) ?_;clear F ac;intro ac F
 refine Y.nil ?_
 replace F : Fr ac 10 [(3, Vi x), (4, .bool ((x : Int) == (-3)))] := F.sub _
 refine X.thenN ?_
 cases h3 : ((x : Int) == (-3)) with
 | false =>
  try rw [h3] at F
  have h3p : ¬ (x : Int) = (-3) := by simpa using h3
  refine Y.condF (F.e 4 rfl) ?_
  refine Y.seq ?_
  refine Y.seq ?_
  refine Y.lit (by kernel_rfl) ?_
  refine Y.pv F (X.binop rfl (F.e 3 rfl) (X.kc (Vi (-4)) rfl) (X.eqlI Try.underlying3 rfl)) ?_;clear F ac;intro ac F
  refine Y.pv F (X.assign rfl (F.e 7 rfl)) ?_;clear F ac;intro ac F
  refine Y.nil ?_
  replace F : Fr ac 10 [(3, Vi x), (6, .bool ((x : Int) == (-4)))] := F.sub _
  refine X.thenN ?_
  cases h4 : ((x : Int) == (-4)) with
  | false =>
   try rw [h4] at F
   have h4p : ¬ (x : Int) = (-4) := by simpa using h4
   refine Y.condF (F.e 6 rfl) ?_
   refine Y.seq ?_
   refine Y.lit (by kernel_rfl) ?_
   refine Y.pv F (X.binop rfl (F.e 3 rfl) (X.kc (Vi (-5)) rfl) (X.eqlI Try.underlying3 rfl)) ?_;clear F ac;intro ac F
   refine Y.pv F (X.assign rfl (F.e 8 rfl)) ?_;clear F ac;intro ac F
   refine Y.nil ?_
   replace F : Fr ac 10 [(3, Vi x), (6, .bool ((x : Int) == (-5)))] := F.sub _
   refine X.thenN ?_
   cases h5 : ((x : Int) == (-5)) with
   | false =>
    try rw [h5] at F
    have h5p : ¬ (x : Int) = (-5) := by simpa using h5
    refine Y.condF (F.e 6 rfl) ?_
    refine Y.lit (by kernel_rfl) ?_
    refine Y.pv F (X.binop rfl (F.e 3 rfl) (X.kc (Vi (-6)) rfl) (X.eqlI Try.underlying3 rfl)) ?_;clear F ac;intro ac F
    refine Y.pv F (X.assign rfl (F.e 9 rfl)) ?_;clear F ac;intro ac F
    refine Y.nil ?_
    replace F : Fr ac 10 [(6, .bool ((x : Int) == (-6)))] := F.sub _
    refine X.thenN ?_
    cases h6 : ((x : Int) == (-6)) with
    | false =>
     try rw [h6] at F
     have h6p : ¬ (x : Int) = (-6) := by simpa using h6
     refine Y.condF (F.e 6 rfl) ?_
     refine Y.skip ?_
     refine X.blockN ?_
     refine X.thenN ?_
     refine Y.seq ?_
     refine Y.lit (by kernel_rfl) ?_
     refine Y.pv F (X.assign rfl (X.kc (Vi 0) rfl)) ?_;clear F ac;intro ac F
     refine Y.nil ?_
     replace F : Fr ac 10 [(2, Vi 0)] := F.sub _
     refine X.thenN ?_
     refine Y.ret ?_
     exact Y.ret0 (v := Vi 0) F (Y.rs1 F rfl (by kernel_rfl)) ⟨by simp [opn, h3p, h4p, h5p, h6p], rfl⟩
    | true =>
     try rw [h6] at F
     have h6p : (x : Int) = (-6) := by simpa using h6
     refine Y.condT (F.e 6 rfl) ?_
     refine Y.seq ?_
     refine Y.lit (by kernel_rfl) ?_
     refine Y.pv F (X.assign rfl (X.kc (Vi 2) rfl)) ?_;clear F ac;intro ac F
     refine Y.nil ?_
     replace F : Fr ac 10 [(2, Vi 2)] := F.sub _
     refine X.thenN ?_
     refine Y.ret ?_
     refine X.blockR ?_
     refine X.thenR ?_
     exact Y.ret0 (v := Vi 2) F (Y.rs1 F rfl (by kernel_rfl)) ⟨by simp [opn, h3p, h4p, h5p, h6p], rfl⟩
   | true =>
    try rw [h5] at F
    have h5p : (x : Int) = (-5) := by simpa using h5
    refine Y.condT (F.e 6 rfl) ?_
    refine Y.skip ?_
    refine X.thenN ?_
    refine Y.condT (F.e 6 rfl) ?_
    refine Y.seq ?_
    refine Y.lit (by kernel_rfl) ?_
    refine Y.pv F (X.assign rfl (X.kc (Vi 2) rfl)) ?_;clear F ac;intro ac F
    refine Y.nil ?_
    replace F : Fr ac 10 [(2, Vi 2)] := F.sub _
    refine X.thenN ?_
    refine Y.ret ?_
    refine X.blockR ?_
    refine X.thenR ?_
    exact Y.ret0 (v := Vi 2) F (Y.rs1 F rfl (by kernel_rfl)) ⟨by simp [opn, h3p, h4p, h5p], rfl⟩
  | true =>
   try rw [h4] at F
   have h4p : (x : Int) = (-4) := by simpa using h4
   refine Y.condT (F.e 6 rfl) ?_
   refine Y.skip ?_
   refine X.thenN ?_
   refine Y.condT (F.e 6 rfl) ?_
   refine Y.seq ?_
   refine Y.lit (by kernel_rfl) ?_
   refine Y.pv F (X.assign rfl (X.kc (Vi 2) rfl)) ?_;clear F ac;intro ac F
   refine Y.nil ?_
   replace F : Fr ac 10 [(2, Vi 2)] := F.sub _
   refine X.thenN ?_
   refine Y.ret ?_
   refine X.blockR ?_
   refine X.thenR ?_
   exact Y.ret0 (v := Vi 2) F (Y.rs1 F rfl (by kernel_rfl)) ⟨by simp [opn, h3p, h4p], rfl⟩
 | true =>
  try rw [h3] at F
  have h3p : (x : Int) = (-3) := by simpa using h3
  refine Y.condT (F.e 4 rfl) ?_
  refine Y.seq ?_
  refine Y.lit (by kernel_rfl) ?_
  refine Y.pv F (X.assign rfl (X.kc (Vi 1) rfl)) ?_;clear F ac;intro ac F
  refine Y.nil ?_
  replace F : Fr ac 10 [(2, Vi 1)] := F.sub _
  refine X.thenN ?_
  refine Y.ret ?_
  refine X.blockR ?_
  refine X.thenR ?_
  exact Y.ret0 (v := Vi 1) F (Y.rs1 F rfl (by kernel_rfl)) ⟨by simp [opn, h3p], rfl⟩
end
section
open Go.RowKit

/-- is a formula valid: what is wanted behind some signs -/
def validL (o : Int) : List Int → Int → Option Int
  | [], v => some v
  | x :: l, v => if v = 0 ∨ x < -6 ∨ o ≤ x then none else validL o l (v + ((opn x : Nat) - 1))
def validB (o : Int) (f : List Int) : Bool := match validL o f 1 with
  | none => false
  | some v => v == 0 && decide ((f.length : Int) ≤ 100)
theorem opn_le (x : Int) : opn x ≤ 2 := by unfold opn; split; omega; split <;> omega
theorem valid_cons {o v : Int} {f : List Int} {i : Nat} (h : i < f.length) : validL o (f.drop i) v = if v = 0 ∨ f[i]?.getD 0 < -6 ∨ o ≤ f[i]?.getD 0 then none else validL o (f.drop (i + 1)) (v + ((opn (f[i]?.getD 0) : Nat) - 1)) := by
  rw [List.drop_eq_getElem_cons h, List.getElem?_eq_getElem h]
  rfl
set_option maxRecDepth 100000 in
set_option maxHeartbeats 400000 in
theorem valid_any (fa : Option Addr) (fn fc : Nat) (f : List Int) (o : Int) (w : World) (hf : Ints w fa fn f) :
  Calls Try.prog 140 #[.slice fa fn fc, Vi o] w fun e w' => e = .returned (.bool (validB o f)) ∧ Gr w w' := by
 have G := Gr.refl w
 have hlen := hf.len
 have hlt := hf.lt
 refine Y.calls 38 Try.func140 rfl rfl ?_
 intro ac F0
 have F : Fr ac 38 [(0, .slice fa fn fc), (1, Vi o)] := F0.sub _
 clear F0
 refine Y.seq ?_
 refine Y.lit (by kernel_rfl) ?_
 refine Y.pv F (X.assign rfl (X.kc (.bool false) rfl)) ?_;clear F ac;intro ac F
 refine Y.nil ?_
 replace F : Fr ac 38 [(0, .slice fa fn fc), (1, Vi o)] := F.sub _
 refine X.thenN ?_
 refine Y.seq ?_
 refine Y.lit (by kernel_rfl) ?_
 refine Y.pv F (X.assign rfl (X.kc (Vi 1) rfl)) ?_;clear F ac;intro ac F
 refine Y.nil ?_
 replace F : Fr ac 38 [(0, .slice fa fn fc), (1, Vi o), (5, Vi 1)] := F.sub _
 refine X.thenN ?_
 refine Y.seq ?_
 refine Y.seq ?_
 refine Y.lit (by kernel_rfl) ?_
 refine Y.pv F (X.move rfl (F.e 0 rfl)) ?_;clear F ac;intro ac F
 refine Y.pv F (X.len1 Try.underlying118 rfl (F.e 8 rfl)) ?_;clear F ac;intro ac F
 refine Y.pv F (X.move rfl (X.kc (Vi 0) rfl)) ?_;clear F ac;intro ac F
 refine Y.nil ?_
 replace F : Fr ac 38 [(0, .slice fa fn fc), (1, Vi o), (5, Vi 1), (8, .slice fa fn fc), (9, Vi fn), (10, Vi 0)] := F.sub _
 refine X.thenN ?_
 refine Y.block ?_
 have hfB := hf
 have GB := G
 refine Y.loop (fun me_ ac wr => ∃ (i : Nat) (v : Int), me_ = fn - i ∧ Gr w wr ∧ i ≤ fn ∧ 0 ≤ v ∧ v ≤ i + 1 ∧ validL o (f.drop i) v = validL o f 1 ∧ Fr ac 38 [(0, .slice fa fn fc), (1, Vi o), (5, Vi v), (8, .slice fa fn fc), (9, Vi fn), (10, Vi i)]) _ ⟨0, 1, rfl, Gr.refl _, Nat.zero_le _, by decide, by decide, rfl, F.sub _⟩ ?_
 clear F
 intro me_ ac w3 hI
 obtain ⟨i, v, rfl, gr, hi0, hv0, hv1, hV, F⟩ := hI
 replace G := GB.trans gr
 replace hf := hfB.gr gr
 have GB_ := gr
 clear gr
 refine Y.seq ?_
 refine Y.lit (by kernel_rfl) ?_
 refine Y.pv F (X.binop rfl (F.e 10 rfl) (F.e 9 rfl) (X.lssI Try.underlying3 rfl)) ?_;clear F ac;intro ac F
 refine Y.nil ?_
 replace F : Fr ac 38 [(0, .slice fa fn fc), (1, Vi o), (5, Vi v), (8, .slice fa fn fc), (9, Vi fn), (10, Vi i), (11, .bool (decide ((i : Int) < fn)))] := F.sub _
 refine X.thenN ?_
 refine Y.seq ?_
 cases h4 : decide ((i : Int) < fn) with
 | false =>
  try rw [h4] at F
  have h4p : ¬ ((i : Int) < fn) := of_decide_eq_false h4
  rw [List.drop_eq_nil_of_le (show f.length ≤ i by omega)] at hV
  refine Y.condF (F.e 11 rfl) ?_
  refine Y.exit ?_
  refine X.thenX ?_
  refine X.thenX ?_
  refine X.blockX ?_
  refine X.thenN ?_
  refine Y.seq ?_
  refine Y.lit (by kernel_rfl) ?_
  refine Y.pv F (X.move rfl (F.e 5 rfl)) ?_;clear F ac;intro ac F
  refine Y.pv F (X.binop rfl (F.e 31 rfl) (X.kc (Vi 0) rfl) (X.eqlI Try.underlying3 rfl)) ?_;clear F ac;intro ac F
  refine Y.pv F (X.move rfl (F.e 32 rfl)) ?_;clear F ac;intro ac F
  cases h5 : ((v : Int) == 0) with
  | false =>
   try rw [h5] at F
   have h5p : ¬ (v : Int) = 0 := by simpa using h5
   refine Y.pskip F (X.w2 rfl (F.yl (j := 2) (d := 33) (b := false) rfl (by kernel_rfl)) rfl) rfl ?_;clear F ac;intro ac F
   refine Y.pskip F (X.w2 rfl (F.yl (j := 2) (d := 33) (b := false) rfl (by kernel_rfl)) rfl) rfl ?_;clear F ac;intro ac F
   refine Y.pskip F (X.w2 rfl (F.yl (j := 2) (d := 33) (b := false) rfl (by kernel_rfl)) rfl) rfl ?_;clear F ac;intro ac F
   refine Y.pv F (X.pickF rfl (F.e 33 rfl) (X.kc (.bool false) rfl)) ?_;clear F ac;intro ac F
   refine Y.pv F (X.assign rfl (F.e 37 rfl)) ?_;clear F ac;intro ac F
   refine Y.nil ?_
   replace F : Fr ac 38 [(4, .bool false)] := F.sub _
   refine X.thenN ?_
   refine Y.ret ?_
   exact Y.ret0 (v := .bool false) F (Y.rs1 F rfl (by kernel_rfl)) ⟨by rw [validB, ← hV]; simp [validL, hlen, h4, h4p, h5, h5p], G⟩
  | true =>
   try rw [h5] at F
   have h5p : (v : Int) = 0 := by simpa using h5
   refine Y.pval F (X.w1 rfl (F.yl (j := 2) (d := 33) (b := true) rfl (by kernel_rfl))) rfl (X.move rfl (F.e 0 rfl)) ?_;clear F ac;intro ac F
   refine Y.pval F (X.w1 rfl (F.yl (j := 2) (d := 33) (b := true) rfl (by kernel_rfl))) rfl (X.len1 Try.underlying118 rfl (F.e 34 rfl)) ?_;clear F ac;intro ac F
   refine Y.pval F (X.w1 rfl (F.yl (j := 2) (d := 33) (b := true) rfl (by kernel_rfl))) rfl (X.binop rfl (F.e 35 rfl) (X.kc (Vi 100) rfl) (X.leqI Try.underlying3 rfl)) ?_;clear F ac;intro ac F
   refine Y.pv F (X.pickT rfl (F.e 33 rfl) (F.e 36 rfl)) ?_;clear F ac;intro ac F
   refine Y.pv F (X.assign rfl (F.e 37 rfl)) ?_;clear F ac;intro ac F
   refine Y.nil ?_
   replace F : Fr ac 38 [(4, .bool (decide ((fn : Int) ≤ 100)))] := F.sub _
   refine X.thenN ?_
   refine Y.ret ?_
   exact Y.ret0 (v := .bool (decide ((fn : Int) ≤ 100))) F (Y.rs1 F rfl (by kernel_rfl)) ⟨by rw [validB, ← hV]; simp [validL, hlen, h4, h4p, h5, h5p], G⟩
 | true =>
  try rw [h4] at F
  have h4p : ((i : Int) < fn) := of_decide_eq_true h4
  have hst := valid_cons (o := o) (v := v) (f := f) (i := i) (by omega)
  have hop := opn_le (f[i]?.getD 0)
  refine Y.condT (F.e 11 rfl) ?_
  refine Y.skip ?_
  refine X.thenN ?_
  refine Y.seq ?_
  refine Y.block ?_
  refine Y.seq ?_
  refine Y.lit (by kernel_rfl) ?_
  obtain ⟨pd6, pe6, -, pc6⟩ := hf.at (j := i) (by omega)
  subst pe6
  have hC : RCells w3 [(pd6.add i, Vi (f[i]?.getD 0))] := (RCells.cons pc6 (RCells.nil _))
  clear pc6
  refine Y.pval F (X.w0 rfl) rfl (X.index rfl (F.e 8 rfl) (F.e 10 rfl) (X.idx (k := i) Try.underlying118 (Try.siz3 _) (by omega) (by omega) (by rw [Nat.mul_one]))) ?_;clear F ac;intro ac F
  refine Y.pv F (X.load rfl (F.e 12 rfl) (X.ld1 (Try.agg3 _) (hC.at 0 rfl))) ?_;clear F ac;intro ac F
  refine Y.pv F (X.assign rfl (F.e 13 rfl)) ?_;clear F ac;intro ac F
  refine Y.nil ?_
  replace F : Fr ac 38 [(0, .slice (some pd6) fn fc), (1, Vi o), (5, Vi v), (7, Vi (f[i]?.getD 0)), (8, .slice (some pd6) fn fc), (9, Vi fn), (10, Vi i)] := F.sub _
  refine X.thenN ?_
  refine Y.seq ?_
  refine Y.seq ?_
  refine Y.lit (by kernel_rfl) ?_
  refine Y.pv F (X.move rfl (F.e 5 rfl)) ?_;clear F ac;intro ac F
  refine Y.pv F (X.binop rfl (F.e 14 rfl) (X.kc (Vi 0) rfl) (X.eqlI Try.underlying3 rfl)) ?_;clear F ac;intro ac F
  refine Y.pv F (X.move rfl (F.e 15 rfl)) ?_;clear F ac;intro ac F
  cases h7 : ((v : Int) == 0) with
  | false =>
   try rw [h7] at F
   have h7p : ¬ (v : Int) = 0 := by simpa using h7
   refine Y.pval F (X.w1 rfl (F.yl (j := 2) (d := 16) (b := false) rfl (by kernel_rfl))) rfl (X.move rfl (F.e 7 rfl)) ?_;clear F ac;intro ac F
   refine Y.pval F (X.w1 rfl (F.yl (j := 2) (d := 16) (b := false) rfl (by kernel_rfl))) rfl (X.binop rfl (F.e 17 rfl) (X.kc (Vi (-6)) rfl) (X.lssI Try.underlying3 rfl)) ?_;clear F ac;intro ac F
   refine Y.pv F (X.pickF rfl (F.e 16 rfl) (F.e 18 rfl)) ?_;clear F ac;intro ac F
   refine Y.pv F (X.move rfl (F.e 19 rfl)) ?_;clear F ac;intro ac F
   cases h8 : decide ((f[i]?.getD 0 : Int) < (-6)) with
   | false =>
    try rw [h8] at F
    have h8p : ¬ ((f[i]?.getD 0 : Int) < (-6)) := of_decide_eq_false h8
    refine Y.pval F (X.w1 rfl (F.yl (j := 6) (d := 20) (b := false) rfl (by kernel_rfl))) rfl (X.move rfl (F.e 7 rfl)) ?_;clear F ac;intro ac F
    refine Y.pval F (X.w1 rfl (F.yl (j := 6) (d := 20) (b := false) rfl (by kernel_rfl))) rfl (X.move rfl (F.e 1 rfl)) ?_;clear F ac;intro ac F
    refine Y.pval F (X.w1 rfl (F.yl (j := 6) (d := 20) (b := false) rfl (by kernel_rfl))) rfl (X.binop rfl (F.e 21 rfl) (F.e 22 rfl) (X.geqI Try.underlying3 rfl)) ?_;clear F ac;intro ac F
    refine Y.pv F (X.pickF rfl (F.e 20 rfl) (F.e 23 rfl)) ?_;clear F ac;intro ac F
    refine Y.nil ?_
    replace F : Fr ac 38 [(0, .slice (some pd6) fn fc), (1, Vi o), (5, Vi v), (7, Vi (f[i]?.getD 0)), (8, .slice (some pd6) fn fc), (9, Vi fn), (10, Vi i), (24, .bool (decide ((o : Int) ≤ (f[i]?.getD 0))))] := F.sub _
    refine X.thenN ?_
    cases h9 : decide ((o : Int) ≤ (f[i]?.getD 0)) with
    | false =>
     try rw [h9] at F
     have h9p : ¬ ((o : Int) ≤ (f[i]?.getD 0)) := of_decide_eq_false h9
     refine Y.condF (F.e 24 rfl) ?_
     refine Y.skip ?_
     refine X.thenN ?_
     refine Y.lit (by kernel_rfl) ?_
     refine Y.pv F (X.move rfl (F.e 5 rfl)) ?_;clear F ac;intro ac F
     refine Y.pv F (X.move rfl (F.e 7 rfl)) ?_;clear F ac;intro ac F
     refine Y.pcall F (X.w0 rfl) rfl (X.enter (F := 125) rfl (X.kc (.func (.func 125) #[] #[]) rfl) (X.a1 (F.e 26 rfl)) (enters_of Try.func125 (by kernel_rfl) rfl _)) (operands_any (f[i]?.getD 0) w3) ?_
     clear F ac
     rintro e w' ⟨rfl, hw_⟩
     obtain rfl : w3 = w' := hw_.symm
     clear hw_
     refine ⟨_, rfl, ?_⟩
     intro ac F
     refine Y.pv F (X.binop rfl (F.e 27 rfl) (X.kc (Vi 1) rfl) (X.subI Try.underlying3 rfl (by omega) (by omega))) ?_;clear F ac;intro ac F
     refine Y.pv F (X.binop rfl (F.e 25 rfl) (F.e 28 rfl) (X.addI Try.underlying3 rfl (by omega) (by omega))) ?_;clear F ac;intro ac F
     refine Y.pv F (X.assign rfl (F.e 29 rfl)) ?_;clear F ac;intro ac F
     refine Y.nil ?_
     replace F : Fr ac 38 [(0, .slice (some pd6) fn fc), (1, Vi o), (5, Vi ((v : Int) + ((((opn (f[i]?.getD 0) : Nat) : Int) : Int) - 1))), (8, .slice (some pd6) fn fc), (9, Vi fn), (10, Vi i)] := F.sub _
     refine X.blockN ?_
     refine X.thenN ?_
     refine Y.lit (by kernel_rfl) ?_
     refine Y.pv F (X.binop rfl (F.e 10 rfl) (X.kc (Vi 1) rfl) (X.addI Try.underlying3 rfl (by omega) (by omega))) ?_;clear F ac;intro ac F
     refine Y.pv F (X.move rfl (F.e 30 rfl)) ?_;clear F ac;intro ac F
     refine Y.nil ?_
     replace F : Fr ac 38 [(0, .slice (some pd6) fn fc), (1, Vi o), (5, Vi ((v : Int) + ((((opn (f[i]?.getD 0) : Nat) : Int) : Int) - 1))), (8, .slice (some pd6) fn fc), (9, Vi fn), (10, Vi ((i : Int) + 1))] := F.sub _
     refine X.thenN ?_
     refine ⟨_, ?_, i + 1, ((v : Int) + ((((opn (f[i]?.getD 0) : Nat) : Int) : Int) - 1)), rfl, GB_, by omega, by omega, by omega, by rw [← hV, hst, if_neg (by omega)], F.sub _⟩
     omega
    | true =>
     try rw [h9] at F
     have h9p : ((o : Int) ≤ (f[i]?.getD 0)) := of_decide_eq_true h9
     refine Y.condT (F.e 24 rfl) ?_
     refine Y.seq ?_
     refine Y.lit (by kernel_rfl) ?_
     refine Y.pv F (X.assign rfl (X.kc (.bool false) rfl)) ?_;clear F ac;intro ac F
     refine Y.nil ?_
     replace F : Fr ac 38 [(4, .bool false)] := F.sub _
     refine X.thenN ?_
     refine Y.ret ?_
     refine X.thenR ?_
     refine X.blockR ?_
     refine X.thenR ?_
     refine X.thenR ?_
     refine X.blockR ?_
     refine X.thenR ?_
     exact Y.ret0 (v := .bool false) F (Y.rs1 F rfl (by kernel_rfl)) ⟨by rw [validB, ← hV, hst, if_pos (by omega)], G⟩
   | true =>
    try rw [h8] at F
    have h8p : ((f[i]?.getD 0 : Int) < (-6)) := of_decide_eq_true h8
    refine Y.pskip F (X.w2 rfl (F.yl (j := 6) (d := 20) (b := true) rfl (by kernel_rfl)) rfl) rfl ?_;clear F ac;intro ac F
    refine Y.pskip F (X.w2 rfl (F.yl (j := 6) (d := 20) (b := true) rfl (by kernel_rfl)) rfl) rfl ?_;clear F ac;intro ac F
    refine Y.pskip F (X.w2 rfl (F.yl (j := 6) (d := 20) (b := true) rfl (by kernel_rfl)) rfl) rfl ?_;clear F ac;intro ac F
    refine Y.pv F (X.pickT rfl (F.e 20 rfl) (X.kc (.bool true) rfl)) ?_;clear F ac;intro ac F
    refine Y.nil ?_
    replace F : Fr ac 38 [(0, .slice (some pd6) fn fc), (1, Vi o), (5, Vi v), (7, Vi (f[i]?.getD 0)), (8, .slice (some pd6) fn fc), (9, Vi fn), (10, Vi i), (24, .bool true)] := F.sub _
    refine X.thenN ?_
    refine Y.condT (F.e 24 rfl) ?_
    refine Y.seq ?_
    refine Y.lit (by kernel_rfl) ?_
    refine Y.pv F (X.assign rfl (X.kc (.bool false) rfl)) ?_;clear F ac;intro ac F
    refine Y.nil ?_
    replace F : Fr ac 38 [(4, .bool false)] := F.sub _
    refine X.thenN ?_
    refine Y.ret ?_
    refine X.thenR ?_
    refine X.blockR ?_
    refine X.thenR ?_
    refine X.thenR ?_
    refine X.blockR ?_
    refine X.thenR ?_
    exact Y.ret0 (v := .bool false) F (Y.rs1 F rfl (by kernel_rfl)) ⟨by rw [validB, ← hV, hst, if_pos (by omega)], G⟩
  | true =>
   try rw [h7] at F
   have h7p : (v : Int) = 0 := by simpa using h7
   refine Y.pskip F (X.w2 rfl (F.yl (j := 2) (d := 16) (b := true) rfl (by kernel_rfl)) rfl) rfl ?_;clear F ac;intro ac F
   refine Y.pskip F (X.w2 rfl (F.yl (j := 2) (d := 16) (b := true) rfl (by kernel_rfl)) rfl) rfl ?_;clear F ac;intro ac F
   refine Y.pv F (X.pickT rfl (F.e 16 rfl) (X.kc (.bool true) rfl)) ?_;clear F ac;intro ac F
   refine Y.pv F (X.move rfl (F.e 19 rfl)) ?_;clear F ac;intro ac F
   refine Y.pskip F (X.w2 rfl (F.yl (j := 6) (d := 20) (b := true) rfl (by kernel_rfl)) rfl) rfl ?_;clear F ac;intro ac F
   refine Y.pskip F (X.w2 rfl (F.yl (j := 6) (d := 20) (b := true) rfl (by kernel_rfl)) rfl) rfl ?_;clear F ac;intro ac F
   refine Y.pskip F (X.w2 rfl (F.yl (j := 6) (d := 20) (b := true) rfl (by kernel_rfl)) rfl) rfl ?_;clear F ac;intro ac F
   refine Y.pv F (X.pickT rfl (F.e 20 rfl) (X.kc (.bool true) rfl)) ?_;clear F ac;intro ac F
   refine Y.nil ?_
   replace F : Fr ac 38 [(0, .slice (some pd6) fn fc), (1, Vi o), (5, Vi v), (7, Vi (f[i]?.getD 0)), (8, .slice (some pd6) fn fc), (9, Vi fn), (10, Vi i), (24, .bool true)] := F.sub _
   refine X.thenN ?_
   refine Y.condT (F.e 24 rfl) ?_
   refine Y.seq ?_
   refine Y.lit (by kernel_rfl) ?_
   refine Y.pv F (X.assign rfl (X.kc (.bool false) rfl)) ?_;clear F ac;intro ac F
   refine Y.nil ?_
   replace F : Fr ac 38 [(4, .bool false)] := F.sub _
   refine X.thenN ?_
   refine Y.ret ?_
   refine X.thenR ?_
   refine X.blockR ?_
   refine X.thenR ?_
   refine X.thenR ?_
   refine X.blockR ?_
   refine X.thenR ?_
   exact Y.ret0 (v := .bool false) F (Y.rs1 F rfl (by kernel_rfl)) ⟨by rw [validB, ← hV, hst, if_pos (by omega)], G⟩
end
section
open Go.RowKit

theorem grow_next {S T1 : Nat → Prop} {w wj wa wb : World} {t n p : Nat} {f1 : Fo} {sa : Option Addr} {sc : Nat} {v2 : Value} {xs : List Value} (hT : Only S w wj) (hS : ∀ b, T1 b → Gw S w wj b) (hF : FoAt wj T1 t f1) (G : Gr wj wa) (hO1 : OwnR wj w.heap.size 3 1 (.slice sa n sc) n xs)
    (hOT : ∀ b, (Value.slice sa n sc).ownBlock = some b → ¬ T1 b) (hon : Only (fun b => (Value.slice sa p sc).ownBlock = some b) wa wb) (hat : v2.ownBlock = (Value.slice sa p sc).ownBlock ∨ v2.ownBlock = some wa.heap.size) :
    Only S w wb ∧ (∀ b, T1 b → Gw S w wb b) ∧ FoAt wb T1 t f1 ∧ (∀ b, v2.ownBlock = some b → ¬ T1 b) := by
  have eo : (Value.slice sa p sc).ownBlock = (Value.slice sa n sc).ownBlock := by cases sa <;> rfl
  rw [eo] at hat hon
  have z0 := hT.size
  have z1 := G.size
  have z2 := hon.size
  refine ⟨⟨hon.os.trans ((Below.os G).trans hT.os), hon.tape.trans ((Below.tape G).trans hT.tape), hon.output.trans ((Below.output G).trans hT.output), by omega, fun i hi hs => (hon.block i (by omega) (fun e => by have := (hO1.ge e).1; omega)).trans ((Below.block G i (by omega)).trans (hT.block i hi hs))⟩, fun b e => (hS b e).elim .inl (fun e => .inr ⟨e.1, by omega⟩), (hF.gr G).only hon (fun b e1 e2 => hOT b e2 e1), ?_⟩
  intro b e hT1
  rcases hat with h | h
  · exact hOT b (h ▸ e) hT1
  · rw [h] at e
    injection e with e
    have := hF.lt b hT1
    omega
theorem OwnR.capN {w : World} {B e k n : Nat} {a : Option Addr} {c : Nat} {xs : List Value} (h : OwnR w B e k (.slice a n c) n xs) : n ≤ c := by
  obtain ⟨h1, h2⟩ := h
  rcases h2 with ⟨h3, h4⟩ | ⟨g, cap, cur, h3, h4, h5, h6, h7, h8, h9⟩
  · omega
  · injection h3 with e1 e2 e3
    omega
theorem opn_val (x : Int) : ((x = -4 ∨ x = -5 ∨ x = -6) → opn x = 2) ∧ (x = -3 → opn x = 1) := by
  unfold opn
  refine ⟨fun h => ?_, fun h => by rw [if_pos h]⟩
  rw [if_neg (by omega), if_pos h]
theorem sg_join {m : Nat} {F F1 : Fo} {x v : Int} {st : List Int} (h : Fo.sign m F x st = some (F1, v)) (hx : x = -4 ∨ x = -5 ∨ x = -6) : Fo.join m F x (st[st.length - 1]?.getD 0) (st[st.length - 2]?.getD 0) = some (F1, v) := by
  unfold Fo.sign at h
  rw [if_neg (by omega), if_neg (by omega), if_neg (by omega), if_pos hx] at h
  obtain ⟨a, h1, h⟩ := Option.bind_eq_some_iff.1 h
  obtain ⟨b, h2, h⟩ := Option.bind_eq_some_iff.1 h
  rw [h1, h2]; exact h
theorem sg_not {m : Nat} {F F1 : Fo} {x v : Int} {st : List Int} (h : Fo.sign m F x st = some (F1, v)) (hx : x = -3) : Fo.join m F (-6) (st[st.length - 1]?.getD 0) 0 = some (F1, v) := by
  unfold Fo.sign at h
  rw [if_neg (by omega), if_neg (by omega), if_pos hx] at h
  obtain ⟨a, h1, h⟩ := Option.bind_eq_some_iff.1 h
  rw [h1]; exact h
theorem sg_lit {m : Nat} {F F1 : Fo} {x v : Int} {st : List Int} (h : Fo.sign m F x st = some (F1, v)) (hx : x ≠ -1 ∧ x ≠ -2 ∧ x ≠ -3 ∧ ¬ (x = -4 ∨ x = -5 ∨ x = -6)) : F.literal x true = some (F1, v) := by
  unfold Fo.sign at h
  rwa [if_neg hx.1, if_neg hx.2.1, if_neg hx.2.2.1, if_neg hx.2.2.2] at h
theorem sg_end {m : Nat} {F F1 : Fo} {x v : Int} {st : List Int} (h : Fo.sign m F x st = some (F1, v)) (hx : x = -1 ∨ x = -2) : F1 = F ∧ v = if x = -1 then 1 else 0 := by
  unfold Fo.sign at h
  by_cases e : x = -1
  · rw [if_pos e] at h; injection h with h; injection h with h1 h2; exact ⟨h1.symm, by rw [if_pos e]; exact h2.symm⟩
  · rw [if_neg e, if_pos (hx.resolve_left e)] at h; injection h with h; injection h with h1 h2; exact ⟨h1.symm, by rw [if_neg e]; exact h2.symm⟩
set_option maxRecDepth 100000 in
set_option maxHeartbeats 1000000 in
theorem grow_any (m : Nat) (t : Nat) (S : Nat → Prop) (fo fo' : Fo) (r : Int) (fa : Option Addr) (fn fc : Nat) (f : List Int) (w : World) (hF : FoAt w S t fo) (hf0 : Ints w fa fn f) (hdis : ∀ ad, fa = some ad → ¬ S ad.block) (hfn : fn ≤ 1000) (hb : Fo.grown m fo f = some (fo', r)) :
  Calls Try.prog 108 #[Vp t, .slice fa fn fc] w fun e w' => e = .returned (Vi r) ∧ FoAt w' (Gw S w w') t fo' ∧ Only S w w' := by
 have G := Gr.refl w
 have hf := hf0
 have hlen := hf0.len
 have hlt := hF.lt
 obtain ⟨sf, hb0, hr0⟩ := grown_eq hb
 refine Y.calls 76 Try.func108 rfl rfl ?_
 intro ac F0
 have F : Fr ac 76 [(0, Vp t), (1, .slice fa fn fc)] := F0.sub _
 clear F0
 refine Y.seq ?_
 refine Y.lit (by kernel_rfl) ?_
 refine Y.pv F (X.assign rfl (X.kc (Vi 0) rfl)) ?_;clear F ac;intro ac F
 refine Y.nil ?_
 replace F : Fr ac 76 [(0, Vp t), (1, .slice fa fn fc)] := F.sub _
 refine X.thenN ?_
 refine Y.seq ?_
 refine Y.lit (by kernel_rfl) ?_
 refine Y.pv F (X.assign rfl (X.kc (.slice none 0 0) rfl)) ?_;clear F ac;intro ac F
 refine Y.nil ?_
 replace F : Fr ac 76 [(0, Vp t), (1, .slice fa fn fc), (5, .slice none 0 0)] := F.sub _
 refine X.thenN ?_
 refine Y.seq ?_
 refine Y.seq ?_
 refine Y.lit (by kernel_rfl) ?_
 refine Y.pv F (X.move rfl (F.e 1 rfl)) ?_;clear F ac;intro ac F
 refine Y.pv F (X.len1 Try.underlying118 rfl (F.e 9 rfl)) ?_;clear F ac;intro ac F
 refine Y.pv F (X.binop rfl (F.e 10 rfl) (X.kc (Vi 1) rfl) (X.subI Try.underlying3 rfl (by omega) (by omega))) ?_;clear F ac;intro ac F
 refine Y.pv F (X.assign rfl (F.e 11 rfl)) ?_;clear F ac;intro ac F
 refine Y.nil ?_
 replace F : Fr ac 76 [(0, Vp t), (1, .slice fa fn fc), (5, .slice none 0 0), (6, Vi ((fn : Int) - 1))] := F.sub _
 refine X.thenN ?_
 refine Y.block ?_
 refine Y.loop (fun me_ ac wr => ∃ (i : Int) (fi : Fo) (T : Nat → Prop) (st : List Int) (sv : Value), me_ = (i + 1).toNat ∧ -1 ≤ i ∧ i < fn ∧ Only S w wr ∧ (∀ b, T b → Gw S w wr b) ∧ FoAt wr T t fi ∧ OwnR wr w.heap.size 3 1 sv st.length (st.map (Value.int .i64)) ∧ (∀ b, sv.ownBlock = some b → ¬ T b) ∧ (st.length : Int) + i + 1 ≤ fn ∧ Fo.grow m fi ((f.take (i + 1).toNat).reverse) st = some (fo', sf) ∧ Fr ac 76 [(0, Vp t), (1, .slice fa fn fc), (5, sv), (6, Vi i)]) _ ⟨(fn : Int) - 1, fo, S, [], .slice none 0 0, rfl, by omega, by omega, G.only _, fun b e => .inl e, hF.gr G, OwnR.nil _ _ _ _, fun b e => (by cases e), by simp, by rw [show ((fn : Int) - 1 + 1).toNat = f.length by omega]; exact hb0, F.sub _⟩ ?_
 clear F ac G hf
 intro me_ ac w3 hI
 obtain ⟨i, fi, T, st, sv, rfl, hi0, hi1, hOn, hTS, hFl, hO, hOT, hbd, hgl, F⟩ := hI
 have G := Gr.refl w3
 have hf := hf0.onlyAt hOn hdis
 obtain ⟨sa, sc, rfl, hst⟩ := hO.ints (by omega)
 refine Y.seq ?_
 refine Y.seq ?_
 refine Y.lit (by kernel_rfl) ?_
 refine Y.pv F (X.move rfl (F.e 6 rfl)) ?_;clear F ac;intro ac F
 refine Y.pv F (X.binop rfl (F.e 12 rfl) (X.kc (Vi 0) rfl) (X.geqI Try.underlying3 rfl)) ?_;clear F ac;intro ac F
 refine Y.nil ?_
 replace F : Fr ac 76 [(0, Vp t), (1, .slice fa fn fc), (5, .slice sa st.length sc), (6, Vi i), (13, .bool (decide ((0 : Int) ≤ i)))] := F.sub _
 refine X.thenN ?_
 cases h4 : decide ((0 : Int) ≤ i) with
 | false =>
  try rw [h4] at F
  have h4p : ¬ ((0 : Int) ≤ i) := of_decide_eq_false h4
  rw [show (i + 1).toNat = 0 by omega] at hgl
  obtain ⟨e1, e2⟩ := grow_nil hgl
  subst e1
  rw [e2] at hr0
  have hl0 : 0 < st.length := (List.getElem?_eq_some_iff.1 hr0).1
  have er : st[0]?.getD 0 = r := by rw [hr0]; rfl
  refine Y.condF (F.e 13 rfl) ?_
  refine Y.exit ?_
  refine X.thenX ?_
  refine X.thenX ?_
  refine X.blockX ?_
  refine X.thenN ?_
  refine Y.seq ?_
  refine Y.lit (by kernel_rfl) ?_
  refine Y.pv F (X.move rfl (F.e 5 rfl)) ?_;clear F ac;intro ac F
  obtain ⟨pd5, pe5, -, pc5⟩ := hst.at (j := 0) (by omega)
  subst pe5
  have hC : RCells w3 [(pd5.add 0, Vi (st[0]?.getD 0))] := (RCells.cons pc5 (RCells.nil _))
  clear pc5
  refine Y.pval F (X.w0 rfl) rfl (X.index rfl (F.e 73 rfl) (X.kc (Vi 0) rfl) (X.idx (k := 0) Try.underlying26 (Try.siz3 _) (by omega) (by omega) (by rw [Nat.mul_one]))) ?_;clear F ac;intro ac F
  refine Y.pv F (X.load rfl (F.e 74 rfl) (X.ld1 (Try.agg3 _) (hC.at 0 rfl))) ?_;clear F ac;intro ac F
  refine Y.pv F (X.assign rfl (F.e 75 rfl)) ?_;clear F ac;intro ac F
  refine Y.nil ?_
  replace F : Fr ac 76 [(4, Vi (st[0]?.getD 0))] := F.sub _
  refine X.thenN ?_
  refine Y.ret ?_
  exact Y.ret0 (v := Vi (st[0]?.getD 0)) F (Y.rs1 F rfl (by kernel_rfl)) ⟨by rw [er], FoAt.mono hFl hTS (fun b e => e.elim (fun e => by have := hlt b e; have := hOn.size; omega) (fun e => e.2)), hOn⟩
 | true =>
  try rw [h4] at F
  have h4p : ((0 : Int) ≤ i) := of_decide_eq_true h4
  obtain ⟨k, rfl⟩ : ∃ k : Nat, i = k := ⟨i.toNat, by omega⟩
  rw [show ((k : Int) + 1).toNat = k + 1 by omega] at hgl
  obtain ⟨hop, f1, xv, hsg, hg2⟩ := grow_cons (by omega) hgl
  have hop2 := opn_le (f[k]?.getD 0)
  have hopv := opn_val (f[k]?.getD 0)
  refine Y.condT (F.e 13 rfl) ?_
  refine Y.skip ?_
  refine X.thenN ?_
  refine Y.seq ?_
  refine Y.block ?_
  refine Y.seq ?_
  refine Y.lit (by kernel_rfl) ?_
  refine Y.pv F (X.assign rfl (X.kc (Vi 0) rfl)) ?_;clear F ac;intro ac F
  refine Y.nil ?_
  replace F : Fr ac 76 [(0, Vp t), (1, .slice fa fn fc), (5, .slice sa st.length sc), (6, Vi k)] := F.sub _
  refine X.thenN ?_
  refine Y.seq ?_
  refine Y.lit (by kernel_rfl) ?_
  refine Y.pv F (X.move rfl (F.e 5 rfl)) ?_;clear F ac;intro ac F
  refine Y.pv F (X.len1 Try.underlying26 rfl (F.e 16 rfl)) ?_;clear F ac;intro ac F
  refine Y.pv F (X.assign rfl (F.e 17 rfl)) ?_;clear F ac;intro ac F
  refine Y.nil ?_
  replace F : Fr ac 76 [(0, Vp t), (1, .slice fa fn fc), (5, .slice sa st.length sc), (6, Vi k), (8, Vi st.length)] := F.sub _
  refine X.thenN ?_
  refine Y.seqJ (fun ac wr => ∃ T1 : Nat → Prop, Only S w wr ∧ (∀ b, T1 b → Gw S w wr b) ∧ FoAt wr T1 t f1 ∧ OwnR wr w.heap.size 3 1 (.slice sa st.length sc) st.length (st.map (Value.int .i64)) ∧ (∀ b, (Value.slice sa st.length sc).ownBlock = some b → ¬ T1 b) ∧ Fr ac 76 [(0, Vp t), (1, .slice fa fn fc), (5, .slice sa st.length sc), (6, Vi k), (7, Vi xv), (8, Vi st.length)]) ?_ ?_
  ·refine Y.seq ?_
   refine Y.lit (by kernel_rfl) ?_
   refine Y.pv F (X.move rfl (F.e 1 rfl)) ?_;clear F ac;intro ac F
   refine Y.pv F (X.move rfl (F.e 6 rfl)) ?_;clear F ac;intro ac F
   obtain ⟨pd6, pe6, -, pc6⟩ := hf.at (j := k) (by omega)
   subst pe6
   have hC : RCells w3 [(pd6.add k, Vi (f[k]?.getD 0))] := (RCells.cons pc6 (RCells.nil _))
   clear pc6
   refine Y.pval F (X.w0 rfl) rfl (X.index rfl (F.e 18 rfl) (F.e 19 rfl) (X.idx (k := k) Try.underlying118 (Try.siz3 _) (by omega) (by omega) (by rw [Nat.mul_one]))) ?_;clear F ac;intro ac F
   refine Y.pv F (X.load rfl (F.e 20 rfl) (X.ld1 (Try.agg3 _) (hC.at 0 rfl))) ?_;clear F ac;intro ac F
   refine Y.nil ?_
   replace F : Fr ac 76 [(0, Vp t), (1, .slice (some pd6) fn fc), (5, .slice sa st.length sc), (6, Vi k), (8, Vi st.length), (21, Vi (f[k]?.getD 0))] := F.sub _
   refine X.thenN ?_
   refine Y.block ?_
   refine Y.seq ?_
   refine Y.lit (by kernel_rfl) ?_
   refine Y.pv F (X.binop rfl (F.e 21 rfl) (X.kc (Vi (-1)) rfl) (X.eqlI Try.underlying3 rfl)) ?_;clear F ac;intro ac F
   refine Y.pv F (X.assign rfl (F.e 29 rfl)) ?_;clear F ac;intro ac F
   refine Y.nil ?_
   replace F : Fr ac 76 [(0, Vp t), (1, .slice (some pd6) fn fc), (5, .slice sa st.length sc), (6, Vi k), (8, Vi st.length), (21, Vi (f[k]?.getD 0)), (28, .bool ((f[k]?.getD 0 : Int) == (-1)))] := F.sub _
   refine X.thenN ?_
   cases h7 : ((f[k]?.getD 0 : Int) == (-1)) with
   | false =>
    try rw [h7] at F
    have h7p : ¬ (f[k]?.getD 0 : Int) = (-1) := by simpa using h7
    refine Y.condF (F.e 28 rfl) ?_
    refine Y.seq ?_
    refine Y.lit (by kernel_rfl) ?_
    refine Y.pv F (X.binop rfl (F.e 21 rfl) (X.kc (Vi (-2)) rfl) (X.eqlI Try.underlying3 rfl)) ?_;clear F ac;intro ac F
    refine Y.pv F (X.assign rfl (F.e 31 rfl)) ?_;clear F ac;intro ac F
    refine Y.nil ?_
    replace F : Fr ac 76 [(0, Vp t), (1, .slice (some pd6) fn fc), (5, .slice sa st.length sc), (6, Vi k), (8, Vi st.length), (21, Vi (f[k]?.getD 0)), (30, .bool ((f[k]?.getD 0 : Int) == (-2)))] := F.sub _
    refine X.thenN ?_
    cases h8 : ((f[k]?.getD 0 : Int) == (-2)) with
    | false =>
     try rw [h8] at F
     have h8p : ¬ (f[k]?.getD 0 : Int) = (-2) := by simpa using h8
     refine Y.condF (F.e 30 rfl) ?_
     refine Y.seq ?_
     refine Y.lit (by kernel_rfl) ?_
     refine Y.pv F (X.binop rfl (F.e 21 rfl) (X.kc (Vi (-3)) rfl) (X.eqlI Try.underlying3 rfl)) ?_;clear F ac;intro ac F
     refine Y.pv F (X.assign rfl (F.e 33 rfl)) ?_;clear F ac;intro ac F
     refine Y.nil ?_
     replace F : Fr ac 76 [(0, Vp t), (1, .slice (some pd6) fn fc), (5, .slice sa st.length sc), (6, Vi k), (8, Vi st.length), (21, Vi (f[k]?.getD 0)), (32, .bool ((f[k]?.getD 0 : Int) == (-3)))] := F.sub _
     refine X.thenN ?_
     cases h9 : ((f[k]?.getD 0 : Int) == (-3)) with
     | false =>
      try rw [h9] at F
      have h9p : ¬ (f[k]?.getD 0 : Int) = (-3) := by simpa using h9
      refine Y.condF (F.e 32 rfl) ?_
      refine Y.seq ?_
      refine Y.seq ?_
      refine Y.lit (by kernel_rfl) ?_
      refine Y.pv F (X.binop rfl (F.e 21 rfl) (X.kc (Vi (-4)) rfl) (X.eqlI Try.underlying3 rfl)) ?_;clear F ac;intro ac F
      refine Y.pv F (X.assign rfl (F.e 42 rfl)) ?_;clear F ac;intro ac F
      refine Y.nil ?_
      replace F : Fr ac 76 [(0, Vp t), (1, .slice (some pd6) fn fc), (5, .slice sa st.length sc), (6, Vi k), (8, Vi st.length), (21, Vi (f[k]?.getD 0)), (41, .bool ((f[k]?.getD 0 : Int) == (-4)))] := F.sub _
      refine X.thenN ?_
      cases h10 : ((f[k]?.getD 0 : Int) == (-4)) with
      | false =>
       try rw [h10] at F
       have h10p : ¬ (f[k]?.getD 0 : Int) = (-4) := by simpa using h10
       refine Y.condF (F.e 41 rfl) ?_
       refine Y.seq ?_
       refine Y.lit (by kernel_rfl) ?_
       refine Y.pv F (X.binop rfl (F.e 21 rfl) (X.kc (Vi (-5)) rfl) (X.eqlI Try.underlying3 rfl)) ?_;clear F ac;intro ac F
       refine Y.pv F (X.assign rfl (F.e 43 rfl)) ?_;clear F ac;intro ac F
       refine Y.nil ?_
       replace F : Fr ac 76 [(0, Vp t), (1, .slice (some pd6) fn fc), (5, .slice sa st.length sc), (6, Vi k), (8, Vi st.length), (21, Vi (f[k]?.getD 0)), (41, .bool ((f[k]?.getD 0 : Int) == (-5)))] := F.sub _
       refine X.thenN ?_
       cases h11 : ((f[k]?.getD 0 : Int) == (-5)) with
       | false =>
        try rw [h11] at F
        have h11p : ¬ (f[k]?.getD 0 : Int) = (-5) := by simpa using h11
        refine Y.condF (F.e 41 rfl) ?_
        refine Y.lit (by kernel_rfl) ?_
        refine Y.pv F (X.binop rfl (F.e 21 rfl) (X.kc (Vi (-6)) rfl) (X.eqlI Try.underlying3 rfl)) ?_;clear F ac;intro ac F
        refine Y.pv F (X.assign rfl (F.e 44 rfl)) ?_;clear F ac;intro ac F
        refine Y.nil ?_
        replace F : Fr ac 76 [(0, Vp t), (1, .slice (some pd6) fn fc), (5, .slice sa st.length sc), (6, Vi k), (8, Vi st.length), (41, .bool ((f[k]?.getD 0 : Int) == (-6)))] := F.sub _
        refine X.thenN ?_
        cases h12 : ((f[k]?.getD 0 : Int) == (-6)) with
        | false =>
         try rw [h12] at F
         have h12p : ¬ (f[k]?.getD 0 : Int) = (-6) := by simpa using h12
         refine Y.condF (F.e 41 rfl) ?_
         refine Y.lit (by kernel_rfl) ?_
         refine Y.pv F (X.move rfl (F.e 0 rfl)) ?_;clear F ac;intro ac F
         refine Y.pv F (X.move rfl (F.e 1 rfl)) ?_;clear F ac;intro ac F
         refine Y.pv F (X.move rfl (F.e 6 rfl)) ?_;clear F ac;intro ac F
         refine Y.pval F (X.w0 rfl) rfl (X.index rfl (F.e 23 rfl) (F.e 24 rfl) (X.idx (k := k) Try.underlying118 (Try.siz3 _) (by omega) (by omega) (by rw [Nat.mul_one]))) ?_;clear F ac;intro ac F
         refine Y.pv F (X.load rfl (F.e 25 rfl) (X.ld1 (Try.agg3 _) (hC.at 0 rfl))) ?_;clear F ac;intro ac F
         refine Y.pcall F (X.w0 rfl) rfl (X.enter (F := 124) rfl (X.kc (.func (.func 124) #[] #[]) rfl) (X.a3 (F.e 22 rfl) (F.e 26 rfl) (X.kc (.bool true) rfl)) (enters_of Try.func124 (by kernel_rfl) rfl _)) (literal_any t T fi f1 (f[k]?.getD 0) true xv w3 (hFl.gr G) (sg_lit hsg (by omega))) ?_
         clear F ac
         rintro e w13 ⟨rfl, hF1, hon⟩
         refine ⟨_, rfl, ?_⟩
         intro ac F
         obtain ⟨hT1, hS1⟩ := fo_next hOn hTS G hon
         refine Y.pv F (X.assign rfl (F.e 27 rfl)) ?_;clear F ac;intro ac F
         refine Y.nil ?_
         replace F : Fr ac 76 [(0, Vp t), (1, .slice (some pd6) fn fc), (5, .slice sa st.length sc), (6, Vi k), (7, Vi xv), (8, Vi st.length)] := F.sub _
         refine X.blockN ?_
         refine X.thenN ?_
         exact ⟨_, hT1, hS1, hF1, hO.only hon (fun b e => hOT b e), fun b e h => h.elim (hOT b e) (fun h => by have := (hO.ge e).2; omega), F.sub _⟩
        | true =>
         try rw [h12] at F
         have h12p : (f[k]?.getD 0 : Int) = (-6) := by simpa using h12
         refine Y.condT (F.e 41 rfl) ?_
         obtain ⟨pd14, pe14, -, pc14⟩ := hst.at (j := (st.length - 1)) (by omega)
         subst pe14
         replace hC : RCells w3 [(pd6.add k, Vi (f[k]?.getD 0)), (pd14.add (st.length - 1), Vi (st[(st.length - 1)]?.getD 0))] := hC.append ((RCells.cons pc14 (RCells.nil _)))
         clear pc14
         obtain ⟨pd15, pe15, -, pc15⟩ := hst.at (j := (st.length - 2)) (by omega)
         injection pe15 with pe15
         subst pe15
         replace hC : RCells w3 [(pd6.add k, Vi (f[k]?.getD 0)), (pd14.add (st.length - 1), Vi (st[(st.length - 1)]?.getD 0)), (pd14.add (st.length - 2), Vi (st[(st.length - 2)]?.getD 0))] := hC.append ((RCells.cons pc15 (RCells.nil _)))
         clear pc15
         refine region_xi F [some (Vp t), some (.slice (some pd6) fn fc), some (Vi k), some (.pointer (some (pd6.add k))), some (Vi (f[k]?.getD 0)), some (.slice (some pd14) st.length sc), some (Vi st.length), some (Vi ((st.length : Int) - 1)), some (.pointer (some (pd14.add (st.length - 1)))), some (Vi (st[(st.length - 1)]?.getD 0)), some (.slice (some pd14) st.length sc), some (Vi st.length), some (Vi ((st.length : Int) - 2)), some (.pointer (some (pd14.add (st.length - 2)))), some (Vi (st[(st.length - 2)]?.getD 0)), some (Vi xv), some (Vi xv)] (RC1 w3 15 (fun W => ∃ wc, Gr w3 wc ∧ Only T wc W ∧ FoAt W (Gw T wc W) t f1)) rfl ⟨by kernel_rfl, of_decide_eq_true (by kernel_rfl), by kernel_rfl, by kernel_rfl, by kernel_rfl⟩ (fun _ => ⟨RC1.start (Gr.refl _), RC1.start (Gr.drew _)⟩) ⟨?_, ?_, ?_, ?_, ?_, ?_, ?_, ?_, ?_, ?_, ?_, ?_, ?_, ?_, ?_, ?_, ?_, trivial⟩ ?_
         ·intro ac done u W Sx hR
          exact X.vl (X.move rfl (Sx.ev 0 (Vp t))) (hR.quiet (by decide))
         ·intro ac done u W Sx hR
          exact X.vl (X.move rfl (Sx.ev 1 (.slice (some pd6) fn fc))) (hR.quiet (by decide))
         ·intro ac done u W Sx hR
          exact X.vl (X.move rfl (Sx.ev 6 (Vi k))) (hR.quiet (by decide))
         ·intro ac done u W Sx hR
          exact X.val (X.w0 rfl) rfl (X.index rfl (Sx.ev 46 (.slice (some pd6) fn fc)) (Sx.ev 47 (Vi k)) (X.idx (k := k) Try.underlying118 (Try.siz3 _) (by omega) (by omega) (by rw [Nat.mul_one]))) (hR.quiet (by decide))
         ·intro ac done u W Sx hR
          have g : Gr w3 W := hR.g (Sx.no 15 (by kernel_rfl))
          exact X.vl (X.load rfl (Sx.ev 48 (.pointer (some (pd6.add k)))) (X.ld1 (Try.agg3 _) ((hC.gr g).at 0 rfl))) (hR.quiet (by decide))
         ·intro ac done u W Sx hR
          exact X.vl (X.move rfl (Sx.ev 5 (.slice (some pd14) st.length sc))) (hR.quiet (by decide))
         ·intro ac done u W Sx hR
          exact X.vl (X.move rfl (Sx.ev 8 (Vi st.length))) (hR.quiet (by decide))
         ·intro ac done u W Sx hR
          exact X.vl (X.binop rfl (Sx.ev 51 (Vi st.length)) (X.kc (Vi 1) rfl) (X.subI Try.underlying3 rfl (by omega) (by omega))) (hR.quiet (by decide))
         ·intro ac done u W Sx hR
          exact X.val (X.w0 rfl) rfl (X.index rfl (Sx.ev 50 (.slice (some pd14) st.length sc)) (Sx.ev 52 (Vi ((st.length : Int) - 1))) (X.idx (k := (st.length - 1)) Try.underlying26 (Try.siz3 _) (by omega) (by omega) (by rw [Nat.mul_one]))) (hR.quiet (by decide))
         ·intro ac done u W Sx hR
          have g : Gr w3 W := hR.g (Sx.no 15 (by kernel_rfl))
          exact X.vl (X.load rfl (Sx.ev 53 (.pointer (some (pd14.add (st.length - 1))))) (X.ld1 (Try.agg3 _) ((hC.gr g).at 1 rfl))) (hR.quiet (by decide))
         ·intro ac done u W Sx hR
          exact X.vl (X.move rfl (Sx.ev 5 (.slice (some pd14) st.length sc))) (hR.quiet (by decide))
         ·intro ac done u W Sx hR
          exact X.vl (X.move rfl (Sx.ev 8 (Vi st.length))) (hR.quiet (by decide))
         ·intro ac done u W Sx hR
          exact X.vl (X.binop rfl (Sx.ev 56 (Vi st.length)) (X.kc (Vi 2) rfl) (X.subI Try.underlying3 rfl (by omega) (by omega))) (hR.quiet (by decide))
         ·intro ac done u W Sx hR
          exact X.val (X.w0 rfl) rfl (X.index rfl (Sx.ev 55 (.slice (some pd14) st.length sc)) (Sx.ev 57 (Vi ((st.length : Int) - 2))) (X.idx (k := (st.length - 2)) Try.underlying26 (Try.siz3 _) (by omega) (by omega) (by rw [Nat.mul_one]))) (hR.quiet (by decide))
         ·intro ac done u W Sx hR
          have g : Gr w3 W := hR.g (Sx.no 15 (by kernel_rfl))
          exact X.vl (X.load rfl (Sx.ev 58 (.pointer (some (pd14.add (st.length - 2))))) (X.ld1 (Try.agg3 _) ((hC.gr g).at 2 rfl))) (hR.quiet (by decide))
         ·intro ac done u W Sx hR
          have g : Gr w3 W := hR.g Sx.nd
          refine X.call (X.w0 rfl) (X.enter (F := 122) rfl (X.kc (.func (.func 122) #[] #[]) rfl) (X.a4 (Sx.ev 45 (Vp t)) (Sx.ev 49 (Vi (f[k]?.getD 0))) (Sx.ev 54 (Vi (st[(st.length - 1)]?.getD 0))) (Sx.ev 59 (Vi (st[(st.length - 2)]?.getD 0)))) (enters_of Try.func122 (by kernel_rfl) rfl _)) (join_any m t T fi f1 (f[k]?.getD 0) (st[(st.length - 1)]?.getD 0) (st[(st.length - 2)]?.getD 0) xv W (hFl.gr (G.trans g)) (sg_join hsg (by omega))) ?_
          rintro e W2 ⟨rfl, hF1, hon⟩
          exact ⟨_, rfl, X.kn rfl, RC1.sa ⟨W, g, hon, hF1⟩⟩
         ·intro ac done u W Sx hR
          exact X.vl (X.assign rfl (Sx.ev 60 (Vi xv))) (hR.quiet (by decide))
         rintro ac u w16 hs hd hl_ ho hR
         obtain ⟨wc, gc, hon, hF1⟩ := hR.q rfl
         obtain ⟨hT1, hS1⟩ := fo_next hOn hTS (G.trans gc) hon
         replace hO := hO.gr gc
         replace F : Fr ac 76 [(0, Vp t), (1, .slice (some pd6) fn fc), (5, .slice (some pd14) st.length sc), (6, Vi k), (7, Vi xv), (8, Vi st.length)] := X.fr hs hd hl_ _ (by kernel_rfl)
         clear hs hd hl_ ho hR
         refine X.blockN ?_
         refine X.thenN ?_
         exact ⟨_, hT1, hS1, hF1, hO.only hon (fun b e => hOT b e), fun b e h => h.elim (hOT b e) (fun h => by have := (hO.ge e).2; omega), F.sub _⟩
       | true =>
        try rw [h11] at F
        have h11p : (f[k]?.getD 0 : Int) = (-5) := by simpa using h11
        refine Y.condT (F.e 41 rfl) ?_
        refine Y.skip ?_
        refine X.thenN ?_
        refine Y.condT (F.e 41 rfl) ?_
        obtain ⟨pd17, pe17, -, pc17⟩ := hst.at (j := (st.length - 1)) (by omega)
        subst pe17
        replace hC : RCells w3 [(pd6.add k, Vi (f[k]?.getD 0)), (pd17.add (st.length - 1), Vi (st[(st.length - 1)]?.getD 0))] := hC.append ((RCells.cons pc17 (RCells.nil _)))
        clear pc17
        obtain ⟨pd18, pe18, -, pc18⟩ := hst.at (j := (st.length - 2)) (by omega)
        injection pe18 with pe18
        subst pe18
        replace hC : RCells w3 [(pd6.add k, Vi (f[k]?.getD 0)), (pd17.add (st.length - 1), Vi (st[(st.length - 1)]?.getD 0)), (pd17.add (st.length - 2), Vi (st[(st.length - 2)]?.getD 0))] := hC.append ((RCells.cons pc18 (RCells.nil _)))
        clear pc18
        refine region_xi F [some (Vp t), some (.slice (some pd6) fn fc), some (Vi k), some (.pointer (some (pd6.add k))), some (Vi (f[k]?.getD 0)), some (.slice (some pd17) st.length sc), some (Vi st.length), some (Vi ((st.length : Int) - 1)), some (.pointer (some (pd17.add (st.length - 1)))), some (Vi (st[(st.length - 1)]?.getD 0)), some (.slice (some pd17) st.length sc), some (Vi st.length), some (Vi ((st.length : Int) - 2)), some (.pointer (some (pd17.add (st.length - 2)))), some (Vi (st[(st.length - 2)]?.getD 0)), some (Vi xv), some (Vi xv)] (RC1 w3 15 (fun W => ∃ wc, Gr w3 wc ∧ Only T wc W ∧ FoAt W (Gw T wc W) t f1)) rfl ⟨by kernel_rfl, of_decide_eq_true (by kernel_rfl), by kernel_rfl, by kernel_rfl, by kernel_rfl⟩ (fun _ => ⟨RC1.start (Gr.refl _), RC1.start (Gr.drew _)⟩) ⟨?_, ?_, ?_, ?_, ?_, ?_, ?_, ?_, ?_, ?_, ?_, ?_, ?_, ?_, ?_, ?_, ?_, trivial⟩ ?_
        ·intro ac done u W Sx hR
         exact X.vl (X.move rfl (Sx.ev 0 (Vp t))) (hR.quiet (by decide))
        ·intro ac done u W Sx hR
         exact X.vl (X.move rfl (Sx.ev 1 (.slice (some pd6) fn fc))) (hR.quiet (by decide))
        ·intro ac done u W Sx hR
         exact X.vl (X.move rfl (Sx.ev 6 (Vi k))) (hR.quiet (by decide))
        ·intro ac done u W Sx hR
         exact X.val (X.w0 rfl) rfl (X.index rfl (Sx.ev 46 (.slice (some pd6) fn fc)) (Sx.ev 47 (Vi k)) (X.idx (k := k) Try.underlying118 (Try.siz3 _) (by omega) (by omega) (by rw [Nat.mul_one]))) (hR.quiet (by decide))
        ·intro ac done u W Sx hR
         have g : Gr w3 W := hR.g (Sx.no 15 (by kernel_rfl))
         exact X.vl (X.load rfl (Sx.ev 48 (.pointer (some (pd6.add k)))) (X.ld1 (Try.agg3 _) ((hC.gr g).at 0 rfl))) (hR.quiet (by decide))
        ·intro ac done u W Sx hR
         exact X.vl (X.move rfl (Sx.ev 5 (.slice (some pd17) st.length sc))) (hR.quiet (by decide))
        ·intro ac done u W Sx hR
         exact X.vl (X.move rfl (Sx.ev 8 (Vi st.length))) (hR.quiet (by decide))
        ·intro ac done u W Sx hR
         exact X.vl (X.binop rfl (Sx.ev 51 (Vi st.length)) (X.kc (Vi 1) rfl) (X.subI Try.underlying3 rfl (by omega) (by omega))) (hR.quiet (by decide))
        ·intro ac done u W Sx hR
         exact X.val (X.w0 rfl) rfl (X.index rfl (Sx.ev 50 (.slice (some pd17) st.length sc)) (Sx.ev 52 (Vi ((st.length : Int) - 1))) (X.idx (k := (st.length - 1)) Try.underlying26 (Try.siz3 _) (by omega) (by omega) (by rw [Nat.mul_one]))) (hR.quiet (by decide))
        ·intro ac done u W Sx hR
         have g : Gr w3 W := hR.g (Sx.no 15 (by kernel_rfl))
         exact X.vl (X.load rfl (Sx.ev 53 (.pointer (some (pd17.add (st.length - 1))))) (X.ld1 (Try.agg3 _) ((hC.gr g).at 1 rfl))) (hR.quiet (by decide))
        ·intro ac done u W Sx hR
         exact X.vl (X.move rfl (Sx.ev 5 (.slice (some pd17) st.length sc))) (hR.quiet (by decide))
        ·intro ac done u W Sx hR
         exact X.vl (X.move rfl (Sx.ev 8 (Vi st.length))) (hR.quiet (by decide))
        ·intro ac done u W Sx hR
         exact X.vl (X.binop rfl (Sx.ev 56 (Vi st.length)) (X.kc (Vi 2) rfl) (X.subI Try.underlying3 rfl (by omega) (by omega))) (hR.quiet (by decide))
        ·intro ac done u W Sx hR
         exact X.val (X.w0 rfl) rfl (X.index rfl (Sx.ev 55 (.slice (some pd17) st.length sc)) (Sx.ev 57 (Vi ((st.length : Int) - 2))) (X.idx (k := (st.length - 2)) Try.underlying26 (Try.siz3 _) (by omega) (by omega) (by rw [Nat.mul_one]))) (hR.quiet (by decide))
        ·intro ac done u W Sx hR
         have g : Gr w3 W := hR.g (Sx.no 15 (by kernel_rfl))
         exact X.vl (X.load rfl (Sx.ev 58 (.pointer (some (pd17.add (st.length - 2))))) (X.ld1 (Try.agg3 _) ((hC.gr g).at 2 rfl))) (hR.quiet (by decide))
        ·intro ac done u W Sx hR
         have g : Gr w3 W := hR.g Sx.nd
         refine X.call (X.w0 rfl) (X.enter (F := 122) rfl (X.kc (.func (.func 122) #[] #[]) rfl) (X.a4 (Sx.ev 45 (Vp t)) (Sx.ev 49 (Vi (f[k]?.getD 0))) (Sx.ev 54 (Vi (st[(st.length - 1)]?.getD 0))) (Sx.ev 59 (Vi (st[(st.length - 2)]?.getD 0)))) (enters_of Try.func122 (by kernel_rfl) rfl _)) (join_any m t T fi f1 (f[k]?.getD 0) (st[(st.length - 1)]?.getD 0) (st[(st.length - 2)]?.getD 0) xv W (hFl.gr (G.trans g)) (sg_join hsg (by omega))) ?_
         rintro e W2 ⟨rfl, hF1, hon⟩
         exact ⟨_, rfl, X.kn rfl, RC1.sa ⟨W, g, hon, hF1⟩⟩
        ·intro ac done u W Sx hR
         exact X.vl (X.assign rfl (Sx.ev 60 (Vi xv))) (hR.quiet (by decide))
        rintro ac u w19 hs hd hl_ ho hR
        obtain ⟨wc, gc, hon, hF1⟩ := hR.q rfl
        obtain ⟨hT1, hS1⟩ := fo_next hOn hTS (G.trans gc) hon
        replace hO := hO.gr gc
        replace F : Fr ac 76 [(0, Vp t), (1, .slice (some pd6) fn fc), (5, .slice (some pd17) st.length sc), (6, Vi k), (7, Vi xv), (8, Vi st.length)] := X.fr hs hd hl_ _ (by kernel_rfl)
        clear hs hd hl_ ho hR
        refine X.blockN ?_
        refine X.thenN ?_
        exact ⟨_, hT1, hS1, hF1, hO.only hon (fun b e => hOT b e), fun b e h => h.elim (hOT b e) (fun h => by have := (hO.ge e).2; omega), F.sub _⟩
      | true =>
       try rw [h10] at F
       have h10p : (f[k]?.getD 0 : Int) = (-4) := by simpa using h10
       refine Y.condT (F.e 41 rfl) ?_
       refine Y.skip ?_
       refine X.thenN ?_
       refine Y.condT (F.e 41 rfl) ?_
       obtain ⟨pd20, pe20, -, pc20⟩ := hst.at (j := (st.length - 1)) (by omega)
       subst pe20
       replace hC : RCells w3 [(pd6.add k, Vi (f[k]?.getD 0)), (pd20.add (st.length - 1), Vi (st[(st.length - 1)]?.getD 0))] := hC.append ((RCells.cons pc20 (RCells.nil _)))
       clear pc20
       obtain ⟨pd21, pe21, -, pc21⟩ := hst.at (j := (st.length - 2)) (by omega)
       injection pe21 with pe21
       subst pe21
       replace hC : RCells w3 [(pd6.add k, Vi (f[k]?.getD 0)), (pd20.add (st.length - 1), Vi (st[(st.length - 1)]?.getD 0)), (pd20.add (st.length - 2), Vi (st[(st.length - 2)]?.getD 0))] := hC.append ((RCells.cons pc21 (RCells.nil _)))
       clear pc21
       refine region_xi F [some (Vp t), some (.slice (some pd6) fn fc), some (Vi k), some (.pointer (some (pd6.add k))), some (Vi (f[k]?.getD 0)), some (.slice (some pd20) st.length sc), some (Vi st.length), some (Vi ((st.length : Int) - 1)), some (.pointer (some (pd20.add (st.length - 1)))), some (Vi (st[(st.length - 1)]?.getD 0)), some (.slice (some pd20) st.length sc), some (Vi st.length), some (Vi ((st.length : Int) - 2)), some (.pointer (some (pd20.add (st.length - 2)))), some (Vi (st[(st.length - 2)]?.getD 0)), some (Vi xv), some (Vi xv)] (RC1 w3 15 (fun W => ∃ wc, Gr w3 wc ∧ Only T wc W ∧ FoAt W (Gw T wc W) t f1)) rfl ⟨by kernel_rfl, of_decide_eq_true (by kernel_rfl), by kernel_rfl, by kernel_rfl, by kernel_rfl⟩ (fun _ => ⟨RC1.start (Gr.refl _), RC1.start (Gr.drew _)⟩) ⟨?_, ?_, ?_, ?_, ?_, ?_, ?_, ?_, ?_, ?_, ?_, ?_, ?_, ?_, ?_, ?_, ?_, trivial⟩ ?_
       ·intro ac done u W Sx hR
        exact X.vl (X.move rfl (Sx.ev 0 (Vp t))) (hR.quiet (by decide))
       ·intro ac done u W Sx hR
        exact X.vl (X.move rfl (Sx.ev 1 (.slice (some pd6) fn fc))) (hR.quiet (by decide))
       ·intro ac done u W Sx hR
        exact X.vl (X.move rfl (Sx.ev 6 (Vi k))) (hR.quiet (by decide))
       ·intro ac done u W Sx hR
        exact X.val (X.w0 rfl) rfl (X.index rfl (Sx.ev 46 (.slice (some pd6) fn fc)) (Sx.ev 47 (Vi k)) (X.idx (k := k) Try.underlying118 (Try.siz3 _) (by omega) (by omega) (by rw [Nat.mul_one]))) (hR.quiet (by decide))
       ·intro ac done u W Sx hR
        have g : Gr w3 W := hR.g (Sx.no 15 (by kernel_rfl))
        exact X.vl (X.load rfl (Sx.ev 48 (.pointer (some (pd6.add k)))) (X.ld1 (Try.agg3 _) ((hC.gr g).at 0 rfl))) (hR.quiet (by decide))
       ·intro ac done u W Sx hR
        exact X.vl (X.move rfl (Sx.ev 5 (.slice (some pd20) st.length sc))) (hR.quiet (by decide))
       ·intro ac done u W Sx hR
        exact X.vl (X.move rfl (Sx.ev 8 (Vi st.length))) (hR.quiet (by decide))
       ·intro ac done u W Sx hR
        exact X.vl (X.binop rfl (Sx.ev 51 (Vi st.length)) (X.kc (Vi 1) rfl) (X.subI Try.underlying3 rfl (by omega) (by omega))) (hR.quiet (by decide))
       ·intro ac done u W Sx hR
        exact X.val (X.w0 rfl) rfl (X.index rfl (Sx.ev 50 (.slice (some pd20) st.length sc)) (Sx.ev 52 (Vi ((st.length : Int) - 1))) (X.idx (k := (st.length - 1)) Try.underlying26 (Try.siz3 _) (by omega) (by omega) (by rw [Nat.mul_one]))) (hR.quiet (by decide))
       ·intro ac done u W Sx hR
        have g : Gr w3 W := hR.g (Sx.no 15 (by kernel_rfl))
        exact X.vl (X.load rfl (Sx.ev 53 (.pointer (some (pd20.add (st.length - 1))))) (X.ld1 (Try.agg3 _) ((hC.gr g).at 1 rfl))) (hR.quiet (by decide))
       ·intro ac done u W Sx hR
        exact X.vl (X.move rfl (Sx.ev 5 (.slice (some pd20) st.length sc))) (hR.quiet (by decide))
       ·intro ac done u W Sx hR
        exact X.vl (X.move rfl (Sx.ev 8 (Vi st.length))) (hR.quiet (by decide))
       ·intro ac done u W Sx hR
        exact X.vl (X.binop rfl (Sx.ev 56 (Vi st.length)) (X.kc (Vi 2) rfl) (X.subI Try.underlying3 rfl (by omega) (by omega))) (hR.quiet (by decide))
       ·intro ac done u W Sx hR
        exact X.val (X.w0 rfl) rfl (X.index rfl (Sx.ev 55 (.slice (some pd20) st.length sc)) (Sx.ev 57 (Vi ((st.length : Int) - 2))) (X.idx (k := (st.length - 2)) Try.underlying26 (Try.siz3 _) (by omega) (by omega) (by rw [Nat.mul_one]))) (hR.quiet (by decide))
       ·intro ac done u W Sx hR
        have g : Gr w3 W := hR.g (Sx.no 15 (by kernel_rfl))
        exact X.vl (X.load rfl (Sx.ev 58 (.pointer (some (pd20.add (st.length - 2))))) (X.ld1 (Try.agg3 _) ((hC.gr g).at 2 rfl))) (hR.quiet (by decide))
       ·intro ac done u W Sx hR
        have g : Gr w3 W := hR.g Sx.nd
        refine X.call (X.w0 rfl) (X.enter (F := 122) rfl (X.kc (.func (.func 122) #[] #[]) rfl) (X.a4 (Sx.ev 45 (Vp t)) (Sx.ev 49 (Vi (f[k]?.getD 0))) (Sx.ev 54 (Vi (st[(st.length - 1)]?.getD 0))) (Sx.ev 59 (Vi (st[(st.length - 2)]?.getD 0)))) (enters_of Try.func122 (by kernel_rfl) rfl _)) (join_any m t T fi f1 (f[k]?.getD 0) (st[(st.length - 1)]?.getD 0) (st[(st.length - 2)]?.getD 0) xv W (hFl.gr (G.trans g)) (sg_join hsg (by omega))) ?_
        rintro e W2 ⟨rfl, hF1, hon⟩
        exact ⟨_, rfl, X.kn rfl, RC1.sa ⟨W, g, hon, hF1⟩⟩
       ·intro ac done u W Sx hR
        exact X.vl (X.assign rfl (Sx.ev 60 (Vi xv))) (hR.quiet (by decide))
       rintro ac u w22 hs hd hl_ ho hR
       obtain ⟨wc, gc, hon, hF1⟩ := hR.q rfl
       obtain ⟨hT1, hS1⟩ := fo_next hOn hTS (G.trans gc) hon
       replace hO := hO.gr gc
       replace F : Fr ac 76 [(0, Vp t), (1, .slice (some pd6) fn fc), (5, .slice (some pd20) st.length sc), (6, Vi k), (7, Vi xv), (8, Vi st.length)] := X.fr hs hd hl_ _ (by kernel_rfl)
       clear hs hd hl_ ho hR
       refine X.blockN ?_
       refine X.thenN ?_
       exact ⟨_, hT1, hS1, hF1, hO.only hon (fun b e => hOT b e), fun b e h => h.elim (hOT b e) (fun h => by have := (hO.ge e).2; omega), F.sub _⟩
     | true =>
      try rw [h9] at F
      have h9p : (f[k]?.getD 0 : Int) = (-3) := by simpa using h9
      refine Y.condT (F.e 32 rfl) ?_
      refine Y.lit (by kernel_rfl) ?_
      refine Y.pv F (X.move rfl (F.e 0 rfl)) ?_;clear F ac;intro ac F
      refine Y.pv F (X.move rfl (F.e 5 rfl)) ?_;clear F ac;intro ac F
      refine Y.pv F (X.move rfl (F.e 8 rfl)) ?_;clear F ac;intro ac F
      refine Y.pv F (X.binop rfl (F.e 36 rfl) (X.kc (Vi 1) rfl) (X.subI Try.underlying3 rfl (by omega) (by omega))) ?_;clear F ac;intro ac F
      obtain ⟨pd23, pe23, -, pc23⟩ := hst.at (j := (st.length - 1)) (by omega)
      subst pe23
      replace hC : RCells w3 [(pd6.add k, Vi (f[k]?.getD 0)), (pd23.add (st.length - 1), Vi (st[(st.length - 1)]?.getD 0))] := hC.append ((RCells.cons pc23 (RCells.nil _)))
      clear pc23
      refine Y.pval F (X.w0 rfl) rfl (X.index rfl (F.e 35 rfl) (F.e 37 rfl) (X.idx (k := (st.length - 1)) Try.underlying26 (Try.siz3 _) (by omega) (by omega) (by rw [Nat.mul_one]))) ?_;clear F ac;intro ac F
      refine Y.pv F (X.load rfl (F.e 38 rfl) (X.ld1 (Try.agg3 _) (hC.at 1 rfl))) ?_;clear F ac;intro ac F
      refine Y.pcall F (X.w0 rfl) rfl (X.enter (F := 123) rfl (X.kc (.func (.func 123) #[] #[]) rfl) (X.a2 (F.e 34 rfl) (F.e 39 rfl)) (enters_of Try.func123 (by kernel_rfl) rfl _)) (not_any m t T fi f1 (st[(st.length - 1)]?.getD 0) xv w3 (hFl.gr G) (sg_not hsg (by omega))) ?_
      clear F ac
      rintro e w24 ⟨rfl, hF1, hon⟩
      refine ⟨_, rfl, ?_⟩
      intro ac F
      obtain ⟨hT1, hS1⟩ := fo_next hOn hTS G hon
      refine Y.pv F (X.assign rfl (F.e 40 rfl)) ?_;clear F ac;intro ac F
      refine Y.nil ?_
      replace F : Fr ac 76 [(0, Vp t), (1, .slice (some pd6) fn fc), (5, .slice (some pd23) st.length sc), (6, Vi k), (7, Vi xv), (8, Vi st.length)] := F.sub _
      refine X.blockN ?_
      refine X.thenN ?_
      exact ⟨_, hT1, hS1, hF1, hO.only hon (fun b e => hOT b e), fun b e h => h.elim (hOT b e) (fun h => by have := (hO.ge e).2; omega), F.sub _⟩
    | true =>
     try rw [h8] at F
     have h8p : (f[k]?.getD 0 : Int) = (-2) := by simpa using h8
     refine Y.condT (F.e 30 rfl) ?_
     refine Y.lit (by kernel_rfl) ?_
     refine Y.pv F (X.assign rfl (X.kc (Vi 0) rfl)) ?_;clear F ac;intro ac F
     refine Y.nil ?_
     replace F : Fr ac 76 [(0, Vp t), (1, .slice (some pd6) fn fc), (5, .slice sa st.length sc), (6, Vi k), (7, Vi 0), (8, Vi st.length)] := F.sub _
     refine X.blockN ?_
     refine X.thenN ?_
     obtain ⟨e1, e2⟩ := sg_end hsg (by omega)
     subst e1
     exact ⟨T, hOn, hTS, hFl, hO, hOT, by rw [e2]; simp only [h7p, h8p]; exact F.sub _⟩
   | true =>
    try rw [h7] at F
    have h7p : (f[k]?.getD 0 : Int) = (-1) := by simpa using h7
    refine Y.condT (F.e 28 rfl) ?_
    refine Y.lit (by kernel_rfl) ?_
    refine Y.pv F (X.assign rfl (X.kc (Vi 1) rfl)) ?_;clear F ac;intro ac F
    refine Y.nil ?_
    replace F : Fr ac 76 [(0, Vp t), (1, .slice (some pd6) fn fc), (5, .slice sa st.length sc), (6, Vi k), (7, Vi 1), (8, Vi st.length)] := F.sub _
    refine X.blockN ?_
    refine X.thenN ?_
    obtain ⟨e1, e2⟩ := sg_end hsg (by omega)
    subst e1
    exact ⟨T, hOn, hTS, hFl, hO, hOT, by rw [e2]; simp only [h4p, h7p]; exact F.sub _⟩
  ·clear F ac
   rintro ac w25 ⟨T1, hT1, hS1, hF1, hO1, hOT1, F⟩
   clear hf hst G
   have G := Gr.refl w25
   have hf := hf0.onlyAt hT1 hdis
   have hcap := OwnR.capN hO1
   refine Y.lit (by kernel_rfl) ?_
   refine Y.pv F (X.move rfl (F.e 5 rfl)) ?_;clear F ac;intro ac F
   refine Y.pv F (X.move rfl (F.e 8 rfl)) ?_;clear F ac;intro ac F
   refine Y.pv F (X.move rfl (F.e 1 rfl)) ?_;clear F ac;intro ac F
   refine Y.pv F (X.move rfl (F.e 6 rfl)) ?_;clear F ac;intro ac F
   obtain ⟨pd26, pe26, -, pc26⟩ := hf.at (j := k) (by omega)
   subst pe26
   have hC : RCells w25 [(pd26.add k, Vi (f[k]?.getD 0))] := (RCells.cons pc26 (RCells.nil _))
   clear pc26
   refine Y.pval F (X.w0 rfl) rfl (X.index rfl (F.e 63 rfl) (F.e 64 rfl) (X.idx (k := k) Try.underlying118 (Try.siz3 _) (by omega) (by omega) (by rw [Nat.mul_one]))) ?_;clear F ac;intro ac F
   refine Y.pv F (X.load rfl (F.e 65 rfl) (X.ld1 (Try.agg3 _) (hC.at 0 rfl))) ?_;clear F ac;intro ac F
   refine Y.pcall F (X.w0 rfl) rfl (X.enter (F := 125) rfl (X.kc (.func (.func 125) #[] #[]) rfl) (X.a1 (F.e 66 rfl)) (enters_of Try.func125 (by kernel_rfl) rfl _)) (operands_any (f[k]?.getD 0) w25) ?_
   clear F ac
   rintro e w' ⟨rfl, hw_⟩
   obtain rfl : w25 = w' := hw_.symm
   clear hw_
   refine ⟨_, rfl, ?_⟩
   intro ac F
   refine Y.pv F (X.binop rfl (F.e 62 rfl) (F.e 67 rfl) (X.subI Try.underlying3 rfl (by omega) (by omega))) ?_;clear F ac;intro ac F
   refine Y.pv F (Y.slH (k := (st.length - opn (f[k]?.getD 0))) rfl (F.e 61 rfl) (F.e 68 rfl) Try.underlying26 (Try.siz3 _) (by omega) (by omega)) ?_;clear F ac;intro ac F
   refine Y.pv F (X.move rfl (F.e 7 rfl)) ?_;clear F ac;intro ac F
   refine Y.pv F (X.bs rfl (X.b1 (F.e 70 rfl)) (Try.bs34_1 xv _)) ?_;clear F ac;intro ac F
   have g := Gr.alloc w25 (.cells #[Vi xv] 3)
   have hb := heap_alloc_new w25 (.cells #[Vi xv] 3)
   have hbl : w25.heap.size < (w25.alloc (.cells #[Vi xv] 3)).heap.size := by simp
   have hC2 : RCells (w25.alloc (.cells #[Vi xv] 3)) [(pd26.add k, Vi (f[k]?.getD 0)), (Ad w25.heap.size 0, Vi xv)] := hC.box (b := w25.heap.size) #[Vi xv] 3 rfl
   generalize w25.alloc (.cells #[Vi xv] 3) = w27 at *
   replace G := G.trans g
   replace hC := hC2
   clear hC2
   replace hf := hf.gr g
   have hg9 := hb
   clear g hb hbl
   have hOk := (hO1.gr G).takeN (m := st.length - opn (f[k]?.getD 0)) (by omega)
   refine Y.wpL_plain rfl fun _ hK => wp_pushV Try.underlying26 Try.info3 rfl (by decide) rfl (F.e 69 rfl) (F.e 71 rfl) hOk (m := 1) (news := [Vi xv]) rfl (cells_at (vs := [Vi xv]) hg9) rfl (by omega) (by decide) (Nat.le_trans hT1.size G.size) (fun v2 w28 hO3 hon3 hat3 => hK _ _ ?_)
   refine Y.pput F rfl ?_;clear F ac;intro ac F
   clear hK hg9
   refine Y.pv F (X.assign rfl (F.e 72 rfl)) ?_;clear F ac;intro ac F
   refine Y.nil ?_
   replace F : Fr ac 76 [(0, Vp t), (1, .slice (some pd26) fn fc), (5, v2), (6, Vi k)] := F.sub _
   refine X.blockN ?_
   refine X.thenN ?_
   refine Y.lit (by kernel_rfl) ?_
   refine Y.pv F (X.move rfl (F.e 6 rfl)) ?_;clear F ac;intro ac F
   refine Y.pv F (X.binop rfl (F.e 14 rfl) (X.kc (Vi 1) rfl) (X.subI Try.underlying3 rfl (by omega) (by omega))) ?_;clear F ac;intro ac F
   refine Y.pv F (X.assign rfl (F.e 15 rfl)) ?_;clear F ac;intro ac F
   refine Y.nil ?_
   replace F : Fr ac 76 [(0, Vp t), (1, .slice (some pd26) fn fc), (5, v2), (6, Vi ((k : Int) - 1))] := F.sub _
   obtain ⟨hT2, hS2, hF2, hOT2⟩ := grow_next hT1 hS1 hF1 G hO1 hOT1 hon3 hat3
   have hl2 : (st.take (st.length - opn (f[k]?.getD 0)) ++ [xv]).length = st.length - opn (f[k]?.getD 0) + 1 := by simp
   refine X.thenN ?_
   refine ⟨_, ?_, (k : Int) - 1, f1, T1, st.take (st.length - opn (f[k]?.getD 0)) ++ [xv], v2, rfl, by omega, by omega, hT2, hS2, hF2, by rw [hl2]; simpa [List.map_take] using hO3, hOT2, by rw [hl2]; omega, by rw [show ((k : Int) - 1 + 1).toNat = k by omega]; exact hg2, F.sub _⟩
   omega
end
end Go.Proofs.Ytaidcocjcidggaa
