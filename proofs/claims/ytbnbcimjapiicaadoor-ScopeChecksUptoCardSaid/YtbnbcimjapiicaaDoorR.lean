/- May, of the program and (in parts) of the chapter. -/
import Derived.Test.YtbnbcimjapiicaaDoorQ
set_option linter.unusedVariables false
set_option linter.unusedSimpArgs false
set_option maxRecDepth 4000
namespace Go.Proofs.YtbnbcimjapiicaaDoor.Tr
open Go Go.X Go.RowKit Go.Proofs.YtbnbcimjapiicaaDoor.XF Go.Proofs.YtbnbcimjapiicaaDoor.XK

/-- A program's tree. -/
structure Pr where
  ds : Value
  decls : List De
  bs : Value
  body : List St
def Pr.cells (p : Pr) : List Value := [p.ds, p.bs]
theorem Pr.c0 (p : Pr) : p.cells[0]? = some p.ds := rfl
theorem Pr.c1 (p : Pr) : p.cells[1]? = some p.bs := rfl
structure Pr.Ok (w : World) (p : Pr) : Prop where
  d : DesOk w p.ds p.decls
  b : StsOk w p.bs p.body
theorem Pr.Ok.mod {w w' : World} {p : Pr} (h : p.Ok w) (hm : Mod none_ w w') : p.Ok w' := ⟨h.d.mod hm, h.b.mod hm⟩
def De.may (d : De) : Bool := nameP d.name && decide (0 ≤ d.places) && decide (d.places ≤ 1000)
def Pr.may (p : Pr) : Bool := decide (St.deepAt p.body 1 ≤ 32) && p.decls.all De.may && St.mayL p.body
def Pr.fits (p : Pr) : Prop := p.decls.length ≤ 1099511627776 ∧ St.szL p.body ≤ 1099511627776
theorem iPr : (Tryd.prog.info? 25).map (·.size) = some 2 := by kernel_rfl
theorem Deep_ok {w : World} {p : Pr} (h : p.Ok w) (hf : p.fits) : Rt Tryd.prog 51 #[.agg p.cells.toArray] w fun v w' => v = .int .i64 (St.deepAt p.body 1) ∧ Mod none_ w w' := by
  obtain ⟨A, c, hs, _⟩ := reads_cap h.b.1
  refine tree_Deep_calls ?_
  unfold tree_Deep_F
  refine box_k (cs := p.cells.toArray) rfl fun w1 hb1 hm1 _ => ?_
  simp only [fo25_0, fo25_1, fo40_0, fo40_1, fo60_0, fo60_1, fo60_2, fo60_3, fo62_0, fo62_1, fo62_2, fo62_3, fo62_4, fo62_5, fo62_6, fo62_7, ld2, ld3, ld5, ld9, ld22, ld23, ld58, len9, len22, len23, len52, len58, ldK_some, cellE, blkC_c, add_pl, Nat.zero_add, List.getElem?_toArray, List.getElem?_cons_succ, List.getElem?_cons_zero, hb1, Pr.c1]
  refine CK_st Tryd.func71 rfl rfl (deep_ok _ w1 _ (h.b.mod hm1) hf.2) ?_
  rintro _ w2 ⟨rfl, hm2⟩
  rw [extract_ok (v := .int .i64 (St.blocksL p.body)) rfl, extract_ok (v := .int .i64 (St.exprDL p.body)) rfl, max_i]
  refine ⟨?_, hm1.trans hm2⟩
  rw [St.deepAt_one]
  congr 1
  split <;> omega
theorem odd_call {l : List De} {w : World} (hg : Gl w) {s : Value} (h : DesOk w s l) :
    ∀ a ∈ l, ∀ w', Mod none_ w w' → ∀ K : Value → World → Prop, (∀ w'', Mod none_ w' w'' → K (.bool (!a.may)) w'') → CK Tryd.prog (.func (.func 49) #[] #[]) [.agg a.cells.toArray] w' K := by
  intro a ha w' hm K hk
  refine CK_st (R := fun v w'' => v = .bool (!a.may) ∧ Mod none_ w' w'') Tryd.func49 rfl rfl ?_ (fun v w'' hv => by rw [hv.1]; exact hk w'' hv.2)
  refine tree_May_1_calls ?_
  unfold tree_May_1_F
  refine box_k (cs := a.cells.toArray) rfl fun w1 hb1 hm1 _ => ?_
  simp only [fo25_0, fo25_1, fo40_0, fo40_1, fo60_0, fo60_1, fo60_2, fo60_3, fo62_0, fo62_1, fo62_2, fo62_3, fo62_4, fo62_5, fo62_6, fo62_7, ld2, ld3, ld5, ld9, ld22, ld23, ld58, len9, len22, len23, len52, len58, ldK_some, cellE, blkC_c, add_pl, Nat.zero_add, List.getElem?_toArray, List.getElem?_cons_succ, List.getElem?_cons_zero, hb1, De.c0]
  refine CK_st Tryd.func50 rfl rfl (Name_ok ((hg.mod hm).mod hm1) a.name (h.2 a ha).1) ?_
  rintro _ w2 ⟨rfl, hm2⟩
  have hb2 := hm2.blk hb1 id
  rw [not_ok]
  have f1 : FAt Tryd.prog w2 40 1 ⟨w'.heap.size, 0, none⟩ 3 (.int .i64 a.places) := FAt.mk' (off := 1) (by kernel_rfl) uI rfl (by rw [add_pl, cell_blk hb2]; rfl)
  refine fO f1 (fun K => BK_lss _ _ _ _ _ _) ?_
  refine fO f1 (fun K => BK_gtr _ _ _ _ _ _) ?_
  refine ⟨?_, hm1.trans hm2⟩
  congr 1
  unfold De.may
  have e1 : decide (a.places < 0) = !decide (0 ≤ a.places) := by by_cases q : 0 ≤ a.places <;> simp [q] <;> omega
  have e2 : decide ((1000 : Int) < a.places) = !decide (a.places ≤ 1000) := by by_cases q : a.places ≤ 1000 <;> simp [q] <;> omega
  rw [e1, e2]
  cases nameP a.name <;> cases decide (0 ≤ a.places) <;> cases decide (a.places ≤ 1000) <;> rfl
theorem any_not_may_de (l : List De) : (!l.any fun a => !a.may) = l.all De.may := by
  induction l with
  | nil => rfl
  | cons a r ih => simp only [List.any_cons, List.all_cons, Bool.not_or, Bool.not_not, ih]
theorem May_ok {w : World} (hg : Gl w) {p : Pr} (h : p.Ok w) (hf : p.fits) : Rt Tryd.prog 29 #[.agg p.cells.toArray] w fun v w' => v = .bool p.may ∧ Mod none_ w w' := by
  refine tree_May_calls ?_
  unfold tree_May_F
  refine box_k (cs := p.cells.toArray) rfl fun w1 hb1 hm1 _ => ?_
  refine ldB (cs := p.cells.toArray) Tryd.underlying25 rfl iPr hb1 ?_
  refine CK_st Tryd.func51 rfl rfl (Deep_ok (h.mod hm1) hf) ?_
  rintro _ w2 ⟨rfl, hm2⟩
  have hb2 := hm2.blk hb1 id
  have h2 := (h.mod hm1).mod hm2
  have hm12 := hm1.trans hm2
  rw [BK_leq, show decide ((St.deepAt p.body 1 : Int) ≤ 32) = decide (St.deepAt p.body 1 ≤ 32) by rw [decide_eq_decide]; omega]
  unfold Pr.may
  cases hd : decide (St.deepAt p.body 1 ≤ 32) with
  | false =>
    simp only [CondK_bool, MG_u, NG_u, VG_u, UG_u, PG_u, BG_u, CG_u, IG_u, MG_b, NG_b, VG_b, UG_b, PG_b, BG_b, CG_b, IG_b, PK_bool, NK_ptr, not_ok, reduceCtorEq, if_true, if_false, Bool.true_eq_false, Bool.false_eq_true, Bool.not_true, Bool.not_false]
    exact ⟨rfl, hm12⟩
  | true =>
    simp only [CondK_bool, MG_u, NG_u, VG_u, UG_u, PG_u, BG_u, CG_u, IG_u, MG_b, NG_b, VG_b, UG_b, PG_b, BG_b, CG_b, IG_b, PK_bool, NK_ptr, not_ok, reduceCtorEq, if_true, if_false, Bool.true_eq_false, Bool.false_eq_true, Bool.not_true, Bool.not_false, fo25_0, fo25_1, fo40_0, fo40_1, fo60_0, fo60_1, fo60_2, fo60_3, fo62_0, fo62_1, fo62_2, fo62_3, fo62_4, fo62_5, fo62_6, fo62_7, ld2, ld3, ld5, ld9, ld22, ld23, ld58, len9, len22, len23, len52, len58, ldK_some, cellE, blkC_c, add_pl, Nat.zero_add, List.getElem?_toArray, List.getElem?_cons_succ, List.getElem?_cons_zero, hb2, Pr.c0]
    refine CK_st Tryd.func52 rfl rfl (ContainsFuncDe_ok h2.d hf.1 (odd_call (hg.mod hm12) h2.d)) ?_
    rintro _ w3 ⟨rfl, hm3⟩
    have hb3 := hm3.blk hb2 id
    rw [not_ok, any_not_may_de]
    cases ha : p.decls.all De.may with
    | false =>
      simp only [CondK_bool, MG_u, NG_u, VG_u, UG_u, PG_u, BG_u, CG_u, IG_u, MG_b, NG_b, VG_b, UG_b, PG_b, BG_b, CG_b, IG_b, PK_bool, NK_ptr, not_ok, reduceCtorEq, if_true, if_false, Bool.true_eq_false, Bool.false_eq_true, Bool.not_true, Bool.not_false]
      exact ⟨rfl, hm12.trans hm3⟩
    | true =>
      simp only [CondK_bool, MG_u, NG_u, VG_u, UG_u, PG_u, BG_u, CG_u, IG_u, MG_b, NG_b, VG_b, UG_b, PG_b, BG_b, CG_b, IG_b, PK_bool, NK_ptr, not_ok, reduceCtorEq, if_true, if_false, Bool.true_eq_false, Bool.false_eq_true, Bool.not_true, Bool.not_false, fo25_0, fo25_1, fo40_0, fo40_1, fo60_0, fo60_1, fo60_2, fo60_3, fo62_0, fo62_1, fo62_2, fo62_3, fo62_4, fo62_5, fo62_6, fo62_7, ld2, ld3, ld5, ld9, ld22, ld23, ld58, len9, len22, len23, len52, len58, ldK_some, cellE, blkC_c, add_pl, Nat.zero_add, List.getElem?_toArray, List.getElem?_cons_succ, List.getElem?_cons_zero, hb3, Pr.c1]
      refine CK_st Tryd.func53 rfl rfl (mayStmts_ok ((hg.mod hm12).mod hm3) (h2.mod hm3).b hf.2) ?_
      rintro _ w4 ⟨rfl, hm4⟩
      refine ⟨?_, (hm12.trans hm3).trans hm4⟩
      first | rfl | trivial
/-! The chapter's. -/
/-- What the chapter asks of a statement's fields. -/
def fieldsB (e : St) : Bool :=
  (if e.op = 1 ∨ e.op = 2 ∨ e.op = 5 then nameP e.name else decide (e.name.size = 0)) &&
  (decide (e.op = 8) || (decide (e.kind = 0) && decide (e.red = 0))) && (decide (e.red = 0) || (redsP e.kind && decide (e.red ≤ 2))) &&
  decide (0 ≤ e.turns) && decide (e.turns ≤ 1000) && (decide (e.op = 5) || decide (e.turns = 0)) &&
  (decide (e.op = 3) || decide (e.els.length = 0)) && (decide (e.op = 3 ∨ e.op = 4 ∨ e.op = 5) || decide (e.body.length = 0))
theorem u8_nonneg {n : Int} (h : (Lit.int .u8 n).wf = true) : 0 ≤ n := by
  have : 0 ≤ n ∧ n ≤ 255 := by simpa [Lit.wf, IntKind.min, IntKind.max, IntKind.signed, IntKind.bits] using h
  exact this.1
theorem bne_dec (a b : Int) : (a != b) = !decide (a = b) := by rw [bne, beq_dec]
theorem lt_dec (a b : Int) : decide (a < b) = !decide (b ≤ a) := by by_cases q : b ≤ a <;> simp [q] <;> omega
theorem fields_pure (e : St) (hf : e.fine) :
    (let c1 := (((decide (e.op = 1) || decide (e.op = 2) || decide (e.op = 5)) && !nameP e.name) || (!(decide (e.op = 1) || decide (e.op = 2) || decide (e.op = 5)) && !decide (e.name.size = 0)) || (!(decide (e.op = 3) || decide (e.op = 4) || decide (e.op = 5)) && !decide (e.body.length = 0)) || (!decide (e.op = 3) && !decide (e.els.length = 0)))
     let c2 := ((!decide (e.op = 8) && (!decide (e.kind = 0) || !decide (e.red = 0))) || (decide (e.op = 8) && !decide (e.red ≤ 0) && (!redsP e.kind || !decide (e.red ≤ 2))))
     let c3 := (decide (e.turns = 0) || (decide (e.op = 5) && !decide (e.turns ≤ 0) && decide (e.turns ≤ 1000)))
     (!c1 && !c2 && c3) = fieldsB e) := by
  have hr := u8_nonneg hf.2.2.1
  have e1 : (if e.op = 1 ∨ e.op = 2 ∨ e.op = 5 then nameP e.name else decide (e.name.size = 0)) = (if (decide (e.op = 1) || decide (e.op = 2) || decide (e.op = 5)) = true then nameP e.name else decide (e.name.size = 0)) := by
    by_cases q3 : e.op = 1 <;> by_cases q4 : e.op = 2 <;> by_cases q5 : e.op = 5 <;> simp [q3, q4, q5]
  have e2 : decide (e.op = 3 ∨ e.op = 4 ∨ e.op = 5) = (decide (e.op = 3) || decide (e.op = 4) || decide (e.op = 5)) := by
    by_cases q3 : e.op = 3 <;> by_cases q4 : e.op = 4 <;> by_cases q5 : e.op = 5 <;> simp [q3, q4, q5]
  have e3 : decide (e.red = 0) = decide (e.red ≤ 0) := by rw [decide_eq_decide]; omega
  have et : (decide (0 ≤ e.turns) && decide (e.turns ≤ 1000) && (decide (e.op = 5) || decide (e.turns = 0))) = (decide (e.turns = 0) || (decide (e.op = 5) && !decide (e.turns ≤ 0) && decide (e.turns ≤ 1000))) := by
    by_cases q0 : e.turns = 0
    · rw [q0]; cases decide (e.op = 5) <;> rfl
    · rw [decide_eq_false q0]
      by_cases qn : e.turns ≤ 0
      · rw [decide_eq_true qn, show decide (0 ≤ e.turns) = false from decide_eq_false (by omega)]
        cases decide (e.op = 5) <;> rfl
      · rw [decide_eq_false qn, show decide (0 ≤ e.turns) = true from decide_eq_true (by omega)]
        cases decide (e.op = 5) <;> cases decide (e.turns ≤ 1000) <;> rfl
  have ek : redsP e.kind = true → e.kind ≠ 0 := by
    unfold redsP
    intro q
    rw [decide_eq_true_eq] at q
    omega
  dsimp only
  unfold fieldsB
  rw [Bool.and_assoc, Bool.and_assoc, Bool.and_assoc, Bool.and_assoc, Bool.and_assoc]
  have g : ∀ a b c d f g h i : Bool, (a && b && c && d && f && g && h && i) = (a && b && c && (d && f && g) && h && i) := by intro a b c d f g h i; ac_rfl
  rw [← Bool.and_assoc, ← Bool.and_assoc, ← Bool.and_assoc, ← Bool.and_assoc, ← Bool.and_assoc, g, et, e1, e2, e3]
  by_cases qk : e.kind = 0
  · have : redsP e.kind = false := by
      cases h : redsP e.kind
      · rfl
      · exact absurd qk (ek h)
    rw [this, decide_eq_true qk]
    generalize (decide (e.turns = 0) || (decide (e.op = 5) && !decide (e.turns ≤ 0) && decide (e.turns ≤ 1000))) = T
    generalize nameP e.name = N
    generalize (decide (e.op = 1) || decide (e.op = 2) || decide (e.op = 5)) = M
    generalize (decide (e.op = 3) || decide (e.op = 4) || decide (e.op = 5)) = L
    generalize decide (e.name.size = 0) = Z
    generalize decide (e.body.length = 0) = B
    generalize decide (e.els.length = 0) = E
    generalize decide (e.op = 3) = O3
    generalize decide (e.op = 8) = O8
    generalize decide (e.red ≤ 0) = R0
    generalize decide (e.red ≤ 2) = R2
    revert T N M L Z B E O3 O8 R0 R2
    decide +kernel
  · rw [decide_eq_false qk]
    generalize (decide (e.turns = 0) || (decide (e.op = 5) && !decide (e.turns ≤ 0) && decide (e.turns ≤ 1000))) = T
    generalize nameP e.name = N
    generalize (decide (e.op = 1) || decide (e.op = 2) || decide (e.op = 5)) = M
    generalize (decide (e.op = 3) || decide (e.op = 4) || decide (e.op = 5)) = L
    generalize decide (e.name.size = 0) = Z
    generalize decide (e.body.length = 0) = B
    generalize decide (e.els.length = 0) = E
    generalize decide (e.op = 3) = O3
    generalize decide (e.op = 8) = O8
    generalize decide (e.red ≤ 0) = R0
    generalize decide (e.red ≤ 2) = R2
    generalize redsP e.kind = S
    revert T N M L Z B E O3 O8 R0 R2 S
    decide +kernel
end Go.Proofs.YtbnbcimjapiicaaDoor.Tr
