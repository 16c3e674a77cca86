/- mayStmt, mayStmts, whole. -/
import Derived.Test.YtbnbcimjapiicaaDoorM
set_option linter.unusedVariables false
set_option linter.unusedSimpArgs false
set_option maxRecDepth 4000
namespace Go.Proofs.YtbnbcimjapiicaaDoor.Tr
open Go Go.X Go.RowKit Go.Proofs.YtbnbcimjapiicaaDoor.XF Go.Proofs.YtbnbcimjapiicaaDoor.XK

theorem beq_dec (a b : Int) : (a == b) = decide (a = b) := by
  by_cases h : a = b
  · rw [decide_eq_true h, h]; exact beq_self_eq_true b
  · rw [decide_eq_false h]; exact beq_eq_false_iff_ne.2 h
theorem name_eq (nm : Bool) (b : ByteArray) : ((nm == !decide (b.size = 0)) && (!nm || nameP b)) = (if nm then nameP b else decide (b.size = 0)) := by
  by_cases h0 : b.size = 0
  · have : nameP b = false := by unfold nameP; rw [show decide (1 ≤ b.size) = false from decide_eq_false (by omega)]; rfl
    rw [decide_eq_true h0, this]
    cases nm <;> rfl
  · rw [decide_eq_false h0]
    cases nm <;> simp
theorem kind_eq (op kind red : Int) : ((decide (op = 8) || decide (kind = 0)) && (decide (red = 0) || (redsP kind && decide (red ≤ 2)))) = ((decide (op = 8) || (decide (kind = 0) && decide (red = 0))) && (decide (red = 0) || (redsP kind && decide (red ≤ 2)))) := by
  by_cases h8 : op = 8
  · rw [decide_eq_true h8]; rfl
  · rw [decide_eq_false h8]
    by_cases hk : kind = 0
    · have : redsP kind = false := by unfold redsP; rw [decide_eq_false]; omega
      rw [this, decide_eq_true hk]
      cases decide (red = 0) <;> rfl
    · rw [decide_eq_false hk]; rfl
theorem ask_eq (e : St) {nm : Bool} {lo hi : Nat} (hn : nm = decide (e.op = 1 ∨ e.op = 2 ∨ e.op = 5)) (hr : e.rng = some (lo, hi)) : St.ask e nm lo hi = e.may := by
  rw [St.may_eq]
  unfold St.ask St.own
  rw [hr, name_eq, any_not_may]
  simp only [beq_dec]
  have e1 : decide ((lo : Int) ≤ (e.exprs.length : Int)) = decide (lo ≤ e.exprs.length) := by simp
  have e2 : decide ((e.exprs.length : Int) ≤ (hi : Int)) = decide (e.exprs.length ≤ hi) := by simp
  have e3 : decide ((e.els.length : Int) = 0) = decide (e.els.length = 0) := by simp
  have e4 : decide ((e.body.length : Int) = 0) = decide (e.body.length = 0) := by simp
  have e5 : (decide (e.op = 3) || decide (e.op = 4) || decide (e.op = 5)) = decide (e.op = 3 ∨ e.op = 4 ∨ e.op = 5) := by
    by_cases q3 : e.op = 3 <;> by_cases q4 : e.op = 4 <;> by_cases q5 : e.op = 5 <;> simp [q3, q4, q5]
  have e6 : (if nm = true then nameP e.name else decide (e.name.size = 0)) = (if e.op = 1 ∨ e.op = 2 ∨ e.op = 5 then nameP e.name else decide (e.name.size = 0)) := by
    subst hn
    by_cases q : e.op = 1 ∨ e.op = 2 ∨ e.op = 5
    · rw [if_pos (decide_eq_true q), if_pos q]
    · rw [if_neg (by rw [decide_eq_false q]; simp), if_neg q]
  rw [e1, e2, e3, e4, e5, e6]
  have hk := kind_eq e.op e.kind e.red
  generalize (if e.op = 1 ∨ e.op = 2 ∨ e.op = 5 then nameP e.name else decide (e.name.size = 0)) = X1 at *
  generalize decide (lo ≤ e.exprs.length) = X2 at *
  generalize decide (e.exprs.length ≤ hi) = X3 at *
  generalize Ex.mayL e.exprs = X4 at *
  generalize (decide (e.red = 0) || (redsP e.kind && decide (e.red ≤ 2))) = X5 at *
  generalize (decide (e.op = 8) || decide (e.kind = 0)) = X6 at *
  generalize (decide (e.op = 8) || (decide (e.kind = 0) && decide (e.red = 0))) = X7 at *
  generalize decide (0 ≤ e.turns) = X8 at *
  generalize decide (e.turns ≤ 1000) = X9 at *
  generalize (decide (e.op = 5) || decide (e.turns = 0)) = X10 at *
  generalize (decide (e.op = 3) || decide (e.els.length = 0)) = X11 at *
  generalize (decide (e.op = 3 ∨ e.op = 4 ∨ e.op = 5) || decide (e.body.length = 0)) = X12 at *
  generalize St.mayL e.body = X13 at *
  generalize St.mayL e.els = X14 at *
  have : (X1 && X2 && X3 && X4 && X6 && X5 && X8 && X9 && X10 && X11 && X12 && X13 && X14) = (X6 && X5 && (X1 && X2 && X3 && X4 && X8 && X9 && X10 && X11 && X12 && X13 && X14)) := by ac_rfl
  rw [this, hk]
  ac_rfl
theorem mayStmt_ok : ∀ e : St, MaySt e := by
  intro e
  induction e using St.ind with
  | h e ih1 ih2 =>
    intro w hg hok hsz
    have hrng := hok.fine
    refine tree_mayStmt_calls ?_
    unfold tree_mayStmt_F
    refine box_k (cs := e.cells.toArray) rfl fun w1 hb1 hm1 hs1 => ?_
    have cell : ∀ (j : Nat) v, e.cells[j]? = some v → w1.cell? ((⟨w.heap.size, 0, none⟩ : Addr).add j) = some v := fun j v hv => by
      rw [add_pl, cell_blk hb1, Nat.zero_add]
      simpa using hv
    have d0 : FAt Tryd.prog w1 62 0 ⟨w.heap.size, 0, none⟩ 5 (.int .u8 e.op) := FAt.mk' (off := 0) (by kernel_rfl) uU8 rfl (cell 0 _ rfl)
    have d1 : FAt Tryd.prog w1 62 1 ⟨w.heap.size, 0, none⟩ 5 (.int .u8 e.kind) := FAt.mk' (off := 1) (by kernel_rfl) uU8 rfl (cell 1 _ rfl)
    refine d0.vk' fun x6 => ?_
    rw [BK_eql]
    refine fO' d0 (fun K => BK_eql _ _ _ _ _ _) fun x10 x11 x12 => ?_
    refine fO' d0 (fun K => BK_eql _ _ _ _ _ _) fun x15 x16 x17 => ?_
    refine d0.vk' fun x19 => ?_
    have hnm : ((e.op == 1) || (e.op == 2) || (e.op == 5)) = decide (e.op = 1 ∨ e.op = 2 ∨ e.op = 5) := by
      simp only [beq_dec]
      by_cases q3 : e.op = 1 <;> by_cases q4 : e.op = 2 <;> by_cases q5 : e.op = 5 <;> simp [q3, q4, q5]
    have fin : ∀ (ρ' : Sl) (lo hi : Nat), ρ' 1 = .pointer (some ⟨w.heap.size, 0, none⟩) → ρ' 3 = .bool ((e.op == 1) || (e.op == 2) || (e.op == 5)) → ρ' 4 = .int .i64 lo → ρ' 5 = .int .i64 hi → e.rng = some (lo, hi) →
        sx fn_ Tryd.prog 162 tree_mayStmt_R0 (retK Tryd.prog [ResultVar.tmp 2] fun v w' => v = .bool e.may ∧ Mod none_ w w') ρ' w1 := fun ρ' lo hi q1 q3 q4 q5 hr =>
      mayS0 hok hg hsz hm1 ih1 ih2 hb1 q1 q3 q4 q5 (ask_eq e hnm hr)
    have none_ret : e.rng = none → e.may = false := fun h => by
      rw [St.may_eq]
      unfold St.own
      rw [h]
      rfl
    have r1 : ∀ (ρ' : Sl) (t : Bool), ρ' 1 = .pointer (some ⟨w.heap.size, 0, none⟩) → ρ' 3 = .bool ((e.op == 1) || (e.op == 2) || (e.op == 5)) → ρ' 4 = .int .i64 0 → ρ' 5 = .int .i64 0 → ρ' 20 = .int .u8 e.op → ρ' 21 = .bool t → t = decide (e.op = 1 ∨ e.op = 3 ∨ e.op = 4 ∨ e.op = 6) →
        sx fn_ Tryd.prog 162 tree_mayStmt_R1 (blkK 0 (seqK (sx fn_ Tryd.prog 162 tree_mayStmt_R0 (retK Tryd.prog [ResultVar.tmp 2] fun v w' => v = .bool e.may ∧ Mod none_ w w')) (retK Tryd.prog [ResultVar.tmp 2] fun v w' => v = .bool e.may ∧ Mod none_ w w'))) ρ' w1 := by
      intro ρ' t q1 q3 q4 q5 q20 q21 ht
      rw [tree_mayStmt_R1_eq]
      unfold tree_mayStmt_R1_F
      rw [q21, q20]
      subst ht
      refine caseC (fun hp => ?_) (fun hp => ?_)
      · rw [decide_eq_true_eq] at hp
        rw [bk_n, sq_n]
        refine fin _ 1 1 ?_ ?_ rfl rfl (by unfold St.rng; rw [if_pos hp])
        · exact q1
        · exact q3
      · rw [decide_eq_false_iff_not] at hp
        refine caseI (fun h2 => condT ?_) (fun h2 => condF ?_)
        · rw [bk_n, sq_n]
          refine fin _ 2 2 ?_ ?_ rfl rfl (by unfold St.rng; rw [if_neg hp, if_pos h2])
          · exact q1
          · exact q3
        · have r2 : ∀ (ρ2 : Sl) (t : Bool), ρ2 1 = .pointer (some ⟨w.heap.size, 0, none⟩) → ρ2 3 = .bool ((e.op == 1) || (e.op == 2) || (e.op == 5)) → ρ2 4 = .int .i64 0 → ρ2 5 = .int .i64 0 → ρ2 20 = .int .u8 e.op → ρ2 28 = .bool t → t = decide (e.op = 5 ∨ e.op = 7) →
              sx fn_ Tryd.prog 162 tree_mayStmt_R2 (blkK 0 (seqK (sx fn_ Tryd.prog 162 tree_mayStmt_R0 (retK Tryd.prog [ResultVar.tmp 2] fun v w' => v = .bool e.may ∧ Mod none_ w w')) (retK Tryd.prog [ResultVar.tmp 2] fun v w' => v = .bool e.may ∧ Mod none_ w w'))) ρ2 w1 := by
            intro ρ2 t p1 p3 p4 p5 p20 p28 ht2
            rw [tree_mayStmt_R2_eq]
            unfold tree_mayStmt_R2_F
            rw [p28, p20, p1]
            subst ht2
            refine caseC (fun h5 => ?_) (fun h5 => ?_)
            · rw [decide_eq_true_eq] at h5
              rw [bk_n, sq_n]
              exact fin _ 0 0 p1 p3 p4 p5 (by unfold St.rng; rw [if_neg hp, if_neg h2, if_pos h5])
            · rw [decide_eq_false_iff_not] at h5
              refine caseI (fun h8 => condT ?_) (fun h8 => condF ?_)
              · refine d1.vk' fun x34 => ?_
                refine CK_st Tryd.func93 rfl rfl (Args_ok (hg.mod hm1) e.kind hrng.2.1) ?_
                rintro _ w1' ⟨rfl, rfl⟩
                rw [extract_ok (v := .int .i64 (argsP e.kind).1) rfl, extract_ok (v := .int .i64 (argsP e.kind).2) rfl]
                refine caseI (fun hz => condT ?_) (fun hz => condF ?_)
                · refine ⟨?_, hm1⟩
                  rw [none_ret (by unfold St.rng; rw [if_neg hp, if_neg h2, if_neg h5, if_pos h8, if_pos (by omega)])]
                  rfl
                · rw [bk_n, sq_n]
                  refine fin _ (argsP e.kind).1 (argsP e.kind).2 ?_ ?_ rfl rfl (by unfold St.rng; rw [if_neg hp, if_neg h2, if_neg h5, if_pos h8, if_neg (by omega)])
                  · exact p1
                  · exact p3
              · refine ⟨?_, hm1⟩
                rw [none_ret (by unfold St.rng; rw [if_neg hp, if_neg h2, if_neg h5, if_neg h8])]
                rfl
          refine caseI (fun h5 => condT ?_) (fun h5 => condF ?_)
          · refine r2 _ true ?_ ?_ ?_ ?_ ?_ rfl (by rw [decide_eq_true (Or.inl h5)])
            · exact q1
            · exact q3
            · exact q4
            · exact q5
            · exact q20
          · rw [BK_eql]
            refine r2 _ (e.op == 7) ?_ ?_ ?_ ?_ ?_ rfl ?_
            · exact q1
            · exact q3
            · exact q4
            · exact q5
            · exact q20
            · rw [beq_dec]
              by_cases q : e.op = 7
              · rw [decide_eq_true q, decide_eq_true (Or.inr q)]
              · rw [decide_eq_false q, decide_eq_false (by omega)]
    refine caseI (fun h1 => condT ?_) (fun h1 => condF ?_)
    · exact r1 _ true rfl rfl rfl rfl rfl rfl (by rw [decide_eq_true (Or.inl h1)])
    refine caseI (fun h3 => condT ?_) (fun h3 => condF ?_)
    · exact r1 _ true rfl rfl rfl rfl rfl rfl (by rw [decide_eq_true (Or.inr (Or.inl h3))])
    refine caseI (fun h4 => condT ?_) (fun h4 => condF ?_)
    · exact r1 _ true rfl rfl rfl rfl rfl rfl (by rw [decide_eq_true (Or.inr (Or.inr (Or.inl h4)))])
    rw [BK_eql]
    refine r1 _ (e.op == 6) ?_ ?_ ?_ ?_ ?_ ?_ ?_
    · rfl
    · rfl
    · rfl
    · rfl
    · rfl
    · rfl
    · rw [beq_dec]
      by_cases q : e.op = 6
      · rw [decide_eq_true q, decide_eq_true (Or.inr (Or.inr (Or.inr q)))]
      · rw [decide_eq_false q, decide_eq_false (by omega)]
theorem mayStmts_ok {l : List St} {w : World} (hg : Gl w) {s : Value} (h : StsOk w s l) (hsz : St.szL l ≤ 1099511627776) : Rt Tryd.prog 53 #[s] w fun v w' => v = .bool (St.mayL l) ∧ Mod none_ w w' :=
  mayStmts_row (fun a _ => mayStmt_ok a) hg h hsz
end Go.Proofs.YtbnbcimjapiicaaDoor.Tr
