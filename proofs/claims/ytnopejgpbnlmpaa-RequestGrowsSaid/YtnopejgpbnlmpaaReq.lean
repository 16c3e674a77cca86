/- Contracts of package request's functions, over the printed formulas: what each does to a table of requests. -/
import Derived.Test.YtnopejgpbnlmpaaXF
import Derived.Test.YtnopejgpbnlmpaaXMore
set_option linter.unusedVariables false
set_option linter.unusedSimpArgs false
namespace Go.Proofs.Ytnopejgpbnlmpaa.Req
open Go Go.X Go.RowKit Go.Proofs.Ytnopejgpbnlmpaa.XF

structure R where
  recv : Bool
  done : Bool
  gone : Bool
  val : Int
  peer : Int
  tag : Int
def R.enc (r : R) : List Value := [.bool r.recv, .bool r.done, .bool r.gone, .int .i64 r.val, .int .i64 r.peer, .int .i64 r.tag]
def flat (xs : List R) : List Value := xs.flatMap R.enc
def R.zero : R := ⟨false, false, false, 0, 0, 0⟩

/-- A table that somebody made: its block, its slice, what that reads. -/
def IsTab (w : World) (B t : Nat) (v : Value) (xs : List R) : Prop :=
  B ≤ t ∧ w.heap[t]? = some (.cells #[.bool true, v] 47 (0, 0)) ∧ w.ownsRow B 50 6 v xs.length (flat xs)
/-- A table that nobody made. -/
def NilTab (w : World) (p : Option Addr) : Prop := p = none ∨ ∃ t, p = some ⟨t, 0, none⟩ ∧ w.heap[t]? = some (.cells #[.bool false, .slice none 0 0] 47 (0, 0))

section
variable {w : World} {K : Value → World → Prop}
theorem f47_0 (a : Addr) : VK Try.prog (Instr.fieldAt 47 (.pointer (some a)) 0) w K = K (.pointer (some (a.add 0))) w := fo (by kernel_rfl) a
theorem f47_1 (a : Addr) : VK Try.prog (Instr.fieldAt 47 (.pointer (some a)) 1) w K = K (.pointer (some (a.add 1))) w := fo (by kernel_rfl) a
theorem f50 (a : Addr) (i : Nat) (h : i < 6) : VK Try.prog (Instr.fieldAt 50 (.pointer (some a)) i) w K = K (.pointer (some (a.add i))) w := by
  match i, h with
  | 0, _ => exact fo (by kernel_rfl) a
  | 1, _ => exact fo (by kernel_rfl) a
  | 2, _ => exact fo (by kernel_rfl) a
  | 3, _ => exact fo (by kernel_rfl) a
  | 4, _ => exact fo (by kernel_rfl) a
  | 5, _ => exact fo (by kernel_rfl) a
end

theorem none_nil {w : World} {p : Option Addr} (h : NilTab w p) : Calls Try.prog 23 #[.pointer p] w fun e w' => ∃ v, e = .returned v ∧ (v = .bool true ∧ w' = w) := by
  refine request_Table_none_calls ?_
  unfold request_Table_none_F
  rw [BK_eqlP Try.underlying25]
  rcases h with rfl | ⟨t, rfl, hb⟩
  · simp only [Option.isNone_none, MG_b, NG_b, VG_b, PK_bool, reduceCtorEq, if_true, if_false, Bool.true_eq_false, and_self]
  · simp only [Option.isNone_some, MG_b, NG_b, VG_b, PK_bool, reduceCtorEq, if_true, if_false, NK_ptr, f47_0]
    refine ld1 Try.underlying4 rfl (v := .bool false) (by rw [add_pl, cell_blk hb]; rfl) ?_
    simp only [not_ok, PK_bool, VG_b, if_true, if_false, Bool.false_eq_true, Bool.not_false, and_self]
theorem none_made {w : World} {B t : Nat} {v : Value} {xs : List R} (h : IsTab w B t v xs) : Calls Try.prog 23 #[.pointer (some ⟨t, 0, none⟩)] w fun e w' => ∃ v, e = .returned v ∧ (v = .bool false ∧ w' = w) := by
  refine request_Table_none_calls ?_
  unfold request_Table_none_F
  rw [BK_eqlP Try.underlying25]
  simp only [Option.isNone_some, MG_b, NG_b, VG_b, PK_bool, reduceCtorEq, if_true, if_false, NK_ptr, f47_0]
  refine ld1 Try.underlying4 rfl (v := .bool true) (by rw [add_pl, cell_blk h.2.1]; rfl) ?_
  simp only [not_ok, PK_bool, VG_b, if_true, if_false, Bool.false_eq_true, Bool.not_true, and_self]
theorem NilTab.mod {w w' : World} {p : Option Addr} (h : NilTab w p) (hm : Mod none_ w w') : NilTab w' p := by
  rcases h with h | ⟨t, h, hb⟩
  · exact .inl h
  · exact .inr ⟨t, h, hm.blk hb id⟩
def zr : Value := .agg R.zero.enc.toArray
theorem zr_zero : (Try.prog.info? 50).bind (·.zero) = some zr := by kernel_rfl
theorem zr_built : Try.prog.built 50 [] = some R.zero.enc.toArray := by kernel_rfl
theorem i50 : (Try.prog.info? 50).map (·.size) = some 6 := by kernel_rfl
theorem enc_one (r : R) : (r.enc.toArray.all (·.oneCell')) = true := by simp [R.enc, Value.oneCell']
theorem ag50 : (match TypeDesc.struct (match Try.prog.underlying 50 with | some (.struct f) => f | _ => #[]) with | .struct _ | .array _ _ => true | _ => false) = true := rfl

theorem At_nil {w : World} {p : Option Addr} {i : Int} (h : NilTab w p) : Rt Try.prog 21 #[.pointer p, .int .i64 i] w fun v w' => v = .tuple #[zr, .int .i64 1] ∧ Mod none_ w w' := by
  refine request_Table_At_calls ?_
  unfold request_Table_At_F
  rw [alloc_ok zr_zero]
  refine CK_st Try.func23 rfl rfl (none_nil (h.mod ((Mod.refl none_ w).alloc _))) ?_
  rintro v w' ⟨rfl, rfl⟩
  simp only [CondK_bool, MG_b, NG_b, VG_b, UG_b, PG_b, BG_b, CG_b, IG_b, PK_bool, NK_ptr, not_ok, reduceCtorEq, if_true, if_false, Bool.true_eq_false, Bool.false_eq_true, Bool.not_true, Bool.not_false]
  rw [build_ok zr_built]
  refine stB i50 rfl (enc_one _) (alloc_new w _) ?_
  refine ⟨_, res_ld (run_ldB (cs := R.zero.enc.toArray) Try.underlying50 rfl i50 (setB_new _ _ _ (by simp))), rfl, ?_⟩
  exact ((Mod.refl none_ w).alloc _).set _ (fun q => absurd q (by omega))
theorem Many_nil {w : World} {p : Option Addr} (h : NilTab w p) : Rt Try.prog 11 #[.pointer p] w fun v w' => v = .int .i64 0 ∧ w' = w := by
  refine request_Table_Many_calls ?_
  unfold request_Table_Many_F
  refine CK_st Try.func23 rfl rfl (none_nil h) ?_
  rintro v w' ⟨rfl, rfl⟩
  simp only [CondK_bool, MG_b, NG_b, VG_b, UG_b, PG_b, BG_b, CG_b, IG_b, PK_bool, NK_ptr, not_ok, reduceCtorEq, if_true, if_false, Bool.true_eq_false, Bool.false_eq_true, Bool.not_true, Bool.not_false, and_self]
theorem Add_nil {w : World} {p : Option Addr} {a b : Value} (h : NilTab w p) : Rt Try.prog 9 #[.pointer p, a, b] w fun v w' => v = .tuple #[.int .i64 0, .int .i64 1] ∧ w' = w := by
  refine request_Table_Add_calls ?_
  unfold request_Table_Add_F
  refine CK_st Try.func23 rfl rfl (none_nil h) ?_
  rintro v w' ⟨rfl, rfl⟩
  simp only [CondK_bool, MG_b, NG_b, VG_b, UG_b, PG_b, BG_b, CG_b, IG_b, PK_bool, NK_ptr, not_ok, reduceCtorEq, if_true, if_false, Bool.true_eq_false, Bool.false_eq_true, Bool.not_true, Bool.not_false, and_self]
theorem May_nil {w : World} {p : Option Addr} {a : Value} (h : NilTab w p) : Rt Try.prog 17 #[.pointer p, a] w fun v w' => v = .int .i64 1 ∧ w' = w := by
  refine request_Table_May_calls ?_
  unfold request_Table_May_F
  refine CK_st Try.func23 rfl rfl (none_nil h) ?_
  rintro v w' ⟨rfl, rfl⟩
  simp only [CondK_bool, MG_b, NG_b, VG_b, UG_b, PG_b, BG_b, CG_b, IG_b, PK_bool, NK_ptr, not_ok, reduceCtorEq, if_true, if_false, Bool.true_eq_false, Bool.false_eq_true, Bool.not_true, Bool.not_false, and_self]
theorem Take_nil {w : World} {p : Option Addr} {a : Value} (h : NilTab w p) : Rt Try.prog 10 #[.pointer p, a] w fun v w' => v = .tuple #[.slice none 0 0, .int .i64 1] ∧ w' = w := by
  refine request_Table_Take_calls ?_
  unfold request_Table_Take_F
  refine CK_st Try.func17 rfl rfl (May_nil h) ?_
  rintro v w' ⟨rfl, rfl⟩
  rw [BK_neq]
  simp only [CondK_bool, MG_b, NG_b, VG_b, UG_b, PG_b, BG_b, CG_b, IG_b, PK_bool, NK_ptr, not_ok, reduceCtorEq, if_true, if_false, Bool.true_eq_false, Bool.false_eq_true, Bool.not_true, Bool.not_false, and_self, show ((1 : Int) != 0) = true from rfl]
theorem Complete_nil {w : World} {p : Option Addr} {i : Int} {a b c : Value} (h : NilTab w p) : Rt Try.prog 19 #[.pointer p, .int .i64 i, a, b, c] w fun v w' => v = .int .i64 1 ∧ Mod none_ w w' := by
  refine request_Table_Complete_calls ?_
  unfold request_Table_Complete_F
  refine CK_st Try.func21 rfl rfl (At_nil h) ?_
  rintro v w' ⟨rfl, hm⟩
  rw [extract_ok (v := zr) rfl, extract_ok (v := .int .i64 1) rfl, alloc_ok zr_zero]
  refine stB i50 rfl (enc_one _) (alloc_new w' _) ?_
  rw [BK_neq]
  simp only [CondK_bool, MG_b, NG_b, VG_b, UG_b, PG_b, BG_b, CG_b, IG_b, PK_bool, NK_ptr, not_ok, reduceCtorEq, if_true, if_false, Bool.true_eq_false, Bool.false_eq_true, Bool.not_true, Bool.not_false, true_and, show ((1 : Int) != 0) = true from rfl]
  exact (hm.alloc _).set _ (fun q => absurd q (by have := hm.size; omega))
end Go.Proofs.Ytnopejgpbnlmpaa.Req
