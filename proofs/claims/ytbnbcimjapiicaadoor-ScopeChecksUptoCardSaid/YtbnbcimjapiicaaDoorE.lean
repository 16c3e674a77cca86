/- Switches: sides, arguments, plain words. -/
import Derived.Test.YtbnbcimjapiicaaDoorD
set_option linter.unusedVariables false
set_option linter.unusedSimpArgs false
set_option maxRecDepth 4000
namespace Go.Proofs.YtbnbcimjapiicaaDoor.Tr
open Go Go.X Go.RowKit Go.Proofs.YtbnbcimjapiicaaDoor.XF Go.Proofs.YtbnbcimjapiicaaDoor.XK

theorem SidesR_ok (op : Int) (w : World) : Rt Tryd.prog 100 #[.int .u8 op] w fun v w' => v = .int .i64 (sidesP op) ∧ w' = w := by
  refine dispatcherref02_Sides_calls ?_
  unfold dispatcherref02_Sides_F
  refine caseI (fun hc3 => ?_) (fun hc3 => ?_)
  · refine condT ?_; rw [dispatcherref02_Sides_R0_eq]; unfold dispatcherref02_Sides_R0_F; refine condT ?_; subst hc3; exact ⟨rfl, rfl⟩
  refine condF ?_
  refine caseI (fun hc4 => ?_) (fun hc4 => ?_)
  · refine condT ?_; rw [dispatcherref02_Sides_R0_eq]; unfold dispatcherref02_Sides_R0_F; refine condT ?_; subst hc4; exact ⟨rfl, rfl⟩
  refine condF ?_
  refine caseI (fun hc6 => ?_) (fun hc6 => ?_)
  · refine condT ?_; rw [dispatcherref02_Sides_R0_eq]; unfold dispatcherref02_Sides_R0_F; refine condT ?_; subst hc6; exact ⟨rfl, rfl⟩
  refine condF ?_
  refine caseI (fun hc7 => ?_) (fun hc7 => ?_)
  · rw [dispatcherref02_Sides_R0_eq]; unfold dispatcherref02_Sides_R0_F; refine condT ?_; subst hc7; exact ⟨rfl, rfl⟩
  rw [dispatcherref02_Sides_R0_eq]; unfold dispatcherref02_Sides_R0_F; refine condF ?_
  refine caseI (fun hc8 => ?_) (fun hc8 => ?_)
  · refine condT ?_; rw [dispatcherref02_Sides_R2_eq]; unfold dispatcherref02_Sides_R2_F; refine condT ?_; subst hc8; exact ⟨rfl, rfl⟩
  refine condF ?_
  refine caseI (fun hc9 => ?_) (fun hc9 => ?_)
  · refine condT ?_; rw [dispatcherref02_Sides_R2_eq]; unfold dispatcherref02_Sides_R2_F; refine condT ?_; subst hc9; exact ⟨rfl, rfl⟩
  refine condF ?_
  refine caseI (fun hc10 => ?_) (fun hc10 => ?_)
  · refine condT ?_; rw [dispatcherref02_Sides_R2_eq]; unfold dispatcherref02_Sides_R2_F; refine condT ?_; subst hc10; exact ⟨rfl, rfl⟩
  refine condF ?_
  refine caseI (fun hc11 => ?_) (fun hc11 => ?_)
  · refine condT ?_; rw [dispatcherref02_Sides_R2_eq]; unfold dispatcherref02_Sides_R2_F; refine condT ?_; subst hc11; exact ⟨rfl, rfl⟩
  refine condF ?_
  refine caseI (fun hc12 => ?_) (fun hc12 => ?_)
  · refine condT ?_; rw [dispatcherref02_Sides_R2_eq]; unfold dispatcherref02_Sides_R2_F; refine condT ?_; subst hc12; exact ⟨rfl, rfl⟩
  refine condF ?_
  refine caseI (fun hc13 => ?_) (fun hc13 => ?_)
  · refine condT ?_; rw [dispatcherref02_Sides_R2_eq]; unfold dispatcherref02_Sides_R2_F; refine condT ?_; subst hc13; exact ⟨rfl, rfl⟩
  refine condF ?_
  refine caseI (fun hc14 => ?_) (fun hc14 => ?_)
  · refine condT ?_; rw [dispatcherref02_Sides_R2_eq]; unfold dispatcherref02_Sides_R2_F; refine condT ?_; subst hc14; exact ⟨rfl, rfl⟩
  refine condF ?_
  refine caseI (fun hc15 => ?_) (fun hc15 => ?_)
  · refine condT ?_; rw [dispatcherref02_Sides_R2_eq]; unfold dispatcherref02_Sides_R2_F; refine condT ?_; subst hc15; exact ⟨rfl, rfl⟩
  refine condF ?_
  refine caseI (fun hc16 => ?_) (fun hc16 => ?_)
  · refine condT ?_; rw [dispatcherref02_Sides_R2_eq]; unfold dispatcherref02_Sides_R2_F; refine condT ?_; subst hc16; exact ⟨rfl, rfl⟩
  refine condF ?_
  refine caseI (fun hc17 => ?_) (fun hc17 => ?_)
  · refine condT ?_; rw [dispatcherref02_Sides_R2_eq]; unfold dispatcherref02_Sides_R2_F; refine condT ?_; subst hc17; exact ⟨rfl, rfl⟩
  refine condF ?_
  refine caseI (fun hc18 => ?_) (fun hc18 => ?_)
  · refine condT ?_; rw [dispatcherref02_Sides_R2_eq]; unfold dispatcherref02_Sides_R2_F; refine condT ?_; subst hc18; exact ⟨rfl, rfl⟩
  refine condF ?_
  refine caseI (fun hc19 => ?_) (fun hc19 => ?_)
  · refine condT ?_; rw [dispatcherref02_Sides_R2_eq]; unfold dispatcherref02_Sides_R2_F; refine condT ?_; subst hc19; exact ⟨rfl, rfl⟩
  refine condF ?_
  refine caseI (fun hc20 => ?_) (fun hc20 => ?_)
  · rw [dispatcherref02_Sides_R2_eq]; unfold dispatcherref02_Sides_R2_F; refine condT ?_; subst hc20; exact ⟨rfl, rfl⟩
  rw [dispatcherref02_Sides_R2_eq]; unfold dispatcherref02_Sides_R2_F; refine condF ?_
  rw [bk_n, sq_n, dispatcherref02_Sides_R1_eq]; unfold dispatcherref02_Sides_R1_F
  rw [show sidesP op = 0 by unfold sidesP; rw [if_neg (by omega), if_neg (by omega)]]
  exact ⟨rfl, rfl⟩
theorem ArgsR_ok (k : Int) (w : World) : Rt Tryd.prog 77 #[.int .u8 k] w fun v w' => v = .tuple #[.int .i64 (argsP k).1, .int .i64 (argsP k).2] ∧ w' = w := by
  refine dispatcherref02_Args_calls ?_
  unfold dispatcherref02_Args_F
  refine caseI (fun hc1 => ?_) (fun hc1 => ?_)
  · refine condT ?_; rw [dispatcherref02_Args_R0_eq]; unfold dispatcherref02_Args_R0_F; refine condT ?_; subst hc1; exact ⟨rfl, rfl⟩
  refine condF ?_
  refine caseI (fun hc2 => ?_) (fun hc2 => ?_)
  · refine condT ?_; rw [dispatcherref02_Args_R0_eq]; unfold dispatcherref02_Args_R0_F; refine condT ?_; subst hc2; exact ⟨rfl, rfl⟩
  refine condF ?_
  refine caseI (fun hc3 => ?_) (fun hc3 => ?_)
  · refine condT ?_; rw [dispatcherref02_Args_R0_eq]; unfold dispatcherref02_Args_R0_F; refine condT ?_; subst hc3; exact ⟨rfl, rfl⟩
  refine condF ?_
  refine caseI (fun hc4 => ?_) (fun hc4 => ?_)
  · refine condT ?_; rw [dispatcherref02_Args_R0_eq]; unfold dispatcherref02_Args_R0_F; refine condT ?_; subst hc4; exact ⟨rfl, rfl⟩
  refine condF ?_
  refine caseI (fun hc5 => ?_) (fun hc5 => ?_)
  · rw [dispatcherref02_Args_R0_eq]; unfold dispatcherref02_Args_R0_F; refine condT ?_; subst hc5; exact ⟨rfl, rfl⟩
  rw [dispatcherref02_Args_R0_eq]; unfold dispatcherref02_Args_R0_F; refine condF ?_
  refine caseI (fun hc6 => ?_) (fun hc6 => ?_)
  · refine condT ?_; rw [dispatcherref02_Args_R2_eq]; unfold dispatcherref02_Args_R2_F; refine condT ?_; subst hc6; exact ⟨rfl, rfl⟩
  refine condF ?_
  refine caseI (fun hc7 => ?_) (fun hc7 => ?_)
  · refine condT ?_; rw [dispatcherref02_Args_R2_eq]; unfold dispatcherref02_Args_R2_F; refine condT ?_; subst hc7; exact ⟨rfl, rfl⟩
  refine condF ?_
  refine caseI (fun hc13 => ?_) (fun hc13 => ?_)
  · refine condT ?_; rw [dispatcherref02_Args_R2_eq]; unfold dispatcherref02_Args_R2_F; refine condT ?_; subst hc13; exact ⟨rfl, rfl⟩
  refine condF ?_
  refine caseI (fun hc14 => ?_) (fun hc14 => ?_)
  · refine condT ?_; rw [dispatcherref02_Args_R2_eq]; unfold dispatcherref02_Args_R2_F; refine condT ?_; subst hc14; exact ⟨rfl, rfl⟩
  refine condF ?_
  refine caseI (fun hc16 => ?_) (fun hc16 => ?_)
  · refine condT ?_; rw [dispatcherref02_Args_R2_eq]; unfold dispatcherref02_Args_R2_F; refine condT ?_; subst hc16; exact ⟨rfl, rfl⟩
  refine condF ?_
  refine caseI (fun hc19 => ?_) (fun hc19 => ?_)
  · refine condT ?_; rw [dispatcherref02_Args_R2_eq]; unfold dispatcherref02_Args_R2_F; refine condT ?_; subst hc19; exact ⟨rfl, rfl⟩
  refine condF ?_
  refine caseI (fun hc17 => ?_) (fun hc17 => ?_)
  · refine condT ?_; rw [dispatcherref02_Args_R2_eq]; unfold dispatcherref02_Args_R2_F; refine condT ?_; subst hc17; exact ⟨rfl, rfl⟩
  refine condF ?_
  refine caseI (fun hc21 => ?_) (fun hc21 => ?_)
  · rw [dispatcherref02_Args_R2_eq]; unfold dispatcherref02_Args_R2_F; refine condT ?_; subst hc21; exact ⟨rfl, rfl⟩
  rw [dispatcherref02_Args_R2_eq]; unfold dispatcherref02_Args_R2_F; refine condF ?_
  refine caseI (fun hc18 => ?_) (fun hc18 => ?_)
  · refine condT ?_;  subst hc18; exact ⟨rfl, rfl⟩
  refine condF ?_
  refine caseI (fun hc8 => ?_) (fun hc8 => ?_)
  · refine condT ?_; rw [dispatcherref02_Args_R3_eq]; unfold dispatcherref02_Args_R3_F; refine condT ?_; subst hc8; exact ⟨rfl, rfl⟩
  refine condF ?_
  refine caseI (fun hc11 => ?_) (fun hc11 => ?_)
  · refine condT ?_; rw [dispatcherref02_Args_R3_eq]; unfold dispatcherref02_Args_R3_F; refine condT ?_; subst hc11; exact ⟨rfl, rfl⟩
  refine condF ?_
  refine caseI (fun hc15 => ?_) (fun hc15 => ?_)
  · refine condT ?_; rw [dispatcherref02_Args_R3_eq]; unfold dispatcherref02_Args_R3_F; refine condT ?_; subst hc15; exact ⟨rfl, rfl⟩
  refine condF ?_
  refine caseI (fun hc20 => ?_) (fun hc20 => ?_)
  · refine condT ?_; rw [dispatcherref02_Args_R3_eq]; unfold dispatcherref02_Args_R3_F; refine condT ?_; subst hc20; exact ⟨rfl, rfl⟩
  refine condF ?_
  refine caseI (fun hc22 => ?_) (fun hc22 => ?_)
  · rw [dispatcherref02_Args_R3_eq]; unfold dispatcherref02_Args_R3_F; refine condT ?_; subst hc22; exact ⟨rfl, rfl⟩
  rw [dispatcherref02_Args_R3_eq]; unfold dispatcherref02_Args_R3_F; refine condF ?_
  refine caseI (fun hc9 => ?_) (fun hc9 => ?_)
  · refine condT ?_; rw [dispatcherref02_Args_R4_eq]; unfold dispatcherref02_Args_R4_F; refine condT ?_; subst hc9; exact ⟨rfl, rfl⟩
  refine condF ?_
  refine caseI (fun hc10 => ?_) (fun hc10 => ?_)
  · refine condT ?_; rw [dispatcherref02_Args_R4_eq]; unfold dispatcherref02_Args_R4_F; refine condT ?_; subst hc10; exact ⟨rfl, rfl⟩
  refine condF ?_
  refine caseI (fun hc12 => ?_) (fun hc12 => ?_)
  · rw [dispatcherref02_Args_R4_eq]; unfold dispatcherref02_Args_R4_F; refine condT ?_; subst hc12; exact ⟨rfl, rfl⟩
  rw [dispatcherref02_Args_R4_eq]; unfold dispatcherref02_Args_R4_F; refine condF ?_
  rw [bk_n, sq_n, dispatcherref02_Args_R1_eq]; unfold dispatcherref02_Args_R1_F
  rw [show argsP k = (0, 0) by unfold argsP; rw [if_neg (by omega), if_neg (by omega), if_neg (by omega), if_neg (by omega), if_neg (by omega)]]
  exact ⟨rfl, rfl⟩
theorem reduces_ok (k : Int) (w : World) : Rt Tryd.prog 97 #[.int .u8 k] w fun v w' => v = .bool (redsP k) ∧ w' = w := by
  refine tree_reduces_calls ?_
  unfold tree_reduces_F redsP
  by_cases h : k = 17 <;> by_cases h' : k = 18 <;> simp [CondK_bool, MG_u, NG_u, VG_u, UG_u, PG_u, BG_u, CG_u, IG_u, MG_b, NG_b, VG_b, UG_b, PG_b, BG_b, CG_b, IG_b, PK_bool, NK_ptr, not_ok, reduceCtorEq, if_true, if_false, Bool.true_eq_false, Bool.false_eq_true, Bool.not_true, Bool.not_false, fo25_0, fo25_1, fo40_0, fo40_1, fo60_0, fo60_1, fo60_2, fo60_3, fo62_0, fo62_1, fo62_2, fo62_3, fo62_4, fo62_5, fo62_6, fo62_7, ld2, ld3, ld5, ld9, ld22, ld23, ld58, len9, len22, len23, len52, len58, ldK_some, cellE, blkC_c, add_pl, Nat.zero_add, List.getElem?_toArray, List.getElem?_cons_succ, List.getElem?_cons_zero, BK_lss, BK_leq, BK_gtr, BK_geq, BK_eql, BK_neq, BK_add, BK_sub, BK_eqlS, BK_neqS, decide_true, decide_false, Bool.and_true, Bool.true_and, Bool.and_false, Bool.false_and, Bool.or_true, Bool.true_or, Bool.or_false, Bool.false_or, ite_true, ite_false, h, h'] <;> omega
theorem Reduces_ok (k : Int) (w : World) : Rt Tryd.prog 99 #[.int .u8 k] w fun v w' => v = .bool (redsP k) ∧ w' = w := by
  refine dispatcherref02_Reduces_calls ?_
  unfold dispatcherref02_Reduces_F redsP
  by_cases h : k = 17 <;> by_cases h' : k = 18 <;> simp [CondK_bool, MG_u, NG_u, VG_u, UG_u, PG_u, BG_u, CG_u, IG_u, MG_b, NG_b, VG_b, UG_b, PG_b, BG_b, CG_b, IG_b, PK_bool, NK_ptr, not_ok, reduceCtorEq, if_true, if_false, Bool.true_eq_false, Bool.false_eq_true, Bool.not_true, Bool.not_false, fo25_0, fo25_1, fo40_0, fo40_1, fo60_0, fo60_1, fo60_2, fo60_3, fo62_0, fo62_1, fo62_2, fo62_3, fo62_4, fo62_5, fo62_6, fo62_7, ld2, ld3, ld5, ld9, ld22, ld23, ld58, len9, len22, len23, len52, len58, ldK_some, cellE, blkC_c, add_pl, Nat.zero_add, List.getElem?_toArray, List.getElem?_cons_succ, List.getElem?_cons_zero, BK_lss, BK_leq, BK_gtr, BK_geq, BK_eql, BK_neq, BK_add, BK_sub, BK_eqlS, BK_neqS, decide_true, decide_false, Bool.and_true, Bool.true_and, Bool.and_false, Bool.false_and, Bool.or_true, Bool.true_or, Bool.or_false, Bool.false_or, ite_true, ite_false, h, h'] <;> omega
theorem PlainR_ok (b : ByteArray) (w : World) : Rt Tryd.prog 101 #[.string b] w fun v w' => v = .bool (plainP b) ∧ w' = w := by
  refine dispatcherref02_Plain_calls ?_
  unfold dispatcherref02_Plain_F
  refine caseS (fun hcrank => ?_) (fun hcrank => ?_)
  · refine condT ?_; rw [dispatcherref02_Plain_R0_eq]; unfold dispatcherref02_Plain_R0_F; refine condT ?_; rw [show plainP b = true by unfold plainP; rw [hcrank]; decide +kernel]; exact ⟨rfl, rfl⟩
  refine condF ?_
  refine caseS (fun hcsize => ?_) (fun hcsize => ?_)
  · refine condT ?_; rw [dispatcherref02_Plain_R0_eq]; unfold dispatcherref02_Plain_R0_F; refine condT ?_; rw [show plainP b = true by unfold plainP; rw [hcsize]; decide +kernel]; exact ⟨rfl, rfl⟩
  refine condF ?_
  refine caseS (fun hcany => ?_) (fun hcany => ?_)
  · refine condT ?_; rw [dispatcherref02_Plain_R0_eq]; unfold dispatcherref02_Plain_R0_F; refine condT ?_; rw [show plainP b = true by unfold plainP; rw [hcany]; decide +kernel]; exact ⟨rfl, rfl⟩
  refine condF ?_
  refine caseS (fun hcvalue => ?_) (fun hcvalue => ?_)
  · refine condT ?_; rw [dispatcherref02_Plain_R0_eq]; unfold dispatcherref02_Plain_R0_F; refine condT ?_; rw [show plainP b = true by unfold plainP; rw [hcvalue]; decide +kernel]; exact ⟨rfl, rfl⟩
  refine condF ?_
  refine caseS (fun hcpeer => ?_) (fun hcpeer => ?_)
  · refine condT ?_; rw [dispatcherref02_Plain_R0_eq]; unfold dispatcherref02_Plain_R0_F; refine condT ?_; rw [show plainP b = true by unfold plainP; rw [hcpeer]; decide +kernel]; exact ⟨rfl, rfl⟩
  refine condF ?_
  refine caseS (fun hctag => ?_) (fun hctag => ?_)
  · refine condT ?_; rw [dispatcherref02_Plain_R0_eq]; unfold dispatcherref02_Plain_R0_F; refine condT ?_; rw [show plainP b = true by unfold plainP; rw [hctag]; decide +kernel]; exact ⟨rfl, rfl⟩
  refine condF ?_
  refine caseS (fun hcflag => ?_) (fun hcflag => ?_)
  · refine condT ?_; rw [dispatcherref02_Plain_R0_eq]; unfold dispatcherref02_Plain_R0_F; refine condT ?_; rw [show plainP b = true by unfold plainP; rw [hcflag]; decide +kernel]; exact ⟨rfl, rfl⟩
  refine condF ?_
  refine caseS (fun hcindex => ?_) (fun hcindex => ?_)
  · refine condT ?_; rw [dispatcherref02_Plain_R0_eq]; unfold dispatcherref02_Plain_R0_F; refine condT ?_; rw [show plainP b = true by unfold plainP; rw [hcindex]; decide +kernel]; exact ⟨rfl, rfl⟩
  refine condF ?_
  refine caseS (fun hcreq => ?_) (fun hcreq => ?_)
  · refine condT ?_; rw [dispatcherref02_Plain_R0_eq]; unfold dispatcherref02_Plain_R0_F; refine condT ?_; rw [show plainP b = true by unfold plainP; rw [hcreq]; decide +kernel]; exact ⟨rfl, rfl⟩
  refine condF ?_
  refine caseS (fun hccomm => ?_) (fun hccomm => ?_)
  · rw [dispatcherref02_Plain_R0_eq]; unfold dispatcherref02_Plain_R0_F; refine condT ?_; rw [show plainP b = true by unfold plainP; rw [hccomm]; decide +kernel]; exact ⟨rfl, rfl⟩
  rw [dispatcherref02_Plain_R0_eq]; unfold dispatcherref02_Plain_R0_F; refine condF ?_
  rw [bk_n, sq_n, dispatcherref02_Plain_R1_eq]; unfold dispatcherref02_Plain_R1_F
  rw [show plainP b = false by unfold plainP plainL; simp only [List.contains_cons, List.contains_nil, Bool.or_false, Bool.or_eq_false_iff, beq_eq_false_iff_ne]; exact ⟨hcrank, hcsize, hcany, hcvalue, hcpeer, hctag, hcflag, hcindex, hcreq, hccomm⟩]
  exact ⟨rfl, rfl⟩
end Go.Proofs.YtbnbcimjapiicaaDoor.Tr
