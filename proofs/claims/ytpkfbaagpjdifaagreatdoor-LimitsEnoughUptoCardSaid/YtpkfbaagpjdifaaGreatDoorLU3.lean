/- Several texts of this repo, one behind the other, without what is not used here. -/
import Derived.MapKept
import Derived.Laws.StructEq
import Derived.Test.YtpkfbaagpjdifaaGreatDoorLU2
set_option linter.unusedVariables false
set_option linter.unusedSimpArgs false
set_option maxRecDepth 4000
namespace Go.Proofs.YtpkfbaagpjdifaaGreatDoor.Tr
open Go Go.X Go.RowKit Go.Proofs.YtpkfbaagpjdifaaGreatDoor.XF Go.Proofs.YtpkfbaagpjdifaaGreatDoor.XK
theorem SidesR_ok (op : Int) (w : World) : Rt Tryz.prog 127 #[.int .u8 op] w fun v w' => v = .int .i64 (sidesP op) ∧ w' = w := by
  refine dispatcherref02_Sides_calls ?_
  unfold dispatcherref02_Sides_F
  refine caseI (fun hc3 => ?_) (fun hc3 => ?_)
  · refine condT ?_; rw [dispatcherref02_Sides_R0_eq]; unfold dispatcherref02_Sides_R0_F; refine condT ?_; subst hc3; exact ⟨rfl, rfl⟩
  refine condF ?_
  refine caseI (fun hc4 => ?_) (fun hc4 => ?_)
  · refine condT ?_; rw [dispatcherref02_Sides_R0_eq]; unfold dispatcherref02_Sides_R0_F; refine condT ?_; subst hc4; exact ⟨rfl, rfl⟩
  refine condF ?_
  refine caseI (fun hc6 => ?_) (fun hc6 => ?_)
  · refine condT ?_; rw [dispatcherref02_Sides_R0_eq]; unfold dispatcherref02_Sides_R0_F; refine condT ?_; subst hc6; exact ⟨rfl, rfl⟩
  refine condF ?_
  refine caseI (fun hc7 => ?_) (fun hc7 => ?_)
  · rw [dispatcherref02_Sides_R0_eq]; unfold dispatcherref02_Sides_R0_F; refine condT ?_; subst hc7; exact ⟨rfl, rfl⟩
  rw [dispatcherref02_Sides_R0_eq]; unfold dispatcherref02_Sides_R0_F; refine condF ?_
  refine caseI (fun hc8 => ?_) (fun hc8 => ?_)
  · refine condT ?_; rw [dispatcherref02_Sides_R2_eq]; unfold dispatcherref02_Sides_R2_F; refine condT ?_; subst hc8; exact ⟨rfl, rfl⟩
  refine condF ?_
  refine caseI (fun hc9 => ?_) (fun hc9 => ?_)
  · refine condT ?_; rw [dispatcherref02_Sides_R2_eq]; unfold dispatcherref02_Sides_R2_F; refine condT ?_; subst hc9; exact ⟨rfl, rfl⟩
  refine condF ?_
  refine caseI (fun hc10 => ?_) (fun hc10 => ?_)
  · refine condT ?_; rw [dispatcherref02_Sides_R2_eq]; unfold dispatcherref02_Sides_R2_F; refine condT ?_; subst hc10; exact ⟨rfl, rfl⟩
  refine condF ?_
  refine caseI (fun hc11 => ?_) (fun hc11 => ?_)
  · refine condT ?_; rw [dispatcherref02_Sides_R2_eq]; unfold dispatcherref02_Sides_R2_F; refine condT ?_; subst hc11; exact ⟨rfl, rfl⟩
  refine condF ?_
  refine caseI (fun hc12 => ?_) (fun hc12 => ?_)
  · refine condT ?_; rw [dispatcherref02_Sides_R2_eq]; unfold dispatcherref02_Sides_R2_F; refine condT ?_; subst hc12; exact ⟨rfl, rfl⟩
  refine condF ?_
  refine caseI (fun hc13 => ?_) (fun hc13 => ?_)
  · refine condT ?_; rw [dispatcherref02_Sides_R2_eq]; unfold dispatcherref02_Sides_R2_F; refine condT ?_; subst hc13; exact ⟨rfl, rfl⟩
  refine condF ?_
  refine caseI (fun hc14 => ?_) (fun hc14 => ?_)
  · refine condT ?_; rw [dispatcherref02_Sides_R2_eq]; unfold dispatcherref02_Sides_R2_F; refine condT ?_; subst hc14; exact ⟨rfl, rfl⟩
  refine condF ?_
  refine caseI (fun hc15 => ?_) (fun hc15 => ?_)
  · refine condT ?_; rw [dispatcherref02_Sides_R2_eq]; unfold dispatcherref02_Sides_R2_F; refine condT ?_; subst hc15; exact ⟨rfl, rfl⟩
  refine condF ?_
  refine caseI (fun hc16 => ?_) (fun hc16 => ?_)
  · refine condT ?_; rw [dispatcherref02_Sides_R2_eq]; unfold dispatcherref02_Sides_R2_F; refine condT ?_; subst hc16; exact ⟨rfl, rfl⟩
  refine condF ?_
  refine caseI (fun hc17 => ?_) (fun hc17 => ?_)
  · refine condT ?_; rw [dispatcherref02_Sides_R2_eq]; unfold dispatcherref02_Sides_R2_F; refine condT ?_; subst hc17; exact ⟨rfl, rfl⟩
  refine condF ?_
  refine caseI (fun hc18 => ?_) (fun hc18 => ?_)
  · refine condT ?_; rw [dispatcherref02_Sides_R2_eq]; unfold dispatcherref02_Sides_R2_F; refine condT ?_; subst hc18; exact ⟨rfl, rfl⟩
  refine condF ?_
  refine caseI (fun hc19 => ?_) (fun hc19 => ?_)
  · refine condT ?_; rw [dispatcherref02_Sides_R2_eq]; unfold dispatcherref02_Sides_R2_F; refine condT ?_; subst hc19; exact ⟨rfl, rfl⟩
  refine condF ?_
  refine caseI (fun hc20 => ?_) (fun hc20 => ?_)
  · rw [dispatcherref02_Sides_R2_eq]; unfold dispatcherref02_Sides_R2_F; refine condT ?_; subst hc20; exact ⟨rfl, rfl⟩
  rw [dispatcherref02_Sides_R2_eq]; unfold dispatcherref02_Sides_R2_F; refine condF ?_
  rw [bk_n, sq_n, dispatcherref02_Sides_R1_eq]; unfold dispatcherref02_Sides_R1_F
  rw [show sidesP op = 0 by unfold sidesP; rw [if_neg (by omega), if_neg (by omega)]]
  exact ⟨rfl, rfl⟩
theorem ArgsR_ok (k : Int) (w : World) : Rt Tryz.prog 109 #[.int .u8 k] w fun v w' => v = .tuple #[.int .i64 (argsP k).1, .int .i64 (argsP k).2] ∧ w' = w := by
  refine dispatcherref02_Args_calls ?_
  unfold dispatcherref02_Args_F
  refine caseI (fun hc1 => ?_) (fun hc1 => ?_)
  · refine condT ?_; rw [dispatcherref02_Args_R0_eq]; unfold dispatcherref02_Args_R0_F; refine condT ?_; subst hc1; exact ⟨rfl, rfl⟩
  refine condF ?_
  refine caseI (fun hc2 => ?_) (fun hc2 => ?_)
  · refine condT ?_; rw [dispatcherref02_Args_R0_eq]; unfold dispatcherref02_Args_R0_F; refine condT ?_; subst hc2; exact ⟨rfl, rfl⟩
  refine condF ?_
  refine caseI (fun hc3 => ?_) (fun hc3 => ?_)
  · refine condT ?_; rw [dispatcherref02_Args_R0_eq]; unfold dispatcherref02_Args_R0_F; refine condT ?_; subst hc3; exact ⟨rfl, rfl⟩
  refine condF ?_
  refine caseI (fun hc4 => ?_) (fun hc4 => ?_)
  · refine condT ?_; rw [dispatcherref02_Args_R0_eq]; unfold dispatcherref02_Args_R0_F; refine condT ?_; subst hc4; exact ⟨rfl, rfl⟩
  refine condF ?_
  refine caseI (fun hc5 => ?_) (fun hc5 => ?_)
  · rw [dispatcherref02_Args_R0_eq]; unfold dispatcherref02_Args_R0_F; refine condT ?_; subst hc5; exact ⟨rfl, rfl⟩
  rw [dispatcherref02_Args_R0_eq]; unfold dispatcherref02_Args_R0_F; refine condF ?_
  refine caseI (fun hc6 => ?_) (fun hc6 => ?_)
  · refine condT ?_; rw [dispatcherref02_Args_R2_eq]; unfold dispatcherref02_Args_R2_F; refine condT ?_; subst hc6; exact ⟨rfl, rfl⟩
  refine condF ?_
  refine caseI (fun hc7 => ?_) (fun hc7 => ?_)
  · refine condT ?_; rw [dispatcherref02_Args_R2_eq]; unfold dispatcherref02_Args_R2_F; refine condT ?_; subst hc7; exact ⟨rfl, rfl⟩
  refine condF ?_
  refine caseI (fun hc13 => ?_) (fun hc13 => ?_)
  · refine condT ?_; rw [dispatcherref02_Args_R2_eq]; unfold dispatcherref02_Args_R2_F; refine condT ?_; subst hc13; exact ⟨rfl, rfl⟩
  refine condF ?_
  refine caseI (fun hc14 => ?_) (fun hc14 => ?_)
  · refine condT ?_; rw [dispatcherref02_Args_R2_eq]; unfold dispatcherref02_Args_R2_F; refine condT ?_; subst hc14; exact ⟨rfl, rfl⟩
  refine condF ?_
  refine caseI (fun hc16 => ?_) (fun hc16 => ?_)
  · refine condT ?_; rw [dispatcherref02_Args_R2_eq]; unfold dispatcherref02_Args_R2_F; refine condT ?_; subst hc16; exact ⟨rfl, rfl⟩
  refine condF ?_
  refine caseI (fun hc19 => ?_) (fun hc19 => ?_)
  · refine condT ?_; rw [dispatcherref02_Args_R2_eq]; unfold dispatcherref02_Args_R2_F; refine condT ?_; subst hc19; exact ⟨rfl, rfl⟩
  refine condF ?_
  refine caseI (fun hc17 => ?_) (fun hc17 => ?_)
  · refine condT ?_; rw [dispatcherref02_Args_R2_eq]; unfold dispatcherref02_Args_R2_F; refine condT ?_; subst hc17; exact ⟨rfl, rfl⟩
  refine condF ?_
  refine caseI (fun hc21 => ?_) (fun hc21 => ?_)
  · rw [dispatcherref02_Args_R2_eq]; unfold dispatcherref02_Args_R2_F; refine condT ?_; subst hc21; exact ⟨rfl, rfl⟩
  rw [dispatcherref02_Args_R2_eq]; unfold dispatcherref02_Args_R2_F; refine condF ?_
  refine caseI (fun hc18 => ?_) (fun hc18 => ?_)
  · refine condT ?_;  subst hc18; exact ⟨rfl, rfl⟩
  refine condF ?_
  refine caseI (fun hc8 => ?_) (fun hc8 => ?_)
  · refine condT ?_; rw [dispatcherref02_Args_R3_eq]; unfold dispatcherref02_Args_R3_F; refine condT ?_; subst hc8; exact ⟨rfl, rfl⟩
  refine condF ?_
  refine caseI (fun hc11 => ?_) (fun hc11 => ?_)
  · refine condT ?_; rw [dispatcherref02_Args_R3_eq]; unfold dispatcherref02_Args_R3_F; refine condT ?_; subst hc11; exact ⟨rfl, rfl⟩
  refine condF ?_
  refine caseI (fun hc15 => ?_) (fun hc15 => ?_)
  · refine condT ?_; rw [dispatcherref02_Args_R3_eq]; unfold dispatcherref02_Args_R3_F; refine condT ?_; subst hc15; exact ⟨rfl, rfl⟩
  refine condF ?_
  refine caseI (fun hc20 => ?_) (fun hc20 => ?_)
  · refine condT ?_; rw [dispatcherref02_Args_R3_eq]; unfold dispatcherref02_Args_R3_F; refine condT ?_; subst hc20; exact ⟨rfl, rfl⟩
  refine condF ?_
  refine caseI (fun hc22 => ?_) (fun hc22 => ?_)
  · rw [dispatcherref02_Args_R3_eq]; unfold dispatcherref02_Args_R3_F; refine condT ?_; subst hc22; exact ⟨rfl, rfl⟩
  rw [dispatcherref02_Args_R3_eq]; unfold dispatcherref02_Args_R3_F; refine condF ?_
  refine caseI (fun hc9 => ?_) (fun hc9 => ?_)
  · refine condT ?_; rw [dispatcherref02_Args_R4_eq]; unfold dispatcherref02_Args_R4_F; refine condT ?_; subst hc9; exact ⟨rfl, rfl⟩
  refine condF ?_
  refine caseI (fun hc10 => ?_) (fun hc10 => ?_)
  · refine condT ?_; rw [dispatcherref02_Args_R4_eq]; unfold dispatcherref02_Args_R4_F; refine condT ?_; subst hc10; exact ⟨rfl, rfl⟩
  refine condF ?_
  refine caseI (fun hc12 => ?_) (fun hc12 => ?_)
  · rw [dispatcherref02_Args_R4_eq]; unfold dispatcherref02_Args_R4_F; refine condT ?_; subst hc12; exact ⟨rfl, rfl⟩
  rw [dispatcherref02_Args_R4_eq]; unfold dispatcherref02_Args_R4_F; refine condF ?_
  rw [bk_n, sq_n, dispatcherref02_Args_R1_eq]; unfold dispatcherref02_Args_R1_F
  rw [show argsP k = (0, 0) by unfold argsP; rw [if_neg (by omega), if_neg (by omega), if_neg (by omega), if_neg (by omega), if_neg (by omega)]]
  exact ⟨rfl, rfl⟩
theorem reduces_ok (k : Int) (w : World) : Rt Tryz.prog 125 #[.int .u8 k] w fun v w' => v = .bool (redsP k) ∧ w' = w := by
  refine tree_reduces_calls ?_
  unfold tree_reduces_F redsP
  by_cases h : k = 17 <;> by_cases h' : k = 18 <;> simp [CondK_bool, MG_u, NG_u, VG_u, UG_u, PG_u, BG_u, CG_u, IG_u, MG_b, NG_b, VG_b, UG_b, PG_b, BG_b, CG_b, IG_b, PK_bool, NK_ptr, not_ok, reduceCtorEq, if_true, if_false, Bool.true_eq_false, Bool.false_eq_true, Bool.not_true, Bool.not_false, fo25_0, fo25_1, fo48_0, fo48_1, fo62_0, fo62_1, fo62_2, fo62_3, fo62_4, fo62_5, fo62_6, fo62_7, fo85_0, fo85_1, fo85_2, fo85_3, ld2, ld3, ld5, ld9, ld22, ld23, ld60, len9, len22, len23, len60, len111, ldK_some, cellE, blkC_c, add_pl, Nat.zero_add, List.getElem?_toArray, List.getElem?_cons_succ, List.getElem?_cons_zero, BK_lss, BK_leq, BK_gtr, BK_geq, BK_eql, BK_neq, BK_add, BK_sub, BK_eqlS, BK_neqS, decide_true, decide_false, Bool.and_true, Bool.true_and, Bool.and_false, Bool.false_and, Bool.or_true, Bool.true_or, Bool.or_false, Bool.false_or, ite_true, ite_false, h, h'] <;> omega
theorem Reduces_ok (k : Int) (w : World) : Rt Tryz.prog 115 #[.int .u8 k] w fun v w' => v = .bool (redsP k) ∧ w' = w := by
  refine dispatcherref02_Reduces_calls ?_
  unfold dispatcherref02_Reduces_F redsP
  by_cases h : k = 17 <;> by_cases h' : k = 18 <;> simp [CondK_bool, MG_u, NG_u, VG_u, UG_u, PG_u, BG_u, CG_u, IG_u, MG_b, NG_b, VG_b, UG_b, PG_b, BG_b, CG_b, IG_b, PK_bool, NK_ptr, not_ok, reduceCtorEq, if_true, if_false, Bool.true_eq_false, Bool.false_eq_true, Bool.not_true, Bool.not_false, fo25_0, fo25_1, fo48_0, fo48_1, fo62_0, fo62_1, fo62_2, fo62_3, fo62_4, fo62_5, fo62_6, fo62_7, fo85_0, fo85_1, fo85_2, fo85_3, ld2, ld3, ld5, ld9, ld22, ld23, ld60, len9, len22, len23, len60, len111, ldK_some, cellE, blkC_c, add_pl, Nat.zero_add, List.getElem?_toArray, List.getElem?_cons_succ, List.getElem?_cons_zero, BK_lss, BK_leq, BK_gtr, BK_geq, BK_eql, BK_neq, BK_add, BK_sub, BK_eqlS, BK_neqS, decide_true, decide_false, Bool.and_true, Bool.true_and, Bool.and_false, Bool.false_and, Bool.or_true, Bool.true_or, Bool.or_false, Bool.false_or, ite_true, ite_false, h, h'] <;> omega
theorem PlainR_ok (b : ByteArray) (w : World) : Rt Tryz.prog 128 #[.string b] w fun v w' => v = .bool (plainP b) ∧ w' = w := by
  refine dispatcherref02_Plain_calls ?_
  unfold dispatcherref02_Plain_F
  refine caseS (fun hcrank => ?_) (fun hcrank => ?_)
  · refine condT ?_; rw [dispatcherref02_Plain_R0_eq]; unfold dispatcherref02_Plain_R0_F; refine condT ?_; rw [show plainP b = true by unfold plainP; rw [hcrank]; decide +kernel]; exact ⟨rfl, rfl⟩
  refine condF ?_
  refine caseS (fun hcsize => ?_) (fun hcsize => ?_)
  · refine condT ?_; rw [dispatcherref02_Plain_R0_eq]; unfold dispatcherref02_Plain_R0_F; refine condT ?_; rw [show plainP b = true by unfold plainP; rw [hcsize]; decide +kernel]; exact ⟨rfl, rfl⟩
  refine condF ?_
  refine caseS (fun hcany => ?_) (fun hcany => ?_)
  · refine condT ?_; rw [dispatcherref02_Plain_R0_eq]; unfold dispatcherref02_Plain_R0_F; refine condT ?_; rw [show plainP b = true by unfold plainP; rw [hcany]; decide +kernel]; exact ⟨rfl, rfl⟩
  refine condF ?_
  refine caseS (fun hcvalue => ?_) (fun hcvalue => ?_)
  · refine condT ?_; rw [dispatcherref02_Plain_R0_eq]; unfold dispatcherref02_Plain_R0_F; refine condT ?_; rw [show plainP b = true by unfold plainP; rw [hcvalue]; decide +kernel]; exact ⟨rfl, rfl⟩
  refine condF ?_
  refine caseS (fun hcpeer => ?_) (fun hcpeer => ?_)
  · refine condT ?_; rw [dispatcherref02_Plain_R0_eq]; unfold dispatcherref02_Plain_R0_F; refine condT ?_; rw [show plainP b = true by unfold plainP; rw [hcpeer]; decide +kernel]; exact ⟨rfl, rfl⟩
  refine condF ?_
  refine caseS (fun hctag => ?_) (fun hctag => ?_)
  · refine condT ?_; rw [dispatcherref02_Plain_R0_eq]; unfold dispatcherref02_Plain_R0_F; refine condT ?_; rw [show plainP b = true by unfold plainP; rw [hctag]; decide +kernel]; exact ⟨rfl, rfl⟩
  refine condF ?_
  refine caseS (fun hcflag => ?_) (fun hcflag => ?_)
  · refine condT ?_; rw [dispatcherref02_Plain_R0_eq]; unfold dispatcherref02_Plain_R0_F; refine condT ?_; rw [show plainP b = true by unfold plainP; rw [hcflag]; decide +kernel]; exact ⟨rfl, rfl⟩
  refine condF ?_
  refine caseS (fun hcindex => ?_) (fun hcindex => ?_)
  · refine condT ?_; rw [dispatcherref02_Plain_R0_eq]; unfold dispatcherref02_Plain_R0_F; refine condT ?_; rw [show plainP b = true by unfold plainP; rw [hcindex]; decide +kernel]; exact ⟨rfl, rfl⟩
  refine condF ?_
  refine caseS (fun hcreq => ?_) (fun hcreq => ?_)
  · refine condT ?_; rw [dispatcherref02_Plain_R0_eq]; unfold dispatcherref02_Plain_R0_F; refine condT ?_; rw [show plainP b = true by unfold plainP; rw [hcreq]; decide +kernel]; exact ⟨rfl, rfl⟩
  refine condF ?_
  refine caseS (fun hccomm => ?_) (fun hccomm => ?_)
  · rw [dispatcherref02_Plain_R0_eq]; unfold dispatcherref02_Plain_R0_F; refine condT ?_; rw [show plainP b = true by unfold plainP; rw [hccomm]; decide +kernel]; exact ⟨rfl, rfl⟩
  rw [dispatcherref02_Plain_R0_eq]; unfold dispatcherref02_Plain_R0_F; refine condF ?_
  rw [bk_n, sq_n, dispatcherref02_Plain_R1_eq]; unfold dispatcherref02_Plain_R1_F
  rw [show plainP b = false by unfold plainP plainL; simp only [List.contains_cons, List.contains_nil, Bool.or_false, Bool.or_eq_false_iff, beq_eq_false_iff_ne]; exact ⟨hcrank, hcsize, hcany, hcvalue, hcpeer, hctag, hcflag, hcindex, hcreq, hccomm⟩]
  exact ⟨rfl, rfl⟩
end Go.Proofs.YtpkfbaagpjdifaaGreatDoor.Tr
set_option linter.unusedVariables false
set_option linter.unusedSimpArgs false
set_option maxRecDepth 4000
namespace Go.Proofs.YtpkfbaagpjdifaaGreatDoor.Tr
open Go Go.X Go.RowKit Go.Proofs.YtpkfbaagpjdifaaGreatDoor.XF Go.Proofs.YtpkfbaagpjdifaaGreatDoor.XK
theorem head_at (b : ByteArray) (h : 0 < b.size) : b.data.toList.head? = some (b[0]'h) := by
  rw [List.head?_eq_getElem?, List.getElem?_eq_getElem (by simpa using h), Array.getElem_toList]
  rfl
theorem empty_iff (b : ByteArray) : (b.data.toList == (⟨#[]⟩ : ByteArray).data.toList) = decide (b.size = 0) := by
  by_cases h : b.size = 0
  · have : b.data.toList = [] := List.length_eq_zero_iff.1 (by simpa using h)
    rw [this]; simp [h]
  · have : b.data.toList ≠ [] := fun q => h (by have := congrArg List.length q; simpa using this)
    show (b.data.toList == []) = _
    rw [beq_eq_false_iff_ne.2 this, decide_eq_false h]
theorem Name_ok {w : World} (hg : Gl w) (b : ByteArray) (hb : b.size ≤ maxLen) : Rt Tryz.prog 68 #[.string b] w fun v w' => v = .bool (nameP b) ∧ Mod none_ w w' := by
  refine scan_Name_calls ?_
  unfold scan_Name_F
  rw [BK_neqS, ByteArray.toList_eq, ByteArray.toList_eq, empty_iff]
  by_cases h0 : b.size = 0
  · rw [decide_eq_true h0]
    simp only [CondK_bool, MG_u, NG_u, VG_u, UG_u, PG_u, BG_u, CG_u, IG_u, MG_b, NG_b, VG_b, UG_b, PG_b, BG_b, CG_b, IG_b, PK_bool, NK_ptr, not_ok, reduceCtorEq, if_true, if_false, Bool.true_eq_false, Bool.false_eq_true, Bool.not_true, Bool.not_false]
    refine ⟨?_, Mod.refl _ _⟩
    unfold nameP
    rw [show decide (1 ≤ b.size) = false from decide_eq_false (by omega)]
    rfl
  rw [decide_eq_false h0]
  have hpos : 0 < b.size := by omega
  simp only [CondK_bool, MG_u, NG_u, VG_u, UG_u, PG_u, BG_u, CG_u, IG_u, MG_b, NG_b, VG_b, UG_b, PG_b, BG_b, CG_b, IG_b, PK_bool, NK_ptr, not_ok, reduceCtorEq, if_true, if_false, Bool.true_eq_false, Bool.false_eq_true, Bool.not_true, Bool.not_false]
  refine CK_st Tryz.func96 rfl rfl (length_ok b hb w) ?_
  rintro _ w1 ⟨⟨r, rfl, hr⟩, hm⟩
  simp only [fo25_0, fo25_1, fo48_0, fo48_1, fo62_0, fo62_1, fo62_2, fo62_3, fo62_4, fo62_5, fo62_6, fo62_7, fo85_0, fo85_1, fo85_2, fo85_3, ld2, ld3, ld5, ld9, ld22, ld23, ld60, len9, len22, len23, len60, len111, ldK_some, cellE, blkC_c, add_pl, Nat.zero_add, List.getElem?_toArray, List.getElem?_cons_succ, List.getElem?_cons_zero, BK_eql]
  have n1 : decide (1 ≤ b.size) = true := decide_eq_true (by omega)
  by_cases hall : b.data.toList.all alnumP = true
  · have e := hr.2 hall
    subst e
    rw [beq_self_eq_true]
    simp only [CondK_bool, MG_u, NG_u, VG_u, UG_u, PG_u, BG_u, CG_u, IG_u, MG_b, NG_b, VG_b, UG_b, PG_b, BG_b, CG_b, IG_b, PK_bool, NK_ptr, not_ok, reduceCtorEq, if_true, if_false, Bool.true_eq_false, Bool.false_eq_true, Bool.not_true, Bool.not_false]
    refine idxS_ok b w1 hpos (conv_ok _ w1 ?_)
    refine CK_st Tryz.func98 rfl rfl (letter_ok _ w1) ?_
    rintro _ w1 ⟨rfl, rfl⟩
    rw [letter_nat]
    cases hl : letterP (b[0]'hpos) with
    | false =>
      simp only [CondK_bool, MG_u, NG_u, VG_u, UG_u, PG_u, BG_u, CG_u, IG_u, MG_b, NG_b, VG_b, UG_b, PG_b, BG_b, CG_b, IG_b, PK_bool, NK_ptr, not_ok, reduceCtorEq, if_true, if_false, Bool.true_eq_false, Bool.false_eq_true, Bool.not_true, Bool.not_false]
      refine ⟨?_, hm⟩
      unfold nameP
      rw [head_at b hpos, Option.any_some, hl]
      simp
    | true =>
      simp only [fo25_0, fo25_1, fo48_0, fo48_1, fo62_0, fo62_1, fo62_2, fo62_3, fo62_4, fo62_5, fo62_6, fo62_7, fo85_0, fo85_1, fo85_2, fo85_3, ld2, ld3, ld5, ld9, ld22, ld23, ld60, len9, len22, len23, len60, len111, ldK_some, cellE, blkC_c, add_pl, Nat.zero_add, List.getElem?_toArray, List.getElem?_cons_succ, List.getElem?_cons_zero, CondK_bool, MG_u, NG_u, VG_u, UG_u, PG_u, BG_u, CG_u, IG_u, MG_b, NG_b, VG_b, UG_b, PG_b, BG_b, CG_b, IG_b, PK_bool, NK_ptr, not_ok, reduceCtorEq, if_true, if_false, Bool.true_eq_false, Bool.false_eq_true, Bool.not_true, Bool.not_false, BK_leq]
      by_cases h12 : b.size ≤ 12
      · rw [show decide ((b.size : Int) ≤ 12) = true by simp; omega]
        simp only [CondK_bool, MG_u, NG_u, VG_u, UG_u, PG_u, BG_u, CG_u, IG_u, MG_b, NG_b, VG_b, UG_b, PG_b, BG_b, CG_b, IG_b, PK_bool, NK_ptr, not_ok, reduceCtorEq, if_true, if_false, Bool.true_eq_false, Bool.false_eq_true, Bool.not_true, Bool.not_false]
        refine CK_st Tryz.func99 rfl rfl (Word_ok (hg.mod hm) b) ?_
        rintro _ w1 ⟨rfl, rfl⟩
        simp only [CondK_bool, MG_u, NG_u, VG_u, UG_u, PG_u, BG_u, CG_u, IG_u, MG_b, NG_b, VG_b, UG_b, PG_b, BG_b, CG_b, IG_b, PK_bool, NK_ptr, not_ok, reduceCtorEq, if_true, if_false, Bool.true_eq_false, Bool.false_eq_true, Bool.not_true, Bool.not_false]
        refine ⟨?_, hm⟩
        unfold nameP
        rw [head_at b hpos, Option.any_some, hl, hall, n1, decide_eq_true h12]
        simp
      · rw [show decide ((b.size : Int) ≤ 12) = false by simp; omega]
        simp only [CondK_bool, MG_u, NG_u, VG_u, UG_u, PG_u, BG_u, CG_u, IG_u, MG_b, NG_b, VG_b, UG_b, PG_b, BG_b, CG_b, IG_b, PK_bool, NK_ptr, not_ok, reduceCtorEq, if_true, if_false, Bool.true_eq_false, Bool.false_eq_true, Bool.not_true, Bool.not_false]
        refine ⟨?_, hm⟩
        unfold nameP
        rw [decide_eq_false h12]
        simp
  · have e : ¬ r = b.size := fun q => hall (hr.1 q)
    rw [show ((r : Int) == (b.size : Int)) = false by rw [beq_eq_false_iff_ne]; omega]
    simp only [CondK_bool, MG_u, NG_u, VG_u, UG_u, PG_u, BG_u, CG_u, IG_u, MG_b, NG_b, VG_b, UG_b, PG_b, BG_b, CG_b, IG_b, PK_bool, NK_ptr, not_ok, reduceCtorEq, if_true, if_false, Bool.true_eq_false, Bool.false_eq_true, Bool.not_true, Bool.not_false]
    refine ⟨?_, hm⟩
    unfold nameP
    rw [Bool.eq_false_iff.2 hall]
    simp
theorem wordsB : builtRow Tryz.prog 111 43 [(0, txt wordsL[0]), (1, txt wordsL[1]), (2, txt wordsL[2]), (3, txt wordsL[3]), (4, txt wordsL[4]), (5, txt wordsL[5]), (6, txt wordsL[6]), (7, txt wordsL[7]), (8, txt wordsL[8]), (9, txt wordsL[9]), (10, txt wordsL[10]), (11, txt wordsL[11]), (12, txt wordsL[12]), (13, txt wordsL[13]), (14, txt wordsL[14]), (15, txt wordsL[15]), (16, txt wordsL[16]), (17, txt wordsL[17]), (18, txt wordsL[18]), (19, txt wordsL[19]), (20, txt wordsL[20]), (21, txt wordsL[21]), (22, txt wordsL[22]), (23, txt wordsL[23]), (24, txt wordsL[24]), (25, txt wordsL[25]), (26, txt wordsL[26]), (27, txt wordsL[27]), (28, txt wordsL[28]), (29, txt wordsL[29]), (30, txt wordsL[30]), (31, txt wordsL[31]), (32, txt wordsL[32]), (33, txt wordsL[33]), (34, txt wordsL[34]), (35, txt wordsL[35]), (36, txt wordsL[36]), (37, txt wordsL[37]), (38, txt wordsL[38]), (39, txt wordsL[39]), (40, txt wordsL[40]), (41, txt wordsL[41]), (42, txt wordsL[42])] = some (wordsL.map txt).toArray := by kernel_rfl
theorem Words_ok (w : World) : Rt Tryz.prog 112 #[] w fun v w' => reads w' 1 v wordsL.length (wordsL.map txt) ∧ Mod none_ w w' := by
  refine dispatcherref01_Words_calls ?_
  unfold dispatcherref01_Words_F
  refine bs_k wordsB fun w1 hb hm _ => ?_
  exact ⟨reads_blk (size := 1) (n := 43) hb rfl, hm⟩
theorem WordR_ok (w : World) (b : ByteArray) : Rt Tryz.prog 89 #[.string b] w fun v w' => v = .bool (wordsL.contains b.data.toList) ∧ Mod none_ w w' := by
  refine dispatcherref01_Word_calls ?_
  unfold dispatcherref01_Word_F
  refine CK_st Tryz.func112 rfl rfl (Words_ok w) ?_
  rintro s w1 ⟨hr, hm1⟩
  obtain ⟨A, c, rfl, _⟩ := reads_cap hr
  have hlen : wordsL.length = 43 := by decide
  refine W_loop dispatcherref01_Word_L0_ok (fun ρ w' => ∃ n : Nat, n ≤ wordsL.length ∧ ρ 4 = .int .i64 n ∧ ρ 3 = .slice A wordsL.length c ∧ ρ 0 = .string b ∧ b.data.toList ∉ wordsL.take n ∧ w' = w1) (fun ρ _ => wordsL.length - (intOf (ρ 4)).toNat)
    ⟨0, Nat.zero_le _, rfl, rfl, rfl, by simp, rfl⟩ ?_
  rintro ρ w1 ⟨n, hn, h4, h3, h0, hno, rfl⟩
  rw [dispatcherref01_Word_L0_eq]
  unfold dispatcherref01_Word_L0_F
  simp only [h4, h3, h0, fo25_0, fo25_1, fo48_0, fo48_1, fo62_0, fo62_1, fo62_2, fo62_3, fo62_4, fo62_5, fo62_6, fo62_7, fo85_0, fo85_1, fo85_2, fo85_3, ld2, ld3, ld5, ld9, ld22, ld23, ld60, len9, len22, len23, len60, len111, ldK_some, cellE, blkC_c, add_pl, Nat.zero_add, List.getElem?_toArray, List.getElem?_cons_succ, List.getElem?_cons_zero, BK_lss]
  by_cases hlt : n < wordsL.length
  · rw [show decide ((n : Int) < (wordsL.length : Int)) = true by rw [decide_eq_true_eq]; omega]
    simp only [CondK_bool, MG_u, NG_u, VG_u, UG_u, PG_u, BG_u, CG_u, IG_u, MG_b, NG_b, VG_b, UG_b, PG_b, BG_b, CG_b, IG_b, PK_bool, NK_ptr, not_ok, reduceCtorEq, if_true, if_false, Bool.true_eq_false, Bool.false_eq_true, Bool.not_true, Bool.not_false]
    have hx : wordsL[n]? = some wordsL[n] := List.getElem?_eq_getElem hlt
    refine ixld uSs cS uS rfl hr (by omega) (u := txt wordsL[n]) (by rw [show ((n : Int).toNat) = n by omega, List.getElem?_map, hx]; rfl) fun y => ?_
    unfold txt
    refine caseS (fun he => condT ?_) (fun he => condF ?_)
    · refine ⟨?_, hm1⟩
      have : b.data.toList = wordsL[n] := he.symm
      have hc : wordsL.contains b.data.toList = true := by rw [List.contains_iff_mem, this]; exact List.getElem_mem hlt
      rw [hc]
      rfl
    · rw [BK_add, wrap_i (by omega) (by omega)]
      refine ⟨⟨n + 1, hlt, rfl, h3, h0, ?_, rfl⟩, ?_⟩
      · rw [List.take_add_one, hx, Option.toList_some]
        intro q
        rcases List.mem_append.1 q with q | q
        · exact hno q
        · exact he (by simpa using Eq.symm (List.mem_singleton.1 q))
      · simp only [sq_n, sq_x, sq_r, bk_n, bk_r, bk_x, rt_r, rt_n, rs_0, rs_t, pk_1, pk_2, up_at, reduceIte, Nat.reduceEqDiff, intOf]; omega
  · obtain rfl : n = wordsL.length := by omega
    rw [show decide (((wordsL.length : Nat) : Int) < (wordsL.length : Int)) = false by simp]
    simp only [CondK_bool, MG_u, NG_u, VG_u, UG_u, PG_u, BG_u, CG_u, IG_u, MG_b, NG_b, VG_b, UG_b, PG_b, BG_b, CG_b, IG_b, PK_bool, NK_ptr, not_ok, reduceCtorEq, if_true, if_false, Bool.true_eq_false, Bool.false_eq_true, Bool.not_true, Bool.not_false, sq_n, sq_x, sq_r, bk_n, bk_r, bk_x, rt_r, rt_n, rs_0, rs_t, pk_1, pk_2, up_at, reduceIte, Nat.reduceEqDiff]
    rw [dispatcherref01_Word_R1_eq]
    unfold dispatcherref01_Word_R1_F
    simp only [sq_n, sq_x, sq_r, bk_n, bk_r, bk_x, rt_r, rt_n, rs_0, rs_t, pk_1, pk_2, up_at, reduceIte, Nat.reduceEqDiff]
    refine ⟨?_, hm1⟩
    have hc : wordsL.contains b.data.toList = false := by
      rw [Bool.eq_false_iff]
      intro q
      rw [List.contains_iff_mem] at q
      rw [List.take_length] at hno
      exact hno q
    rw [hc]
end Go.Proofs.YtpkfbaagpjdifaaGreatDoor.Tr
set_option linter.unusedVariables false
set_option linter.unusedSimpArgs false
set_option maxRecDepth 4000
namespace Go.Proofs.YtpkfbaagpjdifaaGreatDoor.Tr
open Go Go.X Go.RowKit Go.Proofs.YtpkfbaagpjdifaaGreatDoor.XF Go.Proofs.YtpkfbaagpjdifaaGreatDoor.XK
def zExc : List Value := [.int .u8 0, .int .i64 0, .string ByteArray.empty, .slice none 0 0, .int .i64 0, .int .i64 0]
theorem zEx : (Tryz.prog.info? 85).bind (·.zero) = some (.agg zExc.toArray) := by kernel_rfl
theorem iEx : (Tryz.prog.info? 85).map (·.size) = some 6 := by kernel_rfl
theorem ex_one {w : World} {e : Ex} (h : e.Ok w) : (e.cells.toArray.all (·.oneCell')) = true := by
  obtain ⟨A, c, hs, _⟩ := reads_cap h.args.1
  simp [Ex.cells, hs, Value.oneCell']
theorem ixEx {w : World} {s : Value} {l : List Ex} {i : Nat} {e : Ex} {K : Value → Value → World → Prop} (h : ExsOk w s l) (hi : l[i]? = some e) (hk : ∀ x, K x (.agg e.cells.toArray) w) :
    VK Tryz.prog (Instr.indexAt 60 s (.int .i64 (i : Int))) w fun x w => VK Tryz.prog (Instr.loadAt 85 x) w (K x) := by
  have hlt : i < l.length := (List.getElem?_eq_some_iff.1 hi).1
  refine ixldA uExs cEx Tryz.underlying85 rfl h.1 (by omega) (by omega) fun x => ?_
  rw [show ((i : Int).toNat) = i by omega, fl_drop (k := 5 + 1) Ex.cells_len hi]
  exact hk x
/-- The place of an expression in a row. -/
theorem ixExA {w : World} {s : Value} {l : List Ex} {i : Nat} {e : Ex} {K : Value → World → Prop} (h : ExsOk w s l) (hi : l[i]? = some e) (hk : ∀ a, (∀ j u, e.cells[j]? = some u → w.cell? (a.add j) = some u) → K (.pointer (some a)) w) :
    VK Tryz.prog (Instr.indexAt 60 s (.int .i64 (i : Int))) w K := by
  have hlt : i < l.length := (List.getElem?_eq_some_iff.1 hi).1
  refine ixat uExs cEx h.1 (by omega) (by omega) fun a ha _ => hk a fun j u hu => ?_
  have hj : j < 5 + 1 := (List.getElem?_eq_some_iff.1 hu).1
  refine ha j u hj ?_
  rw [show ((i : Int).toNat) = i by omega, fl_get (k := 5 + 1) Ex.cells_len hi hj]
  exact hu
theorem deepExpr_ok : ∀ (e : Ex) (w : World), e.Ok w → e.sz ≤ 1099511627776 → Rt Tryz.prog 120 #[.agg e.cells.toArray] w fun v w' => v = .int .i64 e.deep ∧ Mod none_ w w' := by
  intro e
  induction e using Ex.ind with
  | h e ih =>
    intro w hok hsz
    obtain ⟨A, c, hs, _⟩ := reads_cap hok.args.1
    have hszL : Ex.szL e.args ≤ 1099511627776 := by rw [Ex.sz_eq] at hsz; omega
    refine tree_deepExpr_calls ?_
    unfold tree_deepExpr_F
    refine box_k (cs := e.cells.toArray) rfl fun w1 hb1 hm1 _ => ?_
    simp only [fo25_0, fo25_1, fo48_0, fo48_1, fo62_0, fo62_1, fo62_2, fo62_3, fo62_4, fo62_5, fo62_6, fo62_7, fo85_0, fo85_1, fo85_2, fo85_3, ld2, ld3, ld5, ld9, ld22, ld23, ld60, len9, len22, len23, len60, len111, ldK_some, cellE, blkC_c, add_pl, Nat.zero_add, List.getElem?_toArray, List.getElem?_cons_succ, List.getElem?_cons_zero, Ex.c0, Ex.c1, Ex.c2, Ex.c3, Ex.c4, Ex.c5, St.c0, St.c1, St.c2, St.c3, St.c4, St.c5, St.c6, St.c7, St.c8, St.c9, hb1, hs]
    refine W_loop tree_deepExpr_L0_ok (fun ρ w' => ∃ n : Nat, n ≤ e.args.length ∧ ρ 9 = .int .i64 n ∧ ρ 8 = .int .i64 e.args.length ∧ ρ 7 = .slice A e.args.length c ∧ ρ 3 = .int .i64 (Ex.deepL (e.args.take n)) ∧ Mod none_ w w') (fun ρ _ => e.args.length - (intOf (ρ 9)).toNat)
      ⟨0, Nat.zero_le _, rfl, rfl, rfl, rfl, hm1⟩ ?_
    rintro ρ w2 ⟨n, hn, h9, h8, h7, h3, hm⟩
    rw [tree_deepExpr_L0_eq]
    unfold tree_deepExpr_L0_F
    rw [h9, h8, h7, h3, BK_lss]
    by_cases hlt : n < e.args.length
    · rw [show decide ((n : Int) < (e.args.length : Int)) = true by simp; omega]
      simp only [CondK_bool, MG_u, NG_u, VG_u, UG_u, PG_u, BG_u, CG_u, IG_u, MG_b, NG_b, VG_b, UG_b, PG_b, BG_b, CG_b, IG_b, PK_bool, NK_ptr, not_ok, reduceCtorEq, if_true, if_false, Bool.true_eq_false, Bool.false_eq_true, Bool.not_true, Bool.not_false]
      have hx : e.args[n]? = some e.args[n] := List.getElem?_eq_getElem hlt
      have hmem : e.args[n] ∈ e.args := List.getElem_mem hlt
      have hok2 := hok.args.mod hm
      rw [hs] at hok2
      refine ixEx hok2 hx fun y => ?_
      refine lcl_k (cs := e.args[n].cells.toArray) zEx _ iEx rfl (ex_one (hok2.at hx)) fun w3 hb3 hm3 _ => ?_
      refine ldB (cs := e.args[n].cells.toArray) Tryz.underlying85 rfl iEx hb3 ?_
      have hs2 := Ex.szL_at hx
      refine CK_st Tryz.func120 rfl rfl (ih _ hmem w3 ((hok2.at hx).mod hm3) (by omega)) ?_
      rintro _ w4 ⟨rfl, hm4⟩
      rw [max_i, BK_add, wrap_i (n := (n : Int) + 1) (by have := Ex.len_sz e.args; omega) (by have := Ex.len_sz e.args; omega)]
      refine ⟨⟨n + 1, hlt, rfl, h8, h7, ?_, (hm.trans hm3).trans hm4⟩, ?_⟩
      · simp only [sq_n, sq_x, sq_r, bk_n, bk_r, bk_x, rt_r, rt_n, rs_0, rs_t, pk_1, pk_2, up_at, reduceIte, Nat.reduceEqDiff]
        rw [List.take_add_one, hx, Option.toList_some, Ex.deepL_snoc]
        congr 1
        split <;> omega
      · simp only [sq_n, sq_x, sq_r, bk_n, bk_r, bk_x, rt_r, rt_n, rs_0, rs_t, pk_1, pk_2, up_at, reduceIte, Nat.reduceEqDiff, intOf]; omega
    · obtain rfl : n = e.args.length := by omega
      rw [show decide (((e.args.length : Nat) : Int) < (e.args.length : Int)) = false by simp]
      simp only [CondK_bool, MG_u, NG_u, VG_u, UG_u, PG_u, BG_u, CG_u, IG_u, MG_b, NG_b, VG_b, UG_b, PG_b, BG_b, CG_b, IG_b, PK_bool, NK_ptr, not_ok, reduceCtorEq, if_true, if_false, Bool.true_eq_false, Bool.false_eq_true, Bool.not_true, Bool.not_false, sq_n, sq_x, sq_r, bk_n, bk_r, bk_x, rt_r, rt_n, rs_0, rs_t, pk_1, pk_2, up_at, reduceIte, Nat.reduceEqDiff]
      rw [tree_deepExpr_R1_eq]
      unfold tree_deepExpr_R1_F
      simp only [sq_n, sq_x, sq_r, bk_n, bk_r, bk_x, rt_r, rt_n, rs_0, rs_t, pk_1, pk_2, up_at, reduceIte, Nat.reduceEqDiff, h3]
      rw [BK_add]
      rw [List.take_length]
      have := Ex.deepL_sz e.args
      rw [wrap_i (by omega) (by omega), Ex.deep_eq]
      exact ⟨rfl, hm⟩
theorem DeepExpr_ok : ∀ (e : Ex) (w : World), e.Ok w → e.sz ≤ 1099511627776 → Rt Tryz.prog 117 #[.agg e.cells.toArray] w fun v w' => v = .int .i64 e.deep ∧ Mod none_ w w' := by
  intro e
  induction e using Ex.ind with
  | h e ih =>
    intro w hok hsz
    obtain ⟨A, c, hs, _⟩ := reads_cap hok.args.1
    have hszL : Ex.szL e.args ≤ 1099511627776 := by rw [Ex.sz_eq] at hsz; omega
    refine dispatcherref02_DeepExpr_calls ?_
    unfold dispatcherref02_DeepExpr_F
    refine box_k (cs := e.cells.toArray) rfl fun w1 hb1 hm1 _ => ?_
    refine W_loop dispatcherref02_DeepExpr_L0_ok (fun ρ w' => ∃ n : Nat, n ≤ e.args.length ∧ ρ 4 = .int .i64 n ∧ ρ 1 = .pointer (some ⟨w.heap.size, 0, none⟩) ∧ ρ 3 = .int .i64 (Ex.deepL (e.args.take n) + 1 : Nat) ∧ w'.heap[w.heap.size]? = some (.cells e.cells.toArray 85 (0, 0)) ∧ Mod none_ w w') (fun ρ _ => e.args.length - (intOf (ρ 4)).toNat)
      ⟨0, Nat.zero_le _, rfl, rfl, rfl, hb1, hm1⟩ ?_
    rintro ρ w2 ⟨n, hn, h4, h1, h3, hb, hm⟩
    rw [dispatcherref02_DeepExpr_L0_eq]
    unfold dispatcherref02_DeepExpr_L0_F
    simp only [h4, h1, h3, fo25_0, fo25_1, fo48_0, fo48_1, fo62_0, fo62_1, fo62_2, fo62_3, fo62_4, fo62_5, fo62_6, fo62_7, fo85_0, fo85_1, fo85_2, fo85_3, ld2, ld3, ld5, ld9, ld22, ld23, ld60, len9, len22, len23, len60, len111, ldK_some, cellE, blkC_c, add_pl, Nat.zero_add, List.getElem?_toArray, List.getElem?_cons_succ, List.getElem?_cons_zero, Ex.c0, Ex.c1, Ex.c2, Ex.c3, Ex.c4, Ex.c5, St.c0, St.c1, St.c2, St.c3, St.c4, St.c5, St.c6, St.c7, St.c8, St.c9, hb, hs, BK_lss]
    by_cases hlt : n < e.args.length
    · rw [show decide ((n : Int) < (e.args.length : Int)) = true by simp; omega]
      simp only [CondK_bool, MG_u, NG_u, VG_u, UG_u, PG_u, BG_u, CG_u, IG_u, MG_b, NG_b, VG_b, UG_b, PG_b, BG_b, CG_b, IG_b, PK_bool, NK_ptr, not_ok, reduceCtorEq, if_true, if_false, Bool.true_eq_false, Bool.false_eq_true, Bool.not_true, Bool.not_false]
      have hx : e.args[n]? = some e.args[n] := List.getElem?_eq_getElem hlt
      have hmem : e.args[n] ∈ e.args := List.getElem_mem hlt
      have hok2 := hok.args.mod hm
      rw [hs] at hok2
      refine ixEx hok2 hx fun y => ?_
      have hs2 := Ex.szL_at hx
      refine CK_st Tryz.func117 rfl rfl (ih _ hmem w2 (hok2.at hx) (by omega)) ?_
      rintro _ w4 ⟨rfl, hm4⟩
      have hd := Ex.deep_sz e.args[n]
      have hl := Ex.len_sz e.args
      rw [BK_add, wrap_i (n := 1 + (e.args[n].deep : Int)) (by omega) (by omega), max_i, BK_add, wrap_i (n := (n : Int) + 1) (by omega) (by omega)]
      refine ⟨⟨n + 1, hlt, rfl, h1, ?_, hm4.blk hb id, hm.trans hm4⟩, ?_⟩
      · simp only [sq_n, sq_x, sq_r, bk_n, bk_r, bk_x, rt_r, rt_n, rs_0, rs_t, pk_1, pk_2, up_at, reduceIte, Nat.reduceEqDiff]
        rw [List.take_add_one, hx, Option.toList_some, Ex.deepL_snoc]
        congr 1
        split <;> omega
      · simp only [sq_n, sq_x, sq_r, bk_n, bk_r, bk_x, rt_r, rt_n, rs_0, rs_t, pk_1, pk_2, up_at, reduceIte, Nat.reduceEqDiff, intOf]; omega
    · obtain rfl : n = e.args.length := by omega
      rw [show decide (((e.args.length : Nat) : Int) < (e.args.length : Int)) = false by simp]
      simp only [CondK_bool, MG_u, NG_u, VG_u, UG_u, PG_u, BG_u, CG_u, IG_u, MG_b, NG_b, VG_b, UG_b, PG_b, BG_b, CG_b, IG_b, PK_bool, NK_ptr, not_ok, reduceCtorEq, if_true, if_false, Bool.true_eq_false, Bool.false_eq_true, Bool.not_true, Bool.not_false, sq_n, sq_x, sq_r, bk_n, bk_r, bk_x, rt_r, rt_n, rs_0, rs_t, pk_1, pk_2, up_at, reduceIte, Nat.reduceEqDiff]
      rw [dispatcherref02_DeepExpr_R1_eq]
      unfold dispatcherref02_DeepExpr_R1_F
      simp only [sq_n, sq_x, sq_r, bk_n, bk_r, bk_x, rt_r, rt_n, rs_0, rs_t, pk_1, pk_2, up_at, reduceIte, Nat.reduceEqDiff, h3]
      rw [List.take_length, Ex.deep_eq]
      exact ⟨rfl, hm⟩
end Go.Proofs.YtpkfbaagpjdifaaGreatDoor.Tr
set_option linter.unusedVariables false
set_option linter.unusedSimpArgs false
set_option maxRecDepth 4000
namespace Go.Proofs.YtpkfbaagpjdifaaGreatDoor.Tr
open Go Go.X Go.RowKit Go.Proofs.YtpkfbaagpjdifaaGreatDoor.XF Go.Proofs.YtpkfbaagpjdifaaGreatDoor.XK
theorem ixByte (s : ByteArray) (w : World) {n : Nat} (hs : n < s.size) {K : Value → World → Prop} (hk : K (.int .u8 (s[n]'hs).toNat) w) : VK Tryz.prog (Instr.index 9 (.string s) (.int .i64 (n : Int))) w K := by
  refine VK_of ?_ hk
  rw [run_index_string w _ s _ _ uS, dif_pos ⟨by omega, by omega⟩]
  rfl
theorem NameR_ok (w : World) (b : ByteArray) (hb : b.size ≤ maxLen) : Rt Tryz.prog 80 #[.string b] w fun v w' => v = .bool (nameP b) ∧ Mod none_ w w' := by
  refine dispatcherref01_Name_calls ?_
  unfold dispatcherref01_Name_F
  simp only [fo25_0, fo25_1, fo48_0, fo48_1, fo62_0, fo62_1, fo62_2, fo62_3, fo62_4, fo62_5, fo62_6, fo62_7, fo85_0, fo85_1, fo85_2, fo85_3, ld2, ld3, ld5, ld9, ld22, ld23, ld60, len9, len22, len23, len60, len111, ldK_some, cellE, blkC_c, add_pl, Nat.zero_add, List.getElem?_toArray, List.getElem?_cons_succ, List.getElem?_cons_zero, BK_lss]
  by_cases h0 : b.size = 0
  · rw [show decide ((b.size : Int) < 1) = true by rw [decide_eq_true_eq]; omega]
    simp only [CondK_bool, MG_u, NG_u, VG_u, UG_u, PG_u, BG_u, CG_u, IG_u, MG_b, NG_b, VG_b, UG_b, PG_b, BG_b, CG_b, IG_b, PK_bool, NK_ptr, not_ok, reduceCtorEq, if_true, if_false, Bool.true_eq_false, Bool.false_eq_true, Bool.not_true, Bool.not_false]
    refine ⟨?_, Mod.refl _ _⟩
    unfold nameP
    rw [show decide (1 ≤ b.size) = false from decide_eq_false (by omega)]
    rfl
  have hpos : 0 < b.size := by omega
  rw [show decide ((b.size : Int) < 1) = false by rw [decide_eq_false_iff_not]; omega]
  simp only [CondK_bool, MG_u, NG_u, VG_u, UG_u, PG_u, BG_u, CG_u, IG_u, MG_b, NG_b, VG_b, UG_b, PG_b, BG_b, CG_b, IG_b, PK_bool, NK_ptr, not_ok, reduceCtorEq, if_true, if_false, Bool.true_eq_false, Bool.false_eq_true, Bool.not_true, Bool.not_false, fo25_0, fo25_1, fo48_0, fo48_1, fo62_0, fo62_1, fo62_2, fo62_3, fo62_4, fo62_5, fo62_6, fo62_7, fo85_0, fo85_1, fo85_2, fo85_3, ld2, ld3, ld5, ld9, ld22, ld23, ld60, len9, len22, len23, len60, len111, ldK_some, cellE, blkC_c, add_pl, Nat.zero_add, List.getElem?_toArray, List.getElem?_cons_succ, List.getElem?_cons_zero, BK_gtr]
  by_cases h12 : 12 < b.size
  · rw [show decide ((12 : Int) < (b.size : Int)) = true by rw [decide_eq_true_eq]; omega]
    simp only [CondK_bool, MG_u, NG_u, VG_u, UG_u, PG_u, BG_u, CG_u, IG_u, MG_b, NG_b, VG_b, UG_b, PG_b, BG_b, CG_b, IG_b, PK_bool, NK_ptr, not_ok, reduceCtorEq, if_true, if_false, Bool.true_eq_false, Bool.false_eq_true, Bool.not_true, Bool.not_false]
    refine ⟨?_, Mod.refl _ _⟩
    unfold nameP
    rw [show decide (b.size ≤ 12) = false from decide_eq_false (by omega)]
    simp
  have h12 : b.size ≤ 12 := by omega
  rw [show decide ((12 : Int) < (b.size : Int)) = false by rw [decide_eq_false_iff_not]; omega]
  simp only [CondK_bool, MG_u, NG_u, VG_u, UG_u, PG_u, BG_u, CG_u, IG_u, MG_b, NG_b, VG_b, UG_b, PG_b, BG_b, CG_b, IG_b, PK_bool, NK_ptr, not_ok, reduceCtorEq, if_true, if_false, Bool.true_eq_false, Bool.false_eq_true, Bool.not_true, Bool.not_false]
  refine ixByte b w (n := 0) hpos ?_
  refine CK_st Tryz.func85 rfl rfl (letterR_ok _ w) ?_
  rintro _ w ⟨rfl, rfl⟩
  rw [letter_nat]
  have n1 : decide (1 ≤ b.size) = true := decide_eq_true (by omega)
  cases hl : letterP (b[0]'hpos) with
  | false =>
    simp only [CondK_bool, MG_u, NG_u, VG_u, UG_u, PG_u, BG_u, CG_u, IG_u, MG_b, NG_b, VG_b, UG_b, PG_b, BG_b, CG_b, IG_b, PK_bool, NK_ptr, not_ok, reduceCtorEq, if_true, if_false, Bool.true_eq_false, Bool.false_eq_true, Bool.not_true, Bool.not_false]
    refine ⟨?_, Mod.refl _ _⟩
    unfold nameP
    rw [head_at b hpos, Option.any_some, hl]
    simp
  | true =>
    simp only [CondK_bool, MG_u, NG_u, VG_u, UG_u, PG_u, BG_u, CG_u, IG_u, MG_b, NG_b, VG_b, UG_b, PG_b, BG_b, CG_b, IG_b, PK_bool, NK_ptr, not_ok, reduceCtorEq, if_true, if_false, Bool.true_eq_false, Bool.false_eq_true, Bool.not_true, Bool.not_false]
    refine CK_st Tryz.func89 rfl rfl (WordR_ok w b) ?_
    rintro _ w1 ⟨rfl, hm⟩
    cases hw : wordsL.contains b.data.toList with
    | true =>
      simp only [CondK_bool, MG_u, NG_u, VG_u, UG_u, PG_u, BG_u, CG_u, IG_u, MG_b, NG_b, VG_b, UG_b, PG_b, BG_b, CG_b, IG_b, PK_bool, NK_ptr, not_ok, reduceCtorEq, if_true, if_false, Bool.true_eq_false, Bool.false_eq_true, Bool.not_true, Bool.not_false]
      refine ⟨?_, hm⟩
      unfold nameP
      rw [hw]
      simp
    | false =>
      simp only [CondK_bool, MG_u, NG_u, VG_u, UG_u, PG_u, BG_u, CG_u, IG_u, MG_b, NG_b, VG_b, UG_b, PG_b, BG_b, CG_b, IG_b, PK_bool, NK_ptr, not_ok, reduceCtorEq, if_true, if_false, Bool.true_eq_false, Bool.false_eq_true, Bool.not_true, Bool.not_false]
      refine W_loop dispatcherref01_Name_L0_ok (fun ρ w' => ∃ n : Nat, n ≤ b.size ∧ ρ 3 = .int .i64 n ∧ ρ 0 = .string b ∧ (∀ (j : Nat) (h : j < b.size), j < n → alnumP (b[j]'h) = true) ∧ w' = w1) (fun ρ _ => b.size - (intOf (ρ 3)).toNat)
        ⟨0, Nat.zero_le _, rfl, rfl, fun j h q => by omega, rfl⟩ ?_
      rintro ρ w1 ⟨n, hn, h3, h0', hall, rfl⟩
      rw [dispatcherref01_Name_L0_eq]
      unfold dispatcherref01_Name_L0_F
      simp only [h3, h0', fo25_0, fo25_1, fo48_0, fo48_1, fo62_0, fo62_1, fo62_2, fo62_3, fo62_4, fo62_5, fo62_6, fo62_7, fo85_0, fo85_1, fo85_2, fo85_3, ld2, ld3, ld5, ld9, ld22, ld23, ld60, len9, len22, len23, len60, len111, ldK_some, cellE, blkC_c, add_pl, Nat.zero_add, List.getElem?_toArray, List.getElem?_cons_succ, List.getElem?_cons_zero, BK_lss]
      by_cases hlt : n < b.size
      · rw [show decide ((n : Int) < (b.size : Int)) = true by rw [decide_eq_true_eq]; omega]
        simp only [CondK_bool, MG_u, NG_u, VG_u, UG_u, PG_u, BG_u, CG_u, IG_u, MG_b, NG_b, VG_b, UG_b, PG_b, BG_b, CG_b, IG_b, PK_bool, NK_ptr, not_ok, reduceCtorEq, if_true, if_false, Bool.true_eq_false, Bool.false_eq_true, Bool.not_true, Bool.not_false]
        refine ixByte b w1 hlt ?_
        refine CK_st Tryz.func85 rfl rfl (letterR_ok _ w1) ?_
        rintro _ w1 ⟨rfl, rfl⟩
        rw [letter_nat]
        have go : ∀ (ρ' : Sl), alnumP (b[n]'hlt) = true → ρ' 3 = .int .i64 (n + 1 : Nat) → ρ' 0 = .string b → (∃ n : Nat, n ≤ b.size ∧ ρ' 3 = .int .i64 n ∧ ρ' 0 = .string b ∧ (∀ (j : Nat) (h : j < b.size), j < n → alnumP (b[j]'h) = true) ∧ w1 = w1) := fun ρ' ha e3 e0 =>
          ⟨n + 1, hlt, e3, e0, fun j h q => by
            by_cases e : j = n
            · subst e; exact ha
            · exact hall j h (by omega), rfl⟩
        cases hl' : letterP (b[n]'hlt) with
        | true =>
          simp only [CondK_bool, MG_u, NG_u, VG_u, UG_u, PG_u, BG_u, CG_u, IG_u, MG_b, NG_b, VG_b, UG_b, PG_b, BG_b, CG_b, IG_b, PK_bool, NK_ptr, not_ok, reduceCtorEq, if_true, if_false, Bool.true_eq_false, Bool.false_eq_true, Bool.not_true, Bool.not_false]
          rw [BK_add, wrap_i (by unfold maxLen at hb; omega) (by unfold maxLen at hb; omega)]
          refine ⟨go _ (by unfold alnumP; rw [hl']; rfl) rfl h0', ?_⟩
          simp only [sq_n, sq_x, sq_r, bk_n, bk_r, bk_x, rt_r, rt_n, rs_0, rs_t, pk_1, pk_2, up_at, reduceIte, Nat.reduceEqDiff, intOf]; omega
        | false =>
          simp only [CondK_bool, MG_u, NG_u, VG_u, UG_u, PG_u, BG_u, CG_u, IG_u, MG_b, NG_b, VG_b, UG_b, PG_b, BG_b, CG_b, IG_b, PK_bool, NK_ptr, not_ok, reduceCtorEq, if_true, if_false, Bool.true_eq_false, Bool.false_eq_true, Bool.not_true, Bool.not_false]
          refine ixByte b w1 hlt ?_
          refine CK_st Tryz.func86 rfl rfl (digitR_ok _ w1) ?_
          rintro _ w1 ⟨rfl, rfl⟩
          rw [digit_nat]
          cases hd : digitP (b[n]'hlt) with
          | true =>
            simp only [CondK_bool, MG_u, NG_u, VG_u, UG_u, PG_u, BG_u, CG_u, IG_u, MG_b, NG_b, VG_b, UG_b, PG_b, BG_b, CG_b, IG_b, PK_bool, NK_ptr, not_ok, reduceCtorEq, if_true, if_false, Bool.true_eq_false, Bool.false_eq_true, Bool.not_true, Bool.not_false]
            rw [BK_add, wrap_i (by unfold maxLen at hb; omega) (by unfold maxLen at hb; omega)]
            refine ⟨go _ (by unfold alnumP; rw [hl', hd]; rfl) rfl h0', ?_⟩
            simp only [sq_n, sq_x, sq_r, bk_n, bk_r, bk_x, rt_r, rt_n, rs_0, rs_t, pk_1, pk_2, up_at, reduceIte, Nat.reduceEqDiff, intOf]; omega
          | false =>
            simp only [CondK_bool, MG_u, NG_u, VG_u, UG_u, PG_u, BG_u, CG_u, IG_u, MG_b, NG_b, VG_b, UG_b, PG_b, BG_b, CG_b, IG_b, PK_bool, NK_ptr, not_ok, reduceCtorEq, if_true, if_false, Bool.true_eq_false, Bool.false_eq_true, Bool.not_true, Bool.not_false, sq_n, sq_x, sq_r, bk_n, bk_r, bk_x, rt_r, rt_n, rs_0, rs_t, pk_1, pk_2, up_at, reduceIte, Nat.reduceEqDiff]
            refine ⟨?_, hm⟩
            have : b.data.toList.all alnumP = false := by
              rw [Bool.eq_false_iff]
              intro q
              have := (all_iff b _).1 q n hlt
              unfold alnumP at this
              rw [hl', hd] at this
              cases this
            unfold nameP
            rw [this]
            simp
      · obtain rfl : n = b.size := by omega
        rw [show decide (((b.size : Nat) : Int) < (b.size : Int)) = false by simp]
        simp only [CondK_bool, MG_u, NG_u, VG_u, UG_u, PG_u, BG_u, CG_u, IG_u, MG_b, NG_b, VG_b, UG_b, PG_b, BG_b, CG_b, IG_b, PK_bool, NK_ptr, not_ok, reduceCtorEq, if_true, if_false, Bool.true_eq_false, Bool.false_eq_true, Bool.not_true, Bool.not_false, sq_n, sq_x, sq_r, bk_n, bk_r, bk_x, rt_r, rt_n, rs_0, rs_t, pk_1, pk_2, up_at, reduceIte, Nat.reduceEqDiff]
        rw [dispatcherref01_Name_R1_eq]
        unfold dispatcherref01_Name_R1_F
        simp only [sq_n, sq_x, sq_r, bk_n, bk_r, bk_x, rt_r, rt_n, rs_0, rs_t, pk_1, pk_2, up_at, reduceIte, Nat.reduceEqDiff]
        refine ⟨?_, hm⟩
        have : b.data.toList.all alnumP = true := (all_iff b _).2 fun i h => hall i h h
        unfold nameP
        rw [this, head_at b hpos, Option.any_some, hl, hw, n1, decide_eq_true h12]
        rfl
theorem ixArr {P : Program} {w : World} {K : Value → World → Prop} {t e : TypeId} {n sz : Nat} (hu : P.underlying t = some (.array n e)) (hc : P.cellsOf e = sz + 1) {a : Addr} {k : IntKind} {i : Int} (h0 : 0 ≤ i) (h1 : i < n) :
    VK P (Instr.indexAt t (.pointer (some a)) (.int k i)) w K = K (.pointer (some (a.add (i.toNat * (sz + 1))))) w := by
  obtain ⟨z, hz, hzs⟩ := info_of hc
  have h : (Instr.indexAt t (.pointer (some a)) (.int k i)).run P w = .ok (.pointer (some (a.add (i.toNat * (sz + 1))))) w := by
    simp [Instr.indexAt, Instr.sureAddr, run_underlying hu, Sem.run_bind, asIntOf, h0, h1, sizeOf, typeInfo, hz, hzs]
  unfold VK OpK
  simp only [Sem.run_bind, h, Result.andThen_ok]
  rfl
theorem conv_i {P : Program} {w : World} {K : Value → World → Prop} {src dst : TypeId} {q k : IntKind} {n : Int} (hs : (P.underlying src).isSome = true) (hd : P.underlying dst = some (.int k)) : VK P (convert src dst (.int q n)) w K = K (.int k (k.wrap n)) w := by
  have ek : P.intKind dst = k := by simp [Program.intKind, hd]
  have := run_convert_int (P := P) w src dst q n hs (by rw [ek]; exact hd)
  unfold VK OpK
  simp only [Sem.run_bind, this, Result.andThen_ok, ek]
  rfl
theorem args_at (k : Nat) (h : k < 22) : ∃ n : Int, argsC[k]? = some (.int .i64 n) ∧ (if 0 ≤ n then (n, n) else (1, 8)) = (((argsP (k + 1)).1 : Int), ((argsP (k + 1)).2 : Int)) := by
  match k, h with
  | 0, _ => exact ⟨_, rfl, rfl⟩
  | 1, _ => exact ⟨_, rfl, rfl⟩
  | 2, _ => exact ⟨_, rfl, rfl⟩
  | 3, _ => exact ⟨_, rfl, rfl⟩
  | 4, _ => exact ⟨_, rfl, rfl⟩
  | 5, _ => exact ⟨_, rfl, rfl⟩
  | 6, _ => exact ⟨_, rfl, rfl⟩
  | 7, _ => exact ⟨_, rfl, rfl⟩
  | 8, _ => exact ⟨_, rfl, rfl⟩
  | 9, _ => exact ⟨_, rfl, rfl⟩
  | 10, _ => exact ⟨_, rfl, rfl⟩
  | 11, _ => exact ⟨_, rfl, rfl⟩
  | 12, _ => exact ⟨_, rfl, rfl⟩
  | 13, _ => exact ⟨_, rfl, rfl⟩
  | 14, _ => exact ⟨_, rfl, rfl⟩
  | 15, _ => exact ⟨_, rfl, rfl⟩
  | 16, _ => exact ⟨_, rfl, rfl⟩
  | 17, _ => exact ⟨_, rfl, rfl⟩
  | 18, _ => exact ⟨_, rfl, rfl⟩
  | 19, _ => exact ⟨_, rfl, rfl⟩
  | 20, _ => exact ⟨_, rfl, rfl⟩
  | 21, _ => exact ⟨_, rfl, rfl⟩
  | n + 22, h => exact absurd h (by omega)
theorem uArgs : Tryz.prog.underlying 149 = some (.array 22 3) := by kernel_rfl
theorem cI : Tryz.prog.cellsOf 3 = 0 + 1 := by kernel_rfl
theorem Args_ok {w : World} (hg : Gl w) (k : Int) (hk : (Lit.int .u8 k).wf = true) : Rt Tryz.prog 121 #[.int .u8 k] w fun v w' => v = .tuple #[.int .i64 (argsP k).1, .int .i64 (argsP k).2] ∧ w' = w := by
  have hr : 0 ≤ k ∧ k ≤ 255 := by simpa [Lit.wf, IntKind.min, IntKind.max, IntKind.signed, IntKind.bits] using hk
  have zero : k < 1 ∨ 22 < k → argsP k = (0, 0) := fun h => by unfold argsP; rw [if_neg (by omega), if_neg (by omega), if_neg (by omega), if_neg (by omega), if_neg (by omega)]
  refine tree_Args_calls ?_
  unfold tree_Args_F
  rw [BK_lss]
  by_cases h1 : k < 1
  · rw [decide_eq_true h1]
    simp only [CondK_bool, MG_u, NG_u, VG_u, UG_u, PG_u, BG_u, CG_u, IG_u, MG_b, NG_b, VG_b, UG_b, PG_b, BG_b, CG_b, IG_b, PK_bool, NK_ptr, not_ok, reduceCtorEq, if_true, if_false, Bool.true_eq_false, Bool.false_eq_true, Bool.not_true, Bool.not_false]
    rw [zero (.inl h1)]
    exact ⟨rfl, trivial⟩
  rw [decide_eq_false h1]
  simp only [CondK_bool, MG_u, NG_u, VG_u, UG_u, PG_u, BG_u, CG_u, IG_u, MG_b, NG_b, VG_b, UG_b, PG_b, BG_b, CG_b, IG_b, PK_bool, NK_ptr, not_ok, reduceCtorEq, if_true, if_false, Bool.true_eq_false, Bool.false_eq_true, Bool.not_true, Bool.not_false]
  rw [conv_i (by kernel_rfl) uI, wrap_i (by omega) (by omega), BK_gtr]
  by_cases h2 : 22 < k
  · rw [decide_eq_true h2]
    simp only [CondK_bool, MG_u, NG_u, VG_u, UG_u, PG_u, BG_u, CG_u, IG_u, MG_b, NG_b, VG_b, UG_b, PG_b, BG_b, CG_b, IG_b, PK_bool, NK_ptr, not_ok, reduceCtorEq, if_true, if_false, Bool.true_eq_false, Bool.false_eq_true, Bool.not_true, Bool.not_false]
    rw [zero (.inr h2)]
    exact ⟨rfl, trivial⟩
  rw [decide_eq_false h2]
  simp only [CondK_bool, MG_u, NG_u, VG_u, UG_u, PG_u, BG_u, CG_u, IG_u, MG_b, NG_b, VG_b, UG_b, PG_b, BG_b, CG_b, IG_b, PK_bool, NK_ptr, not_ok, reduceCtorEq, if_true, if_false, Bool.true_eq_false, Bool.false_eq_true, Bool.not_true, Bool.not_false]
  rw [BK_sub, show IntKind.u8.wrap (k - 1) = k - 1 by rw [IntKind.wrap_u8]; omega]
  obtain ⟨j, rfl⟩ : ∃ j : Nat, k = j + 1 := ⟨(k - 1).toNat, by omega⟩
  rw [show (j : Int) + 1 - 1 = j by omega, ixArr uArgs cI (by omega) (by omega)]
  obtain ⟨n, hn, he⟩ := args_at j (by omega)
  have hcell := hg.args j _ hn
  simp only [ld3, add_pl, Int.toNat_natCast, Nat.zero_add, Nat.mul_one, hcell, ldK_some, BK_geq]
  by_cases h0 : 0 ≤ n
  · rw [if_pos h0] at he
    rw [decide_eq_true h0]
    simp only [CondK_bool, MG_u, NG_u, VG_u, UG_u, PG_u, BG_u, CG_u, IG_u, MG_b, NG_b, VG_b, UG_b, PG_b, BG_b, CG_b, IG_b, PK_bool, NK_ptr, not_ok, reduceCtorEq, if_true, if_false, Bool.true_eq_false, Bool.false_eq_true, Bool.not_true, Bool.not_false, (Prod.mk.inj he).1, (Prod.mk.inj he).2]
    refine ⟨?_, trivial⟩
    rw [← (Prod.mk.inj he).1, ← (Prod.mk.inj he).2]
  · rw [if_neg h0] at he
    rw [decide_eq_false h0]
    simp only [CondK_bool, MG_u, NG_u, VG_u, UG_u, PG_u, BG_u, CG_u, IG_u, MG_b, NG_b, VG_b, UG_b, PG_b, BG_b, CG_b, IG_b, PK_bool, NK_ptr, not_ok, reduceCtorEq, if_true, if_false, Bool.true_eq_false, Bool.false_eq_true, Bool.not_true, Bool.not_false]
    rw [← (Prod.mk.inj he).1, ← (Prod.mk.inj he).2]
    exact ⟨rfl, trivial⟩
end Go.Proofs.YtpkfbaagpjdifaaGreatDoor.Tr
set_option linter.unusedVariables false
set_option linter.unusedSimpArgs false
set_option maxRecDepth 4000
namespace Go.Proofs.YtpkfbaagpjdifaaGreatDoor.Tr
open Go Go.X Go.RowKit Go.Proofs.YtpkfbaagpjdifaaGreatDoor.XF Go.Proofs.YtpkfbaagpjdifaaGreatDoor.XK
def zStc : List Value := [.int .u8 0, .int .u8 0, .int .u8 0, .string ByteArray.empty, .int .i64 0, .slice none 0 0, .slice none 0 0, .slice none 0 0, .int .i64 0, .int .i64 0]
theorem zSt : (Tryz.prog.info? 62).bind (·.zero) = some (.agg zStc.toArray) := by kernel_rfl
theorem iSt : (Tryz.prog.info? 62).map (·.size) = some 10 := by kernel_rfl
theorem st_one {w : World} {e : St} (h : e.Ok w) : (e.cells.toArray.all (·.oneCell')) = true := by
  obtain ⟨A, c, hs, _⟩ := reads_cap h.exprs.1
  obtain ⟨A2, c2, hs2, _⟩ := reads_cap h.body.1
  obtain ⟨A3, c3, hs3, _⟩ := reads_cap h.els.1
  simp [St.cells, hs, hs2, hs3, Value.oneCell']
theorem ixSt {w : World} {s : Value} {l : List St} {i : Nat} {e : St} {K : Value → Value → World → Prop} (h : StsOk w s l) (hi : l[i]? = some e) (hk : ∀ x, K x (.agg e.cells.toArray) w) :
    VK Tryz.prog (Instr.indexAt 23 s (.int .i64 (i : Int))) w fun x w => VK Tryz.prog (Instr.loadAt 62 x) w (K x) := by
  have hlt : i < l.length := (List.getElem?_eq_some_iff.1 hi).1
  refine ixldA uSts cSt Tryz.underlying62 rfl h.1 (by omega) (by omega) fun x => ?_
  rw [show ((i : Int).toNat) = i by omega, fl_drop (k := 9 + 1) St.cells_len hi]
  exact hk x
/-- The place of a statement in a row. -/
theorem ixStA {w : World} {s : Value} {l : List St} {i : Nat} {e : St} {K : Value → World → Prop} (h : StsOk w s l) (hi : l[i]? = some e) (hk : ∀ a, (∀ j u, e.cells[j]? = some u → w.cell? (a.add j) = some u) → K (.pointer (some a)) w) :
    VK Tryz.prog (Instr.indexAt 23 s (.int .i64 (i : Int))) w K := by
  have hlt : i < l.length := (List.getElem?_eq_some_iff.1 hi).1
  refine ixat uSts cSt h.1 (by omega) (by omega) fun a ha _ => hk a fun j u hu => ?_
  have hj : j < 9 + 1 := (List.getElem?_eq_some_iff.1 hu).1
  refine ha j u hj ?_
  rw [show ((i : Int).toNat) = i by omega, fl_get (k := 9 + 1) St.cells_len hi hj]
  exact hu
/-- Declarations. -/
structure De where
  name : ByteArray
  places : Int
  line : Int
  col : Int
def De.cells (e : De) : List Value := [.string e.name, .int .i64 e.places, .int .i64 e.line, .int .i64 e.col]
theorem De.cells_len (e : De) : e.cells.length = 4 := rfl
theorem De.c0 (e : De) : e.cells[0]? = some (.string e.name) := rfl
theorem De.c1 (e : De) : e.cells[1]? = some (.int .i64 e.places) := rfl
theorem De.c2 (e : De) : e.cells[2]? = some (.int .i64 e.line) := rfl
theorem De.c3 (e : De) : e.cells[3]? = some (.int .i64 e.col) := rfl
def De.fine (e : De) : Prop := e.name.size ≤ maxLen ∧ (Lit.int .i64 e.places).wf = true ∧ (Lit.int .i64 e.line).wf = true ∧ (Lit.int .i64 e.col).wf = true
def DesOk (w : World) (s : Value) (l : List De) : Prop := reads w 4 s l.length (l.flatMap De.cells) ∧ ∀ a ∈ l, a.fine
theorem DesOk.mod {w w' : World} {s : Value} {l : List De} (h : DesOk w s l) (hm : Mod none_ w w') : DesOk w' s l := ⟨reads_mod h.1 hm (fun _ _ _ => id), h.2⟩
theorem uDes : Tryz.prog.underlying 22 = some (.slice 48) := by kernel_rfl
theorem cDe : Tryz.prog.cellsOf 48 = 4 := by kernel_rfl
theorem zDe : (Tryz.prog.info? 48).bind (·.zero) = some (.agg #[.string ByteArray.empty, .int .i64 0, .int .i64 0, .int .i64 0]) := by kernel_rfl
theorem iDe : (Tryz.prog.info? 48).map (·.size) = some 4 := by kernel_rfl
theorem de_one (e : De) : (e.cells.toArray.all (·.oneCell')) = true := by simp [De.cells, Value.oneCell']
theorem ixDe {w : World} {s : Value} {l : List De} {i : Nat} {e : De} {K : Value → Value → World → Prop} (h : DesOk w s l) (hi : l[i]? = some e) (hk : ∀ x, K x (.agg e.cells.toArray) w) :
    VK Tryz.prog (Instr.indexAt 22 s (.int .i64 (i : Int))) w fun x w => VK Tryz.prog (Instr.loadAt 48 x) w (K x) := by
  have hlt : i < l.length := (List.getElem?_eq_some_iff.1 hi).1
  refine ixldA uDes cDe Tryz.underlying48 rfl h.1 (by omega) (by omega) fun x => ?_
  rw [show ((i : Int).toNat) = i by omega, fl_drop (k := 3 + 1) De.cells_len hi]
  exact hk x
theorem ixDeA {w : World} {s : Value} {l : List De} {i : Nat} {e : De} {K : Value → World → Prop} (h : DesOk w s l) (hi : l[i]? = some e) (hk : ∀ a, (∀ j u, e.cells[j]? = some u → w.cell? (a.add j) = some u) → K (.pointer (some a)) w) :
    VK Tryz.prog (Instr.indexAt 22 s (.int .i64 (i : Int))) w K := by
  have hlt : i < l.length := (List.getElem?_eq_some_iff.1 hi).1
  refine ixat uDes cDe h.1 (by omega) (by omega) fun a ha _ => hk a fun j u hu => ?_
  have hj : j < 3 + 1 := (List.getElem?_eq_some_iff.1 hu).1
  refine ha j u hj ?_
  rw [show ((i : Int).toNat) = i by omega, fl_get (k := 3 + 1) De.cells_len hi hj]
  exact hu
/-- ContainsFunc, over what its test says of each. -/
theorem IndexFuncEx_ok {w : World} {s : Value} {l : List Ex} {p : Ex → Bool} {fv : Value} (h : ExsOk w s l) (hlen : l.length ≤ 1099511627776)
    (hf : ∀ a ∈ l, ∀ w', Mod none_ w w' → ∀ K : Value → World → Prop, (∀ w'', Mod none_ w' w'' → K (.bool (p a)) w'') → CK Tryz.prog fv [.agg a.cells.toArray] w' K) :
    Rt Tryz.prog 131 #[s, fv] w fun v w' => (∃ r : Int, v = .int .i64 r ∧ (if l.any p then 0 ≤ r else r = -1)) ∧ Mod none_ w w' := by
  obtain ⟨A, c, hs, _⟩ := reads_cap h.1
  refine slices_IndexFunc_tree_Expr_tree_Expr_calls ?_
  unfold slices_IndexFunc_tree_Expr_tree_Expr_F
  simp only [hs, fo25_0, fo25_1, fo48_0, fo48_1, fo62_0, fo62_1, fo62_2, fo62_3, fo62_4, fo62_5, fo62_6, fo62_7, fo85_0, fo85_1, fo85_2, fo85_3, ld2, ld3, ld5, ld9, ld22, ld23, ld60, len9, len22, len23, len60, len111, ldK_some, cellE, blkC_c, add_pl, Nat.zero_add, List.getElem?_toArray, List.getElem?_cons_succ, List.getElem?_cons_zero]
  refine W_loop slices_IndexFunc_tree_Expr_tree_Expr_L0_ok (fun ρ w' => ∃ n : Nat, n ≤ l.length ∧ ρ 8 = .int .i64 n ∧ ρ 7 = .int .i64 l.length ∧ ρ 0 = .slice A l.length c ∧ ρ 1 = fv ∧ (∀ a ∈ l.take n, p a = false) ∧ Mod none_ w w') (fun ρ _ => l.length - (intOf (ρ 8)).toNat)
    ⟨0, Nat.zero_le _, rfl, rfl, rfl, rfl, by simp, Mod.refl _ _⟩ ?_
  rintro ρ w1 ⟨n, hn, h8, h7, h0, h1, hno, hm⟩
  rw [slices_IndexFunc_tree_Expr_tree_Expr_L0_eq]
  unfold slices_IndexFunc_tree_Expr_tree_Expr_L0_F
  simp only [h8, h7, h0, h1, BK_lss]
  by_cases hlt : n < l.length
  · rw [show decide ((n : Int) < (l.length : Int)) = true by rw [decide_eq_true_eq]; omega]
    simp only [CondK_bool, MG_u, NG_u, VG_u, UG_u, PG_u, BG_u, CG_u, IG_u, MG_b, NG_b, VG_b, UG_b, PG_b, BG_b, CG_b, IG_b, PK_bool, NK_ptr, not_ok, reduceCtorEq, if_true, if_false, Bool.true_eq_false, Bool.false_eq_true, Bool.not_true, Bool.not_false]
    have hx : l[n]? = some l[n] := List.getElem?_eq_getElem hlt
    have hmem : l[n] ∈ l := List.getElem_mem hlt
    have h2 := h.mod hm
    rw [hs] at h2
    refine ixEx h2 hx fun y => ?_
    refine hf _ hmem w1 hm _ fun w2 hm2 => ?_
    refine caseC (fun hp => ?_) (fun hp => ?_)
    · refine ⟨⟨_, rfl, ?_⟩, hm.trans hm2⟩
      rw [if_pos (List.any_eq_true.2 ⟨_, hmem, hp⟩)]
      omega
    · rw [BK_add, wrap_i (by omega) (by omega)]
      refine ⟨⟨n + 1, hlt, rfl, h7, h0, h1, ?_, hm.trans hm2⟩, ?_⟩
      · rw [List.take_add_one, hx, Option.toList_some]
        intro a q
        rcases List.mem_append.1 q with q | q
        · exact hno a q
        · rw [List.mem_singleton.1 q]; exact hp
      · simp only [sq_n, sq_x, sq_r, bk_n, bk_r, bk_x, rt_r, rt_n, rs_0, rs_t, pk_1, pk_2, up_at, reduceIte, Nat.reduceEqDiff, intOf]; omega
  · obtain rfl : n = l.length := by omega
    rw [show decide (((l.length : Nat) : Int) < (l.length : Int)) = false by simp]
    simp only [CondK_bool, MG_u, NG_u, VG_u, UG_u, PG_u, BG_u, CG_u, IG_u, MG_b, NG_b, VG_b, UG_b, PG_b, BG_b, CG_b, IG_b, PK_bool, NK_ptr, not_ok, reduceCtorEq, if_true, if_false, Bool.true_eq_false, Bool.false_eq_true, Bool.not_true, Bool.not_false, sq_n, sq_x, sq_r, bk_n, bk_r, bk_x, rt_r, rt_n, rs_0, rs_t, pk_1, pk_2, up_at, reduceIte, Nat.reduceEqDiff]
    rw [slices_IndexFunc_tree_Expr_tree_Expr_R1_eq]
    unfold slices_IndexFunc_tree_Expr_tree_Expr_R1_F
    simp only [sq_n, sq_x, sq_r, bk_n, bk_r, bk_x, rt_r, rt_n, rs_0, rs_t, pk_1, pk_2, up_at, reduceIte, Nat.reduceEqDiff]
    refine ⟨⟨_, rfl, ?_⟩, hm⟩
    rw [if_neg]
    intro q
    obtain ⟨a, ha, hp⟩ := List.any_eq_true.1 q
    rw [List.take_length] at hno
    rw [hno a ha] at hp
    cases hp
theorem ContainsFuncEx_ok {w : World} {s : Value} {l : List Ex} {p : Ex → Bool} {fv : Value} (h : ExsOk w s l) (hlen : l.length ≤ 1099511627776)
    (hf : ∀ a ∈ l, ∀ w', Mod none_ w w' → ∀ K : Value → World → Prop, (∀ w'', Mod none_ w' w'' → K (.bool (p a)) w'') → CK Tryz.prog fv [.agg a.cells.toArray] w' K) :
    Rt Tryz.prog 122 #[s, fv] w fun v w' => v = .bool (l.any p) ∧ Mod none_ w w' := by
  refine slices_ContainsFunc_tree_Expr_tree_Expr_calls ?_
  unfold slices_ContainsFunc_tree_Expr_tree_Expr_F
  refine CK_st Tryz.func131 rfl rfl (IndexFuncEx_ok h hlen hf) ?_
  rintro _ w1 ⟨⟨r, rfl, hr⟩, hm⟩
  rw [BK_geq]
  refine ⟨?_, hm⟩
  cases hp : l.any p with
  | true =>
    rw [hp, if_pos rfl] at hr
    rw [decide_eq_true hr]
  | false =>
    rw [hp, if_neg (by simp)] at hr
    rw [hr]
    rfl
/-- ContainsFunc, over what its test says of each. -/
theorem IndexFuncSt_ok {w : World} {s : Value} {l : List St} {p : St → Bool} {fv : Value} (h : StsOk w s l) (hlen : l.length ≤ 1099511627776)
    (hf : ∀ a ∈ l, ∀ w', Mod none_ w w' → ∀ K : Value → World → Prop, (∀ w'', Mod none_ w' w'' → K (.bool (p a)) w'') → CK Tryz.prog fv [.agg a.cells.toArray] w' K) :
    Rt Tryz.prog 107 #[s, fv] w fun v w' => (∃ r : Int, v = .int .i64 r ∧ (if l.any p then 0 ≤ r else r = -1)) ∧ Mod none_ w w' := by
  obtain ⟨A, c, hs, _⟩ := reads_cap h.1
  refine slices_IndexFunc_tree_Stmt_tree_Stmt_calls ?_
  unfold slices_IndexFunc_tree_Stmt_tree_Stmt_F
  simp only [hs, fo25_0, fo25_1, fo48_0, fo48_1, fo62_0, fo62_1, fo62_2, fo62_3, fo62_4, fo62_5, fo62_6, fo62_7, fo85_0, fo85_1, fo85_2, fo85_3, ld2, ld3, ld5, ld9, ld22, ld23, ld60, len9, len22, len23, len60, len111, ldK_some, cellE, blkC_c, add_pl, Nat.zero_add, List.getElem?_toArray, List.getElem?_cons_succ, List.getElem?_cons_zero]
  refine W_loop slices_IndexFunc_tree_Stmt_tree_Stmt_L0_ok (fun ρ w' => ∃ n : Nat, n ≤ l.length ∧ ρ 8 = .int .i64 n ∧ ρ 7 = .int .i64 l.length ∧ ρ 0 = .slice A l.length c ∧ ρ 1 = fv ∧ (∀ a ∈ l.take n, p a = false) ∧ Mod none_ w w') (fun ρ _ => l.length - (intOf (ρ 8)).toNat)
    ⟨0, Nat.zero_le _, rfl, rfl, rfl, rfl, by simp, Mod.refl _ _⟩ ?_
  rintro ρ w1 ⟨n, hn, h8, h7, h0, h1, hno, hm⟩
  rw [slices_IndexFunc_tree_Stmt_tree_Stmt_L0_eq]
  unfold slices_IndexFunc_tree_Stmt_tree_Stmt_L0_F
  simp only [h8, h7, h0, h1, BK_lss]
  by_cases hlt : n < l.length
  · rw [show decide ((n : Int) < (l.length : Int)) = true by rw [decide_eq_true_eq]; omega]
    simp only [CondK_bool, MG_u, NG_u, VG_u, UG_u, PG_u, BG_u, CG_u, IG_u, MG_b, NG_b, VG_b, UG_b, PG_b, BG_b, CG_b, IG_b, PK_bool, NK_ptr, not_ok, reduceCtorEq, if_true, if_false, Bool.true_eq_false, Bool.false_eq_true, Bool.not_true, Bool.not_false]
    have hx : l[n]? = some l[n] := List.getElem?_eq_getElem hlt
    have hmem : l[n] ∈ l := List.getElem_mem hlt
    have h2 := h.mod hm
    rw [hs] at h2
    refine ixSt h2 hx fun y => ?_
    refine hf _ hmem w1 hm _ fun w2 hm2 => ?_
    refine caseC (fun hp => ?_) (fun hp => ?_)
    · refine ⟨⟨_, rfl, ?_⟩, hm.trans hm2⟩
      rw [if_pos (List.any_eq_true.2 ⟨_, hmem, hp⟩)]
      omega
    · rw [BK_add, wrap_i (by omega) (by omega)]
      refine ⟨⟨n + 1, hlt, rfl, h7, h0, h1, ?_, hm.trans hm2⟩, ?_⟩
      · rw [List.take_add_one, hx, Option.toList_some]
        intro a q
        rcases List.mem_append.1 q with q | q
        · exact hno a q
        · rw [List.mem_singleton.1 q]; exact hp
      · simp only [sq_n, sq_x, sq_r, bk_n, bk_r, bk_x, rt_r, rt_n, rs_0, rs_t, pk_1, pk_2, up_at, reduceIte, Nat.reduceEqDiff, intOf]; omega
  · obtain rfl : n = l.length := by omega
    rw [show decide (((l.length : Nat) : Int) < (l.length : Int)) = false by simp]
    simp only [CondK_bool, MG_u, NG_u, VG_u, UG_u, PG_u, BG_u, CG_u, IG_u, MG_b, NG_b, VG_b, UG_b, PG_b, BG_b, CG_b, IG_b, PK_bool, NK_ptr, not_ok, reduceCtorEq, if_true, if_false, Bool.true_eq_false, Bool.false_eq_true, Bool.not_true, Bool.not_false, sq_n, sq_x, sq_r, bk_n, bk_r, bk_x, rt_r, rt_n, rs_0, rs_t, pk_1, pk_2, up_at, reduceIte, Nat.reduceEqDiff]
    rw [slices_IndexFunc_tree_Stmt_tree_Stmt_R1_eq]
    unfold slices_IndexFunc_tree_Stmt_tree_Stmt_R1_F
    simp only [sq_n, sq_x, sq_r, bk_n, bk_r, bk_x, rt_r, rt_n, rs_0, rs_t, pk_1, pk_2, up_at, reduceIte, Nat.reduceEqDiff]
    refine ⟨⟨_, rfl, ?_⟩, hm⟩
    rw [if_neg]
    intro q
    obtain ⟨a, ha, hp⟩ := List.any_eq_true.1 q
    rw [List.take_length] at hno
    rw [hno a ha] at hp
    cases hp
theorem ContainsFuncSt_ok {w : World} {s : Value} {l : List St} {p : St → Bool} {fv : Value} (h : StsOk w s l) (hlen : l.length ≤ 1099511627776)
    (hf : ∀ a ∈ l, ∀ w', Mod none_ w w' → ∀ K : Value → World → Prop, (∀ w'', Mod none_ w' w'' → K (.bool (p a)) w'') → CK Tryz.prog fv [.agg a.cells.toArray] w' K) :
    Rt Tryz.prog 74 #[s, fv] w fun v w' => v = .bool (l.any p) ∧ Mod none_ w w' := by
  refine slices_ContainsFunc_tree_Stmt_tree_Stmt_calls ?_
  unfold slices_ContainsFunc_tree_Stmt_tree_Stmt_F
  refine CK_st Tryz.func107 rfl rfl (IndexFuncSt_ok h hlen hf) ?_
  rintro _ w1 ⟨⟨r, rfl, hr⟩, hm⟩
  rw [BK_geq]
  refine ⟨?_, hm⟩
  cases hp : l.any p with
  | true =>
    rw [hp, if_pos rfl] at hr
    rw [decide_eq_true hr]
  | false =>
    rw [hp, if_neg (by simp)] at hr
    rw [hr]
    rfl
/-- ContainsFunc, over what its test says of each. -/
theorem IndexFuncDe_ok {w : World} {s : Value} {l : List De} {p : De → Bool} {fv : Value} (h : DesOk w s l) (hlen : l.length ≤ 1099511627776)
    (hf : ∀ a ∈ l, ∀ w', Mod none_ w w' → ∀ K : Value → World → Prop, (∀ w'', Mod none_ w' w'' → K (.bool (p a)) w'') → CK Tryz.prog fv [.agg a.cells.toArray] w' K) :
    Rt Tryz.prog 101 #[s, fv] w fun v w' => (∃ r : Int, v = .int .i64 r ∧ (if l.any p then 0 ≤ r else r = -1)) ∧ Mod none_ w w' := by
  obtain ⟨A, c, hs, _⟩ := reads_cap h.1
  refine slices_IndexFunc_tree_Decl_tree_Decl_calls ?_
  unfold slices_IndexFunc_tree_Decl_tree_Decl_F
  simp only [hs, fo25_0, fo25_1, fo48_0, fo48_1, fo62_0, fo62_1, fo62_2, fo62_3, fo62_4, fo62_5, fo62_6, fo62_7, fo85_0, fo85_1, fo85_2, fo85_3, ld2, ld3, ld5, ld9, ld22, ld23, ld60, len9, len22, len23, len60, len111, ldK_some, cellE, blkC_c, add_pl, Nat.zero_add, List.getElem?_toArray, List.getElem?_cons_succ, List.getElem?_cons_zero]
  refine W_loop slices_IndexFunc_tree_Decl_tree_Decl_L0_ok (fun ρ w' => ∃ n : Nat, n ≤ l.length ∧ ρ 8 = .int .i64 n ∧ ρ 7 = .int .i64 l.length ∧ ρ 0 = .slice A l.length c ∧ ρ 1 = fv ∧ (∀ a ∈ l.take n, p a = false) ∧ Mod none_ w w') (fun ρ _ => l.length - (intOf (ρ 8)).toNat)
    ⟨0, Nat.zero_le _, rfl, rfl, rfl, rfl, by simp, Mod.refl _ _⟩ ?_
  rintro ρ w1 ⟨n, hn, h8, h7, h0, h1, hno, hm⟩
  rw [slices_IndexFunc_tree_Decl_tree_Decl_L0_eq]
  unfold slices_IndexFunc_tree_Decl_tree_Decl_L0_F
  simp only [h8, h7, h0, h1, BK_lss]
  by_cases hlt : n < l.length
  · rw [show decide ((n : Int) < (l.length : Int)) = true by rw [decide_eq_true_eq]; omega]
    simp only [CondK_bool, MG_u, NG_u, VG_u, UG_u, PG_u, BG_u, CG_u, IG_u, MG_b, NG_b, VG_b, UG_b, PG_b, BG_b, CG_b, IG_b, PK_bool, NK_ptr, not_ok, reduceCtorEq, if_true, if_false, Bool.true_eq_false, Bool.false_eq_true, Bool.not_true, Bool.not_false]
    have hx : l[n]? = some l[n] := List.getElem?_eq_getElem hlt
    have hmem : l[n] ∈ l := List.getElem_mem hlt
    have h2 := h.mod hm
    rw [hs] at h2
    refine ixDe h2 hx fun y => ?_
    refine hf _ hmem w1 hm _ fun w2 hm2 => ?_
    refine caseC (fun hp => ?_) (fun hp => ?_)
    · refine ⟨⟨_, rfl, ?_⟩, hm.trans hm2⟩
      rw [if_pos (List.any_eq_true.2 ⟨_, hmem, hp⟩)]
      omega
    · rw [BK_add, wrap_i (by omega) (by omega)]
      refine ⟨⟨n + 1, hlt, rfl, h7, h0, h1, ?_, hm.trans hm2⟩, ?_⟩
      · rw [List.take_add_one, hx, Option.toList_some]
        intro a q
        rcases List.mem_append.1 q with q | q
        · exact hno a q
        · rw [List.mem_singleton.1 q]; exact hp
      · simp only [sq_n, sq_x, sq_r, bk_n, bk_r, bk_x, rt_r, rt_n, rs_0, rs_t, pk_1, pk_2, up_at, reduceIte, Nat.reduceEqDiff, intOf]; omega
  · obtain rfl : n = l.length := by omega
    rw [show decide (((l.length : Nat) : Int) < (l.length : Int)) = false by simp]
    simp only [CondK_bool, MG_u, NG_u, VG_u, UG_u, PG_u, BG_u, CG_u, IG_u, MG_b, NG_b, VG_b, UG_b, PG_b, BG_b, CG_b, IG_b, PK_bool, NK_ptr, not_ok, reduceCtorEq, if_true, if_false, Bool.true_eq_false, Bool.false_eq_true, Bool.not_true, Bool.not_false, sq_n, sq_x, sq_r, bk_n, bk_r, bk_x, rt_r, rt_n, rs_0, rs_t, pk_1, pk_2, up_at, reduceIte, Nat.reduceEqDiff]
    rw [slices_IndexFunc_tree_Decl_tree_Decl_R1_eq]
    unfold slices_IndexFunc_tree_Decl_tree_Decl_R1_F
    simp only [sq_n, sq_x, sq_r, bk_n, bk_r, bk_x, rt_r, rt_n, rs_0, rs_t, pk_1, pk_2, up_at, reduceIte, Nat.reduceEqDiff]
    refine ⟨⟨_, rfl, ?_⟩, hm⟩
    rw [if_neg]
    intro q
    obtain ⟨a, ha, hp⟩ := List.any_eq_true.1 q
    rw [List.take_length] at hno
    rw [hno a ha] at hp
    cases hp
theorem ContainsFuncDe_ok {w : World} {s : Value} {l : List De} {p : De → Bool} {fv : Value} (h : DesOk w s l) (hlen : l.length ≤ 1099511627776)
    (hf : ∀ a ∈ l, ∀ w', Mod none_ w w' → ∀ K : Value → World → Prop, (∀ w'', Mod none_ w' w'' → K (.bool (p a)) w'') → CK Tryz.prog fv [.agg a.cells.toArray] w' K) :
    Rt Tryz.prog 70 #[s, fv] w fun v w' => v = .bool (l.any p) ∧ Mod none_ w w' := by
  refine slices_ContainsFunc_tree_Decl_tree_Decl_calls ?_
  unfold slices_ContainsFunc_tree_Decl_tree_Decl_F
  refine CK_st Tryz.func101 rfl rfl (IndexFuncDe_ok h hlen hf) ?_
  rintro _ w1 ⟨⟨r, rfl, hr⟩, hm⟩
  rw [BK_geq]
  refine ⟨?_, hm⟩
  cases hp : l.any p with
  | true =>
    rw [hp, if_pos rfl] at hr
    rw [decide_eq_true hr]
  | false =>
    rw [hp, if_neg (by simp)] at hr
    rw [hr]
    rfl
end Go.Proofs.YtpkfbaagpjdifaaGreatDoor.Tr
set_option linter.unusedVariables false
set_option linter.unusedSimpArgs false
set_option maxRecDepth 4000
namespace Go.Proofs.YtpkfbaagpjdifaaGreatDoor.Tr
open Go Go.X Go.RowKit Go.Proofs.YtpkfbaagpjdifaaGreatDoor.XF Go.Proofs.YtpkfbaagpjdifaaGreatDoor.XK
def MayOk (a : Ex) : Prop := ∀ w, Gl w → a.Ok w → a.sz ≤ 1099511627776 → Rt Tryz.prog 124 #[.agg a.cells.toArray] w fun v w' => v = .bool a.may ∧ Mod none_ w w'
theorem not_may_call {l : List Ex} (ih : ∀ a ∈ l, MayOk a) {w : World} (hg : Gl w) {s : Value} (h : ExsOk w s l) (hsz : Ex.szL l ≤ 1099511627776) :
    ∀ a ∈ l, ∀ w', Mod none_ w w' → ∀ K : Value → World → Prop, (∀ w'', Mod none_ w' w'' → K (.bool (!a.may)) w'') → CK Tryz.prog (.func (.func 133) #[] #[]) [.agg a.cells.toArray] w' K := by
  intro a ha w' hm K hk
  refine CK_st (R := fun v w'' => v = .bool (!a.may) ∧ Mod none_ w' w'') Tryz.func133 rfl rfl ?_ (fun v w'' hv => by rw [hv.1]; exact hk w'' hv.2)
  refine tree_mayExpr_1_calls ?_
  unfold tree_mayExpr_1_F
  refine box_k (cs := a.cells.toArray) rfl fun w1 hb1 hm1 _ => ?_
  refine ldB (cs := a.cells.toArray) Tryz.underlying85 rfl iEx hb1 ?_
  refine CK_st Tryz.func124 rfl rfl (ih a ha w1 ((hg.mod hm).mod hm1) (((h.2 a ha).mod hm).mod hm1) (by have := Ex.szL_mem ha; omega)) ?_
  rintro _ w2 ⟨rfl, hm2⟩
  simp only [CondK_bool, MG_u, NG_u, VG_u, UG_u, PG_u, BG_u, CG_u, IG_u, MG_b, NG_b, VG_b, UG_b, PG_b, BG_b, CG_b, IG_b, PK_bool, NK_ptr, not_ok, reduceCtorEq, if_true, if_false, Bool.true_eq_false, Bool.false_eq_true, Bool.not_true, Bool.not_false]
  exact ⟨trivial, hm1.trans hm2⟩
theorem any_not_may (l : List Ex) : (!l.any fun a => !a.may) = Ex.mayL l := by
  rw [Ex.mayL_eq]
  induction l with
  | nil => rfl
  | cons a r ih => simp only [List.any_cons, List.all_cons, Bool.not_or, Bool.not_not, ih]
theorem mayR2 {e : Ex} {w w1 : World} (hok : e.Ok w) (hg : Gl w) (hsz : e.sz ≤ 1099511627776) (hm : Mod none_ w w1) (ih : ∀ a ∈ e.args, MayOk a) {b1 b3 : Nat} {x0 x3 x4 x5 : Value} {onum : Int} {oname : ByteArray}
    (hb1 : w1.heap[b1]? = some (.cells e.cells.toArray 85 (0, 0))) (hb3 : w1.heap[b3]? = some (.cells #[x0, .int .i64 onum, .string oname, x3, x4, x5] 85 (0, 0))) {ρ : Sl} {ok : Bool}
    (h1 : ρ 1 = .pointer (some ⟨b1, 0, none⟩)) (h3 : ρ 3 = .pointer (some ⟨b3, 0, none⟩)) (h4 : ρ 4 = .bool ok) :
    sx fn_ Tryz.prog 88 tree_mayExpr_R2 (retK Tryz.prog [ResultVar.tmp 2] fun v w' => v = .bool (ok && (onum == e.num) && (oname.data.toList == e.name.data.toList) && Ex.mayL e.args) ∧ Mod none_ w w') ρ w1 := by
  obtain ⟨A, c, hs, _⟩ := reads_cap hok.args.1
  rw [tree_mayExpr_R2_eq]
  unfold tree_mayExpr_R2_F
  simp only [h1, h3, h4]
  cases ok with
  | false =>
    simp only [CondK_bool, MG_u, NG_u, VG_u, UG_u, PG_u, BG_u, CG_u, IG_u, MG_b, NG_b, VG_b, UG_b, PG_b, BG_b, CG_b, IG_b, PK_bool, NK_ptr, not_ok, reduceCtorEq, if_true, if_false, Bool.true_eq_false, Bool.false_eq_true, Bool.not_true, Bool.not_false]
    exact ⟨rfl, hm⟩
  | true =>
    simp only [CondK_bool, MG_u, NG_u, VG_u, UG_u, PG_u, BG_u, CG_u, IG_u, MG_b, NG_b, VG_b, UG_b, PG_b, BG_b, CG_b, IG_b, PK_bool, NK_ptr, not_ok, reduceCtorEq, if_true, if_false, Bool.true_eq_false, Bool.false_eq_true, Bool.not_true, Bool.not_false, fo25_0, fo25_1, fo48_0, fo48_1, fo62_0, fo62_1, fo62_2, fo62_3, fo62_4, fo62_5, fo62_6, fo62_7, fo85_0, fo85_1, fo85_2, fo85_3, ld2, ld3, ld5, ld9, ld22, ld23, ld60, len9, len22, len23, len60, len111, ldK_some, cellE, blkC_c, add_pl, Nat.zero_add, List.getElem?_toArray, List.getElem?_cons_succ, List.getElem?_cons_zero, Ex.c0, Ex.c1, Ex.c2, Ex.c3, Ex.c4, Ex.c5, St.c0, St.c1, St.c2, St.c3, St.c4, St.c5, St.c6, St.c7, St.c8, St.c9, hb1, hb3, BK_eql]
    cases hn : (onum == e.num) with
    | false =>
      simp only [CondK_bool, MG_u, NG_u, VG_u, UG_u, PG_u, BG_u, CG_u, IG_u, MG_b, NG_b, VG_b, UG_b, PG_b, BG_b, CG_b, IG_b, PK_bool, NK_ptr, not_ok, reduceCtorEq, if_true, if_false, Bool.true_eq_false, Bool.false_eq_true, Bool.not_true, Bool.not_false]
      exact ⟨rfl, hm⟩
    | true =>
      simp only [CondK_bool, MG_u, NG_u, VG_u, UG_u, PG_u, BG_u, CG_u, IG_u, MG_b, NG_b, VG_b, UG_b, PG_b, BG_b, CG_b, IG_b, PK_bool, NK_ptr, not_ok, reduceCtorEq, if_true, if_false, Bool.true_eq_false, Bool.false_eq_true, Bool.not_true, Bool.not_false, fo25_0, fo25_1, fo48_0, fo48_1, fo62_0, fo62_1, fo62_2, fo62_3, fo62_4, fo62_5, fo62_6, fo62_7, fo85_0, fo85_1, fo85_2, fo85_3, ld2, ld3, ld5, ld9, ld22, ld23, ld60, len9, len22, len23, len60, len111, ldK_some, cellE, blkC_c, add_pl, Nat.zero_add, List.getElem?_toArray, List.getElem?_cons_succ, List.getElem?_cons_zero, Ex.c0, Ex.c1, Ex.c2, Ex.c3, Ex.c4, Ex.c5, St.c0, St.c1, St.c2, St.c3, St.c4, St.c5, St.c6, St.c7, St.c8, St.c9, hb1, hb3, BK_eqlS, ByteArray.toList_eq]
      cases ho : (oname.data.toList == e.name.data.toList) with
      | false =>
        simp only [CondK_bool, MG_u, NG_u, VG_u, UG_u, PG_u, BG_u, CG_u, IG_u, MG_b, NG_b, VG_b, UG_b, PG_b, BG_b, CG_b, IG_b, PK_bool, NK_ptr, not_ok, reduceCtorEq, if_true, if_false, Bool.true_eq_false, Bool.false_eq_true, Bool.not_true, Bool.not_false]
        exact ⟨rfl, hm⟩
      | true =>
        simp only [CondK_bool, MG_u, NG_u, VG_u, UG_u, PG_u, BG_u, CG_u, IG_u, MG_b, NG_b, VG_b, UG_b, PG_b, BG_b, CG_b, IG_b, PK_bool, NK_ptr, not_ok, reduceCtorEq, if_true, if_false, Bool.true_eq_false, Bool.false_eq_true, Bool.not_true, Bool.not_false, fo25_0, fo25_1, fo48_0, fo48_1, fo62_0, fo62_1, fo62_2, fo62_3, fo62_4, fo62_5, fo62_6, fo62_7, fo85_0, fo85_1, fo85_2, fo85_3, ld2, ld3, ld5, ld9, ld22, ld23, ld60, len9, len22, len23, len60, len111, ldK_some, cellE, blkC_c, add_pl, Nat.zero_add, List.getElem?_toArray, List.getElem?_cons_succ, List.getElem?_cons_zero, Ex.c0, Ex.c1, Ex.c2, Ex.c3, Ex.c4, Ex.c5, St.c0, St.c1, St.c2, St.c3, St.c4, St.c5, St.c6, St.c7, St.c8, St.c9, hb1]
        have hszL : Ex.szL e.args ≤ 1099511627776 := by rw [Ex.sz_eq] at hsz; omega
        refine CK_st Tryz.func122 rfl rfl (ContainsFuncEx_ok (hok.args.mod hm) (by have := Ex.len_sz e.args; omega) (not_may_call ih (hg.mod hm) (hok.args.mod hm) hszL)) ?_
        rintro _ w2 ⟨rfl, hm2⟩
        simp only [CondK_bool, MG_u, NG_u, VG_u, UG_u, PG_u, BG_u, CG_u, IG_u, MG_b, NG_b, VG_b, UG_b, PG_b, BG_b, CG_b, IG_b, PK_bool, NK_ptr, not_ok, reduceCtorEq, if_true, if_false, Bool.true_eq_false, Bool.false_eq_true, Bool.not_true, Bool.not_false]
        refine ⟨?_, hm.trans hm2⟩
        rw [any_not_may]
        rfl
end Go.Proofs.YtpkfbaagpjdifaaGreatDoor.Tr
set_option linter.unusedVariables false
set_option linter.unusedSimpArgs false
set_option maxRecDepth 4000
namespace Go.Proofs.YtpkfbaagpjdifaaGreatDoor.Tr
open Go Go.X Go.RowKit Go.Proofs.YtpkfbaagpjdifaaGreatDoor.XF Go.Proofs.YtpkfbaagpjdifaaGreatDoor.XK
def Ex.ok1 (e : Ex) : Bool := decide (1 ≤ e.op) && decide (e.op ≤ 20) && decide (e.args.length = sidesP e.op)
theorem cI64 : Tryz.prog.cellsOf 2 = 1 := by kernel_rfl
theorem bEx (op : Int) : Tryz.prog.built 85 [(0, .int .u8 op)] = some #[.int .u8 op, .int .i64 0, .string ByteArray.empty, .slice none 0 0, .int .i64 0, .int .i64 0] := by kernel_rfl
/-- What stands in the own block. -/
def ownB (op num : Int) (name : ByteArray) : Array Value := #[.int .u8 op, .int .i64 num, .string name, .slice none 0 0, .int .i64 0, .int .i64 0]
structure MSt (e : Ex) (w w1 : World) (b1 b3 : Nat) (ρ : Sl) (ok : Bool) (num : Int) (name : ByteArray) : Prop where
  m : Mod none_ w w1
  h1 : ρ 1 = .pointer (some ⟨b1, 0, none⟩)
  h3 : ρ 3 = .pointer (some ⟨b3, 0, none⟩)
  h4 : ρ 4 = .bool ok
  hb1 : w1.heap[b1]? = some (.cells e.cells.toArray 85 (0, 0))
  hb3 : w1.heap[b3]? = some (.cells (ownB e.op num name) 85 (0, 0))
  le : w.heap.size ≤ b3
  ne : b1 ≠ b3
theorem MSt.later {e : Ex} {w w1 w2 : World} {b1 b3 : Nat} {ρ ρ' : Sl} {ok ok' : Bool} {num : Int} {name : ByteArray} (h : MSt e w w1 b1 b3 ρ ok num name) (hm : Mod none_ w1 w2) (h1 : ρ' 1 = ρ 1) (h3 : ρ' 3 = ρ 3) (h4 : ρ' 4 = .bool ok') : MSt e w w2 b1 b3 ρ' ok' num name :=
  ⟨h.m.trans hm, h1.trans h.h1, h3.trans h.h3, h4, hm.blk h.hb1 id, hm.blk h.hb3 id, h.le, h.ne⟩
section
variable {e : Ex} {w w1 : World} (hok : e.Ok w) (hg : Gl w) (hsz : e.sz ≤ 1099511627776) (ih : ∀ a ∈ e.args, MayOk a) {b1 b3 : Nat} {ρ : Sl} {ok : Bool}
include hok hg hsz ih
theorem may2 {num : Int} {name : ByteArray} (h : MSt e w w1 b1 b3 ρ ok num name) {z : Bool} (hz : (ok && (num == e.num) && (name.data.toList == e.name.data.toList) && Ex.mayL e.args) = z) :
    sx fn_ Tryz.prog 88 tree_mayExpr_R2 (retK Tryz.prog [ResultVar.tmp 2] fun v w' => v = .bool z ∧ Mod none_ w w') ρ w1 := by
  subst hz
  exact mayR2 hok hg hsz h.m ih h.hb1 h.hb3 h.h1 h.h3 h.h4
theorem may3 (h : MSt e w w1 b1 b3 ρ ok 0 ByteArray.empty) {t : Bool} (h43 : ρ 43 = .bool t) (h26 : ρ 26 = .int .u8 e.op) (ht : t = decide (e.op = 2 ∨ e.op = 3)) (h1 : e.op ≠ 1) :
    sx fn_ Tryz.prog 88 tree_mayExpr_R3 (blkK 0 (seqK (sx fn_ Tryz.prog 88 tree_mayExpr_R2 (retK Tryz.prog [ResultVar.tmp 2] fun v w' => v = .bool (ok && (decide (e.num = 0) && (if e.op = 2 ∨ e.op = 3 then nameP e.name else if e.op = 5 then plainP e.name else decide (e.name.size = 0))) && Ex.mayL e.args) ∧ Mod none_ w w'))
      (retK Tryz.prog [ResultVar.tmp 2] fun v w' => v = .bool (ok && (decide (e.num = 0) && (if e.op = 2 ∨ e.op = 3 then nameP e.name else if e.op = 5 then plainP e.name else decide (e.name.size = 0))) && Ex.mayL e.args) ∧ Mod none_ w w'))) ρ w1 := by
  have hn0 : ((0 : Int) == e.num) = decide (e.num = 0) := by
    by_cases q : e.num = 0
    · rw [q]; rfl
    · rw [decide_eq_false q, beq_eq_false_iff_ne]; omega
  have hss : (e.name.data.toList == e.name.data.toList) = true := beq_self_eq_true _
  rw [tree_mayExpr_R3_eq]
  unfold tree_mayExpr_R3_F
  rw [h43]
  subst ht
  refine caseC (fun hp => ?_) (fun hp => ?_)
  · rw [decide_eq_true_eq] at hp
    simp only [h.h1, h.h3, fo25_0, fo25_1, fo48_0, fo48_1, fo62_0, fo62_1, fo62_2, fo62_3, fo62_4, fo62_5, fo62_6, fo62_7, fo85_0, fo85_1, fo85_2, fo85_3, ld2, ld3, ld5, ld9, ld22, ld23, ld60, len9, len22, len23, len60, len111, ldK_some, cellE, blkC_c, add_pl, Nat.zero_add, List.getElem?_toArray, List.getElem?_cons_succ, List.getElem?_cons_zero, Ex.c0, Ex.c1, Ex.c2, Ex.c3, Ex.c4, Ex.c5, St.c0, St.c1, St.c2, St.c3, St.c4, St.c5, St.c6, St.c7, St.c8, St.c9, h.hb1]
    refine st_k cS rfl h.hb3 (by simp [ownB]) fun w2 hb2 hold hsz2 hm2 => ?_
    have hb1' : w2.heap[b1]? = some (.cells e.cells.toArray 85 (0, 0)) := (hold _ h.ne).trans h.hb1
    have hmm : Mod none_ w w2 := h.m.then hm2 fun i hi q => by have := h.le; omega
    have st : ∀ (ρ' : Sl) (k : Bool), ρ' 1 = ρ 1 → ρ' 3 = ρ 3 → ρ' 4 = .bool k → MSt e w w2 b1 b3 ρ' k 0 e.name := fun ρ' k q1 q3 q4 => ⟨hmm, q1.trans h.h1, q3.trans h.h3, q4, hb1', hb2, h.le, h.ne⟩
    rw [h.h4]
    cases ok with
    | false =>
      simp only [CondK_bool, MG_u, NG_u, VG_u, UG_u, PG_u, BG_u, CG_u, IG_u, MG_b, NG_b, VG_b, UG_b, PG_b, BG_b, CG_b, IG_b, PK_bool, NK_ptr, not_ok, reduceCtorEq, if_true, if_false, Bool.true_eq_false, Bool.false_eq_true, Bool.not_true, Bool.not_false]
      rw [bk_n, sq_n]
      refine may2 hok hg hsz ih (b1 := b1) (b3 := b3) (ok := false) (num := 0) (name := e.name) ?_ ?_
      · refine st _ false ?_ ?_ ?_ <;> rfl
      · rfl
    | true =>
      simp only [CondK_bool, MG_u, NG_u, VG_u, UG_u, PG_u, BG_u, CG_u, IG_u, MG_b, NG_b, VG_b, UG_b, PG_b, BG_b, CG_b, IG_b, PK_bool, NK_ptr, not_ok, reduceCtorEq, if_true, if_false, Bool.true_eq_false, Bool.false_eq_true, Bool.not_true, Bool.not_false, fo25_0, fo25_1, fo48_0, fo48_1, fo62_0, fo62_1, fo62_2, fo62_3, fo62_4, fo62_5, fo62_6, fo62_7, fo85_0, fo85_1, fo85_2, fo85_3, ld2, ld3, ld5, ld9, ld22, ld23, ld60, len9, len22, len23, len60, len111, ldK_some, cellE, blkC_c, add_pl, Nat.zero_add, List.getElem?_toArray, List.getElem?_cons_succ, List.getElem?_cons_zero, Ex.c0, Ex.c1, Ex.c2, Ex.c3, Ex.c4, Ex.c5, St.c0, St.c1, St.c2, St.c3, St.c4, St.c5, St.c6, St.c7, St.c8, St.c9, hb1']
      refine CK_st Tryz.func68 rfl rfl (Name_ok (hg.mod hmm) e.name hok.fine.2.2.1) ?_
      rintro _ w3 ⟨rfl, hm3⟩
      rw [bk_n, sq_n]
      refine may2 hok hg hsz ih (b1 := b1) (b3 := b3) (ok := nameP e.name) (num := 0) (name := e.name) ?_ ?_
      · refine (st ρ _ rfl rfl h.h4).later hm3 ?_ ?_ ?_ <;> rfl
      rw [if_pos hp, hn0, hss]
      cases nameP e.name <;> cases decide (e.num = 0) <;> rfl
  · rw [decide_eq_false_iff_not] at hp
    rw [h26]
    refine caseI (fun h5 => condT ?_) (fun h5 => condF ?_)
    · simp only [h.h1, h.h3, fo25_0, fo25_1, fo48_0, fo48_1, fo62_0, fo62_1, fo62_2, fo62_3, fo62_4, fo62_5, fo62_6, fo62_7, fo85_0, fo85_1, fo85_2, fo85_3, ld2, ld3, ld5, ld9, ld22, ld23, ld60, len9, len22, len23, len60, len111, ldK_some, cellE, blkC_c, add_pl, Nat.zero_add, List.getElem?_toArray, List.getElem?_cons_succ, List.getElem?_cons_zero, Ex.c0, Ex.c1, Ex.c2, Ex.c3, Ex.c4, Ex.c5, St.c0, St.c1, St.c2, St.c3, St.c4, St.c5, St.c6, St.c7, St.c8, St.c9, h.hb1]
      refine st_k cS rfl h.hb3 (by simp [ownB]) fun w2 hb2 hold hsz2 hm2 => ?_
      have hb1' : w2.heap[b1]? = some (.cells e.cells.toArray 85 (0, 0)) := (hold _ h.ne).trans h.hb1
      have hmm : Mod none_ w w2 := h.m.then hm2 fun i hi q => by have := h.le; omega
      have st : ∀ (w3 : World) (ρ' : Sl) (k : Bool), Mod none_ w2 w3 → ρ' 1 = ρ 1 → ρ' 3 = ρ 3 → ρ' 4 = .bool k → MSt e w w3 b1 b3 ρ' k 0 e.name := fun w3 ρ' k hm3 q1 q3 q4 => ⟨hmm.trans hm3, q1.trans h.h1, q3.trans h.h3, q4, hm3.blk hb1' id, hm3.blk hb2 id, h.le, h.ne⟩
      refine tree_mayExpr_R4_quiet (D := []) (fun w' => Mod none_ w2 w') ((Mod.refl _ w2).drawn _) ?_
      unfold tree_mayExpr_R4_Q
      have e4 : ∀ ρ' : Sl, ρ' 4 = ρ 4 → ρ' 4 = .bool ok := fun ρ' q => q.trans h.h4
      simp only [sq_n, sq_x, sq_r, bk_n, bk_r, bk_x, rt_r, rt_n, rs_0, rs_t, pk_1, pk_2, up_at, reduceIte, Nat.reduceEqDiff, h.h4, h.h1, QG_b]
      cases ok with
      | false =>
        simp only [Bool.false_eq_true, if_false]
        refine QP_of ?_
        simp only [Bool.false_eq_true, if_false]
        intro w3 hm3
        refine may2 hok hg hsz ih (b1 := b1) (b3 := b3) (ok := false) (num := 0) (name := e.name) ?_ ?_
        · refine st w3 _ false hm3 ?_ ?_ ?_ <;> rfl
        · rfl
      | true =>
        simp only [if_true]
        refine QV_of (fun w' _ => cut_plain w' _) ?_
        refine Qfo (off := 2) (by kernel_rfl) (Qld uS rfl (v := .string e.name) (fun w' hw => by rw [add_pl, cell_blk (hw.blk hb1' id)]; rfl) ?_)
        refine QC_rt Tryz.func119 rfl rfl (v := .bool (plainP e.name)) (fun w' hw => Contains_ok e.name (l := plainL) (reads_at ((hg.mod hmm).mod hw).plain (by decide)) (by decide)) (fun w' u w'' hw hu => ⟨hu.1, by rw [hu.2]; exact hw⟩) ?_
        refine QP_of ?_
        simp only [if_true]
        intro w3 hm3
        refine may2 hok hg hsz ih (b1 := b1) (b3 := b3) (ok := plainP e.name) (num := 0) (name := e.name) ?_ ?_
        · refine st w3 _ (plainP e.name) hm3 ?_ ?_ ?_ <;> rfl
        rw [if_neg hp, if_pos h5, hn0, hss]
        cases plainP e.name <;> cases decide (e.num = 0) <;> rfl
    · rw [bk_n, sq_n]
      refine may2 hok hg hsz ih (b1 := b1) (b3 := b3) (ok := ok) (num := 0) (name := ByteArray.empty) ?_ ?_
      · refine h.later (Mod.refl _ _) ?_ ?_ h.h4 <;> rfl
      rw [if_neg hp, if_neg h5, hn0, show (ByteArray.empty.data.toList == e.name.data.toList) = decide (e.name.size = 0) by rw [← empty_iff, Bool.beq_comm]; rfl]
      cases ok <;> cases decide (e.num = 0) <;> cases decide (e.name.size = 0) <;> rfl
end
end Go.Proofs.YtpkfbaagpjdifaaGreatDoor.Tr
set_option linter.unusedVariables false
set_option linter.unusedSimpArgs false
set_option maxRecDepth 4000
namespace Go.Proofs.YtpkfbaagpjdifaaGreatDoor.Tr
open Go Go.X Go.RowKit Go.Proofs.YtpkfbaagpjdifaaGreatDoor.XF Go.Proofs.YtpkfbaagpjdifaaGreatDoor.XK
section
variable {e : Ex} {w w1 : World} (hok : e.Ok w) (hg : Gl w) (hsz : e.sz ≤ 1099511627776) (ih : ∀ a ∈ e.args, MayOk a) {b1 b3 : Nat} {ρ : Sl}
include hok hg hsz ih
theorem may1 (h : MSt e w w1 b1 b3 ρ (Ex.ok1 e) 0 ByteArray.empty) :
    sx fn_ Tryz.prog 88 tree_mayExpr_R1 (retK Tryz.prog [ResultVar.tmp 2] fun v w' => v = .bool e.may ∧ Mod none_ w w') ρ w1 := by
  have hmay : e.may = ((Ex.ok1 e) && (if e.op = 1 then decide (0 ≤ e.num) && decide (e.num < 1000000000000000000) && decide (e.name.size = 0) else decide (e.num = 0) && (if e.op = 2 ∨ e.op = 3 then nameP e.name else if e.op = 5 then plainP e.name else decide (e.name.size = 0))) && Ex.mayL e.args) := by
    rw [Ex.may_eq]; rfl
  rw [tree_mayExpr_R1_eq]
  unfold tree_mayExpr_R1_F
  simp only [h.h1, fo25_0, fo25_1, fo48_0, fo48_1, fo62_0, fo62_1, fo62_2, fo62_3, fo62_4, fo62_5, fo62_6, fo62_7, fo85_0, fo85_1, fo85_2, fo85_3, ld2, ld3, ld5, ld9, ld22, ld23, ld60, len9, len22, len23, len60, len111, ldK_some, cellE, blkC_c, add_pl, Nat.zero_add, List.getElem?_toArray, List.getElem?_cons_succ, List.getElem?_cons_zero, Ex.c0, Ex.c1, Ex.c2, Ex.c3, Ex.c4, Ex.c5, St.c0, St.c1, St.c2, St.c3, St.c4, St.c5, St.c6, St.c7, St.c8, St.c9, h.hb1]
  refine caseI (fun hp => condT ?_) (fun hp => condF ?_)
  · simp only [h.h1, h.h3, fo25_0, fo25_1, fo48_0, fo48_1, fo62_0, fo62_1, fo62_2, fo62_3, fo62_4, fo62_5, fo62_6, fo62_7, fo85_0, fo85_1, fo85_2, fo85_3, ld2, ld3, ld5, ld9, ld22, ld23, ld60, len9, len22, len23, len60, len111, ldK_some, cellE, blkC_c, add_pl, Nat.zero_add, List.getElem?_toArray, List.getElem?_cons_succ, List.getElem?_cons_zero, Ex.c0, Ex.c1, Ex.c2, Ex.c3, Ex.c4, Ex.c5, St.c0, St.c1, St.c2, St.c3, St.c4, St.c5, St.c6, St.c7, St.c8, St.c9, h.hb1]
    refine st_k cI64 rfl h.hb3 (by simp [ownB]) fun w2 hb2 hold hsz2 hm2 => ?_
    have hb1' : w2.heap[b1]? = some (.cells e.cells.toArray 85 (0, 0)) := (hold _ h.ne).trans h.hb1
    have hmm : Mod none_ w w2 := h.m.then hm2 fun i hi q => by have := h.le; omega
    have st : ∀ (ρ' : Sl) (k : Bool), ρ' 1 = ρ 1 → ρ' 3 = ρ 3 → ρ' 4 = .bool k → MSt e w w2 b1 b3 ρ' k e.num ByteArray.empty := fun ρ' k q1 q3 q4 => ⟨hmm, q1.trans h.h1, q3.trans h.h3, q4, hb1', hb2, h.le, h.ne⟩
    have hnn : (e.num == e.num) = true := beq_self_eq_true _
    have hes : (ByteArray.empty.data.toList == e.name.data.toList) = decide (e.name.size = 0) := by rw [← empty_iff, Bool.beq_comm]; rfl
    rw [h.h4, hmay, if_pos hp]
    have fin : ∀ (ρ' : Sl) (k : Bool), ρ' 1 = ρ 1 → ρ' 3 = ρ 3 → ρ' 4 = .bool k → k = ((Ex.ok1 e) && (decide (0 ≤ e.num) && decide (e.num < 1000000000000000000))) → sx fn_ Tryz.prog 88 tree_mayExpr_R2 (retK Tryz.prog [ResultVar.tmp 2] fun v w' => v = .bool ((Ex.ok1 e) && (decide (0 ≤ e.num) && decide (e.num < 1000000000000000000) && decide (e.name.size = 0)) && Ex.mayL e.args) ∧ Mod none_ w w') ρ' w2 := by
      intro ρ' k q1 q3 q4 hk
      refine may2 hok hg hsz ih (b1 := b1) (b3 := b3) (ok := k) (num := e.num) (name := ByteArray.empty) (st ρ' k q1 q3 q4) ?_
      rw [hk, hnn, hes]
      cases (Ex.ok1 e) <;> cases decide (0 ≤ e.num) <;> cases decide (e.num < 1000000000000000000) <;> cases decide (e.name.size = 0) <;> rfl
    cases hk1 : (Ex.ok1 e) with
    | false =>
      rw [hk1] at fin
      simp only [CondK_bool, MG_u, NG_u, VG_u, UG_u, PG_u, BG_u, CG_u, IG_u, MG_b, NG_b, VG_b, UG_b, PG_b, BG_b, CG_b, IG_b, PK_bool, NK_ptr, not_ok, reduceCtorEq, if_true, if_false, Bool.true_eq_false, Bool.false_eq_true, Bool.not_true, Bool.not_false]
      refine fin _ false ?_ ?_ ?_ ?_ <;> rfl
    | true =>
      rw [hk1] at fin
      simp only [CondK_bool, MG_u, NG_u, VG_u, UG_u, PG_u, BG_u, CG_u, IG_u, MG_b, NG_b, VG_b, UG_b, PG_b, BG_b, CG_b, IG_b, PK_bool, NK_ptr, not_ok, reduceCtorEq, if_true, if_false, Bool.true_eq_false, Bool.false_eq_true, Bool.not_true, Bool.not_false, fo25_0, fo25_1, fo48_0, fo48_1, fo62_0, fo62_1, fo62_2, fo62_3, fo62_4, fo62_5, fo62_6, fo62_7, fo85_0, fo85_1, fo85_2, fo85_3, ld2, ld3, ld5, ld9, ld22, ld23, ld60, len9, len22, len23, len60, len111, ldK_some, cellE, blkC_c, add_pl, Nat.zero_add, List.getElem?_toArray, List.getElem?_cons_succ, List.getElem?_cons_zero, Ex.c0, Ex.c1, Ex.c2, Ex.c3, Ex.c4, Ex.c5, St.c0, St.c1, St.c2, St.c3, St.c4, St.c5, St.c6, St.c7, St.c8, St.c9, hb1', BK_geq]
      cases hk2 : decide (0 ≤ e.num) with
      | false =>
        rw [hk2] at fin
        simp only [CondK_bool, MG_u, NG_u, VG_u, UG_u, PG_u, BG_u, CG_u, IG_u, MG_b, NG_b, VG_b, UG_b, PG_b, BG_b, CG_b, IG_b, PK_bool, NK_ptr, not_ok, reduceCtorEq, if_true, if_false, Bool.true_eq_false, Bool.false_eq_true, Bool.not_true, Bool.not_false]
        refine fin _ false ?_ ?_ ?_ ?_ <;> rfl
      | true =>
        rw [hk2] at fin
        simp only [CondK_bool, MG_u, NG_u, VG_u, UG_u, PG_u, BG_u, CG_u, IG_u, MG_b, NG_b, VG_b, UG_b, PG_b, BG_b, CG_b, IG_b, PK_bool, NK_ptr, not_ok, reduceCtorEq, if_true, if_false, Bool.true_eq_false, Bool.false_eq_true, Bool.not_true, Bool.not_false, fo25_0, fo25_1, fo48_0, fo48_1, fo62_0, fo62_1, fo62_2, fo62_3, fo62_4, fo62_5, fo62_6, fo62_7, fo85_0, fo85_1, fo85_2, fo85_3, ld2, ld3, ld5, ld9, ld22, ld23, ld60, len9, len22, len23, len60, len111, ldK_some, cellE, blkC_c, add_pl, Nat.zero_add, List.getElem?_toArray, List.getElem?_cons_succ, List.getElem?_cons_zero, Ex.c0, Ex.c1, Ex.c2, Ex.c3, Ex.c4, Ex.c5, St.c0, St.c1, St.c2, St.c3, St.c4, St.c5, St.c6, St.c7, St.c8, St.c9, hb1', BK_lss]
        refine fin _ (decide (e.num < 1000000000000000000)) ?_ ?_ ?_ ?_ <;> rfl
  · rw [hmay, if_neg hp]
    have go := fun (ρ' : Sl) (t : Bool) (q1 : ρ' 1 = ρ 1) (q3 : ρ' 3 = ρ 3) (q4 : ρ' 4 = ρ 4) (q43 : ρ' 43 = .bool t) (q26 : ρ' 26 = .int .u8 e.op) (ht : t = decide (e.op = 2 ∨ e.op = 3)) => may3 hok hg hsz ih (h.later (ρ' := ρ') (ok' := Ex.ok1 e) (Mod.refl _ _) q1 q3 (q4.trans h.h4)) q43 q26 ht hp
    refine caseI (fun h2 => condT ?_) (fun h2 => condF ?_)
    · refine go _ true ?_ ?_ ?_ ?_ ?_ (by rw [decide_eq_true (Or.inl h2)]) <;> rfl
    · rw [BK_eql]
      refine go _ (e.op == 3) ?_ ?_ ?_ ?_ ?_ ?_
      · rfl
      · rfl
      · rfl
      · rfl
      · rfl
      · by_cases h3 : e.op = 3
        · rw [decide_eq_true (Or.inr h3), h3]; rfl
        · rw [decide_eq_false (by omega), beq_eq_false_iff_ne]; exact h3
end
theorem mayExpr_ok : ∀ e : Ex, MayOk e := by
  intro e
  induction e using Ex.ind with
  | h e ih =>
    intro w hg hok hsz
    obtain ⟨A, c, hs, _⟩ := reads_cap hok.args.1
    refine tree_mayExpr_calls ?_
    unfold tree_mayExpr_F
    refine box_k (cs := e.cells.toArray) rfl fun w1 hb1 hm1 hs1 => ?_
    simp only [fo25_0, fo25_1, fo48_0, fo48_1, fo62_0, fo62_1, fo62_2, fo62_3, fo62_4, fo62_5, fo62_6, fo62_7, fo85_0, fo85_1, fo85_2, fo85_3, ld2, ld3, ld5, ld9, ld22, ld23, ld60, len9, len22, len23, len60, len111, ldK_some, cellE, blkC_c, add_pl, Nat.zero_add, List.getElem?_toArray, List.getElem?_cons_succ, List.getElem?_cons_zero, Ex.c0, Ex.c1, Ex.c2, Ex.c3, Ex.c4, Ex.c5, St.c0, St.c1, St.c2, St.c3, St.c4, St.c5, St.c6, St.c7, St.c8, St.c9, hb1]
    rw [build_ok (bEx _)]
    refine lcl_k (cs := ownB e.op 0 ByteArray.empty) zEx _ iEx rfl (by simp [ownB, Value.oneCell']) fun w2 hb2 hm2 hs2 => ?_
    have hb1' := hm2.blk hb1 id
    have hmm := hm1.trans hm2
    have ne : w.heap.size ≠ w1.heap.size := by omega
    refine tree_mayExpr_R0_quiet (D := []) (fun w' => Mod none_ w2 w') ((Mod.refl _ w2).drawn _) ?_
    unfold tree_mayExpr_R0_Q
    have cell : ∀ (w' : World), Mod none_ w2 w' → ∀ (j : Nat) v, e.cells[j]? = some v → w'.cell? ⟨w.heap.size, 0 + j, none⟩ = some v := fun w' hw j v hv => by
      rw [cell_blk (hw.blk hb1' id), Nat.zero_add]
      simpa using hv
    refine Qfo (off := 0) (a := ⟨w.heap.size, 0, none⟩) (by kernel_rfl) (Qld uU8 rfl (v := .int .u8 e.op) (fun w' hw => by rw [add_pl]; exact cell w' hw 0 _ rfl) (Qgeq ?_))
    have fin : ∀ (k : Bool) (ρ' : Sl), k = (Ex.ok1 e) → ρ' 1 = .pointer (some ⟨w.heap.size, 0, none⟩) → ρ' 3 = .pointer (some ⟨w1.heap.size, 0, none⟩) → ρ' 4 = .bool k → ∀ w', Mod none_ w2 w' →
        sx fn_ Tryz.prog 88 tree_mayExpr_R1 (retK Tryz.prog [ResultVar.tmp 2] fun v w' => v = .bool e.may ∧ Mod none_ w w') ρ' w' := fun k ρ' hk q1 q3 q4 w' hw =>
      may1 hok hg hsz ih (b1 := w.heap.size) (b3 := w1.heap.size) ⟨hmm.trans hw, q1, q3, hk ▸ q4, hw.blk hb1' id, hw.blk hb2 id, by omega, ne⟩
    by_cases h1 : 1 ≤ e.op
    · rw [decide_eq_true h1]
      simp only [QG_b, if_true]
      refine Qfo (off := 0) (a := ⟨w.heap.size, 0, none⟩) (by kernel_rfl) (Qld uU8 rfl (v := .int .u8 e.op) (fun w' hw => by rw [add_pl]; exact cell w' hw 0 _ rfl) (Qleq (QP_of ?_)))
      simp only [if_true]
      by_cases h20 : e.op ≤ 20
      · rw [decide_eq_true h20]
        simp only [QG_b, if_true]
        refine Qfo (off := 3) (a := ⟨w.heap.size, 0, none⟩) (by kernel_rfl) (Qld uExs rfl (v := .slice A e.args.length c) (fun w' hw => by rw [add_pl]; exact cell w' hw 3 _ (by rw [← hs]; rfl)) (QI_len uExs _ _ _ _ ?_))
        refine Qfo (off := 0) (a := ⟨w.heap.size, 0, none⟩) (by kernel_rfl) (Qld uU8 rfl (v := .int .u8 e.op) (fun w' hw => by rw [add_pl]; exact cell w' hw 0 _ rfl) ?_)
        refine QC_rt Tryz.func132 rfl rfl (v := .int .i64 (sidesP e.op)) (fun w' hw => sides_ok e.op w') (fun w' u w'' hw hu => ⟨hu.1, by rw [hu.2]; exact hw⟩) (Qeql (QP_of ?_))
        simp only [if_true]
        intro w3 hm3
        refine fin ((e.args.length : Int) == (sidesP e.op : Int)) _ ?_ ?_ ?_ ?_ w3 hm3
        · unfold Ex.ok1
          rw [decide_eq_true h1, decide_eq_true h20]
          by_cases q : e.args.length = sidesP e.op
          · rw [decide_eq_true q, q]; simp
          · rw [decide_eq_false q, beq_eq_false_iff_ne.2 (by omega)]; rfl
        · rfl
        · rfl
        · rfl
      · rw [decide_eq_false h20]
        simp only [QG_b, Bool.false_eq_true, if_false]
        refine QP_of ?_
        simp only [Bool.false_eq_true, if_false]
        intro w3 hm3
        refine fin false _ (by unfold Ex.ok1; rw [decide_eq_false h20]; simp) ?_ ?_ ?_ w3 hm3 <;> rfl
    · rw [decide_eq_false h1]
      simp only [QG_b, Bool.false_eq_true, if_false]
      refine QP_of ?_
      simp only [Bool.false_eq_true, if_false, QG_b]
      refine QP_of ?_
      simp only [Bool.false_eq_true, if_false]
      intro w3 hm3
      refine fin false _ (by unfold Ex.ok1; rw [decide_eq_false h1]; rfl) ?_ ?_ ?_ w3 hm3 <;> rfl
end Go.Proofs.YtpkfbaagpjdifaaGreatDoor.Tr
set_option linter.unusedVariables false
set_option linter.unusedSimpArgs false
set_option maxRecDepth 4000
namespace Go.Proofs.YtpkfbaagpjdifaaGreatDoor.Tr
open Go Go.X Go.RowKit Go.Proofs.YtpkfbaagpjdifaaGreatDoor.XF Go.Proofs.YtpkfbaagpjdifaaGreatDoor.XK
theorem MayExprR_ok : ∀ (e : Ex) (w : World), e.Ok w → e.sz ≤ 1099511627776 → Rt Tryz.prog 111 #[.agg e.cells.toArray] w fun v w' => v = .bool e.may ∧ Mod none_ w w' := by
  intro e
  induction e using Ex.ind with
  | h e ih =>
    intro w hok hsz
    obtain ⟨A, c, hs, _⟩ := reads_cap hok.args.1
    have hszL : Ex.szL e.args ≤ 1099511627776 := by rw [Ex.sz_eq] at hsz; omega
    have hlen := Ex.len_sz e.args
    have hmay : e.may = ((Ex.ok1 e) && (if e.op = 1 then decide (0 ≤ e.num) && decide (e.num < 1000000000000000000) && decide (e.name.size = 0) else decide (e.num = 0) && (if e.op = 2 ∨ e.op = 3 then nameP e.name else if e.op = 5 then plainP e.name else decide (e.name.size = 0))) && Ex.mayL e.args) := by
      rw [Ex.may_eq]; rfl
    refine dispatcherref02_MayExpr_calls ?_
    unfold dispatcherref02_MayExpr_F
    refine box_k (cs := e.cells.toArray) rfl fun w1 hb1 hm1 hs1 => ?_
    refine dispatcherref02_MayExpr_R0_quiet (D := []) (fun w' => Mod none_ w1 w') ((Mod.refl _ w1).drawn _) ?_
    unfold dispatcherref02_MayExpr_R0_Q
    have cell : ∀ (w' : World), Mod none_ w1 w' → ∀ (j : Nat) v, e.cells[j]? = some v → w'.cell? ⟨w.heap.size, 0 + j, none⟩ = some v := fun w' hw j v hv => by
      rw [cell_blk (hw.blk hb1 id), Nat.zero_add]
      simpa using hv
    -- behind the first test
    have fin : ∀ (k : Bool) (ρ' : Sl), k = !(Ex.ok1 e) → ρ' 1 = .pointer (some ⟨w.heap.size, 0, none⟩) → ρ' 20 = .bool k → ∀ w', Mod none_ w1 w' →
        sx fn_ Tryz.prog 70 dispatcherref02_MayExpr_R1 (seqK (sx fn_ Tryz.prog 70 dispatcherref02_MayExpr_R2 (retK Tryz.prog [ResultVar.tmp 2] fun v w' => v = .bool e.may ∧ Mod none_ w w')) (retK Tryz.prog [ResultVar.tmp 2] fun v w' => v = .bool e.may ∧ Mod none_ w w')) ρ' w' := by
      intro k ρ' hk q1 q20 w2 hm2
      have hmm := hm1.trans hm2
      rw [dispatcherref02_MayExpr_R1_eq]
      unfold dispatcherref02_MayExpr_R1_F
      rw [q20]
      cases ho : Ex.ok1 e with
      | false =>
        rw [ho] at hk
        subst hk
        refine condT ?_
        exact ⟨by rw [hmay, ho]; rfl, hmm⟩
      | true =>
        rw [ho] at hk
        subst hk
        refine condF ?_
        rw [sq_n, dispatcherref02_MayExpr_R2_eq]
        unfold dispatcherref02_MayExpr_R2_F
        refine W_loop dispatcherref02_MayExpr_L3_ok (fun ρ w' => ∃ n : Nat, n ≤ e.args.length ∧ ρ 3 = .int .i64 n ∧ ρ 1 = .pointer (some ⟨w.heap.size, 0, none⟩) ∧ (∀ a ∈ e.args.take n, a.may = true) ∧ Mod none_ w1 w') (fun ρ _ => e.args.length - (intOf (ρ 3)).toNat)
          ⟨0, Nat.zero_le _, rfl, q1, by simp, hm2⟩ ?_
        rintro ρ w3 ⟨n, hn, h3, h1, hall, hm3⟩
        have hb3 := hm3.blk hb1 id
        have hmm3 := hm1.trans hm3
        rw [dispatcherref02_MayExpr_L3_eq]
        unfold dispatcherref02_MayExpr_L3_F
        simp only [h3, h1, fo25_0, fo25_1, fo48_0, fo48_1, fo62_0, fo62_1, fo62_2, fo62_3, fo62_4, fo62_5, fo62_6, fo62_7, fo85_0, fo85_1, fo85_2, fo85_3, ld2, ld3, ld5, ld9, ld22, ld23, ld60, len9, len22, len23, len60, len111, ldK_some, cellE, blkC_c, add_pl, Nat.zero_add, List.getElem?_toArray, List.getElem?_cons_succ, List.getElem?_cons_zero, Ex.c0, Ex.c1, Ex.c2, Ex.c3, Ex.c4, Ex.c5, St.c0, St.c1, St.c2, St.c3, St.c4, St.c5, St.c6, St.c7, St.c8, St.c9, hb3, hs, BK_lss]
        by_cases hlt : n < e.args.length
        · rw [show decide ((n : Int) < (e.args.length : Int)) = true by rw [decide_eq_true_eq]; omega]
          simp only [CondK_bool, MG_u, NG_u, VG_u, UG_u, PG_u, BG_u, CG_u, IG_u, MG_b, NG_b, VG_b, UG_b, PG_b, BG_b, CG_b, IG_b, PK_bool, NK_ptr, not_ok, reduceCtorEq, if_true, if_false, Bool.true_eq_false, Bool.false_eq_true, Bool.not_true, Bool.not_false]
          have hx : e.args[n]? = some e.args[n] := List.getElem?_eq_getElem hlt
          have hmem : e.args[n] ∈ e.args := List.getElem_mem hlt
          have hok2 := hok.args.mod hmm3
          rw [hs] at hok2
          refine ixEx hok2 hx fun y => ?_
          have hs2 := Ex.szL_at hx
          refine CK_st Tryz.func111 rfl rfl (ih _ hmem w3 (hok2.at hx) (by omega)) ?_
          rintro _ w4 ⟨rfl, hm4⟩
          rw [not_ok]
          cases hp : e.args[n].may with
          | false =>
            refine condT ?_
            refine ⟨?_, hmm3.trans hm4⟩
            have : Ex.mayL e.args = false := by
              rw [Ex.mayL_eq, Bool.eq_false_iff]
              intro q
              have := List.all_eq_true.1 q _ hmem
              rw [hp] at this; cases this
            rw [hmay, this]
            simp [sq_n, sq_x, sq_r, bk_n, bk_r, bk_x, rt_r, rt_n, rs_0, rs_t, pk_1, pk_2, up_at, reduceIte, Nat.reduceEqDiff]
          | true =>
            refine condF ?_
            rw [BK_add, wrap_i (by omega) (by omega)]
            refine ⟨⟨n + 1, hlt, rfl, h1, ?_, hm3.trans hm4⟩, ?_⟩
            · rw [List.take_add_one, hx, Option.toList_some]
              intro a q
              rcases List.mem_append.1 q with q | q
              · exact hall a q
              · rw [List.mem_singleton.1 q]; exact hp
            · simp only [sq_n, sq_x, sq_r, bk_n, bk_r, bk_x, rt_r, rt_n, rs_0, rs_t, pk_1, pk_2, up_at, reduceIte, Nat.reduceEqDiff, intOf]; omega
        · obtain rfl : n = e.args.length := by omega
          rw [show decide (((e.args.length : Nat) : Int) < (e.args.length : Int)) = false by simp]
          simp only [CondK_bool, MG_u, NG_u, VG_u, UG_u, PG_u, BG_u, CG_u, IG_u, MG_b, NG_b, VG_b, UG_b, PG_b, BG_b, CG_b, IG_b, PK_bool, NK_ptr, not_ok, reduceCtorEq, if_true, if_false, Bool.true_eq_false, Bool.false_eq_true, Bool.not_true, Bool.not_false, sq_n, sq_x, sq_r, bk_n, bk_r, bk_x, rt_r, rt_n, rs_0, rs_t, pk_1, pk_2, up_at, reduceIte, Nat.reduceEqDiff]
          have hL : Ex.mayL e.args = true := by
            rw [Ex.mayL_eq, List.all_eq_true]
            rw [List.take_length] at hall
            exact hall
          rw [ho, hL] at hmay
          rw [dispatcherref02_MayExpr_R4_eq]
          unfold dispatcherref02_MayExpr_R4_F
          simp only [sq_n, sq_x, sq_r, bk_n, bk_r, bk_x, rt_r, rt_n, rs_0, rs_t, pk_1, pk_2, up_at, reduceIte, Nat.reduceEqDiff, h1, fo25_0, fo25_1, fo48_0, fo48_1, fo62_0, fo62_1, fo62_2, fo62_3, fo62_4, fo62_5, fo62_6, fo62_7, fo85_0, fo85_1, fo85_2, fo85_3, ld2, ld3, ld5, ld9, ld22, ld23, ld60, len9, len22, len23, len60, len111, ldK_some, cellE, blkC_c, add_pl, Nat.zero_add, List.getElem?_toArray, List.getElem?_cons_succ, List.getElem?_cons_zero, Ex.c0, Ex.c1, Ex.c2, Ex.c3, Ex.c4, Ex.c5, St.c0, St.c1, St.c2, St.c3, St.c4, St.c5, St.c6, St.c7, St.c8, St.c9, hb3]
          refine caseI (fun hp => condT ?_) (fun hp => condF ?_)
          · rw [if_pos hp] at hmay
            simp only [fo25_0, fo25_1, fo48_0, fo48_1, fo62_0, fo62_1, fo62_2, fo62_3, fo62_4, fo62_5, fo62_6, fo62_7, fo85_0, fo85_1, fo85_2, fo85_3, ld2, ld3, ld5, ld9, ld22, ld23, ld60, len9, len22, len23, len60, len111, ldK_some, cellE, blkC_c, add_pl, Nat.zero_add, List.getElem?_toArray, List.getElem?_cons_succ, List.getElem?_cons_zero, Ex.c0, Ex.c1, Ex.c2, Ex.c3, Ex.c4, Ex.c5, St.c0, St.c1, St.c2, St.c3, St.c4, St.c5, St.c6, St.c7, St.c8, St.c9, hb3, BK_geq]
            cases k1 : decide (0 ≤ e.num) with
            | false =>
              rw [k1] at hmay
              simp only [CondK_bool, MG_u, NG_u, VG_u, UG_u, PG_u, BG_u, CG_u, IG_u, MG_b, NG_b, VG_b, UG_b, PG_b, BG_b, CG_b, IG_b, PK_bool, NK_ptr, not_ok, reduceCtorEq, if_true, if_false, Bool.true_eq_false, Bool.false_eq_true, Bool.not_true, Bool.not_false]
              exact ⟨by rw [hmay]; rfl, hmm3⟩
            | true =>
              rw [k1] at hmay
              simp only [CondK_bool, MG_u, NG_u, VG_u, UG_u, PG_u, BG_u, CG_u, IG_u, MG_b, NG_b, VG_b, UG_b, PG_b, BG_b, CG_b, IG_b, PK_bool, NK_ptr, not_ok, reduceCtorEq, if_true, if_false, Bool.true_eq_false, Bool.false_eq_true, Bool.not_true, Bool.not_false, fo25_0, fo25_1, fo48_0, fo48_1, fo62_0, fo62_1, fo62_2, fo62_3, fo62_4, fo62_5, fo62_6, fo62_7, fo85_0, fo85_1, fo85_2, fo85_3, ld2, ld3, ld5, ld9, ld22, ld23, ld60, len9, len22, len23, len60, len111, ldK_some, cellE, blkC_c, add_pl, Nat.zero_add, List.getElem?_toArray, List.getElem?_cons_succ, List.getElem?_cons_zero, Ex.c0, Ex.c1, Ex.c2, Ex.c3, Ex.c4, Ex.c5, St.c0, St.c1, St.c2, St.c3, St.c4, St.c5, St.c6, St.c7, St.c8, St.c9, hb3, BK_lss]
              cases k2 : decide (e.num < 1000000000000000000) with
              | false =>
                rw [k2] at hmay
                simp only [CondK_bool, MG_u, NG_u, VG_u, UG_u, PG_u, BG_u, CG_u, IG_u, MG_b, NG_b, VG_b, UG_b, PG_b, BG_b, CG_b, IG_b, PK_bool, NK_ptr, not_ok, reduceCtorEq, if_true, if_false, Bool.true_eq_false, Bool.false_eq_true, Bool.not_true, Bool.not_false]
                exact ⟨by rw [hmay]; rfl, hmm3⟩
              | true =>
                rw [k2] at hmay
                simp only [CondK_bool, MG_u, NG_u, VG_u, UG_u, PG_u, BG_u, CG_u, IG_u, MG_b, NG_b, VG_b, UG_b, PG_b, BG_b, CG_b, IG_b, PK_bool, NK_ptr, not_ok, reduceCtorEq, if_true, if_false, Bool.true_eq_false, Bool.false_eq_true, Bool.not_true, Bool.not_false, fo25_0, fo25_1, fo48_0, fo48_1, fo62_0, fo62_1, fo62_2, fo62_3, fo62_4, fo62_5, fo62_6, fo62_7, fo85_0, fo85_1, fo85_2, fo85_3, ld2, ld3, ld5, ld9, ld22, ld23, ld60, len9, len22, len23, len60, len111, ldK_some, cellE, blkC_c, add_pl, Nat.zero_add, List.getElem?_toArray, List.getElem?_cons_succ, List.getElem?_cons_zero, Ex.c0, Ex.c1, Ex.c2, Ex.c3, Ex.c4, Ex.c5, St.c0, St.c1, St.c2, St.c3, St.c4, St.c5, St.c6, St.c7, St.c8, St.c9, hb3, BK_eqlS, ByteArray.toList_eq]
                rw [empty_iff]
                exact ⟨by rw [hmay]; cases decide (e.name.size = 0) <;> rfl, hmm3⟩
          · rw [if_neg hp] at hmay
            simp only [fo25_0, fo25_1, fo48_0, fo48_1, fo62_0, fo62_1, fo62_2, fo62_3, fo62_4, fo62_5, fo62_6, fo62_7, fo85_0, fo85_1, fo85_2, fo85_3, ld2, ld3, ld5, ld9, ld22, ld23, ld60, len9, len22, len23, len60, len111, ldK_some, cellE, blkC_c, add_pl, Nat.zero_add, List.getElem?_toArray, List.getElem?_cons_succ, List.getElem?_cons_zero, Ex.c0, Ex.c1, Ex.c2, Ex.c3, Ex.c4, Ex.c5, St.c0, St.c1, St.c2, St.c3, St.c4, St.c5, St.c6, St.c7, St.c8, St.c9, hb3, BK_neq]
            by_cases k0 : e.num = 0
            · rw [decide_eq_true k0] at hmay
              rw [show (e.num != 0) = false by rw [k0]; rfl]
              simp only [CondK_bool, MG_u, NG_u, VG_u, UG_u, PG_u, BG_u, CG_u, IG_u, MG_b, NG_b, VG_b, UG_b, PG_b, BG_b, CG_b, IG_b, PK_bool, NK_ptr, not_ok, reduceCtorEq, if_true, if_false, Bool.true_eq_false, Bool.false_eq_true, Bool.not_true, Bool.not_false, fo25_0, fo25_1, fo48_0, fo48_1, fo62_0, fo62_1, fo62_2, fo62_3, fo62_4, fo62_5, fo62_6, fo62_7, fo85_0, fo85_1, fo85_2, fo85_3, ld2, ld3, ld5, ld9, ld22, ld23, ld60, len9, len22, len23, len60, len111, ldK_some, cellE, blkC_c, add_pl, Nat.zero_add, List.getElem?_toArray, List.getElem?_cons_succ, List.getElem?_cons_zero, Ex.c0, Ex.c1, Ex.c2, Ex.c3, Ex.c4, Ex.c5, St.c0, St.c1, St.c2, St.c3, St.c4, St.c5, St.c6, St.c7, St.c8, St.c9, hb3]
              have go : ∀ (ρ' : Sl) (t : Bool), ρ' 1 = .pointer (some ⟨w.heap.size, 0, none⟩) → ρ' 56 = .bool t → ρ' 55 = .int .u8 e.op → t = decide (e.op = 2 ∨ e.op = 3) →
                  sx fn_ Tryz.prog 70 dispatcherref02_MayExpr_R5 (blkK 2 (seqK (sx fn_ Tryz.prog 70 dispatcherref02_MayExpr_R6 (retK Tryz.prog [ResultVar.tmp 2] fun v w' => v = .bool e.may ∧ Mod none_ w w')) (retK Tryz.prog [ResultVar.tmp 2] fun v w' => v = .bool e.may ∧ Mod none_ w w'))) ρ' w3 := by
                intro ρ' t q1 q56 q55 ht
                rw [dispatcherref02_MayExpr_R5_eq]
                unfold dispatcherref02_MayExpr_R5_F
                rw [q56, q55, q1]
                subst ht
                refine caseC (fun h2 => ?_) (fun h2 => ?_)
                · rw [decide_eq_true_eq] at h2
                  rw [if_pos h2] at hmay
                  simp only [fo25_0, fo25_1, fo48_0, fo48_1, fo62_0, fo62_1, fo62_2, fo62_3, fo62_4, fo62_5, fo62_6, fo62_7, fo85_0, fo85_1, fo85_2, fo85_3, ld2, ld3, ld5, ld9, ld22, ld23, ld60, len9, len22, len23, len60, len111, ldK_some, cellE, blkC_c, add_pl, Nat.zero_add, List.getElem?_toArray, List.getElem?_cons_succ, List.getElem?_cons_zero, Ex.c0, Ex.c1, Ex.c2, Ex.c3, Ex.c4, Ex.c5, St.c0, St.c1, St.c2, St.c3, St.c4, St.c5, St.c6, St.c7, St.c8, St.c9, hb3]
                  refine CK_st Tryz.func80 rfl rfl (NameR_ok w3 e.name hok.fine.2.2.1) ?_
                  rintro _ w4 ⟨rfl, hm4⟩
                  exact ⟨by rw [hmay]; cases nameP e.name <;> rfl, hmm3.trans hm4⟩
                · rw [decide_eq_false_iff_not] at h2
                  rw [if_neg h2] at hmay
                  refine caseI (fun h5 => condT ?_) (fun h5 => condF ?_)
                  · rw [if_pos h5] at hmay
                    simp only [fo25_0, fo25_1, fo48_0, fo48_1, fo62_0, fo62_1, fo62_2, fo62_3, fo62_4, fo62_5, fo62_6, fo62_7, fo85_0, fo85_1, fo85_2, fo85_3, ld2, ld3, ld5, ld9, ld22, ld23, ld60, len9, len22, len23, len60, len111, ldK_some, cellE, blkC_c, add_pl, Nat.zero_add, List.getElem?_toArray, List.getElem?_cons_succ, List.getElem?_cons_zero, Ex.c0, Ex.c1, Ex.c2, Ex.c3, Ex.c4, Ex.c5, St.c0, St.c1, St.c2, St.c3, St.c4, St.c5, St.c6, St.c7, St.c8, St.c9, hb3]
                    refine CK_st Tryz.func128 rfl rfl (PlainR_ok e.name w3) ?_
                    rintro _ w4 ⟨rfl, rfl⟩
                    exact ⟨by rw [hmay]; cases plainP e.name <;> rfl, hmm3⟩
                  · rw [if_neg h5] at hmay
                    rw [bk_n, sq_n, dispatcherref02_MayExpr_R6_eq]
                    unfold dispatcherref02_MayExpr_R6_F
                    have q1' : ∀ a b : Value, (up (up ρ' 63 a) 62 b) 1 = .pointer (some ⟨w.heap.size, 0, none⟩) := fun a b => q1
                    rw [q1']
                    simp only [fo25_0, fo25_1, fo48_0, fo48_1, fo62_0, fo62_1, fo62_2, fo62_3, fo62_4, fo62_5, fo62_6, fo62_7, fo85_0, fo85_1, fo85_2, fo85_3, ld2, ld3, ld5, ld9, ld22, ld23, ld60, len9, len22, len23, len60, len111, ldK_some, cellE, blkC_c, add_pl, Nat.zero_add, List.getElem?_toArray, List.getElem?_cons_succ, List.getElem?_cons_zero, Ex.c0, Ex.c1, Ex.c2, Ex.c3, Ex.c4, Ex.c5, St.c0, St.c1, St.c2, St.c3, St.c4, St.c5, St.c6, St.c7, St.c8, St.c9, hb3, BK_eqlS, ByteArray.toList_eq]
                    rw [empty_iff]
                    exact ⟨by rw [hmay]; cases decide (e.name.size = 0) <;> rfl, hmm3⟩
              refine caseI (fun h2 => condT ?_) (fun h2 => condF ?_)
              · refine go _ true ?_ ?_ ?_ (by rw [decide_eq_true (Or.inl h2)])
                · exact h1
                · rfl
                · rfl
              · rw [BK_eql]
                refine go _ (e.op == 3) ?_ ?_ ?_ ?_
                · exact h1
                · rfl
                · rfl
                · by_cases h3 : e.op = 3
                  · rw [decide_eq_true (Or.inr h3), h3]; rfl
                  · rw [decide_eq_false (by omega), beq_eq_false_iff_ne]; exact h3
            · rw [decide_eq_false k0] at hmay
              rw [show (e.num != 0) = true by simpa using k0]
              simp only [CondK_bool, MG_u, NG_u, VG_u, UG_u, PG_u, BG_u, CG_u, IG_u, MG_b, NG_b, VG_b, UG_b, PG_b, BG_b, CG_b, IG_b, PK_bool, NK_ptr, not_ok, reduceCtorEq, if_true, if_false, Bool.true_eq_false, Bool.false_eq_true, Bool.not_true, Bool.not_false]
              exact ⟨by rw [hmay]; rfl, hmm3⟩
    refine Qfo (off := 0) (a := ⟨w.heap.size, 0, none⟩) (by kernel_rfl) (Qld uU8 rfl (v := .int .u8 e.op) (fun w' hw => by rw [add_pl]; exact cell w' hw 0 _ rfl) (Qlss ?_))
    by_cases h1 : e.op < 1
    · rw [decide_eq_true h1]
      simp only [QG_b, Bool.true_eq_false, if_false]
      refine QP_of ?_
      simp only [if_true, QG_b, Bool.true_eq_false, if_false]
      refine QP_of ?_
      simp only [if_true]
      intro w3 hm3
      refine fin true _ (by unfold Ex.ok1; rw [show decide (1 ≤ e.op) = false from decide_eq_false (by omega)]; rfl) ?_ ?_ w3 hm3 <;> rfl
    · rw [decide_eq_false h1]
      simp only [QG_b, if_true]
      refine Qfo (off := 0) (a := ⟨w.heap.size, 0, none⟩) (by kernel_rfl) (Qld uU8 rfl (v := .int .u8 e.op) (fun w' hw => by rw [add_pl]; exact cell w' hw 0 _ rfl) (Qgtr (QP_of ?_)))
      simp only [Bool.false_eq_true, if_false]
      by_cases h20 : 20 < e.op
      · rw [decide_eq_true h20]
        simp only [QG_b, Bool.true_eq_false, if_false]
        refine QP_of ?_
        simp only [if_true]
        intro w3 hm3
        refine fin true _ (by unfold Ex.ok1; rw [show decide (e.op ≤ 20) = false from decide_eq_false (by omega)]; simp) ?_ ?_ w3 hm3 <;> rfl
      · rw [decide_eq_false h20]
        simp only [QG_b, if_true]
        refine Qfo (off := 3) (a := ⟨w.heap.size, 0, none⟩) (by kernel_rfl) (Qld uExs rfl (v := .slice A e.args.length c) (fun w' hw => by rw [add_pl]; exact cell w' hw 3 _ (by rw [← hs]; rfl)) (QI_len uExs _ _ _ _ ?_))
        refine Qfo (off := 0) (a := ⟨w.heap.size, 0, none⟩) (by kernel_rfl) (Qld uU8 rfl (v := .int .u8 e.op) (fun w' hw => by rw [add_pl]; exact cell w' hw 0 _ rfl) ?_)
        refine QC_rt Tryz.func127 rfl rfl (v := .int .i64 (sidesP e.op)) (fun w' hw => SidesR_ok e.op w') (fun w' u w'' hw hu => ⟨hu.1, by rw [hu.2]; exact hw⟩) (Qneq (QP_of ?_))
        simp only [Bool.false_eq_true, if_false]
        intro w3 hm3
        refine fin ((e.args.length : Int) != (sidesP e.op : Int)) _ ?_ ?_ ?_ w3 hm3
        · unfold Ex.ok1
          rw [show decide (1 ≤ e.op) = true from decide_eq_true (by omega), show decide (e.op ≤ 20) = true from decide_eq_true (by omega)]
          by_cases q : e.args.length = sidesP e.op
          · rw [decide_eq_true q, q]; simp
          · rw [decide_eq_false q, bne, beq_eq_false_iff_ne.2 (by omega)]; rfl
        · rfl
        · rfl
theorem QixEx {C : World → Prop} {s : Value} {l : List Ex} {i : Nat} {e : Ex} {K : Value → Prop} {w0 : World} (hw0 : C w0) (h : ∀ w, C w → ExsOk w s l) (hi : l[i]? = some e) (hk : ∀ a, (∀ w, C w → ∀ j u, e.cells[j]? = some u → w.cell? (a.add j) = some u) → K (.pointer (some a))) :
    QK Tryz.prog C (do pure (Next.value (← Instr.indexAt 60 s (.int .i64 (i : Int))))) K := by
  have hlt : i < l.length := (List.getElem?_eq_some_iff.1 hi).1
  obtain ⟨hl, A, c, hs, hc, hr⟩ := (h w0 hw0).1
  obtain ⟨a, ha | q⟩ := rd_cell (size := 6) (hs ▸ (h w0 hw0).1) hlt
  · subst ha
    subst hs
    refine QV_of (fun w _ => run_ixa uExs cEx (by omega) (by omega) w) (hk _ fun w hw j u hu => ?_)
    obtain ⟨_, A', c', hs', _, hr'⟩ := (h w hw).1
    cases hs'
    have hj : j < 5 + 1 := (List.getElem?_eq_some_iff.1 hu).1
    obtain ⟨a', ha', hcell⟩ := hr' (i * 6 + j) u (by rw [fl_get (k := 5 + 1) Ex.cells_len hi hj]; exact hu)
    cases ha'
    rw [add_add, show ((i : Int).toNat) = i by omega]
    exact hcell
  · omega
def ManyOk (e : Ex) : Prop := ∀ w, e.Ok w → e.sz ≤ 1099511627776 → Rt Tryz.prog 30 #[e.s] w fun v w' => v = .int .i64 (Ex.manyL e.args) ∧ Mod none_ w w'
theorem many_row {l : List Ex} (ih : ∀ a ∈ l, ManyOk a) (w : World) (s : Value) (hok : ExsOk w s l) (hsz : Ex.szL l ≤ 1099511627776) : Rt Tryz.prog 30 #[s] w fun v w' => v = .int .i64 (Ex.manyL l) ∧ Mod none_ w w' := by
  obtain ⟨A, c, hs, _⟩ := reads_cap hok.1
  have hlen := Ex.len_sz l
  refine dispatcherref02_ManyExprs_calls ?_
  unfold dispatcherref02_ManyExprs_F
  refine W_loop dispatcherref02_ManyExprs_L0_ok (fun ρ w' => ∃ (n : Nat), n ≤ l.length ∧ ρ 4 = .int .i64 n ∧ ρ 3 = .int .i64 (Ex.manyL (l.take n)) ∧ ρ 0 = s ∧ Mod none_ w w') (fun ρ _ => l.length - (intOf (ρ 4)).toNat)
    ⟨0, Nat.zero_le _, rfl, rfl, rfl, Mod.refl _ _⟩ ?_
  rintro ρ w1 ⟨n, hn, h4, h3, h0, hm⟩
  rw [dispatcherref02_ManyExprs_L0_eq]
  unfold dispatcherref02_ManyExprs_L0_F
  simp only [h4, h0, hs, fo25_0, fo25_1, fo48_0, fo48_1, fo62_0, fo62_1, fo62_2, fo62_3, fo62_4, fo62_5, fo62_6, fo62_7, fo85_0, fo85_1, fo85_2, fo85_3, ld2, ld3, ld5, ld9, ld22, ld23, ld60, len9, len22, len23, len60, len111, ldK_some, cellE, blkC_c, add_pl, Nat.zero_add, List.getElem?_toArray, List.getElem?_cons_succ, List.getElem?_cons_zero, BK_lss]
  by_cases hlt : n < l.length
  · rw [show decide ((n : Int) < (l.length : Int)) = true by rw [decide_eq_true_eq]; omega]
    refine condT ?_
    have hx : l[n]? = some l[n] := List.getElem?_eq_getElem hlt
    have hmem : l[n] ∈ l := List.getElem_mem hlt
    have hs2 := Ex.szL_at hx
    have hokC : ∀ w', Mod none_ w1 w' → ExsOk w' (.slice A l.length c) l := fun w' hw => by rw [← hs]; exact (hok.mod hm).mod hw
    refine dispatcherref02_ManyExprs_R2_quiet (D := []) (fun w' => Mod none_ w1 w') ((Mod.refl _ w1).drawn _) ?_
    unfold dispatcherref02_ManyExprs_R2_Q
    have e3 : ∀ a b d f : Value, (up (up (up (up ρ 5 a) 6 b) 7 d) 8 f) 3 = .int .i64 (Ex.manyL (l.take n)) := fun _ _ _ _ => h3
    have e0 : ∀ a b d f : Value, (up (up (up (up ρ 5 a) 6 b) 7 d) 8 f) 0 = .slice A l.length c := fun _ _ _ _ => h0.trans hs
    have e4 : ∀ a b d f : Value, (up (up (up (up ρ 5 a) 6 b) 7 d) 8 f) 4 = .int .i64 n := fun _ _ _ _ => h4
    simp only [e3, e0, e4]
    have ht := Ex.manyL_sz (l.take n)
    have hb := Ex.many_sz l[n]
    have hbe := Ex.many_eq l[n]
    refine Qadd (QixEx (w0 := w1) (Mod.refl _ w1) hokC hx fun a ha => ?_)
    refine Qfo (off := 2) (by kernel_rfl) (Qld uS rfl (v := .string l[n].name) (fun w' hw => ha w' hw 2 _ rfl) (Qlen_s uS _ _ (Qmin (Qadd ?_))))
    refine QixEx (w0 := w1) (Mod.refl _ w1) hokC hx fun a2 ha2 => ?_
    refine Qfo (off := 3) (by kernel_rfl) (Qld uExs rfl (v := l[n].s) (fun w' hw => ha2 w' hw 3 _ rfl) ?_)
    refine QC_rt Tryz.func30 rfl rfl (v := .int .i64 (Ex.manyL l[n].args)) (fun w' hw => ih _ hmem w' ((hokC w' hw).at hx) (by omega)) (fun w' u w'' hw hu => ⟨hu.1, hw.trans hu.2⟩) (Qadd ?_)
    intro w2 hm2
    rw [wrap_i (n := (Ex.manyL (l.take n) : Int) + 1) (by omega) (by omega)]
    rw [wrap_i (n := (Ex.manyL (l.take n) : Int) + 1 + (if (30000 : Int) < (l[n].name.size : Int) then 30000 else (l[n].name.size : Int))) (by split <;> omega) (by split <;> omega)]
    rw [wrap_i (n := (Ex.manyL (l.take n) : Int) + 1 + (if (30000 : Int) < (l[n].name.size : Int) then 30000 else (l[n].name.size : Int)) + (Ex.manyL l[n].args : Int)) (by split <;> omega) (by split <;> omega)]
    rw [bk_n, sq_n, dispatcherref02_ManyExprs_R3_eq]
    unfold dispatcherref02_ManyExprs_R3_F
    simp only [sq_n, sq_x, sq_r, bk_n, bk_r, bk_x, rt_r, rt_n, rs_0, rs_t, pk_1, pk_2, up_at, reduceIte, Nat.reduceEqDiff, h4]
    rw [BK_add, wrap_i (n := (n : Int) + 1) (by omega) (by omega)]
    refine ⟨⟨n + 1, hlt, rfl, ?_, h0.trans hs, hm.trans hm2⟩, ?_⟩
    · rw [List.take_add_one, hx, Option.toList_some, Ex.manyL_snoc]
      congr 1
      split <;> omega
    · simp only [intOf]; omega
  · obtain rfl : n = l.length := by omega
    rw [show decide (((l.length : Nat) : Int) < (l.length : Int)) = false by simp]
    refine condF ?_
    rw [sq_x, bk_x, sq_n, dispatcherref02_ManyExprs_R1_eq]
    unfold dispatcherref02_ManyExprs_R1_F
    rw [List.take_length] at h3
    exact ⟨h3, hm⟩
theorem many_ok : ∀ e : Ex, ManyOk e := by
  intro e
  induction e using Ex.ind with
  | h e ih => exact fun w hok hsz => many_row ih w e.s hok.args (by rw [Ex.sz_eq] at hsz; omega)
theorem ManyExprs_ok {l : List Ex} (w : World) (s : Value) (hok : ExsOk w s l) (hsz : Ex.szL l ≤ 1099511627776) : Rt Tryz.prog 30 #[s] w fun v w' => v = .int .i64 (Ex.manyL l) ∧ Mod none_ w w' :=
  many_row (fun a _ => many_ok a) w s hok hsz
end Go.Proofs.YtpkfbaagpjdifaaGreatDoor.Tr
set_option linter.unusedVariables false
set_option linter.unusedSimpArgs false
namespace Go.X
open Go Go.RowKit
/-- A field that is read: where it lies, what stands there. -/
structure FAt (P : Program) (w : World) (t : TypeId) (i : Nat) (a : Addr) (t' : TypeId) (v : Value) : Prop where
  go : ∃ off, fieldOff P t i = some off ∧ ∀ K : Value → World → Prop, VK P (Instr.loadAt t' (.pointer (some (a.add off)))) w K = K v w
theorem FAt.mk' {P : Program} {w : World} {t : TypeId} {i : Nat} {a : Addr} {t' : TypeId} {v : Value} {off : Nat} {d : TypeDesc} (h1 : fieldOff P t i = some off) (h2 : P.underlying t' = some d) (h3 : (match d with | .struct _ | .array _ _ => true | _ => false) = false) (h4 : w.cell? (a.add off) = some v) : FAt P w t i a t' v :=
  ⟨_, h1, fun K => VK_eq_of (run_ld1 h2 h3 h4)⟩
section
variable {P : Program} {w : World} {K : Value → World → Prop} {t t' ty ty' : TypeId} {i : Nat} {a : Addr} {v : Value} {b : Bool}
theorem FAt.eq (h : FAt P w t i a t' v) (K : Value → World → Prop) : (VK P (Instr.fieldAt t (.pointer (some a)) i) w fun x w => VK P (Instr.loadAt t' x) w K) = K v w := by
  obtain ⟨off, h1, h2⟩ := h.go
  rw [fo h1, h2]
theorem FAt.vk (h : FAt P w t i a t' v) (hk : K v w) : VK P (Instr.fieldAt t (.pointer (some a)) i) w fun x w => VK P (Instr.loadAt t' x) w K := by
  rw [h.eq]
  exact hk
/-- b && test(field) -/
theorem fA1 {op : BinOp} {x y : Operand} {c : Value} {r : Bool} (h : FAt P w t i a t' v) (hop : ∀ K : Value → World → Prop, BK P op ty x y v c w K = K (.bool r) w) (hk : K (.bool (b && r)) w) :
    VG P (.bool b) true (Instr.fieldAt t (.pointer (some a)) i) w fun x1 w => VG P (.bool b) true (Instr.loadAt t' x1) w fun x2 w => BG P (.bool b) true op ty x y x2 c w fun x3 w => PK P (.bool b) x3 (.bool false) w K := by
  cases b
  · simp only [VG_b, BG_b, Bool.false_eq_true, if_false, PK_bool]; exact hk
  · simp only [VG_b, BG_b, if_true, PK_bool]; rw [h.eq, hop]; exact hk
/-- b && test(len(field), slot) -/
theorem fA2 {e tl : TypeId} {A : Option Addr} {n c : Nat} {op : BinOp} {x y : Operand} {cs : List Bool} {o : Value} {r : Bool} (h : FAt P w t i a t' (.slice A n c)) (hl : P.underlying tl = some (.slice e)) (hop : ∀ K : Value → World → Prop, BK P op ty x y (.int .i64 n) o w K = K (.bool r) w) (hk : K (.bool (b && r)) w) :
    VG P (.bool b) true (Instr.fieldAt t (.pointer (some a)) i) w fun x1 w => VG P (.bool b) true (Instr.loadAt t' x1) w fun x2 w => IG P (.bool b) true Builtin.len #[tl] ty' cs [x2] w fun x3 w => MG P (.bool b) true o w fun x4 w => BG P (.bool b) true op ty x y x3 x4 w fun x5 w => PK P (.bool b) x5 (.bool false) w K := by
  cases b
  · simp only [VG_b, BG_b, IG_b, MG_b, Bool.false_eq_true, if_false, PK_bool]; exact hk
  · simp only [VG_b, BG_b, IG_b, MG_b, if_true, PK_bool]; rw [h.eq, len_sl hl, hop]; exact hk
/-- b && !f(field, g) -/
theorem fA3 {f g : Value} {r : Bool} (h : FAt P w t i a t' v) (hc : ∀ K : Value → World → Prop, (∀ w2, Mod none_ w w2 → K (.bool r) w2) → CK P f [v, g] w K) (hk : ∀ w2, Mod none_ w w2 → K (.bool (b && !r)) w2) :
    VG P (.bool b) true (Instr.fieldAt t (.pointer (some a)) i) w fun x1 w => VG P (.bool b) true (Instr.loadAt t' x1) w fun x2 w => CG P (.bool b) true f [x2, g] w fun x3 w => VG P (.bool b) true (Op.unary UnOp.not x3) w fun x4 w => PK P (.bool b) x4 (.bool false) w K := by
  cases b
  · simp only [VG_b, CG_b, Bool.false_eq_true, if_false, PK_bool]; exact hk w (Mod.refl _ _)
  · simp only [VG_b, CG_b, if_true, PK_bool]; rw [h.eq]; refine hc _ fun w2 hm => ?_; rw [not_ok]; exact hk w2 hm
/-- b && f(field) -/
theorem fA8 {f : Value} {r : Bool} (h : FAt P w t i a t' v) (hc : ∀ K : Value → World → Prop, (∀ w2, Mod none_ w w2 → K (.bool r) w2) → CK P f [v] w K) (hk : ∀ w2, Mod none_ w w2 → K (.bool (b && r)) w2) :
    VG P (.bool b) true (Instr.fieldAt t (.pointer (some a)) i) w fun x1 w => VG P (.bool b) true (Instr.loadAt t' x1) w fun x2 w => CG P (.bool b) true f [x2] w fun x3 w => PK P (.bool b) x3 (.bool false) w K := by
  cases b
  · simp only [VG_b, CG_b, Bool.false_eq_true, if_false, PK_bool]; exact hk w (Mod.refl _ _)
  · simp only [VG_b, CG_b, if_true, PK_bool]; rw [h.eq]; refine hc _ fun w2 hm => ?_; exact hk w2 hm
/-- b && (!n || f(field)) -/
theorem fA0 {f : Value} {n r : Bool} (h : FAt P w t i a t' v) (hc : ∀ K : Value → World → Prop, (∀ w2, Mod none_ w w2 → K (.bool r) w2) → CK P f [v] w K) (hk : ∀ w2, Mod none_ w w2 → K (.bool (b && (!n || r))) w2) :
    MG P (.bool b) true (.bool n) w fun x1 w => VG P (.bool b) true (Op.unary UnOp.not x1) w fun x2 w => MG P (.bool b) true x2 w fun x3 w => VG P x3 false (Instr.fieldAt t (.pointer (some a)) i) w fun x4 w => VG P x3 false (Instr.loadAt t' x4) w fun x5 w =>
      CG P x3 false f [x5] w fun x6 w => PG P (.bool b) true x3 (.bool true) x6 w fun x7 w => PK P (.bool b) x7 (.bool false) w K := by
  cases b
  · simp only [MG_b, VG_b, CG_b, PG_b, MG_u, VG_u, CG_u, PG_u, Bool.false_eq_true, if_false, PK_bool]; exact hk w (Mod.refl _ _)
  · cases n
    · simp only [MG_b, VG_b, CG_b, PG_b, if_true, PK_bool, not_ok, Bool.not_false, Bool.true_eq_false, if_false]; exact hk w (Mod.refl _ _)
    · simp only [MG_b, VG_b, CG_b, PG_b, if_true, PK_bool, not_ok, Bool.not_true, Bool.false_eq_true, if_false]; rw [h.eq]; refine hc _ fun w2 hm => ?_; exact hk w2 hm
variable {t2 t2' : TypeId} {i2 : Nat} {v2 : Value}
/-- b && (test(field) || test'(field')) -/
theorem fA4 {op op2 : BinOp} {x y x' y' : Operand} {c c2 : Value} {r r2 : Bool} (h : FAt P w t i a t' v) (hop : ∀ K : Value → World → Prop, BK P op ty x y v c w K = K (.bool r) w) (h2 : FAt P w t2 i2 a t2' v2) (hop2 : ∀ K : Value → World → Prop, BK P op2 ty' x' y' v2 c2 w K = K (.bool r2) w) (hk : K (.bool (b && (r || r2))) w) :
    VG P (.bool b) true (Instr.fieldAt t (.pointer (some a)) i) w fun x1 w => VG P (.bool b) true (Instr.loadAt t' x1) w fun x2 w => BG P (.bool b) true op ty x y x2 c w fun x3 w => MG P (.bool b) true x3 w fun x4 w =>
      VG P x4 false (Instr.fieldAt t2 (.pointer (some a)) i2) w fun x5 w => VG P x4 false (Instr.loadAt t2' x5) w fun x6 w => BG P x4 false op2 ty' x' y' x6 c2 w fun x7 w => PG P (.bool b) true x4 (.bool true) x7 w fun x8 w => PK P (.bool b) x8 (.bool false) w K := by
  cases b
  · simp only [MG_b, VG_b, BG_b, PG_b, MG_u, VG_u, BG_u, PG_u, Bool.false_eq_true, if_false, PK_bool]; exact hk
  · simp only [VG_b, BG_b, MG_b, PG_b, if_true]
    rw [h.eq, hop]
    cases r
    · simp only [MG_b, VG_b, BG_b, PG_b, if_true, PK_bool, Bool.false_eq_true, if_false]; rw [h2.eq, hop2]; exact hk
    · simp only [MG_b, VG_b, BG_b, PG_b, if_true, PK_bool, Bool.true_eq_false, if_false]; exact hk
/-- b && (test(field) || test'(len(field'))) -/
theorem fA5 {e tl tyl : TypeId} {A : Option Addr} {n cc : Nat} {cs : List Bool} {op op2 : BinOp} {x y x' y' : Operand} {c c2 : Value} {r r2 : Bool} (h : FAt P w t i a t' v) (hop : ∀ K : Value → World → Prop, BK P op ty x y v c w K = K (.bool r) w) (h2 : FAt P w t2 i2 a t2' (.slice A n cc)) (hl : P.underlying tl = some (.slice e)) (hop2 : ∀ K : Value → World → Prop, BK P op2 ty' x' y' (.int .i64 n) c2 w K = K (.bool r2) w) (hk : K (.bool (b && (r || r2))) w) :
    VG P (.bool b) true (Instr.fieldAt t (.pointer (some a)) i) w fun x1 w => VG P (.bool b) true (Instr.loadAt t' x1) w fun x2 w => BG P (.bool b) true op ty x y x2 c w fun x3 w => MG P (.bool b) true x3 w fun x4 w =>
      VG P x4 false (Instr.fieldAt t2 (.pointer (some a)) i2) w fun x5 w => VG P x4 false (Instr.loadAt t2' x5) w fun x6 w => IG P x4 false Builtin.len #[tl] tyl cs [x6] w fun x6' w => BG P x4 false op2 ty' x' y' x6' c2 w fun x7 w => PG P (.bool b) true x4 (.bool true) x7 w fun x8 w => PK P (.bool b) x8 (.bool false) w K := by
  cases b
  · simp only [MG_b, VG_b, BG_b, PG_b, IG_b, MG_u, VG_u, BG_u, PG_u, IG_u, Bool.false_eq_true, if_false, PK_bool]; exact hk
  · simp only [VG_b, BG_b, MG_b, PG_b, if_true]
    rw [h.eq, hop]
    cases r
    · simp only [MG_b, VG_b, BG_b, PG_b, IG_b, if_true, PK_bool, Bool.false_eq_true, if_false]; rw [h2.eq, len_sl hl, hop2]; exact hk
    · simp only [MG_b, VG_b, BG_b, PG_b, IG_b, if_true, PK_bool, Bool.true_eq_false, if_false]; exact hk
/-- b && (test(field) || f(field') && test''(field)) -/
theorem fA7 {f : Value} {op op2 : BinOp} {x y x' y' : Operand} {c c2 : Value} {r r2 r3 : Bool} (h : FAt P w t i a t' v) (hop : ∀ K : Value → World → Prop, BK P op ty x y v c w K = K (.bool r) w) (h2 : FAt P w t2 i2 a t2' v2) (hc : ∀ K : Value → World → Prop, K (.bool r2) w → CK P f [v2] w K) (hop3 : ∀ K : Value → World → Prop, BK P op2 ty' x' y' v c2 w K = K (.bool r3) w) (hk : K (.bool (b && (r || (r2 && r3)))) w) :
    VG P (.bool b) true (Instr.fieldAt t (.pointer (some a)) i) w fun x1 w => VG P (.bool b) true (Instr.loadAt t' x1) w fun x2 w => BG P (.bool b) true op ty x y x2 c w fun x3 w => MG P (.bool b) true x3 w fun x4 w =>
      VG P x4 false (Instr.fieldAt t2 (.pointer (some a)) i2) w fun x5 w => VG P x4 false (Instr.loadAt t2' x5) w fun x6 w => CG P x4 false f [x6] w fun x7 w => MG P x4 false x7 w fun x8 w =>
      VG P x8 true (Instr.fieldAt t (.pointer (some a)) i) w fun x9 w => VG P x8 true (Instr.loadAt t' x9) w fun x10 w => BG P x8 true op2 ty' x' y' x10 c2 w fun x11 w => PG P x4 false x8 x11 (.bool false) w fun x12 w => PG P (.bool b) true x4 (.bool true) x12 w fun x13 w => PK P (.bool b) x13 (.bool false) w K := by
  cases b
  · simp only [MG_b, VG_b, BG_b, PG_b, CG_b, MG_u, VG_u, BG_u, PG_u, CG_u, Bool.false_eq_true, if_false, PK_bool]; exact hk
  · simp only [VG_b, BG_b, MG_b, PG_b, if_true]
    rw [h.eq, hop]
    cases r
    · simp only [MG_b, VG_b, BG_b, PG_b, CG_b, if_true, Bool.false_eq_true, if_false]
      rw [h2.eq]
      refine hc _ ?_
      cases r2
      · simp only [MG_b, VG_b, BG_b, PG_b, if_true, PK_bool, Bool.false_eq_true, if_false]; exact hk
      · simp only [MG_b, VG_b, BG_b, PG_b, if_true, PK_bool, Bool.false_eq_true, if_false]; rw [h.eq, hop3]; exact hk
    · simp only [MG_b, VG_b, BG_b, PG_b, CG_b, MG_u, VG_u, BG_u, PG_u, CG_u, if_true, PK_bool, Bool.true_eq_false, if_false]; exact hk
/-- b && (test1(field) || test2(field) || test3(field) || test4(len(field'))) -/
theorem fA6 {e tl tyl : TypeId} {A : Option Addr} {n cc : Nat} {cs : List Bool} {op1 op2 op3 op4 : BinOp} {x1 y1 x2 y2 x3 y3 x4 y4 : Operand} {c1 c2 c3 c4 : Value} {r1 r2 r3 r4 : Bool} {ty2 ty3 ty4 : TypeId} (h : FAt P w t i a t' v) (hop1 : ∀ K : Value → World → Prop, BK P op1 ty x1 y1 v c1 w K = K (.bool r1) w)
    (hop2 : ∀ K : Value → World → Prop, BK P op2 ty2 x2 y2 v c2 w K = K (.bool r2) w) (hop3 : ∀ K : Value → World → Prop, BK P op3 ty3 x3 y3 v c3 w K = K (.bool r3) w) (h2 : FAt P w t2 i2 a t2' (.slice A n cc)) (hl : P.underlying tl = some (.slice e)) (hop4 : ∀ K : Value → World → Prop, BK P op4 ty4 x4 y4 (.int .i64 n) c4 w K = K (.bool r4) w) (hk : K (.bool (b && (r1 || r2 || r3 || r4))) w) :
    VG P (.bool b) true (Instr.fieldAt t (.pointer (some a)) i) w fun z1 w => VG P (.bool b) true (Instr.loadAt t' z1) w fun z2 w => BG P (.bool b) true op1 ty x1 y1 z2 c1 w fun z3 w => MG P (.bool b) true z3 w fun z4 w =>
      VG P z4 false (Instr.fieldAt t (.pointer (some a)) i) w fun z5 w => VG P z4 false (Instr.loadAt t' z5) w fun z6 w => BG P z4 false op2 ty2 x2 y2 z6 c2 w fun z7 w => PG P (.bool b) true z4 (.bool true) z7 w fun z8 w => MG P (.bool b) true z8 w fun z9 w =>
      VG P z9 false (Instr.fieldAt t (.pointer (some a)) i) w fun z10 w => VG P z9 false (Instr.loadAt t' z10) w fun z11 w => BG P z9 false op3 ty3 x3 y3 z11 c3 w fun z12 w => PG P (.bool b) true z9 (.bool true) z12 w fun z13 w => MG P (.bool b) true z13 w fun z14 w =>
      VG P z14 false (Instr.fieldAt t2 (.pointer (some a)) i2) w fun z15 w => VG P z14 false (Instr.loadAt t2' z15) w fun z16 w => IG P z14 false Builtin.len #[tl] tyl cs [z16] w fun z17 w => BG P z14 false op4 ty4 x4 y4 z17 c4 w fun z18 w => PG P (.bool b) true z14 (.bool true) z18 w fun z19 w => PK P (.bool b) z19 (.bool false) w K := by
  cases b
  · simp only [MG_b, VG_b, BG_b, PG_b, IG_b, MG_u, VG_u, BG_u, PG_u, IG_u, Bool.false_eq_true, if_false, PK_bool]; exact hk
  · simp only [VG_b, BG_b, MG_b, PG_b, if_true]
    rw [h.eq, hop1]
    cases r1
    · simp only [MG_b, VG_b, BG_b, PG_b, IG_b, if_true, Bool.false_eq_true, if_false]
      rw [h.eq, hop2]
      cases r2
      · simp only [MG_b, VG_b, BG_b, PG_b, IG_b, PK_bool, if_true, Bool.false_eq_true, if_false]
        rw [h.eq, hop3]
        cases r3
        · simp only [MG_b, VG_b, BG_b, PG_b, IG_b, PK_bool, if_true, Bool.false_eq_true, if_false]
          rw [h2.eq, len_sl hl, hop4]
          exact hk
        · simp only [MG_b, VG_b, BG_b, PG_b, IG_b, PK_bool, if_true, Bool.true_eq_false, Bool.false_eq_true, if_false]; exact hk
      · simp only [MG_b, VG_b, BG_b, PG_b, IG_b, PK_bool, if_true, Bool.true_eq_false, Bool.false_eq_true, if_false]; exact hk
    · simp only [MG_b, VG_b, BG_b, PG_b, IG_b, PK_bool, if_true, Bool.true_eq_false, Bool.false_eq_true, if_false]; exact hk
/-- r || test(field) -/
theorem fO {op : BinOp} {x y : Operand} {c : Value} {r : Bool} (h : FAt P w t i a t' v) (hop : ∀ K : Value → World → Prop, BK P op ty x y v c w K = K (.bool r) w) (hk : K (.bool (b || r)) w) :
    VG P (.bool b) false (Instr.fieldAt t (.pointer (some a)) i) w fun x1 w => VG P (.bool b) false (Instr.loadAt t' x1) w fun x2 w => BG P (.bool b) false op ty x y x2 c w fun x3 w => PK P (.bool b) (.bool true) x3 w K := by
  cases b
  · simp only [VG_b, BG_b, if_true, PK_bool, Bool.false_eq_true, if_false]; rw [h.eq, hop]; exact hk
  · simp only [VG_b, BG_b, Bool.true_eq_false, if_true, if_false, PK_bool]; exact hk
/-- b && !f(field) -/
theorem fN {f : Value} {r : Bool} (h : FAt P w t i a t' v) (hc : ∀ K : Value → World → Prop, (∀ w2, Mod none_ w w2 → K (.bool r) w2) → CK P f [v] w K) (hk : ∀ w2, Mod none_ w w2 → K (.bool (b && !r)) w2) :
    VG P (.bool b) true (Instr.fieldAt t (.pointer (some a)) i) w fun x1 w => VG P (.bool b) true (Instr.loadAt t' x1) w fun x2 w => CG P (.bool b) true f [x2] w fun x3 w => VG P (.bool b) true (Op.unary UnOp.not x3) w fun x4 w => PK P (.bool b) x4 (.bool false) w K := by
  cases b
  · simp only [MG_b, VG_b, BG_b, PG_b, CG_b, IG_b, MG_u, VG_u, BG_u, PG_u, CG_u, IG_u, not_ok, Bool.not_true, Bool.not_false, Bool.true_eq_false, Bool.false_eq_true, if_true, if_false, PK_bool]; exact hk w (Mod.refl _ _)
  · simp only [VG_b, CG_b, if_true, PK_bool]; rw [h.eq]; refine hc _ fun w2 hm => ?_; rw [not_ok]; exact hk w2 hm
/-- b || (!n && test(field)) -/
theorem fB1 {op : BinOp} {x y : Operand} {c : Value} {n r : Bool} (h : FAt P w t i a t' v) (hop : ∀ K : Value → World → Prop, BK P op ty x y v c w K = K (.bool r) w) (hk : K (.bool (b || (!n && r))) w) :
    MG P (.bool b) false (.bool n) w fun x1 w => VG P (.bool b) false (Op.unary UnOp.not x1) w fun x2 w => MG P (.bool b) false x2 w fun x3 w => VG P x3 true (Instr.fieldAt t (.pointer (some a)) i) w fun x4 w => VG P x3 true (Instr.loadAt t' x4) w fun x5 w =>
      BG P x3 true op ty x y x5 c w fun x6 w => PG P (.bool b) false x3 x6 (.bool false) w fun x7 w => PK P (.bool b) (.bool true) x7 w K := by
  cases b
  · cases n
    · simp only [MG_b, VG_b, BG_b, PG_b, CG_b, IG_b, MG_u, VG_u, BG_u, PG_u, CG_u, IG_u, not_ok, Bool.not_true, Bool.not_false, Bool.true_eq_false, Bool.false_eq_true, if_true, if_false, PK_bool]; rw [h.eq, hop]; exact hk
    · simp only [MG_b, VG_b, BG_b, PG_b, CG_b, IG_b, MG_u, VG_u, BG_u, PG_u, CG_u, IG_u, not_ok, Bool.not_true, Bool.not_false, Bool.true_eq_false, Bool.false_eq_true, if_true, if_false, PK_bool]; exact hk
  · simp only [MG_b, VG_b, BG_b, PG_b, CG_b, IG_b, MG_u, VG_u, BG_u, PG_u, CG_u, IG_u, not_ok, Bool.not_true, Bool.not_false, Bool.true_eq_false, Bool.false_eq_true, if_true, if_false, PK_bool]; exact hk
/-- b || (!n && test(len(field))) -/
theorem fB2 {e tl tyl : TypeId} {A : Option Addr} {m cc : Nat} {cs : List Bool} {op : BinOp} {x y : Operand} {c : Value} {n r : Bool} (h : FAt P w t i a t' (.slice A m cc)) (hl : P.underlying tl = some (.slice e)) (hop : ∀ K : Value → World → Prop, BK P op ty x y (.int .i64 m) c w K = K (.bool r) w) (hk : K (.bool (b || (!n && r))) w) :
    MG P (.bool b) false (.bool n) w fun x1 w => VG P (.bool b) false (Op.unary UnOp.not x1) w fun x2 w => MG P (.bool b) false x2 w fun x3 w => VG P x3 true (Instr.fieldAt t (.pointer (some a)) i) w fun x4 w => VG P x3 true (Instr.loadAt t' x4) w fun x5 w =>
      IG P x3 true Builtin.len #[tl] tyl cs [x5] w fun x5' w => BG P x3 true op ty x y x5' c w fun x6 w => PG P (.bool b) false x3 x6 (.bool false) w fun x7 w => PK P (.bool b) (.bool true) x7 w K := by
  cases b
  · cases n
    · simp only [MG_b, VG_b, BG_b, PG_b, CG_b, IG_b, MG_u, VG_u, BG_u, PG_u, CG_u, IG_u, not_ok, Bool.not_true, Bool.not_false, Bool.true_eq_false, Bool.false_eq_true, if_true, if_false, PK_bool]; rw [h.eq, len_sl hl, hop]; exact hk
    · simp only [MG_b, VG_b, BG_b, PG_b, CG_b, IG_b, MG_u, VG_u, BG_u, PG_u, CG_u, IG_u, not_ok, Bool.not_true, Bool.not_false, Bool.true_eq_false, Bool.false_eq_true, if_true, if_false, PK_bool]; exact hk
  · simp only [MG_b, VG_b, BG_b, PG_b, CG_b, IG_b, MG_u, VG_u, BG_u, PG_u, CG_u, IG_u, not_ok, Bool.not_true, Bool.not_false, Bool.true_eq_false, Bool.false_eq_true, if_true, if_false, PK_bool]; exact hk
/-- b || (test(field) && test'(len(field'))) -/
theorem fB3 {e tl tyl : TypeId} {A : Option Addr} {m cc : Nat} {cs : List Bool} {op op2 : BinOp} {x y x' y' : Operand} {c c2 : Value} {r r2 : Bool} (h : FAt P w t i a t' v) (hop : ∀ K : Value → World → Prop, BK P op ty x y v c w K = K (.bool r) w) (h2 : FAt P w t2 i2 a t2' (.slice A m cc)) (hl : P.underlying tl = some (.slice e)) (hop2 : ∀ K : Value → World → Prop, BK P op2 ty' x' y' (.int .i64 m) c2 w K = K (.bool r2) w) (hk : K (.bool (b || (r && r2))) w) :
    VG P (.bool b) false (Instr.fieldAt t (.pointer (some a)) i) w fun x1 w => VG P (.bool b) false (Instr.loadAt t' x1) w fun x2 w => BG P (.bool b) false op ty x y x2 c w fun x3 w => MG P (.bool b) false x3 w fun x4 w =>
      VG P x4 true (Instr.fieldAt t2 (.pointer (some a)) i2) w fun x5 w => VG P x4 true (Instr.loadAt t2' x5) w fun x6 w => IG P x4 true Builtin.len #[tl] tyl cs [x6] w fun x6' w => BG P x4 true op2 ty' x' y' x6' c2 w fun x7 w => PG P (.bool b) false x4 x7 (.bool false) w fun x8 w => PK P (.bool b) (.bool true) x8 w K := by
  cases b
  · simp only [VG_b, BG_b, if_true]
    rw [h.eq, hop]
    cases r
    · simp only [MG_b, VG_b, BG_b, PG_b, CG_b, IG_b, MG_u, VG_u, BG_u, PG_u, CG_u, IG_u, not_ok, Bool.not_true, Bool.not_false, Bool.true_eq_false, Bool.false_eq_true, if_true, if_false, PK_bool]; exact hk
    · simp only [MG_b, VG_b, BG_b, PG_b, CG_b, IG_b, MG_u, VG_u, BG_u, PG_u, CG_u, IG_u, not_ok, Bool.not_true, Bool.not_false, Bool.true_eq_false, Bool.false_eq_true, if_true, if_false, PK_bool]; rw [h2.eq, len_sl hl, hop2]; exact hk
  · simp only [MG_b, VG_b, BG_b, PG_b, CG_b, IG_b, MG_u, VG_u, BG_u, PG_u, CG_u, IG_u, not_ok, Bool.not_true, Bool.not_false, Bool.true_eq_false, Bool.false_eq_true, if_true, if_false, PK_bool]; exact hk
/-- b || (test(field) && test2(field2) && (!f(field3) || test4(field2))) -/
theorem fB4 {t3 t3' : TypeId} {i3 : Nat} {v3 : Value} {f : Value} {ty2 ty4 : TypeId} {op op2 op4 : BinOp} {x y x' y' x'' y'' : Operand} {c c2 c4 : Value} {r r2 r3 r4 : Bool} (h : FAt P w t i a t' v) (hop : ∀ K : Value → World → Prop, BK P op ty x y v c w K = K (.bool r) w) (h2 : FAt P w t2 i2 a t2' v2) (hop2 : ∀ K : Value → World → Prop, BK P op2 ty2 x' y' v2 c2 w K = K (.bool r2) w)
    (h3 : FAt P w t3 i3 a t3' v3) (hc : ∀ K : Value → World → Prop, K (.bool r3) w → CK P f [v3] w K) (hop4 : ∀ K : Value → World → Prop, BK P op4 ty4 x'' y'' v2 c4 w K = K (.bool r4) w) (hk : K (.bool (b || (r && r2 && (!r3 || r4)))) w) :
    VG P (.bool b) false (Instr.fieldAt t (.pointer (some a)) i) w fun x1 w => VG P (.bool b) false (Instr.loadAt t' x1) w fun x2 w => BG P (.bool b) false op ty x y x2 c w fun x3 w => MG P (.bool b) false x3 w fun x4 w =>
      VG P x4 true (Instr.fieldAt t2 (.pointer (some a)) i2) w fun x5 w => VG P x4 true (Instr.loadAt t2' x5) w fun x6 w => BG P x4 true op2 ty2 x' y' x6 c2 w fun x7 w => PG P (.bool b) false x4 x7 (.bool false) w fun x8 w => MG P (.bool b) false x8 w fun x9 w =>
      VG P x9 true (Instr.fieldAt t3 (.pointer (some a)) i3) w fun x10 w => VG P x9 true (Instr.loadAt t3' x10) w fun x11 w => CG P x9 true f [x11] w fun x12 w => VG P x9 true (Op.unary UnOp.not x12) w fun x13 w => MG P x9 true x13 w fun x14 w =>
      VG P x14 false (Instr.fieldAt t2 (.pointer (some a)) i2) w fun x15 w => VG P x14 false (Instr.loadAt t2' x15) w fun x16 w => BG P x14 false op4 ty4 x'' y'' x16 c4 w fun x17 w => PG P x9 true x14 (.bool true) x17 w fun x18 w => PG P (.bool b) false x9 x18 (.bool false) w fun x19 w => PK P (.bool b) (.bool true) x19 w K := by
  cases b
  · simp only [VG_b, BG_b, if_true]
    rw [h.eq, hop]
    cases r
    · simp only [MG_b, VG_b, BG_b, PG_b, CG_b, IG_b, MG_u, VG_u, BG_u, PG_u, CG_u, IG_u, not_ok, Bool.not_true, Bool.not_false, Bool.true_eq_false, Bool.false_eq_true, if_true, if_false, PK_bool]; exact hk
    · simp only [MG_b, VG_b, BG_b, PG_b, CG_b, IG_b, MG_u, VG_u, BG_u, PG_u, CG_u, IG_u, not_ok, Bool.not_true, Bool.not_false, Bool.true_eq_false, Bool.false_eq_true, if_true, if_false, PK_bool]
      rw [h2.eq, hop2]
      cases r2
      · simp only [MG_b, VG_b, BG_b, PG_b, CG_b, IG_b, MG_u, VG_u, BG_u, PG_u, CG_u, IG_u, not_ok, Bool.not_true, Bool.not_false, Bool.true_eq_false, Bool.false_eq_true, if_true, if_false, PK_bool]; exact hk
      · simp only [MG_b, VG_b, BG_b, PG_b, CG_b, IG_b, MG_u, VG_u, BG_u, PG_u, CG_u, IG_u, not_ok, Bool.not_true, Bool.not_false, Bool.true_eq_false, Bool.false_eq_true, if_true, if_false, PK_bool]
        rw [h3.eq]
        refine hc _ ?_
        cases r3
        · simp only [MG_b, VG_b, BG_b, PG_b, CG_b, IG_b, MG_u, VG_u, BG_u, PG_u, CG_u, IG_u, not_ok, Bool.not_true, Bool.not_false, Bool.true_eq_false, Bool.false_eq_true, if_true, if_false, PK_bool]; exact hk
        · simp only [MG_b, VG_b, BG_b, PG_b, CG_b, IG_b, MG_u, VG_u, BG_u, PG_u, CG_u, IG_u, not_ok, Bool.not_true, Bool.not_false, Bool.true_eq_false, Bool.false_eq_true, if_true, if_false, PK_bool]; rw [h2.eq, hop4]; exact hk
  · simp only [MG_b, VG_b, BG_b, PG_b, CG_b, IG_b, MG_u, VG_u, BG_u, PG_u, CG_u, IG_u, not_ok, Bool.not_true, Bool.not_false, Bool.true_eq_false, Bool.false_eq_true, if_true, if_false, PK_bool]; exact hk
/-- b || (test(field) && test2(field2) && test3(field2)) -/
theorem fB5 {ty2 ty3 : TypeId} {op op2 op3 : BinOp} {x y x' y' x'' y'' : Operand} {c c2 c3 : Value} {r r2 r3 : Bool} (h : FAt P w t i a t' v) (hop : ∀ K : Value → World → Prop, BK P op ty x y v c w K = K (.bool r) w) (h2 : FAt P w t2 i2 a t2' v2) (hop2 : ∀ K : Value → World → Prop, BK P op2 ty2 x' y' v2 c2 w K = K (.bool r2) w)
    (hop3 : ∀ K : Value → World → Prop, BK P op3 ty3 x'' y'' v2 c3 w K = K (.bool r3) w) (hk : K (.bool (b || (r && r2 && r3))) w) :
    VG P (.bool b) false (Instr.fieldAt t (.pointer (some a)) i) w fun x1 w => VG P (.bool b) false (Instr.loadAt t' x1) w fun x2 w => BG P (.bool b) false op ty x y x2 c w fun x3 w => MG P (.bool b) false x3 w fun x4 w =>
      VG P x4 true (Instr.fieldAt t2 (.pointer (some a)) i2) w fun x5 w => VG P x4 true (Instr.loadAt t2' x5) w fun x6 w => BG P x4 true op2 ty2 x' y' x6 c2 w fun x7 w => PG P (.bool b) false x4 x7 (.bool false) w fun x8 w => MG P (.bool b) false x8 w fun x9 w =>
      VG P x9 true (Instr.fieldAt t2 (.pointer (some a)) i2) w fun x10 w => VG P x9 true (Instr.loadAt t2' x10) w fun x11 w => BG P x9 true op3 ty3 x'' y'' x11 c3 w fun x12 w => PG P (.bool b) false x9 x12 (.bool false) w fun x13 w => PK P (.bool b) (.bool true) x13 w K := by
  cases b
  · simp only [VG_b, BG_b, if_true]
    rw [h.eq, hop]
    cases r
    · simp only [MG_b, VG_b, BG_b, PG_b, CG_b, IG_b, MG_u, VG_u, BG_u, PG_u, CG_u, IG_u, not_ok, Bool.not_true, Bool.not_false, Bool.true_eq_false, Bool.false_eq_true, if_true, if_false, PK_bool]; exact hk
    · simp only [MG_b, VG_b, BG_b, PG_b, CG_b, IG_b, MG_u, VG_u, BG_u, PG_u, CG_u, IG_u, not_ok, Bool.not_true, Bool.not_false, Bool.true_eq_false, Bool.false_eq_true, if_true, if_false, PK_bool]
      rw [h2.eq, hop2]
      cases r2
      · simp only [MG_b, VG_b, BG_b, PG_b, CG_b, IG_b, MG_u, VG_u, BG_u, PG_u, CG_u, IG_u, not_ok, Bool.not_true, Bool.not_false, Bool.true_eq_false, Bool.false_eq_true, if_true, if_false, PK_bool]; exact hk
      · simp only [MG_b, VG_b, BG_b, PG_b, CG_b, IG_b, MG_u, VG_u, BG_u, PG_u, CG_u, IG_u, not_ok, Bool.not_true, Bool.not_false, Bool.true_eq_false, Bool.false_eq_true, if_true, if_false, PK_bool]; rw [h2.eq, hop3]; exact hk
  · simp only [MG_b, VG_b, BG_b, PG_b, CG_b, IG_b, MG_u, VG_u, BG_u, PG_u, CG_u, IG_u, not_ok, Bool.not_true, Bool.not_false, Bool.true_eq_false, Bool.false_eq_true, if_true, if_false, PK_bool]; exact hk
theorem FAt.vk' {K : Value → Value → World → Prop} (h : FAt P w t i a t' v) (hk : ∀ x, K x v w) : VK P (Instr.fieldAt t (.pointer (some a)) i) w fun x w => VK P (Instr.loadAt t' x) w (K x) := by
  obtain ⟨off, h1, h2⟩ := h.go
  rw [fo h1, h2]
  exact hk _
theorem fO' {op : BinOp} {x y : Operand} {c : Value} {r : Bool} {K : Value → Value → Value → Value → World → Prop} (h : FAt P w t i a t' v) (hop : ∀ K : Value → World → Prop, BK P op ty x y v c w K = K (.bool r) w) (hk : ∀ x1 x2 x3, K x1 x2 x3 (.bool (b || r)) w) :
    VG P (.bool b) false (Instr.fieldAt t (.pointer (some a)) i) w fun x1 w => VG P (.bool b) false (Instr.loadAt t' x1) w fun x2 w => BG P (.bool b) false op ty x y x2 c w fun x3 w => PK P (.bool b) (.bool true) x3 w (K x1 x2 x3) := by
  cases b
  · simp only [VG_b, BG_b, if_true, PK_bool, Bool.false_eq_true, if_false]
    refine h.vk' fun x => ?_
    rw [hop]
    exact hk _ _ _
  · simp only [VG_b, BG_b, Bool.true_eq_false, if_true, if_false, PK_bool]; exact hk _ _ _
end
end Go.X
set_option linter.unusedVariables false
set_option linter.unusedSimpArgs false
set_option maxRecDepth 4000
namespace Go.Proofs.YtpkfbaagpjdifaaGreatDoor.Tr
open Go Go.X Go.RowKit Go.Proofs.YtpkfbaagpjdifaaGreatDoor.XF Go.Proofs.YtpkfbaagpjdifaaGreatDoor.XK
def MaySt (a : St) : Prop := ∀ w, Gl w → a.Ok w → a.sz ≤ 1099511627776 → Rt Tryz.prog 103 #[.agg a.cells.toArray] w fun v w' => v = .bool a.may ∧ Mod none_ w w'
theorem exs_call {l : List Ex} {w : World} (hg : Gl w) {s : Value} (h : ExsOk w s l) (hsz : Ex.szL l ≤ 1099511627776) :
    ∀ a ∈ l, ∀ w', Mod none_ w w' → ∀ K : Value → World → Prop, (∀ w'', Mod none_ w' w'' → K (.bool (!a.may)) w'') → CK Tryz.prog (.func (.func 123) #[] #[]) [.agg a.cells.toArray] w' K := by
  intro a ha w' hm K hk
  refine CK_st (R := fun v w'' => v = .bool (!a.may) ∧ Mod none_ w' w'') Tryz.func123 rfl rfl ?_ (fun v w'' hv => by rw [hv.1]; exact hk w'' hv.2)
  refine tree_mayStmt_1_calls ?_
  unfold tree_mayStmt_1_F
  refine box_k (cs := a.cells.toArray) rfl fun w1 hb1 hm1 _ => ?_
  refine ldB (cs := a.cells.toArray) Tryz.underlying85 rfl iEx hb1 ?_
  refine CK_st Tryz.func124 rfl rfl (mayExpr_ok a w1 ((hg.mod hm).mod hm1) (((h.2 a ha).mod hm).mod hm1) (by have := Ex.szL_mem ha; omega)) ?_
  rintro _ w2 ⟨rfl, hm2⟩
  rw [not_ok]
  exact ⟨rfl, hm1.trans hm2⟩
theorem sts_call {l : List St} (ih : ∀ a ∈ l, MaySt a) {w : World} (hg : Gl w) {s : Value} (h : StsOk w s l) (hsz : St.szL l ≤ 1099511627776) :
    ∀ a ∈ l, ∀ w', Mod none_ w w' → ∀ K : Value → World → Prop, (∀ w'', Mod none_ w' w'' → K (.bool (!a.may)) w'') → CK Tryz.prog (.func (.func 102) #[] #[]) [.agg a.cells.toArray] w' K := by
  intro a ha w' hm K hk
  refine CK_st (R := fun v w'' => v = .bool (!a.may) ∧ Mod none_ w' w'') Tryz.func102 rfl rfl ?_ (fun v w'' hv => by rw [hv.1]; exact hk w'' hv.2)
  refine tree_mayStmts_1_calls ?_
  unfold tree_mayStmts_1_F
  refine box_k (cs := a.cells.toArray) rfl fun w1 hb1 hm1 _ => ?_
  refine ldB (cs := a.cells.toArray) Tryz.underlying62 rfl iSt hb1 ?_
  refine CK_st Tryz.func103 rfl rfl (ih a ha w1 ((hg.mod hm).mod hm1) (((h.2 a ha).mod hm).mod hm1) (by have := St.szL_mem ha; omega)) ?_
  rintro _ w2 ⟨rfl, hm2⟩
  rw [not_ok]
  exact ⟨rfl, hm1.trans hm2⟩
theorem any_not_may_st (l : List St) : (!l.any fun a => !a.may) = St.mayL l := by
  rw [St.mayL_eq]
  induction l with
  | nil => rfl
  | cons a r ih => simp only [List.any_cons, List.all_cons, Bool.not_or, Bool.not_not, ih]
theorem St.len_sz (l : List St) : l.length ≤ St.szL l := by
  induction l with
  | nil => simp
  | cons a r ih => have := St.sz_pos a; simp only [St.szL, List.length_cons]; omega
theorem mayStmts_row {l : List St} (ih : ∀ a ∈ l, MaySt a) {w : World} (hg : Gl w) {s : Value} (h : StsOk w s l) (hsz : St.szL l ≤ 1099511627776) : Rt Tryz.prog 71 #[s] w fun v w' => v = .bool (St.mayL l) ∧ Mod none_ w w' := by
  refine tree_mayStmts_calls ?_
  unfold tree_mayStmts_F
  refine CK_st Tryz.func74 rfl rfl (ContainsFuncSt_ok h (by have := St.len_sz l; omega) (sts_call ih hg h hsz)) ?_
  rintro _ w2 ⟨rfl, hm2⟩
  rw [not_ok, any_not_may_st]
  exact ⟨rfl, hm2⟩
/-- What is asked behind the numbers of arguments. -/
def St.ask (e : St) (nm : Bool) (lo hi : Nat) : Bool :=
  (((((((((((((nm == !decide (e.name.size = 0)) && (!nm || nameP e.name)) && decide ((lo : Int) ≤ (e.exprs.length : Int))) && decide ((e.exprs.length : Int) ≤ (hi : Int))) && !e.exprs.any fun a => !a.may) && ((e.op == 8) || (e.kind == 0))) && ((e.red == 0) || (redsP e.kind && decide (e.red ≤ 2)))) &&
    decide (0 ≤ e.turns)) && decide (e.turns ≤ 1000)) && ((e.op == 5) || (e.turns == 0))) && ((e.op == 3) || ((e.els.length : Int) == 0))) && ((e.op == 3) || (e.op == 4) || (e.op == 5) || ((e.body.length : Int) == 0))) && St.mayL e.body) && St.mayL e.els
section
variable {e : St} {w w1 : World} (hok : e.Ok w) (hg : Gl w) (hsz : e.sz ≤ 1099511627776) (hm : Mod none_ w w1) (ih1 : ∀ a ∈ e.body, MaySt a) (ih2 : ∀ a ∈ e.els, MaySt a) {b1 : Nat} {ρ : Sl}
include hok hg hsz hm ih1 ih2
theorem mayS0 (hb1 : w1.heap[b1]? = some (.cells e.cells.toArray 62 (0, 0))) {nm : Bool} {lo hi : Nat} (h1 : ρ 1 = .pointer (some ⟨b1, 0, none⟩)) (h3 : ρ 3 = .bool nm) (h4 : ρ 4 = .int .i64 lo) (h5 : ρ 5 = .int .i64 hi) {z : Bool} (hz : St.ask e nm lo hi = z) :
    sx fn_ Tryz.prog 162 tree_mayStmt_R0 (retK Tryz.prog [ResultVar.tmp 2] fun v w' => v = .bool z ∧ Mod none_ w w') ρ w1 := by
  subst hz
  obtain ⟨A, c, hs, _⟩ := reads_cap hok.exprs.1
  obtain ⟨A2, c2, hs2, _⟩ := reads_cap hok.body.1
  obtain ⟨A3, c3, hs3, _⟩ := reads_cap hok.els.1
  have hszE : Ex.szL e.exprs ≤ 1099511627776 := by rw [St.sz_eq] at hsz; omega
  have hszB : St.szL e.body ≤ 1099511627776 := by rw [St.sz_eq] at hsz; omega
  have hszL : St.szL e.els ≤ 1099511627776 := by rw [St.sz_eq] at hsz; omega
  have cell : ∀ (w' : World), Mod none_ w1 w' → ∀ (j : Nat) v, e.cells[j]? = some v → w'.cell? ((⟨b1, 0, none⟩ : Addr).add j) = some v := fun w' hw j v hv => by
    rw [add_pl, cell_blk (hw.blk hb1 id), Nat.zero_add]
    simpa using hv
  have d0 : ∀ {w'}, Mod none_ w1 w' → FAt Tryz.prog w' 62 0 ⟨b1, 0, none⟩ 5 (.int .u8 e.op) := fun hw => FAt.mk' (off := 0) (by kernel_rfl) uU8 rfl (cell _ hw 0 _ rfl)
  have d1 : ∀ {w'}, Mod none_ w1 w' → FAt Tryz.prog w' 62 1 ⟨b1, 0, none⟩ 5 (.int .u8 e.kind) := fun hw => FAt.mk' (off := 1) (by kernel_rfl) uU8 rfl (cell _ hw 1 _ rfl)
  have d2 : ∀ {w'}, Mod none_ w1 w' → FAt Tryz.prog w' 62 2 ⟨b1, 0, none⟩ 5 (.int .u8 e.red) := fun hw => FAt.mk' (off := 2) (by kernel_rfl) uU8 rfl (cell _ hw 2 _ rfl)
  have d3 : ∀ {w'}, Mod none_ w1 w' → FAt Tryz.prog w' 62 3 ⟨b1, 0, none⟩ 9 (.string e.name) := fun hw => FAt.mk' (off := 3) (by kernel_rfl) uS rfl (cell _ hw 3 _ rfl)
  have d4 : ∀ {w'}, Mod none_ w1 w' → FAt Tryz.prog w' 62 4 ⟨b1, 0, none⟩ 3 (.int .i64 e.turns) := fun hw => FAt.mk' (off := 4) (by kernel_rfl) uI rfl (cell _ hw 4 _ rfl)
  have d5 : ∀ {w'}, Mod none_ w1 w' → FAt Tryz.prog w' 62 5 ⟨b1, 0, none⟩ 60 (.slice A e.exprs.length c) := fun hw => FAt.mk' (off := 5) (by kernel_rfl) uExs rfl (cell _ hw 5 _ (by rw [← hs]; rfl))
  have d6 : ∀ {w'}, Mod none_ w1 w' → FAt Tryz.prog w' 62 6 ⟨b1, 0, none⟩ 23 (.slice A2 e.body.length c2) := fun hw => FAt.mk' (off := 6) (by kernel_rfl) uSts rfl (cell _ hw 6 _ (by rw [← hs2]; rfl))
  have d7 : ∀ {w'}, Mod none_ w1 w' → FAt Tryz.prog w' 62 7 ⟨b1, 0, none⟩ 23 (.slice A3 e.els.length c3) := fun hw => FAt.mk' (off := 7) (by kernel_rfl) uSts rfl (cell _ hw 7 _ (by rw [← hs3]; rfl))
  have r0 := Mod.refl none_ w1
  rw [tree_mayStmt_R0_eqR]
  unfold tree_mayStmt_R0_FR
  simp only [h1, h3, h4, h5]
  refine (d3 r0).vk ?_
  rw [BK_neqS, ByteArray.toList_eq, ByteArray.toList_eq, empty_iff, BK_eqlB (by kernel_rfl)]
  refine fA0 (d3 r0) (r := nameP e.name) (fun K hk => CK_st Tryz.func68 rfl rfl (Name_ok (hg.mod hm) e.name hok.fine.2.2.2.1) (fun v w' hv => by rw [hv.1]; exact hk w' hv.2)) fun w2 m2 => ?_
  refine fA2 (d5 m2) uExs (fun K => BK_geq _ _ _ _ _ _) ?_
  refine fA2 (d5 m2) uExs (fun K => BK_leq _ _ _ _ _ _) ?_
  have hE : ExsOk w2 (.slice A e.exprs.length c) e.exprs := by rw [← hs]; exact (hok.exprs.mod hm).mod m2
  refine fA3 (d5 m2) (r := e.exprs.any fun a => !a.may) (fun K hk => CK_st Tryz.func122 rfl rfl (ContainsFuncEx_ok hE (by have := Ex.len_sz e.exprs; omega) (exs_call ((hg.mod hm).mod m2) hE hszE)) (fun v w' hv => by rw [hv.1]; exact hk w' hv.2)) fun w3 m3 => ?_
  have m13 := m2.trans m3
  refine fA4 (d0 m13) (fun K => BK_eql _ _ _ _ _ _) (d1 m13) (fun K => BK_eql _ _ _ _ _ _) ?_
  refine fA7 (d2 m13) (fun K => BK_eql _ _ _ _ _ _) (d1 m13) (r2 := redsP e.kind) (fun K hk => CK_st Tryz.func125 rfl rfl (reduces_ok e.kind w3) (fun v w' hv => by rw [hv.1, hv.2]; exact hk)) (fun K => BK_leq _ _ _ _ _ _) ?_
  refine fA1 (d4 m13) (fun K => BK_geq _ _ _ _ _ _) ?_
  refine fA1 (d4 m13) (fun K => BK_leq _ _ _ _ _ _) ?_
  refine fA4 (d0 m13) (fun K => BK_eql _ _ _ _ _ _) (d4 m13) (fun K => BK_eql _ _ _ _ _ _) ?_
  refine fA5 (d0 m13) (fun K => BK_eql _ _ _ _ _ _) (d7 m13) uSts (fun K => BK_eql _ _ _ _ _ _) ?_
  refine fA6 (d0 m13) (fun K => BK_eql _ _ _ _ _ _) (fun K => BK_eql _ _ _ _ _ _) (fun K => BK_eql _ _ _ _ _ _) (d6 m13) uSts (fun K => BK_eql _ _ _ _ _ _) ?_
  have hB : StsOk w3 (.slice A2 e.body.length c2) e.body := by rw [← hs2]; exact (hok.body.mod hm).mod m13
  refine fA8 (d6 m13) (r := St.mayL e.body) (fun K hk => CK_st Tryz.func71 rfl rfl (mayStmts_row ih1 ((hg.mod hm).mod m13) hB hszB) (fun v w' hv => by rw [hv.1]; exact hk w' hv.2)) fun w4 m4 => ?_
  have m14 := m13.trans m4
  have hL : StsOk w4 (.slice A3 e.els.length c3) e.els := by rw [← hs3]; exact (hok.els.mod hm).mod m14
  refine fA8 (d7 m14) (r := St.mayL e.els) (fun K hk => CK_st Tryz.func71 rfl rfl (mayStmts_row ih2 ((hg.mod hm).mod m14) hL hszL) (fun v w' hv => by rw [hv.1]; exact hk w' hv.2)) fun w5 m5 => ?_
  exact ⟨rfl, (hm.trans m14).trans m5⟩
end
end Go.Proofs.YtpkfbaagpjdifaaGreatDoor.Tr
set_option linter.unusedVariables false
set_option linter.unusedSimpArgs false
set_option maxRecDepth 4000
namespace Go.Proofs.YtpkfbaagpjdifaaGreatDoor.Tr
open Go Go.X Go.RowKit Go.Proofs.YtpkfbaagpjdifaaGreatDoor.XF Go.Proofs.YtpkfbaagpjdifaaGreatDoor.XK
theorem beq_dec (a b : Int) : (a == b) = decide (a = b) := by
  by_cases h : a = b
  · rw [decide_eq_true h, h]; exact beq_self_eq_true b
  · rw [decide_eq_false h]; exact beq_eq_false_iff_ne.2 h
theorem name_eq (nm : Bool) (b : ByteArray) : ((nm == !decide (b.size = 0)) && (!nm || nameP b)) = (if nm then nameP b else decide (b.size = 0)) := by
  by_cases h0 : b.size = 0
  · have : nameP b = false := by unfold nameP; rw [show decide (1 ≤ b.size) = false from decide_eq_false (by omega)]; rfl
    rw [decide_eq_true h0, this]
    cases nm <;> rfl
  · rw [decide_eq_false h0]
    cases nm <;> simp
theorem kind_eq (op kind red : Int) : ((decide (op = 8) || decide (kind = 0)) && (decide (red = 0) || (redsP kind && decide (red ≤ 2)))) = ((decide (op = 8) || (decide (kind = 0) && decide (red = 0))) && (decide (red = 0) || (redsP kind && decide (red ≤ 2)))) := by
  by_cases h8 : op = 8
  · rw [decide_eq_true h8]; rfl
  · rw [decide_eq_false h8]
    by_cases hk : kind = 0
    · have : redsP kind = false := by unfold redsP; rw [decide_eq_false]; omega
      rw [this, decide_eq_true hk]
      cases decide (red = 0) <;> rfl
    · rw [decide_eq_false hk]; rfl
theorem ask_eq (e : St) {nm : Bool} {lo hi : Nat} (hn : nm = decide (e.op = 1 ∨ e.op = 2 ∨ e.op = 5)) (hr : e.rng = some (lo, hi)) : St.ask e nm lo hi = e.may := by
  rw [St.may_eq]
  unfold St.ask St.own
  rw [hr, name_eq, any_not_may]
  simp only [beq_dec]
  have e1 : decide ((lo : Int) ≤ (e.exprs.length : Int)) = decide (lo ≤ e.exprs.length) := by simp
  have e2 : decide ((e.exprs.length : Int) ≤ (hi : Int)) = decide (e.exprs.length ≤ hi) := by simp
  have e3 : decide ((e.els.length : Int) = 0) = decide (e.els.length = 0) := by simp
  have e4 : decide ((e.body.length : Int) = 0) = decide (e.body.length = 0) := by simp
  have e5 : (decide (e.op = 3) || decide (e.op = 4) || decide (e.op = 5)) = decide (e.op = 3 ∨ e.op = 4 ∨ e.op = 5) := by
    by_cases q3 : e.op = 3 <;> by_cases q4 : e.op = 4 <;> by_cases q5 : e.op = 5 <;> simp [q3, q4, q5]
  have e6 : (if nm = true then nameP e.name else decide (e.name.size = 0)) = (if e.op = 1 ∨ e.op = 2 ∨ e.op = 5 then nameP e.name else decide (e.name.size = 0)) := by
    subst hn
    by_cases q : e.op = 1 ∨ e.op = 2 ∨ e.op = 5
    · rw [if_pos (decide_eq_true q), if_pos q]
    · rw [if_neg (by rw [decide_eq_false q]; simp), if_neg q]
  rw [e1, e2, e3, e4, e5, e6]
  have hk := kind_eq e.op e.kind e.red
  generalize (if e.op = 1 ∨ e.op = 2 ∨ e.op = 5 then nameP e.name else decide (e.name.size = 0)) = X1 at *
  generalize decide (lo ≤ e.exprs.length) = X2 at *
  generalize decide (e.exprs.length ≤ hi) = X3 at *
  generalize Ex.mayL e.exprs = X4 at *
  generalize (decide (e.red = 0) || (redsP e.kind && decide (e.red ≤ 2))) = X5 at *
  generalize (decide (e.op = 8) || decide (e.kind = 0)) = X6 at *
  generalize (decide (e.op = 8) || (decide (e.kind = 0) && decide (e.red = 0))) = X7 at *
  generalize decide (0 ≤ e.turns) = X8 at *
  generalize decide (e.turns ≤ 1000) = X9 at *
  generalize (decide (e.op = 5) || decide (e.turns = 0)) = X10 at *
  generalize (decide (e.op = 3) || decide (e.els.length = 0)) = X11 at *
  generalize (decide (e.op = 3 ∨ e.op = 4 ∨ e.op = 5) || decide (e.body.length = 0)) = X12 at *
  generalize St.mayL e.body = X13 at *
  generalize St.mayL e.els = X14 at *
  have : (X1 && X2 && X3 && X4 && X6 && X5 && X8 && X9 && X10 && X11 && X12 && X13 && X14) = (X6 && X5 && (X1 && X2 && X3 && X4 && X8 && X9 && X10 && X11 && X12 && X13 && X14)) := by ac_rfl
  rw [this, hk]
  ac_rfl
theorem mayStmt_ok : ∀ e : St, MaySt e := by
  intro e
  induction e using St.ind with
  | h e ih1 ih2 =>
    intro w hg hok hsz
    have hrng := hok.fine
    refine tree_mayStmt_calls ?_
    unfold tree_mayStmt_F
    refine box_k (cs := e.cells.toArray) rfl fun w1 hb1 hm1 hs1 => ?_
    have cell : ∀ (j : Nat) v, e.cells[j]? = some v → w1.cell? ((⟨w.heap.size, 0, none⟩ : Addr).add j) = some v := fun j v hv => by
      rw [add_pl, cell_blk hb1, Nat.zero_add]
      simpa using hv
    have d0 : FAt Tryz.prog w1 62 0 ⟨w.heap.size, 0, none⟩ 5 (.int .u8 e.op) := FAt.mk' (off := 0) (by kernel_rfl) uU8 rfl (cell 0 _ rfl)
    have d1 : FAt Tryz.prog w1 62 1 ⟨w.heap.size, 0, none⟩ 5 (.int .u8 e.kind) := FAt.mk' (off := 1) (by kernel_rfl) uU8 rfl (cell 1 _ rfl)
    refine d0.vk' fun x6 => ?_
    rw [BK_eql]
    refine fO' d0 (fun K => BK_eql _ _ _ _ _ _) fun x10 x11 x12 => ?_
    refine fO' d0 (fun K => BK_eql _ _ _ _ _ _) fun x15 x16 x17 => ?_
    refine d0.vk' fun x19 => ?_
    have hnm : ((e.op == 1) || (e.op == 2) || (e.op == 5)) = decide (e.op = 1 ∨ e.op = 2 ∨ e.op = 5) := by
      simp only [beq_dec]
      by_cases q3 : e.op = 1 <;> by_cases q4 : e.op = 2 <;> by_cases q5 : e.op = 5 <;> simp [q3, q4, q5]
    have fin : ∀ (ρ' : Sl) (lo hi : Nat), ρ' 1 = .pointer (some ⟨w.heap.size, 0, none⟩) → ρ' 3 = .bool ((e.op == 1) || (e.op == 2) || (e.op == 5)) → ρ' 4 = .int .i64 lo → ρ' 5 = .int .i64 hi → e.rng = some (lo, hi) →
        sx fn_ Tryz.prog 162 tree_mayStmt_R0 (retK Tryz.prog [ResultVar.tmp 2] fun v w' => v = .bool e.may ∧ Mod none_ w w') ρ' w1 := fun ρ' lo hi q1 q3 q4 q5 hr =>
      mayS0 hok hg hsz hm1 ih1 ih2 hb1 q1 q3 q4 q5 (ask_eq e hnm hr)
    have none_ret : e.rng = none → e.may = false := fun h => by
      rw [St.may_eq]
      unfold St.own
      rw [h]
      rfl
    have r1 : ∀ (ρ' : Sl) (t : Bool), ρ' 1 = .pointer (some ⟨w.heap.size, 0, none⟩) → ρ' 3 = .bool ((e.op == 1) || (e.op == 2) || (e.op == 5)) → ρ' 4 = .int .i64 0 → ρ' 5 = .int .i64 0 → ρ' 20 = .int .u8 e.op → ρ' 21 = .bool t → t = decide (e.op = 1 ∨ e.op = 3 ∨ e.op = 4 ∨ e.op = 6) →
        sx fn_ Tryz.prog 162 tree_mayStmt_R1 (blkK 0 (seqK (sx fn_ Tryz.prog 162 tree_mayStmt_R0 (retK Tryz.prog [ResultVar.tmp 2] fun v w' => v = .bool e.may ∧ Mod none_ w w')) (retK Tryz.prog [ResultVar.tmp 2] fun v w' => v = .bool e.may ∧ Mod none_ w w'))) ρ' w1 := by
      intro ρ' t q1 q3 q4 q5 q20 q21 ht
      rw [tree_mayStmt_R1_eq]
      unfold tree_mayStmt_R1_F
      rw [q21, q20]
      subst ht
      refine caseC (fun hp => ?_) (fun hp => ?_)
      · rw [decide_eq_true_eq] at hp
        rw [bk_n, sq_n]
        refine fin _ 1 1 ?_ ?_ rfl rfl (by unfold St.rng; rw [if_pos hp])
        · exact q1
        · exact q3
      · rw [decide_eq_false_iff_not] at hp
        refine caseI (fun h2 => condT ?_) (fun h2 => condF ?_)
        · rw [bk_n, sq_n]
          refine fin _ 2 2 ?_ ?_ rfl rfl (by unfold St.rng; rw [if_neg hp, if_pos h2])
          · exact q1
          · exact q3
        · have r2 : ∀ (ρ2 : Sl) (t : Bool), ρ2 1 = .pointer (some ⟨w.heap.size, 0, none⟩) → ρ2 3 = .bool ((e.op == 1) || (e.op == 2) || (e.op == 5)) → ρ2 4 = .int .i64 0 → ρ2 5 = .int .i64 0 → ρ2 20 = .int .u8 e.op → ρ2 28 = .bool t → t = decide (e.op = 5 ∨ e.op = 7) →
              sx fn_ Tryz.prog 162 tree_mayStmt_R2 (blkK 0 (seqK (sx fn_ Tryz.prog 162 tree_mayStmt_R0 (retK Tryz.prog [ResultVar.tmp 2] fun v w' => v = .bool e.may ∧ Mod none_ w w')) (retK Tryz.prog [ResultVar.tmp 2] fun v w' => v = .bool e.may ∧ Mod none_ w w'))) ρ2 w1 := by
            intro ρ2 t p1 p3 p4 p5 p20 p28 ht2
            rw [tree_mayStmt_R2_eq]
            unfold tree_mayStmt_R2_F
            rw [p28, p20, p1]
            subst ht2
            refine caseC (fun h5 => ?_) (fun h5 => ?_)
            · rw [decide_eq_true_eq] at h5
              rw [bk_n, sq_n]
              exact fin _ 0 0 p1 p3 p4 p5 (by unfold St.rng; rw [if_neg hp, if_neg h2, if_pos h5])
            · rw [decide_eq_false_iff_not] at h5
              refine caseI (fun h8 => condT ?_) (fun h8 => condF ?_)
              · refine d1.vk' fun x34 => ?_
                refine CK_st Tryz.func121 rfl rfl (Args_ok (hg.mod hm1) e.kind hrng.2.1) ?_
                rintro _ w1' ⟨rfl, rfl⟩
                rw [extract_ok (v := .int .i64 (argsP e.kind).1) rfl, extract_ok (v := .int .i64 (argsP e.kind).2) rfl]
                refine caseI (fun hz => condT ?_) (fun hz => condF ?_)
                · refine ⟨?_, hm1⟩
                  rw [none_ret (by unfold St.rng; rw [if_neg hp, if_neg h2, if_neg h5, if_pos h8, if_pos (by omega)])]
                  rfl
                · rw [bk_n, sq_n]
                  refine fin _ (argsP e.kind).1 (argsP e.kind).2 ?_ ?_ rfl rfl (by unfold St.rng; rw [if_neg hp, if_neg h2, if_neg h5, if_pos h8, if_neg (by omega)])
                  · exact p1
                  · exact p3
              · refine ⟨?_, hm1⟩
                rw [none_ret (by unfold St.rng; rw [if_neg hp, if_neg h2, if_neg h5, if_neg h8])]
                rfl
          refine caseI (fun h5 => condT ?_) (fun h5 => condF ?_)
          · refine r2 _ true ?_ ?_ ?_ ?_ ?_ rfl (by rw [decide_eq_true (Or.inl h5)])
            · exact q1
            · exact q3
            · exact q4
            · exact q5
            · exact q20
          · rw [BK_eql]
            refine r2 _ (e.op == 7) ?_ ?_ ?_ ?_ ?_ rfl ?_
            · exact q1
            · exact q3
            · exact q4
            · exact q5
            · exact q20
            · rw [beq_dec]
              by_cases q : e.op = 7
              · rw [decide_eq_true q, decide_eq_true (Or.inr q)]
              · rw [decide_eq_false q, decide_eq_false (by omega)]
    refine caseI (fun h1 => condT ?_) (fun h1 => condF ?_)
    · exact r1 _ true rfl rfl rfl rfl rfl rfl (by rw [decide_eq_true (Or.inl h1)])
    refine caseI (fun h3 => condT ?_) (fun h3 => condF ?_)
    · exact r1 _ true rfl rfl rfl rfl rfl rfl (by rw [decide_eq_true (Or.inr (Or.inl h3))])
    refine caseI (fun h4 => condT ?_) (fun h4 => condF ?_)
    · exact r1 _ true rfl rfl rfl rfl rfl rfl (by rw [decide_eq_true (Or.inr (Or.inr (Or.inl h4)))])
    rw [BK_eql]
    refine r1 _ (e.op == 6) ?_ ?_ ?_ ?_ ?_ ?_ ?_
    · rfl
    · rfl
    · rfl
    · rfl
    · rfl
    · rfl
    · rw [beq_dec]
      by_cases q : e.op = 6
      · rw [decide_eq_true q, decide_eq_true (Or.inr (Or.inr (Or.inr q)))]
      · rw [decide_eq_false q, decide_eq_false (by omega)]
theorem mayStmts_ok {l : List St} {w : World} (hg : Gl w) {s : Value} (h : StsOk w s l) (hsz : St.szL l ≤ 1099511627776) : Rt Tryz.prog 71 #[s] w fun v w' => v = .bool (St.mayL l) ∧ Mod none_ w w' :=
  mayStmts_row (fun a _ => mayStmt_ok a) hg h hsz
end Go.Proofs.YtpkfbaagpjdifaaGreatDoor.Tr
set_option linter.unusedVariables false
set_option linter.unusedSimpArgs false
set_option maxRecDepth 4000
namespace Go.Proofs.YtpkfbaagpjdifaaGreatDoor.Tr
open Go Go.X Go.RowKit Go.Proofs.YtpkfbaagpjdifaaGreatDoor.XF Go.Proofs.YtpkfbaagpjdifaaGreatDoor.XK
theorem uTwo : Tryz.prog.underlying 143 = some (.array 2 23) := by kernel_rfl
theorem cSts : Tryz.prog.cellsOf 23 = 0 + 1 := by kernel_rfl
theorem bTwo (A B : Option Addr) (n c m d : Nat) : Tryz.prog.built 143 [(0, .slice A n c), (1, .slice B m d)] = some #[.slice A n c, .slice B m d] := by kernel_rfl
theorem aggSts (w : World) : (isAgg 23).run Tryz.prog w = .ok false w := by
  unfold isAgg
  rw [Sem.run_bind, run_underlying uSts w]
  rfl
theorem two_0 (x y : Value) (w : World) : (Instr.index 143 (.agg #[x, y]) (.int .i64 0)).run Tryz.prog w = .ok x w := by
  obtain ⟨z, hz, hzs⟩ := info_of cSts
  simp [Instr.index, run_underlying uTwo, asIntOf, sizeOf, typeInfo, hz, hzs, part, aggSts, Sem.run_bind]
theorem two_1 (x y : Value) (w : World) : (Instr.index 143 (.agg #[x, y]) (.int .i64 1)).run Tryz.prog w = .ok y w := by
  obtain ⟨z, hz, hzs⟩ := info_of cSts
  simp [Instr.index, run_underlying uTwo, asIntOf, sizeOf, typeInfo, hz, hzs, part, aggSts, Sem.run_bind]
def DeepOk (l : List St) : Prop := ∀ w s, StsOk w s l → St.szL l ≤ 1099511627776 → Rt Tryz.prog 100 #[s] w fun v w' => v = .tuple #[.int .i64 (St.blocksL l), .int .i64 (St.exprDL l)] ∧ Mod none_ w w'
/-- What holds behind a statement's own part. -/
structure DSt (w : World) (l : List St) (A : Option Addr) (c : Nat) (n : Nat) (bl ex : Nat) (ρ : Sl) (w' : World) : Prop where
  h14 : ρ 14 = .int .i64 n
  h13 : ρ 13 = .int .i64 l.length
  h12 : ρ 12 = .slice A l.length c
  h0 : ρ 0 = .slice A l.length c
  h2 : ρ 2 = .int .i64 bl
  h3 : ρ 3 = .int .i64 ex
  m : Mod none_ w w'
theorem deep_row {l : List St} (ih : ∀ a ∈ l, DeepOk a.body ∧ DeepOk a.els) : DeepOk l := by
  intro w s hok hsz
  obtain ⟨A, c, hs, _⟩ := reads_cap hok.1
  subst hs
  have hlen := St.len_sz l
  refine tree_deep_calls ?_
  unfold tree_deep_F
  simp only [fo25_0, fo25_1, fo48_0, fo48_1, fo62_0, fo62_1, fo62_2, fo62_3, fo62_4, fo62_5, fo62_6, fo62_7, fo85_0, fo85_1, fo85_2, fo85_3, ld2, ld3, ld5, ld9, ld22, ld23, ld60, len9, len22, len23, len60, len111, ldK_some, cellE, blkC_c, add_pl, Nat.zero_add, List.getElem?_toArray, List.getElem?_cons_succ, List.getElem?_cons_zero]
  refine W_loop tree_deep_L0_ok (fun ρ w' => ∃ n : Nat, n ≤ l.length ∧ DSt w l A c n (St.blocksL' (l.take n)) (St.exprDL (l.take n)) ρ w') (fun ρ _ => l.length - (intOf (ρ 14)).toNat)
    ⟨0, Nat.zero_le _, rfl, rfl, rfl, rfl, rfl, rfl, Mod.refl _ _⟩ ?_
  rintro ρ w1 ⟨n, hn, h⟩
  rw [tree_deep_L0_eq]
  unfold tree_deep_L0_F
  rw [h.h14, h.h13, h.h12, BK_lss]
  by_cases hlt : n < l.length
  · rw [show decide ((n : Int) < (l.length : Int)) = true by rw [decide_eq_true_eq]; omega]
    refine condT ?_
    have hx : l[n]? = some l[n] := List.getElem?_eq_getElem hlt
    have hmem : l[n] ∈ l := List.getElem_mem hlt
    have hsn := St.szL_at hx
    have hok1 := hok.mod h.m
    have he := hok1.at hx
    have hse := St.sz_eq l[n]
    have tb := St.blocksL'_sz (l.take n)
    have te := St.exprDL_sz (l.take n)
    refine ixSt hok1 hx fun y => ?_
    refine lcl_k (cs := l[n].cells.toArray) zSt _ iSt rfl (st_one he) fun w2 hb2 hm2 _ => ?_
    obtain ⟨A1, c1, hs1, _⟩ := reads_cap he.exprs.1
    obtain ⟨A2, c2, hs2, _⟩ := reads_cap he.body.1
    obtain ⟨A3, c3, hs3, _⟩ := reads_cap he.els.1
    simp only [fo25_0, fo25_1, fo48_0, fo48_1, fo62_0, fo62_1, fo62_2, fo62_3, fo62_4, fo62_5, fo62_6, fo62_7, fo85_0, fo85_1, fo85_2, fo85_3, ld2, ld3, ld5, ld9, ld22, ld23, ld60, len9, len22, len23, len60, len111, ldK_some, cellE, blkC_c, add_pl, Nat.zero_add, List.getElem?_toArray, List.getElem?_cons_succ, List.getElem?_cons_zero, Ex.c0, Ex.c1, Ex.c2, Ex.c3, Ex.c4, Ex.c5, St.c0, St.c1, St.c2, St.c3, St.c4, St.c5, St.c6, St.c7, St.c8, St.c9, hb2, hs1]
    have hm12 := h.m.trans hm2
    -- the expressions
    refine W_loop tree_deep_L2_ok (fun ρ w' => ∃ j : Nat, j ≤ l[n].exprs.length ∧ DSt w l A c n (St.blocksL' (l.take n)) (max (St.exprDL (l.take n)) (Ex.deepL (l[n].exprs.take j))) ρ w' ∧ ρ 21 = .int .i64 j ∧ ρ 20 = .int .i64 l[n].exprs.length ∧ ρ 19 = .slice A1 l[n].exprs.length c1 ∧ ρ 5 = .pointer (some ⟨w1.heap.size, 0, none⟩) ∧ Mod none_ w2 w') (fun ρ _ => l[n].exprs.length - (intOf (ρ 21)).toNat)
      ⟨0, Nat.zero_le _, ⟨h.h14, h.h13, h.h12, h.h0, h.h2, h.h3.trans (by simp [Ex.deepL]), hm12⟩, rfl, rfl, rfl, rfl, Mod.refl _ _⟩ ?_
    rintro ρ2 w3 ⟨j, hj, d, g21, g20, g19, g5, hm3⟩
    rw [tree_deep_L2_eq]
    unfold tree_deep_L2_F
    rw [g21, g20, g19, BK_lss]
    have hszE : Ex.szL l[n].exprs ≤ 1099511627776 := by omega
    have hlenE := Ex.len_sz l[n].exprs
    by_cases hltj : j < l[n].exprs.length
    · rw [show decide ((j : Int) < (l[n].exprs.length : Int)) = true by rw [decide_eq_true_eq]; omega]
      refine condT ?_
      have hxj : l[n].exprs[j]? = some l[n].exprs[j] := List.getElem?_eq_getElem hltj
      have hokE : ExsOk w3 (.slice A1 l[n].exprs.length c1) l[n].exprs := by rw [← hs1]; exact (he.exprs.mod hm2).mod hm3
      refine ixEx hokE hxj fun y2 => ?_
      refine lcl_k (cs := l[n].exprs[j].cells.toArray) zEx _ iEx rfl (ex_one (hokE.at hxj)) fun w4 hb4 hm4 _ => ?_
      refine ldB (cs := l[n].exprs[j].cells.toArray) Tryz.underlying85 rfl iEx hb4 ?_
      have hsj := Ex.szL_at hxj
      refine CK_st Tryz.func120 rfl rfl (deepExpr_ok _ w4 ((hokE.at hxj).mod hm4) (by omega)) ?_
      rintro _ w5 ⟨rfl, hm5⟩
      rw [d.h3, max_i, BK_add, wrap_i (n := (j : Int) + 1) (by omega) (by omega)]
      have hm35 := hm4.trans hm5
      refine ⟨⟨j + 1, hltj, ⟨d.h14, d.h13, d.h12, d.h0, d.h2, ?_, d.m.trans hm35⟩, rfl, g20, g19, g5, hm3.trans hm35⟩, ?_⟩
      · show Value.int .i64 _ = _
        rw [List.take_add_one, hxj, Option.toList_some, Ex.deepL_snoc]
        congr 1
        split <;> omega
      · show l[n].exprs.length - (intOf (Value.int .i64 ((j : Int) + 1))).toNat < _
        simp only [intOf]; omega
    · obtain rfl : j = l[n].exprs.length := by omega
      rw [show decide (((l[n].exprs.length : Nat) : Int) < (l[n].exprs.length : Int)) = false by simp]
      refine condF ?_
      rw [List.take_length] at d
      rw [sq_x, bk_x, sq_n, tree_deep_R3_eq]
      unfold tree_deep_R3_F
      have g5' : ∀ v, (up ρ2 22 v) 5 = .pointer (some ⟨w1.heap.size, 0, none⟩) := fun v => g5
      rw [g5']
      have hb3 := hm3.blk hb2 id
      simp only [fo25_0, fo25_1, fo48_0, fo48_1, fo62_0, fo62_1, fo62_2, fo62_3, fo62_4, fo62_5, fo62_6, fo62_7, fo85_0, fo85_1, fo85_2, fo85_3, ld2, ld3, ld5, ld9, ld22, ld23, ld60, len9, len22, len23, len60, len111, ldK_some, cellE, blkC_c, add_pl, Nat.zero_add, List.getElem?_toArray, List.getElem?_cons_succ, List.getElem?_cons_zero, Ex.c0, Ex.c1, Ex.c2, Ex.c3, Ex.c4, Ex.c5, St.c0, St.c1, St.c2, St.c3, St.c4, St.c5, St.c6, St.c7, St.c8, St.c9, hb3, hs2, hs3]
      rw [build_ok (bTwo _ _ _ _ _ _)]
      -- the two bodies
      have dE := Ex.deepL_sz l[n].exprs
      have hbody : StsOk w3 (.slice A2 l[n].body.length c2) l[n].body := by rw [← hs2]; exact (he.body.mod hm2).mod hm3
      have hels : StsOk w3 (.slice A3 l[n].els.length c3) l[n].els := by rw [← hs3]; exact (he.els.mod hm2).mod hm3
      have bB := St.blocksL_sz l[n].body
      have bL := St.blocksL_sz l[n].els
      have xB := St.exprDL_sz l[n].body
      have xL := St.exprDL_sz l[n].els
      have b1 := St.blocks_eq l[n]
      have x1 := St.exprD_eq l[n]
      refine W_loop tree_deep_L6_ok (fun ρ w' => ∃ (k : Nat), k ≤ 2 ∧ DSt w l A c n (max (St.blocksL' (l.take n)) (if k = 0 then 0 else if k = 1 then St.blocksL l[n].body else l[n].blocks)) (max (max (St.exprDL (l.take n)) (Ex.deepL l[n].exprs)) (if k = 0 then 0 else if k = 1 then St.exprDL l[n].body else max (St.exprDL l[n].body) (St.exprDL l[n].els))) ρ w' ∧ ρ 35 = .int .i64 k ∧ ρ 34 = .agg #[.slice A2 l[n].body.length c2, .slice A3 l[n].els.length c3] ∧ Mod none_ w3 w') (fun ρ _ => 2 - (intOf (ρ 35)).toNat)
        ⟨0, by omega, ⟨d.h14, d.h13, d.h12, d.h0, d.h2.trans (by simp), d.h3.trans (by simp), d.m⟩, rfl, rfl, Mod.refl _ _⟩ ?_
      rintro ρ3 w4 ⟨k, hk, q, q35, q34, hm4⟩
      rw [tree_deep_L6_eq]
      unfold tree_deep_L6_F
      rw [q35, q34, q.h2, q.h3, BK_lss]
      match k, hk with
      | 0, _ =>
        refine condT ?_
        refine VK_of (two_0 _ _ _) ?_
        refine CK_st Tryz.func100 rfl rfl ((ih _ hmem).1 w4 _ (hbody.mod hm4) (by omega)) ?_
        rintro _ w5 ⟨rfl, hm5⟩
        rw [extract_ok (v := .int .i64 (St.blocksL l[n].body)) rfl, extract_ok (v := .int .i64 (St.exprDL l[n].body)) rfl, max_i, max_i, BK_add]
        refine ⟨⟨1, by omega, ⟨q.h14, q.h13, q.h12, q.h0, ?_, ?_, q.m.trans hm5⟩, rfl, q34, hm4.trans hm5⟩, ?_⟩
        · show Value.int .i64 _ = _
          congr 1
          simp only [if_true, Nat.one_ne_zero, if_false]
          split <;> omega
        · show Value.int .i64 _ = _
          congr 1
          simp only [if_true, Nat.one_ne_zero, if_false]
          split <;> omega
        · show 2 - (intOf (Value.int .i64 (IntKind.i64.wrap (0 + 1)))).toNat < _
          decide
      | 1, _ =>
        refine condT ?_
        refine VK_of (two_1 _ _ _) ?_
        refine CK_st Tryz.func100 rfl rfl ((ih _ hmem).2 w4 _ (hels.mod hm4) (by omega)) ?_
        rintro _ w5 ⟨rfl, hm5⟩
        rw [extract_ok (v := .int .i64 (St.blocksL l[n].els)) rfl, extract_ok (v := .int .i64 (St.exprDL l[n].els)) rfl, max_i, max_i, BK_add]
        refine ⟨⟨2, by omega, ⟨q.h14, q.h13, q.h12, q.h0, ?_, ?_, q.m.trans hm5⟩, rfl, q34, hm4.trans hm5⟩, ?_⟩
        · show Value.int .i64 _ = _
          congr 1
          simp only [if_true, Nat.one_ne_zero, if_false, show (2 : Nat) ≠ 0 by decide, show (2 : Nat) ≠ 1 by decide]
          rw [b1]
          split <;> omega
        · show Value.int .i64 _ = _
          congr 1
          simp only [if_true, Nat.one_ne_zero, if_false, show (2 : Nat) ≠ 0 by decide, show (2 : Nat) ≠ 1 by decide]
          split <;> omega
        · show 2 - (intOf (Value.int .i64 (IntKind.i64.wrap (1 + 1)))).toNat < _
          decide
      | 2, _ =>
        refine condF ?_
        rw [sq_x, bk_x, bk_n, sq_n, tree_deep_R4_eq]
        unfold tree_deep_R4_F
        have q14 : ∀ v, (up ρ3 36 v) 14 = .int .i64 n := fun v => q.h14
        rw [q14, BK_add, wrap_i (n := (n : Int) + 1) (by omega) (by omega)]
        refine ⟨⟨n + 1, hlt, ⟨rfl, q.h13, q.h12, q.h0, ?_, ?_, q.m⟩⟩, ?_⟩
        · rw [List.take_add_one, hx, Option.toList_some, St.blocksL'_snoc]
          exact q.h2
        · rw [List.take_add_one, hx, Option.toList_some, St.exprDL_snoc, x1]
          refine q.h3.trans ?_
          congr 1
          simp only [show (2 : Nat) ≠ 0 by decide, show (2 : Nat) ≠ 1 by decide, if_false]
          omega
        · show l.length - (intOf (Value.int .i64 ((n : Int) + 1))).toNat < _
          simp only [intOf]; omega
  · obtain rfl : n = l.length := by omega
    rw [show decide (((l.length : Nat) : Int) < (l.length : Int)) = false by simp]
    refine condF ?_
    rw [List.take_length] at h
    rw [sq_x, bk_x, sq_n, tree_deep_R1_eq]
    unfold tree_deep_R1_F
    have g0 : ∀ v, (up ρ 15 v) 0 = .slice A l.length c := fun v => h.h0
    have g2 : ∀ v, (up ρ 15 v) 2 = .int .i64 (St.blocksL' l) := fun v => h.h2
    rw [g0, g2]
    simp only [fo25_0, fo25_1, fo48_0, fo48_1, fo62_0, fo62_1, fo62_2, fo62_3, fo62_4, fo62_5, fo62_6, fo62_7, fo85_0, fo85_1, fo85_2, fo85_3, ld2, ld3, ld5, ld9, ld22, ld23, ld60, len9, len22, len23, len60, len111, ldK_some, cellE, blkC_c, add_pl, Nat.zero_add, List.getElem?_toArray, List.getElem?_cons_succ, List.getElem?_cons_zero, BK_gtr]
    have tb := St.blocksL'_sz l
    by_cases h0 : l.length = 0
    · rw [show decide ((0 : Int) < (l.length : Int)) = false by rw [decide_eq_false_iff_not]; omega]
      refine condF ?_
      rw [tree_deep_R5_eq]
      unfold tree_deep_R5_F
      refine ⟨?_, h.m⟩
      show Value.tuple #[ρ 2, ρ 3] = _
      rw [h.h2, h.h3, St.blocksL, if_pos h0]
      obtain rfl : l = [] := List.length_eq_zero_iff.1 h0
      rfl
    · rw [show decide ((0 : Int) < (l.length : Int)) = true by rw [decide_eq_true_eq]; omega]
      refine condT ?_
      rw [BK_add, wrap_i (n := (St.blocksL' l : Int) + 1) (by omega) (by omega), tree_deep_R5_eq]
      unfold tree_deep_R5_F
      refine ⟨?_, h.m⟩
      show Value.tuple #[.int .i64 ((St.blocksL' l : Int) + 1), ρ 3] = _
      rw [h.h3, St.blocksL, if_neg h0]
      rfl
theorem deep_all : ∀ e : St, DeepOk e.body ∧ DeepOk e.els := by
  intro e
  induction e using St.ind with
  | h e ih1 ih2 => exact ⟨deep_row ih1, deep_row ih2⟩
theorem deep_ok (l : List St) : DeepOk l := deep_row fun a _ => deep_all a
end Go.Proofs.YtpkfbaagpjdifaaGreatDoor.Tr
set_option linter.unusedVariables false
set_option linter.unusedSimpArgs false
set_option maxRecDepth 4000
namespace Go.Proofs.YtpkfbaagpjdifaaGreatDoor.Tr
open Go Go.X Go.RowKit Go.Proofs.YtpkfbaagpjdifaaGreatDoor.XF Go.Proofs.YtpkfbaagpjdifaaGreatDoor.XK
/-- A program's tree. -/
structure Pr where
  ds : Value
  decls : List De
  bs : Value
  body : List St
def Pr.cells (p : Pr) : List Value := [p.ds, p.bs]
theorem Pr.c0 (p : Pr) : p.cells[0]? = some p.ds := rfl
theorem Pr.c1 (p : Pr) : p.cells[1]? = some p.bs := rfl
structure Pr.Ok (w : World) (p : Pr) : Prop where
  d : DesOk w p.ds p.decls
  b : StsOk w p.bs p.body
theorem Pr.Ok.mod {w w' : World} {p : Pr} (h : p.Ok w) (hm : Mod none_ w w') : p.Ok w' := ⟨h.d.mod hm, h.b.mod hm⟩
def De.may (d : De) : Bool := nameP d.name && decide (0 ≤ d.places) && decide (d.places ≤ 1000)
def Pr.may (p : Pr) : Bool := decide (St.deepAt p.body 1 ≤ 32) && p.decls.all De.may && St.mayL p.body
def Pr.fits (p : Pr) : Prop := p.decls.length ≤ 1099511627776 ∧ St.szL p.body ≤ 1099511627776
theorem iPr : (Tryz.prog.info? 25).map (·.size) = some 2 := by kernel_rfl
theorem Deep_ok {w : World} {p : Pr} (h : p.Ok w) (hf : p.fits) : Rt Tryz.prog 69 #[.agg p.cells.toArray] w fun v w' => v = .int .i64 (St.deepAt p.body 1) ∧ Mod none_ w w' := by
  obtain ⟨A, c, hs, _⟩ := reads_cap h.b.1
  refine tree_Deep_calls ?_
  unfold tree_Deep_F
  refine box_k (cs := p.cells.toArray) rfl fun w1 hb1 hm1 _ => ?_
  simp only [fo25_0, fo25_1, fo48_0, fo48_1, fo62_0, fo62_1, fo62_2, fo62_3, fo62_4, fo62_5, fo62_6, fo62_7, fo85_0, fo85_1, fo85_2, fo85_3, ld2, ld3, ld5, ld9, ld22, ld23, ld60, len9, len22, len23, len60, len111, ldK_some, cellE, blkC_c, add_pl, Nat.zero_add, List.getElem?_toArray, List.getElem?_cons_succ, List.getElem?_cons_zero, hb1, Pr.c1]
  refine CK_st Tryz.func100 rfl rfl (deep_ok _ w1 _ (h.b.mod hm1) hf.2) ?_
  rintro _ w2 ⟨rfl, hm2⟩
  rw [extract_ok (v := .int .i64 (St.blocksL p.body)) rfl, extract_ok (v := .int .i64 (St.exprDL p.body)) rfl, max_i]
  refine ⟨?_, hm1.trans hm2⟩
  rw [St.deepAt_one]
  congr 1
  split <;> omega
theorem odd_call {l : List De} {w : World} (hg : Gl w) {s : Value} (h : DesOk w s l) :
    ∀ a ∈ l, ∀ w', Mod none_ w w' → ∀ K : Value → World → Prop, (∀ w'', Mod none_ w' w'' → K (.bool (!a.may)) w'') → CK Tryz.prog (.func (.func 67) #[] #[]) [.agg a.cells.toArray] w' K := by
  intro a ha w' hm K hk
  refine CK_st (R := fun v w'' => v = .bool (!a.may) ∧ Mod none_ w' w'') Tryz.func67 rfl rfl ?_ (fun v w'' hv => by rw [hv.1]; exact hk w'' hv.2)
  refine tree_May_1_calls ?_
  unfold tree_May_1_F
  refine box_k (cs := a.cells.toArray) rfl fun w1 hb1 hm1 _ => ?_
  simp only [fo25_0, fo25_1, fo48_0, fo48_1, fo62_0, fo62_1, fo62_2, fo62_3, fo62_4, fo62_5, fo62_6, fo62_7, fo85_0, fo85_1, fo85_2, fo85_3, ld2, ld3, ld5, ld9, ld22, ld23, ld60, len9, len22, len23, len60, len111, ldK_some, cellE, blkC_c, add_pl, Nat.zero_add, List.getElem?_toArray, List.getElem?_cons_succ, List.getElem?_cons_zero, hb1, De.c0]
  refine CK_st Tryz.func68 rfl rfl (Name_ok ((hg.mod hm).mod hm1) a.name (h.2 a ha).1) ?_
  rintro _ w2 ⟨rfl, hm2⟩
  have hb2 := hm2.blk hb1 id
  rw [not_ok]
  have f1 : FAt Tryz.prog w2 48 1 ⟨w'.heap.size, 0, none⟩ 3 (.int .i64 a.places) := FAt.mk' (off := 1) (by kernel_rfl) uI rfl (by rw [add_pl, cell_blk hb2]; rfl)
  refine fO f1 (fun K => BK_lss _ _ _ _ _ _) ?_
  refine fO f1 (fun K => BK_gtr _ _ _ _ _ _) ?_
  refine ⟨?_, hm1.trans hm2⟩
  congr 1
  unfold De.may
  have e1 : decide (a.places < 0) = !decide (0 ≤ a.places) := by by_cases q : 0 ≤ a.places <;> simp [q] <;> omega
  have e2 : decide ((1000 : Int) < a.places) = !decide (a.places ≤ 1000) := by by_cases q : a.places ≤ 1000 <;> simp [q] <;> omega
  rw [e1, e2]
  cases nameP a.name <;> cases decide (0 ≤ a.places) <;> cases decide (a.places ≤ 1000) <;> rfl
theorem any_not_may_de (l : List De) : (!l.any fun a => !a.may) = l.all De.may := by
  induction l with
  | nil => rfl
  | cons a r ih => simp only [List.any_cons, List.all_cons, Bool.not_or, Bool.not_not, ih]
theorem May_ok {w : World} (hg : Gl w) {p : Pr} (h : p.Ok w) (hf : p.fits) : Rt Tryz.prog 41 #[.agg p.cells.toArray] w fun v w' => v = .bool p.may ∧ Mod none_ w w' := by
  refine tree_May_calls ?_
  unfold tree_May_F
  refine box_k (cs := p.cells.toArray) rfl fun w1 hb1 hm1 _ => ?_
  refine ldB (cs := p.cells.toArray) Tryz.underlying25 rfl iPr hb1 ?_
  refine CK_st Tryz.func69 rfl rfl (Deep_ok (h.mod hm1) hf) ?_
  rintro _ w2 ⟨rfl, hm2⟩
  have hb2 := hm2.blk hb1 id
  have h2 := (h.mod hm1).mod hm2
  have hm12 := hm1.trans hm2
  rw [BK_leq, show decide ((St.deepAt p.body 1 : Int) ≤ 32) = decide (St.deepAt p.body 1 ≤ 32) by rw [decide_eq_decide]; omega]
  unfold Pr.may
  cases hd : decide (St.deepAt p.body 1 ≤ 32) with
  | false =>
    simp only [CondK_bool, MG_u, NG_u, VG_u, UG_u, PG_u, BG_u, CG_u, IG_u, MG_b, NG_b, VG_b, UG_b, PG_b, BG_b, CG_b, IG_b, PK_bool, NK_ptr, not_ok, reduceCtorEq, if_true, if_false, Bool.true_eq_false, Bool.false_eq_true, Bool.not_true, Bool.not_false]
    exact ⟨rfl, hm12⟩
  | true =>
    simp only [CondK_bool, MG_u, NG_u, VG_u, UG_u, PG_u, BG_u, CG_u, IG_u, MG_b, NG_b, VG_b, UG_b, PG_b, BG_b, CG_b, IG_b, PK_bool, NK_ptr, not_ok, reduceCtorEq, if_true, if_false, Bool.true_eq_false, Bool.false_eq_true, Bool.not_true, Bool.not_false, fo25_0, fo25_1, fo48_0, fo48_1, fo62_0, fo62_1, fo62_2, fo62_3, fo62_4, fo62_5, fo62_6, fo62_7, fo85_0, fo85_1, fo85_2, fo85_3, ld2, ld3, ld5, ld9, ld22, ld23, ld60, len9, len22, len23, len60, len111, ldK_some, cellE, blkC_c, add_pl, Nat.zero_add, List.getElem?_toArray, List.getElem?_cons_succ, List.getElem?_cons_zero, hb2, Pr.c0]
    refine CK_st Tryz.func70 rfl rfl (ContainsFuncDe_ok h2.d hf.1 (odd_call (hg.mod hm12) h2.d)) ?_
    rintro _ w3 ⟨rfl, hm3⟩
    have hb3 := hm3.blk hb2 id
    rw [not_ok, any_not_may_de]
    cases ha : p.decls.all De.may with
    | false =>
      simp only [CondK_bool, MG_u, NG_u, VG_u, UG_u, PG_u, BG_u, CG_u, IG_u, MG_b, NG_b, VG_b, UG_b, PG_b, BG_b, CG_b, IG_b, PK_bool, NK_ptr, not_ok, reduceCtorEq, if_true, if_false, Bool.true_eq_false, Bool.false_eq_true, Bool.not_true, Bool.not_false]
      exact ⟨rfl, hm12.trans hm3⟩
    | true =>
      simp only [CondK_bool, MG_u, NG_u, VG_u, UG_u, PG_u, BG_u, CG_u, IG_u, MG_b, NG_b, VG_b, UG_b, PG_b, BG_b, CG_b, IG_b, PK_bool, NK_ptr, not_ok, reduceCtorEq, if_true, if_false, Bool.true_eq_false, Bool.false_eq_true, Bool.not_true, Bool.not_false, fo25_0, fo25_1, fo48_0, fo48_1, fo62_0, fo62_1, fo62_2, fo62_3, fo62_4, fo62_5, fo62_6, fo62_7, fo85_0, fo85_1, fo85_2, fo85_3, ld2, ld3, ld5, ld9, ld22, ld23, ld60, len9, len22, len23, len60, len111, ldK_some, cellE, blkC_c, add_pl, Nat.zero_add, List.getElem?_toArray, List.getElem?_cons_succ, List.getElem?_cons_zero, hb3, Pr.c1]
      refine CK_st Tryz.func71 rfl rfl (mayStmts_ok ((hg.mod hm12).mod hm3) (h2.mod hm3).b hf.2) ?_
      rintro _ w4 ⟨rfl, hm4⟩
      refine ⟨?_, (hm12.trans hm3).trans hm4⟩
      first | rfl | trivial
/-- What the chapter asks of a statement's fields. -/
def fieldsB (e : St) : Bool :=
  (if e.op = 1 ∨ e.op = 2 ∨ e.op = 5 then nameP e.name else decide (e.name.size = 0)) &&
  (decide (e.op = 8) || (decide (e.kind = 0) && decide (e.red = 0))) && (decide (e.red = 0) || (redsP e.kind && decide (e.red ≤ 2))) &&
  decide (0 ≤ e.turns) && decide (e.turns ≤ 1000) && (decide (e.op = 5) || decide (e.turns = 0)) &&
  (decide (e.op = 3) || decide (e.els.length = 0)) && (decide (e.op = 3 ∨ e.op = 4 ∨ e.op = 5) || decide (e.body.length = 0))
theorem u8_nonneg {n : Int} (h : (Lit.int .u8 n).wf = true) : 0 ≤ n := by
  have : 0 ≤ n ∧ n ≤ 255 := by simpa [Lit.wf, IntKind.min, IntKind.max, IntKind.signed, IntKind.bits] using h
  exact this.1
theorem bne_dec (a b : Int) : (a != b) = !decide (a = b) := by rw [bne, beq_dec]
theorem lt_dec (a b : Int) : decide (a < b) = !decide (b ≤ a) := by by_cases q : b ≤ a <;> simp [q] <;> omega
theorem fields_pure (e : St) (hf : e.fine) :
    (let c1 := (((decide (e.op = 1) || decide (e.op = 2) || decide (e.op = 5)) && !nameP e.name) || (!(decide (e.op = 1) || decide (e.op = 2) || decide (e.op = 5)) && !decide (e.name.size = 0)) || (!(decide (e.op = 3) || decide (e.op = 4) || decide (e.op = 5)) && !decide (e.body.length = 0)) || (!decide (e.op = 3) && !decide (e.els.length = 0)))
     let c2 := ((!decide (e.op = 8) && (!decide (e.kind = 0) || !decide (e.red = 0))) || (decide (e.op = 8) && !decide (e.red ≤ 0) && (!redsP e.kind || !decide (e.red ≤ 2))))
     let c3 := (decide (e.turns = 0) || (decide (e.op = 5) && !decide (e.turns ≤ 0) && decide (e.turns ≤ 1000)))
     (!c1 && !c2 && c3) = fieldsB e) := by
  have hr := u8_nonneg hf.2.2.1
  have e1 : (if e.op = 1 ∨ e.op = 2 ∨ e.op = 5 then nameP e.name else decide (e.name.size = 0)) = (if (decide (e.op = 1) || decide (e.op = 2) || decide (e.op = 5)) = true then nameP e.name else decide (e.name.size = 0)) := by
    by_cases q3 : e.op = 1 <;> by_cases q4 : e.op = 2 <;> by_cases q5 : e.op = 5 <;> simp [q3, q4, q5]
  have e2 : decide (e.op = 3 ∨ e.op = 4 ∨ e.op = 5) = (decide (e.op = 3) || decide (e.op = 4) || decide (e.op = 5)) := by
    by_cases q3 : e.op = 3 <;> by_cases q4 : e.op = 4 <;> by_cases q5 : e.op = 5 <;> simp [q3, q4, q5]
  have e3 : decide (e.red = 0) = decide (e.red ≤ 0) := by rw [decide_eq_decide]; omega
  have et : (decide (0 ≤ e.turns) && decide (e.turns ≤ 1000) && (decide (e.op = 5) || decide (e.turns = 0))) = (decide (e.turns = 0) || (decide (e.op = 5) && !decide (e.turns ≤ 0) && decide (e.turns ≤ 1000))) := by
    by_cases q0 : e.turns = 0
    · rw [q0]; cases decide (e.op = 5) <;> rfl
    · rw [decide_eq_false q0]
      by_cases qn : e.turns ≤ 0
      · rw [decide_eq_true qn, show decide (0 ≤ e.turns) = false from decide_eq_false (by omega)]
        cases decide (e.op = 5) <;> rfl
      · rw [decide_eq_false qn, show decide (0 ≤ e.turns) = true from decide_eq_true (by omega)]
        cases decide (e.op = 5) <;> cases decide (e.turns ≤ 1000) <;> rfl
  have ek : redsP e.kind = true → e.kind ≠ 0 := by
    unfold redsP
    intro q
    rw [decide_eq_true_eq] at q
    omega
  dsimp only
  unfold fieldsB
  rw [Bool.and_assoc, Bool.and_assoc, Bool.and_assoc, Bool.and_assoc, Bool.and_assoc]
  have g : ∀ a b c d f g h i : Bool, (a && b && c && d && f && g && h && i) = (a && b && c && (d && f && g) && h && i) := by intro a b c d f g h i; ac_rfl
  rw [← Bool.and_assoc, ← Bool.and_assoc, ← Bool.and_assoc, ← Bool.and_assoc, ← Bool.and_assoc, g, et, e1, e2, e3]
  by_cases qk : e.kind = 0
  · have : redsP e.kind = false := by
      cases h : redsP e.kind
      · rfl
      · exact absurd qk (ek h)
    rw [this, decide_eq_true qk]
    generalize (decide (e.turns = 0) || (decide (e.op = 5) && !decide (e.turns ≤ 0) && decide (e.turns ≤ 1000))) = T
    generalize nameP e.name = N
    generalize (decide (e.op = 1) || decide (e.op = 2) || decide (e.op = 5)) = M
    generalize (decide (e.op = 3) || decide (e.op = 4) || decide (e.op = 5)) = L
    generalize decide (e.name.size = 0) = Z
    generalize decide (e.body.length = 0) = B
    generalize decide (e.els.length = 0) = E
    generalize decide (e.op = 3) = O3
    generalize decide (e.op = 8) = O8
    generalize decide (e.red ≤ 0) = R0
    generalize decide (e.red ≤ 2) = R2
    revert T N M L Z B E O3 O8 R0 R2
    decide +kernel
  · rw [decide_eq_false qk]
    generalize (decide (e.turns = 0) || (decide (e.op = 5) && !decide (e.turns ≤ 0) && decide (e.turns ≤ 1000))) = T
    generalize nameP e.name = N
    generalize (decide (e.op = 1) || decide (e.op = 2) || decide (e.op = 5)) = M
    generalize (decide (e.op = 3) || decide (e.op = 4) || decide (e.op = 5)) = L
    generalize decide (e.name.size = 0) = Z
    generalize decide (e.body.length = 0) = B
    generalize decide (e.els.length = 0) = E
    generalize decide (e.op = 3) = O3
    generalize decide (e.op = 8) = O8
    generalize decide (e.red ≤ 0) = R0
    generalize decide (e.red ≤ 2) = R2
    generalize redsP e.kind = S
    revert T N M L Z B E O3 O8 R0 R2 S
    decide +kernel
end Go.Proofs.YtpkfbaagpjdifaaGreatDoor.Tr
set_option linter.unusedVariables false
set_option linter.unusedSimpArgs false
set_option maxRecDepth 4000
namespace Go.Proofs.YtpkfbaagpjdifaaGreatDoor.Tr
open Go Go.X Go.RowKit Go.Proofs.YtpkfbaagpjdifaaGreatDoor.XF Go.Proofs.YtpkfbaagpjdifaaGreatDoor.XK
theorem len_gt (n : Nat) : decide ((0 : Int) < (n : Int)) = !decide (n = 0) := by
  by_cases q : n = 0
  · rw [decide_eq_true q, q]; rfl
  · rw [decide_eq_false q, decide_eq_true (by omega)]; rfl
theorem fields_ok {w : World} {e : St} (hok : e.Ok w) : Rt Tryz.prog 110 #[.agg e.cells.toArray] w fun v w' => v = .bool (fieldsB e) ∧ Mod none_ w w' := by
  obtain ⟨A2, c2, hs2, _⟩ := reads_cap hok.body.1
  obtain ⟨A3, c3, hs3, _⟩ := reads_cap hok.els.1
  have hp := fields_pure e hok.fine
  refine dispatcherref02_fields_calls ?_
  unfold dispatcherref02_fields_F
  refine box_k (cs := e.cells.toArray) rfl fun w1 hb1 hm1 hs1 => ?_
  have cell : ∀ (w' : World), Mod none_ w1 w' → ∀ (j : Nat) v, e.cells[j]? = some v → w'.cell? ((⟨w.heap.size, 0, none⟩ : Addr).add j) = some v := fun w' hw j v hv => by
    rw [add_pl, cell_blk (hw.blk hb1 id), Nat.zero_add]
    simpa using hv
  have d0 : ∀ {w'}, Mod none_ w1 w' → FAt Tryz.prog w' 62 0 ⟨w.heap.size, 0, none⟩ 5 (.int .u8 e.op) := fun hw => FAt.mk' (off := 0) (by kernel_rfl) uU8 rfl (cell _ hw 0 _ rfl)
  have d1 : ∀ {w'}, Mod none_ w1 w' → FAt Tryz.prog w' 62 1 ⟨w.heap.size, 0, none⟩ 5 (.int .u8 e.kind) := fun hw => FAt.mk' (off := 1) (by kernel_rfl) uU8 rfl (cell _ hw 1 _ rfl)
  have d2 : ∀ {w'}, Mod none_ w1 w' → FAt Tryz.prog w' 62 2 ⟨w.heap.size, 0, none⟩ 5 (.int .u8 e.red) := fun hw => FAt.mk' (off := 2) (by kernel_rfl) uU8 rfl (cell _ hw 2 _ rfl)
  have d3 : ∀ {w'}, Mod none_ w1 w' → FAt Tryz.prog w' 62 3 ⟨w.heap.size, 0, none⟩ 9 (.string e.name) := fun hw => FAt.mk' (off := 3) (by kernel_rfl) uS rfl (cell _ hw 3 _ rfl)
  have d4 : ∀ {w'}, Mod none_ w1 w' → FAt Tryz.prog w' 62 4 ⟨w.heap.size, 0, none⟩ 3 (.int .i64 e.turns) := fun hw => FAt.mk' (off := 4) (by kernel_rfl) uI rfl (cell _ hw 4 _ rfl)
  have d6 : ∀ {w'}, Mod none_ w1 w' → FAt Tryz.prog w' 62 6 ⟨w.heap.size, 0, none⟩ 23 (.slice A2 e.body.length c2) := fun hw => FAt.mk' (off := 6) (by kernel_rfl) uSts rfl (cell _ hw 6 _ (by rw [← hs2]; rfl))
  have d7 : ∀ {w'}, Mod none_ w1 w' → FAt Tryz.prog w' 62 7 ⟨w.heap.size, 0, none⟩ 23 (.slice A3 e.els.length c3) := fun hw => FAt.mk' (off := 7) (by kernel_rfl) uSts rfl (cell _ hw 7 _ (by rw [← hs3]; rfl))
  have r0 := Mod.refl none_ w1
  refine (d0 r0).vk ?_
  rw [BK_eql]
  refine fO (d0 r0) (fun K => BK_eql _ _ _ _ _ _) ?_
  refine fO (d0 r0) (fun K => BK_eql _ _ _ _ _ _) ?_
  refine (d0 r0).vk ?_
  rw [BK_eql]
  refine fO (d0 r0) (fun K => BK_eql _ _ _ _ _ _) ?_
  refine fO (d0 r0) (fun K => BK_eql _ _ _ _ _ _) ?_
  refine fN (d3 r0) (r := nameP e.name) (fun K hk => CK_st Tryz.func80 rfl rfl (NameR_ok w1 e.name hok.fine.2.2.2.1) (fun v w' hv => by rw [hv.1]; exact hk w' hv.2)) fun w2 m2 => ?_
  refine fB1 (d3 m2) (r := !decide (e.name.size = 0)) (fun K => by rw [BK_neqS, ByteArray.toList_eq, ByteArray.toList_eq, empty_iff]) ?_
  refine fB2 (d6 m2) uSts (r := !decide (e.body.length = 0)) (fun K => by rw [BK_gtr, len_gt]) ?_
  refine fB3 (d0 m2) (r := !decide (e.op = 3)) (fun K => by rw [BK_neq, bne_dec]) (d7 m2) uSts (r2 := !decide (e.els.length = 0)) (fun K => by rw [BK_gtr, len_gt]) ?_
  simp only [beq_dec]
  have hmm := hm1.trans m2
  dsimp only at hp
  refine caseC (fun h1 => ?_) (fun h1 => ?_)
  · rw [h1] at hp
    exact ⟨by rw [← hp]; rfl, hmm⟩
  rw [h1] at hp
  refine (d0 m2).vk ?_
  rw [BK_neq, bne_dec]
  refine fA4 (d1 m2) (r := !decide (e.kind = 0)) (fun K => by rw [BK_neq, bne_dec]) (d2 m2) (r2 := !decide (e.red = 0)) (fun K => by rw [BK_neq, bne_dec]) ?_
  refine fB4 (d0 m2) (r := decide (e.op = 8)) (fun K => by rw [BK_eql, beq_dec]) (d2 m2) (r2 := !decide (e.red ≤ 0)) (fun K => by rw [BK_gtr, lt_dec]) (d1 m2) (r3 := redsP e.kind) (fun K hk => CK_st Tryz.func115 rfl rfl (Reduces_ok e.kind w2) (fun v w' hv => by rw [hv.1, hv.2]; exact hk)) (r4 := !decide (e.red ≤ 2)) (fun K => by rw [BK_gtr, lt_dec]) ?_
  refine caseC (fun h2 => ?_) (fun h2 => ?_)
  · rw [h2] at hp
    exact ⟨by rw [← hp]; rfl, hmm⟩
  rw [h2] at hp
  refine (d4 m2).vk ?_
  rw [BK_eql, beq_dec]
  refine fB5 (d0 m2) (r := decide (e.op = 5)) (fun K => by rw [BK_eql, beq_dec]) (d4 m2) (r2 := !decide (e.turns ≤ 0)) (fun K => by rw [BK_gtr, lt_dec]) (r3 := decide (e.turns ≤ 1000)) (fun K => BK_leq _ _ _ _ _ _) ?_
  exact ⟨by rw [← hp]; rfl, hmm⟩
end Go.Proofs.YtpkfbaagpjdifaaGreatDoor.Tr
set_option linter.unusedVariables false
set_option linter.unusedSimpArgs false
set_option maxRecDepth 4000
namespace Go.Proofs.YtpkfbaagpjdifaaGreatDoor.Tr
open Go Go.X Go.RowKit Go.Proofs.YtpkfbaagpjdifaaGreatDoor.XF Go.Proofs.YtpkfbaagpjdifaaGreatDoor.XK
theorem own_eq (e : St) {lo hi : Nat} (hr : e.rng = some (lo, hi)) : e.own = (decide (lo ≤ e.exprs.length) && decide (e.exprs.length ≤ hi) && fieldsB e) := by
  unfold St.own fieldsB
  rw [hr]
  simp only [Bool.and_assoc]
theorem mayL_false {l : List St} {a : St} (h : a ∈ l) (hf : a.may = false) : St.mayL l = false := by
  rw [St.mayL_eq, Bool.eq_false_iff]
  intro q
  have := List.all_eq_true.1 q _ h
  rw [hf] at this
  cases this
def MayStR (l : List St) : Prop := ∀ w s, StsOk w s l → St.szL l ≤ 1099511627776 → Rt Tryz.prog 81 #[s] w fun v w' => v = .bool (St.mayL l) ∧ Mod none_ w w'
theorem mayStR_row {l : List St} (ih : ∀ a ∈ l, MayStR a.body ∧ MayStR a.els) : MayStR l := by
  intro w s hok hsz
  obtain ⟨A, c, hs, _⟩ := reads_cap hok.1
  subst hs
  have hlen := St.len_sz l
  refine dispatcherref02_MayStmts_calls ?_
  unfold dispatcherref02_MayStmts_F
  refine W_loop dispatcherref02_MayStmts_L0_ok (fun ρ w' => ∃ n : Nat, n ≤ l.length ∧ ρ 3 = .int .i64 n ∧ ρ 0 = .slice A l.length c ∧ (∀ a ∈ l.take n, a.may = true) ∧ Mod none_ w w') (fun ρ _ => l.length - (intOf (ρ 3)).toNat)
    ⟨0, Nat.zero_le _, rfl, rfl, by simp, Mod.refl _ _⟩ ?_
  rintro ρ w1 ⟨n, hn, h3, h0, hall, hm⟩
  rw [dispatcherref02_MayStmts_L0_eq]
  unfold dispatcherref02_MayStmts_L0_F
  simp only [h3, h0, fo25_0, fo25_1, fo48_0, fo48_1, fo62_0, fo62_1, fo62_2, fo62_3, fo62_4, fo62_5, fo62_6, fo62_7, fo85_0, fo85_1, fo85_2, fo85_3, ld2, ld3, ld5, ld9, ld22, ld23, ld60, len9, len22, len23, len60, len111, ldK_some, cellE, blkC_c, add_pl, Nat.zero_add, List.getElem?_toArray, List.getElem?_cons_succ, List.getElem?_cons_zero, BK_lss]
  by_cases hlt : n < l.length
  · rw [show decide ((n : Int) < (l.length : Int)) = true by rw [decide_eq_true_eq]; omega]
    refine condT ?_
    have hx : l[n]? = some l[n] := List.getElem?_eq_getElem hlt
    have hmem : l[n] ∈ l := List.getElem_mem hlt
    have hsn := St.szL_at hx
    have hok1 := hok.mod hm
    have he := hok1.at hx
    have hse := St.sz_eq l[n]
    refine ixSt hok1 hx fun y => ?_
    refine lcl_k (cs := l[n].cells.toArray) zSt _ iSt rfl (st_one he) fun w2 hb2 hm2 _ => ?_
    obtain ⟨A1, c1, hs1, _⟩ := reads_cap he.exprs.1
    obtain ⟨A2, c2, hs2, _⟩ := reads_cap he.body.1
    obtain ⟨A3, c3, hs3, _⟩ := reads_cap he.els.1
    simp only [fo25_0, fo25_1, fo48_0, fo48_1, fo62_0, fo62_1, fo62_2, fo62_3, fo62_4, fo62_5, fo62_6, fo62_7, fo85_0, fo85_1, fo85_2, fo85_3, ld2, ld3, ld5, ld9, ld22, ld23, ld60, len9, len22, len23, len60, len111, ldK_some, cellE, blkC_c, add_pl, Nat.zero_add, List.getElem?_toArray, List.getElem?_cons_succ, List.getElem?_cons_zero, Ex.c0, Ex.c1, Ex.c2, Ex.c3, Ex.c4, Ex.c5, St.c0, St.c1, St.c2, St.c3, St.c4, St.c5, St.c6, St.c7, St.c8, St.c9, hb2]
    have hm12 := hm.trans hm2
    have he2 := he.mod hm2
    generalize w1.heap.size = b4 at *
    -- what follows a known range
    have r2 : ∀ (ρ' : Sl) (w3 : World) (lo hi : Nat), Mod none_ w2 w3 → ρ' 0 = .slice A l.length c → ρ' 3 = .int .i64 n → ρ' 4 = .pointer (some ⟨b4, 0, none⟩) → ρ' 5 = .int .i64 lo → ρ' 6 = .int .i64 hi → l[n].rng = some (lo, hi) →
        sx fn_ Tryz.prog 83 dispatcherref02_MayStmts_R2 (blkK 1 (seqK (sx fn_ Tryz.prog 83 dispatcherref02_MayStmts_R4 (seqK (fun ρ' w' => (∃ n, n ≤ l.length ∧ ρ' 3 = Value.int .i64 n ∧ ρ' 0 = Value.slice A l.length c ∧ (∀ a ∈ l.take n, a.may = true) ∧ Mod none_ w w') ∧ l.length - (intOf (ρ' 3)).toNat < l.length - (intOf (Value.int .i64 n)).toNat) (blkK 0 (seqK (sx fn_ Tryz.prog 83 dispatcherref02_MayStmts_R1 (retK Tryz.prog [ResultVar.tmp 2] fun v w' => v = Value.bool (St.mayL l) ∧ Mod none_ w w')) (retK Tryz.prog [ResultVar.tmp 2] fun v w' => v = Value.bool (St.mayL l) ∧ Mod none_ w w'))))) (seqK (fun ρ' w' => (∃ n, n ≤ l.length ∧ ρ' 3 = Value.int .i64 n ∧ ρ' 0 = Value.slice A l.length c ∧ (∀ a ∈ l.take n, a.may = true) ∧ Mod none_ w w') ∧ l.length - (intOf (ρ' 3)).toNat < l.length - (intOf (Value.int .i64 n)).toNat) (blkK 0 (seqK (sx fn_ Tryz.prog 83 dispatcherref02_MayStmts_R1 (retK Tryz.prog [ResultVar.tmp 2] fun v w' => v = Value.bool (St.mayL l) ∧ Mod none_ w w')) (retK Tryz.prog [ResultVar.tmp 2] fun v w' => v = Value.bool (St.mayL l) ∧ Mod none_ w w')))))) ρ' w3 := by
      intro ρ' w3 lo hi hm3 q0 q3 q4 q5 q6 hr
      have hb3 := hm3.blk hb2 id
      have hmay := St.may_eq l[n]
      rw [own_eq _ hr] at hmay
      have hm13 := hm12.trans hm3
      rw [dispatcherref02_MayStmts_R2_eq]
      unfold dispatcherref02_MayStmts_R2_F
      simp only [q4, q5, q6, fo25_0, fo25_1, fo48_0, fo48_1, fo62_0, fo62_1, fo62_2, fo62_3, fo62_4, fo62_5, fo62_6, fo62_7, fo85_0, fo85_1, fo85_2, fo85_3, ld2, ld3, ld5, ld9, ld22, ld23, ld60, len9, len22, len23, len60, len111, ldK_some, cellE, blkC_c, add_pl, Nat.zero_add, List.getElem?_toArray, List.getElem?_cons_succ, List.getElem?_cons_zero, Ex.c0, Ex.c1, Ex.c2, Ex.c3, Ex.c4, Ex.c5, St.c0, St.c1, St.c2, St.c3, St.c4, St.c5, St.c6, St.c7, St.c8, St.c9, hb3, hs1, BK_lss]
      have e1 : decide ((l[n].exprs.length : Int) < (lo : Int)) = !decide (lo ≤ l[n].exprs.length) := by rw [lt_dec]; congr 1; rw [decide_eq_decide]; omega
      have e2 : decide ((hi : Int) < (l[n].exprs.length : Int)) = !decide (l[n].exprs.length ≤ hi) := by rw [lt_dec]; congr 1; rw [decide_eq_decide]; omega
      rw [e1]
      cases k1 : decide (lo ≤ l[n].exprs.length) with
      | false =>
        rw [k1] at hmay
        simp only [CondK_bool, MG_u, NG_u, VG_u, UG_u, PG_u, BG_u, CG_u, IG_u, MG_b, NG_b, VG_b, UG_b, PG_b, BG_b, CG_b, IG_b, PK_bool, NK_ptr, not_ok, reduceCtorEq, if_true, if_false, Bool.true_eq_false, Bool.false_eq_true, Bool.not_true, Bool.not_false]
        exact ⟨by rw [mayL_false hmem (hmay.trans rfl)]; rfl, hm13⟩
      | true =>
        rw [k1] at hmay
        simp only [CondK_bool, MG_u, NG_u, VG_u, UG_u, PG_u, BG_u, CG_u, IG_u, MG_b, NG_b, VG_b, UG_b, PG_b, BG_b, CG_b, IG_b, PK_bool, NK_ptr, not_ok, reduceCtorEq, if_true, if_false, Bool.true_eq_false, Bool.false_eq_true, Bool.not_true, Bool.not_false, fo25_0, fo25_1, fo48_0, fo48_1, fo62_0, fo62_1, fo62_2, fo62_3, fo62_4, fo62_5, fo62_6, fo62_7, fo85_0, fo85_1, fo85_2, fo85_3, ld2, ld3, ld5, ld9, ld22, ld23, ld60, len9, len22, len23, len60, len111, ldK_some, cellE, blkC_c, add_pl, Nat.zero_add, List.getElem?_toArray, List.getElem?_cons_succ, List.getElem?_cons_zero, Ex.c0, Ex.c1, Ex.c2, Ex.c3, Ex.c4, Ex.c5, St.c0, St.c1, St.c2, St.c3, St.c4, St.c5, St.c6, St.c7, St.c8, St.c9, hb3, hs1, BK_gtr, e2]
        cases k2 : decide (l[n].exprs.length ≤ hi) with
        | false =>
          rw [k2] at hmay
          simp only [CondK_bool, MG_u, NG_u, VG_u, UG_u, PG_u, BG_u, CG_u, IG_u, MG_b, NG_b, VG_b, UG_b, PG_b, BG_b, CG_b, IG_b, PK_bool, NK_ptr, not_ok, reduceCtorEq, if_true, if_false, Bool.true_eq_false, Bool.false_eq_true, Bool.not_true, Bool.not_false]
          exact ⟨by rw [mayL_false hmem (hmay.trans rfl)]; rfl, hm13⟩
        | true =>
          rw [k2] at hmay
          simp only [CondK_bool, MG_u, NG_u, VG_u, UG_u, PG_u, BG_u, CG_u, IG_u, MG_b, NG_b, VG_b, UG_b, PG_b, BG_b, CG_b, IG_b, PK_bool, NK_ptr, not_ok, reduceCtorEq, if_true, if_false, Bool.true_eq_false, Bool.false_eq_true, Bool.not_true, Bool.not_false]
          refine ldB (cs := l[n].cells.toArray) Tryz.underlying62 rfl iSt hb3 ?_
          refine CK_st Tryz.func110 rfl rfl (fields_ok (he2.mod hm3)) ?_
          rintro _ w4 ⟨rfl, hm4⟩
          rw [not_ok]
          have hb4 := hm4.blk hb3 id
          cases k3 : fieldsB l[n] with
          | false =>
            rw [k3] at hmay
            simp only [CondK_bool, MG_u, NG_u, VG_u, UG_u, PG_u, BG_u, CG_u, IG_u, MG_b, NG_b, VG_b, UG_b, PG_b, BG_b, CG_b, IG_b, PK_bool, NK_ptr, not_ok, reduceCtorEq, if_true, if_false, Bool.true_eq_false, Bool.false_eq_true, Bool.not_true, Bool.not_false]
            exact ⟨by rw [mayL_false hmem (hmay.trans rfl)]; rfl, hm13.trans hm4⟩
          | true =>
            rw [k3] at hmay
            simp only [CondK_bool, MG_u, NG_u, VG_u, UG_u, PG_u, BG_u, CG_u, IG_u, MG_b, NG_b, VG_b, UG_b, PG_b, BG_b, CG_b, IG_b, PK_bool, NK_ptr, not_ok, reduceCtorEq, if_true, if_false, Bool.true_eq_false, Bool.false_eq_true, Bool.not_true, Bool.not_false, fo25_0, fo25_1, fo48_0, fo48_1, fo62_0, fo62_1, fo62_2, fo62_3, fo62_4, fo62_5, fo62_6, fo62_7, fo85_0, fo85_1, fo85_2, fo85_3, ld2, ld3, ld5, ld9, ld22, ld23, ld60, len9, len22, len23, len60, len111, ldK_some, cellE, blkC_c, add_pl, Nat.zero_add, List.getElem?_toArray, List.getElem?_cons_succ, List.getElem?_cons_zero, Ex.c0, Ex.c1, Ex.c2, Ex.c3, Ex.c4, Ex.c5, St.c0, St.c1, St.c2, St.c3, St.c4, St.c5, St.c6, St.c7, St.c8, St.c9, hb4]
            refine CK_st Tryz.func81 rfl rfl ((ih _ hmem).1 w4 _ (((he2.mod hm3).mod hm4).body) (by omega)) ?_
            rintro _ w5 ⟨rfl, hm5⟩
            rw [not_ok]
            have hb5 := hm5.blk hb4 id
            cases k4 : St.mayL l[n].body with
            | false =>
              rw [k4] at hmay
              simp only [CondK_bool, MG_u, NG_u, VG_u, UG_u, PG_u, BG_u, CG_u, IG_u, MG_b, NG_b, VG_b, UG_b, PG_b, BG_b, CG_b, IG_b, PK_bool, NK_ptr, not_ok, reduceCtorEq, if_true, if_false, Bool.true_eq_false, Bool.false_eq_true, Bool.not_true, Bool.not_false]
              exact ⟨by rw [mayL_false hmem (hmay.trans (by simp))]; rfl, (hm13.trans hm4).trans hm5⟩
            | true =>
              rw [k4] at hmay
              simp only [CondK_bool, MG_u, NG_u, VG_u, UG_u, PG_u, BG_u, CG_u, IG_u, MG_b, NG_b, VG_b, UG_b, PG_b, BG_b, CG_b, IG_b, PK_bool, NK_ptr, not_ok, reduceCtorEq, if_true, if_false, Bool.true_eq_false, Bool.false_eq_true, Bool.not_true, Bool.not_false, fo25_0, fo25_1, fo48_0, fo48_1, fo62_0, fo62_1, fo62_2, fo62_3, fo62_4, fo62_5, fo62_6, fo62_7, fo85_0, fo85_1, fo85_2, fo85_3, ld2, ld3, ld5, ld9, ld22, ld23, ld60, len9, len22, len23, len60, len111, ldK_some, cellE, blkC_c, add_pl, Nat.zero_add, List.getElem?_toArray, List.getElem?_cons_succ, List.getElem?_cons_zero, Ex.c0, Ex.c1, Ex.c2, Ex.c3, Ex.c4, Ex.c5, St.c0, St.c1, St.c2, St.c3, St.c4, St.c5, St.c6, St.c7, St.c8, St.c9, hb5]
              refine CK_st Tryz.func81 rfl rfl ((ih _ hmem).2 w5 _ ((((he2.mod hm3).mod hm4).mod hm5).els) (by omega)) ?_
              rintro _ w6 ⟨rfl, hm6⟩
              rw [not_ok]
              have hb6 := hm6.blk hb5 id
              have hm26 := ((hm3.trans hm4).trans hm5).trans hm6
              have hm16 := hm12.trans hm26
              cases k5 : St.mayL l[n].els with
              | false =>
                rw [k5] at hmay
                simp only [CondK_bool, MG_u, NG_u, VG_u, UG_u, PG_u, BG_u, CG_u, IG_u, MG_b, NG_b, VG_b, UG_b, PG_b, BG_b, CG_b, IG_b, PK_bool, NK_ptr, not_ok, reduceCtorEq, if_true, if_false, Bool.true_eq_false, Bool.false_eq_true, Bool.not_true, Bool.not_false]
                exact ⟨by rw [mayL_false hmem (hmay.trans (by simp))]; rfl, hm16⟩
              | true =>
                rw [k5] at hmay
                simp only [CondK_bool, MG_u, NG_u, VG_u, UG_u, PG_u, BG_u, CG_u, IG_u, MG_b, NG_b, VG_b, UG_b, PG_b, BG_b, CG_b, IG_b, PK_bool, NK_ptr, not_ok, reduceCtorEq, if_true, if_false, Bool.true_eq_false, Bool.false_eq_true, Bool.not_true, Bool.not_false]
                refine W_loop dispatcherref02_MayStmts_L5_ok (fun ρ w' => ∃ j : Nat, j ≤ l[n].exprs.length ∧ ρ 7 = .int .i64 j ∧ ρ 0 = .slice A l.length c ∧ ρ 3 = .int .i64 n ∧ ρ 4 = .pointer (some ⟨b4, 0, none⟩) ∧ (∀ a ∈ l[n].exprs.take j, a.may = true) ∧ Mod none_ w6 w') (fun ρ _ => l[n].exprs.length - (intOf (ρ 7)).toNat)
                  ⟨0, Nat.zero_le _, rfl, q0, q3, q4, by simp, Mod.refl _ _⟩ ?_
                rintro ρ2 w7 ⟨j, hj, g7, g0, g3, g4, gall, hm7⟩
                have hb7 := hm7.blk hb6 id
                have hlenE := Ex.len_sz l[n].exprs
                rw [dispatcherref02_MayStmts_L5_eq]
                unfold dispatcherref02_MayStmts_L5_F
                simp only [g7, g4, fo25_0, fo25_1, fo48_0, fo48_1, fo62_0, fo62_1, fo62_2, fo62_3, fo62_4, fo62_5, fo62_6, fo62_7, fo85_0, fo85_1, fo85_2, fo85_3, ld2, ld3, ld5, ld9, ld22, ld23, ld60, len9, len22, len23, len60, len111, ldK_some, cellE, blkC_c, add_pl, Nat.zero_add, List.getElem?_toArray, List.getElem?_cons_succ, List.getElem?_cons_zero, Ex.c0, Ex.c1, Ex.c2, Ex.c3, Ex.c4, Ex.c5, St.c0, St.c1, St.c2, St.c3, St.c4, St.c5, St.c6, St.c7, St.c8, St.c9, hb7, hs1, BK_lss]
                by_cases hltj : j < l[n].exprs.length
                · rw [show decide ((j : Int) < (l[n].exprs.length : Int)) = true by rw [decide_eq_true_eq]; omega]
                  refine condT ?_
                  have hxj : l[n].exprs[j]? = some l[n].exprs[j] := List.getElem?_eq_getElem hltj
                  have hmemj : l[n].exprs[j] ∈ l[n].exprs := List.getElem_mem hltj
                  have hokE : ExsOk w7 (.slice A1 l[n].exprs.length c1) l[n].exprs := by rw [← hs1]; exact ((he2.mod hm26).mod hm7).exprs
                  refine ixEx hokE hxj fun y2 => ?_
                  have hsj := Ex.szL_at hxj
                  refine CK_st Tryz.func111 rfl rfl (MayExprR_ok _ w7 (hokE.at hxj) (by omega)) ?_
                  rintro _ w8 ⟨rfl, hm8⟩
                  rw [not_ok]
                  cases hp : l[n].exprs[j].may with
                  | false =>
                    refine condT ?_
                    have hE : Ex.mayL l[n].exprs = false := by
                      rw [Ex.mayL_eq, Bool.eq_false_iff]
                      intro q
                      have := List.all_eq_true.1 q _ hmemj
                      rw [hp] at this; cases this
                    rw [hE] at hmay
                    exact ⟨by rw [mayL_false hmem (hmay.trans rfl)]; rfl, (hm16.trans hm7).trans hm8⟩
                  | true =>
                    refine condF ?_
                    rw [BK_add, wrap_i (n := (j : Int) + 1) (by omega) (by omega)]
                    refine ⟨⟨j + 1, hltj, rfl, g0, g3, g4, ?_, hm7.trans hm8⟩, ?_⟩
                    · rw [List.take_add_one, hxj, Option.toList_some]
                      intro a q
                      rcases List.mem_append.1 q with q | q
                      · exact gall a q
                      · rw [List.mem_singleton.1 q]; exact hp
                    · show l[n].exprs.length - (intOf (Value.int .i64 ((j : Int) + 1))).toNat < _
                      simp only [intOf]; omega
                · obtain rfl : j = l[n].exprs.length := by omega
                  rw [show decide (((l[n].exprs.length : Nat) : Int) < (l[n].exprs.length : Int)) = false by simp]
                  refine condF ?_
                  have hE : Ex.mayL l[n].exprs = true := by
                    rw [Ex.mayL_eq, List.all_eq_true]
                    rw [List.take_length] at gall
                    exact gall
                  rw [hE] at hmay
                  rw [sq_x, bk_x, bk_n, sq_n, dispatcherref02_MayStmts_R4_eq]
                  unfold dispatcherref02_MayStmts_R4_F
                  have g3' : ∀ a b d f g : Value, (up (up (up (up (up ρ2 69 a) 70 b) 71 d) 72 f) 73 g) 3 = .int .i64 n := fun _ _ _ _ _ => g3
                  rw [g3', BK_add, wrap_i (n := (n : Int) + 1) (by omega) (by omega)]
                  refine ⟨⟨n + 1, hlt, rfl, g0, ?_, hm16.trans hm7⟩, ?_⟩
                  · rw [List.take_add_one, hx, Option.toList_some]
                    intro a q
                    rcases List.mem_append.1 q with q | q
                    · exact hall a q
                    · rw [List.mem_singleton.1 q, hmay]; rfl
                  · show l.length - (intOf (Value.int .i64 ((n : Int) + 1))).toNat < _
                    simp only [intOf]; omega
    have none_ret : l[n].rng = none → l[n].may = false := fun h => by
      rw [St.may_eq]
      unfold St.own
      rw [h]
      rfl
    have r3 : ∀ (ρ' : Sl) (t : Bool), ρ' 0 = .slice A l.length c → ρ' 3 = .int .i64 n → ρ' 4 = .pointer (some ⟨b4, 0, none⟩) → ρ' 5 = .int .i64 0 → ρ' 6 = .int .i64 0 → ρ' 19 = .int .u8 l[n].op → ρ' 20 = .bool t → t = decide (l[n].op = 1 ∨ l[n].op = 3 ∨ l[n].op = 4 ∨ l[n].op = 6) →
        sx fn_ Tryz.prog 83 dispatcherref02_MayStmts_R3 (blkK 2 (seqK (sx fn_ Tryz.prog 83 dispatcherref02_MayStmts_R2 (blkK 1 (seqK (sx fn_ Tryz.prog 83 dispatcherref02_MayStmts_R4 (seqK (fun ρ' w' => (∃ n, n ≤ l.length ∧ ρ' 3 = Value.int .i64 n ∧ ρ' 0 = Value.slice A l.length c ∧ (∀ a ∈ l.take n, a.may = true) ∧ Mod none_ w w') ∧ l.length - (intOf (ρ' 3)).toNat < l.length - (intOf (Value.int .i64 n)).toNat) (blkK 0 (seqK (sx fn_ Tryz.prog 83 dispatcherref02_MayStmts_R1 (retK Tryz.prog [ResultVar.tmp 2] fun v w' => v = Value.bool (St.mayL l) ∧ Mod none_ w w')) (retK Tryz.prog [ResultVar.tmp 2] fun v w' => v = Value.bool (St.mayL l) ∧ Mod none_ w w'))))) (seqK (fun ρ' w' => (∃ n, n ≤ l.length ∧ ρ' 3 = Value.int .i64 n ∧ ρ' 0 = Value.slice A l.length c ∧ (∀ a ∈ l.take n, a.may = true) ∧ Mod none_ w w') ∧ l.length - (intOf (ρ' 3)).toNat < l.length - (intOf (Value.int .i64 n)).toNat) (blkK 0 (seqK (sx fn_ Tryz.prog 83 dispatcherref02_MayStmts_R1 (retK Tryz.prog [ResultVar.tmp 2] fun v w' => v = Value.bool (St.mayL l) ∧ Mod none_ w w')) (retK Tryz.prog [ResultVar.tmp 2] fun v w' => v = Value.bool (St.mayL l) ∧ Mod none_ w w'))))))) (blkK 1 (seqK (sx fn_ Tryz.prog 83 dispatcherref02_MayStmts_R4 (seqK (fun ρ' w' => (∃ n, n ≤ l.length ∧ ρ' 3 = Value.int .i64 n ∧ ρ' 0 = Value.slice A l.length c ∧ (∀ a ∈ l.take n, a.may = true) ∧ Mod none_ w w') ∧ l.length - (intOf (ρ' 3)).toNat < l.length - (intOf (Value.int .i64 n)).toNat) (blkK 0 (seqK (sx fn_ Tryz.prog 83 dispatcherref02_MayStmts_R1 (retK Tryz.prog [ResultVar.tmp 2] fun v w' => v = Value.bool (St.mayL l) ∧ Mod none_ w w')) (retK Tryz.prog [ResultVar.tmp 2] fun v w' => v = Value.bool (St.mayL l) ∧ Mod none_ w w'))))) (seqK (fun ρ' w' => (∃ n, n ≤ l.length ∧ ρ' 3 = Value.int .i64 n ∧ ρ' 0 = Value.slice A l.length c ∧ (∀ a ∈ l.take n, a.may = true) ∧ Mod none_ w w') ∧ l.length - (intOf (ρ' 3)).toNat < l.length - (intOf (Value.int .i64 n)).toNat) (blkK 0 (seqK (sx fn_ Tryz.prog 83 dispatcherref02_MayStmts_R1 (retK Tryz.prog [ResultVar.tmp 2] fun v w' => v = Value.bool (St.mayL l) ∧ Mod none_ w w')) (retK Tryz.prog [ResultVar.tmp 2] fun v w' => v = Value.bool (St.mayL l) ∧ Mod none_ w w')))))))) ρ' w2 := by
      intro ρ' t q0 q3 q4 q5 q6 q19 q20 ht
      have r0 := Mod.refl none_ w2
      rw [dispatcherref02_MayStmts_R3_eq]
      unfold dispatcherref02_MayStmts_R3_F
      rw [q20, q19, q4]
      subst ht
      refine caseC (fun hp => ?_) (fun hp => ?_)
      · rw [decide_eq_true_eq] at hp
        rw [bk_n, sq_n]
        refine r2 _ w2 1 1 r0 ?_ ?_ ?_ rfl rfl (by unfold St.rng; rw [if_pos hp])
        · exact q0
        · exact q3
        · exact q4
      rw [decide_eq_false_iff_not] at hp
      refine caseI (fun h2 => condT ?_) (fun h2 => condF ?_)
      · rw [bk_n, sq_n]
        refine r2 _ w2 2 2 r0 ?_ ?_ ?_ rfl rfl (by unfold St.rng; rw [if_neg hp, if_pos h2])
        · exact q0
        · exact q3
        · exact q4
      refine caseI (fun h8 => condT ?_) (fun h8 => condF ?_)
      · simp only [fo25_0, fo25_1, fo48_0, fo48_1, fo62_0, fo62_1, fo62_2, fo62_3, fo62_4, fo62_5, fo62_6, fo62_7, fo85_0, fo85_1, fo85_2, fo85_3, ld2, ld3, ld5, ld9, ld22, ld23, ld60, len9, len22, len23, len60, len111, ldK_some, cellE, blkC_c, add_pl, Nat.zero_add, List.getElem?_toArray, List.getElem?_cons_succ, List.getElem?_cons_zero, Ex.c0, Ex.c1, Ex.c2, Ex.c3, Ex.c4, Ex.c5, St.c0, St.c1, St.c2, St.c3, St.c4, St.c5, St.c6, St.c7, St.c8, St.c9, hb2]
        refine CK_st Tryz.func109 rfl rfl (ArgsR_ok l[n].kind w2) ?_
        rintro _ w2' ⟨rfl, rfl⟩
        rw [extract_ok (v := .int .i64 (argsP l[n].kind).1) rfl, extract_ok (v := .int .i64 (argsP l[n].kind).2) rfl]
        refine caseI (fun hz => condT ?_) (fun hz => condF ?_)
        · refine ⟨?_, hm12⟩
          rw [mayL_false hmem (none_ret (by unfold St.rng; rw [if_neg hp, if_neg h2, if_neg (by omega), if_pos h8, if_pos (by omega)]))]
          rfl
        · rw [bk_n, sq_n]
          refine r2 _ w2' (argsP l[n].kind).1 (argsP l[n].kind).2 r0 ?_ ?_ ?_ rfl rfl (by unfold St.rng; rw [if_neg hp, if_neg h2, if_neg (by omega), if_pos h8, if_neg (by omega)])
          · exact q0
          · exact q3
          · exact q4
      have r6 : ∀ (ρ2 : Sl) (t : Bool), ρ2 0 = .slice A l.length c → ρ2 3 = .int .i64 n → ρ2 4 = .pointer (some ⟨b4, 0, none⟩) → ρ2 5 = .int .i64 0 → ρ2 6 = .int .i64 0 → ρ2 37 = .bool t → t = decide (l[n].op = 5 ∨ l[n].op = 7) →
          sx fn_ Tryz.prog 83 dispatcherref02_MayStmts_R6 (blkK 2 (seqK (sx fn_ Tryz.prog 83 dispatcherref02_MayStmts_R2 (blkK 1 (seqK (sx fn_ Tryz.prog 83 dispatcherref02_MayStmts_R4 (seqK (fun ρ' w' => (∃ n, n ≤ l.length ∧ ρ' 3 = Value.int .i64 n ∧ ρ' 0 = Value.slice A l.length c ∧ (∀ a ∈ l.take n, a.may = true) ∧ Mod none_ w w') ∧ l.length - (intOf (ρ' 3)).toNat < l.length - (intOf (Value.int .i64 n)).toNat) (blkK 0 (seqK (sx fn_ Tryz.prog 83 dispatcherref02_MayStmts_R1 (retK Tryz.prog [ResultVar.tmp 2] fun v w' => v = Value.bool (St.mayL l) ∧ Mod none_ w w')) (retK Tryz.prog [ResultVar.tmp 2] fun v w' => v = Value.bool (St.mayL l) ∧ Mod none_ w w'))))) (seqK (fun ρ' w' => (∃ n, n ≤ l.length ∧ ρ' 3 = Value.int .i64 n ∧ ρ' 0 = Value.slice A l.length c ∧ (∀ a ∈ l.take n, a.may = true) ∧ Mod none_ w w') ∧ l.length - (intOf (ρ' 3)).toNat < l.length - (intOf (Value.int .i64 n)).toNat) (blkK 0 (seqK (sx fn_ Tryz.prog 83 dispatcherref02_MayStmts_R1 (retK Tryz.prog [ResultVar.tmp 2] fun v w' => v = Value.bool (St.mayL l) ∧ Mod none_ w w')) (retK Tryz.prog [ResultVar.tmp 2] fun v w' => v = Value.bool (St.mayL l) ∧ Mod none_ w w'))))))) (blkK 1 (seqK (sx fn_ Tryz.prog 83 dispatcherref02_MayStmts_R4 (seqK (fun ρ' w' => (∃ n, n ≤ l.length ∧ ρ' 3 = Value.int .i64 n ∧ ρ' 0 = Value.slice A l.length c ∧ (∀ a ∈ l.take n, a.may = true) ∧ Mod none_ w w') ∧ l.length - (intOf (ρ' 3)).toNat < l.length - (intOf (Value.int .i64 n)).toNat) (blkK 0 (seqK (sx fn_ Tryz.prog 83 dispatcherref02_MayStmts_R1 (retK Tryz.prog [ResultVar.tmp 2] fun v w' => v = Value.bool (St.mayL l) ∧ Mod none_ w w')) (retK Tryz.prog [ResultVar.tmp 2] fun v w' => v = Value.bool (St.mayL l) ∧ Mod none_ w w'))))) (seqK (fun ρ' w' => (∃ n, n ≤ l.length ∧ ρ' 3 = Value.int .i64 n ∧ ρ' 0 = Value.slice A l.length c ∧ (∀ a ∈ l.take n, a.may = true) ∧ Mod none_ w w') ∧ l.length - (intOf (ρ' 3)).toNat < l.length - (intOf (Value.int .i64 n)).toNat) (blkK 0 (seqK (sx fn_ Tryz.prog 83 dispatcherref02_MayStmts_R1 (retK Tryz.prog [ResultVar.tmp 2] fun v w' => v = Value.bool (St.mayL l) ∧ Mod none_ w w')) (retK Tryz.prog [ResultVar.tmp 2] fun v w' => v = Value.bool (St.mayL l) ∧ Mod none_ w w')))))))) ρ2 w2 := by
        intro ρ2 t p0 p3 p4 p5 p6 p37 ht2
        rw [dispatcherref02_MayStmts_R6_eq]
        unfold dispatcherref02_MayStmts_R6_F
        rw [p37]
        subst ht2
        refine caseC (fun h5 => ?_) (fun h5 => ?_)
        · rw [decide_eq_true_eq] at h5
          rw [bk_n, sq_n]
          exact r2 _ w2 0 0 r0 p0 p3 p4 p5 p6 (by unfold St.rng; rw [if_neg hp, if_neg h2, if_pos h5])
        · rw [decide_eq_false_iff_not] at h5
          refine ⟨?_, hm12⟩
          rw [mayL_false hmem (none_ret (by unfold St.rng; rw [if_neg hp, if_neg h2, if_neg h5, if_neg h8]))]
          rfl
      refine caseI (fun h5 => condT ?_) (fun h5 => condF ?_)
      · refine r6 _ true ?_ ?_ ?_ ?_ ?_ rfl (by rw [decide_eq_true (Or.inl h5)])
        · exact q0
        · exact q3
        · exact q4
        · exact q5
        · exact q6
      · rw [BK_eql]
        refine r6 _ (l[n].op == 7) ?_ ?_ ?_ ?_ ?_ rfl ?_
        · exact q0
        · exact q3
        · exact q4
        · exact q5
        · exact q6
        · rw [beq_dec]
          by_cases q : l[n].op = 7
          · rw [decide_eq_true q, decide_eq_true (Or.inr q)]
          · rw [decide_eq_false q, decide_eq_false (by omega)]
    have z0 : ∀ (ρ' : Sl), ρ' 0 = ρ 0 → ρ' 0 = .slice A l.length c := fun ρ' q => q.trans h0
    have z3 : ∀ (ρ' : Sl), ρ' 3 = ρ 3 → ρ' 3 = .int .i64 n := fun ρ' q => q.trans h3
    refine caseI (fun h1 => condT ?_) (fun h1 => condF ?_)
    · exact r3 _ true h0 h3 rfl rfl rfl rfl rfl (by rw [decide_eq_true (Or.inl h1)])
    refine caseI (fun h1' => condT ?_) (fun h1' => condF ?_)
    · exact r3 _ true h0 h3 rfl rfl rfl rfl rfl (by rw [decide_eq_true (Or.inr (Or.inl h1'))])
    refine caseI (fun h4 => condT ?_) (fun h4 => condF ?_)
    · exact r3 _ true h0 h3 rfl rfl rfl rfl rfl (by rw [decide_eq_true (Or.inr (Or.inr (Or.inl h4)))])
    rw [BK_eql]
    refine r3 _ (l[n].op == 6) ?_ ?_ ?_ ?_ ?_ ?_ ?_ ?_
    · exact h0
    · exact h3
    · rfl
    · rfl
    · rfl
    · rfl
    · rfl
    · rw [beq_dec]
      by_cases q : l[n].op = 6
      · rw [decide_eq_true q, decide_eq_true (Or.inr (Or.inr (Or.inr q)))]
      · rw [decide_eq_false q, decide_eq_false (by omega)]
  · obtain rfl : n = l.length := by omega
    rw [show decide (((l.length : Nat) : Int) < (l.length : Int)) = false by simp]
    refine condF ?_
    rw [sq_x, bk_x, sq_n, dispatcherref02_MayStmts_R1_eq]
    unfold dispatcherref02_MayStmts_R1_F
    refine ⟨?_, hm⟩
    rw [List.take_length] at hall
    show Value.bool true = _
    rw [St.mayL_eq, List.all_eq_true.2 hall]
theorem mayStR_all : ∀ e : St, MayStR e.body ∧ MayStR e.els := by
  intro e
  induction e using St.ind with
  | h e ih1 ih2 => exact ⟨mayStR_row ih1, mayStR_row ih2⟩
theorem MayStmtsR_ok (l : List St) : MayStR l := mayStR_row fun a _ => mayStR_all a
end Go.Proofs.YtpkfbaagpjdifaaGreatDoor.Tr
set_option linter.unusedVariables false
set_option linter.unusedSimpArgs false
set_option maxRecDepth 4000
namespace Go.Proofs.YtpkfbaagpjdifaaGreatDoor.Tr
open Go Go.X Go.RowKit Go.Proofs.YtpkfbaagpjdifaaGreatDoor.XF Go.Proofs.YtpkfbaagpjdifaaGreatDoor.XK
theorem QixSt {C : World → Prop} {s : Value} {l : List St} {i : Nat} {e : St} {K : Value → Prop} {w0 : World} (hw0 : C w0) (h : ∀ w, C w → StsOk w s l) (hi : l[i]? = some e) (hk : ∀ a, (∀ w, C w → ∀ j u, e.cells[j]? = some u → w.cell? (a.add j) = some u) → K (.pointer (some a))) :
    QK Tryz.prog C (do pure (Next.value (← Instr.indexAt 23 s (.int .i64 (i : Int))))) K := by
  have hlt : i < l.length := (List.getElem?_eq_some_iff.1 hi).1
  obtain ⟨hl, A, c, hs, hc, hr⟩ := (h w0 hw0).1
  obtain ⟨a, ha | q⟩ := rd_cell (size := 10) (hs ▸ (h w0 hw0).1) hlt
  · subst ha
    subst hs
    refine QV_of (fun w _ => run_ixa uSts cSt (by omega) (by omega) w) (hk _ fun w hw j u hu => ?_)
    obtain ⟨_, A', c', hs', _, hr'⟩ := (h w hw).1
    cases hs'
    have hj : j < 9 + 1 := (List.getElem?_eq_some_iff.1 hu).1
    obtain ⟨a', ha', hcell⟩ := hr' (i * 10 + j) u (by rw [fl_get (k := 9 + 1) St.cells_len hi hj]; exact hu)
    cases ha'
    rw [add_add, show ((i : Int).toNat) = i by omega]
    exact hcell
  · omega
theorem Qmax4 {P : Program} {C : World → Prop} {K : Value → Prop} {ts : Array TypeId} {ty : TypeId} {cs : Array Bool} {a b c d : Nat} (hk : K (.int .i64 (max (max (max a b) c) d : Nat))) : QK P C (builtin .max ts ty cs [Value.int .i64 a, Value.int .i64 b, Value.int .i64 c, Value.int .i64 d].toArray) K := by
  refine ⟨_, fun w _ => ?_, hk⟩
  have m2 : ∀ (x y : Nat) (w : World), (Builtin.max2 (Value.int .i64 x) (Value.int .i64 y)).run P w = .ok (.int .i64 (max x y : Nat)) w := by
    intro x y w
    have h1 : (if (y : Int) > x then (y : Int) else x) = (max x y : Nat) := by split <;> omega
    simp only [Builtin.max2, Sem.run_pure, h1]
  have e : (Builtin.max_ ts ty #[Value.int .i64 a, Value.int .i64 b, Value.int .i64 c, Value.int .i64 d]).run P w = .ok (.int .i64 (max (max (max a b) c) d : Nat)) w := by
    simp [Builtin.max_, m2]
  have : (builtin .max ts ty cs [Value.int .i64 a, Value.int .i64 b, Value.int .i64 c, Value.int .i64 d].toArray).run P w = .ok (.value (.int .i64 (max (max (max a b) c) d : Nat))) w := by
    simp only [builtin]
    rw [Sem.run_bind, e]
    rfl
  rw [this]
  exact ⟨rfl, rfl⟩
def DeepR (l : List St) : Prop := ∀ w s (at_ : Nat), StsOk w s l → St.szL l ≤ 1099511627776 → at_ + St.szL l ≤ 1099511627800 → Rt Tryz.prog 95 #[s, .int .i64 at_] w fun v w' => v = .int .i64 (St.deepAt l at_) ∧ Mod none_ w w'
theorem deepR_row {l : List St} (ih : ∀ a ∈ l, DeepR a.body ∧ DeepR a.els) : DeepR l := by
  intro w s at_ hok hsz' hsz
  obtain ⟨A, c, hs, _⟩ := reads_cap hok.1
  subst hs
  have hlen := St.len_sz l
  refine dispatcherref02_DeepStmts_calls ?_
  unfold dispatcherref02_DeepStmts_F
  refine W_loop dispatcherref02_DeepStmts_L0_ok (fun ρ w' => ∃ n : Nat, n ≤ l.length ∧ ρ 6 = .int .i64 n ∧ ρ 0 = .slice A l.length c ∧ ρ 1 = .int .i64 at_ ∧ ρ 5 = .int .i64 (St.deepAt (l.take n) at_) ∧ Mod none_ w w') (fun ρ _ => l.length - (intOf (ρ 6)).toNat)
    ⟨0, Nat.zero_le _, rfl, rfl, rfl, rfl, Mod.refl _ _⟩ ?_
  rintro ρ w1 ⟨n, hn, h6, h0, h1, h5, hm⟩
  rw [dispatcherref02_DeepStmts_L0_eq]
  unfold dispatcherref02_DeepStmts_L0_F
  simp only [h6, h0, fo25_0, fo25_1, fo48_0, fo48_1, fo62_0, fo62_1, fo62_2, fo62_3, fo62_4, fo62_5, fo62_6, fo62_7, fo85_0, fo85_1, fo85_2, fo85_3, ld2, ld3, ld5, ld9, ld22, ld23, ld60, len9, len22, len23, len60, len111, ldK_some, cellE, blkC_c, add_pl, Nat.zero_add, List.getElem?_toArray, List.getElem?_cons_succ, List.getElem?_cons_zero, BK_lss]
  by_cases hlt : n < l.length
  · rw [show decide ((n : Int) < (l.length : Int)) = true by rw [decide_eq_true_eq]; omega]
    refine condT ?_
    have hx : l[n]? = some l[n] := List.getElem?_eq_getElem hlt
    have hmem : l[n] ∈ l := List.getElem_mem hlt
    have hsn := St.szL_at hx
    have hok1 := hok.mod hm
    have hse := St.sz_eq l[n]
    have hokC : ∀ w', Mod none_ w1 w' → StsOk w' (.slice A l.length c) l := fun w' hw => hok1.mod hw
    refine dispatcherref02_DeepStmts_R2_quiet (D := []) (fun w' => Mod none_ w1 w') ((Mod.refl _ w1).drawn _) ?_
    unfold dispatcherref02_DeepStmts_R2_Q
    have e0 : ∀ a b d f : Value, (up (up (up (up ρ 8 a) 9 b) 10 d) 11 f) 0 = .slice A l.length c := fun _ _ _ _ => h0
    have e1 : ∀ a b d f : Value, (up (up (up (up ρ 8 a) 9 b) 10 d) 11 f) 1 = .int .i64 at_ := fun _ _ _ _ => h1
    have e5 : ∀ a b d f : Value, (up (up (up (up ρ 8 a) 9 b) 10 d) 11 f) 5 = .int .i64 (St.deepAt (l.take n) at_) := fun _ _ _ _ => h5
    have e6 : ∀ a b d f : Value, (up (up (up (up ρ 8 a) 9 b) 10 d) 11 f) 6 = .int .i64 n := fun _ _ _ _ => h6
    simp only [e0, e1, e5, e6]
    have tB := St.deepAt_le l[n].body (at_ + 1)
    have tL := St.deepAt_le l[n].els (at_ + 1)
    have tN := St.deepAt_le (l.take n) at_
    refine QixSt (w0 := w1) (Mod.refl _ w1) hokC hx fun a ha => ?_
    refine Qfo (off := 6) (by kernel_rfl) (Qld uSts rfl (v := l[n].bs) (fun w' hw => ha w' hw 6 _ rfl) (Qadd ?_))
    rw [wrap_i (n := (at_ : Int) + 1) (by omega) (by omega)]
    refine QC_rt Tryz.func95 rfl rfl (v := .int .i64 (St.deepAt l[n].body (at_ + 1))) (fun w' hw => (ih _ hmem).1 w' _ (at_ + 1) ((hokC w' hw).at hx).body (by omega) (by omega)) (fun w' u w'' hw hu => ⟨hu.1, hw.trans hu.2⟩) ?_
    refine QixSt (w0 := w1) (Mod.refl _ w1) hokC hx fun a2 ha2 => ?_
    refine Qfo (off := 7) (by kernel_rfl) (Qld uSts rfl (v := l[n].ls) (fun w' hw => ha2 w' hw 7 _ rfl) (Qadd ?_))
    rw [wrap_i (n := (at_ : Int) + 1) (by omega) (by omega)]
    refine QC_rt Tryz.func95 rfl rfl (v := .int .i64 (St.deepAt l[n].els (at_ + 1))) (fun w' hw => (ih _ hmem).2 w' _ (at_ + 1) ((hokC w' hw).at hx).els (by omega) (by omega)) (fun w' u w'' hw hu => ⟨hu.1, hw.trans hu.2⟩) (Qmax4 ?_)
    intro w2 hm2
    have go : ∀ (ρ' : Sl), ρ' 0 = .slice A l.length c → ρ' 1 = .int .i64 at_ → ρ' 6 = .int .i64 n → ρ' 5 = .int .i64 (max (max (max (St.deepAt (l.take n) at_) at_) (St.deepAt l[n].body (at_ + 1))) (St.deepAt l[n].els (at_ + 1)) : Nat) →
        sx fn_ Tryz.prog 55 dispatcherref02_DeepStmts_R3 (blkK 1 (seqK (sx fn_ Tryz.prog 55 dispatcherref02_DeepStmts_R4 (seqK (fun ρ' w' => (∃ n, n ≤ l.length ∧ ρ' 6 = Value.int .i64 n ∧ ρ' 0 = Value.slice A l.length c ∧ ρ' 1 = Value.int .i64 at_ ∧ ρ' 5 = Value.int .i64 (St.deepAt (l.take n) at_) ∧ Mod none_ w w') ∧ l.length - (intOf (ρ' 6)).toNat < l.length - (intOf (Value.int .i64 n)).toNat) (blkK 0 (seqK (sx fn_ Tryz.prog 55 dispatcherref02_DeepStmts_R1 (retK Tryz.prog [ResultVar.tmp 4] fun v w' => v = Value.int .i64 (St.deepAt l at_) ∧ Mod none_ w w')) (retK Tryz.prog [ResultVar.tmp 4] fun v w' => v = Value.int .i64 (St.deepAt l at_) ∧ Mod none_ w w'))))) (seqK (fun ρ' w' => (∃ n, n ≤ l.length ∧ ρ' 6 = Value.int .i64 n ∧ ρ' 0 = Value.slice A l.length c ∧ ρ' 1 = Value.int .i64 at_ ∧ ρ' 5 = Value.int .i64 (St.deepAt (l.take n) at_) ∧ Mod none_ w w') ∧ l.length - (intOf (ρ' 6)).toNat < l.length - (intOf (Value.int .i64 n)).toNat) (blkK 0 (seqK (sx fn_ Tryz.prog 55 dispatcherref02_DeepStmts_R1 (retK Tryz.prog [ResultVar.tmp 4] fun v w' => v = Value.int .i64 (St.deepAt l at_) ∧ Mod none_ w w')) (retK Tryz.prog [ResultVar.tmp 4] fun v w' => v = Value.int .i64 (St.deepAt l at_) ∧ Mod none_ w w')))))) ρ' w2 := by
      intro ρ' q0 q1 q6 q5
      rw [dispatcherref02_DeepStmts_R3_eq]
      unfold dispatcherref02_DeepStmts_R3_F
      refine W_loop dispatcherref02_DeepStmts_L5_ok (fun ρ w' => ∃ j : Nat, j ≤ l[n].exprs.length ∧ ρ 7 = .int .i64 j ∧ ρ 0 = .slice A l.length c ∧ ρ 1 = .int .i64 at_ ∧ ρ 6 = .int .i64 n ∧ ρ 5 = .int .i64 (max (max (max (max (St.deepAt (l.take n) at_) at_) (St.deepAt l[n].body (at_ + 1))) (St.deepAt l[n].els (at_ + 1))) (Ex.deepL (l[n].exprs.take j)) : Nat) ∧ Mod none_ w2 w') (fun ρ _ => l[n].exprs.length - (intOf (ρ 7)).toNat)
        ⟨0, Nat.zero_le _, rfl, q0, q1, q6, q5.trans (by simp [Ex.deepL]), Mod.refl _ _⟩ ?_
      rintro ρ2 w3 ⟨j, hj, g7, g0, g1, g6, g5, hm3⟩
      have hok3 := (hokC w2 hm2).mod hm3
      have he := hok3.at hx
      obtain ⟨A1, c1, hs1, _⟩ := reads_cap he.exprs.1
      have hlenE := Ex.len_sz l[n].exprs
      rw [dispatcherref02_DeepStmts_L5_eq]
      unfold dispatcherref02_DeepStmts_L5_F
      rw [g7, g0, g6, g5]
      refine ixStA hok3 hx fun a ha => ?_
      have c5 := ha 5 _ rfl
      rw [hs1] at c5
      simp only [fo25_0, fo25_1, fo48_0, fo48_1, fo62_0, fo62_1, fo62_2, fo62_3, fo62_4, fo62_5, fo62_6, fo62_7, fo85_0, fo85_1, fo85_2, fo85_3, ld2, ld3, ld5, ld9, ld22, ld23, ld60, len9, len22, len23, len60, len111, ldK_some, cellE, blkC_c, add_pl, Nat.zero_add, List.getElem?_toArray, List.getElem?_cons_succ, List.getElem?_cons_zero, c5, BK_lss]
      by_cases hltj : j < l[n].exprs.length
      · rw [show decide ((j : Int) < (l[n].exprs.length : Int)) = true by rw [decide_eq_true_eq]; omega]
        refine condT ?_
        refine ixStA hok3 hx fun a3 ha3 => ?_
        have c53 := ha3 5 _ rfl
        rw [hs1] at c53
        simp only [fo25_0, fo25_1, fo48_0, fo48_1, fo62_0, fo62_1, fo62_2, fo62_3, fo62_4, fo62_5, fo62_6, fo62_7, fo85_0, fo85_1, fo85_2, fo85_3, ld2, ld3, ld5, ld9, ld22, ld23, ld60, len9, len22, len23, len60, len111, ldK_some, cellE, blkC_c, add_pl, Nat.zero_add, List.getElem?_toArray, List.getElem?_cons_succ, List.getElem?_cons_zero, c53]
        have hxj : l[n].exprs[j]? = some l[n].exprs[j] := List.getElem?_eq_getElem hltj
        have hokE : ExsOk w3 (.slice A1 l[n].exprs.length c1) l[n].exprs := by rw [← hs1]; exact he.exprs
        refine ixEx hokE hxj fun y2 => ?_
        have hsj := Ex.szL_at hxj
        refine CK_st Tryz.func117 rfl rfl (DeepExpr_ok _ w3 (hokE.at hxj) (by omega)) ?_
        rintro _ w4 ⟨rfl, hm4⟩
        rw [max_i, BK_add, wrap_i (n := (j : Int) + 1) (by omega) (by omega)]
        refine ⟨⟨j + 1, hltj, rfl, g0, g1, g6, ?_, hm3.trans hm4⟩, ?_⟩
        · show Value.int .i64 _ = _
          rw [List.take_add_one, hxj, Option.toList_some, Ex.deepL_snoc]
          congr 1
          generalize max (max (max (St.deepAt (l.take n) at_) at_) (St.deepAt l[n].body (at_ + 1))) (St.deepAt l[n].els (at_ + 1)) = M
          split <;> omega
        · show l[n].exprs.length - (intOf (Value.int .i64 ((j : Int) + 1))).toNat < _
          simp only [intOf]; omega
      · obtain rfl : j = l[n].exprs.length := by omega
        rw [show decide (((l[n].exprs.length : Nat) : Int) < (l[n].exprs.length : Int)) = false by simp]
        refine condF ?_
        rw [sq_x, bk_x, bk_n, sq_n, dispatcherref02_DeepStmts_R4_eq]
        unfold dispatcherref02_DeepStmts_R4_F
        rw [List.take_length] at g5
        have g6' : ∀ a b d f g h i k : Value, (up (up (up (up (up (up (up (up ρ2 33 a) 34 b) 35 d) 36 f) 37 g) 38 h) 39 i) 40 k) 6 = .int .i64 n := fun _ _ _ _ _ _ _ _ => g6
        rw [g6', BK_add, wrap_i (n := (n : Int) + 1) (by omega) (by omega)]
        refine ⟨⟨n + 1, hlt, rfl, g0, g1, ?_, (hm.trans hm2).trans hm3⟩, ?_⟩
        · refine g5.trans ?_
          rw [List.take_add_one, hx, Option.toList_some, St.deepAt_snoc]
          congr 2
          omega
        · show l.length - (intOf (Value.int .i64 ((n : Int) + 1))).toNat < _
          simp only [intOf]; omega
    refine go _ ?_ ?_ ?_ ?_
    · exact h0
    · exact h1
    · exact h6
    · rfl
  · obtain rfl : n = l.length := by omega
    rw [show decide (((l.length : Nat) : Int) < (l.length : Int)) = false by simp]
    refine condF ?_
    rw [sq_x, bk_x, sq_n, dispatcherref02_DeepStmts_R1_eq]
    unfold dispatcherref02_DeepStmts_R1_F
    rw [List.take_length] at h5
    exact ⟨h5, hm⟩
theorem deepR_all : ∀ e : St, DeepR e.body ∧ DeepR e.els := by
  intro e
  induction e using St.ind with
  | h e ih1 ih2 => exact ⟨deepR_row ih1, deepR_row ih2⟩
theorem DeepStmts_ok (l : List St) : DeepR l := deepR_row fun a _ => deepR_all a
theorem DeepR_ok {w : World} {p : Pr} (h : p.Ok w) (hf : p.fits) : Rt Tryz.prog 66 #[.agg p.cells.toArray] w fun v w' => v = .int .i64 (St.deepAt p.body 1) ∧ Mod none_ w w' := by
  refine dispatcherref02_Deep_calls ?_
  unfold dispatcherref02_Deep_F
  refine box_k (cs := p.cells.toArray) rfl fun w1 hb1 hm1 _ => ?_
  simp only [fo25_0, fo25_1, fo48_0, fo48_1, fo62_0, fo62_1, fo62_2, fo62_3, fo62_4, fo62_5, fo62_6, fo62_7, fo85_0, fo85_1, fo85_2, fo85_3, ld2, ld3, ld5, ld9, ld22, ld23, ld60, len9, len22, len23, len60, len111, ldK_some, cellE, blkC_c, add_pl, Nat.zero_add, List.getElem?_toArray, List.getElem?_cons_succ, List.getElem?_cons_zero, hb1, Pr.c1]
  refine CK_st Tryz.func95 rfl rfl (DeepStmts_ok _ w1 _ 1 (h.b.mod hm1) hf.2 (by have := hf.2; omega)) ?_
  rintro _ w2 ⟨rfl, hm2⟩
  exact ⟨rfl, hm1.trans hm2⟩
theorem MayR_ok {w : World} {p : Pr} (h : p.Ok w) (hf : p.fits) : Rt Tryz.prog 47 #[.agg p.cells.toArray] w fun v w' => v = .bool p.may ∧ Mod none_ w w' := by
  obtain ⟨A, c, hs, _⟩ := reads_cap h.d.1
  have hlen := hf.1
  refine dispatcherref02_May_calls ?_
  unfold dispatcherref02_May_F
  refine box_k (cs := p.cells.toArray) rfl fun w1 hb1 hm1 _ => ?_
  refine W_loop dispatcherref02_May_L0_ok (fun ρ w' => ∃ n : Nat, n ≤ p.decls.length ∧ ρ 3 = .int .i64 n ∧ ρ 1 = .pointer (some ⟨w.heap.size, 0, none⟩) ∧ (∀ a ∈ p.decls.take n, De.may a = true) ∧ Mod none_ w1 w') (fun ρ _ => p.decls.length - (intOf (ρ 3)).toNat)
    ⟨0, Nat.zero_le _, rfl, rfl, by simp, Mod.refl _ _⟩ ?_
  rintro ρ w2 ⟨n, hn, h3, h1, hall, hm2⟩
  have hb2 := hm2.blk hb1 id
  have hm12 := hm1.trans hm2
  rw [dispatcherref02_May_L0_eq]
  unfold dispatcherref02_May_L0_F
  simp only [h3, h1, fo25_0, fo25_1, fo48_0, fo48_1, fo62_0, fo62_1, fo62_2, fo62_3, fo62_4, fo62_5, fo62_6, fo62_7, fo85_0, fo85_1, fo85_2, fo85_3, ld2, ld3, ld5, ld9, ld22, ld23, ld60, len9, len22, len23, len60, len111, ldK_some, cellE, blkC_c, add_pl, Nat.zero_add, List.getElem?_toArray, List.getElem?_cons_succ, List.getElem?_cons_zero, hb2, Pr.c0, hs, BK_lss]
  by_cases hlt : n < p.decls.length
  · rw [show decide ((n : Int) < (p.decls.length : Int)) = true by rw [decide_eq_true_eq]; omega]
    refine condT ?_
    have hx : p.decls[n]? = some p.decls[n] := List.getElem?_eq_getElem hlt
    have hmem : p.decls[n] ∈ p.decls := List.getElem_mem hlt
    have hok2 := h.d.mod hm12
    rw [hs] at hok2
    refine ixDe hok2 hx fun y => ?_
    refine lcl_k (cs := p.decls[n].cells.toArray) zDe _ iDe rfl (de_one _) fun w3 hb3 hm3 _ => ?_
    simp only [fo25_0, fo25_1, fo48_0, fo48_1, fo62_0, fo62_1, fo62_2, fo62_3, fo62_4, fo62_5, fo62_6, fo62_7, fo85_0, fo85_1, fo85_2, fo85_3, ld2, ld3, ld5, ld9, ld22, ld23, ld60, len9, len22, len23, len60, len111, ldK_some, cellE, blkC_c, add_pl, Nat.zero_add, List.getElem?_toArray, List.getElem?_cons_succ, List.getElem?_cons_zero, hb3, De.c0]
    refine CK_st Tryz.func80 rfl rfl (NameR_ok w3 p.decls[n].name (hok2.2 _ hmem).1) ?_
    rintro _ w4 ⟨rfl, hm4⟩
    have hb4 := hm4.blk hb3 id
    rw [not_ok]
    have f1 : FAt Tryz.prog w4 48 1 ⟨w2.heap.size, 0, none⟩ 3 (.int .i64 p.decls[n].places) := FAt.mk' (off := 1) (by kernel_rfl) uI rfl (by rw [add_pl, cell_blk hb4]; rfl)
    refine fO' f1 (fun K => BK_lss _ _ _ _ _ _) fun x22 x23 x24 => ?_
    refine fO' f1 (fun K => BK_gtr _ _ _ _ _ _) fun x27 x28 x29 => ?_
    have hmay : (!nameP p.decls[n].name || decide (p.decls[n].places < 0) || decide ((1000 : Int) < p.decls[n].places)) = !De.may p.decls[n] := by
      unfold De.may
      rw [lt_dec, lt_dec]
      cases nameP p.decls[n].name <;> cases decide (0 ≤ p.decls[n].places) <;> cases decide (p.decls[n].places ≤ 1000) <;> rfl
    rw [hmay]
    have hm14 := (hm12.trans hm3).trans hm4
    cases hp : De.may p.decls[n] with
    | false =>
      refine condT ?_
      refine ⟨?_, hm14⟩
      have : p.decls.all De.may = false := by
        rw [Bool.eq_false_iff]
        intro q
        have := List.all_eq_true.1 q _ hmem
        rw [hp] at this; cases this
      show Value.bool false = _
      unfold Pr.may
      rw [this]
      simp
    | true =>
      refine condF ?_
      rw [BK_add, wrap_i (n := (n : Int) + 1) (by omega) (by omega)]
      refine ⟨⟨n + 1, hlt, rfl, h1, ?_, (hm2.trans hm3).trans hm4⟩, ?_⟩
      · rw [List.take_add_one, hx, Option.toList_some]
        intro a q
        rcases List.mem_append.1 q with q | q
        · exact hall a q
        · rw [List.mem_singleton.1 q]; exact hp
      · show p.decls.length - (intOf (Value.int .i64 ((n : Int) + 1))).toNat < _
        simp only [intOf]; omega
  · obtain rfl : n = p.decls.length := by omega
    rw [show decide (((p.decls.length : Nat) : Int) < (p.decls.length : Int)) = false by simp]
    refine condF ?_
    have hall' : p.decls.all De.may = true := by
      rw [List.take_length] at hall
      exact List.all_eq_true.2 hall
    rw [sq_x, bk_x, sq_n, dispatcherref02_May_R1_eq]
    unfold dispatcherref02_May_R1_F
    have g1 : ∀ a b d f g : Value, (up (up (up (up (up ρ 5 a) 6 b) 7 d) 8 f) 9 g) 1 = .pointer (some ⟨w.heap.size, 0, none⟩) := fun _ _ _ _ _ => h1
    rw [g1]
    refine ldB (cs := p.cells.toArray) Tryz.underlying25 rfl iPr hb2 ?_
    refine CK_st Tryz.func66 rfl rfl (DeepR_ok (h.mod hm12) hf) ?_
    rintro _ w3 ⟨rfl, hm3⟩
    have hb3 := hm3.blk hb2 id
    rw [BK_leq, show decide ((St.deepAt p.body 1 : Int) ≤ 32) = decide (St.deepAt p.body 1 ≤ 32) by rw [decide_eq_decide]; omega]
    have hmay : p.may = (decide (St.deepAt p.body 1 ≤ 32) && St.mayL p.body) := by
      unfold Pr.may
      rw [hall', Bool.and_true]
    cases hd : decide (St.deepAt p.body 1 ≤ 32) with
    | false =>
      rw [hd] at hmay
      simp only [CondK_bool, MG_u, NG_u, VG_u, UG_u, PG_u, BG_u, CG_u, IG_u, MG_b, NG_b, VG_b, UG_b, PG_b, BG_b, CG_b, IG_b, PK_bool, NK_ptr, not_ok, reduceCtorEq, if_true, if_false, Bool.true_eq_false, Bool.false_eq_true, Bool.not_true, Bool.not_false]
      exact ⟨by rw [hmay]; rfl, hm12.trans hm3⟩
    | true =>
      rw [hd] at hmay
      simp only [CondK_bool, MG_u, NG_u, VG_u, UG_u, PG_u, BG_u, CG_u, IG_u, MG_b, NG_b, VG_b, UG_b, PG_b, BG_b, CG_b, IG_b, PK_bool, NK_ptr, not_ok, reduceCtorEq, if_true, if_false, Bool.true_eq_false, Bool.false_eq_true, Bool.not_true, Bool.not_false, fo25_0, fo25_1, fo48_0, fo48_1, fo62_0, fo62_1, fo62_2, fo62_3, fo62_4, fo62_5, fo62_6, fo62_7, fo85_0, fo85_1, fo85_2, fo85_3, ld2, ld3, ld5, ld9, ld22, ld23, ld60, len9, len22, len23, len60, len111, ldK_some, cellE, blkC_c, add_pl, Nat.zero_add, List.getElem?_toArray, List.getElem?_cons_succ, List.getElem?_cons_zero, hb3, Pr.c1]
      refine CK_st Tryz.func81 rfl rfl (MayStmtsR_ok _ w3 _ ((h.mod hm12).mod hm3).b hf.2) ?_
      rintro _ w4 ⟨rfl, hm4⟩
      exact ⟨by rw [hmay]; rfl, (hm12.trans hm3).trans hm4⟩
end Go.Proofs.YtpkfbaagpjdifaaGreatDoor.Tr
set_option linter.unusedVariables false
set_option linter.unusedSimpArgs false
namespace Go.X
open Go Go.RowKit
structure Ent (κ : Type) where
  k : κ
  v : Value
  b : Nat
section
variable {κ : Type} [DecidableEq κ]
def Ent.enc (enc : κ → Value) (e : Ent κ) : MapEntry := { key := enc e.k, val := e.v, born := e.b }
/-- The first entry of a key, and its place. -/
def findE (k : κ) : List (Ent κ) → Nat → Option (Nat × Value)
  | [], _ => none
  | e :: r, i => if k = e.k then some (i, e.v) else findE k r (i + 1)
/-- What a key type must be for its maps to be read so. -/
structure KeyT (P : Program) (kt : TypeId) (enc : κ → Value) : Prop where
  find : ∀ (k : κ) (l : List (Ent κ)) (w : World), (Instr.findKey kt (enc k) (l.map (Ent.enc enc))).run P w = .ok (findE k l 0) w
  check : ∀ (e : Bool) (k : κ) (w : World), (Instr.checkKey e 10000 kt (enc k)).run P w = .ok () w
  bits : ∀ k : κ, Instr.sameBits 10000 (enc k) (enc k) = true
  inj : ∀ a b : κ, enc a = enc b → a = b
variable {P : Program} {kt : TypeId} {enc : κ → Value}
/-- A map's block. -/
def IsMap (enc : κ → Value) (w : World) (b : Nat) (l : List (Ent κ)) (clock : Nat) : Prop := w.heap[b]? = some (.map (l.map (Ent.enc enc)).toArray clock)
omit [DecidableEq κ] in
theorem IsMap.mod {S : Nat → Prop} {w w' : World} {b : Nat} {l : List (Ent κ)} {c : Nat} (h : IsMap enc w b l c) (hm : Mod S w w') (hS : ¬ S b) : IsMap enc w' b l c := hm.blk h hS
variable (T : KeyT P kt enc) {t e : TypeId} (ht : P.underlying t = some (.map kt e))
include T ht
theorem run_look {w : World} {b : Nat} {l : List (Ent κ)} {c : Nat} (h : IsMap enc w b l c) {z : Value} (hz : (P.info? e).bind (·.zero) = some z) (k : κ) (ok : Bool) :
    (Instr.lookup t (.map (some b)) (enc k) ok).run P w = .ok (match findE k l 0 with | some (_, v) => if ok then .tuple #[v, .bool true] else v | none => if ok then .tuple #[z, .bool false] else z) w := by
  obtain ⟨i, hi, hzz⟩ := Option.bind_eq_some_iff.1 hz
  have hg : (getObj b).run P w = .ok (.map (l.map (Ent.enc enc)).toArray c) w := MapKept.run_getObj_map h
  unfold Instr.lookup
  simp only [Sem.run_bind, run_underlying ht, Result.andThen_ok, hg, Sem.run_pure, T.check, List.toList_toArray, T.find]
  cases findE k l 0 with
  | none => simp [zeroValue, typeInfo, hi, hzz, Sem.run_bind]
  | some p => simp
theorem run_update {w : World} {b : Nat} {l : List (Ent κ)} {c : Nat} (h : IsMap enc w b l c) (k : κ) (v : Value) :
    (Instr.mapUpdate t (.map (some b)) (enc k) v).run P w = .ok () (match findE k l 0 with
      | some (i, _) => setB w b (.map ((l.map (Ent.enc enc)).toArray.modify i fun e => { e with key := enc k, val := v }) c)
      | none => setB w b (.map ((l.map (Ent.enc enc)).toArray.push { key := enc k, val := v, born := c }) (c + 1))) := by
  have hg : (getObj b).run P w = .ok (.map (l.map (Ent.enc enc)).toArray c) w := MapKept.run_getObj_map h
  have hs : ∀ o, (setObj b o).run P w = .ok () (setB w b o) := fun o => MapKept.run_setObj_map o h
  unfold Instr.mapUpdate
  simp only [Sem.run_bind, run_underlying ht, Result.andThen_ok, hg, Sem.run_pure, T.check, List.toList_toArray, T.find]
  cases hf : findE k l 0 with
  | none => simp only [hs]
  | some p =>
    obtain ⟨i, u⟩ := p
    have hk : ∃ e, l[i]? = some e ∧ e.k = k := by
      have gen : ∀ (l : List (Ent κ)) (n : Nat), findE k l n = some (i, u) → ∃ e, n ≤ i ∧ l[i - n]? = some e ∧ e.k = k := by
        intro l
        induction l with
        | nil => intro n h; simp [findE] at h
        | cons e r ih =>
          intro n h
          unfold findE at h
          split at h
          · rename_i hk
            cases h
            exact ⟨e, Nat.le_refl _, by simp, hk.symm⟩
          · obtain ⟨e', h1, h2, h3⟩ := ih (n + 1) h
            refine ⟨e', by omega, ?_, h3⟩
            rw [show i - n = (i - (n + 1)) + 1 by omega]
            simpa using h2
      obtain ⟨e, _, h2, h3⟩ := gen l 0 hf
      exact ⟨e, by simpa using h2, h3⟩
    obtain ⟨e0, he0, rfl⟩ := hk
    have : (l.map (Ent.enc enc)).toArray[i]? = some (e0.enc enc) := by simp [he0]
    simp only [this, Option.map_some, Option.getD_some, Ent.enc, Instr.keyThatStays, T.bits, if_true, Sem.run_bind, Sem.run_pure, Result.andThen_ok, hs]
omit [DecidableEq κ] T ht in
theorem modify_ents (l : List (Ent κ)) (i : Nat) (f : MapEntry → MapEntry) (g : Ent κ → Ent κ) (h : ∀ e, l[i]? = some e → f (e.enc enc) = (g e).enc enc) : (l.map (Ent.enc enc)).toArray.modify i f = ((l.modify i g).map (Ent.enc enc)).toArray := by
  apply Array.ext_getElem?
  intro j
  rw [Array.getElem?_modify]
  simp only [List.getElem?_toArray, List.getElem?_map, List.getElem?_modify]
  by_cases e : i = j
  · subst e
    simp only [if_true]
    cases hl : l[i]? with
    | none => rfl
    | some x => simp [h x hl]
  · simp [e]
omit T ht in
theorem findE_at {k : κ} {l : List (Ent κ)} {i : Nat} {u : Value} (h : findE k l 0 = some (i, u)) : ∃ e, l[i]? = some e ∧ e.k = k ∧ e.v = u := by
  have gen : ∀ (l : List (Ent κ)) (n : Nat), findE k l n = some (i, u) → ∃ e, n ≤ i ∧ l[i - n]? = some e ∧ e.k = k ∧ e.v = u := by
    intro l
    induction l with
    | nil => intro n h; simp [findE] at h
    | cons e r ih =>
      intro n h
      unfold findE at h
      split at h
      · rename_i hk
        cases h
        exact ⟨e, Nat.le_refl _, by simp, hk.symm, rfl⟩
      · obtain ⟨e', h1, h2, h3⟩ := ih (n + 1) h
        refine ⟨e', by omega, ?_, h3⟩
        rw [show i - n = (i - (n + 1)) + 1 by omega]
        simpa using h2
  obtain ⟨e, _, h2, h3⟩ := gen l 0 h
  exact ⟨e, by simpa using h2, h3⟩
omit T ht in
/-- The entries behind a store. -/
def putE (k : κ) (v : Value) (c : Nat) (l : List (Ent κ)) : List (Ent κ) :=
  match findE k l 0 with
  | some (i, _) => l.modify i fun e => ⟨e.k, v, e.b⟩
  | none => l ++ [⟨k, v, c⟩]
def clkE (k : κ) (c : Nat) (l : List (Ent κ)) : Nat := if (findE k l 0).isSome then c else c + 1
theorem run_put {w : World} {b : Nat} {l : List (Ent κ)} {c : Nat} (h : IsMap enc w b l c) (k : κ) (v : Value) :
    ∃ w', (Instr.mapUpdate t (.map (some b)) (enc k) v).run P w = .ok () w' ∧ IsMap enc w' b (putE k v c l) (clkE k c l) ∧ Mod (fun i => i = b) w w' := by
  have hr := run_update T ht h k v
  unfold putE clkE
  cases hf : findE k l 0 with
  | none =>
    rw [hf] at hr
    refine ⟨_, hr, ?_, (Mod.refl _ w).set _ (fun _ => rfl)⟩
    unfold IsMap
    rw [setB_new _ _ _ (X.blk_lt h)]
    simp [Ent.enc]
  | some p =>
    obtain ⟨i, u⟩ := p
    rw [hf] at hr
    refine ⟨_, hr, ?_, (Mod.refl _ w).set _ (fun _ => rfl)⟩
    unfold IsMap
    obtain ⟨e0, he0, hk0, _⟩ := findE_at hf
    rw [setB_new _ _ _ (X.blk_lt h), modify_ents l i _ (fun e => ⟨e.k, v, e.b⟩) (fun e he => by rw [he0] at he; cases he; rw [← hk0]; rfl)]
    rfl
omit [DecidableEq κ] T ht in
omit [DecidableEq κ] T ht in
theorem make_ok (t : TypeId) {w : World} {K : Value → World → Prop} (hk : ∀ w', IsMap enc w' w.heap.size [] 0 → Mod none_ w w' → w'.heap.size = w.heap.size + 1 → K (.map (some w.heap.size)) w') : VK P (Instr.makeMap t none) w K := by
  have hr : (Instr.makeMap t none).run P w = .ok (.map (some w.heap.size)) (w.alloc (.map #[] 0)) := by
    simp [Instr.makeMap, Sem.run_bind]
  exact VK_of hr (new_k w _ hk)
end
end Go.X
set_option linter.unusedVariables false
set_option linter.unusedSimpArgs false
namespace Go.X
open Go
inductive Pl where
  | done
  | take (i : Nat) (r : Pl)
  | only (i : Nat) (r : Pl)
  | two (i j : Nat) (a b : Pl)
def Pl.len : Pl → Nat
  | .done => 0
  | .take _ r => r.len + 1
  | .only _ r => r.len + 1
  | .two _ _ a _ => a.len + 1
def sxp (P : Program) (S : World → Prop) (ops : Array Oper) (K : Sl → World → Prop) : Pl → Sl → World → Prop
  | .done, ρ, w => K ρ w
  | .take i r, ρ, w => match ops[i]? with | none => False | some o => sxt1 P S ops o (fun ρ => sxp P S ops K r ρ w) ρ
  | .only i r, ρ, w => match ops[i]? with | none => False | some o => sx1 P ops o (fun ρ w => S w ∧ sxp P S ops K r ρ w) ρ w
  | .two i j a b, ρ, w => (match ops[i]? with | none => False | some o => sx1 P ops o (fun ρ w => S w ∧ sxp P S ops K a ρ w) ρ w) ∧ (match ops[j]? with | none => False | some o => sx1 P ops o (fun ρ w => S w ∧ sxp P S ops K b ρ w) ρ w)
def opOk (P : Program) (n : Nat) (ops : Array Oper) (i : Nat) : Bool := match ops[i]? with | none => false | some o => oOk n o && noRound P o.op
def Pl.ok (P : Program) (n : Nat) (ops : Array Oper) : Pl → Array Bool → Bool
  | .done, listed => (Region.ready .any ops listed).isEmpty
  | .take i r, listed => (match ops[i]? with | none => false | some o => oOk n o && (Region.free .any ops listed i && (Region.ready .any ops listed).contains i)) && Pl.ok P n ops r (listed.setIfInBounds i true)
  | .only i r, listed => opOk P n ops i && (Region.ready .any ops listed == [i]) && Pl.ok P n ops r (listed.setIfInBounds i true)
  | .two i j a b, listed => opOk P n ops i && opOk P n ops j && (Region.ready .any ops listed == [i, j]) && (a.len == b.len) && Pl.ok P n ops a (listed.setIfInBounds i true) && Pl.ok P n ops b (listed.setIfInBounds j true)
theorem opOk_some {P : Program} {n : Nat} {ops : Array Oper} {i : Nat} (h : opOk P n ops i = true) : ∃ o, ops[i]? = some o ∧ oOk n o = true ∧ noRound P o.op = true := by
  unfold opOk at h
  cases ho : ops[i]? with
  | none => rw [ho] at h; cases h
  | some o =>
    rw [ho] at h
    simp only [Bool.and_eq_true] at h
    exact ⟨o, rfl, h.1, h.2⟩
theorem sxp_held {P : Program} {n : Nat} {D : List Deferred} {S : World → Prop} {ops : Array Oper} {K : Sl → World → Prop} {Q : Exit → Act → World → Prop} (hQ : ∀ a ρ w, Lk ⟨none, D⟩ n a ρ → K ρ w → Q .normal a w)
    (hp : ∀ c a w, ¬ Q (.panic c) a w) (hs : Region.noSelect ops = true) : ∀ (l : Pl) (listed : Array Bool) a ρ w,
    l.ok P n ops listed = true → Lk ⟨none, D⟩ n a ρ → S w → sxp P S ops K l ρ w → wpAnyH P .any ops Q S l.len listed a w
  | .done, listed, a, ρ, w, hpl, hl, hS, h => ⟨List.isEmpty_iff.1 hpl, hQ a ρ w hl h⟩
  | .take i r, listed, a, ρ, w, hpl, hl, hS, h => by
    unfold Pl.ok at hpl
    unfold sxp at h
    cases ho : ops[i]? with
    | none => rw [ho] at h; exact h.elim
    | some o =>
      rw [ho] at h hpl
      dsimp only at h hpl
      simp only [Bool.and_eq_true] at hpl
      obtain ⟨⟨h1, h2, h3⟩, h4⟩ := hpl
      obtain ⟨v, hy, ρ', hl', hN⟩ := sxt1_yields (oOk_dst h1) hl h
      exact wpAnyH_take ho hs h2 h3 (fun c a w q => absurd q (hp _ _ _)) hy hS (sxp_held hQ hp hs r _ _ ρ' w h4 hl' hS hN)
  | .only i r, listed, a, ρ, w, hpl, hl, hS, h => by
    unfold Pl.ok at hpl
    unfold sxp at h
    simp only [Bool.and_eq_true, beq_iff_eq] at hpl
    obtain ⟨⟨h1, h3⟩, h4⟩ := hpl
    obtain ⟨o, ho, g1, g2⟩ := opOk_some h1
    rw [ho] at h
    dsimp only at h
    refine wpAnyH_all h3 (by simp) fun j hj => ?_
    obtain rfl : j = i := by simpa using hj
    unfold wpOp
    rw [ho]
    exact sx1_wp0 (n := n) g2 (oOk_dst g1) hl h (fun a ρ w hl hq => ⟨hq.1, sxp_held hQ hp hs r _ a ρ w h4 hl hq.1 hq.2⟩)
  | .two i j a b, listed, ac, ρ, w, hpl, hl, hS, h => by
    unfold Pl.ok at hpl
    unfold sxp at h
    simp only [Bool.and_eq_true, beq_iff_eq] at hpl
    obtain ⟨⟨⟨⟨⟨h1, h2⟩, h3⟩, h4⟩, h5⟩, h6⟩ := hpl
    obtain ⟨o, ho, g1, g1'⟩ := opOk_some h1
    obtain ⟨o', ho', g2, g2'⟩ := opOk_some h2
    rw [ho, ho'] at h
    dsimp only at h
    refine wpAnyH_all h3 (by simp) fun k hk => ?_
    rcases List.mem_cons.1 hk with rfl | hk
    · unfold wpOp
      rw [ho]
      exact sx1_wp0 (n := n) g1' (oOk_dst g1) hl h.1 (fun a' ρ w hl hq => ⟨hq.1, sxp_held hQ hp hs a _ a' ρ w h5 hl hq.1 hq.2⟩)
    · obtain rfl : k = j := by simpa using hk
      unfold wpOp
      rw [ho']
      have h4' : a.len = b.len := by simpa using h4
      rw [h4']
      exact sx1_wp0 (n := n) g2' (oOk_dst g2) hl h.2 (fun a' ρ w hl hq => ⟨hq.1, sxp_held hQ hp hs b _ a' ρ w h6 hl hq.1 hq.2⟩)
theorem W_plan {P : Program} {n : Nat} {D : List Deferred} {id : Nat} {ops : Array Oper} {K : Exit → Sl → World → Prop} {ρ : Sl} {w : World} (S : World → Prop) (plan : Pl) (hlen : plan.len = ops.size)
    (hs : Region.noSelect ops = true) (hpl : plan.ok P n ops (Array.replicate ops.size false) = true) (hm : P.follows .mixedOrders = true) (hS : S { w with drawn := w.drawn + 1 })
    (h : sxp P S ops (K .normal) plan ρ { w with drawn := w.drawn + 1 }) : W ⟨none, D⟩ P n (.region id ops true) K ρ w := by
  intro a hl
  refine wpIn_wide.2 (Code.wp_mono ?_ (wp_region_held (S := S) (Q := fun e a w => e = .normal ∧ ∃ ρ, Lk ⟨none, D⟩ n a ρ ∧ K .normal ρ w) hm ?_))
  · rintro e a w ⟨rfl, ρ, hl, hk⟩
    exact ⟨ρ, hl, hk⟩
  · have := sxp_held (Q := fun e a w => e = .normal ∧ ∃ ρ, Lk ⟨none, D⟩ n a ρ ∧ K .normal ρ w) (fun a ρ w hl hk => ⟨rfl, ρ, hl, hk⟩) (fun c a w q => by cases q.1) hs plan _ a ρ _ hpl hl hS h
    rw [hlen] at this
    exact this
end Go.X
