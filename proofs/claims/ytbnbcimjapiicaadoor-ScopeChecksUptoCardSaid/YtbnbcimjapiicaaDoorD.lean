/- Names. -/
import Derived.Test.YtbnbcimjapiicaaDoorC
set_option linter.unusedVariables false
set_option linter.unusedSimpArgs false
set_option maxRecDepth 4000
namespace Go.Proofs.YtbnbcimjapiicaaDoor.Tr
open Go Go.X Go.RowKit Go.Proofs.YtbnbcimjapiicaaDoor.XF Go.Proofs.YtbnbcimjapiicaaDoor.XK

theorem all_iff (s : ByteArray) (p : UInt8 → Bool) : s.data.toList.all p = true ↔ ∀ (i : Nat) (h : i < s.size), p (s[i]'h) = true := by
  rw [List.all_eq_true]
  constructor
  · intro h i hi
    exact h _ (Array.getElem_mem_toList (by exact hi))
  · intro h x hx
    obtain ⟨i, hi, rfl⟩ := List.mem_iff_getElem.1 hx
    have := h i (by simpa using hi)
    rw [Array.getElem_toList]
    exact this
theorem alnum_nat (c : UInt8) : ((decide (97 ≤ (c.toNat : Int)) && decide ((c.toNat : Int) ≤ 122)) || (decide (48 ≤ (c.toNat : Int)) && decide ((c.toNat : Int) ≤ 57))) = alnumP c := by
  unfold alnumP letterP digitP
  have e : ∀ a : Nat, decide (((a : Nat) : Int) ≤ (c.toNat : Int)) = decide (a ≤ c.toNat) := fun a => by simp
  have e' : ∀ a : Nat, decide ((c.toNat : Int) ≤ ((a : Nat) : Int)) = decide (c.toNat ≤ a) := fun a => by simp
  rw [← e 97, ← e' 122, ← e 48, ← e' 57]
  rfl
theorem letter_nat (c : UInt8) : (decide (97 ≤ (c.toNat : Int)) && decide ((c.toNat : Int) ≤ 122)) = letterP c := by
  unfold letterP
  have e : ∀ a : Nat, decide (((a : Nat) : Int) ≤ (c.toNat : Int)) = decide (a ≤ c.toNat) := fun a => by simp
  have e' : ∀ a : Nat, decide ((c.toNat : Int) ≤ ((a : Nat) : Int)) = decide (c.toNat ≤ a) := fun a => by simp
  rw [← e 97, ← e' 122]
  rfl
theorem digit_nat (c : UInt8) : (decide (48 ≤ (c.toNat : Int)) && decide ((c.toNat : Int) ≤ 57)) = digitP c := by
  unfold digitP
  have e : ∀ a : Nat, decide (((a : Nat) : Int) ≤ (c.toNat : Int)) = decide (a ≤ c.toNat) := fun a => by simp
  have e' : ∀ a : Nat, decide ((c.toNat : Int) ≤ ((a : Nat) : Int)) = decide (c.toNat ≤ a) := fun a => by simp
  rw [← e 48, ← e' 57]
  rfl
theorem length_ok (s : ByteArray) (hs : s.size ≤ maxLen) (w : World) : Rt Tryd.prog 67 #[.string s, .func (.func 68) #[] #[]] w fun v w' => (∃ r : Nat, v = .int .i64 r ∧ (r = s.size ↔ s.data.toList.all alnumP = true)) ∧ Mod none_ w w' := by
  have hit : ∀ p, Mod none_ w (w.iter s p) := fun p => (Mod.refl none_ w).alloc _
  refine scan_length_calls ?_
  unfold scan_length_F
  refine VK_of (run_range_string w _ s uS) ?_
  refine W_loop scan_length_L0_ok (fun ρ w' => ∃ n : Nat, n ≤ s.size ∧ ρ 8 = .pointer (some ⟨w.heap.size, 0, none⟩) ∧ ρ 0 = .string s ∧ ρ 1 = .func (.func 68) #[] #[] ∧ w' = w.iter s n ∧ ∀ (j : Nat) (h : j < s.size), j < n → alnumP (s[j]'h) = true) (fun _ w' => s.size - w'.iterPos w.heap.size)
    ⟨0, Nat.zero_le _, rfl, rfl, rfl, rfl, fun j h q => by omega⟩ ?_
  rintro ρ w1 ⟨n, hn, h8, h0, h1, rfl, hall⟩
  rw [scan_length_L0_eq]
  unfold scan_length_L0_F
  simp only [h8, h1]
  by_cases hlt : n < s.size
  · refine VK_of (run_next_any w s n _ hlt) ?_
    rw [extract_ok (v := .bool true) rfl]
    simp only [CondK_bool, MG_u, NG_u, VG_u, UG_u, PG_u, BG_u, CG_u, IG_u, MG_b, NG_b, VG_b, UG_b, PG_b, BG_b, CG_b, IG_b, PK_bool, NK_ptr, not_ok, reduceCtorEq, if_true, if_false, Bool.true_eq_false, Bool.false_eq_true, Bool.not_true, Bool.not_false]
    rw [extract_ok (v := .int .i64 n) rfl, extract_ok (v := .int .i32 (Utf8.decode s n).1) rfl]
    refine CK_st Tryd.func68 rfl rfl (named_ok _ _) ?_
    rintro _ w2 ⟨rfl, rfl⟩
    by_cases ha : (s[n]'hlt).toNat < 128
    · rw [decide_eq_true hlt |> fun _ => decode_ascii s n hlt ha, alnum_nat]
      cases hb : alnumP (s[n]'hlt) with
      | true =>
        simp only [CondK_bool, MG_u, NG_u, VG_u, UG_u, PG_u, BG_u, CG_u, IG_u, MG_b, NG_b, VG_b, UG_b, PG_b, BG_b, CG_b, IG_b, PK_bool, NK_ptr, not_ok, reduceCtorEq, if_true, if_false, Bool.true_eq_false, Bool.false_eq_true, Bool.not_true, Bool.not_false]
        refine ⟨⟨n + 1, hlt, h8, h0, h1, rfl, fun j h q => ?_⟩, ?_⟩
        · by_cases e : j = n
          · subst e; exact hb
          · exact hall j h (by omega)
        · simp only [World.iterPos_iter]; omega
      | false =>
        simp only [CondK_bool, MG_u, NG_u, VG_u, UG_u, PG_u, BG_u, CG_u, IG_u, MG_b, NG_b, VG_b, UG_b, PG_b, BG_b, CG_b, IG_b, PK_bool, NK_ptr, not_ok, reduceCtorEq, if_true, if_false, Bool.true_eq_false, Bool.false_eq_true, Bool.not_true, Bool.not_false, sq_n, sq_x, sq_r, bk_n, bk_r, bk_x, rt_r, rt_n, rs_0, rs_t, pk_1, pk_2, up_at, reduceIte, Nat.reduceEqDiff]
        refine ⟨⟨n, rfl, ?_⟩, hit _⟩
        constructor
        · intro q; omega
        · intro q
          have := (all_iff s _).1 q n hlt
          rw [hb] at this; cases this
    · have hd := decode_high s n hlt (by omega)
      have hno : alnumP (s[n]'hlt) = false := by
        unfold alnumP letterP digitP
        simp; omega
      rw [show (decide (97 ≤ ((Utf8.decode s n).1 : Int)) && decide (((Utf8.decode s n).1 : Int) ≤ 122) || decide (48 ≤ ((Utf8.decode s n).1 : Int)) && decide (((Utf8.decode s n).1 : Int) ≤ 57)) = false by simp; omega]
      simp only [CondK_bool, MG_u, NG_u, VG_u, UG_u, PG_u, BG_u, CG_u, IG_u, MG_b, NG_b, VG_b, UG_b, PG_b, BG_b, CG_b, IG_b, PK_bool, NK_ptr, not_ok, reduceCtorEq, if_true, if_false, Bool.true_eq_false, Bool.false_eq_true, Bool.not_true, Bool.not_false, sq_n, sq_x, sq_r, bk_n, bk_r, bk_x, rt_r, rt_n, rs_0, rs_t, pk_1, pk_2, up_at, reduceIte, Nat.reduceEqDiff]
      refine ⟨⟨n, rfl, ?_⟩, hit _⟩
      constructor
      · intro q; omega
      · intro q
        have := (all_iff s _).1 q n hlt
        rw [hno] at this; cases this
  · obtain rfl : n = s.size := by omega
    refine VK_of (run_next_end w s _ _ hlt) ?_
    rw [extract_ok (v := .bool false) rfl]
    simp only [CondK_bool, MG_u, NG_u, VG_u, UG_u, PG_u, BG_u, CG_u, IG_u, MG_b, NG_b, VG_b, UG_b, PG_b, BG_b, CG_b, IG_b, PK_bool, NK_ptr, not_ok, reduceCtorEq, if_true, if_false, Bool.true_eq_false, Bool.false_eq_true, Bool.not_true, Bool.not_false, sq_n, sq_x, sq_r, bk_n, bk_r, bk_x, rt_r, rt_n, rs_0, rs_t, pk_1, pk_2, up_at, reduceIte, Nat.reduceEqDiff]
    rw [scan_length_R1_eq]
    unfold scan_length_R1_F
    simp only [sq_n, sq_x, sq_r, bk_n, bk_r, bk_x, rt_r, rt_n, rs_0, rs_t, pk_1, pk_2, up_at, reduceIte, Nat.reduceEqDiff, h0, fo25_0, fo25_1, fo40_0, fo40_1, fo60_0, fo60_1, fo60_2, fo60_3, fo62_0, fo62_1, fo62_2, fo62_3, fo62_4, fo62_5, fo62_6, fo62_7, ld2, ld3, ld5, ld9, ld22, ld23, ld58, len9, len22, len23, len52, len58, ldK_some, cellE, blkC_c, add_pl, Nat.zero_add, List.getElem?_toArray, List.getElem?_cons_succ, List.getElem?_cons_zero]
    exact ⟨⟨_, rfl, fun _ => (all_iff s _).2 fun i h => hall i h h, fun _ => rfl⟩, hit _⟩
theorem idxS_ok (s : ByteArray) (w : World) (hs : 0 < s.size) {K : Value → World → Prop} (hk : K (.int .u8 (s[0]'hs).toNat) w) : VK Tryd.prog (Instr.index 9 (.string s) (.int .i64 0)) w K := by
  refine VK_of ?_ hk
  rw [run_index_string w _ s _ _ uS, dif_pos ⟨by omega, by omega⟩]
  rfl
theorem conv_ok (c : UInt8) (w : World) {K : Value → World → Prop} (hk : K (.int .i32 c.toNat) w) : VK Tryd.prog (convert 5 21 (.int .u8 c.toNat)) w K := by
  refine VK_of ?_ hk
  have ek : Tryd.prog.intKind 21 = .i32 := by kernel_rfl
  have := run_convert_int (P := Tryd.prog) w 5 21 .u8 c.toNat (by kernel_rfl) (by kernel_rfl)
  rw [this, ek]
  have := c.toNat_lt
  rw [show IntKind.i32.wrap (c.toNat : Int) = (c.toNat : Int) by rw [IntKind.wrap_i32]; omega]
end Go.Proofs.YtbnbcimjapiicaaDoor.Tr
