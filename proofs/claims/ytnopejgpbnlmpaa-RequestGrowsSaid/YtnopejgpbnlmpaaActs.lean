/- Acts: what the laws of requests are handed; Great, first; RequestNil. -/
import Derived.Test.YtnopejgpbnlmpaaLeft
set_option linter.unusedVariables false
set_option linter.unusedSimpArgs false
namespace Go.Proofs.Ytnopejgpbnlmpaa.Req
open Go Go.X Go.RowKit Go.Proofs.Ytnopejgpbnlmpaa.XF

structure A where
  kind : Int
  yes : Bool
  lv : Value
  l : List Int
  v : Int
  p : Int
  t : Int
def A.enc (a : A) : List Value := [.int .u8 a.kind, .bool a.yes, a.lv, .int .i64 a.v, .int .i64 a.p, .int .i64 a.t]
theorem A.enc_len (a : A) : a.enc.length = 6 := rfl
def A.ok (w : World) (a : A) : Prop := reads w 1 a.lv a.l.length (ivs a.l)
def Acts (w : World) (v : Value) (al : List A) : Prop := reads w 6 v al.length (al.flatMap A.enc) ∧ ∀ a ∈ al, a.ok w
theorem A.ok.mod {w w' : World} {a : A} (h : a.ok w) (hm : Mod none_ w w') : a.ok w' := reads_mod h hm (fun _ _ _ => id)
def great (al : List A) : Bool := decide (600 < al.length) || al.any fun a => decide (20 < a.l.length)
theorem f29_2 {w : World} {K : Value → World → Prop} (a : Addr) : VK Try.prog (Instr.fieldAt 29 (.pointer (some a)) 2) w K = K (.pointer (some (a.add 2))) w := fo (by kernel_rfl) a
theorem f29_1 {w : World} {K : Value → World → Prop} (a : Addr) : VK Try.prog (Instr.fieldAt 29 (.pointer (some a)) 1) w K = K (.pointer (some (a.add 1))) w := fo (by kernel_rfl) a
theorem f29_0 {w : World} {K : Value → World → Prop} (a : Addr) : VK Try.prog (Instr.fieldAt 29 (.pointer (some a)) 0) w K = K (.pointer (some (a.add 0))) w := fo (by kernel_rfl) a
theorem f29_3 {w : World} {K : Value → World → Prop} (a : Addr) : VK Try.prog (Instr.fieldAt 29 (.pointer (some a)) 3) w K = K (.pointer (some (a.add 3))) w := fo (by kernel_rfl) a
theorem f29_4 {w : World} {K : Value → World → Prop} (a : Addr) : VK Try.prog (Instr.fieldAt 29 (.pointer (some a)) 4) w K = K (.pointer (some (a.add 4))) w := fo (by kernel_rfl) a
theorem f29_5 {w : World} {K : Value → World → Prop} (a : Addr) : VK Try.prog (Instr.fieldAt 29 (.pointer (some a)) 5) w K = K (.pointer (some (a.add 5))) w := fo (by kernel_rfl) a
theorem c29 : Try.prog.cellsOf 29 = 5 + 1 := by kernel_rfl

theorem Great_ok {w : World} {v : Value} {al : List A} (h : Acts w v al) : Rt Try.prog 7 #[v] w fun u w' => u = .bool (great al) ∧ w' = w := by
  obtain ⟨A0, c, rfl⟩ : ∃ A0 c, v = .slice A0 al.length c := by obtain ⟨⟨_, A0, c, rfl, _⟩, _⟩ := h; exact ⟨A0, c, rfl⟩
  refine dispatcherlaw12_Great_calls ?_
  unfold dispatcherlaw12_Great_F
  rw [len_sl Try.underlying22, BK_gtr]
  by_cases h6 : 600 < al.length
  · rw [show decide ((600 : Int) < (al.length : Int)) = true by simp; omega]
    simp only [CondK_bool, MG_b, NG_b, VG_b, UG_b, PG_b, BG_b, CG_b, IG_b, PK_bool, NK_ptr, not_ok, reduceCtorEq, if_true, if_false, Bool.true_eq_false, Bool.false_eq_true, Bool.not_true, Bool.not_false, great, h6, decide_true, Bool.true_or, and_self]
  rw [show decide ((600 : Int) < (al.length : Int)) = false by simp; omega]
  simp only [CondK_bool, MG_b, NG_b, VG_b, UG_b, PG_b, BG_b, CG_b, IG_b, PK_bool, NK_ptr, not_ok, reduceCtorEq, if_true, if_false, Bool.true_eq_false, Bool.false_eq_true, Bool.not_true, Bool.not_false]
  refine W_loop dispatcherlaw12_Great_L0_ok (fun ρ w' => ∃ n : Nat, n ≤ al.length ∧ ρ 3 = .int .i64 n ∧ ρ 0 = .slice A0 al.length c ∧ w' = w ∧ (al.take n).any (fun a => decide (20 < a.l.length)) = false) (fun ρ _ => al.length - (intOf (ρ 3)).toNat)
    ⟨0, Nat.zero_le _, rfl, rfl, rfl, rfl⟩ ?_
  rintro ρ _ ⟨n, hn, h3, h0, rfl, hany⟩
  rw [dispatcherlaw12_Great_L0_eq]
  unfold dispatcherlaw12_Great_L0_F
  rw [h3, h0, len_sl Try.underlying22, BK_lss]
  by_cases hlt : n < al.length
  · rw [show decide ((n : Int) < (al.length : Int)) = true by simp; omega]
    obtain ⟨a, hx⟩ : ∃ a, al[n]? = some a := ⟨_, List.getElem?_eq_getElem hlt⟩
    simp only [CondK_bool, MG_b, NG_b, VG_b, UG_b, PG_b, BG_b, CG_b, IG_b, PK_bool, NK_ptr, not_ok, reduceCtorEq, if_true, if_false, Bool.true_eq_false, Bool.false_eq_true, Bool.not_true, Bool.not_false]
    refine ixat (sz := 5) Try.underlying22 c29 h.1 (by omega) (by omega) fun ad had _ => ?_
    rw [f29_2]
    have hd2 := had 2 a.lv (by decide) (by rw [show (n : Int).toNat = n by omega, fl_get (k := 6) A.enc_len hx (by decide)]; rfl)
    refine ld1 Try.underlying27 rfl hd2 ?_
    have hok := h.2 a (List.mem_of_getElem? hx)
    obtain ⟨A1, c1, e1⟩ : ∃ A1 c1, a.lv = .slice A1 a.l.length c1 := by obtain ⟨_, A1, c1, e, _⟩ := hok; exact ⟨A1, c1, e⟩
    rw [e1, len_sl Try.underlying27, BK_gtr]
    by_cases h20 : 20 < a.l.length
    · rw [show decide ((20 : Int) < (a.l.length : Int)) = true by simp; omega]
      simp only [CondK_bool, MG_b, NG_b, VG_b, UG_b, PG_b, BG_b, CG_b, IG_b, PK_bool, NK_ptr, not_ok, reduceCtorEq, if_true, if_false, Bool.true_eq_false, Bool.false_eq_true, Bool.not_true, Bool.not_false, sq_n, sq_x, sq_r, bk_n, bk_r, bk_x, rt_r, rt_n, rs_0, rs_t, pk_1, pk_2, up_at, reduceIte, Nat.reduceEqDiff]
      refine ⟨?_, trivial⟩
      unfold great
      rw [show al.any (fun a => decide (20 < a.l.length)) = true from List.any_eq_true.2 ⟨a, List.mem_of_getElem? hx, by simpa using h20⟩, Bool.or_true]
    · rw [show decide ((20 : Int) < (a.l.length : Int)) = false by simp; omega]
      simp only [CondK_bool, MG_b, NG_b, VG_b, UG_b, PG_b, BG_b, CG_b, IG_b, PK_bool, NK_ptr, not_ok, reduceCtorEq, if_true, if_false, Bool.true_eq_false, Bool.false_eq_true, Bool.not_true, Bool.not_false]
      rw [BK_add, wrap_i (by omega) (by omega)]
      refine ⟨⟨n + 1, hlt, rfl, h0, rfl, ?_⟩, ?_⟩
      · rw [List.take_add_one, hx, List.any_append, hany]
        simp only [Option.toList_some, List.any_cons, List.any_nil, Bool.or_false, Bool.false_or]
        simpa using h20
      · simp only [sq_n, sq_x, sq_r, bk_n, bk_r, bk_x, rt_r, rt_n, rs_0, rs_t, pk_1, pk_2, up_at, reduceIte, Nat.reduceEqDiff, intOf]; omega
  · obtain rfl : n = al.length := by omega
    rw [show decide ((al.length : Int) < (al.length : Int)) = false by simp]
    simp only [CondK_bool, MG_b, NG_b, VG_b, UG_b, PG_b, BG_b, CG_b, IG_b, PK_bool, NK_ptr, not_ok, reduceCtorEq, if_true, if_false, Bool.true_eq_false, Bool.false_eq_true, Bool.not_true, Bool.not_false, sq_n, sq_x, sq_r, bk_n, bk_r, bk_x, rt_r, rt_n, rs_0, rs_t, pk_1, pk_2, up_at, reduceIte, Nat.reduceEqDiff]
    rw [dispatcherlaw12_Great_R1_eq]
    unfold dispatcherlaw12_Great_R1_F
    simp only [sq_n, sq_x, sq_r, bk_n, bk_r, bk_x, rt_r, rt_n, rs_0, rs_t, pk_1, pk_2, up_at, reduceIte, Nat.reduceEqDiff]
    rw [List.take_length] at hany
    refine ⟨?_, trivial⟩
    unfold great
    rw [hany, decide_eq_false h6]
    rfl
end Go.Proofs.Ytnopejgpbnlmpaa.Req
