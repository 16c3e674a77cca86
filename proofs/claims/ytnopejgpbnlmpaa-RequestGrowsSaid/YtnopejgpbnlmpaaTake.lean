/- May, Take, Complete of a table that somebody made. -/
import Derived.Test.YtnopejgpbnlmpaaSmall
set_option linter.unusedVariables false
set_option linter.unusedSimpArgs false
namespace Go.Proofs.Ytnopejgpbnlmpaa.Req
open Go Go.X Go.RowKit Go.Proofs.Ytnopejgpbnlmpaa.XF

def okAt (xs : List R) (l : List Int) (n : Nat) : Bool := inR xs (l.getD n 0) && !(rAt xs (l.getD n 0)).gone && !decide (l.getD n 0 ∈ l.take n)
def lenOk (l : List Int) : Bool := decide (1 ≤ l.length) && decide (l.length ≤ 8)
def mayTo (xs : List R) (l : List Int) (n : Nat) : Bool := lenOk l && (List.range n).all (okAt xs l)
def mayOf (xs : List R) (l : List Int) : Bool := mayTo xs l l.length
theorem mayTo_succ (xs : List R) (l : List Int) (n : Nat) : mayTo xs l (n + 1) = (mayTo xs l n && okAt xs l n) := by
  unfold mayTo
  rw [List.range_succ, List.all_append, Bool.and_assoc]
  simp
theorem mayTo_le {xs : List R} {l : List Int} {n m : Nat} (h : mayTo xs l (n + m) = true) : mayTo xs l n = true := by
  induction m with
  | zero => exact h
  | succ m ih =>
    rw [← Nat.add_assoc, mayTo_succ, Bool.and_eq_true] at h
    exact ih h.1

theorem May_made {w : World} {B t : Nat} {v lv : Value} {xs : List R} {l : List Int} (h : IsTab w B t v xs) (hl : reads w 1 lv l.length (ivs l)) (hn : l.length ≤ 1000000) : Rt Try.prog 17 #[.pointer (some ⟨t, 0, none⟩), lv] w fun u w' =>
    u = .int .i64 (if mayOf xs l then 0 else 120) ∧ Mod none_ w w' := by
  obtain ⟨A, c, rfl, hAc⟩ := reads_cap hl
  refine request_Table_May_calls ?_
  unfold request_Table_May_F
  refine CK_st Try.func23 rfl rfl (none_made h) ?_
  rintro _ w ⟨rfl, rfl⟩
  simp only [CondK_bool, MG_b, NG_b, VG_b, UG_b, PG_b, BG_b, CG_b, IG_b, PK_bool, NK_ptr, not_ok, reduceCtorEq, if_true, if_false, Bool.true_eq_false, Bool.false_eq_true, Bool.not_true, Bool.not_false]
  rw [len_sl Try.underlying27, BK_lss]
  have key : ∀ ρ : Sl, ρ 5 = .bool (!lenOk l) → ρ 22 = .int .i64 0 → ρ 21 = .int .i64 l.length → ρ 20 = .slice A l.length c → ρ 0 = .pointer (some ⟨t, 0, none⟩) → ρ 1 = .slice A l.length c →
      W fn_ Try.prog 49 (Code.loop request_Table_May_L1) (blkK 0 (seqK (sx fn_ Try.prog 49 request_Table_May_R0 (retK Try.prog [ResultVar.tmp 4] fun u w' => u = .int .i64 (if mayOf xs l then 0 else 120) ∧ Mod none_ w w')) (retK Try.prog [ResultVar.tmp 4] fun u w' => u = .int .i64 (if mayOf xs l then 0 else 120) ∧ Mod none_ w w'))) ρ w := by
    intro ρ g5 g22 g21 g20 g0 g1
    refine W_loop request_Table_May_L1_ok (fun ρ w' => ∃ n : Nat, n ≤ l.length ∧ ρ 22 = .int .i64 n ∧ ρ 21 = .int .i64 l.length ∧ ρ 20 = .slice A l.length c ∧ ρ 0 = .pointer (some ⟨t, 0, none⟩) ∧ ρ 1 = .slice A l.length c ∧ ρ 5 = .bool (!mayTo xs l n) ∧ Mod none_ w w') (fun ρ _ => l.length - (intOf (ρ 22)).toNat)
      ⟨0, Nat.zero_le _, g22, g21, g20, g0, g1, by rw [g5]; unfold mayTo; simp, Mod.refl _ _⟩ ?_
    clear g5 g22 g21 g20 g0 g1 ρ
    rintro ρ w1 ⟨n, hn', h22, h21, h20, h0, h1, h5, hm⟩
    rw [request_Table_May_L1_eq]
    unfold request_Table_May_L1_F
    rw [h22, h21, h20, h0, h1, h5, BK_lss]
    by_cases hlt : n < l.length
    · rw [show decide ((n : Int) < (l.length : Int)) = true by simp; omega]
      obtain ⟨x, hx⟩ : ∃ x, l[n]? = some x := ⟨_, List.getElem?_eq_getElem hlt⟩
      have hgx : l.getD n 0 = x := by simp [List.getD, hx]
      have hl1 := reads_mod hl hm (fun _ _ _ => id)
      simp only [CondK_bool, MG_b, NG_b, VG_b, UG_b, PG_b, BG_b, CG_b, IG_b, PK_bool, NK_ptr, not_ok, reduceCtorEq, if_true, if_false, Bool.true_eq_false, Bool.false_eq_true, Bool.not_true, Bool.not_false]
      refine ixld Try.underlying27 c3 Try.underlying3 rfl hl1 (by omega) (ivs_get (by simpa using hx)) fun y => ?_
      cases hb : mayTo xs l n with
      | false =>
        simp only [CondK_bool, MG_b, NG_b, VG_b, UG_b, PG_b, BG_b, CG_b, IG_b, PK_bool, NK_ptr, not_ok, reduceCtorEq, if_true, if_false, Bool.true_eq_false, Bool.false_eq_true, Bool.not_true, Bool.not_false, sq_n, sq_x, sq_r, bk_n, bk_r, bk_x, rt_r, rt_n, rs_0, rs_t, pk_1, pk_2, up_at, reduceIte, Nat.reduceEqDiff]
        rw [request_Table_May_R0_eq]
        unfold request_Table_May_R0_F
        simp only [sq_n, sq_x, sq_r, bk_n, bk_r, bk_x, rt_r, rt_n, rs_0, rs_t, pk_1, pk_2, up_at, reduceIte, Nat.reduceEqDiff, h5, hb, CondK_bool, MG_b, NG_b, VG_b, UG_b, PG_b, BG_b, CG_b, IG_b, PK_bool, NK_ptr, not_ok, reduceCtorEq, if_true, if_false, Bool.true_eq_false, Bool.false_eq_true, Bool.not_true, Bool.not_false]
        refine ⟨?_, hm⟩
        have : mayOf xs l = false := by
          cases hq : mayOf xs l with
          | false => rfl
          | true =>
            have := mayTo_le (n := n) (m := l.length - n) (by rw [show n + (l.length - n) = l.length by omega]; exact hq)
            rw [hb] at this; cases this
        rw [this]
        rfl
      | true =>
        simp only [CondK_bool, MG_b, NG_b, VG_b, UG_b, PG_b, BG_b, CG_b, IG_b, PK_bool, NK_ptr, not_ok, reduceCtorEq, if_true, if_false, Bool.true_eq_false, Bool.false_eq_true, Bool.not_true, Bool.not_false]
        have hT := h.none hm
        refine CK_st Try.func21 rfl rfl (At_made hT) ?_
        rintro _ w2 ⟨rfl, hm2⟩
        have fin : ∀ (ρ' : Sl) (w' : World), Mod none_ w2 w' → ρ' 22 = .int .i64 (n + 1 : Nat) → ρ' 21 = .int .i64 l.length → ρ' 20 = .slice A l.length c → ρ' 0 = .pointer (some ⟨t, 0, none⟩) → ρ' 1 = .slice A l.length c → ρ' 5 = .bool (!okAt xs l n) →
            (∃ n : Nat, n ≤ l.length ∧ ρ' 22 = .int .i64 n ∧ ρ' 21 = .int .i64 l.length ∧ ρ' 20 = .slice A l.length c ∧ ρ' 0 = .pointer (some ⟨t, 0, none⟩) ∧ ρ' 1 = .slice A l.length c ∧ ρ' 5 = .bool (!mayTo xs l n) ∧ Mod none_ w w') ∧ l.length - (intOf (ρ' 22)).toNat < l.length - (intOf (Value.int .i64 n)).toNat := by
          intro ρ' w' hm' e22 e21 e20 e0 e1 e5
          refine ⟨⟨n + 1, hlt, e22, e21, e20, e0, e1, ?_, (hm.trans hm2).trans hm'⟩, ?_⟩
          · rw [e5, mayTo_succ, hb, Bool.true_and]
          · rw [e22]; simp only [intOf]; omega
        unfold atOf
        cases hin : inR xs x with
        | false =>
          simp only [Bool.false_eq_true, if_false]
          rw [extract_ok (v := zr) rfl, extract_ok (v := .int .i64 120) rfl]
          refine lcl_k (cs := R.zero.enc.toArray) zr_zero _ i50 rfl (enc_one _) fun w3 _ hm3 _ => ?_
          rw [BK_neq]
          simp only [CondK_bool, MG_b, NG_b, VG_b, UG_b, PG_b, BG_b, CG_b, IG_b, PK_bool, NK_ptr, not_ok, reduceCtorEq, if_true, if_false, Bool.true_eq_false, Bool.false_eq_true, Bool.not_true, Bool.not_false, show ((120 : Int) != 0) = true from rfl]
          rw [BK_add, wrap_i (by omega) (by omega)]
          exact fin _ _ hm3 rfl h21 h20 h0 h1 (by simp only [sq_n, sq_x, sq_r, bk_n, bk_r, bk_x, rt_r, rt_n, rs_0, rs_t, pk_1, pk_2, up_at, reduceIte, Nat.reduceEqDiff]; unfold okAt; rw [hgx, hin]; rfl)
        | true =>
          simp only [if_true]
          rw [extract_ok (v := .agg (rAt xs x).enc.toArray) rfl, extract_ok (v := .int .i64 0) rfl]
          refine lcl_k (cs := (rAt xs x).enc.toArray) zr_zero _ i50 rfl (enc_one _) fun w3 hb3 hm3 _ => ?_
          rw [BK_neq]
          simp only [CondK_bool, MG_b, NG_b, VG_b, UG_b, PG_b, BG_b, CG_b, IG_b, PK_bool, NK_ptr, not_ok, reduceCtorEq, if_true, if_false, Bool.true_eq_false, Bool.false_eq_true, Bool.not_true, Bool.not_false, show ((0 : Int) != 0) = false from rfl, f50 _ _ (show 2 < 6 by decide)]
          refine ld1 Try.underlying4 rfl (v := .bool (rAt xs x).gone) (by rw [add_pl, cell_blk hb3]; rfl) ?_
          cases hgo : (rAt xs x).gone with
          | true =>
            simp only [CondK_bool, MG_b, NG_b, VG_b, UG_b, PG_b, BG_b, CG_b, IG_b, PK_bool, NK_ptr, not_ok, reduceCtorEq, if_true, if_false, Bool.true_eq_false, Bool.false_eq_true, Bool.not_true, Bool.not_false]
            rw [BK_add, wrap_i (by omega) (by omega)]
            exact fin _ _ hm3 rfl h21 h20 h0 h1 (by simp only [sq_n, sq_x, sq_r, bk_n, bk_r, bk_x, rt_r, rt_n, rs_0, rs_t, pk_1, pk_2, up_at, reduceIte, Nat.reduceEqDiff]; unfold okAt; rw [hgx, hin, hgo]; rfl)
          | false =>
            simp only [CondK_bool, MG_b, NG_b, VG_b, UG_b, PG_b, BG_b, CG_b, IG_b, PK_bool, NK_ptr, not_ok, reduceCtorEq, if_true, if_false, Bool.true_eq_false, Bool.false_eq_true, Bool.not_true, Bool.not_false]
            have hl3 := reads_mod hl1 (hm2.trans hm3) (fun _ _ _ => id)
            refine VK_of (run_cut (sz := 0) Try.underlying27 c3 hAc (by omega) (by omega) w3) ?_
            have hcut := reads_cut hl3 (m := (n : Int).toNat) (by omega) (0 + 1)
            have hcut' : reads w3 1 (sliced A 0 (n : Int).toNat c (0 + 1)) (l.take n).length (ivs (l.take n)) := by
              have e1 : (l.take n).length = (n : Int).toNat := by rw [List.length_take]; omega
              have e2 : ivs (l.take n) = (ivs l).take ((n : Int).toNat * 1) := by unfold ivs; rw [List.map_take]; simp
              rw [e1, e2]
              exact hcut
            refine CK_st Try.func26 rfl rfl (Contains_ok hcut' (by rw [List.length_take]; omega)) ?_
            rintro _ w3 ⟨rfl, rfl⟩
            rw [BK_add, wrap_i (by omega) (by omega)]
            exact fin _ _ hm3 rfl h21 h20 h0 h1 (by simp only [sq_n, sq_x, sq_r, bk_n, bk_r, bk_x, rt_r, rt_n, rs_0, rs_t, pk_1, pk_2, up_at, reduceIte, Nat.reduceEqDiff]; unfold okAt; rw [hgx, hin, hgo]; simp)
    · obtain rfl : n = l.length := by omega
      rw [show decide ((l.length : Int) < (l.length : Int)) = false by simp]
      simp only [CondK_bool, MG_b, NG_b, VG_b, UG_b, PG_b, BG_b, CG_b, IG_b, PK_bool, NK_ptr, not_ok, reduceCtorEq, if_true, if_false, Bool.true_eq_false, Bool.false_eq_true, Bool.not_true, Bool.not_false, sq_n, sq_x, sq_r, bk_n, bk_r, bk_x, rt_r, rt_n, rs_0, rs_t, pk_1, pk_2, up_at, reduceIte, Nat.reduceEqDiff]
      rw [request_Table_May_R0_eq]
      unfold request_Table_May_R0_F
      simp only [sq_n, sq_x, sq_r, bk_n, bk_r, bk_x, rt_r, rt_n, rs_0, rs_t, pk_1, pk_2, up_at, reduceIte, Nat.reduceEqDiff, h5]
      rw [show mayTo xs l l.length = mayOf xs l from rfl]
      cases mayOf xs l <;> simp only [CondK_bool, MG_b, NG_b, VG_b, UG_b, PG_b, BG_b, CG_b, IG_b, PK_bool, NK_ptr, not_ok, reduceCtorEq, if_true, if_false, Bool.true_eq_false, Bool.false_eq_true, Bool.not_true, Bool.not_false] <;> exact ⟨trivial, hm⟩
  unfold lenOk at key
  by_cases h1 : (l.length : Int) < 1
  · simp only [decide_eq_true h1, CondK_bool, MG_b, NG_b, VG_b, UG_b, PG_b, BG_b, CG_b, IG_b, PK_bool, NK_ptr, not_ok, reduceCtorEq, if_true, if_false, Bool.true_eq_false, Bool.false_eq_true, Bool.not_true, Bool.not_false]
    rw [len_sl Try.underlying27]
    exact key _ (by simp only [sq_n, sq_x, sq_r, bk_n, bk_r, bk_x, rt_r, rt_n, rs_0, rs_t, pk_1, pk_2, up_at, reduceIte, Nat.reduceEqDiff]; rw [decide_eq_false (p := 1 ≤ l.length) (by omega)]; rfl) rfl rfl rfl rfl rfl
  · simp only [decide_eq_false h1, CondK_bool, MG_b, NG_b, VG_b, UG_b, PG_b, BG_b, CG_b, IG_b, PK_bool, NK_ptr, not_ok, reduceCtorEq, if_true, if_false, Bool.true_eq_false, Bool.false_eq_true, Bool.not_true, Bool.not_false]
    rw [len_sl Try.underlying27]
    simp only [CondK_bool, MG_b, NG_b, VG_b, UG_b, PG_b, BG_b, CG_b, IG_b, PK_bool, NK_ptr, not_ok, reduceCtorEq, if_true, if_false, Bool.true_eq_false, Bool.false_eq_true, Bool.not_true, Bool.not_false, BK_gtr]
    rw [len_sl Try.underlying27]
    exact key _ (by simp only [sq_n, sq_x, sq_r, bk_n, bk_r, bk_x, rt_r, rt_n, rs_0, rs_t, pk_1, pk_2, up_at, reduceIte, Nat.reduceEqDiff]; rw [decide_eq_true (p := 1 ≤ l.length) (by omega), Bool.true_and, ← decide_not]; exact congrArg Value.bool (decide_eq_decide.2 (by omega))) rfl rfl rfl rfl rfl

/-! Complete -/
def compRes (xs : List R) (i : Int) : Int := if inR xs i then (if (rAt xs i).gone then 120 else if (rAt xs i).done then 2 else 0) else 120
def compR (r : R) (a p t : Int) : R := ⟨r.recv, true, r.gone, a, p, t⟩
def compTab (xs : List R) (i a p t : Int) : List R := if compRes xs i = 0 then xs.set i.toNat (compR (rAt xs i) a p t) else xs
theorem fo47 : fieldOff Try.prog 47 1 = some 1 := by kernel_rfl
theorem fo50_1 : fieldOff Try.prog 50 1 = some 1 := by kernel_rfl
theorem fo50_2 : fieldOff Try.prog 50 2 = some 2 := by kernel_rfl
theorem fo50_3 : fieldOff Try.prog 50 3 = some 3 := by kernel_rfl
theorem fo50_4 : fieldOff Try.prog 50 4 = some 4 := by kernel_rfl
theorem fo50_5 : fieldOff Try.prog 50 5 = some 5 := by kernel_rfl
theorem flat_comp {xs : List R} {i : Nat} {r : R} (hx0 : xs[i]? = some r) (a p tg : Int) : ((((flat xs).set (i * (5 + 1) + 1) (.bool true)).set (i * (5 + 1) + 3) (.int .i64 a)).set (i * (5 + 1) + 4) (.int .i64 p)).set (i * (5 + 1) + 5) (.int .i64 tg) = flat (xs.set i (compR r a p tg)) := by
  have hlt := (List.getElem?_eq_some_iff.1 hx0).1
  have nx : ∀ (ys : List R) (q : R), ys.length = xs.length → (ys.set i q)[i]? = some q := fun ys q hl => by rw [List.getElem?_set_self]; omega
  have st : ∀ (ys : List R) (q q' : R) (j : Nat) (u : Value), ys[i]? = some q → j < 6 → q'.enc = q.enc.set j u → (flat ys).set (i * (5 + 1) + j) u = flat (ys.set i q') := fun ys q q' j u h1 h2 h3 => fl_set (k := 6) enc_len h1 h2 h3
  rw [st xs r ⟨r.recv, true, r.gone, r.val, r.peer, r.tag⟩ 1 (.bool true) hx0 (by decide) rfl, st _ ⟨r.recv, true, r.gone, r.val, r.peer, r.tag⟩ ⟨r.recv, true, r.gone, a, r.peer, r.tag⟩ 3 (.int .i64 a) (nx _ _ rfl) (by decide) rfl,
    st _ ⟨r.recv, true, r.gone, a, r.peer, r.tag⟩ ⟨r.recv, true, r.gone, a, p, r.tag⟩ 4 (.int .i64 p) (nx _ _ (by simp)) (by decide) rfl, st _ ⟨r.recv, true, r.gone, a, p, r.tag⟩ ⟨r.recv, true, r.gone, a, p, tg⟩ 5 (.int .i64 tg) (nx _ _ (by simp)) (by decide) rfl]
  simp [List.set_set, compR]
theorem c4 : Try.prog.cellsOf 4 = 1 := by kernel_rfl
theorem c2 : Try.prog.cellsOf 2 = 1 := by kernel_rfl
theorem IsTab.of {w : World} {B t : Nat} {v : Value} {xs ys : List R} {cs : List Value} (hB : B ≤ t) (ht : w.heap[t]? = some (.cells #[.bool true, v] 47 (0, 0))) (ho : w.ownsRow B 50 6 v xs.length cs) (hc : cs = flat ys) (hn : xs.length = ys.length) : IsTab w B t v ys := ⟨hB, ht, by rw [← hc, ← hn]; exact ho⟩
theorem Complete_made {w : World} {B t : Nat} {v : Value} {xs : List R} {i a p tg : Int} (h : IsTab w B t v xs) : Rt Try.prog 19 #[.pointer (some ⟨t, 0, none⟩), .int .i64 i, .int .i64 a, .int .i64 p, .int .i64 tg] w fun u w' =>
    u = .int .i64 (compRes xs i) ∧ IsTab w' B t v (compTab xs i a p tg) ∧ Mod (touch t v) w w' := by
  refine request_Table_Complete_calls ?_
  unfold request_Table_Complete_F
  refine CK_st Try.func21 rfl rfl (At_made h) ?_
  rintro _ w1 ⟨rfl, hm1⟩
  unfold atOf
  cases hin : inR xs i with
  | false =>
    have e : compRes xs i = 120 := by unfold compRes; rw [hin]; rfl
    simp only [Bool.false_eq_true, if_false]
    rw [extract_ok (v := zr) rfl, extract_ok (v := .int .i64 120) rfl]
    refine lcl_k (cs := R.zero.enc.toArray) zr_zero _ i50 rfl (enc_one _) fun w2 _ hm2 _ => ?_
    rw [BK_neq]
    simp only [CondK_bool, MG_b, NG_b, VG_b, UG_b, PG_b, BG_b, CG_b, IG_b, PK_bool, NK_ptr, not_ok, reduceCtorEq, if_true, if_false, Bool.true_eq_false, Bool.false_eq_true, Bool.not_true, Bool.not_false, show ((120 : Int) != 0) = true from rfl]
    refine ⟨by rw [e], ?_, (hm1.trans hm2).mono fun _ _ q => q.elim⟩
    unfold compTab
    rw [e, if_neg (by decide)]
    exact (h.none hm1).none hm2
  | true =>
    simp only [if_true]
    have hi : 0 ≤ i ∧ i < xs.length := by simpa [inR] using hin
    rw [extract_ok (v := .agg (rAt xs i).enc.toArray) rfl, extract_ok (v := .int .i64 0) rfl]
    refine lcl_k (cs := (rAt xs i).enc.toArray) zr_zero _ i50 rfl (enc_one _) fun w2 hb2 hm2 _ => ?_
    have h2 := (h.none hm1).none hm2
    rw [BK_neq]
    simp only [CondK_bool, MG_b, NG_b, VG_b, UG_b, PG_b, BG_b, CG_b, IG_b, PK_bool, NK_ptr, not_ok, reduceCtorEq, if_true, if_false, Bool.true_eq_false, Bool.false_eq_true, Bool.not_true, Bool.not_false, show ((0 : Int) != 0) = false from rfl, f50 _ _ (show 2 < 6 by decide)]
    refine ld1 Try.underlying4 rfl (v := .bool (rAt xs i).gone) (by rw [add_pl, cell_blk hb2]; rfl) ?_
    cases hgo : (rAt xs i).gone with
    | true =>
      have e : compRes xs i = 120 := by unfold compRes; rw [hin, hgo]; rfl
      simp only [CondK_bool, MG_b, NG_b, VG_b, UG_b, PG_b, BG_b, CG_b, IG_b, PK_bool, NK_ptr, not_ok, reduceCtorEq, if_true, if_false, Bool.true_eq_false, Bool.false_eq_true, Bool.not_true, Bool.not_false]
      refine ⟨by rw [e], ?_, (hm1.trans hm2).mono fun _ _ q => q.elim⟩
      unfold compTab
      rw [e, if_neg (by decide)]
      exact h2
    | false =>
      simp only [CondK_bool, MG_b, NG_b, VG_b, UG_b, PG_b, BG_b, CG_b, IG_b, PK_bool, NK_ptr, not_ok, reduceCtorEq, if_true, if_false, Bool.true_eq_false, Bool.false_eq_true, Bool.not_true, Bool.not_false, f50 _ _ (show 1 < 6 by decide)]
      refine ld1 Try.underlying4 rfl (v := .bool (rAt xs i).done) (by rw [add_pl, cell_blk hb2]; rfl) ?_
      cases hdn : (rAt xs i).done with
      | true =>
        have e : compRes xs i = 2 := by unfold compRes; rw [hin, hgo, hdn]; rfl
        simp only [CondK_bool, MG_b, NG_b, VG_b, UG_b, PG_b, BG_b, CG_b, IG_b, PK_bool, NK_ptr, not_ok, reduceCtorEq, if_true, if_false, Bool.true_eq_false, Bool.false_eq_true, Bool.not_true, Bool.not_false]
        refine ⟨by rw [e], ?_, (hm1.trans hm2).mono fun _ _ q => q.elim⟩
        unfold compTab
        rw [e, if_neg (by decide)]
        exact h2
      | false =>
        have e : compRes xs i = 0 := by unfold compRes; rw [hin, hgo, hdn]; rfl
        simp only [CondK_bool, MG_b, NG_b, VG_b, UG_b, PG_b, BG_b, CG_b, IG_b, PK_bool, NK_ptr, not_ok, reduceCtorEq, if_true, if_false, Bool.true_eq_false, Bool.false_eq_true, Bool.not_true, Bool.not_false]
        obtain ⟨g, cap, rfl, cur, hcur⟩ := owns_some h2.2.2 (by omega)
        have hgt : g ≠ t := fun q => owns_ne_blk h2.2.2 h2.2.1 (by decide) (q ▸ rfl)
        let S : World → Prop := fun w' => Mod (fun b => b = g) { w2 with drawn := w2.drawn + 1 } w'
        have hS0 : S { w2 with drawn := w2.drawn + 1 } := Mod.refl _ _
        have hrow : ({ w2 with drawn := w2.drawn + 1 } : World).ownsRow B 50 6 (.slice (some ⟨g, 0, none⟩) xs.length cap) xs.length (flat xs) := h2.2.2
        have hld : ∀ w', S w' → (Instr.loadAt 33 (.pointer (some ((⟨t, 0, none⟩ : Addr).add 1)))).run Try.prog w' = .ok (.slice (some ⟨g, 0, none⟩) xs.length cap) w' := fun w' hw' =>
          run_ld1 Try.underlying33 rfl (by rw [add_pl, cell_blk (hw'.blk (o := .cells #[.bool true, .slice (some ⟨g, 0, none⟩) xs.length cap] 47 (0, 0)) h2.2.1 (fun q => hgt q.symm))]; rfl)
        refine request_Table_Complete_R0_held (D := []) S hS0 ?_
        unfold request_Table_Complete_R0_H
        show HK Try.prog S (nilCk (.pointer (some ⟨t, 0, none⟩))) _
        refine HN_ptr (HV_of (fun w' _ => run_fo fo47 _ w') (HV_of hld ?_))
        refine HN_ptr (HV_of (fun w' _ => run_fo fo47 _ w') (HV_of hld ?_))
        refine HN_ptr (HV_of (fun w' _ => run_fo fo47 _ w') (HV_of hld ?_))
        refine HN_ptr (HV_of (fun w' _ => run_fo fo47 _ w') (HV_of hld ?_))
        have hk : i.toNat * (5 + 1) + 5 < xs.length * 6 := by omega
        refine HV_of (fun w' _ => run_ixa (sz := 5) Try.underlying33 c50 hi.1 hi.2 w') (HV_of (fun w' _ => run_fo fo50_1 _ w') ?_)
        rw [add_add, add_pl, Nat.zero_add]
        refine st_row c4 rfl hrow (by omega) fun w3 hrow3 hm3 => ⟨hm3, ?_⟩
        refine HV_of (fun w' _ => run_ixa (sz := 5) Try.underlying33 c50 hi.1 hi.2 w') (HV_of (fun w' _ => run_fo fo50_3 _ w') ?_)
        rw [add_add, add_pl, Nat.zero_add]
        refine st_row (u := .int .i64 a) c2 rfl hrow3 (by omega) fun w4 hrow4 hm4 => ⟨hm3.trans hm4, ?_⟩
        refine HV_of (fun w' _ => run_ixa (sz := 5) Try.underlying33 c50 hi.1 hi.2 w') (HV_of (fun w' _ => run_fo fo50_4 _ w') ?_)
        rw [add_add, add_pl, Nat.zero_add]
        refine st_row (u := .int .i64 p) c3 rfl hrow4 (by omega) fun w5 hrow5 hm5 => ⟨(hm3.trans hm4).trans hm5, ?_⟩
        refine HV_of (fun w' _ => run_ixa (sz := 5) Try.underlying33 c50 hi.1 hi.2 w') (HV_of (fun w' _ => run_fo fo50_5 _ w') ?_)
        rw [add_add, add_pl, Nat.zero_add]
        refine st_row (u := .int .i64 tg) c3 rfl hrow5 (by omega) fun w6 hrow6 hm6 => ⟨((hm3.trans hm4).trans hm5).trans hm6, ?_⟩
        simp only [sq_n, sq_x, sq_r, bk_n, bk_r, bk_x, rt_r, rt_n, rs_0, rs_t, pk_1, pk_2, up_at, reduceIte, Nat.reduceEqDiff]
        rw [request_Table_Complete_R1_eq]
        unfold request_Table_Complete_R1_F
        simp only [sq_n, sq_x, sq_r, bk_n, bk_r, bk_x, rt_r, rt_n, rs_0, rs_t, pk_1, pk_2, up_at, reduceIte, Nat.reduceEqDiff]
        have hmm : Mod (fun b => b = g) w2 w6 := ((((Mod.refl _ w2).drawn _).trans hm3).trans ((hm4.trans hm5).trans hm6))
        have hx0 := rAt_get hi.1 hi.2
        refine ⟨by rw [e], ?_, ((hm1.trans hm2).mono fun _ _ q => q.elim).trans (hmm.mono fun k _ q => .inr (q ▸ rfl))⟩
        unfold compTab
        rw [if_pos e]
        refine IsTab.of h2.1 (hmm.blk h2.2.1 (fun q => hgt q.symm)) hrow6 ?_ (by simp)
        exact flat_comp hx0 a p tg
end Go.Proofs.Ytnopejgpbnlmpaa.Req
