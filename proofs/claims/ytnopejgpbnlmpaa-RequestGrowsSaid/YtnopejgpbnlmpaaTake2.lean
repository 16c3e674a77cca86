/- Take of a table that somebody made; all. -/
import Derived.Test.YtnopejgpbnlmpaaTake
set_option linter.unusedVariables false
set_option linter.unusedSimpArgs false
namespace Go.Proofs.Ytnopejgpbnlmpaa.Req
open Go Go.X Go.RowKit Go.Proofs.Ytnopejgpbnlmpaa.XF

def goneR (r : R) : R := ⟨r.recv, r.done, true, r.val, r.peer, r.tag⟩
def goneAt (xs : List R) (i : Int) : List R := xs.set i.toNat (goneR (rAt xs i))
def goneTo (xs : List R) (l : List Int) (n : Nat) : List R := (l.take n).foldl goneAt xs
def outTo (xs : List R) (l : List Int) (n : Nat) : List R := (List.range n).map fun j => rAt (goneTo xs l j) (l.getD j 0)
theorem goneTo_succ {xs : List R} {l : List Int} {n : Nat} {x : Int} (h : l[n]? = some x) : goneTo xs l (n + 1) = goneAt (goneTo xs l n) x := by
  unfold goneTo
  rw [List.take_add_one, h, List.foldl_append]
  rfl
theorem goneAt_len (xs : List R) (i : Int) : (goneAt xs i).length = xs.length := by unfold goneAt; simp
theorem foldl_gone_len (l : List Int) : ∀ xs : List R, (l.foldl goneAt xs).length = xs.length := by
  induction l with
  | nil => intro xs; rfl
  | cons a l ih => intro xs; rw [List.foldl_cons, ih, goneAt_len]
theorem goneTo_len (xs : List R) (l : List Int) (n : Nat) : (goneTo xs l n).length = xs.length := foldl_gone_len _ _
theorem outTo_succ {xs : List R} {l : List Int} {n : Nat} {x : Int} (h : l[n]? = some x) : outTo xs l (n + 1) = outTo xs l n ++ [rAt (goneTo xs l n) x] := by
  unfold outTo
  rw [List.range_succ, List.map_append]
  simp [List.getD, h]
theorem outTo_len (xs : List R) (l : List Int) (n : Nat) : (outTo xs l n).length = n := by simp [outTo]
theorem flat_gone {xs : List R} {i : Int} (h0 : 0 ≤ i) (h1 : i < xs.length) : (flat xs).set (i.toNat * (5 + 1) + 2) (.bool true) = flat (goneAt xs i) :=
  fl_set (k := 6) enc_len (rAt_get h0 h1) (by decide) rfl
def takeOk (xs : List R) (l : List Int) : Bool := mayOf xs l && decide (l.length ≤ (places (gT xs) l).length)

theorem Take_made {w : World} {B t : Nat} {v lv : Value} {xs : List R} {l : List Int} (h : IsTab w B t v xs) (hl : reads w 1 lv l.length (ivs l)) (hn : l.length ≤ 1000000) (hlb : l ≠ [] → ∀ k, lv.ownBlock = some k → ¬ touch t v k) : Rt Try.prog 10 #[.pointer (some ⟨t, 0, none⟩), lv] w fun u w' =>
    ∃ o, u = .tuple #[o, .int .i64 (if takeOk xs l then 0 else 120)] ∧ IsTab w' B t v (if takeOk xs l then goneTo xs l l.length else xs) ∧ w'.ownsRow w.heap.size 50 6 o (if takeOk xs l then outTo xs l l.length else []).length (flat (if takeOk xs l then outTo xs l l.length else [])) ∧ Mod (touch t v) w w' := by
  obtain ⟨A, c, rfl, hAc⟩ := reads_cap hl
  refine request_Table_Take_calls ?_
  unfold request_Table_Take_F
  refine CK_st Try.func17 rfl rfl (May_made h hl hn) ?_
  rintro _ w1 ⟨rfl, hm1⟩
  cases hmay : mayOf xs l with
  | false =>
    have e : takeOk xs l = false := by unfold takeOk; rw [hmay]; rfl
    simp only [Bool.false_eq_true, if_false]
    rw [BK_neq]
    simp only [CondK_bool, MG_b, NG_b, VG_b, UG_b, PG_b, BG_b, CG_b, IG_b, PK_bool, NK_ptr, not_ok, reduceCtorEq, if_true, if_false, Bool.true_eq_false, Bool.false_eq_true, Bool.not_true, Bool.not_false, show ((120 : Int) != 0) = true from rfl]
    rw [e]
    simp only [Bool.false_eq_true, if_false]
    exact ⟨_, rfl, h.none hm1, World.ownsRow_nil _ _ _ _, hm1.mono fun _ _ q => q.elim⟩
  | true =>
    simp only [if_true]
    rw [BK_neq]
    simp only [CondK_bool, MG_b, NG_b, VG_b, UG_b, PG_b, BG_b, CG_b, IG_b, PK_bool, NK_ptr, not_ok, reduceCtorEq, if_true, if_false, Bool.true_eq_false, Bool.false_eq_true, Bool.not_true, Bool.not_false, show ((0 : Int) != 0) = false from rfl]
    have hl1 := reads_mod hl hm1 (fun _ _ _ => id)
    refine CK_st Try.func20 rfl rfl (Which_made (h.none hm1) hl1 hn) ?_
    rintro x18 w2 ⟨h18, hm2⟩
    obtain ⟨A2, c2, rfl, _⟩ := reads_cap (reads_of_owns h18)
    rw [len_sl Try.underlying27, len_sl Try.underlying27, BK_lss]
    by_cases hlt : (places (gT xs) l).length < l.length
    · have e : takeOk xs l = false := by unfold takeOk; rw [hmay, Bool.true_and]; exact decide_eq_false (by omega)
      rw [show decide (((places (gT xs) l).length : Int) < (l.length : Int)) = true by simp; omega]
      simp only [CondK_bool, MG_b, NG_b, VG_b, UG_b, PG_b, BG_b, CG_b, IG_b, PK_bool, NK_ptr, not_ok, reduceCtorEq, if_true, if_false, Bool.true_eq_false, Bool.false_eq_true, Bool.not_true, Bool.not_false]
      rw [e]
      simp only [Bool.false_eq_true, if_false]
      exact ⟨_, rfl, (h.none hm1).none hm2, World.ownsRow_nil _ _ _ _, (hm1.trans hm2).mono fun _ _ q => q.elim⟩
    have e : takeOk xs l = true := by unfold takeOk; rw [hmay, Bool.true_and]; exact decide_eq_true (by omega)
    rw [show decide (((places (gT xs) l).length : Int) < (l.length : Int)) = false by simp; omega]
    simp only [CondK_bool, MG_b, NG_b, VG_b, UG_b, PG_b, BG_b, CG_b, IG_b, PK_bool, NK_ptr, not_ok, reduceCtorEq, if_true, if_false, Bool.true_eq_false, Bool.false_eq_true, Bool.not_true, Bool.not_false]
    rw [len_sl Try.underlying27, e]
    simp only [if_true]
    have hin : ∀ (n : Nat) (x : Int), l[n]? = some x → 0 ≤ x ∧ x < xs.length := by
      intro n x hx
      have hnl := (List.getElem?_eq_some_iff.1 hx).1
      have h1 := mayTo_le (n := n + 1) (m := l.length - (n + 1)) (by rw [show n + 1 + (l.length - (n + 1)) = l.length by omega]; exact hmay)
      rw [mayTo_succ, Bool.and_eq_true] at h1
      have h2 := h1.2
      unfold okAt at h2
      have hgx : l.getD n 0 = x := by simp [List.getD, hx]
      rw [hgx, Bool.and_eq_true, Bool.and_eq_true] at h2
      simpa [inR] using h2.1.1
    refine W_loop request_Table_Take_L0_ok (fun ρ w' => ∃ (n : Nat) (o : Value), n ≤ l.length ∧ ρ 25 = .int .i64 n ∧ ρ 24 = .int .i64 l.length ∧ ρ 23 = .slice A l.length c ∧ ρ 0 = .pointer (some ⟨t, 0, none⟩) ∧ ρ 7 = o ∧
        IsTab w' B t v (goneTo xs l n) ∧ w'.ownsRow w.heap.size 50 6 o n (flat (outTo xs l n)) ∧ Mod (touch t v) w w') (fun ρ _ => l.length - (intOf (ρ 25)).toNat)
      ⟨0, .slice none 0 0, Nat.zero_le _, rfl, rfl, rfl, rfl, rfl, (h.none hm1).none hm2, World.ownsRow_nil _ _ _ _, (hm1.trans hm2).mono fun _ _ q => q.elim⟩ ?_
    rintro ρ w3 ⟨n, o, hn', h25, h24, h23, h0, h7, hT, hO, hm⟩
    rw [request_Table_Take_L0_eq]
    unfold request_Table_Take_L0_F
    rw [h25, h24, h23, h0, h7, BK_lss]
    by_cases hlt2 : n < l.length
    · rw [show decide ((n : Int) < (l.length : Int)) = true by simp; omega]
      obtain ⟨x, hx⟩ : ∃ x, l[n]? = some x := ⟨_, List.getElem?_eq_getElem hlt2⟩
      obtain ⟨hx0, hx1⟩ := hin n x hx
      have hgl := goneTo_len xs l n
      obtain ⟨g, cap, rfl, _⟩ := owns_some hT.2.2 (by omega)
      have hl3 := reads_mod hl hm (fun k _ hk => hlb (fun q => by rw [q] at hlt2; simp at hlt2) k hk)
      simp only [CondK_bool, MG_b, NG_b, VG_b, UG_b, PG_b, BG_b, CG_b, IG_b, PK_bool, NK_ptr, not_ok, reduceCtorEq, if_true, if_false, Bool.true_eq_false, Bool.false_eq_true, Bool.not_true, Bool.not_false]
      refine ixld Try.underlying27 c3 Try.underlying3 rfl hl3 (by omega) (ivs_get (by simpa using hx)) fun y => ?_
      rw [f47_1]
      refine ldv hT ?_
      refine ixldA (sz := 5) Try.underlying33 c50 Try.underlying50 rfl (reads_of_owns hT.2.2) hx0 (by omega) fun y => ?_
      have hfl : (List.drop (x.toNat * (5 + 1)) (flat (goneTo xs l n))).take (5 + 1) = (rAt (goneTo xs l n) x).enc := flat_at (rAt_get hx0 (by omega))
      rw [hfl]
      refine snoc e33 hO (b33 _) rfl (by simp [R.enc, Value.oneCell']) (by unfold maxLen; omega) (by omega) hm.size fun y2 o2 w4 hO4 hm4 ho4 => ?_
      have hgw : g < w.heap.size := by
        obtain ⟨cur, hc⟩ := owns_blk h.2.2 (g := g) rfl
        exact X.blk_lt hc
      have hOb : ∀ k, o.ownBlock = some k → w.heap.size ≤ k := fun k hk => (hO.lt k hk).1
      have htw : t < w.heap.size := X.blk_lt h.2.1
      have hT4 := hT.mod hm4 (fun q => by have := hOb _ q.symm; omega) (fun b hb q => by cases hb; have : w.heap.size ≤ g := hOb g q.symm; omega)
      rw [f47_1]
      refine ldv hT4 ?_
      rw [ixa (sz := 5) Try.underlying33 c50 hx0 (by omega), fo fo50_2, add_add, add_pl, Nat.zero_add]
      refine st_row c4 rfl hT4.2.2 (by omega) fun w5 hrow5 hm5 => ?_
      rw [BK_add, wrap_i (by omega) (by omega)]
      have hO4b : ∀ k, o2.ownBlock = some k → w.heap.size ≤ k := fun k hk => (hO4.lt k hk).1
      have hgt : g ≠ t := fun q => owns_ne_blk hT4.2.2 hT4.2.1 (by decide) (q ▸ rfl)
      refine ⟨⟨n + 1, o2, hlt2, rfl, h24, h23, h0, rfl, ?_, ?_, ?_⟩, ?_⟩
      · refine IsTab.of hT4.1 (hm5.blk hT4.2.1 (fun q => hgt q.symm)) hrow5 ?_ (by rw [goneTo_succ hx, goneAt_len])
        rw [goneTo_succ hx]
        exact flat_gone hx0 (by omega)
      · rw [outTo_succ hx, flat_snoc]
        exact owns_mod hO4 hm5 (fun k hk q => by have := hO4b k hk; omega)
      · refine (hm.then hm4 fun k hk q => absurd q (fun q => by have := hOb _ q.symm; omega)).trans (hm5.mono fun k _ q => .inr (q ▸ rfl))
      · simp only [sq_n, sq_x, sq_r, bk_n, bk_r, bk_x, rt_r, rt_n, rs_0, rs_t, pk_1, pk_2, up_at, reduceIte, Nat.reduceEqDiff, intOf]; omega
    · obtain rfl : n = l.length := by omega
      rw [show decide ((l.length : Int) < (l.length : Int)) = false by simp]
      simp only [CondK_bool, MG_b, NG_b, VG_b, UG_b, PG_b, BG_b, CG_b, IG_b, PK_bool, NK_ptr, not_ok, reduceCtorEq, if_true, if_false, Bool.true_eq_false, Bool.false_eq_true, Bool.not_true, Bool.not_false, sq_n, sq_x, sq_r, bk_n, bk_r, bk_x, rt_r, rt_n, rs_0, rs_t, pk_1, pk_2, up_at, reduceIte, Nat.reduceEqDiff]
      rw [request_Table_Take_R1_eq]
      unfold request_Table_Take_R1_F
      simp only [sq_n, sq_x, sq_r, bk_n, bk_r, bk_x, rt_r, rt_n, rs_0, rs_t, pk_1, pk_2, up_at, reduceIte, Nat.reduceEqDiff, h7]
      rw [outTo_len]
      exact ⟨o, rfl, hT, hO, hm⟩

/-! all -/
def allTo (left l : List Int) (n : Nat) : Bool := (List.range n).all fun j => decide (l.getD j 0 ∈ left) && !decide (l.getD j 0 ∈ l.take j)
def allOf (left l : List Int) : Bool := allTo left l l.length && lenOk l
theorem allTo_succ (left l : List Int) (n : Nat) : allTo left l (n + 1) = (allTo left l n && (decide (l.getD n 0 ∈ left) && !decide (l.getD n 0 ∈ l.take n))) := by
  unfold allTo
  rw [List.range_succ, List.all_append]
  simp
theorem allTo_le {left l : List Int} {n m : Nat} (h : allTo left l (n + m) = true) : allTo left l n = true := by
  induction m with
  | zero => exact h
  | succ m ih =>
    rw [← Nat.add_assoc, allTo_succ, Bool.and_eq_true] at h
    exact ih h.1
theorem all_ok {w : World} {v lv : Value} {left l : List Int} (h : reads w 1 v left.length (ivs left)) (hl : reads w 1 lv l.length (ivs l)) (hn1 : left.length ≤ 1000000) (hn : l.length ≤ 1000000) : Rt Try.prog 12 #[v, lv] w fun u w' => u = .bool (allOf left l) ∧ Mod none_ w w' := by
  obtain ⟨A, c, rfl, hAc⟩ := reads_cap hl
  refine dispatcherlaw12_all_calls ?_
  unfold dispatcherlaw12_all_F
  refine W_loop dispatcherlaw12_all_L0_ok (fun ρ w' => ∃ n : Nat, n ≤ l.length ∧ ρ 5 = .int .i64 n ∧ ρ 0 = v ∧ ρ 1 = .slice A l.length c ∧ Mod none_ w w' ∧ allTo left l n = true) (fun ρ _ => l.length - (intOf (ρ 5)).toNat)
    ⟨0, Nat.zero_le _, rfl, rfl, rfl, Mod.refl _ _, rfl⟩ ?_
  rintro ρ w1 ⟨n, hn', h5, h0, h1, hm, hall⟩
  rw [dispatcherlaw12_all_L0_eq]
  unfold dispatcherlaw12_all_L0_F
  rw [h5, h1, len_sl Try.underlying27, BK_lss]
  by_cases hlt : n < l.length
  · rw [show decide ((n : Int) < (l.length : Int)) = true by simp; omega]
    obtain ⟨x, hx⟩ : ∃ x, l[n]? = some x := ⟨_, List.getElem?_eq_getElem hlt⟩
    have hgx : l.getD n 0 = x := by simp [List.getD, hx]
    simp only [CondK_bool, MG_b, NG_b, VG_b, UG_b, PG_b, BG_b, CG_b, IG_b, PK_bool, NK_ptr, not_ok, reduceCtorEq, if_true, if_false, Bool.true_eq_false, Bool.false_eq_true, Bool.not_true, Bool.not_false]
    refine dispatcherlaw12_all_R2_quiet (D := []) (fun w' => Mod none_ w w') (hm.drawn _) ?_
    unfold dispatcherlaw12_all_R2_Q
    simp only [sq_n, sq_x, sq_r, bk_n, bk_r, bk_x, rt_r, rt_n, rs_0, rs_t, pk_1, pk_2, up_at, reduceIte, Nat.reduceEqDiff, h0, h1, h5]
    have hl' : ∀ w', Mod none_ w w' → reads w' 1 (.slice A l.length c) l.length (ivs l) := fun w' hw => reads_mod hl hw (fun _ _ _ => id)
    refine q_ixld (w := w1) Try.underlying27 c3 Try.underlying3 rfl hm hl' (by omega) (ivs_get (by simpa using hx)) fun z1 => ?_
    refine QC_st Try.func18 rfl rfl (v := .bool (decide (x ∈ left))) (fun w' hw => Calls.mono (has_ok (reads_mod h hw (fun _ _ _ => id)) hn1) fun e w'' ⟨u, he, hu, hw''⟩ => ⟨by rw [he, hu], by rw [hw'']; exact hw⟩) ?_
    refine QV_of (v := .bool (!decide (x ∈ left))) (fun _ _ => rfl) ?_
    have fin : ∀ (ρ' : Sl), ρ' 28 = .bool (!(decide (x ∈ left) && !decide (x ∈ l.take n))) → ρ' 5 = .int .i64 n → ρ' 0 = v → ρ' 1 = .slice A l.length c → ∀ w', Mod none_ w w' →
      sx fn_ Try.prog 37 dispatcherlaw12_all_R3 (blkK 1 (seqK (sx fn_ Try.prog 37 dispatcherlaw12_all_R4 (seqK (fun ρ' w' => (∃ n : Nat, n ≤ l.length ∧ ρ' 5 = .int .i64 n ∧ ρ' 0 = v ∧ ρ' 1 = .slice A l.length c ∧ Mod none_ w w' ∧ allTo left l n = true) ∧ l.length - (intOf (ρ' 5)).toNat < l.length - (intOf (Value.int .i64 n)).toNat)
        (blkK 0 (seqK (sx fn_ Try.prog 37 dispatcherlaw12_all_R1 (retK Try.prog [ResultVar.tmp 4] fun u w' => u = .bool (allOf left l) ∧ Mod none_ w w')) (retK Try.prog [ResultVar.tmp 4] fun u w' => u = .bool (allOf left l) ∧ Mod none_ w w')))))
        (seqK (fun ρ' w' => (∃ n : Nat, n ≤ l.length ∧ ρ' 5 = .int .i64 n ∧ ρ' 0 = v ∧ ρ' 1 = .slice A l.length c ∧ Mod none_ w w' ∧ allTo left l n = true) ∧ l.length - (intOf (ρ' 5)).toNat < l.length - (intOf (Value.int .i64 n)).toNat)
        (blkK 0 (seqK (sx fn_ Try.prog 37 dispatcherlaw12_all_R1 (retK Try.prog [ResultVar.tmp 4] fun u w' => u = .bool (allOf left l) ∧ Mod none_ w w')) (retK Try.prog [ResultVar.tmp 4] fun u w' => u = .bool (allOf left l) ∧ Mod none_ w w')))))) ρ' w' := by
      intro ρ' e28 e5 e0 e1 w' hw
      rw [dispatcherlaw12_all_R3_eq]
      unfold dispatcherlaw12_all_R3_F
      rw [e28]
      cases hb : (decide (x ∈ left) && !decide (x ∈ l.take n)) with
      | false =>
        simp only [CondK_bool, MG_b, NG_b, VG_b, UG_b, PG_b, BG_b, CG_b, IG_b, PK_bool, NK_ptr, not_ok, reduceCtorEq, if_true, if_false, Bool.true_eq_false, Bool.false_eq_true, Bool.not_true, Bool.not_false, sq_n, sq_x, sq_r, bk_n, bk_r, bk_x, rt_r, rt_n, rs_0, rs_t, pk_1, pk_2, up_at, reduceIte, Nat.reduceEqDiff]
        refine ⟨?_, hw⟩
        have : allOf left l = false := by
          unfold allOf
          cases hq : allTo left l l.length with
          | false => rfl
          | true =>
            have := allTo_le (n := n + 1) (m := l.length - (n + 1)) (by rw [show n + 1 + (l.length - (n + 1)) = l.length by omega]; exact hq)
            rw [allTo_succ, hgx, hb, Bool.and_false] at this
            cases this
        rw [this]
      | true =>
        simp only [CondK_bool, MG_b, NG_b, VG_b, UG_b, PG_b, BG_b, CG_b, IG_b, PK_bool, NK_ptr, not_ok, reduceCtorEq, if_true, if_false, Bool.true_eq_false, Bool.false_eq_true, Bool.not_true, Bool.not_false, sq_n, sq_x, sq_r, bk_n, bk_r, bk_x, rt_r, rt_n, rs_0, rs_t, pk_1, pk_2, up_at, reduceIte, Nat.reduceEqDiff]
        rw [dispatcherlaw12_all_R4_eq]
        unfold dispatcherlaw12_all_R4_F
        rw [e5, BK_add, wrap_i (by omega) (by omega)]
        simp only [sq_n, sq_x, sq_r, bk_n, bk_r, bk_x, rt_r, rt_n, rs_0, rs_t, pk_1, pk_2, up_at, reduceIte, Nat.reduceEqDiff]
        refine ⟨⟨n + 1, hlt, rfl, e0, e1, hw, ?_⟩, ?_⟩
        · rw [allTo_succ, hall, hgx, hb]; rfl
        · simp only [intOf]; omega
    by_cases hxl : x ∈ left
    · simp only [hxl, decide_true, Bool.not_true, QG_b, if_true]
      refine QM (QM (QV_of (fun w' _ => run_cut (sz := 0) Try.underlying27 c3 hAc (by omega) (by omega) w') (QM (QM ?_))))
      refine q_ixld (w := w1) Try.underlying27 c3 Try.underlying3 rfl hm hl' (by omega) (ivs_get (by simpa using hx)) fun z2 => ?_
      refine QC_st Try.func18 rfl rfl (v := .bool (decide (x ∈ l.take n))) (fun w' hw => ?_) (QP_of ?_)
      · have hcut' : reads w' 1 (sliced A 0 (n : Int).toNat c (0 + 1)) (l.take n).length (ivs (l.take n)) := by
          have e1 : (l.take n).length = (n : Int).toNat := by rw [List.length_take]; omega
          have e2 : ivs (l.take n) = (ivs l).take ((n : Int).toNat * 1) := by unfold ivs; rw [List.map_take]; simp
          rw [e1, e2]
          exact reads_cut (hl' w' hw) (by omega) _
        exact Calls.mono (has_ok hcut' (by rw [List.length_take]; omega)) fun e w'' ⟨u, he, hu, hw''⟩ => ⟨by rw [he, hu], by rw [hw'']; exact hw⟩
      · exact fin _ (by simp only [sq_n, sq_x, sq_r, bk_n, bk_r, bk_x, rt_r, rt_n, rs_0, rs_t, pk_1, pk_2, up_at, reduceIte, Nat.reduceEqDiff]; simp [hxl]) h5 h0 h1
    · simp only [hxl, decide_false, Bool.not_false, QG_b, Bool.true_eq_false, if_false]
      refine QP_of ?_
      exact fin _ (by simp only [sq_n, sq_x, sq_r, bk_n, bk_r, bk_x, rt_r, rt_n, rs_0, rs_t, pk_1, pk_2, up_at, reduceIte, Nat.reduceEqDiff]; simp [hxl]) h5 h0 h1
  · obtain rfl : n = l.length := by omega
    rw [show decide ((l.length : Int) < (l.length : Int)) = false by simp]
    simp only [CondK_bool, MG_b, NG_b, VG_b, UG_b, PG_b, BG_b, CG_b, IG_b, PK_bool, NK_ptr, not_ok, reduceCtorEq, if_true, if_false, Bool.true_eq_false, Bool.false_eq_true, Bool.not_true, Bool.not_false, sq_n, sq_x, sq_r, bk_n, bk_r, bk_x, rt_r, rt_n, rs_0, rs_t, pk_1, pk_2, up_at, reduceIte, Nat.reduceEqDiff]
    rw [dispatcherlaw12_all_R1_eq]
    unfold dispatcherlaw12_all_R1_F
    simp only [sq_n, sq_x, sq_r, bk_n, bk_r, bk_x, rt_r, rt_n, rs_0, rs_t, pk_1, pk_2, up_at, reduceIte, Nat.reduceEqDiff, h1]
    rw [len_sl Try.underlying27, BK_geq]
    have ha : allOf left l = lenOk l := by unfold allOf; rw [hall, Bool.true_and]
    by_cases hl1 : (1 : Int) ≤ l.length
    · simp only [decide_eq_true hl1, CondK_bool, MG_b, NG_b, VG_b, UG_b, PG_b, BG_b, CG_b, IG_b, PK_bool, NK_ptr, not_ok, reduceCtorEq, if_true, if_false, Bool.true_eq_false, Bool.false_eq_true, Bool.not_true, Bool.not_false]
      rw [len_sl Try.underlying27]
      simp only [CondK_bool, MG_b, NG_b, VG_b, UG_b, PG_b, BG_b, CG_b, IG_b, PK_bool, NK_ptr, not_ok, reduceCtorEq, if_true, if_false, Bool.true_eq_false, Bool.false_eq_true, Bool.not_true, Bool.not_false, BK_leq]
      rw [ha]
      unfold lenOk
      exact ⟨by rw [decide_eq_true (p := 1 ≤ l.length) (by omega), Bool.true_and]; exact congrArg Value.bool (decide_eq_decide.2 (by omega)), hm⟩
    · simp only [decide_eq_false hl1, CondK_bool, MG_b, NG_b, VG_b, UG_b, PG_b, BG_b, CG_b, IG_b, PK_bool, NK_ptr, not_ok, reduceCtorEq, if_true, if_false, Bool.true_eq_false, Bool.false_eq_true, Bool.not_true, Bool.not_false]
      rw [ha]
      unfold lenOk
      exact ⟨by rw [decide_eq_false (p := 1 ≤ l.length) (by omega), Bool.false_and], hm⟩
end Go.Proofs.Ytnopejgpbnlmpaa.Req
