/- Left: the numbers of those that are not gone, told one by one. -/
import Derived.Test.YtnopejgpbnlmpaaWhich
set_option linter.unusedVariables false
set_option linter.unusedSimpArgs false
namespace Go.Proofs.Ytnopejgpbnlmpaa.Req
open Go Go.X Go.RowKit Go.Proofs.Ytnopejgpbnlmpaa.XF

theorem enc_len (r : R) : r.enc.length = 6 := rfl
theorem flat_len (xs : List R) : (flat xs).length = xs.length * 6 := by
  induction xs with
  | nil => rfl
  | cons r xs ih => simp only [flat, List.flatMap_cons, List.length_append, List.length_cons, enc_len] at *; omega
theorem flat_at {xs : List R} {n : Nat} {r : R} (h : xs[n]? = some r) : ((flat xs).drop (n * 6)).take 6 = r.enc := by
  induction xs generalizing n with
  | nil => simp at h
  | cons q xs ih =>
    cases n with
    | zero =>
      simp at h
      subst h
      show ((q.enc ++ flat xs).drop 0).take 6 = _
      rw [List.drop_zero, List.take_append_of_le_length (by simp [enc_len])]
      rfl
    | succ n =>
      have := ih (n := n) (by simpa using h)
      show ((q.enc ++ flat xs).drop ((n + 1) * 6)).take 6 = _
      rw [List.drop_append, List.drop_of_length_le (by simp [enc_len]; omega), List.nil_append, enc_len, show (n + 1) * 6 - 6 = n * 6 by omega]
      exact this
def leftsTo (xs : List R) (n : Nat) : List Int := ((List.range n).filter fun j => !(xs.getD j R.zero).gone).map fun j : Nat => (j : Int)
def lefts (xs : List R) : List Int := leftsTo xs xs.length
theorem leftsTo_succ {xs : List R} {n : Nat} {r : R} (h : xs[n]? = some r) : leftsTo xs (n + 1) = leftsTo xs n ++ (if r.gone then [] else [(n : Int)]) := by
  have hx : xs.getD n R.zero = r := by simp [List.getD, h]
  unfold leftsTo
  rw [List.range_succ, List.filter_append, List.map_append]
  congr 1
  simp only [List.filter_cons, List.filter_nil, hx]
  cases r.gone <;> rfl
theorem leftsTo_pre (xs : List R) (n m : Nat) : ∃ t, leftsTo xs (n + m) = leftsTo xs n ++ t := by
  unfold leftsTo
  rw [List.range_add, List.filter_append, List.map_append]
  exact ⟨_, rfl⟩

theorem Left1 (w : World) (r : R) : Rt Try.prog 25 #[.agg r.enc.toArray] w fun v w' => v = .bool (!r.gone) ∧ Mod none_ w w' := by
  refine request_Table_Left_1_calls ?_
  unfold request_Table_Left_1_F
  rw [box_ok, f50 _ _ (by decide)]
  refine ld1 Try.underlying4 rfl (v := .bool r.gone) (by rw [add_pl, cell_blk (alloc_new w _)]; rfl) ?_
  rw [not_ok]
  exact ⟨rfl, (Mod.refl _ w).alloc _⟩
theorem c50 : Try.prog.cellsOf 50 = 5 + 1 := by kernel_rfl

theorem some1_made {w : World} {B t bp bf l : Nat} {v : Value} {xs : List R} (J : Nat → World → Prop)
    (hJ : ∀ k w, J k w → IsTab w B t v xs ∧ w.heap[bp]? = some (.cells #[.pointer (some ⟨t, 0, none⟩)] 25 (0, 0)) ∧ w.heap[bf]? = some (.cells #[.func (.func 25) #[] #[]] 57 (0, 0)))
    (hJm : ∀ k w w', J k w → Mod none_ w w' → J k w')
    (hy : ∀ k w i, (lefts xs)[k]? = some i → J k w → ∀ K : Value → World → Prop, (∀ w', J (k + 1) w' → K (.bool true) w') → CK Try.prog (.func (.yield l) #[] #[]) [.int .i64 i] w K)
    (h0 : J 0 w) (hlen : xs.length ≤ 1000000) :
    Rt Try.prog 29 #[.func (.yield l) #[] #[], .pointer (some ⟨bp, 0, none⟩), .pointer (some ⟨bf, 0, none⟩)] w fun _ w' => J (lefts xs).length w' := by
  have hT : ∀ {k w}, J k w → ∃ A c, v = .slice A xs.length c := fun {k w} h => by
    obtain ⟨⟨_, _, hown⟩, _, _⟩ := hJ _ _ h
    obtain ⟨_, A, c, rfl, _⟩ := reads_of_owns hown
    exact ⟨A, c, rfl⟩
  obtain ⟨⟨hb0, ht0, hown0⟩, hp0, hf0⟩ := hJ _ _ h0
  obtain ⟨A, c, rfl⟩ := hT h0
  refine request_Table_some_1_calls ?_
  unfold request_Table_some_1_F
  refine ld1 Try.underlying25 rfl (v := .pointer (some ⟨t, 0, none⟩)) (by rw [cell_blk hp0]; rfl) ?_
  refine CK_st Try.func23 rfl rfl (none_made (hJ _ _ h0).1) ?_
  rintro _ w' ⟨rfl, rfl⟩
  simp only [CondK_bool, MG_b, NG_b, VG_b, UG_b, PG_b, BG_b, CG_b, IG_b, PK_bool, NK_ptr, not_ok, reduceCtorEq, if_true, if_false, Bool.true_eq_false, Bool.false_eq_true, Bool.not_true, Bool.not_false]
  refine ld1 Try.underlying25 rfl (v := .pointer (some ⟨t, 0, none⟩)) (by rw [cell_blk hp0]; rfl) ?_
  rw [NK_ptr, f47_1]
  refine ld1 Try.underlying33 rfl (v := .slice A xs.length c) (by rw [add_pl, cell_blk ht0]; rfl) ?_
  rw [len_sl Try.underlying33]
  refine W_loop request_Table_some_1_L0_ok (fun ρ w' => ∃ (n : Nat), n ≤ xs.length ∧ ρ 13 = .int .i64 n ∧ ρ 12 = .int .i64 xs.length ∧ ρ 11 = .slice A xs.length c ∧ ρ 2 = .pointer (some ⟨bf, 0, none⟩) ∧ ρ 0 = .func (.yield l) #[] #[] ∧ J (leftsTo xs n).length w') (fun ρ _ => xs.length - (intOf (ρ 13)).toNat)
    ⟨0, Nat.zero_le _, rfl, rfl, rfl, rfl, rfl, h0⟩ ?_
  rintro ρ w1 ⟨n, hn, h13, h12, h11, h2, h0', hJ1⟩
  rw [request_Table_some_1_L0_eq]
  unfold request_Table_some_1_L0_F
  rw [h13, h12, h11, h2, h0', BK_lss]
  by_cases hlt : n < xs.length
  · have hd : decide ((n : Int) < (xs.length : Int)) = true := by simp; omega
    obtain ⟨r, hx⟩ : ∃ r, xs[n]? = some r := ⟨_, List.getElem?_eq_getElem hlt⟩
    rw [hd, CondK_bool, if_pos rfl]
    obtain ⟨⟨hb1, ht1, hown1⟩, hp1, hf1⟩ := hJ _ _ hJ1
    refine ixldA (sz := 5) Try.underlying33 c50 Try.underlying50 rfl (reads_of_owns hown1) (by omega) (by omega) fun y => ?_
    have hfl : (List.drop ((n : Int).toNat * (5 + 1)) (flat xs)).take (5 + 1) = r.enc := flat_at hx
    rw [hfl, alloc_ok zr_zero]
    refine stB (old := zr.cells) (cs := r.enc.toArray) i50 rfl (enc_one _) (alloc_new w1 _) ?_
    have hm2 : Mod none_ w1 (setB (w1.alloc (.cells zr.cells 50)) w1.heap.size (.cells r.enc.toArray 50 (0, 0))) := ((Mod.refl none_ w1).alloc _).set _ (fun q => absurd q (by omega))
    refine ld1 Try.underlying57 rfl (v := .func (.func 25) #[] #[]) (by rw [cell_blk (hm2.blk hf1 id)]; rfl) ?_
    refine ldB (cs := r.enc.toArray) Try.underlying50 rfl i50 (setB_new _ _ _ (by simp)) ?_
    refine CK_st Try.func25 rfl rfl (Left1 _ r) ?_
    rintro _ w3 ⟨rfl, hm3⟩
    have hJ3 := hJm _ _ _ hJ1 (hm2.trans hm3)
    cases hg : r.gone with
    | true =>
      simp only [CondK_bool, MG_b, NG_b, VG_b, UG_b, PG_b, BG_b, CG_b, IG_b, PK_bool, NK_ptr, not_ok, reduceCtorEq, if_true, if_false, Bool.true_eq_false, Bool.false_eq_true, Bool.not_true, Bool.not_false]
      rw [BK_add, wrap_i (by omega) (by omega)]
      refine ⟨⟨n + 1, hlt, rfl, h12, h11, h2, h0', ?_⟩, ?_⟩
      · rw [leftsTo_succ hx, hg, if_pos rfl, List.append_nil]; exact hJ3
      · simp only [sq_n, sq_x, sq_r, bk_n, bk_r, bk_x, rt_r, rt_n, rs_0, rs_t, pk_1, pk_2, up_at, reduceIte, Nat.reduceEqDiff, intOf]; omega
    | false =>
      simp only [CondK_bool, MG_b, NG_b, VG_b, UG_b, PG_b, BG_b, CG_b, IG_b, PK_bool, NK_ptr, not_ok, reduceCtorEq, if_true, if_false, Bool.true_eq_false, Bool.false_eq_true, Bool.not_true, Bool.not_false]
      have hi : (lefts xs)[(leftsTo xs n).length]? = some (n : Int) := by
        obtain ⟨tl, ht⟩ := leftsTo_pre xs (n + 1) (xs.length - (n + 1))
        unfold lefts
        rw [show xs.length = n + 1 + (xs.length - (n + 1)) by omega, ht, leftsTo_succ hx, hg]
        simp
      refine hy _ _ _ hi hJ3 _ fun w4 hJ4 => ?_
      simp only [CondK_bool, MG_b, NG_b, VG_b, UG_b, PG_b, BG_b, CG_b, IG_b, PK_bool, NK_ptr, not_ok, reduceCtorEq, if_true, if_false, Bool.true_eq_false, Bool.false_eq_true, Bool.not_true, Bool.not_false]
      rw [BK_add, wrap_i (by omega) (by omega)]
      refine ⟨⟨n + 1, hlt, rfl, h12, h11, h2, h0', ?_⟩, ?_⟩
      · rw [leftsTo_succ hx, hg, List.length_append]; exact hJ4
      · simp only [sq_n, sq_x, sq_r, bk_n, bk_r, bk_x, rt_r, rt_n, rs_0, rs_t, pk_1, pk_2, up_at, reduceIte, Nat.reduceEqDiff, intOf]; omega
  · have hd : decide ((n : Int) < (xs.length : Int)) = false := by simp; omega
    obtain rfl : n = xs.length := by omega
    rw [hd, CondK_bool, if_neg (by simp)]
    simp only [sq_n, sq_x, sq_r, bk_n, bk_r, bk_x, rt_r, rt_n, rs_0, rs_t, pk_1, pk_2, up_at, reduceIte, Nat.reduceEqDiff]
    exact hJ1

theorem ps7 : request_Table_Left_ps = #[7] := by kernel_rfl
theorem g6 : request_Table_Left_g = .tmp 6 := by kernel_rfl
theorem z27 : (Try.prog.info? 27).bind (·.zero) = some (.slice none 0 0) := by kernel_rfl
theorem c27 : Try.prog.cellsOf 27 = 1 := by kernel_rfl
theorem sl_one {w : World} {base : Nat} {e : TypeId} {size : Nat} {v : Value} {n : Nat} {xs : List Value} (h : w.ownsRow base e size v n xs) : v.oneCell' = true := by
  rcases h.2 with ⟨rfl, _⟩ | ⟨_, _, _, rfl, _⟩ <;> rfl

/-- What is so while the numbers are told. -/
structure Telling (w0 : World) (p : Option Addr) (is : List Int) (L0 : Loop) (k : Nat) (w : World) : Prop where
  go : ∃ vv, Mod none_ w0 w ∧ w.heap[w0.heap.size]? = some (.cells #[vv] 27 (0, 0)) ∧ w.ownsRow (w0.heap.size + 5) 3 1 vv k (ivs (is.take k)) ∧ w.heap[w0.heap.size + 1]? = some (.cells #[.pointer p] 25 (0, 0)) ∧
    w.heap[w0.heap.size + 2]? = some (.cells #[.func (.func 25) #[] #[]] 57 (0, 0)) ∧ w.heap[w0.heap.size + 3]? = some (.deferred (some [])) ∧ w.heap[w0.heap.size + 4]? = some (.loop L0)

theorem Left_gen {w : World} {p : Option Addr} {is : List Int} (his : is.length ≤ 1000000)
    (hc : ∀ (bp bf l : Nat) (w1 : World) (J : Nat → World → Prop), (∀ k w', J k w' → Mod none_ w w' ∧ w'.heap[bp]? = some (.cells #[.pointer p] 25 (0, 0)) ∧ w'.heap[bf]? = some (.cells #[.func (.func 25) #[] #[]] 57 (0, 0))) →
      (∀ k w w', J k w → Mod none_ w w' → J k w') → (∀ k w i, is[k]? = some i → J k w → ∀ K : Value → World → Prop, (∀ w', J (k + 1) w' → K (.bool true) w') → CK Try.prog (.func (.yield l) #[] #[]) [.int .i64 i] w K) → J 0 w1 →
      Rt Try.prog 29 #[.func (.yield l) #[] #[], .pointer (some ⟨bp, 0, none⟩), .pointer (some ⟨bf, 0, none⟩)] w1 fun _ w' => J is.length w') :
    Rt Try.prog 15 #[.pointer p] w fun v w' => w'.ownsRow w.heap.size 3 1 v is.length (ivs is) ∧ Mod none_ w w' := by
  refine calls_of_M (n := 13) (c := request_Table_Left_b) Try.func15 (by kernel_rfl) (by kernel_rfl) (Nat.le_of_ble_eq_true rfl) ?_
  rw [request_Table_Left_parts]
  refine seq_M (N := fun ρ' w' => ρ' 0 = .pointer p ∧ w = w') request_Table_Left_R0_ok (by rw [request_Table_Left_R0_eq]; exact ⟨rfl, rfl⟩) ?_
  rintro ρ1 _ ⟨h10, rfl⟩
  refine seq_M (N := fun ρ' w' => ρ' 0 = .pointer p ∧ ρ' 3 = .pointer (some ⟨w.heap.size, 0, none⟩) ∧ w' = w.alloc (.cells #[.slice none 0 0] 27)) request_Table_Left_R1_ok (by
    rw [request_Table_Left_R1_eq]
    unfold request_Table_Left_R1_F
    rw [alloc_ok z27]
    exact ⟨h10, rfl, rfl⟩) ?_
  rintro ρ2 _ ⟨h20, h23, rfl⟩
  refine seq_range (N := fun ρ' w' => ρ' 3 = .pointer (some ⟨w.heap.size, 0, none⟩) ∧ ρ' 6 = .func (.func 29) #[] #[.pointer (some ⟨w.heap.size + 1, 0, none⟩), .pointer (some ⟨w.heap.size + 2, 0, none⟩)] ∧
      w' = ((w.alloc (.cells #[.slice none 0 0] 27)).alloc (.cells #[.pointer p] 25)).alloc (.cells #[.func (.func 25) #[] #[]] 57)) request_Table_Left_R2_ok request_Table_Left_R5_ok (by
    rw [request_Table_Left_R2_eq]
    unfold request_Table_Left_R2_F
    rw [h20]
    refine CK_st Try.func24 rfl rfl (R := fun v w' => v = .func (.func 29) #[] #[.pointer (some ⟨w.heap.size + 1, 0, none⟩), .pointer (some ⟨w.heap.size + 2, 0, none⟩)] ∧
      w' = ((w.alloc (.cells #[.slice none 0 0] 27)).alloc (.cells #[.pointer p] 25)).alloc (.cells #[.func (.func 25) #[] #[]] 57)) (request_Table_some_calls ?_) ?_
    · unfold request_Table_some_F
      rw [box_ok, box_ok, mkFunc]
      exact ⟨by simp only [alloc_size], rfl⟩
    · rintro _ _ ⟨rfl, rfl⟩
      exact ⟨h23, rfl, rfl⟩) ?_
  rintro ρ3 w2 ⟨h33, h36, hw2⟩
  have hs2 : w2.heap.size = w.heap.size + 3 := by rw [hw2]; simp [alloc_size]
  have hm2 : Mod none_ w w2 := by rw [hw2]; exact (((Mod.refl none_ w).alloc _).alloc _).alloc _
  have hcell0 : w2.heap[w.heap.size]? = some (.cells #[.slice none 0 0] 27 (0, 0)) := by
    rw [hw2, alloc_old _ _ _ (by simp [alloc_size]; omega), alloc_old _ _ _ (by simp [alloc_size])]; exact alloc_new w _
  have hcell1 : w2.heap[w.heap.size + 1]? = some (.cells #[.pointer p] 25 (0, 0)) := by
    rw [hw2, alloc_old _ _ _ (by simp [alloc_size])]
    have := alloc_new (w.alloc (.cells #[.slice none 0 0] 27)) (.cells #[.pointer p] 25)
    rw [alloc_size] at this
    exact this
  have hcell2 : w2.heap[w.heap.size + 2]? = some (.cells #[.func (.func 25) #[] #[]] 57 (0, 0)) := by
    have := alloc_new ((w.alloc (.cells #[.slice none 0 0] 27)).alloc (.cells #[.pointer p] 25)) (.cells #[.func (.func 25) #[] #[]] 57)
    rw [alloc_size, alloc_size] at this
    rw [hw2]; exact this
  clear hw2
  refine ⟨29, Try.f29, #[.pointer (some ⟨w.heap.size + 1, 0, none⟩), .pointer (some ⟨w.heap.size + 2, 0, none⟩)], by rw [g6]; exact h36, Try.func29, rfl, rfl, ?_⟩
  intro fn0 tmps hts htv
  rw [hs2]
  have hL0s : (rec_ w2 fn0 tmps request_Table_Left_ps request_Table_Left_R3 request_Table_Left_R4).state = .ready := rfl
  have hL0p : (rec_ w2 fn0 tmps request_Table_Left_ps request_Table_Left_R3 request_Table_Left_R4).pending = none := rfl
  have hL0t : (rec_ w2 fn0 tmps request_Table_Left_ps request_Table_Left_R3 request_Table_Left_R4).tmps = tmps := rfl
  have hL0q : (rec_ w2 fn0 tmps request_Table_Left_ps request_Table_Left_R3 request_Table_Left_R4).params = #[7] := ps7
  have hL0a : (rec_ w2 fn0 tmps request_Table_Left_ps request_Table_Left_R3 request_Table_Left_R4).assign = request_Table_Left_R3 := rfl
  have hL0b : (rec_ w2 fn0 tmps request_Table_Left_ps request_Table_Left_R3 request_Table_Left_R4).body = request_Table_Left_R4 := rfl
  have hen : (enter_ w2 (rec_ w2 fn0 tmps request_Table_Left_ps request_Table_Left_R3 request_Table_Left_R4)) = (w2.alloc (.deferred (some []))).alloc (.loop (rec_ w2 fn0 tmps request_Table_Left_ps request_Table_Left_R3 request_Table_Left_R4)) := rfl
  rw [hen]
  generalize rec_ w2 fn0 tmps request_Table_Left_ps request_Table_Left_R3 request_Table_Left_R4 = L0 at *
  refine Rt.mono (hc (w.heap.size + 1) (w.heap.size + 2) (w.heap.size + 4) ((w2.alloc (.deferred (some []))).alloc (.loop L0)) (Telling w p is L0) ?_ ?_ ?_ ?_) ?_
  · rintro k w' ⟨vv, h1, h2, h3, h4, h5, h6, h7⟩
    exact ⟨h1, h4, h5⟩
  · rintro k w' w'' ⟨vv, h1, h2, h3, h4, h5, h6, h7⟩ hm
    exact ⟨vv, h1.trans hm, hm.blk h2 id, owns_mod h3 hm (fun _ _ => id), hm.blk h4 id, hm.blk h5 id, hm.blk h6 id, hm.blk h7 id⟩
  · rintro k w' i hi ⟨vv, h1, h2, h3, h4, h5, h6, h7⟩ K hK
    have hk : k < is.length := by
      rcases Nat.lt_or_ge k is.length with q | q
      · exact q
      · rw [List.getElem?_eq_none q] at hi; cases hi
    refine CK_yield h7 (by rw [hL0q]; rfl) ?_
    rw [hL0a, hL0b, hL0q, hL0t]
    have hz : ((#[7] : Array Tmp).zip [Value.int .i64 i].toArray).foldl (fun tmps (t, a) => tmps.setIfInBounds t a) tmps = tmps.setIfInBounds 7 (.int .i64 i) := by simp
    rw [hz]
    refine round_of (n := 13) (ρ := up ρ3 7 (.int .i64 i)) (by simp [hts]) (fun j => ?_) request_Table_Left_R3_ok request_Table_Left_R4_ok ?_
    · rw [up_at]
      have hv := htv j
      simp only [Array.getD_eq_getD_getElem?] at hv ⊢
      rw [Array.getElem?_setIfInBounds]
      by_cases e : 7 = j
      · subst e; simp [hts]
      · rw [if_neg e, if_neg (fun q => e q.symm)]; exact hv
    rw [request_Table_Left_R3_eq]
    unfold request_Table_Left_R3_F
    refine ⟨L0, h7, hL0s, ?_⟩
    rw [request_Table_Left_R4_eq]
    unfold request_Table_Left_R4_F
    simp only [sq_n, sq_x, sq_r, bk_n, bk_r, bk_x, rt_r, rt_n, rs_0, rs_t, pk_1, pk_2, up_at, reduceIte, Nat.reduceEqDiff, h33]
    have hmb : Mod (fun b => b = w.heap.size + 4) w' (w'.putObj (w.heap.size + 4) (.loop { L0 with state := .busy })) := (Mod.refl _ w').put _ (fun _ => rfl)
    have hB := X.blk_lt h7
    have hown' : (w'.putObj (w.heap.size + 4) (.loop { L0 with state := .busy })).ownsRow (w.heap.size + 5) 3 1 vv k (ivs (is.take k)) := owns_mod h3 hmb (fun b hb q => by have := h3.lt b hb; omega)
    have hlk : (ivs (is.take k)).length = k := by rw [ivs_len, List.length_take]; omega
    refine ld1 Try.underlying27 rfl (v := vv) (by rw [cell_blk (hmb.blk h2 (by omega))]; rfl) ?_
    refine snoc e27 hown' (b27 _) rfl (by simp [Value.oneCell']) (by unfold maxLen; omega) (by omega) (by rw [putB, setB_size]; omega) fun y v2 w3 h3' hm3 ho3 => ?_
    have hne : ∀ b, b < w.heap.size + 5 → some b ≠ vv.ownBlock := fun b hb q => by have := h3.lt b q.symm; omega
    have hsz : (w'.putObj (w.heap.size + 4) (.loop { L0 with state := .busy })).heap.size = w'.heap.size := by rw [putB, setB_size]
    have hc2 := hm3.blk (hmb.blk h2 (by omega)) (hne _ (by omega))
    refine st1 (o := 0) c27 (sl_one h3') hc2 (by simp) ?_
    have hc3 : (setB w3 w.heap.size (.cells (#[vv].setIfInBounds 0 v2) 27 (0, 0))).heap[w.heap.size + 4]? = some (.loop { L0 with state := .busy }) := by
      rw [setB_old _ _ _ _ (by omega)]
      refine hm3.blk ?_ (hne _ (by omega))
      rw [putB, setB_new _ _ _ (by omega)]
    refine ⟨_, hc3, hK _ ⟨v2, ?_, ?_, ?_, ?_, ?_, ?_, ?_⟩⟩
    · refine Mod.put (Mod.set ?_ _ (fun q => absurd q (by omega))) _ (fun q => absurd q (by omega))
      exact (h1.then hmb (fun b hb q => absurd q (by omega))).then hm3 (fun b hb q => absurd q (hne b (by omega)))
    · rw [putB, setB_old _ _ _ _ (by omega), setB_new _ _ _ (X.blk_lt hc2)]; rfl
    · have ho2 : ∀ b, v2.ownBlock = some b → w.heap.size + 5 ≤ b := fun b hb => (h3'.lt b hb).1
      have h9 : w3.ownsRow (w.heap.size + 5) 3 1 v2 (k + 1) (ivs (is.take (k + 1))) := by
        rw [List.take_add_one, hi]
        simp only [Option.toList_some]
        rw [ivs_snoc]
        exact h3'
      refine owns_mod (owns_mod h9 (((Mod.refl (fun b => b = w.heap.size) w3).set _ (fun _ => rfl))) (fun b hb q => by have := ho2 b hb; omega)) ((Mod.refl (fun b => b = w.heap.size + 4) _).put _ (fun _ => rfl)) (fun b hb q => by have := ho2 b hb; omega)
    · rw [putB, setB_old _ _ _ _ (by omega), setB_old _ _ _ _ (by omega)]; exact hm3.blk (hmb.blk h4 (by omega)) (hne _ (by omega))
    · rw [putB, setB_old _ _ _ _ (by omega), setB_old _ _ _ _ (by omega)]; exact hm3.blk (hmb.blk h5 (by omega)) (hne _ (by omega))
    · rw [putB, setB_old _ _ _ _ (by omega), setB_old _ _ _ _ (by omega)]; exact hm3.blk (hmb.blk h6 (by omega)) (hne _ (by omega))
    · rw [putB, setB_new _ _ _ (by rw [setB_size]; have := X.blk_lt hc3; rw [setB_size] at this; exact this), ← hL0s, ← hL0p]
  · have hd : ((w2.alloc (.deferred (some []))).alloc (.loop L0)).heap[w.heap.size + 3]? = some (.deferred (some [])) := by
      rw [alloc_old _ _ _ (by rw [alloc_size]; omega), ← hs2]; exact alloc_new w2 _
    have hl : ((w2.alloc (.deferred (some []))).alloc (.loop L0)).heap[w.heap.size + 4]? = some (.loop L0) := by
      have := alloc_new (w2.alloc (.deferred (some []))) (.loop L0)
      rw [alloc_size, hs2] at this
      exact this
    have hma : Mod none_ w2 ((w2.alloc (.deferred (some []))).alloc (.loop L0)) := ((Mod.refl none_ w2).alloc _).alloc _
    exact ⟨.slice none 0 0, hm2.trans hma, hma.blk hcell0 id, World.ownsRow_nil _ _ _ _, hma.blk hcell1 id, hma.blk hcell2 id, hd, hl⟩
  · rintro v w3 ⟨vv, h1, h2, h3, h4, h5, h6, h7⟩
    refine ⟨L0, h7, by rw [hL0s]; decide, hL0p, ?_⟩
    rw [request_Table_Left_R5_eq]
    unfold request_Table_Left_R5_F
    rw [h33]
    refine ld1 Try.underlying27 rfl (v := vv) (by rw [putB, cell_blk ((setB_old _ _ _ _ (by omega)).trans h2)]; rfl) ?_
    have hov : ∀ b, vv.ownBlock = some b → w.heap.size + 5 ≤ b := fun b hb => (h3.lt b hb).1
    have hm4 : Mod (fun b => b = w.heap.size + 4 ∨ b = w.heap.size + 3) w3 ((w3.putObj (w.heap.size + 4) (.loop { L0 with state := .exhausted })).putObj (w.heap.size + 3) (.deferred none)) := ((Mod.refl _ w3).put _ (fun _ => .inl rfl)).put _ (fun _ => .inr rfl)
    refine ⟨?_, ?_⟩
    · rw [putB, setB_old _ _ _ _ (by omega)]; exact h6
    · have h9 := owns_mod h3 hm4 (fun b hb q => by have := hov b hb; omega)
      rw [List.take_length] at h9
      exact ⟨⟨h9.1, h9.2.imp id fun ⟨g, cap, cur, e1, e2, e3⟩ => ⟨g, cap, cur, e1, by omega, e3⟩⟩, h1.then hm4 (fun b hb q => absurd q (by omega))⟩

theorem Left_nil {w : World} {p : Option Addr} (h : NilTab w p) : Rt Try.prog 15 #[.pointer p] w fun v w' => w'.ownsRow w.heap.size 3 1 v 0 [] ∧ Mod none_ w w' := by
  refine Left_gen (is := []) (by simp) fun bp bf l w1 J hJ hJm hy h0 => ?_
  obtain ⟨hm, hp, _⟩ := hJ _ _ h0
  refine request_Table_some_1_calls ?_
  unfold request_Table_some_1_F
  refine ld1 Try.underlying25 rfl (v := .pointer p) (by rw [cell_blk hp]; rfl) ?_
  refine CK_st Try.func23 rfl rfl (none_nil (h.mod hm)) ?_
  rintro _ w' ⟨rfl, rfl⟩
  simp only [CondK_bool, MG_b, NG_b, VG_b, UG_b, PG_b, BG_b, CG_b, IG_b, PK_bool, NK_ptr, not_ok, reduceCtorEq, if_true, if_false, Bool.true_eq_false, Bool.false_eq_true, Bool.not_true, Bool.not_false]
  exact h0
theorem IsTab.mod {S : Nat → Prop} {w w' : World} {B t : Nat} {v : Value} {xs : List R} (h : IsTab w B t v xs) (hm : Mod S w w') (ht : ¬ S t) (hv : ∀ b, v.ownBlock = some b → ¬ S b) : IsTab w' B t v xs := ⟨h.1, hm.blk h.2.1 ht, owns_mod h.2.2 hm hv⟩
theorem lefts_len (xs : List R) : (lefts xs).length ≤ xs.length := by
  unfold lefts leftsTo
  rw [List.length_map]
  exact Nat.le_trans (List.length_filter_le _ _) (by simp)
theorem Left_made {w : World} {B t : Nat} {v : Value} {xs : List R} (h : IsTab w B t v xs) (hn : xs.length ≤ 1000000) : Rt Try.prog 15 #[.pointer (some ⟨t, 0, none⟩)] w fun u w' => w'.ownsRow w.heap.size 3 1 u (lefts xs).length (ivs (lefts xs)) ∧ Mod none_ w w' := by
  refine Left_gen (by have := lefts_len xs; omega) fun bp bf l w1 J hJ hJm hy h0 => ?_
  exact some1_made J (fun k w' hk => by obtain ⟨a, b, c⟩ := hJ k w' hk; exact ⟨h.mod a id (fun _ _ => id), b, c⟩) hJm hy h0 hn
end Go.Proofs.Ytnopejgpbnlmpaa.Req
