/- RequestLeft, walked. -/
import Derived.Test.YtnopejgpbnlmpaaLeftPure
set_option linter.unusedVariables false
set_option linter.unusedSimpArgs false
namespace Go.Proofs.Ytnopejgpbnlmpaa.Req
open Go Go.X Go.RowKit Go.Proofs.Ytnopejgpbnlmpaa.XF

theorem great_of {al : List A} (h : great al = false) : al.length ≤ 600 ∧ ∀ a ∈ al, a.l.length ≤ 20 := by
  unfold great at h
  rw [Bool.or_eq_false_iff] at h
  refine ⟨by simpa using h.1, fun a ha => ?_⟩
  have := List.any_eq_false.1 h.2 a ha
  simpa using this
theorem b22a (a : A) : builtRow Try.prog 27 1 [(0, .int .i64 (a.l.headD (-1)))] = some (ivs [a.l.headD (-1)]).toArray := b27 _
theorem zA_zero : (Try.prog.info? 29).bind (·.zero) = some (.agg #[.int .u8 0, .bool false, .slice none 0 0, .int .i64 0, .int .i64 0, .int .i64 0]) := by kernel_rfl
theorem encA_one (a : A) {n c : Nat} {X : Option Addr} (h : a.lv = .slice X n c) : (a.enc.toArray.all (·.oneCell')) = true := by simp [A.enc, Value.oneCell', h]
theorem iA29 : (Try.prog.info? 29).map (·.size) = some 6 := by kernel_rfl
theorem may_has (k : Int) (S : List Int) : (!(((if (decide (k ∈ S)) = true then (0 : Int) else 120) == 0) == decide (k ∈ S))) = false := by
  by_cases q : k ∈ S <;> simp [q]
theorem reads_lt {w : World} {size : Nat} {v : Value} {n : Nat} {xs : List Value} (h : reads w size v n xs) (hx : xs ≠ []) : ∀ k, v.ownBlock = some k → k < w.heap.size := by
  intro k hk
  obtain ⟨hl, A, c, rfl, _, hr⟩ := h
  obtain ⟨a, rfl, hc⟩ := hr 0 _ (List.getElem?_eq_getElem (List.length_pos_iff.2 hx))
  have := World.block_lt_of_cell? _ _ hc
  rw [add_block] at this
  simp [Value.ownBlock] at hk
  omega
theorem no_touch {w : World} {B t U : Nat} {v : Value} {xs : List R} {cs : Array Value} (hT : IsTab w B t v xs) (hU : w.heap[U]? = some (.cells cs 29 (0, 0))) : ¬ touch t v U := by
  intro q
  rcases q with q | q
  · have := hT.2.1
    rw [← q, hU] at this
    simp at this
  · exact owns_ne_blk hT.2.2 hU (by decide) q.symm
theorem lits27 (i j : Int) : builtRow Try.prog 27 2 [(0, .int .i64 i), (1, .int .i64 j)] = some (ivs [i, j]).toArray := by kernel_rfl

/-- What is so ahead of each round. -/
structure InvL (w0 : World) (B t : Nat) (w : World) (lf : Value) (xs : List R) : Prop where
  mod : Mod none_ w0 w
  base : w0.heap.size ≤ B
  tab : ∃ v, IsTab w B t v xs
  left : w.ownsRow w0.heap.size 3 1 lf (lefts xs).length (ivs (lefts xs))
  whole : Whole xs
  few : xs.length ≤ 256

set_option maxHeartbeats 1600000 in
theorem Left_law {w : World} {v : Value} {al : List A} (h : Acts w v al) : Rt Try.prog 3 #[v] w fun u w' => u = .bool true ∧ Mod none_ w w' := by
  obtain ⟨A0, c0, rfl, _⟩ := reads_cap h.1
  refine dispatcherlaw12_RequestLeft_calls ?_
  unfold dispatcherlaw12_RequestLeft_F
  refine CK_st Try.func6 rfl rfl (awake_ok w) ?_
  rintro _ w1 ⟨rfl, hm1⟩
  simp only [CondK_bool, MG_b, NG_b, VG_b, UG_b, PG_b, BG_b, CG_b, IG_b, PK_bool, NK_ptr, not_ok, reduceCtorEq, if_true, if_false, Bool.true_eq_false, Bool.false_eq_true, Bool.not_true, Bool.not_false]
  have h1 : Acts w1 (.slice A0 al.length c0) al := ⟨reads_mod h.1 hm1 (fun _ _ _ => id), fun a ha => (h.2 a ha).mod hm1⟩
  refine CK_st Try.func7 rfl rfl (Great_ok h1) ?_
  rintro _ w1 ⟨rfl, rfl⟩
  cases hg : great al with
  | true => simp only [CondK_bool, MG_b, NG_b, VG_b, UG_b, PG_b, BG_b, CG_b, IG_b, PK_bool, NK_ptr, not_ok, reduceCtorEq, if_true, if_false, Bool.true_eq_false, Bool.false_eq_true, Bool.not_true, Bool.not_false]; exact ⟨trivial, hm1⟩
  | false =>
  simp only [CondK_bool, MG_b, NG_b, VG_b, UG_b, PG_b, BG_b, CG_b, IG_b, PK_bool, NK_ptr, not_ok, reduceCtorEq, if_true, if_false, Bool.true_eq_false, Bool.false_eq_true, Bool.not_true, Bool.not_false]
  obtain ⟨hal, hsm⟩ := great_of hg
  refine CK_st Try.func8 rfl rfl (New_made w1) ?_
  rintro _ w2 ⟨t, rfl, hT2, hm2⟩
  have hBw : w.heap.size ≤ w1.heap.size := hm1.size
  generalize w1.heap.size = B at *
  refine W_loop dispatcherlaw12_RequestLeft_L0_ok (fun ρ w' => ∃ (n : Nat) (lf : Value) (xs : List R), n ≤ al.length ∧ ρ 6 = .int .i64 n ∧ ρ 0 = .slice A0 al.length c0 ∧ ρ 3 = .pointer (some ⟨t, 0, none⟩) ∧ ρ 4 = lf ∧ ρ 5 = .int .i64 xs.length ∧ InvL w B t w' lf xs) (fun ρ _ => al.length - (intOf (ρ 6)).toNat)
    ⟨0, .slice none 0 0, [], Nat.zero_le _, rfl, rfl, rfl, rfl, rfl, ⟨hm1.trans hm2, hBw, ⟨_, hT2⟩, World.ownsRow_nil _ _ _ _, fun r hr => by simp at hr, by simp⟩⟩ ?_
  clear hm1 hm2 hT2 h1 hg
  rintro ρ w3 ⟨n, lf, xs, hn', h6, h0, h3, h4, h5, hI⟩
  rw [dispatcherlaw12_RequestLeft_L0_eq]
  unfold dispatcherlaw12_RequestLeft_L0_F
  rw [h6, h0, len_sl Try.underlying22, BK_lss]
  by_cases hlt : n < al.length
  case neg =>
    obtain rfl : n = al.length := by omega
    rw [show decide ((al.length : Int) < (al.length : Int)) = false by simp]
    simp only [CondK_bool, MG_b, NG_b, VG_b, UG_b, PG_b, BG_b, CG_b, IG_b, PK_bool, NK_ptr, not_ok, reduceCtorEq, if_true, if_false, Bool.true_eq_false, Bool.false_eq_true, Bool.not_true, Bool.not_false, sq_n, sq_x, sq_r, bk_n, bk_r, bk_x, rt_r, rt_n, rs_0, rs_t, pk_1, pk_2, up_at, reduceIte, Nat.reduceEqDiff]
    rw [dispatcherlaw12_RequestLeft_R1_eq]
    unfold dispatcherlaw12_RequestLeft_R1_F
    simp only [sq_n, sq_x, sq_r, bk_n, bk_r, bk_x, rt_r, rt_n, rs_0, rs_t, pk_1, pk_2, up_at, reduceIte, Nat.reduceEqDiff]
    exact ⟨trivial, hI.mod⟩
  rw [show decide ((n : Int) < (al.length : Int)) = true by simp; omega]
  obtain ⟨a, hx⟩ : ∃ a, al[n]? = some a := ⟨_, List.getElem?_eq_getElem hlt⟩
  simp only [CondK_bool, MG_b, NG_b, VG_b, UG_b, PG_b, BG_b, CG_b, IG_b, PK_bool, NK_ptr, not_ok, reduceCtorEq, if_true, if_false, Bool.true_eq_false, Bool.false_eq_true, Bool.not_true, Bool.not_false]
  have ham := List.mem_of_getElem? hx
  have haok := h.2 a ham
  have hal20 := hsm a ham
  refine ixldA (sz := 5) Try.underlying22 c29 Try.underlying29 rfl (reads_mod h.1 hI.mod (fun _ _ _ => id)) (by omega) (by omega) fun y => ?_
  have hfl : (List.drop ((n : Int).toNat * (5 + 1)) (al.flatMap A.enc)).take (5 + 1) = a.enc := fl_drop (k := 6) A.enc_len (by simpa using hx)
  rw [hfl]
  obtain ⟨Aa, ca, hlv, _⟩ := reads_cap haok
  refine lcl_k (cs := a.enc.toArray) zA_zero _ iA29 rfl (encA_one a hlv) fun w4 hb4 hm4 hs4 => ?_
  have hU : w3.heap.size < w4.heap.size := by omega
  have hUw : w.heap.size ≤ w3.heap.size := hI.mod.size
  have hI4 : InvL w B t w4 lf xs := by
    obtain ⟨v, hT⟩ := hI.tab
    exact ⟨hI.mod.trans hm4, hI.base, ⟨v, hT.none hm4⟩, owns_mod hI.left hm4 (fun _ _ => id), hI.whole, hI.few⟩
  have hIm := hI.mod
  clear hI
  have hUB : B ≤ w3.heap.size ∨ True := .inr trivial
  generalize w3.heap.size = U at *
  rw [f29_0]
  refine ld1 Try.underlying5 rfl (v := .int .u8 a.kind) (by rw [add_pl, cell_blk hb4]; rfl) ?_
  rw [BK_rem (by decide), BK_eql]
  -- the rest of a round, behind the act
  have fin : ∀ (ρ : Sl) (w5 : World) (lf : Value) (xs : List R), ρ 6 = .int .i64 n → ρ 0 = .slice A0 al.length c0 → ρ 3 = .pointer (some ⟨t, 0, none⟩) → ρ 4 = lf → ρ 5 = .int .i64 xs.length → ρ 7 = .pointer (some ⟨U, 0, none⟩) → w5.heap[U]? = some (.cells a.enc.toArray 29 (0, 0)) → InvL w B t w5 lf xs →
      ∀ (I : Sl → World → Prop), (∀ (ρ' : Sl) (w' : World), ρ' 6 = .int .i64 (n + 1 : Nat) → ρ' 0 = .slice A0 al.length c0 → ρ' 3 = .pointer (some ⟨t, 0, none⟩) → ρ' 4 = lf → ρ' 5 = .int .i64 xs.length → InvL w B t w' lf xs → I ρ' w') → ∀ (K : Exit → Sl → World → Prop),
      sx fn_ Try.prog 105 dispatcherlaw12_RequestLeft_R2 (blkK 1 (seqK (sx fn_ Try.prog 105 dispatcherlaw12_RequestLeft_R4 (seqK I K)) (seqK I K))) ρ w5 := by
    intro ρ w5 lf xs g6 g0 g3 g4 g5 g7 hb5 hI I hIk K
    obtain ⟨hmod, hbase, ⟨v, hT⟩, hleft, hwhole, hfew⟩ := hI
    rw [dispatcherlaw12_RequestLeft_R2_eq]
    unfold dispatcherlaw12_RequestLeft_R2_F
    rw [g3, g4, g5, g7]
    refine CK_st Try.func15 rfl rfl (Left_made hT (by omega)) ?_
    rintro x75 w6 ⟨h75, hm6⟩
    have hleft6 := owns_mod hleft hm6 (fun _ _ => id)
    have hll := lefts_len xs
    refine CK_st Try.func14 rfl rfl (Ints_ok (reads_of_owns h75) (reads_of_owns hleft6) (by omega)) ?_
    rintro _ w7 ⟨rfl, hm7⟩
    simp only [decide_true, CondK_bool, MG_b, NG_b, VG_b, UG_b, PG_b, BG_b, CG_b, IG_b, PK_bool, NK_ptr, not_ok, reduceCtorEq, if_true, if_false, Bool.true_eq_false, Bool.false_eq_true, Bool.not_true, Bool.not_false]
    have hT7 := (hT.none hm6).none hm7
    refine CK_st Try.func11 rfl rfl (Many_made hT7) ?_
    rintro _ w7 ⟨rfl, rfl⟩
    simp only [CondK_bool, MG_b, NG_b, VG_b, UG_b, PG_b, BG_b, CG_b, IG_b, PK_bool, NK_ptr, not_ok, reduceCtorEq, if_true, if_false, Bool.true_eq_false, Bool.false_eq_true, Bool.not_true, Bool.not_false, BK_neq, show ((xs.length : Int) != (xs.length : Int)) = false by simp]
    rw [f29_2]
    have hb7 := (hm6.trans hm7).blk hb5 id
    refine ld1 Try.underlying27 rfl (v := a.lv) (by rw [add_pl, cell_blk hb7]; rfl) ?_
    have ha7 := haok.mod ((hmod.trans hm6).trans hm7)
    refine CK_st Try.func16 rfl rfl (first_ok ha7) ?_
    rintro _ w7 ⟨rfl, rfl⟩
    refine lit27 (is := [a.l.headD (-1)]) (b22a a) rfl (by decide) fun x90 w8 h90 hm8 => ?_
    have hT8 := hT7.none hm8
    refine CK_st Try.func17 rfl rfl (May_made hT8 (reads_of_owns h90) (by simp)) ?_
    rintro _ w9 ⟨rfl, hm9⟩
    rw [may_one, BK_eql]
    have hleft9 := owns_mod (owns_mod (owns_mod hleft6 hm7 (fun _ _ => id)) hm8 (fun _ _ => id)) hm9 (fun _ _ => id)
    refine CK_st Try.func18 rfl rfl (has_ok (reads_of_owns hleft9) (by omega)) ?_
    rintro _ w9 ⟨rfl, rfl⟩
    rw [BK_neqB Try.underlying4]
    rw [may_has]
    simp only [CondK_bool, MG_b, NG_b, VG_b, UG_b, PG_b, BG_b, CG_b, IG_b, PK_bool, NK_ptr, not_ok, reduceCtorEq, if_true, if_false, Bool.true_eq_false, Bool.false_eq_true, Bool.not_true, Bool.not_false]
    refine lit27 (is := [a.l.headD (-1), a.l.headD (-1)]) (lits27 _ _) rfl (by decide) fun x101 w10 h101 hm10 => ?_
    have hT10 := (hT8.none hm9).none hm10
    refine CK_st Try.func17 rfl rfl (May_made hT10 (reads_of_owns h101) (by simp)) ?_
    rintro _ w11 ⟨rfl, hm11⟩
    rw [may_two]
    simp only [CondK_bool, MG_b, NG_b, VG_b, UG_b, PG_b, BG_b, CG_b, IG_b, PK_bool, NK_ptr, not_ok, reduceCtorEq, if_true, if_false, Bool.true_eq_false, Bool.false_eq_true, Bool.not_true, Bool.not_false, BK_eql, show ((120 : Int) == 0) = false from rfl, sq_n, sq_x, sq_r, bk_n, bk_r, bk_x, rt_r, rt_n, rs_0, rs_t, pk_1, pk_2, up_at, reduceIte, Nat.reduceEqDiff]
    rw [dispatcherlaw12_RequestLeft_R4_eq]
    unfold dispatcherlaw12_RequestLeft_R4_F
    simp only [sq_n, sq_x, sq_r, bk_n, bk_r, bk_x, rt_r, rt_n, rs_0, rs_t, pk_1, pk_2, up_at, reduceIte, Nat.reduceEqDiff, g6]
    rw [BK_add, wrap_i (by omega) (by omega)]
    have hmA := ((((hm6.trans hm7).trans hm8).trans hm9).trans hm10).trans hm11
    refine hIk _ _ ?_ ?_ ?_ ?_ ?_ ⟨hmod.trans hmA, hbase, ⟨v, hT.none hmA⟩, owns_mod hleft hmA (fun _ _ => id), hwhole, hfew⟩
    · rfl
    · exact g0
    · exact g3
    · exact g4
    · exact g5
  have arm : ∀ (ρ : Sl) (b : Bool), ρ 56 = .bool b → ρ 6 = .int .i64 n → ρ 0 = .slice A0 al.length c0 → ρ 3 = .pointer (some ⟨t, 0, none⟩) → ρ 4 = lf → ρ 5 = .int .i64 xs.length → ρ 7 = .pointer (some ⟨U, 0, none⟩) →
      ∀ (I : Sl → World → Prop), (∀ (ρ' : Sl) (w' : World) (lf : Value) (xs : List R), ρ' 6 = .int .i64 (n + 1 : Nat) → ρ' 0 = .slice A0 al.length c0 → ρ' 3 = .pointer (some ⟨t, 0, none⟩) → ρ' 4 = lf → ρ' 5 = .int .i64 xs.length → InvL w B t w' lf xs → I ρ' w') → ∀ (K : Exit → Sl → World → Prop),
      sx fn_ Try.prog 105 dispatcherlaw12_RequestLeft_R3 (blkK 2 (seqK (sx fn_ Try.prog 105 dispatcherlaw12_RequestLeft_R2 (blkK 1 (seqK (sx fn_ Try.prog 105 dispatcherlaw12_RequestLeft_R4 (seqK I K)) (seqK I K)))) (blkK 1 (seqK (sx fn_ Try.prog 105 dispatcherlaw12_RequestLeft_R4 (seqK I K)) (seqK I K))))) ρ w4 := by
    intro ρ b g56 g6 g0 g3 g4 g5 g7 I hIk K
    obtain ⟨hmod, hbase, ⟨v, hT⟩, hleft, hwhole, hfew⟩ := hI4
    rw [dispatcherlaw12_RequestLeft_R3_eq]
    unfold dispatcherlaw12_RequestLeft_R3_F
    rw [g56, g3, g4, g5, g7, CondK_bool]
    have hBt : ∀ k, touch t v k → ¬ k < w.heap.size := fun k q => by have := touch_ge hT k q; omega
    have hll := lefts_len xs
    cases b with
    | true =>
      simp only [if_true]
      rw [f29_1]
      refine ld1 Try.underlying4 rfl (v := .bool a.yes) (by rw [add_pl, cell_blk hb4]; rfl) ?_
      refine CK_st Try.func9 rfl rfl (Add_made hT a.yes true hfew) ?_
      rintro _ w5 ⟨rfl, v5, hT5, hm5⟩
      have hb5 := hm5.blk hb4 (no_touch hT hb4)
      have hl5 := owns_mod hleft hm5 (own3_touch hT hleft)
      have hM5 : Mod none_ w w5 := hmod.then hm5 fun k hk q => absurd hk (hBt k q)
      rw [extract_ok (v := .int .i64 (if xs.length = 256 then 0 else xs.length)) rfl, extract_ok (v := .int .i64 (if xs.length = 256 then 4 else 0)) rfl, BK_eql]
      by_cases h6 : xs.length = 256
      · simp only [h6, if_true, show ((4 : Int) == 0) = false from rfl, CondK_bool, MG_b, NG_b, VG_b, UG_b, PG_b, BG_b, CG_b, IG_b, PK_bool, NK_ptr, not_ok, reduceCtorEq, if_true, if_false, Bool.true_eq_false, Bool.false_eq_true, Bool.not_true, Bool.not_false, sq_n, sq_x, sq_r, bk_n, bk_r, bk_x, rt_r, rt_n, rs_0, rs_t, pk_1, pk_2, up_at, reduceIte, Nat.reduceEqDiff]
        have e : addOf xs a.yes true = xs := by unfold addOf; rw [if_pos h6]
        rw [e] at hT5
        refine fin _ w5 lf xs ?_ ?_ ?_ ?_ ?_ ?_ hb5 ⟨hM5, hbase, ⟨v5, hT5⟩, hl5, hwhole, hfew⟩ I (fun ρ' w' => hIk ρ' w' lf xs) K
        · exact g6
        · exact g0
        · exact g3
        · exact g4
        · exact g5
        · exact g7
      · rw [if_neg h6, if_neg h6]
        simp only [show ((0 : Int) == 0) = true from rfl, CondK_bool, MG_b, NG_b, VG_b, UG_b, PG_b, BG_b, CG_b, IG_b, PK_bool, NK_ptr, not_ok, reduceCtorEq, if_true, if_false, Bool.true_eq_false, Bool.false_eq_true, Bool.not_true, Bool.not_false]
        refine snoc e27 hl5 (b27 _) rfl (by simp [Value.oneCell']) (by unfold maxLen; omega) (by omega) hM5.size fun y2 lf2 w6 hl6 hm6 _ => ?_
        rw [BK_add, wrap_i (by omega) (by omega)]
        simp only [sq_n, sq_x, sq_r, bk_n, bk_r, bk_x, rt_r, rt_n, rs_0, rs_t, pk_1, pk_2, up_at, reduceIte, Nat.reduceEqDiff]
        have hT6 := hT5.mod hm6 (fun q => own3_touch hT5 hl5 t q.symm (.inl rfl)) (fun k hk q => own3_touch hT5 hl5 k q.symm (.inr hk.symm))
        have elen : (addOf xs a.yes true).length = xs.length + 1 := by unfold addOf; rw [if_neg h6]; simp
        refine fin _ w6 lf2 (addOf xs a.yes true) ?_ ?_ ?_ ?_ ?_ ?_ (hm6.blk hb5 (fun q => owns_ne_blk hl5 hb5 (by decide) q.symm)) ⟨hM5.then hm6 (fun k hk q => by have := (hl5.lt k q.symm).1; omega), hbase, ⟨v5, hT6⟩, ?_, whole_add hwhole _, by rw [elen]; omega⟩ I (fun ρ' w' => hIk ρ' w' lf2 _) K
        · exact g6
        · exact g0
        · exact g3
        · rfl
        · rw [elen]; rfl
        · exact g7
        · rw [lefts_add xs a.yes h6, ivs_snoc, List.length_append]
          exact hl6
    | false =>
      simp only [Bool.false_eq_true, if_false]
      rw [f29_2]
      refine ld1 Try.underlying27 rfl (v := a.lv) (by rw [add_pl, cell_blk hb4]; rfl) ?_
      have ha4 := haok.mod hmod
      have hlb : a.l ≠ [] → ∀ k, a.lv.ownBlock = some k → ¬ touch t v k := fun hne k hk q => by
        have h1 := reads_lt haok (fun q => hne (by cases hq : a.l with | nil => rfl | cons x l => rw [hq] at q; simp [ivs] at q)) k hk
        exact hBt k q h1
      refine CK_st Try.func10 rfl rfl (Take_made hT ha4 (by omega) hlb) ?_
      rintro _ w5 ⟨o, rfl, hT5, -, hm5⟩
      have hb5 := hm5.blk hb4 (no_touch hT hb4)
      have hl5 := owns_mod hleft hm5 (own3_touch hT hleft)
      have hM5 : Mod none_ w w5 := hmod.then hm5 fun k hk q => absurd hk (hBt k q)
      rw [extract_ok (v := o) rfl, extract_ok (v := .int .i64 (if takeOk xs a.l then 0 else 120)) rfl, BK_eql]
      refine CK_st Try.func11 rfl rfl (Many_made hT5) ?_
      rintro _ w5 ⟨rfl, rfl⟩
      have elen : (if takeOk xs a.l = true then goneTo xs a.l a.l.length else xs).length = xs.length := by split <;> simp [goneTo_len]
      rw [elen, BK_gtr]
      have htk := take_left hwhole a.l
      have ha5 := haok.mod hM5
      have tail : ∀ (ρ' : Sl) (w6 : World), ρ' 6 = .int .i64 n → ρ' 0 = .slice A0 al.length c0 → ρ' 3 = .pointer (some ⟨t, 0, none⟩) → ρ' 4 = lf → ρ' 5 = .int .i64 xs.length → ρ' 7 = .pointer (some ⟨U, 0, none⟩) → Mod none_ w5 w6 → takeOk xs a.l = false →
          sx fn_ Try.prog 105 dispatcherlaw12_RequestLeft_R2 (blkK 1 (seqK (sx fn_ Try.prog 105 dispatcherlaw12_RequestLeft_R4 (seqK I K)) (seqK I K))) ρ' w6 := by
        intro ρ' w6 e6 e0 e3 e4 e5 e7 hm6 hno
        rw [hno] at hT5
        simp only [Bool.false_eq_true, if_false] at hT5
        refine fin ρ' w6 lf xs e6 e0 e3 e4 e5 e7 (hm6.blk hb5 id) ⟨hM5.trans hm6, hbase, ⟨v, hT5.none hm6⟩, owns_mod hl5 hm6 (fun _ _ => id), hwhole, hfew⟩ I (fun ρ' w' => hIk ρ' w' lf xs) K
      by_cases h0 : 0 < xs.length
      · rw [show decide ((0 : Int) < (xs.length : Int)) = true by simp; omega]
        simp only [CondK_bool, MG_b, NG_b, VG_b, UG_b, PG_b, BG_b, CG_b, IG_b, PK_bool, NK_ptr, not_ok, reduceCtorEq, if_true, if_false, Bool.true_eq_false, Bool.false_eq_true, Bool.not_true, Bool.not_false]
        rw [f29_2]
        refine ld1 Try.underlying27 rfl (v := a.lv) (by rw [add_pl, cell_blk hb5]; rfl) ?_
        refine CK_st Try.func12 rfl rfl (all_ok (reads_of_owns hl5) ha5 (by omega) (by omega)) ?_
        rintro _ w6 ⟨rfl, hm6⟩
        rw [BK_neqB Try.underlying4]
        have hb6 := hm6.blk hb5 id
        have e2 : takeOk xs a.l = allOf (lefts xs) a.l := by rw [htk, decide_eq_true h0, Bool.true_and]
        cases hk : takeOk xs a.l with
        | false =>
          rw [← e2, hk]
          simp only [Bool.false_eq_true, if_false, show (!(((120 : Int) == 0) == false)) = false from rfl, CondK_bool, MG_b, NG_b, VG_b, UG_b, PG_b, BG_b, CG_b, IG_b, PK_bool, NK_ptr, not_ok, reduceCtorEq, if_true, if_false, Bool.true_eq_false, Bool.false_eq_true, Bool.not_true, Bool.not_false, BK_eql, show ((120 : Int) == 0) = false from rfl, sq_n, sq_x, sq_r, bk_n, bk_r, bk_x, rt_r, rt_n, rs_0, rs_t, pk_1, pk_2, up_at, reduceIte, Nat.reduceEqDiff]
          refine tail _ w6 ?_ ?_ ?_ ?_ ?_ ?_ hm6 hk
          · exact g6
          · exact g0
          · exact g3
          · exact g4
          · exact g5
          · exact g7
        | true =>
          rw [← e2, hk]
          simp only [if_true, show (!(((0 : Int) == 0) == true)) = false from rfl, CondK_bool, MG_b, NG_b, VG_b, UG_b, PG_b, BG_b, CG_b, IG_b, PK_bool, NK_ptr, not_ok, reduceCtorEq, if_true, if_false, Bool.true_eq_false, Bool.false_eq_true, Bool.not_true, Bool.not_false, BK_eql, show ((0 : Int) == 0) = true from rfl]
          rw [f29_2]
          refine ld1 Try.underlying27 rfl (v := a.lv) (by rw [add_pl, cell_blk hb6]; rfl) ?_
          have hl6 := owns_mod hl5 hm6 (fun _ _ => id)
          refine CK_st Try.func13 rfl rfl (without_ok (reads_of_owns hl6) (ha5.mod hm6) (by omega) (by omega)) ?_
          rintro lf7 w7 ⟨hl7, hm7⟩
          simp only [sq_n, sq_x, sq_r, bk_n, bk_r, bk_x, rt_r, rt_n, rs_0, rs_t, pk_1, pk_2, up_at, reduceIte, Nat.reduceEqDiff]
          rw [hk] at hT5
          simp only [if_true] at hT5
          have hin : ∀ x ∈ a.l, inR xs x = true := fun x hx => (mem_lefts.1 (may_mem (xs := xs) (l := a.l) (by unfold takeOk at hk; exact (Bool.and_eq_true _ _ ▸ hk).1) x hx)).1
          have eg : goneTo xs a.l a.l.length = a.l.foldl goneAt xs := by unfold goneTo; rw [List.take_length]
          have hlf : lefts (goneTo xs a.l a.l.length) = (lefts xs).filter fun j => !decide (j ∈ a.l) := by rw [eg]; exact lefts_goneTo a.l hin
          refine fin _ w7 lf7 (goneTo xs a.l a.l.length) ?_ ?_ ?_ ?_ ?_ ?_ (hm7.blk hb6 id) ⟨(hM5.trans hm6).trans hm7, hbase, ⟨v, (hT5.none hm6).none hm7⟩, ?_, by rw [eg]; exact whole_gone a.l hin hwhole, by rw [goneTo_len]; exact hfew⟩ I (fun ρ' w' => hIk ρ' w' lf7 _) K
          · exact g6
          · exact g0
          · exact g3
          · rfl
          · rw [goneTo_len]; exact g5
          · exact g7
          · rw [hlf]
            exact owns_base hl7 (hM5.trans hm6).size
      · rw [decide_eq_false (p := (0 : Int) < (xs.length : Int)) (by omega)]
        simp only [CondK_bool, MG_b, NG_b, VG_b, UG_b, PG_b, BG_b, CG_b, IG_b, PK_bool, NK_ptr, not_ok, reduceCtorEq, if_true, if_false, Bool.true_eq_false, Bool.false_eq_true, Bool.not_true, Bool.not_false]
        rw [BK_neqB Try.underlying4]
        have hk : takeOk xs a.l = false := by rw [htk, decide_eq_false h0, Bool.false_and]
        rw [hk]
        simp only [Bool.false_eq_true, if_false, show (!(((120 : Int) == 0) == false)) = false from rfl, CondK_bool, MG_b, NG_b, VG_b, UG_b, PG_b, BG_b, CG_b, IG_b, PK_bool, NK_ptr, not_ok, reduceCtorEq, if_true, if_false, Bool.true_eq_false, Bool.false_eq_true, Bool.not_true, Bool.not_false, BK_eql, show ((120 : Int) == 0) = false from rfl, sq_n, sq_x, sq_r, bk_n, bk_r, bk_x, rt_r, rt_n, rs_0, rs_t, pk_1, pk_2, up_at, reduceIte, Nat.reduceEqDiff]
        refine tail _ w5 ?_ ?_ ?_ ?_ ?_ ?_ (Mod.refl _ _) hk
        · exact g6
        · exact g0
        · exact g3
        · exact g4
        · exact g5
        · exact g7
  have done : ∀ (ρ' : Sl) (w' : World) (lf : Value) (xs : List R), ρ' 6 = .int .i64 (n + 1 : Nat) → ρ' 0 = .slice A0 al.length c0 → ρ' 3 = .pointer (some ⟨t, 0, none⟩) → ρ' 4 = lf → ρ' 5 = .int .i64 xs.length → InvL w B t w' lf xs →
      (∃ (n : Nat) (lf : Value) (xs : List R), n ≤ al.length ∧ ρ' 6 = .int .i64 n ∧ ρ' 0 = .slice A0 al.length c0 ∧ ρ' 3 = .pointer (some ⟨t, 0, none⟩) ∧ ρ' 4 = lf ∧ ρ' 5 = .int .i64 xs.length ∧ InvL w B t w' lf xs) ∧ al.length - (intOf (ρ' 6)).toNat < al.length - (intOf (Value.int .i64 n)).toNat := by
    intro ρ' w' lf xs e6 e0 e3 e4 e5 hI
    refine ⟨⟨n + 1, lf, xs, hlt, e6, e0, e3, e4, e5, hI⟩, ?_⟩
    rw [e6]
    show al.length - (n + 1) < al.length - n
    omega
  cases hq : (a.kind.tmod 4 == 0) with
  | true =>
    simp only [CondK_bool, MG_b, NG_b, VG_b, UG_b, PG_b, BG_b, CG_b, IG_b, PK_bool, NK_ptr, not_ok, reduceCtorEq, if_true, if_false, Bool.true_eq_false, Bool.false_eq_true, Bool.not_true, Bool.not_false]
    refine arm _ true ?_ ?_ ?_ ?_ ?_ ?_ ?_ _ done _
    · rfl
    · exact h6
    · exact h0
    · exact h3
    · exact h4
    · exact h5
    · rfl
  | false =>
    simp only [CondK_bool, MG_b, NG_b, VG_b, UG_b, PG_b, BG_b, CG_b, IG_b, PK_bool, NK_ptr, not_ok, reduceCtorEq, if_true, if_false, Bool.true_eq_false, Bool.false_eq_true, Bool.not_true, Bool.not_false]
    rw [BK_eql]
    refine arm _ (a.kind.tmod 4 == 1) ?_ ?_ ?_ ?_ ?_ ?_ ?_ _ done _
    · rfl
    · exact h6
    · exact h0
    · exact h3
    · exact h4
    · exact h5
    · rfl
end Go.Proofs.Ytnopejgpbnlmpaa.Req
