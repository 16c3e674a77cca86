/- Several texts of this repo, one behind the other, without what is not used here. -/
import Derived.Test.YtandbmnhghmcgaaDoorProg
import Derived.Test.YtandbmnhghmcgaaDoorCV3
set_option linter.unusedVariables false
set_option linter.unusedSimpArgs false
set_option maxRecDepth 4000
namespace Go.X
theorem far_1 {α : Type} {A M B : List α} {u v : α} : (A ++ u :: (M ++ v :: B))[A.length]? = some u := by simp
theorem far_2 {α : Type} {A M B : List α} {u v : α} : (A ++ u :: (M ++ v :: B))[A.length + 1 + M.length]? = some v := by
  rw [List.getElem?_append_right (by omega), show A.length + 1 + M.length - A.length = M.length + 1 by omega]; simp
theorem far_set {α : Type} {A M B : List α} {u v : α} : ((A ++ u :: (M ++ v :: B)).set A.length v).set (A.length + 1 + M.length) u = A ++ v :: (M ++ u :: B) := by
  rw [List.set_append_right _ _ (by omega), List.set_append_right _ _ (by omega), show A.length + 1 + M.length - A.length = M.length + 1 by omega, Nat.sub_self, List.set_cons_zero, List.set_cons_succ, List.set_append_right _ _ (by omega)]
  simp
end Go.X
namespace Go.Proofs.YtandbmnhghmcgaaDoor.Col
open Go Go.X Go.RowKit Go.Proofs.YtandbmnhghmcgaaDoor.XF Go.Proofs.YtandbmnhghmcgaaDoor.XK
section
variable {w : World} {g cap : Nat} {K : Exit → Sl → World → Prop} {ρ : Sl}
theorem swr_R1 {A M B : List Ak} {u v : Ak} {n : Nat} {a b i : Int} (h : Dat w g cap (A ++ u :: (M ++ v :: B))) (hn : n = (A ++ u :: (M ++ v :: B)).length) (hl : n ≤ 1000000) (e0 : ρ 0 = dv g cap n) (e1 : ρ 1 = .int .i64 a) (e2 : ρ 2 = .int .i64 b) (e10 : ρ 10 = .int .i64 i)
    (ha : a + i = (A.length : Int)) (hb : b + i = ((A.length + 1 + M.length : Nat) : Int))
    (hk : ∀ ρ' w', ρ' 0 = ρ 0 → ρ' 1 = ρ 1 → ρ' 2 = ρ 2 → ρ' 3 = ρ 3 → ρ' 10 = ρ 10 → Dat w' g cap (A ++ v :: (M ++ u :: B)) → Mod (fun b => b = g) w w' → K .normal ρ' w') : W fn_ Tryd.prog 38 slices_swapRangeCmpFunc_group_asked_R1 K ρ w := by
  refine slices_swapRangeCmpFunc_group_asked_R1_held (D := []) (fun _ => True) trivial ?_
  have hd : Mod none_ w { w with drawn := w.drawn + 1 } := (Mod.refl _ w).drawn _
  have hdz : ({ w with drawn := w.drawn + 1 } : World).heap.size = w.heap.size := rfl
  generalize ({ w with drawn := w.drawn + 1 } : World) = wd at *
  unfold slices_swapRangeCmpFunc_group_asked_R1_H
  subst hn
  have hlen : (A ++ u :: (M ++ v :: B)).length = A.length + (M.length + B.length + 2) := by simp; omega
  have hD := h.calm hd
  rw [e0, e1, e2, e10]
  have sa : IntKind.i64.wrap (a + i) = (A.length : Int) := by rw [ha, wrap_i (by omega) (by omega)]
  have sb : IntKind.i64.wrap (b + i) = ((A.length + 1 + M.length : Nat) : Int) := by rw [hb, wrap_i (by omega) (by omega)]
  refine Hadd (Hadd (Hadd ?_))
  rw [sa, sb]
  refine HV_of (fun w' _ => Dat.ix rfl (by omega) w') (Hadd ?_)
  rw [sa]
  refine HV_of (fun w' _ => Dat.ix rfl (by omega) w') ?_
  have fin : ∀ {K' : Value → Value → Value → World → Prop}, (∀ x51 x52 w', Dat w' g cap (A ++ v :: (M ++ u :: B)) → Mod (fun b => b = g) w w' → K' x51 x52 undef w') →
      HK Tryd.prog (fun _ => True) (do pure (Next.value (← Instr.indexAt tAks (dv g cap (A ++ u :: (M ++ v :: B)).length) (.int .i64 (A.length : Int))))) fun x51 => UK Tryd.prog (Instr.storeAt tAk x51 (.agg v.enc.toArray)) wd fun _ w => True ∧ (HK Tryd.prog (fun _ => True) (do pure (Next.value (← Instr.indexAt tAks (dv g cap (A ++ u :: (M ++ v :: B)).length) (.int .i64 ((A.length + 1 + M.length : Nat) : Int))))) fun x52 => UK Tryd.prog (Instr.storeAt tAk x52 (.agg u.enc.toArray)) w fun z w => True ∧ K' x51 x52 z w) := fun {K'} hK => by
    refine HV_of (fun w' _ => Dat.ix (i := A.length) rfl (by omega) w') (hD.st (by omega) fun w1 h1 hm1 hz1 => ⟨trivial, ?_⟩)
    refine HV_of (fun w' _ => Dat.ix (i := A.length + 1 + M.length) rfl (by omega) w') (h1.st (by rw [List.length_set]; omega) fun w2 h2 hm2 hz2 => ⟨trivial, ?_⟩)
    rw [far_set] at h2
    exact hK _ _ w2 h2 (((hd.mono fun _ _ z => z.elim).trans hm1).trans hm2)
  refine ⟨hD.ld far_2 ⟨trivial, hD.ld far_1 ⟨trivial, ?_⟩⟩, hD.ld far_1 ⟨trivial, hD.ld far_2 ⟨trivial, ?_⟩⟩⟩
  · exact fin fun _ _ w' a b => hk _ w' (by first | exact e0.symm | rfl) (by first | exact e1.symm | rfl) (by first | exact e2.symm | rfl) rfl (by first | exact e10.symm | rfl) a b
  · exact fin fun _ _ w' a b => hk _ w' (by first | exact e0.symm | rfl) (by first | exact e1.symm | rfl) (by first | exact e2.symm | rfl) rfl (by first | exact e10.symm | rfl) a b
theorem swr_ok {A U M V B : List Ak} {n : Nat} {a b : Int} (h : Dat w g cap (A ++ (U ++ (M ++ (V ++ B))))) (hn : n = (A ++ (U ++ (M ++ (V ++ B)))).length) (hl : n ≤ 1000000) (hUV : U.length = V.length) (ha : a = (A.length : Int)) (hb : b = ((A.length + U.length + M.length : Nat) : Int)) :
    Rt Tryd.prog 126 #[dv g cap n, .int .i64 a, .int .i64 b, .int .i64 U.length, ordF] w fun _ w' => Dat w' g cap (A ++ (V ++ (M ++ (U ++ B)))) ∧ Mod (fun b => b = g) w w' := by
  refine slices_swapRangeCmpFunc_group_asked_calls ?_
  unfold slices_swapRangeCmpFunc_group_asked_F
  have hll : n = A.length + U.length + M.length + V.length + B.length := by rw [hn]; simp; omega
  refine W_loop slices_swapRangeCmpFunc_group_asked_L0_ok (fun ρ' w' => ∃ U1 U2 V1 V2, U = U1 ++ U2 ∧ V = V1 ++ V2 ∧ U1.length = V1.length ∧ ρ' 0 = dv g cap n ∧ ρ' 1 = .int .i64 a ∧ ρ' 2 = .int .i64 b ∧ ρ' 3 = .int .i64 U.length ∧ ρ' 10 = .int .i64 U1.length ∧ Dat w' g cap (A ++ (V1 ++ (U2 ++ (M ++ (U1 ++ (V2 ++ B)))))) ∧ Mod (fun b => b = g) w w') (fun ρ' _ => U.length - (intOf (ρ' 10)).toNat)
    ⟨[], U, [], V, rfl, rfl, rfl, rfl, rfl, rfl, rfl, rfl, h, Mod.refl _ _⟩ ?_
  rintro ρ' w' ⟨U1, U2, V1, V2, hU, hV, h1, q0, q1, q2, q3, q10, hD, hm⟩
  rw [slices_swapRangeCmpFunc_group_asked_L0_eq]; unfold slices_swapRangeCmpFunc_group_asked_L0_F
  rw [q10, q3, BK_lss]
  have lU : U.length = U1.length + U2.length := by rw [hU, List.length_append]
  have lV : V.length = V1.length + V2.length := by rw [hV, List.length_append]
  cases U2 with
  | nil =>
    have : V2 = [] := List.eq_nil_of_length_eq_zero (by simp only [List.length_nil] at lU; omega)
    subst this
    rw [decide_eq_false (by simp only [List.length_nil] at lU; omega)]
    refine condF ?_
    rw [sq_x, bk_x]
    rw [List.append_nil] at hU hV
    subst hU hV
    exact ⟨by simpa using hD, hm⟩
  | cons u U2 =>
    cases V2 with
    | nil => simp only [List.length_nil, List.length_cons] at lU lV; omega
    | cons v V2 =>
      simp only [List.length_cons] at lU lV
      rw [decide_eq_true (by omega)]
      refine condT ?_
      have eL : A ++ (V1 ++ (u :: U2 ++ (M ++ (U1 ++ (v :: V2 ++ B))))) = (A ++ V1) ++ u :: ((U2 ++ M ++ U1) ++ v :: (V2 ++ B)) := by simp
      have eS : (A ++ V1) ++ v :: ((U2 ++ M ++ U1) ++ u :: (V2 ++ B)) = A ++ ((V1 ++ [v]) ++ (U2 ++ (M ++ ((U1 ++ [u]) ++ (V2 ++ B))))) := by simp
      rw [eL] at hD
      refine swr_R1 (A := A ++ V1) (M := U2 ++ M ++ U1) (B := V2 ++ B) (u := u) (v := v) (n := n) (a := a) (b := b) (i := U1.length) hD (by rw [hll]; simp only [List.length_append, List.length_cons]; omega) hl q0 q1 q2 q10 (by rw [ha, List.length_append]; omega) (by rw [hb]; simp only [List.length_append]; omega) ?_
      intro ρ2 w2 a0 a1 a2 a3 a10 hD2 hm2
      rw [bk_n, sq_n, slices_swapRangeCmpFunc_group_asked_R2_eq]; unfold slices_swapRangeCmpFunc_group_asked_R2_F
      have e10 : ρ2 10 = .int .i64 U1.length := a10.trans q10
      rw [e10, BK_add, wrap_i (by omega) (by omega)]
      rw [eS] at hD2
      refine ⟨⟨U1 ++ [u], U2, V1 ++ [v], V2, by rw [hU]; simp, by rw [hV]; simp, by simp [h1], a0.trans q0, a1.trans q1, a2.trans q2, a3.trans q3, ?_, hD2, hm.trans hm2⟩, ?_⟩
      · show Value.int .i64 _ = _
        congr 1; simp
      · show U.length - (intOf (.int .i64 _)).toNat < _ - (intOf (.int .i64 _)).toNat
        simp only [intOf]
        omega
theorem rot_ok {A U V B : List Ak} {n : Nat} {a m b : Int} (h : Dat w g cap (A ++ (U ++ (V ++ B)))) (hn : n = (A ++ (U ++ (V ++ B))).length) (hl : n ≤ 1000000) (hU : 0 < U.length) (hV : 0 < V.length) (ha : a = (A.length : Int)) (hm : m = a + U.length) (hb : b = m + V.length) :
    Rt Tryd.prog 125 #[dv g cap n, .int .i64 a, .int .i64 m, .int .i64 b, ordF] w fun _ w' => Dat w' g cap (A ++ (V ++ (U ++ B))) ∧ Mod (fun b => b = g) w w' := by
  refine slices_rotateCmpFunc_group_asked_calls ?_
  unfold slices_rotateCmpFunc_group_asked_F
  have hll : n = A.length + U.length + V.length + B.length := by rw [hn]; simp; omega
  rw [BK_sub, wrap_i (by omega) (by omega), BK_sub, wrap_i (by omega) (by omega)]
  refine W_loop slices_rotateCmpFunc_group_asked_L0_ok (fun ρ' w' => ∃ Z1 U' V' Z2, V ++ U = Z1 ++ ((V' ++ U') ++ Z2) ∧ 0 < U'.length ∧ 0 < V'.length ∧ m = ((A.length + Z1.length + U'.length : Nat) : Int) ∧ ρ' 0 = dv g cap n ∧ ρ' 2 = .int .i64 m ∧ ρ' 4 = ordF ∧ ρ' 10 = .int .i64 U'.length ∧ ρ' 11 = .int .i64 V'.length ∧ Dat w' g cap (A ++ (Z1 ++ (U' ++ (V' ++ (Z2 ++ B))))) ∧ Mod (fun b => b = g) w w') (fun ρ' _ => (intOf (ρ' 10)).toNat + (intOf (ρ' 11)).toNat)
    ⟨[], U, V, [], by simp, hU, hV, by rw [hm, ha]; simp, rfl, rfl, rfl, by show Value.int .i64 _ = _; congr 1; omega, by show Value.int .i64 _ = _; congr 1; omega, h, Mod.refl _ _⟩ ?_
  rintro ρ' w' ⟨Z1, U', V', Z2, hZ, u0, v0, hmm, q0, q2, q4, q10, q11, hD, hM⟩
  rw [slices_rotateCmpFunc_group_asked_L0_eq]; unfold slices_rotateCmpFunc_group_asked_L0_F
  rw [q10, q11, q0, q2, q4, BK_neq]
  have lZ : V.length + U.length = Z1.length + (V'.length + U'.length + Z2.length) := by have := congrArg List.length hZ; simp only [List.length_append] at this; omega
  have hsub : IntKind.i64.wrap (m - (U'.length : Int)) = ((A.length + Z1.length : Nat) : Int) := by rw [wrap_i (by omega) (by omega)]; omega
  by_cases c : U'.length = V'.length
  · rw [show ((U'.length : Int) != (V'.length : Int)) = false by simp [c]]
    refine condF ?_
    rw [sq_x, bk_x, sq_n, slices_rotateCmpFunc_group_asked_R1_eq]; unfold slices_rotateCmpFunc_group_asked_R1_F
    rw [show (up (up (up ρ' 18 (Value.int IntKind.i64 ↑U'.length)) 19 (Value.int IntKind.i64 ↑V'.length)) 20 (Value.bool false)) 2 = .int .i64 m from q2, show (up (up (up ρ' 18 (Value.int IntKind.i64 ↑U'.length)) 19 (Value.int IntKind.i64 ↑V'.length)) 20 (Value.bool false)) 10 = .int .i64 U'.length from q10, show (up (up (up ρ' 18 (Value.int IntKind.i64 ↑U'.length)) 19 (Value.int IntKind.i64 ↑V'.length)) 20 (Value.bool false)) 0 = dv g cap n from q0, show (up (up (up ρ' 18 (Value.int IntKind.i64 ↑U'.length)) 19 (Value.int IntKind.i64 ↑V'.length)) 20 (Value.bool false)) 4 = ordF from q4]
    rw [BK_sub, hsub]
    have e1 : A ++ (Z1 ++ (U' ++ (V' ++ (Z2 ++ B)))) = (A ++ Z1) ++ (U' ++ ([] ++ (V' ++ (Z2 ++ B)))) := by simp
    rw [e1] at hD
    refine CK_st Tryd.func126 rfl rfl (swr_ok (A := A ++ Z1) (U := U') (M := []) (V := V') (B := Z2 ++ B) hD (by rw [hll]; simp only [List.length_append, List.length_nil]; omega) hl c (by simp) (by rw [hmm]; simp)) ?_
    rintro _ w2 ⟨hD2, hm2⟩
    refine ⟨?_, hM.trans hm2⟩
    have e2 : (A ++ Z1) ++ (V' ++ ([] ++ (U' ++ (Z2 ++ B)))) = A ++ (V ++ (U ++ B)) := by
      have : A ++ (V ++ (U ++ B)) = A ++ ((V ++ U) ++ B) := by simp
      rw [this, hZ]; simp
    rw [← e2]; exact hD2
  · rw [show ((U'.length : Int) != (V'.length : Int)) = true by simp; omega]
    refine condT ?_
    rw [BK_gtr]
    by_cases c2 : V'.length < U'.length
    · rw [decide_eq_true (by omega)]
      refine condT ?_
      rw [BK_sub, hsub]
      obtain ⟨U1, U2, rfl, hU1⟩ : ∃ U1 U2, U' = U1 ++ U2 ∧ U1.length = V'.length := ⟨U'.take V'.length, U'.drop V'.length, (List.take_append_drop _ _).symm, by rw [List.length_take]; omega⟩
      have lU : (U1 ++ U2).length = U1.length + U2.length := List.length_append
      have e1 : A ++ (Z1 ++ ((U1 ++ U2) ++ (V' ++ (Z2 ++ B)))) = (A ++ Z1) ++ (U1 ++ (U2 ++ (V' ++ (Z2 ++ B)))) := by simp
      rw [e1] at hD
      have hsw := swr_ok (w := w') (A := A ++ Z1) (U := U1) (M := U2) (V := V') (B := Z2 ++ B) (n := n) (a := ((A.length + Z1.length : Nat) : Int)) (b := m) hD (by rw [hll]; simp only [List.length_append] at lZ ⊢; omega) hl hU1 (by simp) (by rw [hmm]; simp only [List.length_append]; omega)
      rw [hU1] at hsw
      refine CK_st Tryd.func126 rfl rfl hsw ?_
      rintro _ w2 ⟨hD2, hm2⟩
      rw [BK_sub, wrap_i (by omega) (by omega)]
      refine ⟨⟨Z1 ++ V', U2, U1, Z2, by rw [hZ]; simp, by omega, by omega, by rw [hmm]; simp only [List.length_append]; omega, q0, q2, q4, ?_, ?_, by simpa using hD2, hM.trans hm2⟩, ?_⟩
      · show Value.int .i64 _ = _
        congr 1; omega
      · show ρ' 11 = _
        rw [q11, hU1]
      · show (intOf (.int .i64 _)).toNat + (intOf (ρ' 11)).toNat < _
        rw [q11]
        simp only [intOf]
        omega
    · rw [decide_eq_false (by omega)]
      refine condF ?_
      have hV' : U'.length < V'.length := by omega
      rw [BK_sub, hsub, BK_add, wrap_i (by omega) (by omega), BK_sub, wrap_i (by omega) (by omega)]
      obtain ⟨V1, V2, rfl, hV2⟩ : ∃ V1 V2, V' = V1 ++ V2 ∧ V2.length = U'.length := ⟨V'.take (V'.length - U'.length), V'.drop (V'.length - U'.length), (List.take_append_drop _ _).symm, by rw [List.length_drop]; omega⟩
      have lV : (V1 ++ V2).length = V1.length + V2.length := List.length_append
      have e1 : A ++ (Z1 ++ (U' ++ ((V1 ++ V2) ++ (Z2 ++ B)))) = (A ++ Z1) ++ (U' ++ (V1 ++ (V2 ++ (Z2 ++ B)))) := by simp
      rw [e1] at hD
      refine CK_st Tryd.func126 rfl rfl (swr_ok (A := A ++ Z1) (U := U') (M := V1) (V := V2) (B := Z2 ++ B) hD (by rw [hll]; simp only [List.length_append] at lZ ⊢; omega) hl hV2.symm (by simp) (by rw [hmm]; simp only [List.length_append]; omega)) ?_
      rintro _ w2 ⟨hD2, hm2⟩
      rw [BK_sub, wrap_i (by omega) (by omega)]
      refine ⟨⟨Z1, V2, V1, U' ++ Z2, by rw [hZ]; simp, by omega, by omega, by rw [hmm, hV2], q0, q2, q4, ?_, ?_, by simpa using hD2, hM.trans hm2⟩, ?_⟩
      · show ρ' 10 = _
        rw [q10, hV2]
      · show Value.int .i64 _ = _
        congr 1; omega
      · show (intOf (ρ' 10)).toNat + (intOf (.int .i64 _)).toNat < _
        rw [q10]
        simp only [intOf]
        omega
end
end Go.Proofs.YtandbmnhghmcgaaDoor.Col
set_option linter.unusedVariables false
set_option linter.unusedSimpArgs false
set_option maxRecDepth 4000
namespace Go.X
theorem idx_in {α : Type} {A Y R : List α} {k : Nat} (h : k < Y.length) : (A ++ (Y ++ R))[A.length + k]? = some Y[k] := by
  rw [List.getElem?_append_right (by omega), Nat.add_sub_cancel_left, List.getElem?_append_left h, List.getElem?_eq_getElem h]
end Go.X
namespace Go.Proofs.YtandbmnhghmcgaaDoor.Col
open Go Go.X Go.RowKit Go.Proofs.YtandbmnhghmcgaaDoor.XF Go.Proofs.YtandbmnhghmcgaaDoor.XK
theorem shr_ok {w : World} {K : Value → World → Prop} (x y : Operand) (s : Int) : BK Tryd.prog .shr 138 x y (.int .u64 s) (.int .u64 1) w K = K (.int .u64 (s / 2)) w := by
  refine BK_of rfl ?_
  simp [go_sem]
theorem conv_k {w : World} {K : Value → World → Prop} {src dst : TypeId} {q k : IntKind} {n : Int} (hs : (Tryd.prog.underlying src).isSome = true) (hd : Tryd.prog.underlying dst = some (.int k)) : VK Tryd.prog (convert src dst (.int q n)) w K = K (.int k (k.wrap n)) w := by
  have ek : Tryd.prog.intKind dst = k := by simp [Program.intKind, hd]
  have := run_convert_int (P := Tryd.prog) w src dst q n hs (by rw [ek]; exact hd)
  rw [ek] at this
  exact VK_eq_of this
theorem half_k {w : World} {K : Value → Value → Value → World → Prop} {o1 o2 : Operand} {s : Int} (h0 : 0 ≤ s) (h1 : s < 4611686018427387904) (hK : ∀ x y, K x y (.int .i64 (s / 2)) w) :
    VK Tryd.prog (convert 3 138 (.int .i64 s)) w fun x w => BK Tryd.prog .shr 138 o1 o2 x (.int .u64 1) w fun y w => VK Tryd.prog (convert 138 3 y) w (K x y) := by
  rw [conv_k (k := .u64) (by kernel_rfl) (by kernel_rfl), shr_ok, conv_k (k := .i64) (by kernel_rfl) (by kernel_rfl)]
  rw [show IntKind.i64.wrap (IntKind.u64.wrap s / 2) = s / 2 by
    rw [show IntKind.u64.wrap s = s by rw [IntKind.wrap_u64]; omega, wrap_i (by omega) (by omega)]]
  exact hK _ _
structure SG (ρ ρ' : Sl) : Prop where
  e0 : ρ' 0 = ρ 0
  e1 : ρ' 1 = ρ 1
  e2 : ρ' 2 = ρ 2
  e3 : ρ' 3 = ρ 3
  e4 : ρ' 4 = ρ 4
theorem SG.rfl' {ρ : Sl} : SG ρ ρ := ⟨rfl, rfl, rfl, rfl, rfl⟩
theorem SG.trans {a b c : Sl} (h : SG a b) (k : SG b c) : SG a c := ⟨k.e0.trans h.e0, k.e1.trans h.e1, k.e2.trans h.e2, k.e3.trans h.e3, k.e4.trans h.e4⟩
section
variable {w : World} {g cap n : Nat} {K : Exit → Sl → World → Prop} {ρ : Sl} {P X Y R : List Ak} {x y : Ak}
theorem sm_L0 (h : Dat w g cap ((P ++ [x]) ++ (Y ++ R))) (hn : n = ((P ++ [x]) ++ (Y ++ R)).length) (hl : n ≤ 1000000) (hY : SortedL ltA Y) (e0 : ρ 0 = dv g cap n) (e1 : ρ 1 = .int .i64 P.length) (e4 : ρ 4 = ordF) (e10 : ρ 10 = .int .i64 ((P.length : Int) + 1)) (e11 : ρ 11 = .int .i64 ((P.length : Int) + 1 + Y.length))
    (hk : ∀ ρ' w' Y1 Y2, Y = Y1 ++ Y2 → (∀ a ∈ Y1, ltA a x = true) → (∀ b ∈ Y2, ltA b x = false) → SG ρ ρ' → ρ' 10 = .int .i64 ((P.length : Int) + 1 + Y1.length) → Dat w' g cap ((P ++ [x]) ++ (Y ++ R)) → Mod none_ w w' → K (.exit 0) ρ' w') :
    W fn_ Tryd.prog 220 (Code.loop slices_symMergeCmpFunc_group_asked_L0) K ρ w := by
  subst hn
  have hll : ((P ++ [x]) ++ (Y ++ R)).length = P.length + 1 + (Y.length + R.length) := by simp; omega
  have hPx : (P ++ [x]).length = P.length + 1 := by simp
  refine W_loop slices_symMergeCmpFunc_group_asked_L0_ok (fun ρ' w' => ∃ i j : Nat, i ≤ j ∧ j ≤ Y.length ∧ (i = 0 ∨ ∃ z, Y[i - 1]? = some z ∧ ltA z x = true) ∧ (j = Y.length ∨ ∃ z, Y[j]? = some z ∧ ltA z x = false) ∧ SG ρ ρ' ∧ ρ' 10 = .int .i64 ((P.length : Int) + 1 + i) ∧ ρ' 11 = .int .i64 ((P.length : Int) + 1 + j) ∧ Mod none_ w w') (fun ρ' _ => (intOf (ρ' 11)).toNat - (intOf (ρ' 10)).toNat)
    ⟨0, Y.length, by omega, by omega, .inl rfl, .inl rfl, SG.rfl', by rw [e10]; simp, e11, Mod.refl _ _⟩ ?_
  rintro ρ' w' ⟨i, j, hij, hj, hi0, hj0, hS, q10, q11, hm⟩
  rw [slices_symMergeCmpFunc_group_asked_L0_eq]; unfold slices_symMergeCmpFunc_group_asked_L0_F
  rw [q10, q11, BK_lss]
  by_cases c : i < j
  · rw [decide_eq_true (by omega)]
    refine condT ?_
    rw [BK_add, wrap_i (by omega) (by omega)]
    refine half_k (by omega) (by omega) fun _ _ => ?_
    have hh : ((P.length : Int) + 1 + i + ((P.length : Int) + 1 + j)) / 2 = ((P.length + 1 + (i + j) / 2 : Nat) : Int) := by omega
    rw [hh]
    generalize hc : (i + j) / 2 = c' at *
    have hc1 : i ≤ c' ∧ c' < j := by omega
    have q0 := hS.e0.trans e0
    have q1 := hS.e1.trans e1
    have q4 := hS.e4.trans e4
    refine slices_symMergeCmpFunc_group_asked_R8_quiet (D := []) (fun w'' => Mod none_ w w'') (hm.drawn _) ?_
    unfold slices_symMergeCmpFunc_group_asked_R8_Q
    simp only [sq_n, sq_x, sq_r, bk_n, bk_r, bk_x, rt_r, rt_n, rs_0, rs_t, pk_1, pk_2, up_at, reduceIte, Nat.reduceEqDiff, q0, q1, q4]
    have gx : ((P ++ [x]) ++ (Y ++ R))[P.length]? = some x := by rw [List.append_assoc]; exact get_mid
    have gc : ((P ++ [x]) ++ (Y ++ R))[P.length + 1 + c']? = some Y[c'] := by rw [← hPx]; exact idx_in (by omega)
    refine QV_of (fun w'' _ => Dat.ix rfl (by omega) w'') (QV_of (fun w'' hw => (h.calm hw).run_ld gc) (QV_of (fun w'' _ => Dat.ix rfl (by omega) w'') (QV_of (fun w'' hw => (h.calm hw).run_ld gx) ?_)))
    refine QC_ord (fun w1 w2 h1 h2 => h1.trans h2) (Qlss ?_)
    rw [ordA_lt]
    intro w'' hm''
    rw [slices_symMergeCmpFunc_group_asked_R9_eq]; unfold slices_symMergeCmpFunc_group_asked_R9_F
    simp only [sq_n, sq_x, sq_r, bk_n, bk_r, bk_x, rt_r, rt_n, rs_0, rs_t, pk_1, pk_2, up_at, reduceIte, Nat.reduceEqDiff]
    refine caseC (fun q => ?_) (fun q => ?_)
    · rw [BK_add, wrap_i (by omega) (by omega)]
      refine ⟨⟨c' + 1, j, by omega, hj, .inr ⟨Y[c'], by simp, q⟩, hj0, ⟨by first | exact hS.e0 | exact e0.symm, by first | exact hS.e1 | exact e1.symm, hS.e2, hS.e3, by first | exact hS.e4 | exact e4.symm⟩, ?_, q11, hm''⟩, ?_⟩
      · show Value.int .i64 _ = _
        congr 1 <;> omega
      · show (intOf (ρ' 11)).toNat - (intOf (.int .i64 _)).toNat < _
        rw [q11]
        simp only [intOf]
        omega
    · refine ⟨⟨i, c', by omega, by omega, hi0, .inr ⟨Y[c'], List.getElem?_eq_getElem (by omega), q⟩, ⟨by first | exact hS.e0 | exact e0.symm, by first | exact hS.e1 | exact e1.symm, hS.e2, hS.e3, by first | exact hS.e4 | exact e4.symm⟩, q10, ?_, hm''⟩, ?_⟩
      · show Value.int .i64 _ = _
        congr 1 <;> omega
      · show (intOf (.int .i64 _)).toNat - (intOf (ρ' 10)).toNat < _
        rw [q10]
        simp only [intOf]
        omega
  · rw [decide_eq_false (by omega)]
    refine condF ?_
    obtain rfl : i = j := by omega
    refine hk _ w' (Y.take i) (Y.drop i) (List.take_append_drop _ _).symm ?_ ?_ ⟨hS.e0, hS.e1, hS.e2, hS.e3, hS.e4⟩ ?_ (h.calm hm) hm
    · intro a ha
      obtain ⟨k, hk1, rfl⟩ := List.mem_take_iff_getElem.1 ha
      rcases hi0 with z | ⟨z, hz, hlt⟩
      · omega
      · cases hq : ltA Y[k] x with
        | true => rfl
        | false =>
          have := hY.le_at ltA_wo (i := k) (j := i - 1) (by omega) (List.getElem?_eq_getElem (by omega)) hz
          have := ltA_wo.tr x Y[k] z hq this
          rw [hlt] at this; cases this
    · intro b hb
      obtain ⟨k, hk1, rfl⟩ := List.mem_iff_getElem.1 hb
      rw [List.getElem_drop]
      rw [List.length_drop] at hk1
      rcases hj0 with z | ⟨z, hz, hlt⟩
      · omega
      · have := hY.le_at ltA_wo (i := i) (j := i + k) (by omega) hz (List.getElem?_eq_getElem (by omega))
        exact ltA_wo.tr x z _ hlt this
    · show ρ' 10 = _
      rw [q10, List.length_take, Nat.min_eq_left hj]
theorem sm_L10 {Y1 Z : List Ak} (h : Dat w g cap (P ++ (x :: (Y1 ++ Z)))) (hn : n = (P ++ (x :: (Y1 ++ Z))).length) (hl : n ≤ 1000000) (e0 : ρ 0 = dv g cap n) (e10 : ρ 10 = .int .i64 ((P.length : Int) + 1 + Y1.length)) (e13 : ρ 13 = .int .i64 P.length)
    (hk : ∀ ρ' w', Dat w' g cap (P ++ ((Y1 ++ [x]) ++ Z)) → Mod (fun b => b = g) w w' → K (.exit 2) ρ' w') : W fn_ Tryd.prog 220 (Code.loop slices_symMergeCmpFunc_group_asked_L10) K ρ w := by
  subst hn
  have hll : (P ++ (x :: (Y1 ++ Z))).length = P.length + 1 + (Y1.length + Z.length) := by simp; omega
  refine W_loop slices_symMergeCmpFunc_group_asked_L10_ok (fun ρ' w' => ∃ A B, Y1 = A ++ B ∧ ρ' 0 = dv g cap (P ++ (x :: (Y1 ++ Z))).length ∧ ρ' 10 = .int .i64 ((P.length : Int) + 1 + Y1.length) ∧ ρ' 13 = .int .i64 ((P.length : Int) + A.length) ∧ Dat w' g cap ((P ++ A) ++ x :: (B ++ Z)) ∧ Mod (fun b => b = g) w w') (fun ρ' _ => P.length + Y1.length - (intOf (ρ' 13)).toNat)
    ⟨[], Y1, rfl, e0, e10, by rw [e13]; simp, by simpa using h, Mod.refl _ _⟩ ?_
  rintro ρ' w' ⟨A, B, hA, q0, q10, q13, hD, hm⟩
  rw [slices_symMergeCmpFunc_group_asked_L10_eq]; unfold slices_symMergeCmpFunc_group_asked_L10_F
  have lA : Y1.length = A.length + B.length := by rw [hA, List.length_append]
  rw [q10, q13, BK_sub, wrap_i (by omega) (by omega), BK_lss]
  cases B with
  | nil =>
    simp only [List.length_nil] at lA
    rw [decide_eq_false (by omega)]
    refine condF ?_
    rw [sq_x]
    refine hk _ w' ?_ hm
    rw [List.append_nil] at hA
    subst hA
    simpa using hD
  | cons y B =>
    simp only [List.length_cons] at lA
    rw [decide_eq_true (by omega)]
    refine condT ?_
    refine slices_symMergeCmpFunc_group_asked_R19_held (D := []) (fun _ => True) trivial ?_
    have hd : Mod none_ w' { w' with drawn := w'.drawn + 1 } := (Mod.refl _ w').drawn _
    generalize ({ w' with drawn := w'.drawn + 1 } : World) = wd at *
    unfold slices_symMergeCmpFunc_group_asked_R19_H
    simp only [sq_n, sq_x, sq_r, bk_n, bk_r, bk_x, rt_r, rt_n, rs_0, rs_t, pk_1, pk_2, up_at, reduceIte, Nat.reduceEqDiff, q0, q13]
    have hDd := hD.calm hd
    have hlen : ((P ++ A) ++ x :: (y :: B ++ Z)).length = (P ++ (x :: (Y1 ++ Z))).length := by rw [hll]; simp; omega
    have hPA : (P ++ A).length = P.length + A.length := by simp
    have s1 : IntKind.i64.wrap ((P.length : Int) + A.length + 1) = ((P.length + A.length + 1 : Nat) : Int) := by rw [wrap_i (by omega) (by omega)]; omega
    refine Hadd (Hadd ?_)
    rw [s1, ← hlen]
    have gx : ((P ++ A) ++ x :: (y :: B ++ Z))[P.length + A.length]? = some x := by rw [← hPA]; exact get_mid
    have gy : ((P ++ A) ++ x :: (y :: B ++ Z))[P.length + A.length + 1]? = some y := by rw [← hPA]; exact get_mid2
    refine HV_of (fun w'' _ => Dat.ix rfl (by omega) w'') (HV_of (fun w'' _ => Dat.ix (i := P.length + A.length) (by omega) (by omega) w'') ?_)
    have fin : ∀ {K' : Value → Value → Value → World → Prop}, (∀ x51 x52 w', Dat w' g cap ((P ++ A) ++ y :: (x :: (B ++ Z))) → Mod (fun b => b = g) w w' → K' x51 x52 undef w') →
        HK Tryd.prog (fun _ => True) (do pure (Next.value (← Instr.indexAt tAks (dv g cap ((P ++ A) ++ x :: (y :: B ++ Z)).length) (.int .i64 ((P.length : Int) + A.length))))) fun x51 => UK Tryd.prog (Instr.storeAt tAk x51 (.agg y.enc.toArray)) wd fun _ w => True ∧ (HK Tryd.prog (fun _ => True) (do pure (Next.value (← Instr.indexAt tAks (dv g cap ((P ++ A) ++ x :: (y :: B ++ Z)).length) (.int .i64 ((P.length + A.length + 1 : Nat) : Int))))) fun x52 => UK Tryd.prog (Instr.storeAt tAk x52 (.agg x.enc.toArray)) w fun z w => True ∧ K' x51 x52 z w) := fun {K'} hK => by
      refine HV_of (fun w' _ => Dat.ix (i := P.length + A.length) (by omega) (by omega) w') (hDd.st (by omega) fun w1 h1 hm1 hz1 => ⟨trivial, ?_⟩)
      refine HV_of (fun w' _ => Dat.ix (i := P.length + A.length + 1) rfl (by omega) w') (h1.st (by rw [List.length_set]; omega) fun w2 h2 hm2 hz2 => ⟨trivial, ?_⟩)
      rw [← hPA] at h2
      have := swap_mid' (A := P ++ A) (B := B ++ Z) (x := y) (y := x)
      rw [show (P ++ A) ++ x :: (y :: B ++ Z) = (P ++ A) ++ x :: y :: (B ++ Z) by simp, this] at h2
      exact hK _ _ w2 h2 (((hm.trans (hd.mono fun _ _ z => z.elim)).trans hm1).trans hm2)
    refine ⟨hDd.ld gy ⟨trivial, hDd.ld gx ⟨trivial, ?_⟩⟩, hDd.ld gx ⟨trivial, hDd.ld gy ⟨trivial, ?_⟩⟩⟩
    · refine fin fun _ _ w4 hD4 hm4 => ?_
      rw [slices_symMergeCmpFunc_group_asked_R20_eq]; unfold slices_symMergeCmpFunc_group_asked_R20_F
      simp only [sq_n, sq_x, sq_r, bk_n, bk_r, bk_x, rt_r, rt_n, rs_0, rs_t, pk_1, pk_2, up_at, reduceIte, Nat.reduceEqDiff, q13]
      rw [BK_add, wrap_i (by omega) (by omega)]
      refine ⟨⟨A ++ [y], B, by rw [hA]; simp, ?_, q10, ?_, by simpa using hD4, hm4⟩, ?_⟩
      · first | rfl | exact q0 | (rw [hlen]; exact q0) | (show dv g cap _ = _; rw [hlen])
      · show Value.int .i64 _ = _
        congr 1; simp; omega
      · show P.length + Y1.length - (intOf (.int .i64 _)).toNat < _
        simp only [intOf]
        omega
    · refine fin fun _ _ w4 hD4 hm4 => ?_
      rw [slices_symMergeCmpFunc_group_asked_R20_eq]; unfold slices_symMergeCmpFunc_group_asked_R20_F
      simp only [sq_n, sq_x, sq_r, bk_n, bk_r, bk_x, rt_r, rt_n, rs_0, rs_t, pk_1, pk_2, up_at, reduceIte, Nat.reduceEqDiff, q13]
      rw [BK_add, wrap_i (by omega) (by omega)]
      refine ⟨⟨A ++ [y], B, by rw [hA]; simp, ?_, q10, ?_, by simpa using hD4, hm4⟩, ?_⟩
      · first | rfl | exact q0 | (rw [hlen]; exact q0) | (show dv g cap _ = _; rw [hlen])
      · show Value.int .i64 _ = _
        congr 1; simp; omega
      · show P.length + Y1.length - (intOf (.int .i64 _)).toNat < _
        simp only [intOf]
        omega
end
end Go.Proofs.YtandbmnhghmcgaaDoor.Col
set_option linter.unusedVariables false
set_option linter.unusedSimpArgs false
set_option maxRecDepth 4000
namespace Go.Proofs.YtandbmnhghmcgaaDoor.Col
open Go Go.X Go.RowKit Go.Proofs.YtandbmnhghmcgaaDoor.XF Go.Proofs.YtandbmnhghmcgaaDoor.XK
section
variable {w : World} {g cap n : Nat} {K : Exit → Sl → World → Prop} {ρ : Sl} {P X Y R : List Ak} {x y : Ak}
theorem sm_L3 (h : Dat w g cap (P ++ (X ++ (y :: R)))) (hn : n = (P ++ (X ++ (y :: R))).length) (hl : n ≤ 1000000) (hX : SortedL ltA X) (e0 : ρ 0 = dv g cap n) (e2 : ρ 2 = .int .i64 ((P.length : Int) + X.length)) (e4 : ρ 4 = ordF) (e14 : ρ 14 = .int .i64 P.length) (e15 : ρ 15 = .int .i64 ((P.length : Int) + X.length))
    (hk : ∀ ρ' w' X1 X2, X = X1 ++ X2 → (∀ a ∈ X1, ltA y a = false) → (∀ b ∈ X2, ltA y b = true) → SG ρ ρ' → ρ' 14 = .int .i64 ((P.length : Int) + X1.length) → Dat w' g cap (P ++ (X ++ (y :: R))) → Mod none_ w w' → K (.exit 4) ρ' w') :
    W fn_ Tryd.prog 220 (Code.loop slices_symMergeCmpFunc_group_asked_L3) K ρ w := by
  subst hn
  have hll : (P ++ (X ++ (y :: R))).length = P.length + (X.length + (R.length + 1)) := by simp
  refine W_loop slices_symMergeCmpFunc_group_asked_L3_ok (fun ρ' w' => ∃ i j : Nat, i ≤ j ∧ j ≤ X.length ∧ (i = 0 ∨ ∃ z, X[i - 1]? = some z ∧ ltA y z = false) ∧ (j = X.length ∨ ∃ z, X[j]? = some z ∧ ltA y z = true) ∧ SG ρ ρ' ∧ ρ' 14 = .int .i64 ((P.length : Int) + i) ∧ ρ' 15 = .int .i64 ((P.length : Int) + j) ∧ Mod none_ w w') (fun ρ' _ => (intOf (ρ' 15)).toNat - (intOf (ρ' 14)).toNat)
    ⟨0, X.length, by omega, by omega, .inl rfl, .inl rfl, SG.rfl', by rw [e14]; simp, e15, Mod.refl _ _⟩ ?_
  rintro ρ' w' ⟨i, j, hij, hj, hi0, hj0, hS, q14, q15, hm⟩
  rw [slices_symMergeCmpFunc_group_asked_L3_eq]; unfold slices_symMergeCmpFunc_group_asked_L3_F
  rw [q14, q15, BK_lss]
  by_cases c : i < j
  · rw [decide_eq_true (by omega)]
    refine condT ?_
    rw [BK_add, wrap_i (by omega) (by omega)]
    refine half_k (by omega) (by omega) fun _ _ => ?_
    have hh : ((P.length : Int) + i + ((P.length : Int) + j)) / 2 = ((P.length + (i + j) / 2 : Nat) : Int) := by omega
    rw [hh]
    generalize hc : (i + j) / 2 = c' at *
    have hc1 : i ≤ c' ∧ c' < j := by omega
    have q0 := hS.e0.trans e0
    have q2 := hS.e2.trans e2
    have q4 := hS.e4.trans e4
    refine slices_symMergeCmpFunc_group_asked_R13_quiet (D := []) (fun w'' => Mod none_ w w'') (hm.drawn _) ?_
    unfold slices_symMergeCmpFunc_group_asked_R13_Q
    simp only [sq_n, sq_x, sq_r, bk_n, bk_r, bk_x, rt_r, rt_n, rs_0, rs_t, pk_1, pk_2, up_at, reduceIte, Nat.reduceEqDiff, q0, q2, q4]
    have gy : (P ++ (X ++ (y :: R)))[P.length + X.length]? = some y := by rw [← List.append_assoc, ← List.length_append]; exact get_mid
    have gc : (P ++ (X ++ (y :: R)))[P.length + c']? = some X[c'] := idx_in (by omega)
    refine QV_of (fun w'' _ => Dat.ix (i := P.length + X.length) (by omega) (by omega) w'') (QV_of (fun w'' hw => (h.calm hw).run_ld gy) (QV_of (fun w'' _ => Dat.ix rfl (by omega) w'') (QV_of (fun w'' hw => (h.calm hw).run_ld gc) ?_)))
    refine QC_ord (fun w1 w2 h1 h2 => h1.trans h2) (Qlss ?_)
    rw [ordA_lt]
    refine QV_of (v := .bool (!ltA y X[c'])) (fun w'' _ => by cases ltA y X[c'] <;> rfl) ?_
    intro w'' hm''
    rw [slices_symMergeCmpFunc_group_asked_R14_eq]; unfold slices_symMergeCmpFunc_group_asked_R14_F
    simp only [sq_n, sq_x, sq_r, bk_n, bk_r, bk_x, rt_r, rt_n, rs_0, rs_t, pk_1, pk_2, up_at, reduceIte, Nat.reduceEqDiff]
    refine caseC (fun q => ?_) (fun q => ?_)
    · rw [BK_add, wrap_i (by omega) (by omega)]
      refine ⟨⟨c' + 1, j, by omega, hj, .inr ⟨X[c'], by simp, by simpa using q⟩, hj0, ⟨by first | exact hS.e0 | exact e0.symm, hS.e1, by first | exact hS.e2 | exact e2.symm, hS.e3, by first | exact hS.e4 | exact e4.symm⟩, ?_, q15, hm''⟩, ?_⟩
      · show Value.int .i64 _ = _
        congr 1 <;> omega
      · show (intOf (ρ' 15)).toNat - (intOf (.int .i64 _)).toNat < _
        rw [q15]
        simp only [intOf]
        omega
    · refine ⟨⟨i, c', by omega, by omega, hi0, .inr ⟨X[c'], List.getElem?_eq_getElem (by omega), by simpa using q⟩, ⟨by first | exact hS.e0 | exact e0.symm, hS.e1, by first | exact hS.e2 | exact e2.symm, hS.e3, by first | exact hS.e4 | exact e4.symm⟩, q14, ?_, hm''⟩, ?_⟩
      · show Value.int .i64 _ = _
        congr 1 <;> omega
      · show (intOf (.int .i64 _)).toNat - (intOf (ρ' 14)).toNat < _
        rw [q14]
        simp only [intOf]
        omega
  · rw [decide_eq_false (by omega)]
    refine condF ?_
    obtain rfl : i = j := by omega
    refine hk _ w' (X.take i) (X.drop i) (List.take_append_drop _ _).symm ?_ ?_ ⟨hS.e0, hS.e1, hS.e2, hS.e3, hS.e4⟩ ?_ (h.calm hm) hm
    · intro a ha
      obtain ⟨k, hk1, rfl⟩ := List.mem_take_iff_getElem.1 ha
      rcases hi0 with z | ⟨z, hz, hlt⟩
      · omega
      · have := hX.le_at ltA_wo (i := k) (j := i - 1) (by omega) (List.getElem?_eq_getElem (by omega)) hz
        exact ltA_wo.tr _ z y this hlt
    · intro b hb
      obtain ⟨k, hk1, rfl⟩ := List.mem_iff_getElem.1 hb
      rw [List.getElem_drop]
      rw [List.length_drop] at hk1
      rcases hj0 with z | ⟨z, hz, hlt⟩
      · omega
      · have := hX.le_at ltA_wo (i := i) (j := i + k) (by omega) hz (List.getElem?_eq_getElem (by omega))
        cases hq : ltA y X[i + k] with
        | true => rfl
        | false =>
          have := ltA_wo.tr z _ y this hq
          rw [hlt] at this; cases this
    · show ρ' 14 = _
      rw [q14, List.length_take, Nat.min_eq_left hj]
theorem sm_L15 {X1 X2 : List Ak} (h : Dat w g cap (P ++ (X1 ++ (X2 ++ (y :: R))))) (hn : n = (P ++ (X1 ++ (X2 ++ (y :: R)))).length) (hl : n ≤ 1000000) (e0 : ρ 0 = dv g cap n) (e14 : ρ 14 = .int .i64 ((P.length : Int) + X1.length)) (e17 : ρ 17 = .int .i64 ((P.length : Int) + X1.length + X2.length))
    (hk : ∀ ρ' w', Dat w' g cap (P ++ ((X1 ++ (y :: X2)) ++ R)) → Mod (fun b => b = g) w w' → K (.exit 6) ρ' w') : W fn_ Tryd.prog 220 (Code.loop slices_symMergeCmpFunc_group_asked_L15) K ρ w := by
  subst hn
  have hll : (P ++ (X1 ++ (X2 ++ (y :: R)))).length = P.length + (X1.length + (X2.length + (R.length + 1))) := by simp
  refine W_loop slices_symMergeCmpFunc_group_asked_L15_ok (fun ρ' w' => ∃ A B, X2 = A ++ B ∧ ρ' 0 = dv g cap (P ++ (X1 ++ (X2 ++ (y :: R)))).length ∧ ρ' 14 = .int .i64 ((P.length : Int) + X1.length) ∧ ρ' 17 = .int .i64 ((P.length : Int) + X1.length + A.length) ∧ Dat w' g cap ((P ++ X1 ++ A) ++ y :: (B ++ R)) ∧ Mod (fun b => b = g) w w') (fun ρ' _ => (intOf (ρ' 17)).toNat)
    ⟨X2, [], by simp, e0, e14, e17, by simpa using h, Mod.refl _ _⟩ ?_
  rintro ρ' w' ⟨A, B, hA, q0, q14, q17, hD, hm⟩
  rw [slices_symMergeCmpFunc_group_asked_L15_eq]; unfold slices_symMergeCmpFunc_group_asked_L15_F
  have lA : X2.length = A.length + B.length := by rw [hA, List.length_append]
  rw [q14, q17, BK_gtr]
  rcases List.eq_nil_or_concat A with rfl | ⟨A', z, hz⟩
  · simp only [List.length_nil] at lA
    rw [decide_eq_false (by simp)]
    refine condF ?_
    rw [sq_x]
    refine hk _ w' ?_ hm
    rw [List.nil_append] at hA
    subst hA
    simpa using hD
  · have hz' : A = A' ++ [z] := by simpa using hz
    subst hz'
    have lA' : (A' ++ [z]).length = A'.length + 1 := by simp
    rw [decide_eq_true (by omega)]
    refine condT ?_
    refine slices_symMergeCmpFunc_group_asked_R21_held (D := []) (fun _ => True) trivial ?_
    have hd : Mod none_ w' { w' with drawn := w'.drawn + 1 } := (Mod.refl _ w').drawn _
    generalize ({ w' with drawn := w'.drawn + 1 } : World) = wd at *
    unfold slices_symMergeCmpFunc_group_asked_R21_H
    simp only [sq_n, sq_x, sq_r, bk_n, bk_r, bk_x, rt_r, rt_n, rs_0, rs_t, pk_1, pk_2, up_at, reduceIte, Nat.reduceEqDiff, q0, q17]
    have eL : (P ++ X1 ++ (A' ++ [z])) ++ y :: (B ++ R) = (P ++ X1 ++ A') ++ z :: y :: (B ++ R) := by simp
    have hDd := hD.calm hd
    rw [eL] at hDd
    have hlen : ((P ++ X1 ++ A') ++ z :: y :: (B ++ R)).length = (P ++ (X1 ++ (X2 ++ (y :: R)))).length := by rw [hll]; simp only [List.length_append, List.length_cons]; omega
    have hPA : (P ++ X1 ++ A').length = P.length + X1.length + A'.length := by simp; omega
    have s1 : IntKind.i64.wrap ((P.length : Int) + X1.length + ((A' ++ [z]).length : Nat) - 1) = ((P.length + X1.length + A'.length : Nat) : Int) := by rw [wrap_i (by omega) (by omega)]; omega
    refine Hsub (Hsub ?_)
    rw [s1, ← hlen]
    have gz : ((P ++ X1 ++ A') ++ z :: y :: (B ++ R))[P.length + X1.length + A'.length]? = some z := by rw [← hPA]; exact get_mid
    have gy : ((P ++ X1 ++ A') ++ z :: y :: (B ++ R))[P.length + X1.length + A'.length + 1]? = some y := by rw [← hPA]; exact get_mid2
    refine HV_of (fun w'' _ => Dat.ix rfl (by omega) w'') (HV_of (fun w'' _ => Dat.ix (i := P.length + X1.length + A'.length + 1) (by omega) (by omega) w'') ?_)
    have fin : ∀ {K' : Value → Value → Value → World → Prop}, (∀ x51 x52 w', Dat w' g cap ((P ++ X1 ++ A') ++ y :: (z :: B ++ R)) → Mod (fun b => b = g) w w' → K' x51 x52 undef w') →
        HK Tryd.prog (fun _ => True) (do pure (Next.value (← Instr.indexAt tAks (dv g cap ((P ++ X1 ++ A') ++ z :: y :: (B ++ R)).length) (.int .i64 ((P.length : Int) + X1.length + ((A' ++ [z]).length : Nat)))))) fun x51 => UK Tryd.prog (Instr.storeAt tAk x51 (.agg z.enc.toArray)) wd fun _ w => True ∧ (HK Tryd.prog (fun _ => True) (do pure (Next.value (← Instr.indexAt tAks (dv g cap ((P ++ X1 ++ A') ++ z :: y :: (B ++ R)).length) (.int .i64 ((P.length + X1.length + A'.length : Nat) : Int))))) fun x52 => UK Tryd.prog (Instr.storeAt tAk x52 (.agg y.enc.toArray)) w fun u w => True ∧ K' x51 x52 u w) := fun {K'} hK => by
      refine HV_of (fun w' _ => Dat.ix (i := P.length + X1.length + A'.length + 1) (by omega) (by omega) w') (hDd.st (by omega) fun w1 h1 hm1 hz1 => ⟨trivial, ?_⟩)
      refine HV_of (fun w' _ => Dat.ix (i := P.length + X1.length + A'.length) rfl (by omega) w') (h1.st (by rw [List.length_set]; omega) fun w2 h2 hm2 hz2 => ⟨trivial, ?_⟩)
      rw [← hPA, swap_mid] at h2
      exact hK _ _ w2 (by simpa using h2) (((hm.trans (hd.mono fun _ _ z => z.elim)).trans hm1).trans hm2)
    refine ⟨hDd.ld gz ⟨trivial, hDd.ld gy ⟨trivial, ?_⟩⟩, hDd.ld gy ⟨trivial, hDd.ld gz ⟨trivial, ?_⟩⟩⟩
    · refine fin fun _ _ w4 hD4 hm4 => ?_
      rw [slices_symMergeCmpFunc_group_asked_R22_eq]; unfold slices_symMergeCmpFunc_group_asked_R22_F
      simp only [sq_n, sq_x, sq_r, bk_n, bk_r, bk_x, rt_r, rt_n, rs_0, rs_t, pk_1, pk_2, up_at, reduceIte, Nat.reduceEqDiff, q17]
      rw [BK_sub, wrap_i (by omega) (by omega)]
      refine ⟨⟨A', z :: B, by rw [hA]; simp, ?_, q14, ?_, hD4, hm4⟩, ?_⟩
      · first | rfl | exact q0 | (rw [hlen]; exact q0) | (show dv g cap _ = _; rw [hlen])
      · show Value.int .i64 _ = _
        congr 1; omega
      · show (intOf (.int .i64 _)).toNat < _
        simp only [intOf]
        omega
    · refine fin fun _ _ w4 hD4 hm4 => ?_
      rw [slices_symMergeCmpFunc_group_asked_R22_eq]; unfold slices_symMergeCmpFunc_group_asked_R22_F
      simp only [sq_n, sq_x, sq_r, bk_n, bk_r, bk_x, rt_r, rt_n, rs_0, rs_t, pk_1, pk_2, up_at, reduceIte, Nat.reduceEqDiff, q17]
      rw [BK_sub, wrap_i (by omega) (by omega)]
      refine ⟨⟨A', z :: B, by rw [hA]; simp, ?_, q14, ?_, hD4, hm4⟩, ?_⟩
      · first | rfl | exact q0 | (rw [hlen]; exact q0) | (show dv g cap _ = _; rw [hlen])
      · show Value.int .i64 _ = _
        congr 1; omega
      · show (intOf (.int .i64 _)).toNat < _
        simp only [intOf]
        omega
theorem sm_L17 {lo hi N : Nat} (h : Dat w g cap (P ++ (X ++ (Y ++ R)))) (hn : n = (P ++ (X ++ (Y ++ R))).length) (hl : n ≤ 1000000) (e0 : ρ 0 = dv g cap n) (e4 : ρ 4 = ordF) (e20 : ρ 20 = .int .i64 lo) (e21 : ρ 21 = .int .i64 hi) (e22 : ρ 22 = .int .i64 ((N : Int) - 1)) (hlh : lo ≤ hi)
    (h1 : P.length ≤ lo) (h2 : hi ≤ P.length + X.length) (h3 : ∀ c, lo ≤ c → c < hi → P.length + X.length + c + 1 ≤ N ∧ N ≤ P.length + X.length + Y.length + c)
    (hk : ∀ ρ' w' s, lo ≤ s → s ≤ hi → (s = lo ∨ ∃ u v, X[s - 1 - P.length]? = some u ∧ Y[N - s - (P.length + X.length)]? = some v ∧ ltA v u = false) → (s = hi ∨ ∃ u v, X[s - P.length]? = some u ∧ Y[N - 1 - s - (P.length + X.length)]? = some v ∧ ltA v u = true) → SG ρ ρ' → ρ' 18 = ρ 18 → ρ' 19 = ρ 19 → ρ' 20 = .int .i64 s → Dat w' g cap (P ++ (X ++ (Y ++ R))) → Mod none_ w w' → K (.exit 8) ρ' w') :
    W fn_ Tryd.prog 220 (Code.loop slices_symMergeCmpFunc_group_asked_L17) K ρ w := by
  subst hn
  have hll : (P ++ (X ++ (Y ++ R))).length = P.length + (X.length + (Y.length + R.length)) := by simp
  refine W_loop slices_symMergeCmpFunc_group_asked_L17_ok (fun ρ' w' => ∃ i j : Nat, i ≤ j ∧ lo ≤ i ∧ j ≤ hi ∧ (i = lo ∨ ∃ u v, X[i - 1 - P.length]? = some u ∧ Y[N - i - (P.length + X.length)]? = some v ∧ ltA v u = false) ∧ (j = hi ∨ ∃ u v, X[j - P.length]? = some u ∧ Y[N - 1 - j - (P.length + X.length)]? = some v ∧ ltA v u = true) ∧ SG ρ ρ' ∧ ρ' 18 = ρ 18 ∧ ρ' 19 = ρ 19 ∧ ρ' 20 = .int .i64 i ∧ ρ' 21 = .int .i64 j ∧ ρ' 22 = .int .i64 ((N : Int) - 1) ∧ Mod none_ w w') (fun ρ' _ => (intOf (ρ' 21)).toNat - (intOf (ρ' 20)).toNat)
    ⟨lo, hi, hlh, by omega, by omega, .inl rfl, .inl rfl, SG.rfl', rfl, rfl, e20, e21, e22, Mod.refl _ _⟩ ?_
  rintro ρ' w' ⟨i, j, hij, hi1, hj1, hi0, hj0, hS, q18, q19, q20, q21, q22, hm⟩
  rw [slices_symMergeCmpFunc_group_asked_L17_eq]; unfold slices_symMergeCmpFunc_group_asked_L17_F
  rw [q20, q21, BK_lss]
  by_cases c : i < j
  · rw [decide_eq_true (by omega)]
    refine condT ?_
    rw [BK_add, wrap_i (by omega) (by omega)]
    refine half_k (by omega) (by omega) fun _ _ => ?_
    have hh : ((i : Int) + j) / 2 = (((i + j) / 2 : Nat) : Int) := by omega
    rw [hh]
    generalize hc : (i + j) / 2 = c' at *
    have hc1 : i ≤ c' ∧ c' < j := by omega
    obtain ⟨b1, b2⟩ := h3 c' (by omega) (by omega)
    have q0 := hS.e0.trans e0
    have q4 := hS.e4.trans e4
    refine slices_symMergeCmpFunc_group_asked_R23_quiet (D := []) (fun w'' => Mod none_ w w'') (hm.drawn _) ?_
    unfold slices_symMergeCmpFunc_group_asked_R23_Q
    simp only [sq_n, sq_x, sq_r, bk_n, bk_r, bk_x, rt_r, rt_n, rs_0, rs_t, pk_1, pk_2, up_at, reduceIte, Nat.reduceEqDiff, q0, q22, q4]
    have gx : (P ++ (X ++ (Y ++ R)))[c']? = some X[c' - P.length] := by
      have := idx_in (A := P) (Y := X) (R := Y ++ R) (k := c' - P.length) (by omega)
      rw [show P.length + (c' - P.length) = c' by omega] at this; exact this
    have gy : (P ++ (X ++ (Y ++ R)))[N - 1 - c']? = some Y[N - 1 - c' - (P.length + X.length)] := by
      have := idx_in (A := P ++ X) (Y := Y) (R := R) (k := N - 1 - c' - (P.length + X.length)) (by omega)
      rw [List.length_append, show P.length + X.length + (N - 1 - c' - (P.length + X.length)) = N - 1 - c' by omega, List.append_assoc] at this; exact this
    refine Qsub ?_
    rw [wrap_i (by omega) (by omega)]
    refine QV_of (fun w'' _ => Dat.ix (i := N - 1 - c') (by omega) (by omega) w'') (QV_of (fun w'' hw => (h.calm hw).run_ld gy) (QV_of (fun w'' _ => Dat.ix (i := c') rfl (by omega) w'') (QV_of (fun w'' hw => (h.calm hw).run_ld gx) ?_)))
    refine QC_ord (fun w1 w2 h1 h2 => h1.trans h2) (Qlss ?_)
    rw [ordA_lt]
    refine QV_of (v := .bool (!ltA Y[N - 1 - c' - (P.length + X.length)] X[c' - P.length])) (fun w'' _ => by cases ltA Y[N - 1 - c' - (P.length + X.length)] X[c' - P.length] <;> rfl) ?_
    intro w'' hm''
    rw [slices_symMergeCmpFunc_group_asked_R24_eq]; unfold slices_symMergeCmpFunc_group_asked_R24_F
    simp only [sq_n, sq_x, sq_r, bk_n, bk_r, bk_x, rt_r, rt_n, rs_0, rs_t, pk_1, pk_2, up_at, reduceIte, Nat.reduceEqDiff]
    refine caseC (fun q => ?_) (fun q => ?_)
    · rw [BK_add, wrap_i (by omega) (by omega)]
      refine ⟨⟨c' + 1, j, by omega, by omega, hj1, .inr ⟨X[c' - P.length], Y[N - 1 - c' - (P.length + X.length)], ?_, ?_, by simpa using q⟩, hj0, ⟨by first | exact hS.e0 | exact e0.symm, hS.e1, hS.e2, hS.e3, by first | exact hS.e4 | exact e4.symm⟩, q18, q19, ?_, q21, q22, hm''⟩, ?_⟩
      · rw [Nat.add_sub_cancel]; exact List.getElem?_eq_getElem (by omega)
      · rw [show N - (c' + 1) = N - 1 - c' by omega]; exact List.getElem?_eq_getElem (by omega)
      · show Value.int .i64 _ = _
        congr 1
      · show (intOf (ρ' 21)).toNat - (intOf (.int .i64 _)).toNat < _
        rw [q21]
        simp only [intOf]
        omega
    · refine ⟨⟨i, c', by omega, hi1, by omega, hi0, .inr ⟨X[c' - P.length], Y[N - 1 - c' - (P.length + X.length)], List.getElem?_eq_getElem (by omega), List.getElem?_eq_getElem (by omega), by simpa using q⟩, ⟨by first | exact hS.e0 | exact e0.symm, hS.e1, hS.e2, hS.e3, by first | exact hS.e4 | exact e4.symm⟩, q18, q19, q20, rfl, q22, hm''⟩, ?_⟩
      · show (intOf (.int .i64 _)).toNat - (intOf (ρ' 20)).toNat < _
        rw [q20]
        simp only [intOf]
        omega
  · rw [decide_eq_false (by omega)]
    refine condF ?_
    obtain rfl : i = j := by omega
    exact hk _ w' i hi1 hj1 hi0 hj0 ⟨hS.e0, hS.e1, hS.e2, hS.e3, hS.e4⟩ q18 q19 q20 (h.calm hm) hm
end
end Go.Proofs.YtandbmnhghmcgaaDoor.Col
set_option linter.unusedVariables false
set_option linter.unusedSimpArgs false
set_option maxRecDepth 4000
namespace Go.Proofs.YtandbmnhghmcgaaDoor.Col
open Go Go.X Go.RowKit Go.Proofs.YtandbmnhghmcgaaDoor.XF Go.Proofs.YtandbmnhghmcgaaDoor.XK
def SmP (g cap : Nat) (P X Y R : List Ak) (w w' : World) : Prop := ∃ S, Stab ltA (X ++ Y) S ∧ Dat w' g cap (P ++ (S ++ R)) ∧ Mod (fun b => b = g) w w'
def SmC (g cap N : Nat) : Prop := ∀ {w : World} {P X Y R : List Ak} {n : Nat} {a m b : Int}, X.length + Y.length ≤ N → Dat w g cap (P ++ (X ++ (Y ++ R))) → n = (P ++ (X ++ (Y ++ R))).length → n ≤ 1000000 → SortedL ltA X → SortedL ltA Y → 0 < X.length → 0 < Y.length → a = (P.length : Int) → m = a + X.length → b = m + Y.length →
  Rt Tryd.prog 124 #[dv g cap n, .int .i64 a, .int .i64 m, .int .i64 b, ordF] w fun _ w' => SmP g cap P X Y R w w'
section
variable {w : World} {g cap n N : Nat} {K : Exit → Sl → World → Prop} {ρ : Sl} {P X Y R : List Ak}
theorem sorted_one (h : SortedL ltA X) (k : SortedL ltA Y) (e : X = [] ∨ Y = []) : Stab ltA (X ++ Y) (X ++ Y) := by
  refine Stab.refl ?_
  rcases e with rfl | rfl
  · simpa using k
  · simpa using h
theorem sm_R26 {mid e b : Int} (ih : SmC g cap N) (hN : X.length + Y.length ≤ N) (h : Dat w g cap (P ++ (X ++ (Y ++ R)))) (hn : n = (P ++ (X ++ (Y ++ R))).length) (hl : n ≤ 1000000) (hX : SortedL ltA X) (hY : SortedL ltA Y) (e1 : mid = (P.length : Int)) (e2 : e = mid + X.length) (e3 : b = e + Y.length)
    (q0 : ρ 0 = dv g cap n) (q18 : ρ 18 = .int .i64 mid) (q24 : ρ 24 = .int .i64 e) (q3 : ρ 3 = .int .i64 b) (q4 : ρ 4 = ordF) (hk : ∀ ρ' w', SmP g cap P X Y R w w' → K .normal ρ' w') : sx fn_ Tryd.prog 220 slices_symMergeCmpFunc_group_asked_R26 K ρ w := by
  rw [slices_symMergeCmpFunc_group_asked_R26_eq]; unfold slices_symMergeCmpFunc_group_asked_R26_F
  rw [q18, q24, q3, q0, q4]
  have no : X = [] ∨ Y = [] → SmP g cap P X Y R w w := fun z => ⟨X ++ Y, sorted_one hX hY z, by simpa using h, Mod.refl _ _⟩
  by_cases c1 : mid < e
  · simp only [↓VG_u, ↓UG_u, ↓MG_u, ↓NG_u, ↓PG_u, ↓BG_u, ↓CG_u, ↓IG_u, ↓VGtt, ↓VGtf, ↓VGft, ↓VGff, ↓UGtt, ↓UGtf, ↓UGft, ↓UGff, ↓MGtt, ↓MGtf, ↓MGft, ↓MGff, ↓NGtt, ↓NGtf, ↓NGft, ↓NGff, ↓PGtt, ↓PGtf, ↓PGft, ↓PGff, ↓BGtt, ↓BGtf, ↓BGft, ↓BGff, ↓CGtt, ↓CGtf, ↓CGft, ↓CGff, ↓IGtt, ↓IGtf, ↓IGft, ↓IGff, ↓PKt, ↓PKf, ↓CDt, ↓CDf, ↓NOTt, ↓NOTf, ↓NK_ptr, ↓LTt c1]
    by_cases c2 : e < b
    · simp only [↓VG_u, ↓UG_u, ↓MG_u, ↓NG_u, ↓PG_u, ↓BG_u, ↓CG_u, ↓IG_u, ↓VGtt, ↓VGtf, ↓VGft, ↓VGff, ↓UGtt, ↓UGtf, ↓UGft, ↓UGff, ↓MGtt, ↓MGtf, ↓MGft, ↓MGff, ↓NGtt, ↓NGtf, ↓NGft, ↓NGff, ↓PGtt, ↓PGtf, ↓PGft, ↓PGff, ↓BGtt, ↓BGtf, ↓BGft, ↓BGff, ↓CGtt, ↓CGtf, ↓CGft, ↓CGff, ↓IGtt, ↓IGtf, ↓IGft, ↓IGff, ↓PKt, ↓PKf, ↓CDt, ↓CDf, ↓NOTt, ↓NOTf, ↓NK_ptr, ↓LTt c2]
      refine CK_st Tryd.func124 rfl rfl (ih hN h hn hl hX hY (by omega) (by omega) e1 e2 e3) ?_
      rintro _ w' hP
      exact hk _ w' hP
    · simp only [↓VG_u, ↓UG_u, ↓MG_u, ↓NG_u, ↓PG_u, ↓BG_u, ↓CG_u, ↓IG_u, ↓VGtt, ↓VGtf, ↓VGft, ↓VGff, ↓UGtt, ↓UGtf, ↓UGft, ↓UGff, ↓MGtt, ↓MGtf, ↓MGft, ↓MGff, ↓NGtt, ↓NGtf, ↓NGft, ↓NGff, ↓PGtt, ↓PGtf, ↓PGft, ↓PGff, ↓BGtt, ↓BGtf, ↓BGft, ↓BGff, ↓CGtt, ↓CGtf, ↓CGft, ↓CGff, ↓IGtt, ↓IGtf, ↓IGft, ↓IGff, ↓PKt, ↓PKf, ↓CDt, ↓CDf, ↓NOTt, ↓NOTf, ↓NK_ptr, ↓LTf (Int.not_lt.1 c2)]
      exact hk _ w (no (.inr (List.eq_nil_of_length_eq_zero (by omega))))
  · simp only [↓VG_u, ↓UG_u, ↓MG_u, ↓NG_u, ↓PG_u, ↓BG_u, ↓CG_u, ↓IG_u, ↓VGtt, ↓VGtf, ↓VGft, ↓VGff, ↓UGtt, ↓UGtf, ↓UGft, ↓UGff, ↓MGtt, ↓MGtf, ↓MGft, ↓MGff, ↓NGtt, ↓NGtf, ↓NGft, ↓NGff, ↓PGtt, ↓PGtf, ↓PGft, ↓PGff, ↓BGtt, ↓BGtf, ↓BGft, ↓BGff, ↓CGtt, ↓CGtf, ↓CGft, ↓CGff, ↓IGtt, ↓IGtf, ↓IGft, ↓IGff, ↓PKt, ↓PKf, ↓CDt, ↓CDf, ↓NOTt, ↓NOTf, ↓NK_ptr, ↓LTf (Int.not_lt.1 c1)]
    exact hk _ w (no (.inl (List.eq_nil_of_length_eq_zero (by omega))))
theorem sm_R25 {X1 Y1 X2 Y2 : List Ak} {a s mid e b : Int} (ih : SmC g cap N) (hN1 : X1.length + Y1.length ≤ N) (hN2 : X2.length + Y2.length ≤ N) (h : Dat w g cap (P ++ (X1 ++ (Y1 ++ (X2 ++ (Y2 ++ R)))))) (hn : n = (P ++ (X1 ++ (Y1 ++ (X2 ++ (Y2 ++ R))))).length) (hl : n ≤ 1000000) (hX1 : SortedL ltA X1) (hY1 : SortedL ltA Y1) (hX2 : SortedL ltA X2) (hY2 : SortedL ltA Y2)
    (e0 : a = (P.length : Int)) (e1 : s = a + X1.length) (e2 : mid = s + Y1.length) (e3 : e = mid + X2.length) (e4 : b = e + Y2.length)
    (q0 : ρ 0 = dv g cap n) (q1 : ρ 1 = .int .i64 a) (q20 : ρ 20 = .int .i64 s) (q18 : ρ 18 = .int .i64 mid) (q24 : ρ 24 = .int .i64 e) (q3 : ρ 3 = .int .i64 b) (q4 : ρ 4 = ordF)
    (hk : ∀ ρ' w' S1 S2, Stab ltA (X1 ++ Y1) S1 → Stab ltA (X2 ++ Y2) S2 → Dat w' g cap (P ++ ((S1 ++ S2) ++ R)) → Mod (fun b => b = g) w w' → K .normal ρ' w') : sx fn_ Tryd.prog 220 slices_symMergeCmpFunc_group_asked_R25 K ρ w := by
  rw [slices_symMergeCmpFunc_group_asked_R25_eq]; unfold slices_symMergeCmpFunc_group_asked_R25_F
  rw [q1, q20, q18, q0, q4]
  have go : ∀ (ρ' : Sl) (w' : World), ρ' 0 = ρ 0 → ρ' 18 = ρ 18 → ρ' 24 = ρ 24 → ρ' 3 = ρ 3 → ρ' 4 = ρ 4 → SmP g cap P X1 Y1 (X2 ++ (Y2 ++ R)) w w' → sx fn_ Tryd.prog 220 slices_symMergeCmpFunc_group_asked_R26 K ρ' w' := by
    rintro ρ' w' a0 a18 a24 a3 a4 ⟨S1, hS1, hD1, hm1⟩
    have lS : S1.length = X1.length + Y1.length := by rw [Stab.len ltA_wo hS1.eq, List.length_append]
    have eA : P ++ (S1 ++ (X2 ++ (Y2 ++ R))) = (P ++ S1) ++ (X2 ++ (Y2 ++ R)) := by simp
    rw [eA] at hD1
    refine sm_R26 (P := P ++ S1) (X := X2) (Y := Y2) (R := R) (n := n) (mid := mid) (e := e) (b := b) ih hN2 hD1 (by rw [hn]; simp only [List.length_append]; omega) hl hX2 hY2 (by rw [List.length_append, lS]; omega) e3 e4 (a0.trans q0) (a18.trans q18) (a24.trans q24) (a3.trans q3) (a4.trans q4) ?_
    rintro ρ2 w2 ⟨S2, hS2, hD2, hm2⟩
    exact hk ρ2 w2 S1 S2 hS1 hS2 (by simpa using hD2) (hm1.trans hm2)
  have no : X1 = [] ∨ Y1 = [] → SmP g cap P X1 Y1 (X2 ++ (Y2 ++ R)) w w := fun z => ⟨X1 ++ Y1, sorted_one hX1 hY1 z, by simpa using h, Mod.refl _ _⟩
  by_cases c1 : a < s
  · simp only [↓VG_u, ↓UG_u, ↓MG_u, ↓NG_u, ↓PG_u, ↓BG_u, ↓CG_u, ↓IG_u, ↓VGtt, ↓VGtf, ↓VGft, ↓VGff, ↓UGtt, ↓UGtf, ↓UGft, ↓UGff, ↓MGtt, ↓MGtf, ↓MGft, ↓MGff, ↓NGtt, ↓NGtf, ↓NGft, ↓NGff, ↓PGtt, ↓PGtf, ↓PGft, ↓PGff, ↓BGtt, ↓BGtf, ↓BGft, ↓BGff, ↓CGtt, ↓CGtf, ↓CGft, ↓CGff, ↓IGtt, ↓IGtf, ↓IGft, ↓IGff, ↓PKt, ↓PKf, ↓CDt, ↓CDf, ↓NOTt, ↓NOTf, ↓NK_ptr, ↓LTt c1]
    by_cases c2 : s < mid
    · simp only [↓VG_u, ↓UG_u, ↓MG_u, ↓NG_u, ↓PG_u, ↓BG_u, ↓CG_u, ↓IG_u, ↓VGtt, ↓VGtf, ↓VGft, ↓VGff, ↓UGtt, ↓UGtf, ↓UGft, ↓UGff, ↓MGtt, ↓MGtf, ↓MGft, ↓MGff, ↓NGtt, ↓NGtf, ↓NGft, ↓NGff, ↓PGtt, ↓PGtf, ↓PGft, ↓PGff, ↓BGtt, ↓BGtf, ↓BGft, ↓BGff, ↓CGtt, ↓CGtf, ↓CGft, ↓CGff, ↓IGtt, ↓IGtf, ↓IGft, ↓IGff, ↓PKt, ↓PKf, ↓CDt, ↓CDf, ↓NOTt, ↓NOTf, ↓NK_ptr, ↓LTt c2]
      refine CK_st Tryd.func124 rfl rfl (ih hN1 h hn hl hX1 hY1 (by omega) (by omega) e0 e1 e2) ?_
      rintro _ w' hP
      exact go _ w' (by first | exact q0.symm | rfl) (by first | exact q18.symm | rfl) rfl rfl (by first | exact q4.symm | rfl) hP
    · simp only [↓VG_u, ↓UG_u, ↓MG_u, ↓NG_u, ↓PG_u, ↓BG_u, ↓CG_u, ↓IG_u, ↓VGtt, ↓VGtf, ↓VGft, ↓VGff, ↓UGtt, ↓UGtf, ↓UGft, ↓UGff, ↓MGtt, ↓MGtf, ↓MGft, ↓MGff, ↓NGtt, ↓NGtf, ↓NGft, ↓NGff, ↓PGtt, ↓PGtf, ↓PGft, ↓PGff, ↓BGtt, ↓BGtf, ↓BGft, ↓BGff, ↓CGtt, ↓CGtf, ↓CGft, ↓CGff, ↓IGtt, ↓IGtf, ↓IGft, ↓IGff, ↓PKt, ↓PKf, ↓CDt, ↓CDf, ↓NOTt, ↓NOTf, ↓NK_ptr, ↓LTf (Int.not_lt.1 c2)]
      exact go _ w (by first | exact q0.symm | rfl) (by first | exact q18.symm | rfl) rfl rfl (by first | exact q4.symm | rfl) (no (.inr (List.eq_nil_of_length_eq_zero (by omega))))
  · simp only [↓VG_u, ↓UG_u, ↓MG_u, ↓NG_u, ↓PG_u, ↓BG_u, ↓CG_u, ↓IG_u, ↓VGtt, ↓VGtf, ↓VGft, ↓VGff, ↓UGtt, ↓UGtf, ↓UGft, ↓UGff, ↓MGtt, ↓MGtf, ↓MGft, ↓MGff, ↓NGtt, ↓NGtf, ↓NGft, ↓NGff, ↓PGtt, ↓PGtf, ↓PGft, ↓PGff, ↓BGtt, ↓BGtf, ↓BGft, ↓BGff, ↓CGtt, ↓CGtf, ↓CGft, ↓CGff, ↓IGtt, ↓IGtf, ↓IGft, ↓IGff, ↓PKt, ↓PKf, ↓CDt, ↓CDf, ↓NOTt, ↓NOTf, ↓NK_ptr, ↓LTf (Int.not_lt.1 c1)]
    exact go _ w (by first | exact q0.symm | rfl) (by first | exact q18.symm | rfl) rfl rfl (by first | exact q4.symm | rfl) (no (.inl (List.eq_nil_of_length_eq_zero (by omega))))
theorem sm_R18 {s : Nat} {a m b mid M : Int} (ih : SmC g cap N) (hN : X.length + Y.length ≤ N + 1) (hX0 : 0 < X.length) (hY0 : 0 < Y.length) (h : Dat w g cap (P ++ (X ++ (Y ++ R)))) (hn : n = (P ++ (X ++ (Y ++ R))).length) (hl : n ≤ 1000000) (hX : SortedL ltA X) (hY : SortedL ltA Y)
    (e0 : a = (P.length : Int)) (e1 : m = a + X.length) (e2 : b = m + Y.length) (hmid : mid = (a + b) / 2) (hM : M = mid + m) (hs0 : a ≤ s) (hs1 : (s : Int) ≤ m) (hs2 : (s : Int) ≤ mid) (hs3 : M - s ≤ b)
    (hlo : (s : Int) = a ∨ M - s = b ∨ ∃ u v, X[s - 1 - P.length]? = some u ∧ Y[(M - s - m).toNat]? = some v ∧ ltA v u = false) (hhi : (s : Int) = m ∨ (s : Int) = mid ∨ ∃ u v, X[s - P.length]? = some u ∧ Y[(M - 1 - s - m).toNat]? = some v ∧ ltA v u = true)
    (q0 : ρ 0 = dv g cap n) (q1 : ρ 1 = .int .i64 a) (q2 : ρ 2 = .int .i64 m) (q3 : ρ 3 = .int .i64 b) (q4 : ρ 4 = ordF) (q18 : ρ 18 = .int .i64 mid) (q19 : ρ 19 = .int .i64 M) (q20 : ρ 20 = .int .i64 s)
    (hk : ∀ ρ' w', SmP g cap P X Y R w w' → K .normal ρ' w') : sx fn_ Tryd.prog 220 slices_symMergeCmpFunc_group_asked_R18 K ρ w := by
  have hll : n = P.length + (X.length + (Y.length + R.length)) := by rw [hn]; simp
  obtain ⟨X1, X2, rfl, lX1⟩ : ∃ X1 X2, X = X1 ++ X2 ∧ (s : Int) = a + X1.length := ⟨X.take (s - P.length), X.drop (s - P.length), (List.take_append_drop _ _).symm, by rw [List.length_take]; omega⟩
  obtain ⟨Y1, Y2, rfl, lY1⟩ : ∃ Y1 Y2, Y = Y1 ++ Y2 ∧ M - s = m + Y1.length := ⟨Y.take (M - s - m).toNat, Y.drop (M - s - m).toNat, (List.take_append_drop _ _).symm, by rw [List.length_take]; omega⟩
  have lX : (X1 ++ X2).length = X1.length + X2.length := List.length_append
  have lY : (Y1 ++ Y2).length = Y1.length + Y2.length := List.length_append
  have hX' := List.pairwise_append.1 hX
  have hY' := List.pairwise_append.1 hY
  have hxy : ∀ a ∈ X1, ∀ b ∈ Y2, ltA b a = false := by
    intro p hp r hr
    have h1 : 0 < X1.length := List.length_pos_of_mem hp
    have h2 : 0 < Y2.length := List.length_pos_of_mem hr
    rcases hlo with z | z | ⟨u, v, hu, hv, huv⟩
    · omega
    · omega
    · rw [show s - 1 - P.length = X1.length - 1 by omega, List.getElem?_append_left (by omega)] at hu
      rw [show (M - s - m).toNat = Y1.length by omega, List.getElem?_append_right (by omega), Nat.sub_self] at hv
      obtain ⟨i, hi, rfl⟩ := List.mem_iff_getElem.1 hp
      obtain ⟨j, hj, rfl⟩ := List.mem_iff_getElem.1 hr
      have a1 := SortedL.le_at ltA_wo (show SortedL ltA X1 from hX'.1) (i := i) (j := X1.length - 1) (by omega) (List.getElem?_eq_getElem hi) hu
      have a2 := SortedL.le_at ltA_wo (show SortedL ltA Y2 from hY'.2.1) (i := 0) (j := j) (by omega) hv (List.getElem?_eq_getElem hj)
      exact ltA_wo.tr _ v _ (ltA_wo.tr _ u _ a1 huv) a2
  have hyx : ∀ a ∈ X2, ∀ b ∈ Y1, ltA b a = true := by
    intro p hp r hr
    have h1 : 0 < X2.length := List.length_pos_of_mem hp
    have h2 : 0 < Y1.length := List.length_pos_of_mem hr
    rcases hhi with z | z | ⟨u, v, hu, hv, huv⟩
    · omega
    · omega
    · rw [show s - P.length = X1.length by omega, List.getElem?_append_right (by omega), Nat.sub_self] at hu
      rw [show (M - 1 - s - m).toNat = Y1.length - 1 by omega, List.getElem?_append_left (by omega)] at hv
      obtain ⟨i, hi, rfl⟩ := List.mem_iff_getElem.1 hp
      obtain ⟨j, hj, rfl⟩ := List.mem_iff_getElem.1 hr
      have a1 := SortedL.le_at ltA_wo (show SortedL ltA X2 from hX'.2.1) (i := 0) (j := i) (by omega) hu (List.getElem?_eq_getElem hi)
      have a2 := SortedL.le_at ltA_wo (show SortedL ltA Y1 from hY'.1) (i := j) (j := Y1.length - 1) (by omega) (List.getElem?_eq_getElem hj) hv
      cases hq : ltA Y1[j] X2[i] with
      | true => rfl
      | false =>
        have := ltA_wo.tr u _ v (ltA_wo.tr u _ _ a1 hq) a2
        rw [huv] at this; cases this
  rw [slices_symMergeCmpFunc_group_asked_R18_eq]; unfold slices_symMergeCmpFunc_group_asked_R18_F
  rw [q19, q20, q2, q0, q4, BK_sub, wrap_i (by omega) (by omega)]
  have go : ∀ (ρ' : Sl) (w' : World), ρ' 0 = ρ 0 → ρ' 1 = ρ 1 → ρ' 18 = ρ 18 → ρ' 20 = ρ 20 → ρ' 24 = .int .i64 (M - s) → ρ' 3 = ρ 3 → ρ' 4 = ρ 4 → Dat w' g cap (P ++ (X1 ++ (Y1 ++ (X2 ++ (Y2 ++ R))))) → Mod (fun b => b = g) w w' → sx fn_ Tryd.prog 220 slices_symMergeCmpFunc_group_asked_R25 K ρ' w' := by
    intro ρ' w' a0 a1 a18 a20 a24 a3 a4 hD hm
    refine sm_R25 (X1 := X1) (Y1 := Y1) (X2 := X2) (Y2 := Y2) (a := a) (s := s) (mid := mid) (e := M - s) (b := b) (n := n) ih (by omega) (by omega) hD (by rw [hll]; simp only [List.length_append]; omega) hl hX'.1 hY'.1 hX'.2.1 hY'.2.1 e0 lX1 (by omega) (by omega) (by omega) (a0.trans q0) (a1.trans q1) (a20.trans q20) (a18.trans q18) a24 (a3.trans q3) (a4.trans q4) ?_
    intro ρ2 w2 S1 S2 h1 h2 hD2 hm2
    exact hk ρ2 w2 ⟨S1 ++ S2, stab_halves ltA_wo hX hY hxy hyx h1 h2, hD2, hm.trans hm2⟩
  have no : X2 = [] ∨ Y1 = [] → Dat w g cap (P ++ (X1 ++ (Y1 ++ (X2 ++ (Y2 ++ R))))) := fun z => by
    rcases z with rfl | rfl
    · simpa using h
    · simpa using h
  have gof := fun (x : Value) => True
  by_cases c1 : (s : Int) < m
  · simp only [↓VG_u, ↓UG_u, ↓MG_u, ↓NG_u, ↓PG_u, ↓BG_u, ↓CG_u, ↓IG_u, ↓VGtt, ↓VGtf, ↓VGft, ↓VGff, ↓UGtt, ↓UGtf, ↓UGft, ↓UGff, ↓MGtt, ↓MGtf, ↓MGft, ↓MGff, ↓NGtt, ↓NGtf, ↓NGft, ↓NGff, ↓PGtt, ↓PGtf, ↓PGft, ↓PGff, ↓BGtt, ↓BGtf, ↓BGft, ↓BGff, ↓CGtt, ↓CGtf, ↓CGft, ↓CGff, ↓IGtt, ↓IGtf, ↓IGft, ↓IGff, ↓PKt, ↓PKf, ↓CDt, ↓CDf, ↓NOTt, ↓NOTf, ↓NK_ptr, ↓LTt c1]
    by_cases c2 : m < M - s
    · simp only [↓VG_u, ↓UG_u, ↓MG_u, ↓NG_u, ↓PG_u, ↓BG_u, ↓CG_u, ↓IG_u, ↓VGtt, ↓VGtf, ↓VGft, ↓VGff, ↓UGtt, ↓UGtf, ↓UGft, ↓UGff, ↓MGtt, ↓MGtf, ↓MGft, ↓MGff, ↓NGtt, ↓NGtf, ↓NGft, ↓NGff, ↓PGtt, ↓PGtf, ↓PGft, ↓PGff, ↓BGtt, ↓BGtf, ↓BGft, ↓BGff, ↓CGtt, ↓CGtf, ↓CGft, ↓CGff, ↓IGtt, ↓IGtf, ↓IGft, ↓IGff, ↓PKt, ↓PKf, ↓CDt, ↓CDf, ↓NOTt, ↓NOTf, ↓NK_ptr, ↓LTt c2]
      have eA : P ++ ((X1 ++ X2) ++ ((Y1 ++ Y2) ++ R)) = (P ++ X1) ++ (X2 ++ (Y1 ++ (Y2 ++ R))) := by simp
      rw [eA] at h
      refine CK_st Tryd.func125 rfl rfl (rot_ok (A := P ++ X1) (U := X2) (V := Y1) (B := Y2 ++ R) h (by rw [hll]; simp only [List.length_append]; omega) hl (by omega) (by omega) (by rw [List.length_append]; omega) (by omega) (by omega)) ?_
      rintro _ w' ⟨hD, hm⟩
      exact go _ w' (by first | exact q0.symm | rfl) rfl rfl (by first | exact q20.symm | rfl) rfl rfl (by first | exact q4.symm | rfl) (by simpa using hD) hm
    · simp only [↓VG_u, ↓UG_u, ↓MG_u, ↓NG_u, ↓PG_u, ↓BG_u, ↓CG_u, ↓IG_u, ↓VGtt, ↓VGtf, ↓VGft, ↓VGff, ↓UGtt, ↓UGtf, ↓UGft, ↓UGff, ↓MGtt, ↓MGtf, ↓MGft, ↓MGff, ↓NGtt, ↓NGtf, ↓NGft, ↓NGff, ↓PGtt, ↓PGtf, ↓PGft, ↓PGff, ↓BGtt, ↓BGtf, ↓BGft, ↓BGff, ↓CGtt, ↓CGtf, ↓CGft, ↓CGff, ↓IGtt, ↓IGtf, ↓IGft, ↓IGff, ↓PKt, ↓PKf, ↓CDt, ↓CDf, ↓NOTt, ↓NOTf, ↓NK_ptr, ↓LTf (Int.not_lt.1 c2)]
      exact go _ w (by first | exact q0.symm | rfl) rfl rfl (by first | exact q20.symm | rfl) rfl rfl (by first | exact q4.symm | rfl) (no (.inr (List.eq_nil_of_length_eq_zero (by omega)))) (Mod.refl _ _)
  · simp only [↓VG_u, ↓UG_u, ↓MG_u, ↓NG_u, ↓PG_u, ↓BG_u, ↓CG_u, ↓IG_u, ↓VGtt, ↓VGtf, ↓VGft, ↓VGff, ↓UGtt, ↓UGtf, ↓UGft, ↓UGff, ↓MGtt, ↓MGtf, ↓MGft, ↓MGff, ↓NGtt, ↓NGtf, ↓NGft, ↓NGff, ↓PGtt, ↓PGtf, ↓PGft, ↓PGff, ↓BGtt, ↓BGtf, ↓BGft, ↓BGff, ↓CGtt, ↓CGtf, ↓CGft, ↓CGff, ↓IGtt, ↓IGtf, ↓IGft, ↓IGff, ↓PKt, ↓PKf, ↓CDt, ↓CDf, ↓NOTt, ↓NOTf, ↓NK_ptr, ↓LTf (Int.not_lt.1 c1)]
    exact go _ w (by first | exact q0.symm | rfl) rfl rfl (by first | exact q20.symm | rfl) rfl rfl (by first | exact q4.symm | rfl) (no (.inl (List.eq_nil_of_length_eq_zero (by omega)))) (Mod.refl _ _)
end
end Go.Proofs.YtandbmnhghmcgaaDoor.Col
set_option linter.unusedVariables false
set_option linter.unusedSimpArgs false
set_option maxRecDepth 4000
namespace Go.Proofs.YtandbmnhghmcgaaDoor.Col
open Go Go.X Go.RowKit Go.Proofs.YtandbmnhghmcgaaDoor.XF Go.Proofs.YtandbmnhghmcgaaDoor.XK
section
variable {w : World} {g cap n N : Nat} {ρ : Sl} {P X Y R : List Ak}
abbrev SmK (g cap : Nat) (P X Y R : List Ak) (w0 : World) : Exit → Sl → World → Prop := retK Tryd.prog [] (fun _ w' => SmP g cap P X Y R w0 w')
theorem sm_R7 {lo hi : Nat} {a m b mid M : Int} (ih : SmC g cap N) (hN : X.length + Y.length ≤ N + 1) (hX0 : 0 < X.length) (hY0 : 0 < Y.length) (h : Dat w g cap (P ++ (X ++ (Y ++ R)))) (hn : n = (P ++ (X ++ (Y ++ R))).length) (hl : n ≤ 1000000) (hX : SortedL ltA X) (hY : SortedL ltA Y)
    (e0 : a = (P.length : Int)) (e1 : m = a + X.length) (e2 : b = m + Y.length) (hmid : mid = (a + b) / 2) (hM : M = mid + m) (hlh : (mid < m ∧ (lo : Int) = M - b ∧ (hi : Int) = mid) ∨ (m ≤ mid ∧ (lo : Int) = a ∧ (hi : Int) = m))
    (q0 : ρ 0 = dv g cap n) (q1 : ρ 1 = .int .i64 a) (q2 : ρ 2 = .int .i64 m) (q3 : ρ 3 = .int .i64 b) (q4 : ρ 4 = ordF) (q18 : ρ 18 = .int .i64 mid) (q19 : ρ 19 = .int .i64 M) (q20 : ρ 20 = .int .i64 lo) (q21 : ρ 21 = .int .i64 hi) :
    sx fn_ Tryd.prog 220 slices_symMergeCmpFunc_group_asked_R7 (SmK g cap P X Y R w) ρ w := by
  have hll : n = P.length + (X.length + (Y.length + R.length)) := by rw [hn]; simp
  rw [slices_symMergeCmpFunc_group_asked_R7_eq]; unfold slices_symMergeCmpFunc_group_asked_R7_F
  rw [q19, BK_sub, wrap_i (by omega) (by omega)]
  obtain ⟨Mn, hMn⟩ : ∃ Mn : Nat, M = (Mn : Int) := ⟨M.toNat, by omega⟩
  refine sm_L17 (lo := lo) (hi := hi) (N := Mn) h hn hl q0 q4 q20 q21 (by show Value.int .i64 _ = _; rw [hMn]) (by omega) (by omega) (by omega) (fun c hc1 hc2 => by omega) ?_
  intro ρ' w' s hs1 hs2 hlo hhi hS a18 a19 a20 hD hm
  rw [bk_x, sq_n]
  refine sm_R18 (s := s) (a := a) (m := m) (b := b) (mid := mid) (M := M) (n := n) ih hN hX0 hY0 hD hn hl hX hY e0 e1 e2 hmid hM (by omega) (by omega) (by omega) (by omega) ?_ ?_ (hS.e0.trans q0) (hS.e1.trans q1) (hS.e2.trans q2) (hS.e3.trans q3) (hS.e4.trans q4) (a18.trans q18) (a19.trans q19) a20 ?_
  · rcases hlo with z | ⟨u, v, hu, hv, huv⟩
    · rcases hlh with ⟨_, z2, _⟩ | ⟨_, z2, _⟩
      · exact .inr (.inl (by omega))
      · exact .inl (by omega)
    · refine .inr (.inr ⟨u, v, hu, ?_, huv⟩)
      rw [show (M - (s : Int) - m).toNat = Mn - s - (P.length + X.length) by omega]; exact hv
  · rcases hhi with z | ⟨u, v, hu, hv, huv⟩
    · rcases hlh with ⟨_, _, z2⟩ | ⟨_, _, z2⟩
      · exact .inr (.inl (by omega))
      · exact .inl (by omega)
    · refine .inr (.inr ⟨u, v, hu, ?_, huv⟩)
      rw [show (M - 1 - (s : Int) - m).toNat = Mn - 1 - s - (P.length + X.length) by omega]; exact hv
  · rintro ρ2 w2 ⟨S, hS2, hD2, hm2⟩
    exact ⟨S, hS2, hD2, (hm.mono fun _ _ z => z.elim).trans hm2⟩
theorem symMerge_ok (g cap : Nat) : ∀ N, SmC g cap N := by
  intro N
  induction N with
  | zero => intro w P X Y R n a m b hN h hn hl hX hY hX0 hY0 e0 e1 e2; omega
  | succ N ih =>
    intro w P X Y R n a m b hN h hn hl hX hY hX0 hY0 e0 e1 e2
    have hll : n = P.length + (X.length + (Y.length + R.length)) := by rw [hn]; simp
    refine slices_symMergeCmpFunc_group_asked_calls ?_
    unfold slices_symMergeCmpFunc_group_asked_F
    rw [BK_sub, wrap_i (by omega) (by omega)]
    refine caseI (fun c1 => condT ?_) (fun c1 => condF ?_)
    · obtain ⟨x, rfl⟩ : ∃ x, X = [x] := by
        match X, hX0, (show X.length = 1 by omega) with
        | [x], _, _ => exact ⟨x, rfl⟩
      have eA : P ++ ([x] ++ (Y ++ R)) = (P ++ [x]) ++ (Y ++ R) := by simp
      have lx : ([x] : List Ak).length = 1 := rfl
      refine sm_L0 (P := P) (x := x) (Y := Y) (R := R) (n := n) (by rw [← eA]; exact h) (by rw [← eA]; exact hn) hl hY rfl (by rw [← e0]; rfl) rfl (by show Value.int .i64 _ = _; congr 1; omega) (by show Value.int .i64 _ = _; congr 1; omega) ?_
      intro ρ' w' Y1 Y2 hY12 h1 h2 hS a10 hD hm
      rw [bk_x, sq_n, slices_symMergeCmpFunc_group_asked_R1_eq]; unfold slices_symMergeCmpFunc_group_asked_R1_F
      have a1 : ρ' 1 = .int .i64 a := hS.e1
      have a0 : ρ' 0 = dv g cap n := hS.e0
      subst hY12
      rw [a1]
      refine sm_L10 (P := P) (x := x) (Y1 := Y1) (Z := Y2 ++ R) (n := n) (by simpa using hD) (by rw [hn]; simp) hl a0 a10 (by show Value.int .i64 _ = _; rw [e0]) ?_
      intro ρ2 w2 hD2 hm2
      rw [bk_x, sq_n, slices_symMergeCmpFunc_group_asked_R11_eq]; unfold slices_symMergeCmpFunc_group_asked_R11_F
      exact ⟨Y1 ++ x :: Y2, by simpa using stab_out ltA_wo (Y1 := Y1) (Y2 := Y2) (x := x) hY h1 h2, by simpa using hD2, (hm.mono fun _ _ z => z.elim).trans hm2⟩
    rw [BK_sub, wrap_i (by omega) (by omega)]
    refine caseI (fun c2 => condT ?_) (fun c2 => condF ?_)
    · obtain ⟨y, rfl⟩ : ∃ y, Y = [y] := by
        match Y, hY0, (show Y.length = 1 by omega) with
        | [y], _, _ => exact ⟨y, rfl⟩
      have ly : ([y] : List Ak).length = 1 := rfl
      refine sm_L3 (P := P) (X := X) (y := y) (R := R) (n := n) h hn hl hX rfl (by show Value.int .i64 _ = _; congr 1; omega) rfl (by show Value.int .i64 _ = _; congr 1) (by show Value.int .i64 _ = _; congr 1; omega) ?_
      intro ρ' w' X1 X2 hX12 h1 h2 hS a14 hD hm
      rw [bk_x, sq_n, slices_symMergeCmpFunc_group_asked_R4_eq]; unfold slices_symMergeCmpFunc_group_asked_R4_F
      have a2 : ρ' 2 = .int .i64 m := hS.e2
      have a0 : ρ' 0 = dv g cap n := hS.e0
      subst hX12
      have lX : (X1 ++ X2).length = X1.length + X2.length := List.length_append
      rw [a2]
      refine sm_L15 (P := P) (X1 := X1) (X2 := X2) (y := y) (R := R) (n := n) (by simpa using hD) (by rw [hn]; simp) hl a0 a14 (by show Value.int .i64 _ = _; congr 1; omega) ?_
      intro ρ2 w2 hD2 hm2
      rw [bk_x, sq_n, slices_symMergeCmpFunc_group_asked_R16_eq]; unfold slices_symMergeCmpFunc_group_asked_R16_F
      exact ⟨X1 ++ y :: X2, stab_ins ltA_wo hX h1 h2, by simpa using hD2, (hm.mono fun _ _ z => z.elim).trans hm2⟩
    rw [BK_add, wrap_i (by omega) (by omega)]
    refine half_k (by omega) (by omega) fun _ _ => ?_
    obtain ⟨mid, hmid⟩ : ∃ mid, mid = (a + b) / 2 := ⟨_, rfl⟩
    rw [← hmid, BK_add, wrap_i (by omega) (by omega), BK_gtr]
    have key : ∀ (ρ : Sl), ρ 0 = dv g cap n → ρ 1 = .int .i64 a → ρ 2 = .int .i64 m → ρ 3 = .int .i64 b → ρ 4 = ordF → ρ 18 = .int .i64 mid → ρ 19 = .int .i64 (mid + m) → ρ 140 = .bool (decide (mid < m)) →
        sx fn_ Tryd.prog 220 slices_symMergeCmpFunc_group_asked_R6 (seqK (sx fn_ Tryd.prog 220 slices_symMergeCmpFunc_group_asked_R7 (SmK g cap P X Y R w)) (SmK g cap P X Y R w)) ρ w := by
      intro ρ q0 q1 q2 q3 q4 q18 q19 q140
      rw [slices_symMergeCmpFunc_group_asked_R6_eq]; unfold slices_symMergeCmpFunc_group_asked_R6_F
      rw [q140]
      refine caseC (fun c => ?_) (fun c => ?_)
      · have c' : mid < m := of_decide_eq_true c
        rw [q19, q3, q18, BK_sub, wrap_i (by omega) (by omega), sq_n]
        exact sm_R7 (lo := (mid + m - b).toNat) (hi := mid.toNat) ih hN hX0 hY0 h hn hl hX hY e0 e1 e2 hmid rfl (.inl ⟨c', by omega, by omega⟩) q0 q1 q2 (by first | exact q3 | rfl) q4 (by first | exact q18 | rfl) (by first | exact q19 | rfl) (by show Value.int .i64 _ = _; congr 1; omega) (by show Value.int .i64 _ = _; congr 1; omega)
      · have c' : ¬ mid < m := of_decide_eq_false c
        rw [q1, q2, sq_n]
        exact sm_R7 (lo := P.length) (hi := m.toNat) ih hN hX0 hY0 h hn hl hX hY e0 e1 e2 hmid rfl (.inr ⟨by omega, by omega, by omega⟩) q0 (by first | exact q1 | rfl) (by first | exact q2 | rfl) q3 q4 q18 q19 (by show Value.int .i64 _ = _; rw [e0]) (by show Value.int .i64 _ = _; congr 1; omega)
    exact key _ rfl rfl rfl rfl rfl rfl rfl rfl
end
end Go.Proofs.YtandbmnhghmcgaaDoor.Col
set_option linter.unusedVariables false
set_option linter.unusedSimpArgs false
set_option maxRecDepth 4000
namespace Go.Proofs.YtandbmnhghmcgaaDoor.Col
open Go Go.X Go.RowKit Go.Proofs.YtandbmnhghmcgaaDoor.XF Go.Proofs.YtandbmnhghmcgaaDoor.XK
def Fq (l l' : List Ak) : Prop := ∀ x, l'.filter (eqv ltA x) = l.filter (eqv ltA x)
theorem Fq.seg {l P X S R : List Ak} (h : Fq l (P ++ (X ++ R))) (hs : Stab ltA X S) : Fq l (P ++ (S ++ R)) := fun x => by
  rw [← h x]
  simp only [List.filter_append, hs.eq]
theorem Fq.len {l l' : List Ak} (h : Fq l l') : l'.length = l.length := Stab.len ltA_wo h
section
variable {w : World} {g cap n : Nat} {l : List Ak}
theorem insSort_nil (v f : Value) (w : World) : Rt Tryd.prog 123 #[v, .int .i64 0, .int .i64 0, f] w fun _ w' => w' = w := by
  refine slices_insertionSortCmpFunc_group_asked_calls ?_
  unfold slices_insertionSortCmpFunc_group_asked_F
  rw [BK_add, wrap_i (by omega) (by omega)]
  refine W_loop slices_insertionSortCmpFunc_group_asked_L0_ok (fun ρ' w' => ρ' 8 = .int .i64 (0 + 1) ∧ ρ' 2 = .int .i64 0 ∧ w' = w) (fun _ _ => 0) ⟨rfl, rfl, rfl⟩ ?_
  rintro ρ' w' ⟨q8, q2, rfl⟩
  rw [slices_insertionSortCmpFunc_group_asked_L0_eq]; unfold slices_insertionSortCmpFunc_group_asked_L0_F
  rw [q8, q2, BK_lss, decide_eq_false (by omega)]
  refine condF ?_
  rw [sq_x, bk_x]
  exact rfl
theorem stable_nil (v f : Value) (w : World) : Rt Tryd.prog 118 #[v, .int .i64 0, f] w fun _ w' => w' = w := by
  refine slices_stableCmpFunc_group_asked_calls ?_
  unfold slices_stableCmpFunc_group_asked_F
  refine W_loop slices_stableCmpFunc_group_asked_L0_ok (fun ρ' w' => ρ' 0 = v ∧ ρ' 1 = .int .i64 0 ∧ ρ' 2 = f ∧ ρ' 6 = .int .i64 20 ∧ ρ' 7 = .int .i64 0 ∧ ρ' 8 = .int .i64 20 ∧ w' = w) (fun _ _ => 0) ⟨rfl, rfl, rfl, rfl, rfl, rfl, rfl⟩ ?_
  rintro ρ' w' ⟨q0, q1, q2, q6, q7, q8, rfl⟩
  rw [slices_stableCmpFunc_group_asked_L0_eq]; unfold slices_stableCmpFunc_group_asked_L0_F
  rw [q8, q1, BK_leq, decide_eq_false (by omega)]
  refine condF ?_
  rw [sq_x, bk_x, sq_n, slices_stableCmpFunc_group_asked_R1_eq]; unfold slices_stableCmpFunc_group_asked_R1_F
  have key : ∀ ρ : Sl, ρ 0 = v → ρ 1 = .int .i64 0 → ρ 2 = f → ρ 6 = .int .i64 20 → ρ 7 = .int .i64 0 → CK Tryd.prog (.func (.func 123) #[] #[]) [ρ 0, ρ 7, ρ 1, ρ 2] w' fun x27 w => W fn_ Tryd.prog 63 (Code.loop slices_stableCmpFunc_group_asked_L2) (blkK 2 (retK Tryd.prog [] fun _ w1 => w1 = w')) (up (up (up (up (up ρ 23 (ρ 0)) 24 (ρ 7)) 25 (ρ 1)) 26 (ρ 2)) 27 x27) w := by
    intro ρ p0 p1 p2 p6 p7
    rw [p0, p1, p2, p7]
    refine CK_st Tryd.func123 rfl rfl (insSort_nil v f w') ?_
    rintro _ w2 rfl
    refine W_loop slices_stableCmpFunc_group_asked_L2_ok (fun ρ' w1 => ρ' 6 = .int .i64 20 ∧ ρ' 1 = .int .i64 0 ∧ w1 = w2) (fun _ _ => 0) ⟨p6, p1, rfl⟩ ?_
    rintro ρ3 w3 ⟨r6, r1, rfl⟩
    rw [slices_stableCmpFunc_group_asked_L2_eq]; unfold slices_stableCmpFunc_group_asked_L2_F
    rw [r6, r1, BK_lss, decide_eq_false (by omega)]
    refine condF ?_
    rw [sq_x, bk_x]
    exact rfl
  exact key _ q0 q1 q2 q6 q7
structure Bl (bs : Nat) (Bs : List (List Ak)) (C : List Ak) : Prop where
  so : ∀ B ∈ Bs, SortedL ltA B ∧ B.length = bs
  last : SortedL ltA C
theorem Bl.len {bs : Nat} {Bs : List (List Ak)} (h : ∀ B ∈ Bs, SortedL ltA B ∧ B.length = bs) : Bs.flatten.length = Bs.length * bs := by
  induction Bs with
  | nil => simp
  | cons B Bs ih =>
    rw [List.flatten_cons, List.length_append, ih fun x hx => h x (List.mem_cons_of_mem _ hx), (h B List.mem_cons_self).2, List.length_cons, Nat.succ_mul]
    omega
theorem stable_L3 {K : Exit → Sl → World → Prop} {ρ : Sl} {bs : Nat} {Bs : List (List Ak)} {C : List Ak} (hb0 : 0 < bs) (hb : bs < n) (hl : n ≤ 1000000) (hB : Bl bs Bs C) (hC : C.length < bs) (h : Dat w g cap (Bs.flatten ++ C)) (hn : n = (Bs.flatten ++ C).length) (hq : Fq l (Bs.flatten ++ C))
    (q0 : ρ 0 = dv g cap n) (q1 : ρ 1 = .int .i64 n) (q2 : ρ 2 = ordF) (q6 : ρ 6 = .int .i64 bs) (q7 : ρ 7 = .int .i64 0) (q8 : ρ 8 = .int .i64 ((2 * bs : Nat) : Int))
    (hk : ∀ (ρ' : Sl) (w' : World) (Ds Bs' : List (List Ak)), (∀ D ∈ Ds, SortedL ltA D ∧ D.length = 2 * bs) → (∀ B ∈ Bs', SortedL ltA B ∧ B.length = bs) → Bs'.length ≤ 1 → ρ' 0 = ρ 0 → ρ' 1 = ρ 1 → ρ' 2 = ρ 2 → ρ' 6 = ρ 6 → ρ' 7 = .int .i64 Ds.flatten.length → Dat w' g cap (Ds.flatten ++ (Bs'.flatten ++ C)) → n = (Ds.flatten ++ (Bs'.flatten ++ C)).length → Fq l (Ds.flatten ++ (Bs'.flatten ++ C)) → Mod (fun b => b = g) w w' → K (.exit 4) ρ' w') :
    W fn_ Tryd.prog 63 (Code.loop slices_stableCmpFunc_group_asked_L3) K ρ w := by
  refine W_loop slices_stableCmpFunc_group_asked_L3_ok (fun ρ' w' => ∃ Ds Bs' : List (List Ak), (∀ D ∈ Ds, SortedL ltA D ∧ D.length = 2 * bs) ∧ (∀ B ∈ Bs', SortedL ltA B ∧ B.length = bs) ∧ ρ' 0 = ρ 0 ∧ ρ' 1 = ρ 1 ∧ ρ' 2 = ρ 2 ∧ ρ' 6 = ρ 6 ∧ ρ' 7 = .int .i64 Ds.flatten.length ∧ ρ' 8 = .int .i64 ((Ds.flatten.length + 2 * bs : Nat) : Int) ∧ Dat w' g cap (Ds.flatten ++ (Bs'.flatten ++ C)) ∧ n = (Ds.flatten ++ (Bs'.flatten ++ C)).length ∧ Fq l (Ds.flatten ++ (Bs'.flatten ++ C)) ∧ Mod (fun b => b = g) w w') (fun ρ' _ => n + 2 * bs - (intOf (ρ' 8)).toNat)
    ⟨[], Bs, by simp, hB.so, rfl, rfl, rfl, rfl, q7, by rw [q8]; simp, h, hn, hq, Mod.refl _ _⟩ ?_
  rintro ρ' w' ⟨Ds, Bs', hD, hB', p0, p1, p2, p6, p7, p8, hDat, hn', hq', hm⟩
  rw [slices_stableCmpFunc_group_asked_L3_eq]; unfold slices_stableCmpFunc_group_asked_L3_F
  have lB := Bl.len hB'
  have ln : n = Ds.flatten.length + (Bs'.flatten.length + C.length) := by rw [hn']; simp
  have p0' := p0.trans q0
  have p1' := p1.trans q1
  have p2' := p2.trans q2
  have p6' := p6.trans q6
  rw [p8, p1', p7, p6', p0', p2', BK_leq]
  match Bs', hB', lB, hDat, hn', hq' with
  | B1 :: B2 :: Bs'', hB', lB, hDat, hn', hq' =>
    obtain ⟨s1, l1⟩ := hB' B1 (by simp)
    obtain ⟨s2, l2⟩ := hB' B2 (by simp)
    have lf : (B1 :: B2 :: Bs'').flatten.length = bs + (bs + Bs''.flatten.length) := by simp [l1, l2]
    rw [decide_eq_true (by omega)]
    refine condT ?_
    rw [BK_add, wrap_i (by omega) (by omega)]
    have eA : Ds.flatten ++ ((B1 :: B2 :: Bs'').flatten ++ C) = Ds.flatten ++ (B1 ++ (B2 ++ (Bs''.flatten ++ C))) := by simp
    rw [eA] at hDat hq' hn'
    refine CK_st Tryd.func124 rfl rfl (symMerge_ok g cap (B1.length + B2.length) (Nat.le_refl _) hDat hn' hl s1 s2 (by omega) (by omega) rfl (by omega) (by omega)) ?_
    rintro _ w2 ⟨S, hS, hD2, hm2⟩
    have lS : S.length = 2 * bs := by rw [Stab.len ltA_wo hS.eq, List.length_append]; omega
    rw [BK_mul, wrap_i (by omega) (by omega), BK_add, wrap_i (by omega) (by omega)]
    have eB : Ds.flatten ++ (S ++ (Bs''.flatten ++ C)) = (Ds ++ [S]).flatten ++ (Bs''.flatten ++ C) := by simp
    have lDS : (Ds ++ [S]).flatten.length = Ds.flatten.length + 2 * bs := by simp [lS]
    have hq2 : Fq l (Ds.flatten ++ (S ++ (Bs''.flatten ++ C))) := by
      have : Fq l (Ds.flatten ++ ((B1 ++ B2) ++ (Bs''.flatten ++ C))) := by simpa using hq'
      exact this.seg hS
    refine ⟨⟨Ds ++ [S], Bs'', ?_, fun B hb => hB' B (by simp [hb]), p0, p1, p2, p6, ?_, ?_, by rw [← eB]; exact hD2, ?_, by rw [← eB]; exact hq2, hm.trans hm2⟩, ?_⟩
    · intro D hD'
      rcases List.mem_append.1 hD' with z | z
      · exact hD D z
      · rw [List.mem_singleton.1 z]; exact ⟨hS.so, lS⟩
    · show Value.int .i64 _ = _
      rw [lDS]
    · show Value.int .i64 _ = _
      rw [lDS]; congr 1 <;> omega
    · rw [List.length_append, List.length_append, lDS]; omega
    · show n + 2 * bs - (intOf (.int .i64 _)).toNat < n + 2 * bs - (intOf (.int .i64 _)).toNat
      simp only [intOf]
      omega
  | [B], hB', lB, hDat, hn', hq' =>
    have lf : ([B] : List (List Ak)).flatten.length = bs := by simp [(hB' B (by simp)).2]
    rw [decide_eq_false (by omega)]
    refine condF ?_
    rw [sq_x]
    exact hk _ w' Ds [B] hD hB' (by simp) p0 p1 p2 p6 p7 hDat hn' hq' hm
  | [], hB', lB, hDat, hn', hq' =>
    have lf : ([] : List (List Ak)).flatten.length = 0 := rfl
    rw [decide_eq_false (by omega)]
    refine condF ?_
    rw [sq_x]
    exact hk _ w' Ds [] hD hB' (by simp) p0 p1 p2 p6 p7 hDat hn' hq' hm
theorem stable_L2 {K : Exit → Sl → World → Prop} {ρ : Sl} {bs : Nat} {Bs : List (List Ak)} {C : List Ak} (hb0 : 0 < bs) (hb : bs ≤ 2000000) (hl : n ≤ 1000000) (hB : Bl bs Bs C) (hC : C.length < bs) (h : Dat w g cap (Bs.flatten ++ C)) (hn : n = (Bs.flatten ++ C).length) (hq : Fq l (Bs.flatten ++ C))
    (q0 : ρ 0 = dv g cap n) (q1 : ρ 1 = .int .i64 n) (q2 : ρ 2 = ordF) (q6 : ρ 6 = .int .i64 bs)
    (hk : ∀ ρ' w' S, Stab ltA l S → Dat w' g cap S → Mod (fun b => b = g) w w' → K (.exit 2) ρ' w') :
    W fn_ Tryd.prog 63 (Code.loop slices_stableCmpFunc_group_asked_L2) K ρ w := by
  refine W_loop slices_stableCmpFunc_group_asked_L2_ok (fun ρ' w' => ∃ (bs : Nat) (Bs : List (List Ak)) (C : List Ak), 0 < bs ∧ bs ≤ 2000000 ∧ Bl bs Bs C ∧ C.length < bs ∧ ρ' 0 = dv g cap n ∧ ρ' 1 = .int .i64 n ∧ ρ' 2 = ordF ∧ ρ' 6 = .int .i64 bs ∧ Dat w' g cap (Bs.flatten ++ C) ∧ n = (Bs.flatten ++ C).length ∧ Fq l (Bs.flatten ++ C) ∧ Mod (fun b => b = g) w w') (fun ρ' _ => 2000001 - (intOf (ρ' 6)).toNat)
    ⟨bs, Bs, C, hb0, hb, hB, hC, q0, q1, q2, q6, h, hn, hq, Mod.refl _ _⟩ ?_
  rintro ρ' w' ⟨bs, Bs, C, hb0, hb, hB, hC, p0, p1, p2, p6, hD, hn', hq', hm⟩
  rw [slices_stableCmpFunc_group_asked_L2_eq]; unfold slices_stableCmpFunc_group_asked_L2_F
  rw [p6, p1, BK_lss]
  have lB := Bl.len hB.so
  have ln : n = Bs.flatten.length + C.length := by rw [hn']; simp
  by_cases c : bs < n
  · rw [decide_eq_true (by omega)]
    refine condT ?_
    rw [BK_mul, wrap_i (by omega) (by omega)]
    refine stable_L3 (l := l) (bs := bs) (Bs := Bs) (C := C) (n := n) hb0 c hl hB hC hD hn' hq' p0 p1 p2 p6 rfl (by show Value.int .i64 _ = _; congr 1) ?_
    intro ρ2 w2 Ds Bs' hDs hBs' hB1 a0 a1 a2 a6 a7 hD2 hn2 hq2 hm2
    rw [bk_x, sq_n, slices_stableCmpFunc_group_asked_R4_eq]; unfold slices_stableCmpFunc_group_asked_R4_F
    have lDs := Bl.len hDs
    have ln2 : n = Ds.flatten.length + (Bs'.flatten.length + C.length) := by rw [hn2]; simp
    have a6' : ρ2 6 = .int .i64 bs := a6.trans p6
    have a1' : ρ2 1 = .int .i64 n := a1.trans p1
    have a0' : ρ2 0 = dv g cap n := a0.trans p0
    have a2' : ρ2 2 = ordF := a2.trans p2
    rw [a7, a6', a1', a0', a2', BK_add, wrap_i (by omega) (by omega), BK_lss]
    have fin : ∀ (ρ3 : Sl) (w3 : World) (C' : List Ak), ρ3 0 = dv g cap n → ρ3 1 = .int .i64 n → ρ3 2 = ordF → ρ3 6 = .int .i64 bs → SortedL ltA C' → C'.length < 2 * bs → Dat w3 g cap (Ds.flatten ++ C') → n = (Ds.flatten ++ C').length → Fq l (Ds.flatten ++ C') → Mod (fun b => b = g) w w3 →
        sx fn_ Tryd.prog 63 slices_stableCmpFunc_group_asked_R5 (blkK 3 (seqK (fun ρ' w' => (∃ (bs : Nat) (Bs : List (List Ak)) (C : List Ak), 0 < bs ∧ bs ≤ 2000000 ∧ Bl bs Bs C ∧ C.length < bs ∧ ρ' 0 = dv g cap n ∧ ρ' 1 = .int .i64 n ∧ ρ' 2 = ordF ∧ ρ' 6 = .int .i64 bs ∧ Dat w' g cap (Bs.flatten ++ C) ∧ n = (Bs.flatten ++ C).length ∧ Fq l (Bs.flatten ++ C) ∧ Mod (fun b => b = g) w w') ∧ 2000001 - (intOf (ρ' 6)).toNat < 2000001 - (intOf (.int .i64 (bs : Int))).toNat) K)) ρ3 w3 := by
      intro ρ3 w3 C' b0 b1 b2 b6 hs hlt hD3 hn3 hq3 hm3
      rw [slices_stableCmpFunc_group_asked_R5_eq]; unfold slices_stableCmpFunc_group_asked_R5_F
      rw [b6, BK_mul, wrap_i (by omega) (by omega), bk_n]
      refine ⟨⟨2 * bs, Ds, C', by omega, by omega, ⟨hDs, hs⟩, hlt, b0, b1, b2, ?_, hD3, hn3, hq3, hm3⟩, ?_⟩
      · show Value.int .i64 _ = _
        congr 1; omega
      · show 2000001 - (intOf (.int .i64 _)).toNat < _
        simp only [intOf]; omega
    match Bs', hBs', hB1, hD2, hn2, hq2, ln2 with
    | [], hBs', hB1, hD2, hn2, hq2, ln2 =>
      have lf : ([] : List (List Ak)).flatten.length = 0 := rfl
      rw [decide_eq_false (by omega)]
      refine condF ?_
      exact fin _ w2 C (by first | exact a0' | rfl) (by first | exact a1' | rfl) (by first | exact a2' | rfl) (by first | exact a6' | rfl) hB.last (by omega) (by simpa using hD2) (by simpa using hn2) (by simpa using hq2) (hm.trans hm2)
    | [B], hBs', hB1, hD2, hn2, hq2, ln2 =>
      obtain ⟨s1, l1⟩ := hBs' B (by simp)
      have lf : ([B] : List (List Ak)).flatten.length = bs := by simp [l1]
      have eB : Ds.flatten ++ (([B] : List (List Ak)).flatten ++ C) = Ds.flatten ++ (B ++ C) := by simp
      rw [eB] at hD2 hn2 hq2
      by_cases c2 : 0 < C.length
      · rw [decide_eq_true (by omega)]
        refine condT ?_
        have eC : Ds.flatten ++ (B ++ C) = Ds.flatten ++ (B ++ (C ++ [])) := by simp
        rw [eC] at hD2 hn2
        refine CK_st Tryd.func124 rfl rfl (symMerge_ok g cap (B.length + C.length) (Nat.le_refl _) hD2 hn2 hl s1 hB.last (by omega) (by omega) rfl (by omega) (by omega)) ?_
        rintro _ w3 ⟨S, hS, hD3, hm3⟩
        have lS : S.length = bs + C.length := by rw [Stab.len ltA_wo hS.eq, List.length_append]; omega
        have hq3 : Fq l (Ds.flatten ++ (S ++ [])) := by
          have : Fq l (Ds.flatten ++ ((B ++ C) ++ [])) := by simpa using hq2
          exact this.seg hS
        exact fin _ w3 S (by first | exact a0' | rfl) (by first | exact a1' | rfl) (by first | exact a2' | rfl) (by first | exact a6' | rfl) hS.so (by omega) (by simpa using hD3) (by rw [List.length_append]; omega) (by simpa using hq3) ((hm.trans hm2).trans hm3)
      · have hC0 : C = [] := List.eq_nil_of_length_eq_zero (by omega)
        subst hC0
        rw [decide_eq_false (by simp only [List.length_nil] at ln2; omega)]
        refine condF ?_
        exact fin _ w2 B (by first | exact a0' | rfl) (by first | exact a1' | rfl) (by first | exact a2' | rfl) (by first | exact a6' | rfl) s1 (by omega) (by simpa using hD2) (by simpa using hn2) (by simpa using hq2) (hm.trans hm2)
    | _ :: _ :: _, hBs', hB1, hD2, hn2, hq2, ln2 => simp at hB1
  · rw [decide_eq_false (by omega)]
    refine condF ?_
    rw [sq_x]
    have hS : SortedL ltA (Bs.flatten ++ C) := by
      match Bs, hB, lB, ln with
      | [], hB, lB, ln => exact hB.last
      | [B], hB, lB, ln =>
        obtain ⟨s1, l1⟩ := hB.so B (by simp)
        have lf : ([B] : List (List Ak)).flatten.length = bs := by simp [l1]
        have hC0 : C = [] := List.eq_nil_of_length_eq_zero (by omega)
        subst hC0
        simpa using s1
      | B1 :: B2 :: Bs'', hB, lB, ln =>
        obtain ⟨_, l1⟩ := hB.so B1 (by simp)
        obtain ⟨_, l2⟩ := hB.so B2 (by simp)
        have lf : (B1 :: B2 :: Bs'').flatten.length = bs + (bs + Bs''.flatten.length) := by simp [l1, l2]
        omega
    exact hk _ w' _ ⟨hS, hq'⟩ hD hm
theorem stable_ok (h : Dat w g cap l) (hn : n = l.length) (hl : n ≤ 1000000) : Rt Tryd.prog 118 #[dv g cap n, .int .i64 n, ordF] w fun _ w' => ∃ S, Stab ltA l S ∧ Dat w' g cap S ∧ Mod (fun b => b = g) w w' := by
  refine slices_stableCmpFunc_group_asked_calls ?_
  unfold slices_stableCmpFunc_group_asked_F
  refine W_loop slices_stableCmpFunc_group_asked_L0_ok (fun ρ' w' => ∃ (Bs : List (List Ak)) (T : List Ak), (∀ B ∈ Bs, SortedL ltA B ∧ B.length = 20) ∧ ρ' 0 = dv g cap n ∧ ρ' 1 = .int .i64 n ∧ ρ' 2 = ordF ∧ ρ' 6 = .int .i64 20 ∧ ρ' 7 = .int .i64 Bs.flatten.length ∧ ρ' 8 = .int .i64 ((Bs.flatten.length + 20 : Nat) : Int) ∧ Dat w' g cap (Bs.flatten ++ T) ∧ n = (Bs.flatten ++ T).length ∧ Fq l (Bs.flatten ++ T) ∧ Mod (fun b => b = g) w w') (fun ρ' _ => n + 20 - (intOf (ρ' 8)).toNat)
    ⟨[], l, by simp, rfl, rfl, rfl, rfl, rfl, rfl, h, hn, fun _ => rfl, Mod.refl _ _⟩ ?_
  rintro ρ' w' ⟨Bs, T, hB, p0, p1, p2, p6, p7, p8, hD, hn', hq, hm⟩
  rw [slices_stableCmpFunc_group_asked_L0_eq]; unfold slices_stableCmpFunc_group_asked_L0_F
  rw [p8, p1, p7, p6, p0, p2, BK_leq]
  have ln : n = Bs.flatten.length + T.length := by rw [hn']; simp
  by_cases c : 20 ≤ T.length
  · rw [decide_eq_true (by omega)]
    refine condT ?_
    obtain ⟨X, R, rfl, lX⟩ : ∃ X R, T = X ++ R ∧ X.length = 20 := ⟨T.take 20, T.drop 20, (List.take_append_drop _ _).symm, by rw [List.length_take]; omega⟩
    have hins := insSort_ok (w := w') (g := g) (cap := cap) (P := Bs.flatten) (X := X) (R := R) (n := n) hD hn' hl
    rw [lX] at hins
    refine CK_st Tryd.func123 rfl rfl hins ?_
    rintro _ w2 ⟨S, hS, hD2, hm2⟩
    have lS : S.length = 20 := by rw [Stab.len ltA_wo hS.eq, lX]
    have lXR : (X ++ R).length = 20 + R.length := by rw [List.length_append, lX]
    rw [BK_add, wrap_i (by omega) (by omega)]
    have eB : Bs.flatten ++ (S ++ R) = (Bs ++ [S]).flatten ++ R := by simp
    have lDS : (Bs ++ [S]).flatten.length = Bs.flatten.length + 20 := by simp [lS]
    refine ⟨⟨Bs ++ [S], R, ?_, by first | rfl | exact p0, by first | rfl | exact p1, by first | rfl | exact p2, by first | rfl | exact p6, ?_, ?_, by rw [← eB]; exact hD2, ?_, by rw [← eB]; exact hq.seg hS, hm.trans hm2⟩, ?_⟩
    · intro D hD'
      rcases List.mem_append.1 hD' with z | z
      · exact hB D z
      · rw [List.mem_singleton.1 z]; exact ⟨hS.so, lS⟩
    · show Value.int .i64 _ = _
      rw [lDS]
    · show Value.int .i64 _ = _
      rw [lDS]; congr 1
    · rw [List.length_append, lDS]; omega
    · show n + 20 - (intOf (.int .i64 _)).toNat < n + 20 - (intOf (.int .i64 _)).toNat
      simp only [intOf]
      omega
  · rw [decide_eq_false (by omega)]
    refine condF ?_
    rw [sq_x, bk_x, sq_n, slices_stableCmpFunc_group_asked_R1_eq]; unfold slices_stableCmpFunc_group_asked_R1_F
    have key : ∀ ρ : Sl, ρ 0 = dv g cap n → ρ 1 = .int .i64 n → ρ 2 = ordF → ρ 6 = .int .i64 20 → ρ 7 = .int .i64 Bs.flatten.length → CK Tryd.prog (.func (.func 123) #[] #[]) [ρ 0, ρ 7, ρ 1, ρ 2] w' fun x27 w2 => W fn_ Tryd.prog 63 (Code.loop slices_stableCmpFunc_group_asked_L2) (blkK 2 (retK Tryd.prog [] fun _ w1 => ∃ S, Stab ltA l S ∧ Dat w1 g cap S ∧ Mod (fun b => b = g) w w1)) (up (up (up (up (up ρ 23 (ρ 0)) 24 (ρ 7)) 25 (ρ 1)) 26 (ρ 2)) 27 x27) w2 := by
      intro ρ r0 r1 r2 r6 r7
      rw [r0, r1, r2, r7]
      have eT : Bs.flatten ++ T = Bs.flatten ++ (T ++ []) := by simp
      have hins := insSort_ok (w := w') (g := g) (cap := cap) (P := Bs.flatten) (X := T) (R := []) (n := n) (by rw [← eT]; exact hD) (by rw [← eT]; exact hn') hl
      rw [← ln] at hins
      refine CK_st Tryd.func123 rfl rfl hins ?_
      rintro _ w2 ⟨S, hS, hD2, hm2⟩
      have lS : S.length = T.length := Stab.len ltA_wo hS.eq
      rw [List.append_nil] at hD2
      have hq2 : Fq l (Bs.flatten ++ (S ++ [])) := by
        have : Fq l (Bs.flatten ++ (T ++ [])) := by rw [← eT]; exact hq
        exact this.seg hS
      rw [List.append_nil] at hq2
      refine stable_L2 (l := l) (bs := 20) (Bs := Bs) (C := S) (n := n) (by omega) (by omega) hl ⟨hB, hS.so⟩ (by omega) hD2 (by rw [List.length_append]; omega) hq2 r0 r1 r2 r6 ?_
      intro ρ3 w3 S3 h3 hD3 hm3
      rw [bk_x]
      exact ⟨S3, h3, hD3, (hm.trans hm2).trans hm3⟩
    exact key _ p0 p1 p2 p6 p7
theorem SortStable_ok {v : Value} {B : Nat} (h : w.ownsRow B tAk 3 v l.length (l.flatMap Ak.enc)) (hl : l.length ≤ 1000000) : Rt Tryd.prog 104 #[v, ordF] w fun _ w' => ∃ S, Stab ltA l S ∧ w'.ownsRow B tAk 3 v S.length (S.flatMap Ak.enc) ∧ Mod (fun b => sb v b) w w' := by
  refine slices_SortStableFunc_group_asked_group_asked_calls ?_
  unfold slices_SortStableFunc_group_asked_group_asked_F
  have h' := h
  obtain ⟨hlen, ⟨rfl, h0⟩ | ⟨g, cap, cur, rfl, hb, hg, hn, hm, hs, ht⟩⟩ := h
  · have hl0 : l = [] := List.eq_nil_of_length_eq_zero h0
    subst hl0
    rw [len_sl vAks]
    refine CK_st Tryd.func118 rfl rfl (stable_nil _ ordF w) ?_
    rintro _ w' rfl
    exact ⟨[], ⟨List.Pairwise.nil, fun _ => rfl⟩, h', Mod.refl _ _⟩
  · rw [len_sl vAks]
    have hD : Dat w g cap l := owns_base h' (Nat.zero_le _)
    refine CK_st Tryd.func118 rfl rfl (stable_ok hD rfl hl) ?_
    rintro _ w' ⟨S, hS, hD', hm'⟩
    have lS : S.length = l.length := Stab.len ltA_wo hS.eq
    refine ⟨S, hS, ?_, hm'.mono fun b _ z => by rw [z]; rfl⟩
    obtain ⟨a1, ⟨q, _⟩ | ⟨g', cap', cur', e', b', g2, n', m', s', t'⟩⟩ := hD'
    · cases q
    · cases e'
      exact ⟨a1, .inr ⟨g, cap, cur', by rw [lS], hb, g2, n', m', s', t'⟩⟩
end
end Go.Proofs.YtandbmnhghmcgaaDoor.Col
set_option linter.unusedVariables false
set_option linter.unusedSimpArgs false
set_option maxRecDepth 8000
namespace Go.X
open Go Go.RowKit
def stepA (out : List (Int × List Int)) (a : Ak) : List (Int × List Int) := match out.getLast? with
  | some (c, r) => if c = a.color then out.dropLast ++ [(c, r ++ [a.rank])] else out ++ [(a.color, [a.rank])]
  | none => [(a.color, [a.rank])]
theorem grpA_snoc (a : Ak) : ∀ (l : List Ak) (out : List (Int × List Int)), grpA out (l ++ [a]) = stepA (grpA out l) a
  | [], out => by
    rw [List.nil_append]
    unfold grpA stepA
    cases h : out.getLast? with
    | none => rfl
    | some x =>
      obtain ⟨c, r⟩ := x
      show (if c = a.color then grpA (out.dropLast ++ [(c, r ++ [a.rank])]) [] else grpA (out ++ [(a.color, [a.rank])]) []) = _
      simp only [h]
      split <;> rfl
  | b :: l, out => by
    rw [List.cons_append]
    unfold grpA
    cases h : out.getLast? with
    | none => exact grpA_snoc a l _
    | some x =>
      obtain ⟨c, r⟩ := x
      dsimp only
      split
      · exact grpA_snoc a l _
      · exact grpA_snoc a l _
theorem stepA_last (out : List (Int × List Int)) (a : Ak) : ∃ ys r, stepA out a = ys ++ [(a.color, r ++ [a.rank])] ∧ ((ys = out ∧ r = [] ∧ ∀ c q, out.getLast? = some (c, q) → c ≠ a.color) ∨ out = ys ++ [(a.color, r)]) := by
  unfold stepA
  cases h : out.getLast? with
  | none =>
    have : out = [] := List.getLast?_eq_none_iff.1 h
    exact ⟨[], [], rfl, .inl ⟨this.symm, rfl, fun c q z => by cases z⟩⟩
  | some x =>
    obtain ⟨c, r⟩ := x
    obtain ⟨ys, rfl⟩ := List.getLast?_eq_some_iff.1 h
    dsimp only
    split
    · rename_i e
      exact ⟨ys, r, by simp [e], .inr (by rw [e])⟩
    · rename_i e
      exact ⟨_, [], rfl, .inl ⟨rfl, rfl, fun c' q z => by cases z; exact e⟩⟩
theorem grpA_color {l : List Ak} {a : Ak} : ∃ ys r, grpA [] (l ++ [a]) = ys ++ [(a.color, r)] := by
  rw [grpA_snoc]
  obtain ⟨ys, r, h, _⟩ := stepA_last (grpA [] l) a
  exact ⟨ys, _, h⟩
theorem asksC_snoc (g : List Int) (asks : List (Int × Int)) {i : Nat} {r : Int} {q : Int × Int} (hg : g[i]? = some r) (ha : asks[i]? = some q) : asksC (g.take (i + 1)) (asks.take (i + 1)) = asksC (g.take i) (asks.take i) ++ (if 0 ≤ q.1 then [⟨q.1, q.2, r⟩] else []) := by
  have hz : (g.take (i + 1)).zip (asks.take (i + 1)) = (g.take i).zip (asks.take i) ++ [(r, q)] := by
    rw [List.take_add_one, hg, List.take_add_one, ha]
    have h1 := (List.getElem?_eq_some_iff.1 hg).1
    have h2 := (List.getElem?_eq_some_iff.1 ha).1
    rw [List.zip_append (by rw [List.length_take, List.length_take]; omega)]
    rfl
  unfold asksC
  rw [hz, List.map_append, List.filter_append]
  congr 1
  by_cases h : 0 ≤ q.1
  · rw [if_pos h]; simp [h]
  · rw [if_neg h]; simp [h]
theorem asksC_len (g : List Int) (asks : List (Int × Int)) : (asksC g asks).length ≤ g.length := by
  have := (asksC_sub g asks).length_le
  simpa using this
theorem grpA_len : ∀ (l : List Ak) (out : List (Int × List Int)), (grpA out l).length ≤ out.length + l.length
  | [], out => by simp [grpA]
  | a :: l, out => by
    unfold grpA
    cases h : out.getLast? with
    | none => have := grpA_len l [(a.color, [a.rank])]; have : out = [] := List.getLast?_eq_none_iff.1 h; subst this; simp at *; omega
    | some x =>
      obtain ⟨c, r⟩ := x
      obtain ⟨ys, rfl⟩ := List.getLast?_eq_some_iff.1 h
      dsimp only
      split
      · have := grpA_len l (((ys ++ [(c, r)]).dropLast) ++ [(c, r ++ [a.rank])]); simp at *; omega
      · have := grpA_len l ((ys ++ [(c, r)]) ++ [(a.color, [a.rank])]); simp at *; omega
theorem QaddS {P : Program} {C : World → Prop} {K : Value → Prop} {t : TypeId} {x y : Operand} {a b : List UInt8} (ha : a.length ≤ 4000000) (hb : b.length ≤ 4000000) (hk : K (strV (a ++ b))) : QK P C (do pure (Next.value (← (do eqGuard .add t x y (strV a) (strV b); binOp .add t (strV a) (strV b))))) K :=
  QB_of (fun _ => rfl) (fun w => by unfold strV; rw [binOp_string_add]; exact run_string_add_lists w a b (by omega) (by omega)) hk
theorem HaddS {P : Program} {S : World → Prop} {K : Value → Prop} {t : TypeId} {x y : Operand} {a b : List UInt8} (ha : a.length ≤ 4000000) (hb : b.length ≤ 4000000) (hk : K (strV (a ++ b))) : HK P S (do pure (Next.value (← (do eqGuard .add t x y (strV a) (strV b); binOp .add t (strV a) (strV b))))) K :=
  HB_of (fun _ => rfl) (fun w => by unfold strV; rw [binOp_string_add]; exact run_string_add_lists w a b (by omega) (by omega)) hk
theorem rtCT {P : Program} {w : World} {t ty : TypeId} {d : TypeDesc} {b i j : Nat} {cs : Array Value} {R : Value → World → Prop} {ρ : Sl} (hx : ρ i = .pointer (some ⟨b, 0, none⟩)) (hu : P.underlying t = some d) (hd : (match d with | .struct _ | .array _ _ => true | _ => false) = true) (hi : (P.info? t).map (·.size) = some cs.size) (hb : w.heap[b]? = some (.cells cs ty (0, 0))) (hk : R (.tuple #[.agg cs, ρ j]) w) :
    retK P [ResultVar.cell i t, ResultVar.tmp j] R .ret ρ w := by
  refine rsCell hx hu hd hi hb ?_
  exact hk
end Go.X
namespace Go.Proofs.YtandbmnhghmcgaaDoor.Col
open Go Go.X Go.RowKit Go.Proofs.YtandbmnhghmcgaaDoor.XF Go.Proofs.YtandbmnhghmcgaaDoor.XK
section
variable {w : World}
theorem childK_eq (key : Ky) (k : Int) : childK key k = key ++ [46] ++ Lib.itoa k := by unfold childK; simp
theorem child_ok (hg : Gl w) {key : Ky} (hk : key.length ≤ 1000000) {rv : Value} {k : Int} (h0 : -9223372036854775808 ≤ k) (h1 : k ≤ 9223372036854775807) : Rt Tryd.prog 87 #[grpV key rv, .int .i64 k] w fun v w' => v = strV (childK key k) ∧ Mod none_ w w' := by
  refine group_child_calls ?_
  unfold group_child_F
  refine box_k (cs := #[strV key, rv]) rfl fun w1 hb1 hm1 hz1 => ?_
  refine group_child_R0_quiet (D := []) (fun w' => Mod none_ w1 w') ((Mod.refl _ _).drawn _) ?_
  unfold group_child_R0_Q
  simp only [sq_n, sq_x, sq_r, bk_n, bk_r, bk_x, rt_r, rt_n, rs_0, rs_t, pk_1, pk_2, up_at, reduceIte, Nat.reduceEqDiff]
  have hil := itoa_len h0 h1
  refine QV_of (v := .pointer (some ⟨w.heap.size, 0, none⟩)) (fun w' _ => by rw [run_fo (show fieldOff Tryd.prog tG 0 = some 0 by kernel_rfl), add_pl]) (QV_of (v := strV key) (fun w' hw => run_ld1 vS rfl (by rw [cell_blk (hw.blk hb1 id)]; rfl)) ?_)
  refine QaddS (b := [46]) (by omega) (by simp) ?_
  refine QC_rt Tryd.func53 rfl rfl (v := strV (Lib.itoa k)) (fun w' hw => Itoa_ok (hg.calm (hm1.trans hw)) h0 h1) (fun w' u w'' hw z => ⟨z.1, hw.trans z.2⟩) ?_
  refine QaddS (by simp; omega) (by omega) ?_
  intro w' hw
  rw [group_child_R1_eq]; unfold group_child_R1_F
  exact ⟨by rw [childK_eq]; rfl, hm1.trans hw⟩
theorem zG : (Tryd.prog.info? tG).bind (·.zero) = some (.agg #[strV [], nilS]) := by kernel_rfl
theorem iG : (Tryd.prog.info? tG).map (·.size) = some 2 := by kernel_rfl
theorem grp_one (key : Ky) (A : Option Addr) (n c : Nat) : (#[strV key, .slice A n c] : Array Value).all (·.oneCell') = true := by simp [Value.oneCell', strV]
theorem Dup_ok (hg : Gl w) {key : Ky} (hk : key.length ≤ 1000000) {rv : Value} {g : List Int} (hR : RR w rv g) (hl : g.length ≤ 1000000) (hm : mayG g = true) {k : Int} (h0 : 0 ≤ k) (h1 : k ≤ 9223372036854775807) :
    Rt Tryd.prog 81 #[grpV key rv, .int .i64 k] w fun v w' => ∃ rv', v = .tuple #[grpV (childK key k) rv', .int .i64 0] ∧ w'.ownsRow w.heap.size tI 1 rv' g.length (ints g) ∧ Mod none_ w w' := by
  refine group_Dup_calls ?_
  unfold group_Dup_F
  refine box_k (cs := #[strV key, rv]) rfl fun w1 hb1 hm1 hz1 => ?_
  refine al_k (cs := #[strV [], nilS]) zG rfl _ fun w2 hb2 hm2 hz2 => ?_
  have hb12 := hm2.blk hb1 id
  have hm02 := hm1.trans hm2
  refine ldS (cs := #[strV key, rv]) rfl Tryd.underlying32 rfl iG hb12 ?_
  refine CK_st Tryd.func36 rfl rfl (May_ok (key := key) (hR.calm hm02) hl) ?_
  rintro _ w3 ⟨rfl, hm3⟩
  rw [hm]
  simp only [↓VG_u, ↓UG_u, ↓MG_u, ↓NG_u, ↓PG_u, ↓BG_u, ↓CG_u, ↓IG_u, ↓VGtt, ↓VGtf, ↓VGft, ↓VGff, ↓UGtt, ↓UGtf, ↓UGft, ↓UGff, ↓MGtt, ↓MGtf, ↓MGft, ↓MGff, ↓NGtt, ↓NGtf, ↓NGft, ↓NGff, ↓PGtt, ↓PGtf, ↓PGft, ↓PGff, ↓BGtt, ↓BGtf, ↓BGft, ↓BGff, ↓CGtt, ↓CGtf, ↓CGft, ↓CGff, ↓IGtt, ↓IGtf, ↓IGft, ↓IGff, ↓PKt, ↓PKf, ↓CDt, ↓CDf, ↓NOTt, ↓NOTf, ↓NK_ptr, ↓LTf h0]
  have hm03 := hm02.trans hm3
  have hb13 := hm3.blk hb12 id
  have hb23 := hm3.blk hb2 id
  have hd : Mod none_ w3 { w3 with drawn := w3.drawn + 1 } := (Mod.refl _ w3).drawn _
  refine group_Dup_R0_held (D := []) (fun w' => w'.heap[w.heap.size]? = some (.cells #[strV key, rv] tG (0, 0))) (hd.blk hb13 id) ?_
  generalize ({ w3 with drawn := w3.drawn + 1 } : World) = wd at *
  unfold group_Dup_R0_H
  simp only [sq_n, sq_x, sq_r, bk_n, bk_r, bk_x, rt_r, rt_n, rs_0, rs_t, pk_1, pk_2, up_at, reduceIte, Nat.reduceEqDiff]
  have hm0d := hm03.trans hd
  refine HV_of (v := grpV key rv) (fun w' hw => run_ldB (cs := #[strV key, rv]) Tryd.underlying32 rfl iG hw) ?_
  refine HV_of (v := .pointer (some ⟨w.heap.size, 1, none⟩)) (fun w' _ => by rw [run_fo (show fieldOff Tryd.prog tG 1 = some 1 by kernel_rfl), add_pl]) (HV_of (v := rv) (fun w' hw => run_ld1 vIs rfl (by rw [cell_blk hw]; rfl)) ?_)
  refine CK_st Tryd.func87 rfl rfl (child_ok (hg.calm hm0d) hk (by omega) h1) ?_
  rintro _ w4 ⟨rfl, hm4⟩
  have hm04 := hm0d.trans hm4
  refine ⟨hm4.blk (hd.blk hb13 id) id, ?_⟩
  refine CK_st Tryd.func38 rfl rfl (CloneI_ok (hR.calm hm04) hl) ?_
  rintro rv' w5 ⟨hrk, hm5⟩
  obtain ⟨A', c', ev', _⟩ := reads_cap (reads_of_owns hrk)
  have hb15 := hm5.blk (hm4.blk (hd.blk hb13 id) id) id
  have hb25 := hm5.blk (hm4.blk (hd.blk hb23 id) id) id
  refine ⟨hb15, HV_of (v := grpV (childK key k) rv') (fun w' _ => by rw [ev']; exact run_build (P := Tryd.prog) w' _ _ _ (bG _ _ _ _)) ?_⟩
  have hs1 : w1.heap.size ≠ w.heap.size := by omega
  refine stS (old := #[strV [], nilS]) (cs := #[strV (childK key k), rv']) rfl rfl iG rfl (by rw [ev']; exact grp_one _ _ _ _) hb25 fun w6 hb6 hm6 hz6 => ?_
  refine ⟨hm6.blk hb15 (fun z => by omega), ?_⟩
  rw [group_Dup_R1_eq]; unfold group_Dup_R1_F
  have hs4 := hm04.size
  have hs1' := hm1.size
  refine rtCT (b := w1.heap.size) (cs := #[strV (childK key k), rv']) rfl Tryd.underlying32 rfl iG hb6 ⟨rv', rfl, ?_, ?_⟩
  · exact owns_base (owns_mod hrk hm6 fun b hb z => by subst z; exact isT_ne (isT_own hrk hb) ⟨_, _, hb25⟩ (by decide)) hs4
  · exact (hm04.trans hm5).then hm6 fun i hi z => by omega
end
end Go.Proofs.YtandbmnhghmcgaaDoor.Col
set_option linter.unusedVariables false
set_option linter.unusedSimpArgs false
set_option maxRecDepth 8000
namespace Go.X
open Go Go.RowKit
def askE (a : Int × Int) : List Value := [.int .i64 a.1, .int .i64 a.2]
theorem askE_len (a : Int × Int) : (askE a).length = 1 + 1 := rfl
theorem askE_one (a : Int × Int) : (askE a).toArray.all (·.oneCell') = true := by simp [askE, Value.oneCell']
def AsksR (w : World) (v : Value) (l : List (Int × Int)) : Prop := reads w (1 + 1) v l.length (l.flatMap askE)
end Go.X
namespace Go.Proofs.YtandbmnhghmcgaaDoor.Col
open Go Go.X Go.RowKit Go.Proofs.YtandbmnhghmcgaaDoor.XF Go.Proofs.YtandbmnhghmcgaaDoor.XK
abbrev tAsk : TypeId := 119
abbrev tAsks : TypeId := 117
theorem vAsks : Tryd.prog.underlying tAsks = some (.slice tAsk) := by kernel_rfl
theorem cAsk : Tryd.prog.cellsOf tAsk = 1 + 1 := by kernel_rfl
theorem iAsk : (Tryd.prog.info? tAsk).map (·.size) = some 2 := by kernel_rfl
theorem zAsk : (Tryd.prog.info? tAsk).bind (·.zero) = some (.agg (askE (0, 0)).toArray) := by kernel_rfl
theorem bAk (a b c : Int) : Tryd.prog.built tAk [(0, .agg #[.int .i64 a, .int .i64 b]), (1, .int .i64 c)] = some #[.int .i64 a, .int .i64 b, .int .i64 c] := by kernel_rfl
section
variable {w : World}
theorem split_L0 {ρ : Sl} {K : Exit → Sl → World → Prop} {B b3 : Nat} {key : Ky} {rv va : Value} {g : List Int} {asks : List (Int × Int)} (hR : RR w rv g) (hA : AsksR w va asks) (hl : asks.length = g.length) (hgl : g.length ≤ 100000) (hb3 : w.heap[b3]? = some (.cells #[strV key, rv] tG (0, 0))) (hB : B ≤ w.heap.size)
    (q30 : ρ 30 = va) (q31 : ρ 31 = .int .i64 asks.length) (q32 : ρ 32 = .int .i64 (0 : Nat)) (q8 : ρ 8 = nilS) (q3 : ρ 3 = .pointer (some ⟨b3, 0, none⟩))
    (hK : ∀ (ρ' : Sl) (w' : World), (∀ i, i < 8 → ρ' i = ρ i) → w'.ownsRow B tAk 3 (ρ' 8) (asksC g asks).length ((asksC g asks).flatMap Ak.enc) → Mod none_ w w' → K (.exit 0) ρ' w') :
    W fn_ Tryd.prog 106 (Code.loop group_Split_L0) K ρ w := by
  refine W_loop group_Split_L0_ok (fun ρ' w' => ∃ n : Nat, n ≤ asks.length ∧ ρ' 32 = .int .i64 n ∧ ρ' 31 = .int .i64 asks.length ∧ ρ' 30 = va ∧ ρ' 3 = .pointer (some ⟨b3, 0, none⟩) ∧ (∀ i, i < 8 → ρ' i = ρ i) ∧ w'.ownsRow w.heap.size tAk 3 (ρ' 8) (asksC (g.take n) (asks.take n)).length ((asksC (g.take n) (asks.take n)).flatMap Ak.enc) ∧ Mod none_ w w') (fun ρ _ => asks.length - (intOf (ρ 32)).toNat)
    ⟨0, Nat.zero_le _, q32, q31, q30, q3, fun _ _ => rfl, by rw [q8]; exact World.ownsRow_nil _ _ _ _, Mod.refl _ _⟩ ?_
  rintro ρ1 w1 ⟨n, hn, p32, p31, p30, p3, hs, hrow, hm⟩
  rw [group_Split_L0_eq]; unfold group_Split_L0_F
  rw [p32, p31, p30, BK_lss]
  by_cases hlt : n < asks.length
  · rw [decide_eq_true (by omega)]
    refine condT ?_
    have hx : asks[n]? = some asks[n] := List.getElem?_eq_getElem hlt
    have hr : g[n]? = some (g[n]'(by omega)) := List.getElem?_eq_getElem _
    have hsn := asksC_snoc g asks hr hx
    generalize asks[n] = q at *
    generalize (g[n]'(by omega)) = r at *
    refine ixldA vAsks cAsk Tryd.underlying119 rfl (reads_mod hA hm fun _ _ _ => id) (by omega) (by omega) fun y => ?_
    rw [Int.toNat_natCast, fl_drop (k := 1 + 1) askE_len hx]
    refine lcl_k (cs := (askE q).toArray) zAsk _ iAsk rfl (askE_one _) fun w2 hb2 hm2 hz2 => ?_
    have f0 : FO Tryd.prog w2 tAsk 0 0 ⟨w1.heap.size, 0, none⟩ tI (.int .i64 q.1) := FO.blk hb2 (by kernel_rfl) vI rfl rfl
    simp only [↓f0.e]
    have hm02 := hm.trans hm2
    have hrow2 := owns_mod hrow hm2 fun _ _ => id
    have nx : ∀ (ρ2 : Sl) (w3 : World), ρ2 32 = .int .i64 n → ρ2 31 = .int .i64 asks.length → ρ2 30 = va → ρ2 3 = .pointer (some ⟨b3, 0, none⟩) → (∀ i, i < 8 → ρ2 i = ρ i) → w3.ownsRow w.heap.size tAk 3 (ρ2 8) (asksC (g.take (n + 1)) (asks.take (n + 1))).length ((asksC (g.take (n + 1)) (asks.take (n + 1))).flatMap Ak.enc) → Mod none_ w w3 →
        sx fn_ Tryd.prog 106 group_Split_R2 (seqK (fun ρ' w' => (∃ n : Nat, n ≤ asks.length ∧ ρ' 32 = .int .i64 n ∧ ρ' 31 = .int .i64 asks.length ∧ ρ' 30 = va ∧ ρ' 3 = .pointer (some ⟨b3, 0, none⟩) ∧ (∀ i, i < 8 → ρ' i = ρ i) ∧ w'.ownsRow w.heap.size tAk 3 (ρ' 8) (asksC (g.take n) (asks.take n)).length ((asksC (g.take n) (asks.take n)).flatMap Ak.enc) ∧ Mod none_ w w') ∧ asks.length - (intOf (ρ' 32)).toNat < asks.length - (intOf (.int .i64 (n : Int))).toNat) K) ρ2 w3 := by
      intro ρ2 w3 e32 e31 e30 e3 hs2 hrow3 hm3
      rw [group_Split_R2_eq]; unfold group_Split_R2_F
      rw [e32, BK_add, wrap_i (by omega) (by omega)]
      refine ⟨⟨n + 1, hlt, rfl, e31, e30, e3, fun i hi => ?_, hrow3, hm3⟩, ?_⟩
      · repeat rw [up_at, if_neg (by omega)]
        exact hs2 i hi
      · simp only [sq_n, sq_x, sq_r, bk_n, bk_r, bk_x, rt_r, rt_n, rs_0, rs_t, pk_1, pk_2, up_at, reduceIte, Nat.reduceEqDiff, intOf]; omega
    rw [BK_geq]
    refine caseC (fun hc => ?_) (fun hc => ?_)
    · rw [decide_eq_true_eq] at hc
      rw [if_pos hc] at hsn
      have hb3' := hm02.blk hb3 id
      have hd : Mod none_ w2 { w2 with drawn := w2.drawn + 1 } := (Mod.refl _ w2).drawn _
      refine group_Split_R3_held (D := []) (fun w' => Mod none_ w w' ∧ w'.heap[w1.heap.size]? = some (.cells (askE q).toArray tAsk (0, 0))) ⟨hm02.trans hd, hd.blk hb2 id⟩ ?_
      have hb2' := hd.blk hb2 id
      have hm0d := hm02.trans hd
      have hrowd := owns_mod hrow2 hd fun _ _ => id
      generalize ({ w2 with drawn := w2.drawn + 1 } : World) = wd at *
      unfold group_Split_R3_H
      simp only [sq_n, sq_x, sq_r, bk_n, bk_r, bk_x, rt_r, rt_n, rs_0, rs_t, pk_1, pk_2, up_at, reduceIte, Nat.reduceEqDiff, p3]
      refine HV_of (v := .agg (askE q).toArray) (fun w' hw => run_ldB Tryd.underlying119 rfl iAsk hw.2) ?_
      refine HV_of (v := .pointer (some ⟨b3, 1, none⟩)) (fun w' _ => by rw [run_fo (show fieldOff Tryd.prog tG 1 = some 1 by kernel_rfl), add_pl]) (HV_of (v := rv) (fun w' hw => run_ld1 vIs rfl (by rw [cell_blk (hw.1.blk hb3 id)]; rfl)) ?_)
      obtain ⟨a, ha1, ha2⟩ := ixR hR hr
      refine HV_of (fun w' _ => ha1 w') (HV_of (v := .int .i64 r) (fun w' hw => ha2 w' hw.1) ?_)
      refine HV_of (v := .agg (Ak.mk q.1 q.2 r).enc.toArray) (fun w' _ => run_build (P := Tryd.prog) w' _ _ _ (bAk _ _ _)) ?_
      refine bs_k (cs := (Ak.mk q.1 q.2 r).enc.toArray) (by kernel_rfl) fun w4 hb4 hm4 hz4 => ?_
      have hm04 := hm0d.trans hm4
      refine ⟨⟨hm04, hm4.blk hb2' id⟩, ?_⟩
      have hal := asksC_len (g.take n) (asks.take n)
      have htl : (g.take n).length ≤ 100000 := by rw [List.length_take]; omega
      have hsm := hm.size
      have hs2' := hm04.size
      refine ap_any eAks (owns_mod hrowd hm4 fun _ _ => id) (reads_blk (size := 3) (n := 1) hb4 rfl) (fun u hu => Ak.enc_mem [⟨q.1, q.2, r⟩] u (by simpa using hu)) (by unfold maxLen; omega) (by omega) hs2' fun v' w5 ho5 hm5 hv5 => ?_
      have hold : ∀ b, sb (ρ1 8) b → w.heap.size ≤ b := fun b hb => (owns_bd hrow b hb).1
      have hm05 : Mod none_ w w5 := hm04.then hm5 fun i hi z => by have := hold i z.symm; omega
      refine ⟨⟨hm05, hm5.blk (hm4.blk hb2' id) fun z => ?_⟩, ?_⟩
      · exact isT_ne (isT_own (owns_mod hrowd hm4 fun _ _ => id) z.symm) ⟨_, _, hm4.blk hb2' id⟩ (by decide)
      · refine nx _ w5 ?_ ?_ ?_ ?_ (fun i hi => ?_) ?_ hm05
        · exact p32
        · exact p31
        · exact p30
        · exact p3
        · repeat rw [up_at, if_neg (by omega)]
          exact hs i hi
        · rw [hsn, List.length_append, List.flatMap_append]
          show w5.ownsRow _ _ _ v' _ _
          simpa using ho5
    · rw [decide_eq_false_iff_not] at hc
      rw [if_neg hc, List.append_nil] at hsn
      refine nx _ w2 ?_ ?_ ?_ ?_ (fun i hi => ?_) ?_ hm02
      · exact p32
      · exact p31
      · exact p30
      · exact p3
      · repeat rw [up_at, if_neg (by omega)]
        exact hs i hi
      · rw [hsn]; exact hrow2
  · obtain rfl : n = asks.length := by omega
    rw [decide_eq_false (by omega)]
    refine condF ?_
    rw [sq_x]
    rw [List.take_length, hl, List.take_length] at hrow
    refine hK _ w1 (fun i hi => ?_) (owns_base hrow hB) hm
    rw [up_at, if_neg (by omega)]; exact hs i hi
end
end Go.Proofs.YtandbmnhghmcgaaDoor.Col
set_option linter.unusedVariables false
set_option linter.unusedSimpArgs false
set_option maxRecDepth 8000
namespace Go.X
open Go Go.RowKit
abbrev GrE := (Int × List Int) × Value
def encG (key : Ky) (k : Int) (x : GrE) : List Value := [strV (subK key k x.1.1), x.2]
theorem encG_len (key : Ky) (k : Int) (x : GrE) : (encG key k x).length = 1 + 1 := rfl
theorem zip_snoc {α β : Type} {l : List α} {r : List β} (h : l.length = r.length) (a : α) (b : β) : (l ++ [a]).zip (r ++ [b]) = l.zip r ++ [(a, b)] := by
  rw [List.zip_append h]; rfl
theorem snoc_get {α : Type} {l : List α} {x : α} : (l ++ [x])[l.length]? = some x := by simp
theorem snoc_set {α : Type} {l : List α} {x y : α} : (l ++ [x]).set l.length y = l ++ [y] := by
  rw [List.set_append_right _ _ (Nat.le_refl _), Nat.sub_self, List.set_cons_zero]
end Go.X
namespace Go.Proofs.YtandbmnhghmcgaaDoor.Col
open Go Go.X Go.RowKit Go.Proofs.YtandbmnhghmcgaaDoor.XF Go.Proofs.YtandbmnhghmcgaaDoor.XK
abbrev tGs : TypeId := 122
theorem vGs : Tryd.prog.underlying tGs = some (.slice tG) := by kernel_rfl
theorem cG : Tryd.prog.cellsOf tG = 1 + 1 := by kernel_rfl
theorem eGs : elemOk Tryd.prog tGs tG 2 40 = true := by kernel_rfl
theorem bG1 (s : Ky) : Tryd.prog.built tG [(0, strV s)] = some #[strV s, nilS] := by kernel_rfl
structure GrpsAt (w : World) (B : Nat) (v : Value) (key : Ky) (k : Int) (l : List (Int × List Int)) (rvs : List Value) : Prop where
  len : rvs.length = l.length
  row : w.ownsRow B tG 2 v l.length ((l.zip rvs).flatMap (encG key k))
  own : ∀ (i : Nat) x u, l[i]? = some x → rvs[i]? = some u → w.ownsRow B tI 1 u x.2.length (ints x.2)
  ne : ∀ (i j : Nat) u t, rvs[i]? = some u → rvs[j]? = some t → i ≠ j → ∀ b, sb u b → ¬ sb t b
section
variable {w : World} {B : Nat} {v : Value} {key : Ky} {k : Int} {l : List (Int × List Int)} {rvs : List Value}
theorem GrpsAt.nil (w : World) (B : Nat) (key : Ky) (k : Int) : GrpsAt w B nilS key k [] [] := ⟨rfl, World.ownsRow_nil _ _ _ _, fun i x u h => by simp at h, fun i j u t h => by simp at h⟩
theorem GrpsAt.calm {w' : World} (h : GrpsAt w B v key k l rvs) (hm : Mod none_ w w') : GrpsAt w' B v key k l rvs := ⟨h.len, owns_mod h.row hm fun _ _ => id, fun i x u hx hu => owns_mod (h.own i x u hx hu) hm fun _ _ => id, h.ne⟩
theorem GrpsAt.typ (h : GrpsAt w B v key k l rvs) {i : Nat} {u : Value} (hu : rvs[i]? = some u) {b : Nat} (hb : sb u b) : isT tI w b := by
  have hi := (List.getElem?_eq_some_iff.1 hu).1
  rw [h.len] at hi
  exact isT_own (h.own i _ u (List.getElem?_eq_getElem hi) hu) hb
theorem GrpsAt.more {x : Value} {c : Int} {K : Value → World → Prop} (h : GrpsAt w B v key k l rvs) (hB : B ≤ w.heap.size) (hl : l.length ≤ 1000000) (hx : reads w 2 x 1 [strV (subK key k c), nilS])
    (hk : ∀ v' w', GrpsAt w' B v' key k (l ++ [(c, [])]) (rvs ++ [nilS]) → Mod (fun b => B ≤ b ∧ (isT tG w b ∨ w.heap.size ≤ b)) w w' → K v' w') : IK Tryd.prog .append #[tGs, tGs] tGs [false, false] [v, x] w K := by
  refine ap_any eGs h.row hx (fun u hu => ?_) (by unfold maxLen; omega) (by omega) hB fun v' w' ho hm hv => ?_
  · simp only [List.mem_cons, List.not_mem_nil, or_false] at hu
    rcases hu with rfl | rfl
    · rfl
    · rfl
  · have hne : ∀ {u : Value} {i : Nat}, rvs[i]? = some u → ∀ b, sb u b → ¬ some b = v.ownBlock := fun hu b hb z => isT_ne (h.typ hu hb) (isT_own h.row z.symm) (by decide)
    refine hk v' w' ⟨by simp [h.len], ?_, fun i y u hy hu => ?_, fun i j u t hu ht hij b zu zt => ?_⟩ (hm.mono fun b _ z => ⟨(owns_bd h.row b z.symm).1, .inl (isT_own h.row z.symm)⟩)
    · rw [zip_snoc h.len.symm, List.flatMap_append, List.length_append]
      simpa [encG] using ho
    · rcases app_get hy with y1 | ⟨y1, rfl⟩
      · rw [List.getElem?_append_left (by rw [h.len]; exact (List.getElem?_eq_some_iff.1 y1).1)] at hu
        exact owns_mod (h.own i y u y1 hu) hm (hne hu)
      · have : u = nilS := by
          rw [y1, ← h.len] at hu
          rw [snoc_get] at hu
          exact (Option.some.inj hu).symm
        rw [this]
        exact World.ownsRow_nil _ _ _ _
    · rcases app_get hu with z | ⟨z, rfl⟩ <;> rcases app_get ht with y | ⟨y, rfl⟩
      · exact h.ne i j u t z y hij b zu zt
      · cases zt
      · cases zu
      · omega
theorem subK_eq (key : Ky) (k c : Int) : subK key k c = childK key k ++ [58] ++ Lib.itoa c := by unfold subK; simp
theorem childK_len {key : Ky} {k : Int} (hk : key.length ≤ 1000000) (h0 : -9223372036854775808 ≤ k) (h1 : k ≤ 9223372036854775807) : (childK key k).length ≤ 1000022 := by
  have := itoa_len h0 h1
  unfold childK
  simp only [List.length_append, List.length_cons]
  omega
theorem split_R10 {w1 : World} {ρ : Sl} {K : Exit → Sl → World → Prop} {b3 b13 : Nat} {rv : Value} {a : Ak} (hgl : Gl w1) (hm : Mod none_ w1 w) (hkl : key.length ≤ 1000000) (hk0 : -9223372036854775808 ≤ k) (hk1 : k ≤ 9223372036854775807) (hc0 : -9223372036854775808 ≤ a.color) (hc1 : a.color ≤ 9223372036854775807)
    (hG : GrpsAt w w1.heap.size v key k l rvs) (hl : l.length ≤ 1000000) (hb3 : w1.heap[b3]? = some (.cells #[strV key, rv] tG (0, 0))) (hb13 : w.heap[b13]? = some (.cells a.enc.toArray tAk (0, 0)))
    (q1 : ρ 1 = .int .i64 k) (q3 : ρ 3 = .pointer (some ⟨b3, 0, none⟩)) (q11 : ρ 11 = v) (q13 : ρ 13 = .pointer (some ⟨b13, 0, none⟩))
    (hK : ∀ (ρ' : Sl) (w' : World) v', (∀ i, i < 60 → i ≠ 11 → ρ' i = ρ i) → ρ' 11 = v' → GrpsAt w' w1.heap.size v' key k (l ++ [(a.color, [])]) (rvs ++ [nilS]) → w'.heap[b13]? = some (.cells a.enc.toArray tAk (0, 0)) → Mod none_ w1 w' → K .normal ρ' w') : W fn_ Tryd.prog 106 group_Split_R10 K ρ w := by
  have hd : Mod none_ w { w with drawn := w.drawn + 1 } := (Mod.refl _ w).drawn _
  refine group_Split_R10_held (D := []) (fun w' => Mod none_ w1 w' ∧ w'.heap[b13]? = some (.cells a.enc.toArray tAk (0, 0))) ⟨hm.trans hd, hd.blk hb13 id⟩ ?_
  have hmd := hm.trans hd
  have hbd := hd.blk hb13 id
  have hGd := hG.calm hd
  generalize ({ w with drawn := w.drawn + 1 } : World) = wd at *
  unfold group_Split_R10_H group_Split_R10_H0
  rw [q1, q3, q13]
  refine HV_of (v := grpV key rv) (fun w' hw => run_ldB (cs := #[strV key, rv]) Tryd.underlying32 rfl iG (hw.1.blk hb3 id)) ?_
  refine HV_of (v := .pointer (some ⟨b13, 0, none⟩)) (fun w' _ => by rw [run_fo (show fieldOff Tryd.prog tAk 0 = some 0 by kernel_rfl), add_pl]) (HV_of (v := .pointer (some ⟨b13, 0, none⟩)) (fun w' _ => by rw [run_fo (show fieldOff Tryd.prog tAsk 0 = some 0 by kernel_rfl), add_pl]) (HV_of (v := .int .i64 a.color) (fun w' hw => run_ld1 vI rfl (by rw [cell_blk hw.2]; rfl)) ?_))
  refine CK_st Tryd.func87 rfl rfl (child_ok (hgl.calm hmd) hkl hk0 hk1) ?_
  rintro _ w4 ⟨rfl, hm4⟩
  have hm14 := hmd.trans hm4
  have hil := itoa_len hc0 hc1
  have hcl := childK_len hkl hk0 hk1
  refine ⟨⟨hm14, hm4.blk hbd id⟩, HaddS (b := [58]) (by omega) (by simp) ?_⟩
  refine CK_st Tryd.func53 rfl rfl (Itoa_ok (hgl.calm hm14) hc0 hc1) ?_
  rintro _ w5 ⟨rfl, hm5⟩
  have hm15 := hm14.trans hm5
  refine ⟨⟨hm15, hm5.blk (hm4.blk hbd id) id⟩, HaddS (by simp; omega) (by omega) ?_⟩
  rw [← subK_eq]
  refine HV_of (v := .agg #[strV (subK key k a.color), nilS]) (fun w' _ => run_build (P := Tryd.prog) w' _ _ _ (bG1 _)) ?_
  refine bs_k (cs := #[strV (subK key k a.color), nilS]) (by kernel_rfl) fun w6 hb6 hm6 hz6 => ?_
  have hm16 := hm15.trans hm6
  have hb6' := hm6.blk (hm5.blk (hm4.blk hbd id) id) id
  refine ⟨⟨hm16, hb6'⟩, ?_⟩
  unfold group_Split_R10_H1
  simp only [sq_n, sq_x, sq_r, bk_n, bk_r, bk_x, rt_r, rt_n, rs_0, rs_t, pk_1, pk_2, up_at, reduceIte, Nat.reduceEqDiff, q11]
  have hG6 := ((hGd.calm hm4).calm hm5).calm hm6
  refine hG6.more hm16.size hl (reads_blk (size := 2) (n := 1) hb6 rfl) fun v' w7 hG7 hm7 => ?_
  have hm17 : Mod none_ w1 w7 := hm16.then hm7 fun i hi z => by omega
  have hb7 := hm7.blk hb6' (fun z => by
    rcases z.2 with y | y
    · exact isT_ne y ⟨_, _, hb6'⟩ (by decide)
    · have := X.blk_lt hb6'; omega)
  refine ⟨⟨hm17, hb7⟩, hK _ w7 v' (fun i hi h11 => ?_) rfl hG7 hb7 hm17⟩
  rw [up_at, if_neg h11]
  repeat rw [up_at, if_neg (by omega)]
end
end Go.Proofs.YtandbmnhghmcgaaDoor.Col
set_option linter.unusedVariables false
set_option linter.unusedSimpArgs false
set_option maxRecDepth 8000
namespace Go.Proofs.YtandbmnhghmcgaaDoor.Col
open Go Go.X Go.RowKit Go.Proofs.YtandbmnhghmcgaaDoor.XF Go.Proofs.YtandbmnhghmcgaaDoor.XK
section
variable {w : World} {B : Nat} {v : Value} {key : Ky} {k : Int}
theorem split_R8 {ρ : Sl} {K : Exit → Sl → World → Prop} {b13 : Nat} {a : Ak} {ys : List (Int × List Int)} {r : List Int} {rvs : List Value} (hG : GrpsAt w B v key k (ys ++ [(a.color, r)]) rvs) (hl : ys.length ≤ 1000000) (hrl : r.length ≤ 1000000) (hB : B ≤ w.heap.size) (hb13 : w.heap[b13]? = some (.cells a.enc.toArray tAk (0, 0)))
    (q11 : ρ 11 = v) (q13 : ρ 13 = .pointer (some ⟨b13, 0, none⟩))
    (hK : ∀ (ρ' : Sl) (w' : World) rvs', (∀ i, i < 60 → i ≠ 14 → ρ' i = ρ i) → GrpsAt w' B v key k (ys ++ [(a.color, r ++ [a.rank])]) rvs' → Mod (fun b => B ≤ b) w w' → K .normal ρ' w') : sx fn_ Tryd.prog 106 group_Split_R8 K ρ w := by
  rw [group_Split_R8_eq]; unfold group_Split_R8_F
  rw [q11]
  have hrow := hG.row
  have hlen : (ys ++ [(a.color, r)]).length = ys.length + 1 := by simp
  obtain ⟨go, cap, ev, cur, hcur⟩ := owns_some hrow (by omega)
  rw [ev, len_sl vGs, BK_sub, wrap_i (by rw [hlen]; omega) (by rw [hlen]; omega)]
  have hix : ∀ w' : World, (Instr.indexAt tGs (.slice (some ⟨go, 0, none⟩) (ys ++ [(a.color, r)]).length cap) (.int .i64 (((ys ++ [(a.color, r)]).length : Nat) - 1 : Int))).run Tryd.prog w' = .ok (.pointer (some ⟨go, ys.length * 2, none⟩)) w' := fun w' => by
    rw [run_ixa (sz := 1) vGs cG (by rw [hlen]; omega) (by rw [hlen]; omega) w', add_pl]
    congr 4
    rw [hlen]
    omega
  refine VK_of (hix w) ?_
  -- the last one's slice
  obtain ⟨rs, u, rfl⟩ := snoc_of (L := rvs) (by intro q; have := hG.len; rw [q] at this; simp at this)
  have hrl2 : rs.length = ys.length := by have := hG.len; simp at this; exact this
  have hu : (rs ++ [u])[ys.length]? = some u := by rw [← hrl2]; exact snoc_get
  have hx : (ys ++ [(a.color, r)])[ys.length]? = some (a.color, r) := snoc_get
  have hown := hG.own _ _ _ hx hu
  have hzip : (ys ++ [(a.color, r)]).zip (rs ++ [u]) = ys.zip rs ++ [((a.color, r), u)] := zip_snoc hrl2.symm _ _
  have hzl : (ys.zip rs).length = ys.length := by rw [List.length_zip]; omega
  have hd : Mod none_ w { w with drawn := w.drawn + 1 } := (Mod.refl _ w).drawn _
  refine group_Split_R11_held (D := []) (fun w' => w'.heap[b13]? = some (.cells a.enc.toArray tAk (0, 0))) (hd.blk hb13 id) ?_
  have hbd := hd.blk hb13 id
  have hGd := hG.calm hd
  have hBd : B ≤ ({ w with drawn := w.drawn + 1 } : World).heap.size := hB
  generalize ({ w with drawn := w.drawn + 1 } : World) = wd at *
  unfold group_Split_R11_H
  simp only [sq_n, sq_x, sq_r, bk_n, bk_r, bk_x, rt_r, rt_n, rs_0, rs_t, pk_1, pk_2, up_at, reduceIte, Nat.reduceEqDiff, q13]
  have fl : ∀ w' : World, (Instr.fieldAt tG (.pointer (some ⟨go, ys.length * 2, none⟩)) 1).run Tryd.prog w' = .ok (.pointer (some ⟨go, ys.length * 2 + 1, none⟩)) w' := fun w' => by rw [run_fo (show fieldOff Tryd.prog tG 1 = some 1 by kernel_rfl), add_pl]
  refine HN_ptr (HV_of (fun w' _ => fl w') (HV_of (v := .pointer (some ⟨b13, 2, none⟩)) (fun w' _ => by rw [run_fo (show fieldOff Tryd.prog tAk 1 = some 2 by kernel_rfl), add_pl]) (HV_of (v := .int .i64 a.rank) (fun w' hw => run_ld1 vI rfl (by rw [cell_blk hw]; rfl)) ?_)))
  have ldu : ∀ {w' : World} {K : Value → World → Prop}, Mod none_ wd w' → K u w' → VK Tryd.prog (Instr.loadAt tIs (.pointer (some ⟨go, ys.length * 2 + 1, none⟩))) w' K := fun {w' K} hm' hK' => by
    refine ld1 vIs rfl ?_ hK'
    have hrow' := (hGd.calm hm').row
    rw [ev] at hrow'
    obtain ⟨_, A, c, es, _, hc⟩ := reads_of_owns hrow'
    cases es
    have hcell := hc (ys.length * 2 + 1) u (by
      rw [hzip, fl_get (k := 1 + 1) (encG_len key k) (r := ((a.color, r), u)) (by rw [← hzl]; exact snoc_get) (by decide)]
      rfl)
    obtain ⟨a', ha', hcell⟩ := hcell
    cases ha'
    rw [add_pl, Nat.zero_add] at hcell
    exact hcell
  have hgo : ∀ {w' : World}, Mod none_ wd w' → isT tG w' go := fun hm' => isT_own (hGd.calm hm').row (by rw [ev]; rfl)
  have fin : ∀ (w5 : World) (x : Value) (K' : Value → Value → Value → World → Prop), Mod none_ wd w5 → reads w5 1 x 1 [.int .i64 a.rank] →
      (∀ (w' : World) (u' x y : Value), GrpsAt w' B v key k (ys ++ [(a.color, r ++ [a.rank])]) (rs ++ [u']) → w'.heap[b13]? = some (.cells a.enc.toArray tAk (0, 0)) → Mod (fun b => B ≤ b) wd w' → K' u' x y w') →
      IK Tryd.prog .append #[tIs, tIs] tIs [false, false] [u, x] w5 fun x101 w => w.heap[b13]? = some (.cells a.enc.toArray tAk (0, 0)) ∧
        HK Tryd.prog (fun w' => w'.heap[b13]? = some (.cells a.enc.toArray tAk (0, 0))) (nilCk (.pointer (some ⟨go, ys.length * 2, none⟩))) fun x102 => HK Tryd.prog (fun w' => w'.heap[b13]? = some (.cells a.enc.toArray tAk (0, 0))) (do pure (Next.value (← Instr.fieldAt tG x102 1))) fun x103 => UK Tryd.prog (Instr.storeAt tIs x103 x101) w fun _ w => w.heap[b13]? = some (.cells a.enc.toArray tAk (0, 0)) ∧ K' x101 x102 x103 w := by
    intro w5 x K' hm5 hxr hK'
    have hG5 := hGd.calm hm5
    have hu5 : w5.ownsRow B tI 1 u r.length (ints r) := hG5.own _ _ _ hx hu
    have hb5 := hm5.blk hbd id
    refine ap_any eIs hu5 hxr (fun y hy => by simp only [List.mem_singleton] at hy; rw [hy]; rfl) (by unfold maxLen; omega) (by omega) (Nat.le_trans hBd hm5.size) fun u' w6 ho6 hm6 hv6 => ?_
    have hm6' : Mod (fun b => sb u b) w5 w6 := hm6.mono fun b _ z => z.symm
    have hb6 := hm6'.blk hb5 fun z => isT_ne (hG5.typ hu z) ⟨_, _, hb5⟩ (by decide)
    refine ⟨hb6, HN_ptr (HV_of (fun w' _ => fl w') ?_)⟩
    have hrow6 := owns_mod hG5.row hm6' fun b hb z => isT_ne (hG5.typ hu z) (isT_own hG5.row hb) (by decide)
    rw [ev] at hrow6
    have hu'1 : u'.oneCell' = true := by
      obtain ⟨A', c', e', _⟩ := reads_cap (reads_of_owns ho6)
      rw [e']; rfl
    refine st_row (by kernel_rfl) hu'1 hrow6 (k := ys.length * 2 + 1) (by rw [hlen]; omega) fun w7 ho7 hm7 => ?_
    have hgo6 : isT tG w6 go := isT_own hrow6 rfl
    have hb7 := hm7.blk hb6 fun z => by rw [z] at hb6; exact isT_ne hgo6 ⟨_, _, hb6⟩ (by decide)
    have hBgo : B ≤ go := (owns_bd hG5.row go (by rw [ev]; rfl)).1
    have hs5 := hm5.size
    have hset : (((ys ++ [(a.color, r)]).zip (rs ++ [u])).flatMap (encG key k)).set (ys.length * 2 + 1) u' = ((ys ++ [(a.color, r ++ [a.rank])]).zip (rs ++ [u'])).flatMap (encG key k) := by
      rw [hzip, fl_set (k := 1 + 1) (encG_len key k) (r := ((a.color, r), u)) (r' := ((a.color, r ++ [a.rank]), u')) (by rw [← hzl]; exact snoc_get) (by decide) rfl, ← hzl, snoc_set, zip_snoc hrl2.symm]
    rw [hset] at ho7
    have nu : ∀ g, sb u' g → sb u g ∨ w5.heap.size ≤ g := fun g z => by
      rcases hv6 with y | y
      · exact .inl (by unfold sb at z ⊢; rw [← y]; exact z)
      · right; unfold sb at z; rw [y] at z; simp only [Option.some.injEq] at z; omega
    refine ⟨hb7, hK' w7 u' _ _ ⟨by simp [hrl2], ?_, fun i y t hy ht => ?_, fun i j s t hs ht hij g zs zt => ?_⟩ hb7 ?_⟩
    · rw [ev]
      have e : (ys ++ [(a.color, r ++ [a.rank])]).length = (ys ++ [(a.color, r)]).length := by simp
      rw [e]
      exact ho7
    · rcases app_get hy with y1 | ⟨y1, rfl⟩
      · have hil := (List.getElem?_eq_some_iff.1 y1).1
        rw [List.getElem?_append_left (by omega)] at ht
        have ht' : (rs ++ [u])[i]? = some t := by rw [List.getElem?_append_left (by omega)]; exact ht
        have h5 := hG5.own i y t (by rw [List.getElem?_append_left hil]; exact y1) ht'
        have h6 := owns_mod h5 hm6' fun b hb z => hG5.ne i ys.length t u ht' hu (by omega) b hb z
        exact owns_mod h6 hm7 fun b hb z => (by subst z; exact isT_ne (isT_own h6 hb) hgo6 (by decide))
      · have : t = u' := by
          rw [y1, ← hrl2, snoc_get] at ht
          exact (Option.some.inj ht).symm
        rw [this]
        have := owns_mod ho6 hm7 fun b hb z => (by subst z; exact isT_ne (isT_own ho6 hb) hgo6 (by decide))
        show w7.ownsRow B tI 1 u' (r ++ [a.rank]).length (ints (r ++ [a.rank]))
        rw [List.length_append]
        unfold ints
        rw [List.map_append]
        exact this
    · have lt : ∀ {i : Nat} {s : Value}, rs[i]? = some s → ∀ g, sb s g → g < w5.heap.size := fun {i s} hs g z => by
        have : (rs ++ [u])[i]? = some s := by rw [List.getElem?_append_left (List.getElem?_eq_some_iff.1 hs).1]; exact hs
        exact isT_lt (hG5.typ this z)
      have up : ∀ {i : Nat} {s : Value}, rs[i]? = some s → (rs ++ [u])[i]? = some s ∧ i < rs.length := fun {i s} hs => ⟨by rw [List.getElem?_append_left (List.getElem?_eq_some_iff.1 hs).1]; exact hs, (List.getElem?_eq_some_iff.1 hs).1⟩
      rcases app_get hs with z | ⟨z, rfl⟩ <;> rcases app_get ht with y | ⟨y, rfl⟩
      · exact hG5.ne i j s t (up z).1 (up y).1 hij g zs zt
      · rcases nu g zt with q | q
        · exact hG5.ne i ys.length s u (up z).1 hu (by have := (up z).2; omega) g zs q
        · have := lt z g zs; omega
      · rcases nu g zs with q | q
        · exact hG5.ne j ys.length t u (up y).1 hu (by have := (up y).2; omega) g zt q
        · have := lt y g zt; omega
      · omega
    · refine (hm5.mono fun _ _ z => z.elim).then ?_ (fun i hi z => z)
      refine (hm6'.mono fun b _ z => (owns_bd hu5 b z).1).then ?_ (fun i hi z => z)
      exact hm7.mono fun b _ z => by rw [z]; exact hBgo
  refine ⟨ldu (Mod.refl _ _) ⟨hbd, ?_⟩, ?_⟩
  · refine bs_k (cs := #[.int .i64 a.rank]) (by kernel_rfl) fun w5 hb5 hm5 hz5 => ⟨hm5.blk hbd id, fin w5 _ _ hm5 (reads_blk (size := 1) (n := 1) hb5 rfl) fun w' u' x y h1 h2 h3 => ?_⟩
    refine hK _ w' _ (fun i hi h14 => ?_) h1 ((hd.mono fun _ _ z => z.elim).trans h3)
    repeat rw [up_at, if_neg (by omega)]
  · refine bs_k (cs := #[.int .i64 a.rank]) (by kernel_rfl) fun w5 hb5 hm5 hz5 => ⟨hm5.blk hbd id, ldu hm5 ⟨hm5.blk hbd id, fin w5 _ _ hm5 (reads_blk (size := 1) (n := 1) hb5 rfl) fun w' u' x y h1 h2 h3 => ?_⟩⟩
    refine hK _ w' _ (fun i hi h14 => ?_) h1 ((hd.mono fun _ _ z => z.elim).trans h3)
    repeat rw [up_at, if_neg (by omega)]
end
end Go.Proofs.YtandbmnhghmcgaaDoor.Col
set_option linter.unusedVariables false
set_option linter.unusedSimpArgs false
set_option maxRecDepth 8000
namespace Go.X
open Go Go.RowKit
theorem Qsub {P : Program} {C : World → Prop} {K : Value → Prop} {t : TypeId} {x y : Operand} {k : IntKind} {a b : Int} (hk : K (.int k (k.wrap (a - b)))) : QK P C (do pure (Next.value (← (do eqGuard .sub t x y (.int k a) (.int k b); binOp .sub t (.int k a) (.int k b))))) K := QB_of (fun _ => rfl) (fun w => by simp [go_sem]) hk
def newA (S : List Ak) (i : Nat) (a : Ak) : Bool := decide (i = 0) || (match S[i - 1]? with | some b => decide (b.color ≠ a.color) | none => true)
theorem grp_step {S : List Ak} {i : Nat} {a : Ak} (h : S[i]? = some a) : ∃ ys r, grpA [] (S.take (i + 1)) = ys ++ [(a.color, r ++ [a.rank])] ∧ (newA S i a = true → ys = grpA [] (S.take i) ∧ r = []) ∧ (newA S i a = false → grpA [] (S.take i) = ys ++ [(a.color, r)]) := by
  have etk : S.take (i + 1) = S.take i ++ [a] := by rw [List.take_add_one, h]; rfl
  rw [etk, grpA_snoc]
  obtain ⟨ys, r, e, hc⟩ := stepA_last (grpA [] (S.take i)) a
  refine ⟨ys, r, e, fun hn => ?_, fun hn => ?_⟩
  · rcases hc with ⟨h1, h2, _⟩ | h1
    · exact ⟨h1, h2⟩
    · exfalso
      have hi : i ≠ 0 := fun q => by
        subst q
        simp [grpA] at h1
      have hl : i < S.length := (List.getElem?_eq_some_iff.1 h).1
      have hp : S[i - 1]? = some (S[i - 1]'(by omega)) := List.getElem?_eq_getElem _
      have et : S.take i = S.take (i - 1) ++ [S[i - 1]'(by omega)] := by
        have := List.take_add_one (l := S) (i := i - 1)
        rw [show i - 1 + 1 = i by omega, hp] at this
        exact this
      obtain ⟨zs, q, hz⟩ := grpA_color (l := S.take (i - 1)) (a := S[i - 1]'(by omega))
      rw [et, hz] at h1
      have := congrArg List.getLast? h1
      simp at this
      unfold newA at hn
      rw [hp] at hn
      simp [hi] at hn
      exact hn this.1
  · unfold newA at hn
    simp only [Bool.or_eq_false_iff, decide_eq_false_iff_not] at hn
    have hl : i < S.length := (List.getElem?_eq_some_iff.1 h).1
    have hp : S[i - 1]? = some (S[i - 1]'(by omega)) := List.getElem?_eq_getElem _
    rw [hp] at hn
    have hcol : (S[i - 1]'(by omega)).color = a.color := by simpa using hn.2
    have et : S.take i = S.take (i - 1) ++ [S[i - 1]'(by omega)] := by
      have := List.take_add_one (l := S) (i := i - 1)
      rw [show i - 1 + 1 = i by omega, hp] at this
      exact this
    obtain ⟨zs, q, hz⟩ := grpA_color (l := S.take (i - 1)) (a := S[i - 1]'(by omega))
    rw [← et] at hz
    rcases hc with ⟨h1, h2, h3⟩ | h1
    · exact absurd hcol (h3 _ q (by rw [hz]; simp))
    · exact h1
theorem grpA_rank {l : List Ak} {x : Int × List Int} (hx : x ∈ grpA [] l) : x.2.length ≤ l.length := by
  have h := grpA_flat l []
  have : (grpA [] l).flatMap (·.2) = l.map (·.rank) := by simpa using h
  have h2 : x.2.length ≤ ((grpA [] l).flatMap (·.2)).length := by
    rw [List.length_flatMap]
    obtain ⟨i, hi⟩ := List.getElem?_of_mem hx
    have h3 : ∀ (l : List (Int × List Int)), x ∈ l → x.2.length ≤ (l.map fun a => a.2.length).sum := by
      intro l
      induction l with
      | nil => intro h; cases h
      | cons a l ih =>
        intro h
        simp only [List.map_cons, List.sum_cons]
        rcases List.mem_cons.1 h with rfl | h
        · omega
        · have := ih h; omega
    exact h3 _ hx
  rw [this, List.length_map] at h2
  exact h2
end Go.X
namespace Go.Proofs.YtandbmnhghmcgaaDoor.Col
open Go Go.X Go.RowKit Go.Proofs.YtandbmnhghmcgaaDoor.XF Go.Proofs.YtandbmnhghmcgaaDoor.XK
section
variable {w : World} {key : Ky} {k : Int}
theorem ak_ix {vs : Value} {S : List Ak} {B : Nat} (h : w.ownsRow B tAk 3 vs S.length (S.flatMap Ak.enc)) {i : Nat} {a : Ak} (hi : S[i]? = some a) {x : Int} (hx : x = (i : Int)) : ∃ g, (∀ w', (Instr.indexAt tAks vs (.int .i64 x)).run Tryd.prog w' = .ok (.pointer (some ⟨g, i * 3, none⟩)) w') ∧ ∀ w', Mod none_ w w' → (Instr.loadAt tI (.pointer (some ⟨g, i * 3, none⟩))).run Tryd.prog w' = .ok (.int .i64 a.color) w' := by
  subst hx
  have hil := (List.getElem?_eq_some_iff.1 hi).1
  obtain ⟨g, cap, ev, _⟩ := owns_some h (by omega)
  refine ⟨g, fun w' => ?_, fun w' hw => ?_⟩
  · rw [ev, run_ixa (sz := 2) vAks cAk (by omega) (by omega) w', add_pl]
    congr 4
    omega
  · have h' := owns_mod h hw fun _ _ => id
    rw [ev] at h'
    obtain ⟨_, A, c, es, _, hc⟩ := reads_of_owns h'
    cases es
    obtain ⟨a', ha', hcell⟩ := hc (i * 3 + 0) (.int .i64 a.color) (by rw [fl_get (k := 3) Ak.enc_len hi (by decide)]; rfl)
    cases ha'
    rw [add_pl, Nat.zero_add, Nat.add_zero] at hcell
    exact run_ld1 vI rfl hcell
structure SpG (vs : Value) (k : Int) (b3 n m : Nat) (ρ : Sl) : Prop where
  h55 : ρ 55 = .int .i64 n
  h54 : ρ 54 = .int .i64 m
  h53 : ρ 53 = vs
  h8 : ρ 8 = vs
  h1 : ρ 1 = .int .i64 k
  h3 : ρ 3 = .pointer (some ⟨b3, 0, none⟩)
theorem SpG.of {vs : Value} {b3 n m : Nat} {ρ ρ' : Sl} (h : SpG vs k b3 n m ρ) (hs : ∀ i, i < 60 → i ≠ 11 → i ≠ 12 → i ≠ 13 → i ≠ 14 → i ≠ 56 → i ≠ 57 → i ≠ 58 → i ≠ 59 → ρ' i = ρ i) : SpG vs k b3 n m ρ' :=
  ⟨(hs 55 (by decide) (by decide) (by decide) (by decide) (by decide) (by decide) (by decide) (by decide) (by decide)).trans h.h55, (hs 54 (by decide) (by decide) (by decide) (by decide) (by decide) (by decide) (by decide) (by decide) (by decide)).trans h.h54, (hs 53 (by decide) (by decide) (by decide) (by decide) (by decide) (by decide) (by decide) (by decide) (by decide)).trans h.h53, (hs 8 (by decide) (by decide) (by decide) (by decide) (by decide) (by decide) (by decide) (by decide) (by decide)).trans h.h8, (hs 1 (by decide) (by decide) (by decide) (by decide) (by decide) (by decide) (by decide) (by decide) (by decide)).trans h.h1, (hs 3 (by decide) (by decide) (by decide) (by decide) (by decide) (by decide) (by decide) (by decide) (by decide)).trans h.h3⟩
theorem split_R9 {N : Sl → World → Prop} {K0 : Exit → Sl → World → Prop} {ρ : Sl} {w3 : World} {vs v : Value} {b3 b13 n m : Nat} {a : Ak} {ys : List (Int × List Int)} {r : List Int} {rvs : List Value} (hG : GrpsAt w3 w.heap.size v key k (ys ++ [(a.color, r)]) rvs) (hl : ys.length ≤ 1000000) (hrl : r.length ≤ 1000000) (hm : Mod none_ w w3) (hn : n ≤ 1000000) (hb13 : w3.heap[b13]? = some (.cells a.enc.toArray tAk (0, 0)))
    (hs : SpG vs k b3 n m ρ) (q11 : ρ 11 = v) (q13 : ρ 13 = .pointer (some ⟨b13, 0, none⟩)) (hN : ∀ (ρ' : Sl) (w' : World) rvs', SpG vs k b3 (n + 1) m ρ' → GrpsAt w' w.heap.size (ρ' 11) key k (ys ++ [(a.color, r ++ [a.rank])]) rvs' → Mod none_ w w' → N ρ' w') :
    sx fn_ Tryd.prog 106 group_Split_R8 (blkK 3 (seqK (sx fn_ Tryd.prog 106 group_Split_R9 (seqK N K0)) (seqK N K0))) ρ w3 := by
  refine split_R8 hG hl hrl hm.size hb13 q11 q13 fun ρ3 w4 rvs4 hs3 hG4 hm4 => ?_
  rw [bk_n, sq_n, group_Split_R9_eq]; unfold group_Split_R9_F
  have h3 := hs.of fun i h0 _ _ _ h14 _ _ _ _ => hs3 i h0 h14
  rw [h3.h55, BK_add, wrap_i (by omega) (by omega), sq_n]
  refine hN _ w4 rvs4 ⟨rfl, h3.h54, h3.h53, h3.h8, h3.h1, h3.h3⟩ ?_ (hm.then hm4 fun i hi z => by omega)
  show GrpsAt w4 w.heap.size (ρ3 11) key k _ rvs4
  rw [hs3 11 (by decide) (by decide), q11]
  exact hG4
theorem split_R7 {N : Sl → World → Prop} {K0 : Exit → Sl → World → Prop} {ρ : Sl} {w3 : World} {rv vs v : Value} {b3 b13 n m : Nat} {a : Ak} {nw : Bool} {out ys : List (Int × List Int)} {r : List Int} {rvs : List Value} (hgl : Gl w) (hkl : key.length ≤ 1000000) (hk0 : -9223372036854775808 ≤ k) (hk1 : k ≤ 9223372036854775807) (c0 : -9223372036854775808 ≤ a.color) (c1 : a.color ≤ 9223372036854775807) (hb3 : w.heap[b3]? = some (.cells #[strV key, rv] tG (0, 0)))
    (hnew : nw = true → ys = out ∧ r = []) (hnot : nw = false → out = ys ++ [(a.color, r)]) (hG : GrpsAt w3 w.heap.size v key k out rvs) (hl : ys.length ≤ 1000000) (hrl : r.length ≤ 1000000) (hm : Mod none_ w w3) (hn : n ≤ 1000000) (hb13 : w3.heap[b13]? = some (.cells a.enc.toArray tAk (0, 0)))
    (hs : SpG vs k b3 n m ρ) (q11 : ρ 11 = v) (q13 : ρ 13 = .pointer (some ⟨b13, 0, none⟩)) (q74 : ρ 74 = .bool nw) (hN : ∀ (ρ' : Sl) (w' : World) rvs', SpG vs k b3 (n + 1) m ρ' → GrpsAt w' w.heap.size (ρ' 11) key k (ys ++ [(a.color, r ++ [a.rank])]) rvs' → Mod none_ w w' → N ρ' w') :
    sx fn_ Tryd.prog 106 group_Split_R7 (seqK (sx fn_ Tryd.prog 106 group_Split_R8 (blkK 3 (seqK (sx fn_ Tryd.prog 106 group_Split_R9 (seqK N K0)) (seqK N K0)))) (blkK 3 (seqK (sx fn_ Tryd.prog 106 group_Split_R9 (seqK N K0)) (seqK N K0)))) ρ w3 := by
  rw [group_Split_R7_eq]; unfold group_Split_R7_F
  rw [q74]
  refine caseC (fun q => ?_) (fun q => ?_)
  · obtain ⟨hy, hr0⟩ := hnew q
    subst hr0
    rw [← hy] at hG
    refine split_R10 hgl hm hkl hk0 hk1 c0 c1 hG hl hb3 hb13 hs.h1 hs.h3 q11 q13 fun ρ3 w4 v' hs3 e11 hG4 hb4 hm4 => ?_
    rw [sq_n]
    exact split_R9 hG4 hl hrl hm4 hn hb4 (hs.of fun i h0 h11 _ _ _ _ _ _ _ => hs3 i h0 h11) e11 ((hs3 13 (by decide) (by decide)).trans q13) hN
  · rw [sq_n]
    rw [hnot q] at hG
    exact split_R9 hG hl hrl hm hn hb13 hs q11 q13 hN
theorem split_R6 {N : Exit → Sl → World → Prop} {ρ : Sl} {w3 : World} {vs : Value} {b13 n : Nat} {a : Ak} {S : List Ak} {B : Nat} (hS : w3.ownsRow B tAk 3 vs S.length (S.flatMap Ak.enc)) (hx : S[n]? = some a) (hb13 : w3.heap[b13]? = some (.cells a.enc.toArray tAk (0, 0))) (hnl : n ≤ 1000000)
    (q8 : ρ 8 = vs) (q12 : ρ 12 = .int .i64 n) (q13 : ρ 13 = .pointer (some ⟨b13, 0, none⟩)) (hN : ∀ (ρ' : Sl) (w' : World), (∀ i, i < 60 → ρ' i = ρ i) → ρ' 74 = .bool (newA S n a) → Mod none_ w3 w' → N .normal ρ' w') : W fn_ Tryd.prog 106 group_Split_R6 N ρ w3 := by
  refine group_Split_R6_quiet (D := []) (fun w' => Mod none_ w3 w') ((Mod.refl _ _).drawn _) ?_
  unfold group_Split_R6_Q
  rw [q8, q12, q13]
  have frame : ∀ {x60 x61 x62 x63 x64 x65 x66 x67 x68 x69 x70 x71 x72 x73 x74 : Value} (i : Nat), i < 60 → (up (up (up (up (up (up (up (up (up (up (up (up (up (up (up ρ 60 x60) 61 x61) 62 x62) 63 x63) 64 x64) 65 x65) 66 x66) 67 x67) 68 x68) 69 x69) 70 x70) 71 x71) 72 x72) 73 x73) 74 x74) i = ρ i := by
    intros; repeat rw [up_at, if_neg (by omega)]
  refine Qeql ?_
  by_cases h0 : n = 0
  · rw [show ((n : Int) == 0) = true by simp [h0]]
    refine QGm (QGm (QGm (QGm (QGm (QGm (QGm (QGm (QGm (QGm (QGm (QPt ?_)))))))))))
    intro w' hw
    refine hN _ w' frame ?_ hw
    unfold newA
    rw [decide_eq_true h0]; rfl
  · rw [show ((n : Int) == 0) = false by simp [h0]]
    have hl : n < S.length := (List.getElem?_eq_some_iff.1 hx).1
    have hp : S[n - 1]? = some (S[n - 1]'(by omega)) := List.getElem?_eq_getElem _
    obtain ⟨g, hi, hld⟩ := ak_ix hS hp (x := (n : Int) - 1) (by omega)
    refine QGf (Qmv (QGf (Qmv (QGf (Qsub ?_)))))
    rw [wrap_i (by omega) (by omega)]
    refine QGf (QV_of (fun w' _ => hi w') (QGf (QV_of (v := .pointer (some ⟨g, (n - 1) * 3, none⟩)) (fun w' _ => by rw [run_fo (show fieldOff Tryd.prog tAk 0 = some 0 by kernel_rfl), add_pl, Nat.add_zero]) (QGf (QV_of (v := .pointer (some ⟨g, (n - 1) * 3, none⟩)) (fun w' _ => by rw [run_fo (show fieldOff Tryd.prog tAsk 0 = some 0 by kernel_rfl), add_pl, Nat.add_zero]) (QGf (QV_of (fun w' hw => hld w' hw) ?_)))))))
    refine QGf (QV_of (v := .pointer (some ⟨b13, 0, none⟩)) (fun w' _ => by rw [run_fo (show fieldOff Tryd.prog tAk 0 = some 0 by kernel_rfl), add_pl]) (QGf (QV_of (v := .pointer (some ⟨b13, 0, none⟩)) (fun w' _ => by rw [run_fo (show fieldOff Tryd.prog tAsk 0 = some 0 by kernel_rfl), add_pl]) (QGf (QV_of (v := .int .i64 a.color) (fun w' hw => run_ld1 vI rfl (by rw [cell_blk (hw.blk hb13 id)]; rfl)) ?_)))))
    refine QGf (Qneq (QPf ?_))
    intro w' hw
    refine hN _ w' frame ?_ hw
    unfold newA
    rw [decide_eq_false h0, hp]
    simp only [Bool.false_or]
    show Value.bool ((S[n - 1]'(by omega)).color != a.color) = Value.bool (decide ((S[n - 1]'(by omega)).color ≠ a.color))
    by_cases e : (S[n - 1]'(by omega)).color = a.color <;> simp [e]
theorem split_L4 {ρ : Sl} {K : Exit → Sl → World → Prop} {b3 : Nat} {rv vs : Value} {S : List Ak} {B : Nat} (hgl : Gl w) (hkl : key.length ≤ 1000000) (hk0 : -9223372036854775808 ≤ k) (hk1 : k ≤ 9223372036854775807) (hc : ∀ a ∈ S, -9223372036854775808 ≤ a.color ∧ a.color ≤ 9223372036854775807) (hS : w.ownsRow B tAk 3 vs S.length (S.flatMap Ak.enc)) (hSl : S.length ≤ 100000)
    (hb3 : w.heap[b3]? = some (.cells #[strV key, rv] tG (0, 0))) (q11 : ρ 11 = nilS) (hs0 : SpG vs k b3 0 S.length ρ)
    (hK : ∀ (ρ' : Sl) (w' : World) rvs, GrpsAt w' w.heap.size (ρ' 11) key k (grpA [] S) rvs → Mod none_ w w' → K (.exit 2) ρ' w') :
    W fn_ Tryd.prog 106 (Code.loop group_Split_L4) K ρ w := by
  refine W_loop group_Split_L4_ok (fun ρ' w' => ∃ (n : Nat) (rvs : List Value), n ≤ S.length ∧ SpG vs k b3 n S.length ρ' ∧ GrpsAt w' w.heap.size (ρ' 11) key k (grpA [] (S.take n)) rvs ∧ Mod none_ w w') (fun ρ _ => S.length - (intOf (ρ 55)).toNat)
    ⟨0, [], Nat.zero_le _, hs0, by rw [q11]; exact GrpsAt.nil _ _ _ _, Mod.refl _ _⟩ ?_
  rintro ρ1 w1 ⟨n, rvs, hn, hs, hG, hm⟩
  rw [group_Split_L4_eq]; unfold group_Split_L4_F
  rw [hs.h55, hs.h54, hs.h53, BK_lss]
  by_cases hlt : n < S.length
  · rw [decide_eq_true (by omega)]
    refine condT ?_
    have hx : S[n]? = some S[n] := List.getElem?_eq_getElem hlt
    have hmem : S[n] ∈ S := List.getElem_mem hlt
    obtain ⟨ys, r, hstep, hnew, hnot⟩ := grp_step hx
    generalize S[n] = a at *
    obtain ⟨c0, c1⟩ := hc a hmem
    have hyl : (ys ++ [(a.color, r ++ [a.rank])]).length ≤ S.length := by
      rw [← hstep]
      have := grpA_len (S.take (n + 1)) []
      rw [List.length_take] at this
      simp only [List.length_nil] at this
      omega
    have hrl : (r ++ [a.rank]).length ≤ S.length := by
      have := grpA_rank (l := S.take (n + 1)) (x := (a.color, r ++ [a.rank])) (by rw [hstep]; simp)
      rw [List.length_take] at this
      simp only at this
      omega
    simp only [List.length_append, List.length_cons, List.length_nil] at hyl hrl
    have hS1 := owns_mod hS hm fun _ _ => id
    refine ixldA vAks cAk Tryd.underlying161 rfl (reads_of_owns hS1) (by omega) (by omega) fun y => ?_
    rw [Int.toNat_natCast, fl_drop (k := 2 + 1) Ak.enc_len hx]
    refine lcl_k (cs := a.enc.toArray) (z := .agg #[.int .i64 0, .int .i64 0, .int .i64 0]) (by kernel_rfl) _ iAk rfl (Ak.enc_one _) fun w2 hb2 hm2 hz2 => ?_
    have hm02 := hm.trans hm2
    refine split_R6 (owns_mod hS1 hm2 fun _ _ => id) hx hb2 (by omega) ?_ ?_ ?_ fun ρ2 w3 hs2 q74 hm3 => ?_
    · exact hs.h8
    · rfl
    · rfl
    rw [sq_n]
    have hs3 : SpG vs k b3 n S.length ρ2 := by
      refine hs.of fun i h0 h11 h12 h13 h14 h56 h57 h58 h59 => ?_
      rw [hs2 i h0]
      repeat rw [up_at, if_neg (by omega)]
    refine split_R7 hgl hkl hk0 hk1 c0 c1 hb3 hnew hnot ((hG.calm hm2).calm hm3) (by omega) (by omega) (hm02.trans hm3) (by omega) (hm3.blk hb2 id) hs3 (hs2 11 (by decide)) (hs2 13 (by decide)) q74 fun ρ3 w4 rvs4 hs4 hG4 hm4 => ?_
    refine ⟨⟨n + 1, rvs4, hlt, hs4, by rw [hstep]; exact hG4, hm4⟩, ?_⟩
    rw [hs4.h55]
    simp only [intOf]; omega
  · obtain rfl : n = S.length := by omega
    rw [decide_eq_false (by omega)]
    refine condF ?_
    rw [sq_x]
    rw [List.take_length] at hG
    exact hK _ w1 rvs hG hm
end
end Go.Proofs.YtandbmnhghmcgaaDoor.Col
set_option linter.unusedVariables false
set_option linter.unusedSimpArgs false
set_option maxRecDepth 8000
namespace Go.Proofs.YtandbmnhghmcgaaDoor.Col
open Go Go.X Go.RowKit Go.Proofs.YtandbmnhghmcgaaDoor.XF Go.Proofs.YtandbmnhghmcgaaDoor.XK
section
variable {w : World} {key : Ky} {k : Int}
theorem GrpsAt.base {B B' : Nat} {v : Value} {l : List (Int × List Int)} {rvs : List Value} (h : GrpsAt w B v key k l rvs) (hB : B' ≤ B) : GrpsAt w B' v key k l rvs :=
  ⟨h.len, owns_base h.row hB, fun i x u hx hu => owns_base (h.own i x u hx hu) hB, h.ne⟩
theorem Split_ok (hgl : Gl w) (hkl : key.length ≤ 1000000) {rv va : Value} {g : List Int} {asks : List (Int × Int)} (hR : RR w rv g) (hA : AsksR w va asks) (hl : asks.length = g.length) (hm : mayG g = true) (hgl64 : g.length ≤ 100000) (h0 : 0 ≤ k) (h1 : k ≤ 9223372036854775807) (hc : ∀ q ∈ asks, -9223372036854775808 ≤ q.1 ∧ q.1 ≤ 9223372036854775807) :
    Rt Tryd.prog 88 #[grpV key rv, .int .i64 k, va] w fun v w' => ∃ o rvs, v = .tuple #[o, .int .i64 0] ∧ GrpsAt w' w.heap.size o key k (splitC g asks) rvs ∧ Mod none_ w w' := by
  refine group_Split_calls ?_
  unfold group_Split_F
  refine box_k (cs := #[strV key, rv]) rfl fun w1 hb1 hm1 hz1 => ?_
  refine ldS (cs := #[strV key, rv]) rfl Tryd.underlying32 rfl iG hb1 ?_
  refine CK_st Tryd.func36 rfl rfl (May_ok (key := key) (hR.calm hm1) (by omega)) ?_
  rintro _ w2 ⟨rfl, hm2⟩
  rw [hm]
  have hb12 := hm2.blk hb1 id
  have hm02 := hm1.trans hm2
  simp only [↓VG_u, ↓UG_u, ↓MG_u, ↓NG_u, ↓PG_u, ↓BG_u, ↓CG_u, ↓IG_u, ↓VGtt, ↓VGtf, ↓VGft, ↓VGff, ↓UGtt, ↓UGtf, ↓UGft, ↓UGff, ↓MGtt, ↓MGtf, ↓MGft, ↓MGff, ↓NGtt, ↓NGtf, ↓NGft, ↓NGff, ↓PGtt, ↓PGtf, ↓PGft, ↓PGff, ↓BGtt, ↓BGtf, ↓BGft, ↓BGff, ↓CGtt, ↓CGtf, ↓CGft, ↓CGff, ↓IGtt, ↓IGtf, ↓IGft, ↓IGff, ↓PKt, ↓PKf, ↓CDt, ↓CDf, ↓NOTt, ↓NOTf, ↓NK_ptr, ↓LTf h0, ↓(fG1 hb12).e]
  obtain ⟨A, c, ea, _⟩ := reads_cap hA
  obtain ⟨A2, c2, er, _⟩ := reads_cap hR
  rw [ea, len_sl vAsks, ← ea]
  try simp only [↓VG_u, ↓UG_u, ↓MG_u, ↓NG_u, ↓PG_u, ↓BG_u, ↓CG_u, ↓IG_u, ↓VGtt, ↓VGtf, ↓VGft, ↓VGff, ↓UGtt, ↓UGtf, ↓UGft, ↓UGff, ↓MGtt, ↓MGtf, ↓MGft, ↓MGff, ↓NGtt, ↓NGtf, ↓NGft, ↓NGff, ↓PGtt, ↓PGtf, ↓PGft, ↓PGff, ↓BGtt, ↓BGtf, ↓BGft, ↓BGff, ↓CGtt, ↓CGtf, ↓CGft, ↓CGff, ↓IGtt, ↓IGtf, ↓IGft, ↓IGff, ↓PKt, ↓PKf, ↓CDt, ↓CDf, ↓NOTt, ↓NOTf, ↓NK_ptr, ↓(fG1 hb12).e]
  rw [er, len_sl vIs, ← er]
  simp only [↓VG_u, ↓UG_u, ↓MG_u, ↓NG_u, ↓PG_u, ↓BG_u, ↓CG_u, ↓IG_u, ↓VGtt, ↓VGtf, ↓VGft, ↓VGff, ↓UGtt, ↓UGtf, ↓UGft, ↓UGff, ↓MGtt, ↓MGtf, ↓MGft, ↓MGff, ↓NGtt, ↓NGtf, ↓NGft, ↓NGff, ↓PGtt, ↓PGtf, ↓PGft, ↓PGff, ↓BGtt, ↓BGtf, ↓BGft, ↓BGff, ↓CGtt, ↓CGtf, ↓CGft, ↓CGff, ↓IGtt, ↓IGtf, ↓IGft, ↓IGff, ↓PKt, ↓PKf, ↓CDt, ↓CDf, ↓NOTt, ↓NOTf, ↓NK_ptr, ↓NEf (show (asks.length : Int) = (g.length : Int) by rw [hl])]
  rw [ea, len_sl vAsks, ← ea]
  have hA2 : AsksR w2 va asks := reads_mod hA hm02 fun _ _ _ => id
  refine split_L0 (B := w2.heap.size) (b3 := w.heap.size) (key := key) (hR.calm hm02) hA2 hl hgl64 hb12 (Nat.le_refl _) rfl rfl rfl rfl rfl fun ρ1 w3 hs hrow hm3 => ?_
  rw [bk_x, sq_n, group_Split_R1_eq]; unfold group_Split_R1_F
  have hal := asksC_len g asks
  refine CK_st Tryd.func104 rfl rfl (SortStable_ok hrow (by omega)) ?_
  rintro _ w4 ⟨S, hst, hrow4, hm4⟩
  have eS : S = sortA (asksC g asks) := sortA_uniq hst
  subst eS
  have hlow : ∀ b, sb (ρ1 8) b → w2.heap.size ≤ b := fun b hb => (owns_bd hrow b hb).1
  have hm24 : Mod none_ w2 w4 := hm3.then hm4 fun i hi z => by have := hlow i z; omega
  have hm04 := hm02.trans hm24
  obtain ⟨A3, c3, e8, _⟩ := reads_cap (reads_of_owns hrow4)
  have hsl : (sortA (asksC g asks)).length = (asksC g asks).length := (sortA_perm _).length_eq
  rw [e8, len_sl vAks, ← e8]
  have hcS : ∀ a ∈ sortA (asksC g asks), -9223372036854775808 ≤ a.color ∧ a.color ≤ 9223372036854775807 := fun a ha => by
    have ha := (sortA_perm _).mem_iff.1 ha
    unfold asksC at ha
    obtain ⟨h3, _⟩ := List.mem_filter.1 ha
    obtain ⟨x, hx, rfl⟩ := List.mem_map.1 h3
    exact hc x.2 (List.of_mem_zip hx).2
  refine split_L4 (vs := ρ1 8) (hgl.calm hm04) hkl (by omega) h1 hcS hrow4 (by omega) (hm24.blk hb12 id) rfl ⟨rfl, rfl, rfl, rfl, ?_, ?_⟩ fun ρ2 w5 rvs hG hm5 => ?_
  · exact hs 1 (by decide)
  · exact hs 3 (by decide)
  rw [bk_x, sq_n, group_Split_R5_eq]; unfold group_Split_R5_F
  exact ⟨ρ2 11, rvs, rfl, hG.base hm04.size, hm04.trans hm5⟩
end
end Go.Proofs.YtandbmnhghmcgaaDoor.Col
set_option linter.unusedVariables false
set_option linter.unusedSimpArgs false
set_option maxRecDepth 8000
namespace Go.X
open Go Go.RowKit
theorem cut_lo {P : Program} {w : World} {K : Value → World → Prop} {t e : TypeId} {sz : Nat} (hu : P.underlying t = some (.slice e)) (hc : P.cellsOf e = sz + 1) {v : Value} {n i : Nat} {xs : List Value} (h : reads w (sz + 1) v n xs) (hij : i ≤ n)
    (hk : ∀ v', reads w (sz + 1) v' (n - i) (xs.drop (i * (sz + 1))) → K v' w) : VK P (Instr.sliceAt t v (some (.int .i64 (i : Int))) none none) w K := by
  obtain ⟨hl, A, c, rfl, hnc, hr⟩ := h
  obtain ⟨z, hz, hzs⟩ := info_of hc
  have he : P.elem t = e := by simp [Program.elem, hu]
  have hrun : (Instr.sliceAt t (.slice A n c) (some (.int .i64 (i : Int))) none none).run P w = .ok (sliced A i n c (sz + 1)) w := by
    rw [run_sliceAt_slice (h := elem_of hu), run_slice_l w t A n c (elem_of hu) .i64 _ (by omega) (by omega), he]
    simp [sizeOf, typeInfo, hz, hzs]
  refine VK_of hrun (hk _ ⟨?_, ?_⟩)
  · rw [List.length_drop, hl, ← Nat.sub_mul]
  · refine ⟨_, _, rfl, by omega, fun k u hku => ?_⟩
    rw [List.getElem?_drop] at hku
    have hlt : i * (sz + 1) + k < n * (sz + 1) := by
      have := (List.getElem?_eq_some_iff.1 hku).1
      omega
    obtain ⟨a, rfl, hcell⟩ := hr _ u hku
    by_cases hci : c = i
    · have : i < n := Nat.lt_of_mul_lt_mul_right (a := sz + 1) (by omega)
      omega
    · refine ⟨a.add (i * (sz + 1)), by simp [sliced, hci], ?_⟩
      rw [add_add]
      exact hcell
structure Aq where
  ro : Nat
  n : Int
  k : Int
  own : Pt
  rank : Int
def Aq.enc (a : Aq) : List Value := [.pointer (some ⟨a.ro, 0, none⟩), .int .i64 a.n, .int .i64 a.k] ++ a.own.enc ++ [.int .i64 a.rank]
def Aq.v (a : Aq) : Value := .agg a.enc.toArray
end Go.X
namespace Go.Proofs.YtandbmnhghmcgaaDoor.Col
open Go Go.X Go.RowKit Go.Proofs.YtandbmnhghmcgaaDoor.XF Go.Proofs.YtandbmnhghmcgaaDoor.XK
abbrev tAq : TypeId := 110
abbrev tL : TypeId := 2
abbrev tLs : TypeId := 55
theorem vLs : Tryd.prog.underlying tLs = some (.slice tL) := by kernel_rfl
theorem cL : Tryd.prog.cellsOf tL = 1 := by kernel_rfl
theorem eLs : elemOk Tryd.prog tLs tL 1 8 = true := by kernel_rfl
theorem iAq : (Tryd.prog.info? tAq).map (·.size) = some 10 := by kernel_rfl
theorem appL {w : World} {v : Value} {xs : List Int} {m : Int} {B : Nat} {K : Value → Value → World → Prop} (ho : w.ownsRow B tL 1 v xs.length (ints xs)) (hB : B ≤ w.heap.size) (hl : xs.length ≤ 2000000)
    (hk : ∀ x v' w', w'.ownsRow B tL 1 v' (xs ++ [m]).length (ints (xs ++ [m])) → Mod (fun b => B ≤ b) w w' → K x v' w') :
    VK Tryd.prog (Instr.buildSlice tLs 1 [(0, .int .i64 m)].toArray) w fun x w => IK Tryd.prog .append #[tLs, tLs] tLs [false, false] [v, x] w (K x) := by
  refine bs_k (cs := #[.int .i64 m]) (by kernel_rfl) fun w1 hb1 hm1 hz1 => ?_
  refine ap_any eLs (owns_mod ho hm1 fun _ _ => id) (reads_blk (size := 1) (n := 1) hb1 rfl) (fun u hu => by rw [List.mem_singleton.1 hu]; rfl) (by unfold maxLen; omega) (by omega) (by omega) fun v' w2 ho2 hm2 hv2 => ?_
  refine hk _ v' w2 ?_ ((hm1.mono fun _ _ z => z.elim).trans (hm2.mono fun b _ z => (owns_bd (owns_mod ho hm1 fun _ _ => id) b z.symm).1))
  rw [List.length_append]
  unfold ints at ho2 ⊢
  rw [List.map_append]
  exact ho2
section
variable {w : World} {L : List Br} {e : Re} {a : Aq} {b : Nat}
theorem fA0 (h : w.heap[b]? = some (.cells a.enc.toArray tAq (0, 0))) : FO Tryd.prog w tAq 0 0 ⟨b, 0, none⟩ 76 (.pointer (some ⟨a.ro, 0, none⟩)) := FO.blk h (by kernel_rfl) uRo rfl rfl
theorem fA1 (h : w.heap[b]? = some (.cells a.enc.toArray tAq (0, 0))) : FO Tryd.prog w tAq 1 1 ⟨b, 0, none⟩ tI (.int .i64 a.n) := FO.blk h (by kernel_rfl) vI rfl rfl
theorem fA2 (h : w.heap[b]? = some (.cells a.enc.toArray tAq (0, 0))) : FO Tryd.prog w tAq 2 2 ⟨b, 0, none⟩ tI (.int .i64 a.k) := FO.blk h (by kernel_rfl) vI rfl rfl
theorem fA4 (h : w.heap[b]? = some (.cells a.enc.toArray tAq (0, 0))) : FO Tryd.prog w tAq 4 9 ⟨b, 0, none⟩ tI (.int .i64 a.rank) := FO.blk h (by kernel_rfl) vI rfl rfl
theorem fo3 {K : Value → World → Prop} : VK Tryd.prog (Instr.fieldAt tAq (.pointer (some ⟨b, 0, none⟩)) 3) w K = K (.pointer (some ⟨b, 3, none⟩)) w := by
  rw [fo (show fieldOff Tryd.prog tAq 3 = some 3 by kernel_rfl), add_pl]
theorem own_root {K : Value → Value → World → Prop} (h : w.heap[b]? = some (.cells a.enc.toArray tAq (0, 0))) : (VK Tryd.prog (Instr.fieldAt tPt (.pointer (some ⟨b, 3, none⟩)) 1) w fun x w => VK Tryd.prog (Instr.loadAt tI x) w (K x)) = K (.pointer (some ⟨b, 4, none⟩)) (.int .i64 a.own.root) w := by
  rw [fo (show fieldOff Tryd.prog tPt 1 = some 1 by kernel_rfl), add_pl]
  exact VK_eq_of (run_ld1 vI rfl (by rw [cell_blk h]; rfl))
theorem own_op {K : Value → Value → World → Prop} (h : w.heap[b]? = some (.cells a.enc.toArray tAq (0, 0))) : (VK Tryd.prog (Instr.fieldAt tPt (.pointer (some ⟨b, 3, none⟩)) 2) w fun x w => VK Tryd.prog (Instr.loadAt 5 x) w (K x)) = K (.pointer (some ⟨b, 5, none⟩)) (.int .u8 a.own.op) w := by
  rw [fo (show fieldOff Tryd.prog tPt 2 = some 2 by kernel_rfl), add_pl]
  exact VK_eq_of (run_ld1 vU8 rfl (by rw [cell_blk h]; rfl))
theorem values_ok (h : RoAt w L e) (hl : e.g.length ≤ 100000) (hro : a.ro = e.ro) : Rt Tryd.prog 79 #[a.v] w fun v w' => w'.ownsRow w.heap.size tL 1 v (valsC L e.key e.g a.k).length (ints (valsC L e.key e.g a.k)) ∧ Mod none_ w w' := by
  refine coll_asked_values_calls ?_
  unfold coll_asked_values_F
  refine box_k (cs := a.enc.toArray) rfl fun w1 hb1 hm1 hz1 => ?_
  simp only [↓VG_u, ↓UG_u, ↓MG_u, ↓NG_u, ↓PG_u, ↓BG_u, ↓CG_u, ↓IG_u, ↓VGtt, ↓VGtf, ↓VGft, ↓VGff, ↓UGtt, ↓UGtf, ↓UGft, ↓UGff, ↓MGtt, ↓MGtf, ↓MGft, ↓MGff, ↓NGtt, ↓NGtf, ↓NGft, ↓NGff, ↓PGtt, ↓PGtf, ↓PGft, ↓PGff, ↓BGtt, ↓BGtf, ↓BGft, ↓BGff, ↓CGtt, ↓CGtf, ↓CGft, ↓CGff, ↓IGtt, ↓IGtf, ↓IGft, ↓IGff, ↓PKt, ↓PKf, ↓CDt, ↓CDf, ↓NOTt, ↓NOTf, ↓NK_ptr, ↓(fA0 hb1).e]
  rw [hro]
  simp only [↓VG_u, ↓UG_u, ↓MG_u, ↓NG_u, ↓PG_u, ↓BG_u, ↓CG_u, ↓IG_u, ↓VGtt, ↓VGtf, ↓VGft, ↓VGff, ↓UGtt, ↓UGtf, ↓UGft, ↓UGff, ↓MGtt, ↓MGtf, ↓MGft, ↓MGff, ↓NGtt, ↓NGtf, ↓NGft, ↓NGff, ↓PGtt, ↓PGtf, ↓PGft, ↓PGff, ↓BGtt, ↓BGtf, ↓BGft, ↓BGff, ↓CGtt, ↓CGtf, ↓CGft, ↓CGff, ↓IGtt, ↓IGtf, ↓IGft, ↓IGff, ↓PKt, ↓PKf, ↓CDt, ↓CDf, ↓NOTt, ↓NOTf, ↓NK_ptr, ↓(f_key (h.calm hm1)).e]
  obtain ⟨A, c, es, _⟩ := reads_cap (reads_of_owns h.row)
  rw [es, len_sl vPs]
  refine W_loop coll_asked_values_L0_ok (fun ρ w' => ∃ n : Nat, n ≤ e.g.length ∧ ρ 13 = .int .i64 n ∧ ρ 12 = .int .i64 e.g.length ∧ ρ 1 = .pointer (some ⟨w.heap.size, 0, none⟩) ∧ w'.ownsRow w1.heap.size tL 1 (ρ 3) (valsC L e.key (e.g.take n) a.k).length (ints (valsC L e.key (e.g.take n) a.k)) ∧ Mod none_ w1 w') (fun ρ _ => e.g.length - (intOf (ρ 13)).toNat)
    ⟨0, Nat.zero_le _, rfl, rfl, rfl, World.ownsRow_nil _ _ _ _, Mod.refl _ _⟩ ?_
  rintro ρ w2 ⟨n, hn, h13, h12, h1, hrow, hm2⟩
  have hm02 := hm1.trans hm2
  have hb2 := hm2.blk hb1 id
  rw [coll_asked_values_L0_eq]; unfold coll_asked_values_L0_F
  rw [h13, h12, h1, BK_lss]
  by_cases hlt : n < e.g.length
  · rw [decide_eq_true (by omega)]
    refine condT ?_
    simp only [↓VG_u, ↓UG_u, ↓MG_u, ↓NG_u, ↓PG_u, ↓BG_u, ↓CG_u, ↓IG_u, ↓VGtt, ↓VGtf, ↓VGft, ↓VGff, ↓UGtt, ↓UGtf, ↓UGft, ↓UGff, ↓MGtt, ↓MGtf, ↓MGft, ↓MGff, ↓NGtt, ↓NGtf, ↓NGft, ↓NGff, ↓PGtt, ↓PGtf, ↓PGft, ↓PGff, ↓BGtt, ↓BGtf, ↓BGft, ↓BGff, ↓CGtt, ↓CGtf, ↓CGft, ↓CGff, ↓IGtt, ↓IGtf, ↓IGft, ↓IGff, ↓PKt, ↓PKf, ↓CDt, ↓CDf, ↓NOTt, ↓NOTf, ↓NK_ptr, ↓(fA0 hb2).e, ↓(fA2 hb2).e]
    rw [hro]
    have hx : e.g[n]? = some e.g[n] := List.getElem?_eq_getElem hlt
    have etk : valsC L e.key (e.g.take (n + 1)) a.k = valsC L e.key (e.g.take n) a.k ++ [((partC L e.key e.g[n] a.k).getD zPt).val] := by
      unfold valsC
      rw [List.take_add_one, hx, List.map_append]; rfl
    generalize e.g[n] = x at *
    refine CK_st Tryd.func58 rfl rfl (part_ok (h.calm hm02) hx a.k) ?_
    rintro _ w3 ⟨rfl, hm3⟩
    rw [extract_ok (v := ((partC L e.key x a.k).getD zPt).v) rfl, extract_ok (v := .bool (partC L e.key x a.k).isSome) rfl]
    refine lcl_k (cs := ((partC L e.key x a.k).getD zPt).enc.toArray) zPt_z _ iPt rfl (Pt.enc_one _) fun w4 hb4 hm4 hz4 => ?_
    simp only [↓VG_u, ↓UG_u, ↓MG_u, ↓NG_u, ↓PG_u, ↓BG_u, ↓CG_u, ↓IG_u, ↓VGtt, ↓VGtf, ↓VGft, ↓VGff, ↓UGtt, ↓UGtf, ↓UGft, ↓UGff, ↓MGtt, ↓MGtf, ↓MGft, ↓MGff, ↓NGtt, ↓NGtf, ↓NGft, ↓NGff, ↓PGtt, ↓PGtf, ↓PGft, ↓PGff, ↓BGtt, ↓BGtf, ↓BGft, ↓BGff, ↓CGtt, ↓CGtf, ↓CGft, ↓CGff, ↓IGtt, ↓IGtf, ↓IGft, ↓IGff, ↓PKt, ↓PKf, ↓CDt, ↓CDf, ↓NOTt, ↓NOTf, ↓NK_ptr, ↓(fP3 hb4).e]
    have hm24 := hm3.trans hm4
    have hm14 := hm2.trans hm24
    have hvl : (valsC L e.key (e.g.take n) a.k).length ≤ 100000 := by unfold valsC; rw [List.length_map, List.length_take]; omega
    refine appL (owns_mod hrow hm24 fun _ _ => id) hm14.size (by omega) fun y v' w5 ho5 hm5 => ?_
    have hm15 : Mod none_ w1 w5 := hm14.then hm5 fun i hi z => by omega
    rw [BK_add, wrap_i (by omega) (by omega)]
    refine ⟨⟨n + 1, hlt, rfl, h12, h1, by rw [etk]; exact ho5, hm15⟩, ?_⟩
    simp only [sq_n, sq_x, sq_r, bk_n, bk_r, bk_x, rt_r, rt_n, rs_0, rs_t, pk_1, pk_2, up_at, reduceIte, Nat.reduceEqDiff, intOf]; omega
  · obtain rfl : n = e.g.length := by omega
    rw [decide_eq_false (by omega)]
    refine condF ?_
    rw [sq_x, bk_x, sq_n, coll_asked_values_R1_eq]; unfold coll_asked_values_R1_F
    rw [List.take_length] at hrow
    exact ⟨owns_base hrow hm1.size, hm02⟩
theorem redC_cons (op v : Int) (l : List Int) : redC op (v :: l) = l.foldl (fun s v => if op = 0 then IntKind.i64.wrap (s + v) else if op = 1 then (if s < v then v else s) else if v < s then v else s) v := rfl
theorem reduced_ok (h : RoAt w L e) (hl : e.g.length ≤ 100000) (hne : 0 < e.g.length) (hro : a.ro = e.ro) : Rt Tryd.prog 76 #[a.v] w fun v w' => v = .int .i64 (redC a.own.op (valsC L e.key e.g a.k)) ∧ Mod none_ w w' := by
  refine coll_asked_reduced_calls ?_
  unfold coll_asked_reduced_F
  refine box_k (cs := a.enc.toArray) rfl fun w1 hb1 hm1 hz1 => ?_
  refine ldS (cs := a.enc.toArray) rfl Tryd.underlying110 rfl iAq hb1 ?_
  refine CK_st Tryd.func79 rfl rfl (values_ok (a := a) (h.calm hm1) hl hro) ?_
  rintro vs w2 ⟨hvs, hm2⟩
  have hm02 := hm1.trans hm2
  have hb2 := hm2.blk hb1 id
  have hvl : (valsC L e.key e.g a.k).length = e.g.length := by unfold valsC; rw [List.length_map]
  generalize valsC L e.key e.g a.k = l at *
  obtain ⟨v0, l', rfl⟩ : ∃ v0 l', l = v0 :: l' := by
    cases l with
    | nil => simp at hvl; omega
    | cons x y => exact ⟨x, y, rfl⟩
  have hr := reads_of_owns hvs
  refine ixld vLs cL vL rfl hr (by omega) (u := .int .i64 v0) rfl fun y => ?_
  refine cut_lo (sz := 0) (i := 1) vLs cL hr (by simp) fun v' hr' => ?_
  have hr' : RR w2 v' l' := by
    unfold RR
    simpa [ints] using hr'
  obtain ⟨A, c, es, _⟩ := reads_cap hr'
  rw [es, len_sl vLs, ← es]
  have hl' : l'.length ≤ 100000 := by simp at hvl; omega
  refine W_loop coll_asked_reduced_L0_ok (fun ρ w' => ∃ n : Nat, n ≤ l'.length ∧ ρ 15 = .int .i64 n ∧ ρ 14 = .int .i64 l'.length ∧ ρ 13 = v' ∧ ρ 1 = .pointer (some ⟨w.heap.size, 0, none⟩) ∧ ρ 4 = .int .i64 (redC a.own.op (v0 :: l'.take n)) ∧ w' = w2) (fun ρ _ => l'.length - (intOf (ρ 15)).toNat)
    ⟨0, Nat.zero_le _, rfl, rfl, rfl, rfl, rfl, rfl⟩ ?_
  rintro ρ w3 ⟨n, hn, h15, h14, h13, h1, h4, rfl⟩
  rw [coll_asked_reduced_L0_eq]; unfold coll_asked_reduced_L0_F
  rw [h15, h14, h13, h1, h4, BK_lss]
  by_cases hlt : n < l'.length
  · rw [decide_eq_true (by omega)]
    refine condT ?_
    have hx : l'[n]? = some l'[n] := List.getElem?_eq_getElem hlt
    have etk : redC a.own.op (v0 :: l'.take (n + 1)) = (fun s v => if a.own.op = 0 then IntKind.i64.wrap (s + v) else if a.own.op = 1 then (if s < v then v else s) else if v < s then v else s) (redC a.own.op (v0 :: l'.take n)) l'[n] := by
      rw [redC_cons, redC_cons, List.take_add_one, hx, List.foldl_append]; rfl
    generalize l'[n] = x at *
    refine ixld vLs cL vL rfl hr' (by omega) (u := .int .i64 x) (by rw [Int.toNat_natCast]; exact ints_get hx) fun y => ?_
    have hb3 : w3.heap[w.heap.size]? = some (.cells a.enc.toArray tAq (0, 0)) := hb2
    rw [fo3, own_op hb3]
    have nx : ∀ (ρ2 : Sl), ρ2 15 = .int .i64 n → ρ2 14 = .int .i64 l'.length → ρ2 13 = v' → ρ2 1 = .pointer (some ⟨w.heap.size, 0, none⟩) → ρ2 4 = .int .i64 (redC a.own.op (v0 :: l'.take (n + 1))) →
        sx fn_ Tryd.prog 37 coll_asked_reduced_R2 (seqK (fun ρ' w' => (∃ n : Nat, n ≤ l'.length ∧ ρ' 15 = .int .i64 n ∧ ρ' 14 = .int .i64 l'.length ∧ ρ' 13 = v' ∧ ρ' 1 = .pointer (some ⟨w.heap.size, 0, none⟩) ∧ ρ' 4 = .int .i64 (redC a.own.op (v0 :: l'.take n)) ∧ w' = w3) ∧ l'.length - (intOf (ρ' 15)).toNat < l'.length - (intOf (.int .i64 (n : Int))).toNat) (blkK 0 (seqK (sx fn_ Tryd.prog 37 coll_asked_reduced_R1 (retK Tryd.prog [ResultVar.tmp 2] fun v w' => v = .int .i64 (redC a.own.op (v0 :: l')) ∧ Mod none_ w w')) (retK Tryd.prog [ResultVar.tmp 2] fun v w' => v = .int .i64 (redC a.own.op (v0 :: l')) ∧ Mod none_ w w')))) ρ2 w3 := by
      intro ρ2 e15 e14 e13 e1 e4
      rw [coll_asked_reduced_R2_eq]; unfold coll_asked_reduced_R2_F
      rw [e15, BK_add, wrap_i (by omega) (by omega)]
      refine ⟨⟨n + 1, hlt, rfl, e14, e13, e1, e4, rfl⟩, ?_⟩
      simp only [sq_n, sq_x, sq_r, bk_n, bk_r, bk_x, rt_r, rt_n, rs_0, rs_t, pk_1, pk_2, up_at, reduceIte, Nat.reduceEqDiff, intOf]; omega
    by_cases c0 : a.own.op = 0
    · simp only [↓VG_u, ↓UG_u, ↓MG_u, ↓NG_u, ↓PG_u, ↓BG_u, ↓CG_u, ↓IG_u, ↓VGtt, ↓VGtf, ↓VGft, ↓VGff, ↓UGtt, ↓UGtf, ↓UGft, ↓UGff, ↓MGtt, ↓MGtf, ↓MGft, ↓MGff, ↓NGtt, ↓NGtf, ↓NGft, ↓NGff, ↓PGtt, ↓PGtf, ↓PGft, ↓PGff, ↓BGtt, ↓BGtf, ↓BGft, ↓BGff, ↓CGtt, ↓CGtf, ↓CGft, ↓CGff, ↓IGtt, ↓IGtf, ↓IGft, ↓IGff, ↓PKt, ↓PKf, ↓CDt, ↓CDf, ↓NOTt, ↓NOTf, ↓NK_ptr, ↓EQt c0]
      rw [BK_add]
      refine nx _ ?_ ?_ ?_ ?_ ?_
      · exact h15
      · exact h14
      · exact h13
      · exact h1
      · rw [etk]; simp only [sq_n, sq_x, sq_r, bk_n, bk_r, bk_x, rt_r, rt_n, rs_0, rs_t, pk_1, pk_2, up_at, reduceIte, Nat.reduceEqDiff, if_pos c0]
    simp only [↓VG_u, ↓UG_u, ↓MG_u, ↓NG_u, ↓PG_u, ↓BG_u, ↓CG_u, ↓IG_u, ↓VGtt, ↓VGtf, ↓VGft, ↓VGff, ↓UGtt, ↓UGtf, ↓UGft, ↓UGff, ↓MGtt, ↓MGtf, ↓MGft, ↓MGff, ↓NGtt, ↓NGtf, ↓NGft, ↓NGff, ↓PGtt, ↓PGtf, ↓PGft, ↓PGff, ↓BGtt, ↓BGtf, ↓BGft, ↓BGff, ↓CGtt, ↓CGtf, ↓CGft, ↓CGff, ↓IGtt, ↓IGtf, ↓IGft, ↓IGff, ↓PKt, ↓PKf, ↓CDt, ↓CDf, ↓NOTt, ↓NOTf, ↓NK_ptr, ↓EQf c0]
    by_cases c1 : a.own.op = 1
    · simp only [↓VG_u, ↓UG_u, ↓MG_u, ↓NG_u, ↓PG_u, ↓BG_u, ↓CG_u, ↓IG_u, ↓VGtt, ↓VGtf, ↓VGft, ↓VGff, ↓UGtt, ↓UGtf, ↓UGft, ↓UGff, ↓MGtt, ↓MGtf, ↓MGft, ↓MGff, ↓NGtt, ↓NGtf, ↓NGft, ↓NGff, ↓PGtt, ↓PGtf, ↓PGft, ↓PGff, ↓BGtt, ↓BGtf, ↓BGft, ↓BGff, ↓CGtt, ↓CGtf, ↓CGft, ↓CGff, ↓IGtt, ↓IGtf, ↓IGft, ↓IGff, ↓PKt, ↓PKf, ↓CDt, ↓CDf, ↓NOTt, ↓NOTf, ↓NK_ptr, ↓EQt c1]
      rw [max_i]
      refine nx _ ?_ ?_ ?_ ?_ ?_
      · exact h15
      · exact h14
      · exact h13
      · exact h1
      · rw [etk]; simp only [sq_n, sq_x, sq_r, bk_n, bk_r, bk_x, rt_r, rt_n, rs_0, rs_t, pk_1, pk_2, up_at, reduceIte, Nat.reduceEqDiff, if_neg c0, if_pos c1, gt_iff_lt]
    · simp only [↓VG_u, ↓UG_u, ↓MG_u, ↓NG_u, ↓PG_u, ↓BG_u, ↓CG_u, ↓IG_u, ↓VGtt, ↓VGtf, ↓VGft, ↓VGff, ↓UGtt, ↓UGtf, ↓UGft, ↓UGff, ↓MGtt, ↓MGtf, ↓MGft, ↓MGff, ↓NGtt, ↓NGtf, ↓NGft, ↓NGff, ↓PGtt, ↓PGtf, ↓PGft, ↓PGff, ↓BGtt, ↓BGtf, ↓BGft, ↓BGff, ↓CGtt, ↓CGtf, ↓CGft, ↓CGff, ↓IGtt, ↓IGtf, ↓IGft, ↓IGff, ↓PKt, ↓PKf, ↓CDt, ↓CDf, ↓NOTt, ↓NOTf, ↓NK_ptr, ↓EQf c1]
      rw [min_i]
      refine nx _ ?_ ?_ ?_ ?_ ?_
      · exact h15
      · exact h14
      · exact h13
      · exact h1
      · rw [etk]; simp only [sq_n, sq_x, sq_r, bk_n, bk_r, bk_x, rt_r, rt_n, rs_0, rs_t, pk_1, pk_2, up_at, reduceIte, Nat.reduceEqDiff, if_neg c0, if_neg c1]
  · obtain rfl : n = l'.length := by omega
    rw [decide_eq_false (by omega)]
    refine condF ?_
    rw [sq_x, bk_x, sq_n, coll_asked_reduced_R1_eq]; unfold coll_asked_reduced_R1_F
    rw [List.take_length] at h4
    exact ⟨h4, hm02⟩
end
end Go.Proofs.YtandbmnhghmcgaaDoor.Col
set_option linter.unusedVariables false
set_option linter.unusedSimpArgs false
set_option maxRecDepth 8000
namespace Go.X
open Go Go.RowKit
def tdCells (t : Td) (row rks : Value) : Array Value := #[.int .i64 t.val, row, strV t.gkey, rks, .bool t.has]
def splitT (L : List Br) (key : Ky) (g : List Int) (k rank : Int) : Td := match (splitC g (askC L key g k)).find? (fun x => decide (rank ∈ x.2)) with | some (c, r) => { zTd with gkey := subK key k c, ranks := r, has := true } | none => zTd
end Go.X
namespace Go.Proofs.YtandbmnhghmcgaaDoor.Col
open Go Go.X Go.RowKit Go.Proofs.YtandbmnhghmcgaaDoor.XF Go.Proofs.YtandbmnhghmcgaaDoor.XK
abbrev tTd : TypeId := 57
theorem iTd : (Tryd.prog.info? tTd).map (·.size) = some 5 := by kernel_rfl
theorem zTd_z : (Tryd.prog.info? tTd).bind (·.zero) = some (.agg (tdCells zTd nilS nilS)) := by kernel_rfl
theorem zTd_b : Tryd.prog.built tTd [] = some (tdCells zTd nilS nilS) := by kernel_rfl
theorem bTdG (key : Ky) (A : Option Addr) (n c : Nat) (h : Bool) : Tryd.prog.built tTd [(2, .agg #[strV key, .slice A n c]), (3, .bool h)] = some #[.int .i64 0, nilS, strV key, .slice A n c, .bool h] := by kernel_rfl
theorem bAsk (a b : Int) : Tryd.prog.built tAsk [(0, .int .i64 a), (1, .int .i64 b)] = some #[.int .i64 a, .int .i64 b] := by kernel_rfl
theorem eAsks : elemOk Tryd.prog tAsks tAsk 2 16 = true := by kernel_rfl
theorem td_one (t : Td) (A A2 : Option Addr) (n c n2 c2 : Nat) : (tdCells t (.slice A n c) (.slice A2 n2 c2)).all (·.oneCell') = true := by simp [tdCells, Value.oneCell', strV]
def TdAt (w : World) (B : Nat) (v : Value) (t : Td) : Prop := ∃ row rks, v = .agg (tdCells t row rks) ∧ w.ownsRow B tL 1 row t.row.length (ints t.row) ∧ w.ownsRow B tI 1 rks t.ranks.length (ints t.ranks)
theorem TdAt.mod {S : Nat → Prop} {w w' : World} {B : Nat} {v : Value} {t : Td} (h : TdAt w B v t) (hm : Mod S w w') (h1 : ∀ b, isT tL w b → ¬ S b) (h2 : ∀ b, isT tI w b → ¬ S b) : TdAt w' B v t := by
  obtain ⟨row, rks, e, a1, a2⟩ := h
  exact ⟨row, rks, e, owns_mod a1 hm fun k hk => h1 k (isT_own a1 hk), owns_mod a2 hm fun k hk => h2 k (isT_own a2 hk)⟩
theorem TdAt.calm {w w' : World} {B : Nat} {v : Value} {t : Td} (h : TdAt w B v t) (hm : Mod none_ w w') : TdAt w' B v t := h.mod hm (fun _ _ => id) fun _ _ => id
theorem TdAt.base {w : World} {B B' : Nat} {v : Value} {t : Td} (h : TdAt w B v t) (hB : B' ≤ B) : TdAt w B' v t := by
  obtain ⟨row, rks, e, a1, a2⟩ := h
  exact ⟨row, rks, e, owns_base a1 hB, owns_base a2 hB⟩
theorem TdAt.z (w : World) (B : Nat) : TdAt w B (.agg (tdCells zTd nilS nilS)) zTd := ⟨nilS, nilS, rfl, World.ownsRow_nil _ _ _ _, World.ownsRow_nil _ _ _ _⟩
section
variable {w : World} {L : List Br} {e : Re} {a : Aq} {b : Nat}
theorem appAsk {v : Value} {xs : List (Int × Int)} {m : Int × Int} {B : Nat} {K : Value → Value → World → Prop} (ho : w.ownsRow B tAsk 2 v xs.length (xs.flatMap askE)) (hB : B ≤ w.heap.size) (hl : xs.length ≤ 2000000)
    (hk : ∀ x v' w', w'.ownsRow B tAsk 2 v' (xs ++ [m]).length ((xs ++ [m]).flatMap askE) → Mod (fun b => B ≤ b) w w' → K x v' w') :
    VK Tryd.prog (Instr.buildSlice tAsks 1 [(0, .agg #[.int .i64 m.1, .int .i64 m.2])].toArray) w fun x w => IK Tryd.prog .append #[tAsks, tAsks] tAsks [false, false] [v, x] w (K x) := by
  refine bs_k (cs := (askE m).toArray) (by kernel_rfl) fun w1 hb1 hm1 hz1 => ?_
  refine ap_any eAsks (owns_mod ho hm1 fun _ _ => id) (reads_blk (size := 2) (n := 1) hb1 rfl) (fun u hu => by
    have : (askE m).toArray.all (·.oneCell') = true := askE_one m
    rw [List.all_toArray, List.all_eq_true] at this
    exact this u (by simpa using hu)) (by unfold maxLen; omega) (by omega) (by omega) fun v' w2 ho2 hm2 hv2 => ?_
  refine hk _ v' w2 ?_ ((hm1.mono fun _ _ z => z.elim).trans (hm2.mono fun b _ z => (owns_bd (owns_mod ho hm1 fun _ _ => id) b z.symm).1))
  rw [List.length_append, List.flatMap_append]
  simpa using ho2
theorem asplit_L0 {w0 : World} {ρ : Sl} {K : Exit → Sl → World → Prop} {b1 : Nat} (h : RoAt w L e) (hl : e.g.length ≤ 100000) (hro : a.ro = e.ro) (hb1 : w.heap[b1]? = some (.cells a.enc.toArray tAq (0, 0)))
    (q18 : ρ 18 = .int .i64 e.g.length) (q19 : ρ 19 = .int .i64 (0 : Nat)) (q1 : ρ 1 = .pointer (some ⟨b1, 0, none⟩)) (q3 : ρ 3 = nilS)
    (hK : ∀ (ρ' : Sl) (w' : World), ρ' 1 = ρ 1 → ρ' 2 = ρ 2 → w'.ownsRow w.heap.size tAsk 2 (ρ' 3) (askC L e.key e.g a.k).length ((askC L e.key e.g a.k).flatMap askE) → Mod none_ w w' → K (.exit 0) ρ' w') :
    W fn_ Tryd.prog 70 (Code.loop coll_asked_split_L0) K ρ w := by
  refine W_loop coll_asked_split_L0_ok (fun ρ' w' => ∃ n : Nat, n ≤ e.g.length ∧ ρ' 19 = .int .i64 n ∧ ρ' 18 = .int .i64 e.g.length ∧ ρ' 1 = .pointer (some ⟨b1, 0, none⟩) ∧ ρ' 2 = ρ 2 ∧ w'.ownsRow w.heap.size tAsk 2 (ρ' 3) (askC L e.key (e.g.take n) a.k).length ((askC L e.key (e.g.take n) a.k).flatMap askE) ∧ Mod none_ w w') (fun ρ _ => e.g.length - (intOf (ρ 19)).toNat)
    ⟨0, Nat.zero_le _, q19, q18, q1, rfl, by rw [q3]; exact World.ownsRow_nil _ _ _ _, Mod.refl _ _⟩ ?_
  rintro ρ1 w2 ⟨n, hn, h19, h18, h1, h2, hrow, hm2⟩
  have hb2 := hm2.blk hb1 id
  rw [coll_asked_split_L0_eq]; unfold coll_asked_split_L0_F
  rw [h19, h18, h1, BK_lss]
  by_cases hlt : n < e.g.length
  · rw [decide_eq_true (by omega)]
    refine condT ?_
    simp only [↓VG_u, ↓UG_u, ↓MG_u, ↓NG_u, ↓PG_u, ↓BG_u, ↓CG_u, ↓IG_u, ↓VGtt, ↓VGtf, ↓VGft, ↓VGff, ↓UGtt, ↓UGtf, ↓UGft, ↓UGff, ↓MGtt, ↓MGtf, ↓MGft, ↓MGff, ↓NGtt, ↓NGtf, ↓NGft, ↓NGff, ↓PGtt, ↓PGtf, ↓PGft, ↓PGff, ↓BGtt, ↓BGtf, ↓BGft, ↓BGff, ↓CGtt, ↓CGtf, ↓CGft, ↓CGff, ↓IGtt, ↓IGtf, ↓IGft, ↓IGff, ↓PKt, ↓PKf, ↓CDt, ↓CDf, ↓NOTt, ↓NOTf, ↓NK_ptr, ↓(fA0 hb2).e, ↓(fA2 hb2).e]
    rw [hro]
    have hx : e.g[n]? = some e.g[n] := List.getElem?_eq_getElem hlt
    have etk : askC L e.key (e.g.take (n + 1)) a.k = askC L e.key (e.g.take n) a.k ++ [(((partC L e.key e.g[n] a.k).getD zPt).color, ((partC L e.key e.g[n] a.k).getD zPt).key)] := by
      unfold askC
      rw [List.take_add_one, hx, List.map_append]; rfl
    generalize e.g[n] = x at *
    refine CK_st Tryd.func58 rfl rfl (part_ok (h.calm hm2) hx a.k) ?_
    rintro _ w3 ⟨rfl, hm3⟩
    rw [extract_ok (v := ((partC L e.key x a.k).getD zPt).v) rfl, extract_ok (v := .bool (partC L e.key x a.k).isSome) rfl]
    refine lcl_k (cs := ((partC L e.key x a.k).getD zPt).enc.toArray) zPt_z _ iPt rfl (Pt.enc_one _) fun w4 hb4 hm4 hz4 => ?_
    simp only [↓VG_u, ↓UG_u, ↓MG_u, ↓NG_u, ↓PG_u, ↓BG_u, ↓CG_u, ↓IG_u, ↓VGtt, ↓VGtf, ↓VGft, ↓VGff, ↓UGtt, ↓UGtf, ↓UGft, ↓UGff, ↓MGtt, ↓MGtf, ↓MGft, ↓MGff, ↓NGtt, ↓NGtf, ↓NGft, ↓NGff, ↓PGtt, ↓PGtf, ↓PGft, ↓PGff, ↓BGtt, ↓BGtf, ↓BGft, ↓BGff, ↓CGtt, ↓CGtf, ↓CGft, ↓CGff, ↓IGtt, ↓IGtf, ↓IGft, ↓IGff, ↓PKt, ↓PKf, ↓CDt, ↓CDf, ↓NOTt, ↓NOTf, ↓NK_ptr, ↓(fP4 hb4).e, ↓(fP5 hb4).e]
    rw [build_ok (bAsk _ _)]
    have hm24 := hm3.trans hm4
    have hm04 := hm2.trans hm24
    have hvl : (askC L e.key (e.g.take n) a.k).length ≤ 100000 := by unfold askC; rw [List.length_map, List.length_take]; omega
    refine appAsk (m := (((partC L e.key x a.k).getD zPt).color, ((partC L e.key x a.k).getD zPt).key)) (owns_mod hrow hm24 fun _ _ => id) hm04.size (by omega) fun y v' w5 ho5 hm5 => ?_
    have hm05 : Mod none_ w w5 := hm04.then hm5 fun i hi z => by omega
    rw [BK_add, wrap_i (by omega) (by omega)]
    refine ⟨⟨n + 1, hlt, rfl, h18, h1, h2, by rw [etk]; exact ho5, hm05⟩, ?_⟩
    simp only [sq_n, sq_x, sq_r, bk_n, bk_r, bk_x, rt_r, rt_n, rs_0, rs_t, pk_1, pk_2, up_at, reduceIte, Nat.reduceEqDiff, intOf]; omega
  · obtain rfl : n = e.g.length := by omega
    rw [decide_eq_false (by omega)]
    refine condF ?_
    rw [sq_x]
    rw [List.take_length] at hrow
    exact hK _ w2 (h1.trans q1.symm) h2 hrow hm2
theorem asplit_L4 {w0 : World} {ρ : Sl} {key : Ky} {k : Int} {b1 b2 B : Nat} {v : Value} {l : List (Int × List Int)} {rvs : List Value} (hG : GrpsAt w B v key k l rvs) (hll : l.length ≤ 100000) (hrl : ∀ x ∈ l, x.2.length ≤ 100000) (hB : w0.heap.size ≤ B) (hm0 : Mod none_ w0 w) (hb1 : w.heap[b1]? = some (.cells a.enc.toArray tAq (0, 0))) (hb2 : w.heap[b2]? = some (.cells (tdCells zTd nilS nilS) tTd (0, 0))) (hb20 : w0.heap.size ≤ b2)
    (q1 : ρ 1 = .pointer (some ⟨b1, 0, none⟩)) (q2 : ρ 2 = .pointer (some ⟨b2, 0, none⟩)) (q52 : ρ 52 = v) (q53 : ρ 53 = .int .i64 l.length) (q54 : ρ 54 = .int .i64 (0 : Nat)) :
    W fn_ Tryd.prog 70 (Code.loop coll_asked_split_L4) (blkK 2 (seqK (sx fn_ Tryd.prog 70 coll_asked_split_R5 (retK Tryd.prog [ResultVar.cell 2 tTd] fun u w' => TdAt w' w0.heap.size u (match l.find? (fun x => decide (a.rank ∈ x.2)) with | some (c, r) => { zTd with gkey := subK key k c, ranks := r, has := true } | none => zTd) ∧ Mod none_ w0 w')) (retK Tryd.prog [ResultVar.cell 2 tTd] fun u w' => TdAt w' w0.heap.size u (match l.find? (fun x => decide (a.rank ∈ x.2)) with | some (c, r) => { zTd with gkey := subK key k c, ranks := r, has := true } | none => zTd) ∧ Mod none_ w0 w'))) ρ w := by
  refine W_loop coll_asked_split_L4_ok (fun ρ' w' => ∃ n : Nat, n ≤ l.length ∧ ρ' 54 = .int .i64 n ∧ ρ' 53 = .int .i64 l.length ∧ ρ' 52 = v ∧ ρ' 1 = .pointer (some ⟨b1, 0, none⟩) ∧ ρ' 2 = .pointer (some ⟨b2, 0, none⟩) ∧ (∀ x ∈ l.take n, a.rank ∉ x.2) ∧ Mod none_ w w') (fun ρ _ => l.length - (intOf (ρ 54)).toNat)
    ⟨0, Nat.zero_le _, q54, q53, q52, q1, q2, by simp, Mod.refl _ _⟩ ?_
  rintro ρ1 w3 ⟨n, hn, h54, h53, h52, h1, h2, hno, hm⟩
  rw [coll_asked_split_L4_eq]; unfold coll_asked_split_L4_F
  rw [h54, h53, h52, h1, h2, BK_lss]
  have hG3 := hG.calm hm
  by_cases hlt : n < l.length
  · rw [decide_eq_true (by omega)]
    refine condT ?_
    have hx : l[n]? = some l[n] := List.getElem?_eq_getElem hlt
    have hmem : l[n] ∈ l := List.getElem_mem hlt
    have etk : l.take (n + 1) = l.take n ++ [l[n]] := by rw [List.take_add_one, hx]; rfl
    generalize l[n] = x at *
    have hul : n < rvs.length := by rw [hG.len]; exact hlt
    have hu : rvs[n]? = some rvs[n] := List.getElem?_eq_getElem hul
    generalize rvs[n] = u at *
    have hzip : (l.zip rvs)[n]? = some (x, u) := by
      rw [List.getElem?_zip_eq_some]
      exact ⟨hx, hu⟩
    refine ixldA vGs cG Tryd.underlying32 rfl (reads_of_owns hG3.row) (by omega) (by omega) fun y => ?_
    rw [Int.toNat_natCast, fl_drop (k := 1 + 1) (encG_len key k) hzip]
    have hown := hG3.own n x u hx hu
    obtain ⟨A, c, eu, _⟩ := reads_cap (reads_of_owns hown)
    refine lcl_k (cs := #[strV (subK key k x.1), u]) zG _ iG rfl (by rw [eu]; exact grp_one _ _ _ _) fun w4 hb4 hm4 hz4 => ?_
    refine ldS (cs := #[strV (subK key k x.1), u]) rfl Tryd.underlying32 rfl iG hb4 ?_
    have hm04 := hm.trans hm4
    simp only [↓VG_u, ↓UG_u, ↓MG_u, ↓NG_u, ↓PG_u, ↓BG_u, ↓CG_u, ↓IG_u, ↓VGtt, ↓VGtf, ↓VGft, ↓VGff, ↓UGtt, ↓UGtf, ↓UGft, ↓UGff, ↓MGtt, ↓MGtf, ↓MGft, ↓MGff, ↓NGtt, ↓NGtf, ↓NGft, ↓NGff, ↓PGtt, ↓PGtf, ↓PGft, ↓PGff, ↓BGtt, ↓BGtf, ↓BGft, ↓BGff, ↓CGtt, ↓CGtf, ↓CGft, ↓CGff, ↓IGtt, ↓IGtf, ↓IGft, ↓IGff, ↓PKt, ↓PKf, ↓CDt, ↓CDf, ↓NOTt, ↓NOTf, ↓NK_ptr, ↓(fA4 (hm04.blk hb1 id)).e]
    refine CK_st Tryd.func35 rfl rfl (Number_ok (key := subK key k x.1) (RR.calm (reads_of_owns hown) hm4) (by have := hrl x hmem; omega) a.rank) ?_
    rintro _ w5 ⟨rfl, hm5⟩
    have hm05 := hm04.trans hm5
    rw [extract_ok (v := .int .i64 (numI x.2 a.rank)) rfl, extract_ok (v := .bool (decide (a.rank ∈ x.2))) rfl]
    refine caseC (fun q => ?_) (fun q => ?_)
    · have q : a.rank ∈ x.2 := by simpa using q
      have hfind : l.find? (fun x => decide (a.rank ∈ x.2)) = some x := by
        rw [List.find?_eq_some_iff_getElem]
        obtain ⟨h1', h2'⟩ := List.getElem?_eq_some_iff.1 hx
        exact ⟨by simpa using q, n, h1', h2', fun j hj => by
          have := hno l[j] (List.mem_take_iff_getElem.2 ⟨j, by omega, rfl⟩)
          simpa using this⟩
      have hb45 := hm5.blk hb4 id
      refine ldS (cs := #[strV (subK key k x.1), u]) rfl Tryd.underlying32 rfl iG hb45 ?_
      rw [eu, build_ok (bTdG _ _ _ _ _), ← eu]
      refine stS (old := tdCells zTd nilS nilS) (cs := #[.int .i64 0, nilS, strV (subK key k x.1), u, .bool true]) rfl rfl iTd rfl (by rw [eu]; simp [Value.oneCell', strV]) (hm05.blk hb2 id) fun w6 hb6 hm6 hz6 => ?_
      rw [sq_r, bk_r, sq_r]
      refine rtCell (cs := #[.int .i64 0, nilS, strV (subK key k x.1), u, .bool true]) (b := b2) (by first | exact h2 | rfl) Tryd.underlying57 rfl iTd hb6 ?_
      rw [hfind]
      have hmb2 : w6.heap.size = w5.heap.size := hz6
      refine ⟨⟨nilS, u, rfl, World.ownsRow_nil _ _ _ _, ?_⟩, (hm0.trans hm05).then hm6 fun i hi z => by omega⟩
      have ho5 := owns_mod (owns_mod hown hm4 fun _ _ => id) hm5 fun _ _ => id
      exact owns_base (owns_mod ho5 hm6 fun j hj z => by subst z; exact isT_ne (isT_own ho5 hj) ⟨_, _, hm05.blk hb2 id⟩ (by decide)) hB
    · have q : a.rank ∉ x.2 := by simpa using q
      rw [BK_add, wrap_i (by omega) (by omega)]
      refine ⟨⟨n + 1, hlt, rfl, h53, h52, h1, h2, ?_, hm05⟩, ?_⟩
      · rw [etk]
        intro z hz
        rcases List.mem_append.1 hz with y | y
        · exact hno z y
        · rw [List.mem_singleton.1 y]; exact q
      · simp only [sq_n, sq_x, sq_r, bk_n, bk_r, bk_x, rt_r, rt_n, rs_0, rs_t, pk_1, pk_2, up_at, reduceIte, Nat.reduceEqDiff, intOf]; omega
  · obtain rfl : n = l.length := by omega
    rw [decide_eq_false (by omega)]
    refine condF ?_
    rw [sq_x, bk_x, sq_n, coll_asked_split_R5_eq]; unfold coll_asked_split_R5_F
    rw [List.take_length] at hno
    have hfind : l.find? (fun x => decide (a.rank ∈ x.2)) = none := List.find?_eq_none.2 fun x hx => by simpa using hno x hx
    rw [build_ok zTd_b]
    have hb23 := hm.blk hb2 id
    refine stS (old := tdCells zTd nilS nilS) (cs := tdCells zTd nilS nilS) (x := _) (b := b2) (by first | exact h2 | rfl) rfl iTd rfl (td_one _ _ _ _ _ _ _) hb23 fun w6 hb6 hm6 hz6 => ?_
    refine rtCell (cs := tdCells zTd nilS nilS) (b := b2) (by first | exact h2 | rfl) Tryd.underlying57 rfl iTd hb6 ?_
    rw [hfind]
    exact ⟨TdAt.z _ _, (hm0.trans hm).then hm6 fun i hi z => by omega⟩
theorem asplit_ok (hgl : Gl w) (h : RoAt w L e) (hm : mayG e.g = true) (hl : e.g.length ≤ 100000) (hkl : e.key.length ≤ 1000000) (h0 : 0 ≤ a.k) (h1 : a.k ≤ 9223372036854775807) (hc : ∀ q ∈ askC L e.key e.g a.k, -9223372036854775808 ≤ q.1 ∧ q.1 ≤ 9223372036854775807) (hro : a.ro = e.ro) :
    Rt Tryd.prog 82 #[a.v] w fun v w' => TdAt w' w.heap.size v (splitT L e.key e.g a.k a.rank) ∧ Mod none_ w w' := by
  refine coll_asked_split_calls ?_
  unfold coll_asked_split_F
  refine box_k (cs := a.enc.toArray) rfl fun w1 hb1 hm1 hz1 => ?_
  refine al_k (cs := tdCells zTd nilS nilS) zTd_z rfl _ fun w2 hb2 hm2 hz2 => ?_
  have hb12 := hm2.blk hb1 id
  have hm02 := hm1.trans hm2
  have hr2 := h.calm hm02
  simp only [↓VG_u, ↓UG_u, ↓MG_u, ↓NG_u, ↓PG_u, ↓BG_u, ↓CG_u, ↓IG_u, ↓VGtt, ↓VGtf, ↓VGft, ↓VGff, ↓UGtt, ↓UGtf, ↓UGft, ↓UGff, ↓MGtt, ↓MGtf, ↓MGft, ↓MGff, ↓NGtt, ↓NGtf, ↓NGft, ↓NGff, ↓PGtt, ↓PGtf, ↓PGft, ↓PGff, ↓BGtt, ↓BGtf, ↓BGft, ↓BGff, ↓CGtt, ↓CGtf, ↓CGft, ↓CGff, ↓IGtt, ↓IGtf, ↓IGft, ↓IGff, ↓PKt, ↓PKf, ↓CDt, ↓CDf, ↓NOTt, ↓NOTf, ↓NK_ptr, ↓(fA0 hb12).e]
  rw [hro]
  simp only [↓VG_u, ↓UG_u, ↓MG_u, ↓NG_u, ↓PG_u, ↓BG_u, ↓CG_u, ↓IG_u, ↓VGtt, ↓VGtf, ↓VGft, ↓VGff, ↓UGtt, ↓UGtf, ↓UGft, ↓UGff, ↓MGtt, ↓MGtf, ↓MGft, ↓MGff, ↓NGtt, ↓NGtf, ↓NGft, ↓NGff, ↓PGtt, ↓PGtf, ↓PGft, ↓PGff, ↓BGtt, ↓BGtf, ↓BGft, ↓BGff, ↓CGtt, ↓CGtf, ↓CGft, ↓CGff, ↓IGtt, ↓IGtf, ↓IGft, ↓IGff, ↓PKt, ↓PKf, ↓CDt, ↓CDf, ↓NOTt, ↓NOTf, ↓NK_ptr, ↓(f_key hr2).e]
  obtain ⟨A, c, es, _⟩ := reads_cap (reads_of_owns h.row)
  rw [es, len_sl vPs]
  refine asplit_L0 (w0 := w) hr2 hl hro hb12 rfl rfl rfl rfl fun ρ1 w3 e1 e2 hrow hm3 => ?_
  rw [bk_x, sq_n, coll_asked_split_R1_eq]; unfold coll_asked_split_R1_F
  have e1 : ρ1 1 = .pointer (some ⟨w.heap.size, 0, none⟩) := e1
  have e2 : ρ1 2 = .pointer (some ⟨w1.heap.size, 0, none⟩) := e2
  have hd : Mod none_ w3 { w3 with drawn := w3.drawn + 1 } := (Mod.refl _ w3).drawn _
  refine coll_asked_split_R2_held (D := []) (fun w' => Mod none_ w2 w') (hm3.trans hd) ?_
  have hm2d := hm3.trans hd
  have hrowd := owns_mod hrow hd fun _ _ => id
  generalize ({ w3 with drawn := w3.drawn + 1 } : World) = wd at *
  unfold coll_asked_split_R2_H coll_asked_split_R2_H0
  rw [e1]
  refine HV_of (v := .pointer (some ⟨w.heap.size, 0, none⟩)) (fun w' _ => by rw [run_fo (show fieldOff Tryd.prog tAq 0 = some 0 by kernel_rfl), add_pl]) (HV_of (v := .pointer (some ⟨a.ro, 0, none⟩)) (fun w' hw => run_ld1 uRo rfl (by rw [cell_blk (hw.blk hb12 id)]; rfl)) ?_)
  rw [hro]
  refine HN_ptr (HV_of (v := .pointer (some ⟨e.ro, 0, none⟩)) (fun w' _ => by rw [run_fo (show fieldOff Tryd.prog tRo 0 = some 0 by kernel_rfl), add_pl]) (HV_of (v := grpV e.key e.rv) (fun w' hw => ld_g hr2 w' hw) ?_))
  refine HV_of (v := .pointer (some ⟨w.heap.size, 2, none⟩)) (fun w' _ => by rw [run_fo (show fieldOff Tryd.prog tAq 2 = some 2 by kernel_rfl), add_pl]) (HV_of (v := .int .i64 a.k) (fun w' hw => run_ld1 vI rfl (by rw [cell_blk (hw.blk hb12 id)]; rfl)) ?_)
  have hm0d := hm02.trans hm2d
  have hal : (askC L e.key e.g a.k).length = e.g.length := by unfold askC; rw [List.length_map]
  refine CK_st Tryd.func88 rfl rfl (Split_ok (hgl.calm hm0d) hkl (reads_of_owns (h.calm hm0d).rk) (reads_of_owns hrowd) hal hm hl h0 h1 hc) ?_
  rintro _ w4 ⟨o, rvs, rfl, hG, hm4⟩
  have hm24 := hm2d.trans hm4
  refine ⟨hm24, HV_of (v := o) (fun w' _ => rfl) (HV_of (v := .int .i64 0) (fun w' _ => rfl) ?_)⟩
  unfold coll_asked_split_R2_H1
  simp only [sq_n, sq_x, sq_r, bk_n, bk_r, bk_x, rt_r, rt_n, rs_0, rs_t, pk_1, pk_2, up_at, reduceIte, Nat.reduceEqDiff]
  try rw [sq_n]
  rw [coll_asked_split_R3_eq]; unfold coll_asked_split_R3_F
  simp only [sq_n, sq_x, sq_r, bk_n, bk_r, bk_x, rt_r, rt_n, rs_0, rs_t, pk_1, pk_2, up_at, reduceIte, Nat.reduceEqDiff]
  obtain ⟨A5, c5, e5, _⟩ := reads_cap (reads_of_owns hG.row)
  rw [e5, len_sl vGs, ← e5]
  have hsl := asksC_len e.g (askC L e.key e.g a.k)
  have hsp := (sortA_perm (asksC e.g (askC L e.key e.g a.k))).length_eq
  have hgl2 : (splitC e.g (askC L e.key e.g a.k)).length ≤ 100000 := by
    have := grpA_len (sortA (asksC e.g (askC L e.key e.g a.k))) []
    simp only [List.length_nil] at this
    unfold splitC
    omega
  refine asplit_L4 (w0 := w) (a := a) (b1 := w.heap.size) (b2 := w1.heap.size) hG hgl2 (fun x hx => ?_) hm0d.size (hm0d.trans hm4) (hm24.blk hb12 id) (hm24.blk hb2 id) hm1.size ?_ ?_ rfl rfl rfl
  · have := grpA_rank (l := sortA (asksC e.g (askC L e.key e.g a.k))) hx
    omega
  · exact e1
  · exact e2
end
end Go.Proofs.YtandbmnhghmcgaaDoor.Col
set_option linter.unusedVariables false
set_option linter.unusedSimpArgs false
set_option maxRecDepth 8000
namespace Go.Proofs.YtandbmnhghmcgaaDoor.Col
open Go Go.X Go.RowKit Go.Proofs.YtandbmnhghmcgaaDoor.XF Go.Proofs.YtandbmnhghmcgaaDoor.XK
abbrev tTl : TypeId := 106
abbrev tTls : TypeId := 107
abbrev fnV (n : Nat) : Value := .func (.func n) #[] #[]
def tlA : Array Value := #[fnV 73, fnV 74, fnV 75, fnV 77, fnV 78, fnV 80, fnV 82]
theorem bTl (n : Nat) : Tryd.prog.built tTl [(0, fnV n)] = some #[fnV n] := by kernel_rfl
theorem bTls : Tryd.prog.built tTls [(0, .agg #[fnV 73]), (1, .agg #[fnV 74]), (2, .agg #[fnV 75]), (3, .agg #[fnV 77]), (4, .agg #[fnV 78]), (5, .agg #[fnV 80]), (6, .agg #[fnV 82])] = some tlA := by kernel_rfl
theorem iTls : (Tryd.prog.info? tTls).map (·.size) = some 7 := by kernel_rfl
theorem zTls : (Tryd.prog.info? tTls).bind (·.zero) = some (.agg #[.nilFunc, .nilFunc, .nilFunc, .nilFunc, .nilFunc, .nilFunc, .nilFunc]) := by kernel_rfl
theorem tellers_ok (w : World) : Rt Tryd.prog 59 #[] w fun v w' => v = .agg tlA ∧ Mod none_ w w' := by
  refine coll_tellers_calls ?_
  unfold coll_tellers_F
  refine al_k (cs := #[.nilFunc, .nilFunc, .nilFunc, .nilFunc, .nilFunc, .nilFunc, .nilFunc]) zTls rfl _ fun w1 hb1 hm1 hz1 => ?_
  rw [build_ok (bTl _), build_ok (bTl _), build_ok (bTl _), build_ok (bTl _), build_ok (bTl _), build_ok (bTl _), build_ok (bTl _), build_ok bTls]
  refine stS (old := #[.nilFunc, .nilFunc, .nilFunc, .nilFunc, .nilFunc, .nilFunc, .nilFunc]) (cs := tlA) rfl rfl iTls rfl (by simp [tlA, Value.oneCell']) hb1 fun w2 hb2 hm2 hz2 => ?_
  exact rsCell (R := fun u w'' => u = .agg tlA ∧ Mod none_ w w'') (cs := tlA) rfl Tryd.underlying107 rfl iTls hb2 ⟨rfl, hm1.then hm2 fun i hi q => by omega⟩
theorem ixTl0 (w : World) : (Instr.index tTls (.agg tlA) (.int .u8 0)).run Tryd.prog w = .ok (.agg #[fnV 73]) w := by kernel_rfl
theorem ixTl1 (w : World) : (Instr.index tTls (.agg tlA) (.int .u8 1)).run Tryd.prog w = .ok (.agg #[fnV 74]) w := by kernel_rfl
theorem ixTl2 (w : World) : (Instr.index tTls (.agg tlA) (.int .u8 2)).run Tryd.prog w = .ok (.agg #[fnV 75]) w := by kernel_rfl
theorem ixTl3 (w : World) : (Instr.index tTls (.agg tlA) (.int .u8 3)).run Tryd.prog w = .ok (.agg #[fnV 77]) w := by kernel_rfl
theorem ixTl4 (w : World) : (Instr.index tTls (.agg tlA) (.int .u8 4)).run Tryd.prog w = .ok (.agg #[fnV 78]) w := by kernel_rfl
theorem ixTl5 (w : World) : (Instr.index tTls (.agg tlA) (.int .u8 5)).run Tryd.prog w = .ok (.agg #[fnV 80]) w := by kernel_rfl
theorem ixTl6 (w : World) : (Instr.index tTls (.agg tlA) (.int .u8 6)).run Tryd.prog w = .ok (.agg #[fnV 82]) w := by kernel_rfl
theorem fldTl (n : Nat) (w : World) : (Instr.field tTl (.agg #[fnV n]) 0).run Tryd.prog w = .ok (fnV n) w := by kernel_rfl
end Go.Proofs.YtandbmnhghmcgaaDoor.Col
set_option linter.unusedVariables false
set_option linter.unusedSimpArgs false
set_option maxRecDepth 8000
namespace Go.Proofs.YtandbmnhghmcgaaDoor.Col
open Go Go.X Go.RowKit Go.Proofs.YtandbmnhghmcgaaDoor.XF Go.Proofs.YtandbmnhghmcgaaDoor.XK
theorem bTdV (v : Int) : Tryd.prog.built tTd [(0, .int .i64 v)] = some (tdCells { zTd with val := v } nilS nilS) := by kernel_rfl
theorem bTdR (A : Option Addr) (n c : Nat) : Tryd.prog.built tTd [(1, .slice A n c)] = some (tdCells zTd (.slice A n c) nilS) := by kernel_rfl
section
variable {w : World} {L : List Br} {e : Re} {a : Aq} {b : Nat}
theorem td_ret {w0 : World} {b2 : Nat} {t : Td} {row rks : Value} (hb2 : w.heap[b2]? = some (.cells (tdCells zTd nilS nilS) tTd (0, 0))) (hb20 : w0.heap.size ≤ b2) (hm : Mod none_ w0 w) (h1 : w.ownsRow w0.heap.size tL 1 row t.row.length (ints t.row)) (h2 : w.ownsRow w0.heap.size tI 1 rks t.ranks.length (ints t.ranks)) :
    UK Tryd.prog (Instr.storeAt tTd (.pointer (some ⟨b2, 0, none⟩)) (.agg (tdCells t row rks))) w fun _ w' => ∃ u, (do loadVar tTd (← asAddr (.pointer (some ⟨b2, 0, none⟩))) : Sem Value).run Tryd.prog w' = .ok u w' ∧ (TdAt w' w0.heap.size u t ∧ Mod none_ w0 w') := by
  obtain ⟨A, c, e1, _⟩ := reads_cap (reads_of_owns h1)
  obtain ⟨A2, c2, e2, _⟩ := reads_cap (reads_of_owns h2)
  have hone : (tdCells t row rks).all (·.oneCell') = true := by rw [e1, e2]; exact td_one _ _ _ _ _ _ _
  refine stS (old := tdCells zTd nilS nilS) (cs := tdCells t row rks) rfl rfl iTd rfl hone hb2 fun w6 hb6 hm6 hz6 => ?_
  refine rsCell (R := fun u w' => TdAt w' w0.heap.size u t ∧ Mod none_ w0 w') (cs := tdCells t row rks) rfl Tryd.underlying57 rfl iTd hb6 ⟨⟨row, rks, rfl, ?_, ?_⟩, hm.then hm6 fun i hi z => by omega⟩
  · exact owns_mod h1 hm6 fun k hk z => by subst z; exact isT_ne (isT_own h1 hk) ⟨_, _, hb2⟩ (by decide)
  · exact owns_mod h2 hm6 fun k hk z => by subst z; exact isT_ne (isT_own h2 hk) ⟨_, _, hb2⟩ (by decide)
abbrev TdP (w0 : World) (t : Td) : Value → World → Prop := fun v w' => TdAt w' w0.heap.size v t ∧ Mod none_ w0 w'
theorem tl1_ok (a : Aq) (w : World) : Rt Tryd.prog 73 #[a.v] w (TdP w zTd) := by
  refine coll_tellers_1_calls ?_
  unfold coll_tellers_1_F
  refine box_k (cs := a.enc.toArray) rfl fun w1 hb1 hm1 hz1 => ?_
  refine al_k (cs := tdCells zTd nilS nilS) zTd_z rfl _ fun w2 hb2 hm2 hz2 => ?_
  rw [build_ok zTd_b]
  exact td_ret hb2 hm1.size (hm1.trans hm2) (World.ownsRow_nil _ _ _ _) (World.ownsRow_nil _ _ _ _)
theorem tl2_ok (h : RoAt w L e) (hro : a.ro = e.ro) (hmay : mayPt e.g.length a.own = true) : Rt Tryd.prog 74 #[a.v] w (TdP w { zTd with val := ((partC L e.key (e.g.getD a.own.root.toNat 0) a.k).getD zPt).val }) := by
  refine coll_tellers_2_calls ?_
  unfold coll_tellers_2_F
  refine box_k (cs := a.enc.toArray) rfl fun w1 hb1 hm1 hz1 => ?_
  refine al_k (cs := tdCells zTd nilS nilS) zTd_z rfl _ fun w2 hb2 hm2 hz2 => ?_
  have hb12 := hm2.blk hb1 id
  have hm02 := hm1.trans hm2
  simp only [↓(fA0 hb12).e]
  rw [fo3, own_root hb12]
  simp only [↓(fA2 hb12).e]
  rw [hro]
  obtain ⟨r0, r1, _⟩ := mayPt_root hmay
  have hrt : e.g[a.own.root.toNat]? = some (e.g.getD a.own.root.toNat 0) := by
    rw [List.getD_eq_getElem?_getD, List.getElem?_eq_getElem (by omega)]; rfl
  have hpr := part_ok (h.calm hm02) hrt a.k
  rw [show ((a.own.root.toNat : Nat) : Int) = a.own.root by omega] at hpr
  refine CK_st Tryd.func58 rfl rfl hpr ?_
  rintro _ w3 ⟨rfl, hm3⟩
  generalize e.g.getD a.own.root.toNat 0 = y at *
  rw [extract_ok (v := ((partC L e.key y a.k).getD zPt).v) rfl, extract_ok (v := .bool (partC L e.key y a.k).isSome) rfl]
  refine lcl_k (cs := ((partC L e.key y a.k).getD zPt).enc.toArray) zPt_z _ iPt rfl (Pt.enc_one _) fun w4 hb4 hm4 hz4 => ?_
  simp only [↓(fP3 hb4).e]
  rw [build_ok (bTdV _)]
  have hm24 := hm3.trans hm4
  exact td_ret (hm24.blk hb2 id) hm1.size (hm02.trans hm24) (World.ownsRow_nil _ _ _ _) (World.ownsRow_nil _ _ _ _)
theorem tl3_ok (h : RoAt w L e) (hro : a.ro = e.ro) (hl : e.g.length ≤ 100000) (hne : 0 < e.g.length) : Rt Tryd.prog 75 #[a.v] w (TdP w (if a.n = a.own.root then { zTd with val := redC a.own.op (valsC L e.key e.g a.k) } else zTd)) := by
  refine coll_tellers_3_calls ?_
  unfold coll_tellers_3_F
  refine box_k (cs := a.enc.toArray) rfl fun w1 hb1 hm1 hz1 => ?_
  refine al_k (cs := tdCells zTd nilS nilS) zTd_z rfl _ fun w2 hb2 hm2 hz2 => ?_
  have hb12 := hm2.blk hb1 id
  have hm02 := hm1.trans hm2
  simp only [↓(fA1 hb12).e]
  rw [fo3, own_root hb12]
  by_cases c : a.n = a.own.root
  · simp only [↓VG_u, ↓UG_u, ↓MG_u, ↓NG_u, ↓PG_u, ↓BG_u, ↓CG_u, ↓IG_u, ↓VGtt, ↓VGtf, ↓VGft, ↓VGff, ↓UGtt, ↓UGtf, ↓UGft, ↓UGff, ↓MGtt, ↓MGtf, ↓MGft, ↓MGff, ↓NGtt, ↓NGtf, ↓NGft, ↓NGff, ↓PGtt, ↓PGtf, ↓PGft, ↓PGff, ↓BGtt, ↓BGtf, ↓BGft, ↓BGff, ↓CGtt, ↓CGtf, ↓CGft, ↓CGff, ↓IGtt, ↓IGtf, ↓IGft, ↓IGff, ↓PKt, ↓PKf, ↓CDt, ↓CDf, ↓NOTt, ↓NOTf, ↓NK_ptr, ↓NEf c]
    rw [if_pos c]
    refine ldS (cs := a.enc.toArray) rfl Tryd.underlying110 rfl iAq hb12 ?_
    refine CK_st Tryd.func76 rfl rfl (reduced_ok (a := a) (h.calm hm02) hl hne hro) ?_
    rintro _ w3 ⟨rfl, hm3⟩
    rw [build_ok (bTdV _)]
    exact td_ret (hm3.blk hb2 id) hm1.size (hm02.trans hm3) (World.ownsRow_nil _ _ _ _) (World.ownsRow_nil _ _ _ _)
  · simp only [↓VG_u, ↓UG_u, ↓MG_u, ↓NG_u, ↓PG_u, ↓BG_u, ↓CG_u, ↓IG_u, ↓VGtt, ↓VGtf, ↓VGft, ↓VGff, ↓UGtt, ↓UGtf, ↓UGft, ↓UGff, ↓MGtt, ↓MGtf, ↓MGft, ↓MGff, ↓NGtt, ↓NGtf, ↓NGft, ↓NGff, ↓PGtt, ↓PGtf, ↓PGft, ↓PGff, ↓BGtt, ↓BGtf, ↓BGft, ↓BGff, ↓CGtt, ↓CGtf, ↓CGft, ↓CGff, ↓IGtt, ↓IGtf, ↓IGft, ↓IGff, ↓PKt, ↓PKf, ↓CDt, ↓CDf, ↓NOTt, ↓NOTf, ↓NK_ptr, ↓NEt c]
    rw [if_neg c, build_ok zTd_b]
    exact td_ret hb2 hm1.size hm02 (World.ownsRow_nil _ _ _ _) (World.ownsRow_nil _ _ _ _)
theorem tl4_ok (h : RoAt w L e) (hro : a.ro = e.ro) (hl : e.g.length ≤ 100000) (hne : 0 < e.g.length) : Rt Tryd.prog 77 #[a.v] w (TdP w { zTd with val := redC a.own.op (valsC L e.key e.g a.k) }) := by
  refine coll_tellers_4_calls ?_
  unfold coll_tellers_4_F
  refine box_k (cs := a.enc.toArray) rfl fun w1 hb1 hm1 hz1 => ?_
  refine al_k (cs := tdCells zTd nilS nilS) zTd_z rfl _ fun w2 hb2 hm2 hz2 => ?_
  have hb12 := hm2.blk hb1 id
  have hm02 := hm1.trans hm2
  refine ldS (cs := a.enc.toArray) rfl Tryd.underlying110 rfl iAq hb12 ?_
  refine CK_st Tryd.func76 rfl rfl (reduced_ok (a := a) (h.calm hm02) hl hne hro) ?_
  rintro _ w3 ⟨rfl, hm3⟩
  rw [build_ok (bTdV _)]
  exact td_ret (hm3.blk hb2 id) hm1.size (hm02.trans hm3) (World.ownsRow_nil _ _ _ _) (World.ownsRow_nil _ _ _ _)
theorem tl5_ok (h : RoAt w L e) (hro : a.ro = e.ro) (hl : e.g.length ≤ 100000) : Rt Tryd.prog 78 #[a.v] w (TdP w (if a.n = a.own.root then { zTd with row := valsC L e.key e.g a.k } else zTd)) := by
  refine coll_tellers_5_calls ?_
  unfold coll_tellers_5_F
  refine box_k (cs := a.enc.toArray) rfl fun w1 hb1 hm1 hz1 => ?_
  refine al_k (cs := tdCells zTd nilS nilS) zTd_z rfl _ fun w2 hb2 hm2 hz2 => ?_
  have hb12 := hm2.blk hb1 id
  have hm02 := hm1.trans hm2
  simp only [↓(fA1 hb12).e]
  rw [fo3, own_root hb12]
  by_cases c : a.n = a.own.root
  · simp only [↓VG_u, ↓UG_u, ↓MG_u, ↓NG_u, ↓PG_u, ↓BG_u, ↓CG_u, ↓IG_u, ↓VGtt, ↓VGtf, ↓VGft, ↓VGff, ↓UGtt, ↓UGtf, ↓UGft, ↓UGff, ↓MGtt, ↓MGtf, ↓MGft, ↓MGff, ↓NGtt, ↓NGtf, ↓NGft, ↓NGff, ↓PGtt, ↓PGtf, ↓PGft, ↓PGff, ↓BGtt, ↓BGtf, ↓BGft, ↓BGff, ↓CGtt, ↓CGtf, ↓CGft, ↓CGff, ↓IGtt, ↓IGtf, ↓IGft, ↓IGff, ↓PKt, ↓PKf, ↓CDt, ↓CDf, ↓NOTt, ↓NOTf, ↓NK_ptr, ↓NEf c]
    rw [if_pos c]
    refine ldS (cs := a.enc.toArray) rfl Tryd.underlying110 rfl iAq hb12 ?_
    refine CK_st Tryd.func79 rfl rfl (values_ok (a := a) (h.calm hm02) hl hro) ?_
    rintro vs w3 ⟨hvs, hm3⟩
    obtain ⟨A, c', ev, _⟩ := reads_cap (reads_of_owns hvs)
    rw [ev, build_ok (bTdR _ _ _), ← ev]
    exact td_ret (t := { zTd with row := valsC L e.key e.g a.k }) (hm3.blk hb2 id) hm1.size (hm02.trans hm3) (owns_base hvs hm02.size) (World.ownsRow_nil _ _ _ _)
  · simp only [↓VG_u, ↓UG_u, ↓MG_u, ↓NG_u, ↓PG_u, ↓BG_u, ↓CG_u, ↓IG_u, ↓VGtt, ↓VGtf, ↓VGft, ↓VGff, ↓UGtt, ↓UGtf, ↓UGft, ↓UGff, ↓MGtt, ↓MGtf, ↓MGft, ↓MGff, ↓NGtt, ↓NGtf, ↓NGft, ↓NGff, ↓PGtt, ↓PGtf, ↓PGft, ↓PGff, ↓BGtt, ↓BGtf, ↓BGft, ↓BGff, ↓CGtt, ↓CGtf, ↓CGft, ↓CGff, ↓IGtt, ↓IGtf, ↓IGft, ↓IGff, ↓PKt, ↓PKf, ↓CDt, ↓CDf, ↓NOTt, ↓NOTf, ↓NK_ptr, ↓NEt c]
    rw [if_neg c, build_ok zTd_b]
    exact td_ret hb2 hm1.size hm02 (World.ownsRow_nil _ _ _ _) (World.ownsRow_nil _ _ _ _)
theorem tl6_R1 {w0 : World} {ρ : Sl} {b2 b3 : Nat} {rv' : Value} {key : Ky} {g : List Int} (hb2 : w.heap[b2]? = some (.cells (tdCells zTd nilS nilS) tTd (0, 0))) (hb20 : w0.heap.size ≤ b2) (hb3 : w.heap[b3]? = some (.cells #[strV key, rv'] tG (0, 0))) (hm : Mod none_ w0 w) (ho : w.ownsRow w0.heap.size tI 1 rv' g.length (ints g))
    (q2 : ρ 2 = .pointer (some ⟨b2, 0, none⟩)) (q3 : ρ 3 = .pointer (some ⟨b3, 0, none⟩)) (q4 : ρ 4 = .int .i64 0) : sx fn_ Tryd.prog 20 coll_tellers_6_R1 (retK Tryd.prog [ResultVar.cell 2 tTd] (TdP w0 { zTd with gkey := key, ranks := g, has := true })) ρ w := by
  rw [coll_tellers_6_R1_eq]; unfold coll_tellers_6_R1_F
  rw [q2, q3, q4]
  refine ldS (cs := #[strV key, rv']) rfl Tryd.underlying32 rfl iG hb3 ?_
  rw [BK_eql]
  obtain ⟨A, c, ev, _⟩ := reads_cap (reads_of_owns ho)
  rw [ev, build_ok (bTdG _ _ _ _ _), ← ev]
  have hone : (tdCells { zTd with gkey := key, ranks := g, has := true } nilS rv').all (·.oneCell') = true := by rw [ev]; exact td_one _ _ _ _ _ _ _
  refine stS (old := tdCells zTd nilS nilS) (cs := tdCells { zTd with gkey := key, ranks := g, has := true } nilS rv') rfl rfl iTd rfl hone hb2 fun w6 hb6 hm6 hz6 => ?_
  refine rtCell (cs := tdCells { zTd with gkey := key, ranks := g, has := true } nilS rv') (b := b2) (by first | exact q2 | rfl) Tryd.underlying57 rfl iTd hb6 ⟨⟨nilS, rv', rfl, World.ownsRow_nil _ _ _ _, ?_⟩, hm.then hm6 fun i hi z => by omega⟩
  exact owns_mod ho hm6 fun k hk z => by subst z; exact isT_ne (isT_own ho hk) ⟨_, _, hb2⟩ (by decide)
theorem tl6_ok (hgl : Gl w) (h : RoAt w L e) (hro : a.ro = e.ro) (hm : mayG e.g = true) (hl : e.g.length ≤ 100000) (hkl : e.key.length ≤ 1000000) (h0 : 0 ≤ a.k) (h1 : a.k ≤ 9223372036854775807) : Rt Tryd.prog 80 #[a.v] w (TdP w { zTd with gkey := childK e.key a.k, ranks := e.g, has := true }) := by
  refine coll_tellers_6_calls ?_
  unfold coll_tellers_6_F
  refine box_k (cs := a.enc.toArray) rfl fun w1 hb1 hm1 hz1 => ?_
  refine al_k (cs := tdCells zTd nilS nilS) zTd_z rfl _ fun w2 hb2 hm2 hz2 => ?_
  have hb12 := hm2.blk hb1 id
  have hm02 := hm1.trans hm2
  have hd : Mod none_ w2 { w2 with drawn := w2.drawn + 1 } := (Mod.refl _ w2).drawn _
  refine coll_tellers_6_R0_held (D := []) (fun w' => w'.heap[w.heap.size]? = some (.cells a.enc.toArray tAq (0, 0)) ∧ w'.heap[e.ro]? = some (.cells #[strV e.key, e.rv, e.pv] tRo (0, 0))) ⟨hd.blk hb12 id, (hm02.trans hd).blk h.blk id⟩ ?_
  have hm0d := hm02.trans hd
  have hbd := hd.blk hb12 id
  have hb2d := hd.blk hb2 id
  generalize ({ w2 with drawn := w2.drawn + 1 } : World) = wd at *
  unfold coll_tellers_6_R0_H
  simp only [sq_n, sq_x, sq_r, bk_n, bk_r, bk_x, rt_r, rt_n, rs_0, rs_t, pk_1, pk_2, up_at, reduceIte, Nat.reduceEqDiff]
  have hrd := h.calm hm0d
  refine HV_of (v := .pointer (some ⟨w.heap.size, 0, none⟩)) (fun w' _ => by rw [run_fo (show fieldOff Tryd.prog tAq 0 = some 0 by kernel_rfl), add_pl]) (HV_of (v := .pointer (some ⟨e.ro, 0, none⟩)) (fun w' hw => by rw [← hro]; exact run_ld1 uRo rfl (by rw [cell_blk hw.1]; rfl)) ?_)
  refine HN_ptr (HV_of (v := .pointer (some ⟨e.ro, 0, none⟩)) (fun w' _ => by rw [run_fo (show fieldOff Tryd.prog tRo 0 = some 0 by kernel_rfl), add_pl]) (HV_of (v := grpV e.key e.rv) (fun w' hw => ?_) ?_))
  · refine run_ldA (cs := [strV e.key, e.rv]) Tryd.underlying32 rfl (by kernel_rfl) fun j v hj => ?_
    rw [add_pl, cell_blk hw.2, Nat.zero_add]
    match j, hj with
    | 0, hj => simpa using hj
    | 1, hj => simpa using hj
    | n + 2, hj => simp at hj
  refine HV_of (v := .pointer (some ⟨w.heap.size, 2, none⟩)) (fun w' _ => by rw [run_fo (show fieldOff Tryd.prog tAq 2 = some 2 by kernel_rfl), add_pl]) (HV_of (v := .int .i64 a.k) (fun w' hw => run_ld1 vI rfl (by rw [cell_blk hw.1]; rfl)) ?_)
  have st : ∀ {w' : World}, Mod none_ wd w' → w'.heap[w.heap.size]? = some (.cells a.enc.toArray tAq (0, 0)) ∧ w'.heap[e.ro]? = some (.cells #[strV e.key, e.rv, e.pv] tRo (0, 0)) := fun hm' => ⟨hm'.blk hbd id, hm'.blk hrd.blk id⟩
  have sd := hm0d.size
  refine ⟨?_, ?_⟩
  · refine CK_st Tryd.func81 rfl rfl (Dup_ok (hgl.calm hm0d) hkl (reads_of_owns hrd.rk) (by omega) hm h0 h1) ?_
    rintro _ w4 ⟨rv', rfl, ho, hm4⟩
    refine ⟨st hm4, HV_of (v := grpV (childK e.key a.k) rv') (fun _ _ => rfl) (HV_of (v := .int .i64 0) (fun _ _ => rfl) ?_)⟩
    refine al_k (cs := #[strV [], nilS]) zG rfl _ fun w5 hb5 hm5 hz5 => ⟨st (hm4.trans hm5), ?_⟩
    obtain ⟨A, c, ev, _⟩ := reads_cap (reads_of_owns ho)
    refine stS (old := #[strV [], nilS]) (cs := #[strV (childK e.key a.k), rv']) rfl rfl iG rfl (by rw [ev]; exact grp_one _ _ _ _) hb5 fun w6 hb6 hm6 hz6 => ?_
    have hs4 := hm4.size
    have hmd6 : Mod none_ wd w6 := (hm4.trans hm5).then hm6 fun i hi z => by omega
    refine ⟨st hmd6, ?_⟩
    refine tl6_R1 (b2 := w1.heap.size) (b3 := w4.heap.size) (hmd6.blk hb2d id) hm1.size hb6 (hm0d.trans hmd6) (owns_base (owns_mod (owns_mod ho hm5 fun _ _ => id) hm6 fun k hk z => ?_) sd) rfl rfl rfl
    subst z
    exact isT_ne (isT_own (owns_mod ho hm5 fun _ _ => id) hk) ⟨_, _, hb5⟩ (by decide)
  · refine al_k (cs := #[strV [], nilS]) zG rfl _ fun w4 hb4 hm4 hz4 => ⟨st hm4, ?_⟩
    refine CK_st Tryd.func81 rfl rfl (Dup_ok (hgl.calm (hm0d.trans hm4)) hkl (reads_of_owns (hrd.calm hm4).rk) (by omega) hm h0 h1) ?_
    rintro _ w5 ⟨rv', rfl, ho, hm5⟩
    refine ⟨st (hm4.trans hm5), HV_of (v := grpV (childK e.key a.k) rv') (fun _ _ => rfl) (HV_of (v := .int .i64 0) (fun _ _ => rfl) ?_)⟩
    obtain ⟨A, c, ev, _⟩ := reads_cap (reads_of_owns ho)
    have hb5 := hm5.blk hb4 id
    refine stS (old := #[strV [], nilS]) (cs := #[strV (childK e.key a.k), rv']) rfl rfl iG rfl (by rw [ev]; exact grp_one _ _ _ _) hb5 fun w6 hb6 hm6 hz6 => ?_
    have hs4 := hm4.size
    have hmd6 : Mod none_ wd w6 := (hm4.trans hm5).then hm6 fun i hi z => by omega
    refine ⟨st hmd6, ?_⟩
    refine tl6_R1 (b2 := w1.heap.size) (b3 := wd.heap.size) (hmd6.blk hb2d id) hm1.size hb6 (hm0d.trans hmd6) (owns_base (owns_mod ho hm6 fun k hk z => ?_) (Nat.le_trans sd hs4)) rfl rfl rfl
    subst z
    exact isT_ne (isT_own ho hk) ⟨_, _, hb5⟩ (by decide)
end
end Go.Proofs.YtandbmnhghmcgaaDoor.Col
set_option linter.unusedVariables false
set_option linter.unusedSimpArgs false
set_option maxRecDepth 8000
namespace Go.X
open Go Go.RowKit
theorem Hsub {P : Program} {S : World → Prop} {K : Value → Prop} {t : TypeId} {x y : Operand} {k : IntKind} {a b : Int} (hk : K (.int k (k.wrap (a - b)))) : HK P S (do pure (Next.value (← (do eqGuard .sub t x y (.int k a) (.int k b); binOp .sub t (.int k a) (.int k b))))) K := HB_of (fun _ => rfl) (fun w => by simp [go_sem]) hk
end Go.X
namespace Go.Proofs.YtandbmnhghmcgaaDoor.Col
open Go Go.X Go.RowKit Go.Proofs.YtandbmnhghmcgaaDoor.XF Go.Proofs.YtandbmnhghmcgaaDoor.XK
theorem bAq (ro : Nat) (n k : Int) (p : Pt) (r : Int) : Tryd.prog.built tAq [(0, .pointer (some ⟨ro, 0, none⟩)), (1, .int .i64 n), (2, .int .i64 k), (3, .agg #[.int .u8 p.kind, .int .i64 p.root, .int .u8 p.op, .int .i64 p.val, .int .i64 p.color, .int .i64 p.key]), (4, .int .i64 r)] = some (Aq.mk ro n k p r).enc.toArray := by kernel_rfl
section
variable {w : World} {p : Nat} {loose : Bool} {L : List Br} {V : CV} {e : Re}
abbrev ToP (w0 : World) (t : Td) (h : Bool) : Value → World → Prop := fun v w' => ∃ u, v = .tuple #[u, .bool h] ∧ TdAt w' w0.heap.size u t ∧ Mod none_ w0 w'
theorem told_R0 {w0 : World} {ρ : Sl} {f : FuncId} {fn : Func} {b8 b13 : Nat} {a : Aq} {t : Td} (hf : Tryd.prog.funcs[f]? = some fn) (hb : fn.body.isNone = false) (hn : (fn.name == "runtime.NumGoroutine") = false) (hix : ∀ w', (Instr.index tTls (.agg tlA) (.int .u8 (IntKind.u8.wrap (a.own.kind - 15)))).run Tryd.prog w' = .ok (.agg #[fnV f]) w')
    (hc : ∀ w', Mod none_ w w' → Rt Tryd.prog f #[a.v] w' (TdP w' t)) (hm : Mod none_ w0 w) (hb8 : w.heap[b8]? = some (.cells (tdCells zTd nilS nilS) tTd (0, 0))) (hb80 : w0.heap.size ≤ b8) (hb13 : w.heap[b13]? = some (.cells a.own.enc.toArray tPt (0, 0)))
    (q8 : ρ 8 = .pointer (some ⟨b8, 0, none⟩)) (q13 : ρ 13 = .pointer (some ⟨b13, 0, none⟩)) (q10 : ρ 10 = .pointer (some ⟨a.ro, 0, none⟩)) (q11 : ρ 11 = .int .i64 a.n) (q3 : ρ 3 = .int .i64 a.k) (q2 : ρ 2 = .int .i64 a.rank) :
    sx fn_ Tryd.prog 54 coll_Coll_Told_R0 (retK Tryd.prog [ResultVar.cell 8 tTd, ResultVar.tmp 9] (ToP w0 t true)) ρ w := by
  rw [coll_Coll_Told_R0_eq]; unfold coll_Coll_Told_R0_F
  have hd : Mod none_ w { w with drawn := w.drawn + 1 } := (Mod.refl _ w).drawn _
  refine coll_Coll_Told_R1_held (D := []) (fun w' => w'.heap[b13]? = some (.cells a.own.enc.toArray tPt (0, 0))) (hd.blk hb13 id) ?_
  have hb13d := hd.blk hb13 id
  have hb8d := hd.blk hb8 id
  generalize ({ w with drawn := w.drawn + 1 } : World) = wd at *
  unfold coll_Coll_Told_R1_H
  simp only [sq_n, sq_x, sq_r, bk_n, bk_r, bk_x, rt_r, rt_n, rs_0, rs_t, pk_1, pk_2, up_at, reduceIte, Nat.reduceEqDiff]
  rw [q13, q10, q11, q3, q2, q8]
  refine HV_of (v := .pointer (some ⟨b13, 0, none⟩)) (fun w' _ => by rw [run_fo (show fieldOff Tryd.prog tPt 0 = some 0 by kernel_rfl), add_pl]) (HV_of (v := .int .u8 a.own.kind) (fun w' hw => run_ld1 vU8 rfl (by rw [cell_blk hw]; rfl)) (Hsub ?_))
  refine HV_of (v := a.own.v) (fun w' hw => run_ldB Tryd.underlying34 rfl iPt hw) (HV_of (v := a.v) (fun w' _ => run_build (P := Tryd.prog) w' _ _ _ (bAq _ _ _ _ _)) ?_)
  refine CK_st Tryd.func59 rfl rfl (tellers_ok wd) ?_
  rintro _ w4 ⟨rfl, hm4⟩
  refine ⟨hm4.blk hb13d id, HV_of (fun w' _ => hix w') (HV_of (fun w' _ => fldTl f w') ?_)⟩
  refine ⟨⟨_, _, _, _, rfl, hf, hb, hn⟩, ?_⟩
  have hmw4 := hd.trans hm4
  refine CK_st hf hb hn (hc w4 hmw4) ?_
  rintro v w5 ⟨⟨row, rks, rfl, h1, h2⟩, hm5⟩
  have hm45 := hm4.trans hm5
  refine ⟨hm5.blk (hm4.blk hb13d id) id, ?_⟩
  obtain ⟨A, c, e1, _⟩ := reads_cap (reads_of_owns h1)
  obtain ⟨A2, c2, e2, _⟩ := reads_cap (reads_of_owns h2)
  have hone : (tdCells t row rks).all (·.oneCell') = true := by rw [e1, e2]; exact td_one _ _ _ _ _ _ _
  have hb85 := hm45.blk hb8d id
  refine stS (old := tdCells zTd nilS nilS) (cs := tdCells t row rks) rfl rfl iTd rfl hone hb85 fun w6 hb6 hm6 hz6 => ?_
  have hb136 := hm6.blk (hm5.blk (hm4.blk hb13d id) id) fun z => by
    have z : b13 = b8 := z
    rw [z, hb8] at hb13
    injection hb13 with hb13
    injection hb13 with _ hb13
    exact absurd hb13 (by decide)
  refine ⟨hb136, ?_⟩
  rw [coll_Coll_Told_R2_eq]; unfold coll_Coll_Told_R2_F
  have hs := (hm.trans hmw4).size
  refine rtCT (b := b8) (cs := tdCells t row rks) (by first | exact q8 | rfl) Tryd.underlying57 rfl iTd hb6 ⟨_, rfl, ⟨row, rks, rfl, ?_, ?_⟩, ((hm.trans hmw4).trans hm5).then hm6 fun i hi z => by omega⟩
  · exact owns_base (owns_mod h1 hm6 fun k hk z => by subst z; exact isT_ne (isT_own h1 hk) ⟨_, _, hb85⟩ (by decide)) hs
  · exact owns_base (owns_mod h2 hm6 fun k hk z => by subst z; exact isT_ne (isT_own h2 hk) ⟨_, _, hb85⟩ (by decide)) hs
theorem root_iff {g : List Int} (hnd : g.Nodup) {own : Pt} {n : Nat} {x : Int} (hx : g[n]? = some x) (hmay : mayPt g.length own = true) : ((n : Int) = own.root) ↔ g.getD own.root.toNat 0 = x := by
  obtain ⟨r0, r1, _⟩ := mayPt_root hmay
  have hrt : g[own.root.toNat]? = some (g.getD own.root.toNat 0) := by
    rw [List.getD_eq_getElem?_getD, List.getElem?_eq_getElem (by omega)]; rfl
  constructor
  · intro q
    rw [← q, Int.toNat_natCast, List.getD_eq_getElem?_getD, hx]; rfl
  · intro q
    rw [q] at hrt
    have := nodup_at hnd hrt hx
    omega
theorem tellC_eq (L : List Br) (key : Ky) (rank k : Int) (own : Pt) {g : List Int} (hg : grpC L key = some g) : tellC L key rank k own =
    if own.kind = 16 then { zTd with val := ((partC L key (g.getD own.root.toNat 0) k).getD zPt).val }
    else if own.kind = 17 then (if g.getD own.root.toNat 0 = rank then { zTd with val := redC own.op (valsC L key g k) } else zTd)
    else if own.kind = 18 then { zTd with val := redC own.op (valsC L key g k) }
    else if own.kind = 19 then (if g.getD own.root.toNat 0 = rank then { zTd with row := valsC L key g k } else zTd)
    else if own.kind = 20 then { zTd with gkey := childK key k, ranks := g, has := true }
    else if own.kind = 21 then splitT L key g k rank
    else zTd := by
  unfold tellC
  rw [hg]
  simp only [Option.getD_some, decide_eq_true_eq]
  rfl
theorem Told_ok (h : CAt w p loose L V) (hgl : Gl w) (hL : L.length ≤ 1000000) (hK : ∀ b ∈ L, b.key.length ≤ 1000000) (hC : ∀ b ∈ L, -9223372036854775808 ≤ b.p.color ∧ b.p.color ≤ 9223372036854775807) (key : Ky) (rank k : Int) :
    Rt Tryd.prog 27 #[.pointer (some ⟨p, 0, none⟩), strV key, .int .i64 rank, .int .i64 k] w (ToP w (toldC loose L key rank k).1 (toldC loose L key rank k).2) := by
  refine coll_Coll_Told_calls ?_
  unfold coll_Coll_Told_F
  refine al_k (cs := tdCells zTd nilS nilS) zTd_z rfl _ fun w1 hb1 hm1 hz1 => ?_
  have h1 := h.calm hm1
  refine CK_st Tryd.func47 rfl rfl (of_ok h1 h1.hG key rank) ?_
  rintro v w2 ⟨hof, hm2⟩
  have hm02 := hm1.trans hm2
  have hb12 := hm2.blk hb1 id
  have no : ∀ {w3 : World}, Mod none_ w w3 → w3.heap[w.heap.size]? = some (.cells (tdCells zTd nilS nilS) tTd (0, 0)) → overC loose L key rank k = false → VK Tryd.prog (Instr.build tTd [].toArray) w3 fun x33 w' => UK Tryd.prog (Instr.storeAt tTd (.pointer (some ⟨w.heap.size, 0, none⟩)) x33) w' fun _ w'' => ∃ u, (do loadVar tTd (← asAddr (.pointer (some ⟨w.heap.size, 0, none⟩))) : Sem Value).run Tryd.prog w'' = .ok u w'' ∧ ToP w (toldC loose L key rank k).1 (toldC loose L key rank k).2 (.tuple #[u, .bool false]) w'' := by
    intro w3 hm3 hb3 ho
    have ht : toldC loose L key rank k = (zTd, false) := by unfold toldC; rw [if_neg (by rw [ho]; simp)]
    rw [ht, build_ok zTd_b]
    refine stS (old := tdCells zTd nilS nilS) (cs := tdCells zTd nilS nilS) rfl rfl iTd rfl (td_one _ _ _ _ _ _ _) hb3 fun w6 hb6 hm6 hz6 => ?_
    exact rsCell (R := fun u w'' => ToP w zTd false (.tuple #[u, .bool false]) w'') (cs := tdCells zTd nilS nilS) rfl Tryd.underlying57 rfl iTd hb6 ⟨_, rfl, TdAt.z _ _, hm3.then hm6 fun i hi z => by omega⟩
  have non : partsC L key rank = [] → overC loose L key rank k = false := fun q => overC_none (by unfold partC nthC; rw [q]; split <;> simp)
  rcases hof with ⟨hg, rfl⟩ | ⟨e, he, rfl, rfl⟩
  · rw [extract_ok (v := .pointer none) rfl, extract_ok (v := .int .i64 0) rfl, extract_ok (v := .bool false) rfl]
    simp only [↓VG_u, ↓UG_u, ↓MG_u, ↓NG_u, ↓PG_u, ↓BG_u, ↓CG_u, ↓IG_u, ↓VGtt, ↓VGtf, ↓VGft, ↓VGff, ↓UGtt, ↓UGtf, ↓UGft, ↓UGff, ↓MGtt, ↓MGtf, ↓MGft, ↓MGff, ↓NGtt, ↓NGtf, ↓NGft, ↓NGff, ↓PGtt, ↓PGtf, ↓PGft, ↓PGff, ↓BGtt, ↓BGtf, ↓BGft, ↓BGff, ↓CGtt, ↓CGtf, ↓CGft, ↓CGff, ↓IGtt, ↓IGtf, ↓IGft, ↓IGff, ↓PKt, ↓PKf, ↓CDt, ↓CDf, ↓NOTt, ↓NOTf, ↓NK_ptr]
    exact no hm02 hb12 (non (h.inv.none hg _))
  · rw [extract_ok (v := .pointer (some ⟨e.ro, 0, none⟩)) rfl, extract_ok (v := .int .i64 (numI e.g rank)) rfl, extract_ok (v := .bool (decide (rank ∈ e.g))) rfl]
    have hr := h.ro e he
    by_cases hx : rank ∈ e.g
    case neg =>
      rw [decide_eq_false hx]
      simp only [↓VG_u, ↓UG_u, ↓MG_u, ↓NG_u, ↓PG_u, ↓BG_u, ↓CG_u, ↓IG_u, ↓VGtt, ↓VGtf, ↓VGft, ↓VGff, ↓UGtt, ↓UGtf, ↓UGft, ↓UGff, ↓MGtt, ↓MGtf, ↓MGft, ↓MGff, ↓NGtt, ↓NGtf, ↓NGft, ↓NGff, ↓PGtt, ↓PGtf, ↓PGft, ↓PGff, ↓BGtt, ↓BGtf, ↓BGft, ↓BGff, ↓CGtt, ↓CGtf, ↓CGft, ↓CGff, ↓IGtt, ↓IGtf, ↓IGft, ↓IGff, ↓PKt, ↓PKf, ↓CDt, ↓CDf, ↓NOTt, ↓NOTf, ↓NK_ptr]
      exact no hm02 hb12 (non (h.inv.other hr.grp hx))
    rw [decide_eq_true hx]
    have hix : e.g[e.g.idxOf rank]? = some rank := by
      rw [List.getElem?_eq_getElem (List.idxOf_lt_length_of_mem hx)]
      exact congrArg some (List.getElem_idxOf _)
    unfold numI
    rw [if_pos hx]
    try simp only [↓VG_u, ↓UG_u, ↓MG_u, ↓NG_u, ↓PG_u, ↓BG_u, ↓CG_u, ↓IG_u, ↓VGtt, ↓VGtf, ↓VGft, ↓VGff, ↓UGtt, ↓UGtf, ↓UGft, ↓UGff, ↓MGtt, ↓MGtf, ↓MGft, ↓MGff, ↓NGtt, ↓NGtf, ↓NGft, ↓NGff, ↓PGtt, ↓PGtf, ↓PGft, ↓PGff, ↓BGtt, ↓BGtf, ↓BGft, ↓BGff, ↓CGtt, ↓CGtf, ↓CGft, ↓CGff, ↓IGtt, ↓IGtf, ↓IGft, ↓IGff, ↓PKt, ↓PKf, ↓CDt, ↓CDf, ↓NOTt, ↓NOTf, ↓NK_ptr]
    have h64 := h.len64 e he
    refine CK_st Tryd.func57 rfl rfl (over_ok (h.calm hm02) he (by omega) hix k) ?_
    rintro _ w3 ⟨rfl, hm3⟩
    have hm03 := hm02.trans hm3
    have hb13 := hm3.blk hb12 id
    cases ho : overC loose L e.key rank k with
    | false =>
      try simp only [↓VG_u, ↓UG_u, ↓MG_u, ↓NG_u, ↓PG_u, ↓BG_u, ↓CG_u, ↓IG_u, ↓VGtt, ↓VGtf, ↓VGft, ↓VGff, ↓UGtt, ↓UGtf, ↓UGft, ↓UGff, ↓MGtt, ↓MGtf, ↓MGft, ↓MGff, ↓NGtt, ↓NGtf, ↓NGft, ↓NGff, ↓PGtt, ↓PGtf, ↓PGft, ↓PGff, ↓BGtt, ↓BGtf, ↓BGft, ↓BGff, ↓CGtt, ↓CGtf, ↓CGft, ↓CGff, ↓IGtt, ↓IGtf, ↓IGft, ↓IGff, ↓PKt, ↓PKf, ↓CDt, ↓CDf, ↓NOTt, ↓NOTf, ↓NK_ptr]
      exact no hm03 hb13 ho
    | true =>
      try simp only [↓VG_u, ↓UG_u, ↓MG_u, ↓NG_u, ↓PG_u, ↓BG_u, ↓CG_u, ↓IG_u, ↓VGtt, ↓VGtf, ↓VGft, ↓VGff, ↓UGtt, ↓UGtf, ↓UGft, ↓UGff, ↓MGtt, ↓MGtf, ↓MGft, ↓MGff, ↓NGtt, ↓NGtf, ↓NGft, ↓NGff, ↓PGtt, ↓PGtf, ↓PGft, ↓PGff, ↓BGtt, ↓BGtf, ↓BGft, ↓BGff, ↓CGtt, ↓CGtf, ↓CGft, ↓CGff, ↓IGtt, ↓IGtf, ↓IGft, ↓IGff, ↓PKt, ↓PKf, ↓CDt, ↓CDf, ↓NOTt, ↓NOTf, ↓NK_ptr]
      refine CK_st Tryd.func58 rfl rfl (part_ok (hr.calm hm03) hix k) ?_
      rintro _ w4 ⟨rfl, hm4⟩
      obtain ⟨own, hp⟩ := overC_own ho
      rw [hp]
      simp only [Option.getD_some, Option.isSome_some]
      rw [extract_ok (v := own.v) rfl, extract_ok (v := .bool true) rfl]
      refine lcl_k (cs := own.enc.toArray) zPt_z _ iPt rfl (Pt.enc_one _) fun w5 hb5 hm5 hz5 => ?_
      have hm05 := (hm03.trans hm4).trans hm5
      have hb15 := hm5.blk (hm4.blk hb13 id) id
      have ht : toldC loose L e.key rank k = (tellC L e.key rank k own, true) := by unfold toldC; rw [if_pos ho, hp]
      rw [ht]
      obtain ⟨g', hg', _, hmay⟩ := h.inv.own hp
      have hgr := hr.grp
      rw [hg'] at hgr
      obtain rfl : g' = e.g := Option.some.inj hgr
      have hmg := h.inv.grp hr.grp
      obtain ⟨hg0, _, hnd⟩ := mayG_iff.1 hmg
      obtain ⟨_, hk0⟩ := partC_mem hp
      have hk1 : k < (partsC L e.key rank).length := by
        have hp' := hp
        unfold partC nthC at hp'
        rw [if_pos hk0] at hp'
        have := (List.getElem?_eq_some_iff.1 hp').1
        omega
      have hpl := partsC_len L e.key rank
      have hkey : e.key.length ≤ 1000000 := by
        obtain ⟨b, hb, hbk, _⟩ := grpC_some hr.grp
        rw [← hbk]; exact hK b hb
      obtain ⟨_, _, k15, k21, _, _⟩ := mayPt_root hmay
      have hri := root_iff hnd hix hmay
      have hr5 := hr.calm hm05
      rw [tellC_eq L e.key rank k own hr.grp]
      have hq : own.kind = 15 ∨ own.kind = 16 ∨ own.kind = 17 ∨ own.kind = 18 ∨ own.kind = 19 ∨ own.kind = 20 ∨ own.kind = 21 := by omega
      rcases hq with q | q | q | q | q | q | q
      · rw [if_neg (by omega), if_neg (by omega), if_neg (by omega), if_neg (by omega), if_neg (by omega), if_neg (by omega)]
        exact told_R0 (a := ⟨e.ro, ((e.g.idxOf rank : Nat) : Int), k, own, rank⟩) Tryd.func73 rfl rfl (fun w' => by rw [q]; exact ixTl0 w') (fun w' hw => tl1_ok _ w') hm05 hb15 (Nat.le_refl _) hb5 rfl rfl rfl rfl rfl rfl
      · rw [if_pos q]
        exact told_R0 (a := ⟨e.ro, ((e.g.idxOf rank : Nat) : Int), k, own, rank⟩) Tryd.func74 rfl rfl (fun w' => by rw [q]; exact ixTl1 w') (fun w' hw => tl2_ok (a := ⟨e.ro, ((e.g.idxOf rank : Nat) : Int), k, own, rank⟩) (hr5.calm hw) rfl hmay) hm05 hb15 (Nat.le_refl _) hb5 rfl rfl rfl rfl rfl rfl
      · rw [if_neg (by omega), if_pos q]
        have hc := fun w' (hw : Mod none_ w5 w') => tl3_ok (a := ⟨e.ro, ((e.g.idxOf rank : Nat) : Int), k, own, rank⟩) (hr5.calm hw) rfl (by omega) hg0
        have ec : (if ((e.g.idxOf rank : Nat) : Int) = own.root then ({ zTd with val := redC own.op (valsC L e.key e.g k) } : Td) else zTd) = if e.g.getD own.root.toNat 0 = rank then { zTd with val := redC own.op (valsC L e.key e.g k) } else zTd := by
          by_cases z : ((e.g.idxOf rank : Nat) : Int) = own.root
          · rw [if_pos z, if_pos (hri.1 z)]
          · rw [if_neg z, if_neg fun y => z (hri.2 y)]
        rw [← ec]
        exact told_R0 (a := ⟨e.ro, ((e.g.idxOf rank : Nat) : Int), k, own, rank⟩) Tryd.func75 rfl rfl (fun w' => by rw [q]; exact ixTl2 w') hc hm05 hb15 (Nat.le_refl _) hb5 rfl rfl rfl rfl rfl rfl
      · rw [if_neg (by omega), if_neg (by omega), if_pos q]
        exact told_R0 (a := ⟨e.ro, ((e.g.idxOf rank : Nat) : Int), k, own, rank⟩) Tryd.func77 rfl rfl (fun w' => by rw [q]; exact ixTl3 w') (fun w' hw => tl4_ok (a := ⟨e.ro, ((e.g.idxOf rank : Nat) : Int), k, own, rank⟩) (hr5.calm hw) rfl (by omega) hg0) hm05 hb15 (Nat.le_refl _) hb5 rfl rfl rfl rfl rfl rfl
      · rw [if_neg (by omega), if_neg (by omega), if_neg (by omega), if_pos q]
        have hc := fun w' (hw : Mod none_ w5 w') => tl5_ok (a := ⟨e.ro, ((e.g.idxOf rank : Nat) : Int), k, own, rank⟩) (hr5.calm hw) rfl (by omega)
        have ec : (if ((e.g.idxOf rank : Nat) : Int) = own.root then ({ zTd with row := valsC L e.key e.g k } : Td) else zTd) = if e.g.getD own.root.toNat 0 = rank then { zTd with row := valsC L e.key e.g k } else zTd := by
          by_cases z : ((e.g.idxOf rank : Nat) : Int) = own.root
          · rw [if_pos z, if_pos (hri.1 z)]
          · rw [if_neg z, if_neg fun y => z (hri.2 y)]
        rw [← ec]
        exact told_R0 (a := ⟨e.ro, ((e.g.idxOf rank : Nat) : Int), k, own, rank⟩) Tryd.func78 rfl rfl (fun w' => by rw [q]; exact ixTl4 w') hc hm05 hb15 (Nat.le_refl _) hb5 rfl rfl rfl rfl rfl rfl
      · rw [if_neg (by omega), if_neg (by omega), if_neg (by omega), if_neg (by omega), if_pos q]
        exact told_R0 (a := ⟨e.ro, ((e.g.idxOf rank : Nat) : Int), k, own, rank⟩) Tryd.func80 rfl rfl (fun w' => by rw [q]; exact ixTl5 w') (fun w' hw => tl6_ok (a := ⟨e.ro, ((e.g.idxOf rank : Nat) : Int), k, own, rank⟩) (hgl.calm (hm05.trans hw)) (hr5.calm hw) rfl hmg (by omega) hkey hk0 (by show k ≤ _; omega)) hm05 hb15 (Nat.le_refl _) hb5 rfl rfl rfl rfl rfl rfl
      · rw [if_neg (by omega), if_neg (by omega), if_neg (by omega), if_neg (by omega), if_neg (by omega), if_pos q]
        refine told_R0 (a := ⟨e.ro, ((e.g.idxOf rank : Nat) : Int), k, own, rank⟩) Tryd.func82 rfl rfl (fun w' => by rw [q]; exact ixTl6 w') (fun w' hw => asplit_ok (a := ⟨e.ro, ((e.g.idxOf rank : Nat) : Int), k, own, rank⟩) (hgl.calm (hm05.trans hw)) (hr5.calm hw) hmg (by omega) hkey hk0 (by show k ≤ _; omega) (fun x hx' => ?_) rfl) hm05 hb15 (Nat.le_refl _) hb5 rfl rfl rfl rfl rfl rfl
        unfold askC at hx'
        obtain ⟨r, _, rfl⟩ := List.mem_map.1 hx'
        show -9223372036854775808 ≤ ((partC L e.key r k).getD zPt).color ∧ ((partC L e.key r k).getD zPt).color ≤ 9223372036854775807
        cases hpr : partC L e.key r k with
        | none => exact ⟨by decide, by decide⟩
        | some q' =>
          obtain ⟨b, hb, _, _, rfl⟩ := partsC_mem (partC_mem hpr).1
          exact hC b hb
end
end Go.Proofs.YtandbmnhghmcgaaDoor.Col
set_option linter.unusedVariables false
set_option maxRecDepth 100000
namespace Go.Proofs.YtandbmnhghmcgaaDoor.XG
open Go Go.X
noncomputable def dispatcherlaw15_CollValues_b : Code := (Tryd.f8.body).getD .skip
noncomputable def dispatcherlaw15_CollValues_R0 : Code := cAt [1, 1, 1, 1, 1, 1] dispatcherlaw15_CollValues_b
noncomputable def dispatcherlaw15_CollValues_R1 : Code := cAt [1, 1, 1, 1, 1, 1, 0] dispatcherlaw15_CollValues_b
noncomputable def dispatcherlaw15_CollValues_R2 : Code := cAt [1, 1, 1, 1, 1, 1, 1] dispatcherlaw15_CollValues_b
noncomputable def dispatcherlaw15_CollValues_L3 : Code := cAt [1, 1, 1, 1, 1, 1, 1, 0, 1, 0, 0] dispatcherlaw15_CollValues_b
noncomputable def dispatcherlaw15_CollValues_R4 : Code := cAt [1, 1, 1, 1, 1, 1, 1, 1] dispatcherlaw15_CollValues_b
noncomputable def dispatcherlaw15_CollValues_R5 : Code := cAt [1, 1, 1, 1, 1, 1, 1, 0, 1, 0, 0, 1, 0, 0, 0] dispatcherlaw15_CollValues_b
noncomputable def dispatcherlaw15_CollValues_R6 : Code := cAt [1, 1, 1, 1, 1, 1, 1, 0, 1, 0, 0, 1, 0, 0, 1] dispatcherlaw15_CollValues_b
noncomputable def dispatcherlaw15_CollValues_R7 : Code := cAt [1, 1, 1, 1, 1, 1, 1, 0, 1, 0, 0, 1, 1] dispatcherlaw15_CollValues_b
noncomputable def dispatcherlaw15_CollValues_L8 : Code := cAt [1, 1, 1, 1, 1, 1, 1, 1, 0, 1, 0, 0] dispatcherlaw15_CollValues_b
noncomputable def dispatcherlaw15_CollValues_R9 : Code := cAt [1, 1, 1, 1, 1, 1, 1, 1, 1] dispatcherlaw15_CollValues_b
noncomputable def dispatcherlaw15_CollValues_R10 : Code := cAt [1, 1, 1, 1, 1, 1, 1, 0, 1, 0, 0, 1, 0, 0, 1, 0] dispatcherlaw15_CollValues_b
noncomputable def dispatcherlaw15_CollValues_R11 : Code := cAt [1, 1, 1, 1, 1, 1, 1, 0, 1, 0, 0, 1, 0, 0, 1, 1] dispatcherlaw15_CollValues_b
noncomputable def dispatcherlaw15_CollValues_R12 : Code := cAt [1, 1, 1, 1, 1, 1, 1, 1, 0, 1, 0, 0, 1, 1] dispatcherlaw15_CollValues_b
noncomputable def dispatcherlaw15_CollValues_R13 : Code := cAt [1, 1, 1, 1, 1, 1, 1, 1, 0, 1, 0, 0, 1, 0, 0, 1, 1, 1] dispatcherlaw15_CollValues_b
noncomputable def dispatcherlaw15_CollValues_R14 : Code := cAt [1, 1, 1, 1, 1, 1, 1, 0, 1, 0, 0, 1, 0, 0, 1, 1, 0] dispatcherlaw15_CollValues_b
noncomputable def dispatcherlaw15_CollValues_R15 : Code := cAt [1, 1, 1, 1, 1, 1, 1, 0, 1, 0, 0, 1, 0, 0, 1, 1, 1] dispatcherlaw15_CollValues_b
noncomputable def dispatcherlaw15_CollValues_R16 : Code := cAt [1, 1, 1, 1, 1, 1, 1, 1, 0, 1, 0, 0, 1, 0, 0, 1, 1, 1, 1, 1, 0, 0] dispatcherlaw15_CollValues_b
noncomputable def dispatcherlaw15_CollValues_R17 : Code := cAt [1, 1, 1, 1, 1, 1, 1, 1, 0, 1, 0, 0, 1, 0, 0, 1, 1, 1, 1, 1, 0, 1] dispatcherlaw15_CollValues_b
noncomputable def dispatcherlaw15_CollValues_R18 : Code := cAt [1, 1, 1, 1, 1, 1, 1, 1, 0, 1, 0, 0, 1, 0, 0, 1, 1, 1, 1, 1, 1] dispatcherlaw15_CollValues_b
noncomputable def dispatcherlaw15_CollValues_R19 : Code := cAt [1, 1, 1, 1, 1, 1, 1, 0, 1, 0, 0, 1, 0, 0, 1, 1, 1, 0] dispatcherlaw15_CollValues_b
noncomputable def dispatcherlaw15_CollValues_R20 : Code := cAt [1, 1, 1, 1, 1, 1, 1, 0, 1, 0, 0, 1, 0, 0, 1, 1, 1, 1] dispatcherlaw15_CollValues_b
noncomputable def dispatcherlaw15_CollValues_L21 : Code := cAt [1, 1, 1, 1, 1, 1, 1, 1, 0, 1, 0, 0, 1, 0, 0, 1, 1, 1, 1, 1, 1, 1, 1, 1, 0, 0] dispatcherlaw15_CollValues_b
noncomputable def dispatcherlaw15_CollValues_R22 : Code := cAt [1, 1, 1, 1, 1, 1, 1, 0, 1, 0, 0, 1, 0, 0, 1, 1, 1, 1, 0] dispatcherlaw15_CollValues_b
noncomputable def dispatcherlaw15_CollValues_R23 : Code := cAt [1, 1, 1, 1, 1, 1, 1, 0, 1, 0, 0, 1, 0, 0, 1, 1, 1, 1, 1] dispatcherlaw15_CollValues_b
noncomputable def dispatcherlaw15_CollValues_R24 : Code := cAt [1, 1, 1, 1, 1, 1, 1, 1, 0, 1, 0, 0, 1, 0, 0, 1, 1, 1, 1, 1, 1, 1, 1, 1, 0, 0, 1, 0, 0, 0] dispatcherlaw15_CollValues_b
noncomputable def dispatcherlaw15_CollValues_R25 : Code := cAt [1, 1, 1, 1, 1, 1, 1, 1, 0, 1, 0, 0, 1, 0, 0, 1, 1, 1, 1, 1, 1, 1, 1, 1, 0, 0, 1, 0, 0, 1] dispatcherlaw15_CollValues_b
noncomputable def dispatcherlaw15_CollValues_R26 : Code := cAt [1, 1, 1, 1, 1, 1, 1, 1, 0, 1, 0, 0, 1, 0, 0, 1, 1, 1, 1, 1, 1, 1, 1, 1, 0, 0, 1, 1] dispatcherlaw15_CollValues_b
noncomputable def dispatcherlaw15_CollValues_R0_F (z : At) (K : Exit → Sl → World → Prop) (ρ : Sl) (w : World) : Prop :=
  W z Tryd.prog 239 dispatcherlaw15_CollValues_R1 (seqK (sx z Tryd.prog 239 dispatcherlaw15_CollValues_R2 K) K) ρ w
theorem dispatcherlaw15_CollValues_R0_eq (z : At) (K : Exit → Sl → World → Prop) (ρ : Sl) (w : World) : sx z Tryd.prog 239 dispatcherlaw15_CollValues_R0 K ρ w = dispatcherlaw15_CollValues_R0_F z K ρ w := by kernel_rfl
noncomputable def dispatcherlaw15_CollValues_R1_ops : Array Oper := opsOf dispatcherlaw15_CollValues_R1
def dispatcherlaw15_CollValues_R1_Q (C : World → Prop) (K : Exit → Sl → World → Prop) (ρ : Sl) : Prop :=
  QK Tryd.prog C (do pure (Next.value (← Instr.indexAt 55 (ρ 0) (Value.int IntKind.i64 0)))) fun x47 => QK Tryd.prog C (do pure (Next.value (← Instr.loadAt 2 x47))) fun x48 => QK Tryd.prog C (do pure (Next.value (← Instr.indexAt 55 (ρ 0) (Value.int IntKind.i64 0)))) fun x50 => QK Tryd.prog C (do pure (Next.value (← Instr.loadAt 2 x50))) fun x51 => ∀ w', C w' → K Exit.normal (up (up (up (up (up (up (up (up (up ρ 46 (ρ 0)) 47 x47) 48 x48) 49 (ρ 0)) 50 x50) 51 x51) 10 (Value.int IntKind.i64 0)) 11 x48) 12 x51) w'
theorem dispatcherlaw15_CollValues_R1_quiet {D : List Deferred} (C : World → Prop) {K : Exit → Sl → World → Prop} {ρ : Sl} {w : World} (hC : C { w with drawn := w.drawn + 1 }) (h : dispatcherlaw15_CollValues_R1_Q C K ρ) : W ⟨none, D⟩ Tryd.prog 239 dispatcherlaw15_CollValues_R1 K ρ w := by
  have e : dispatcherlaw15_CollValues_R1 = .region (idOf dispatcherlaw15_CollValues_R1) dispatcherlaw15_CollValues_R1_ops true := by kernel_rfl
  have q : sxq Tryd.prog C dispatcherlaw15_CollValues_R1_ops (fun ρ' => ∀ w', C w' → K .normal ρ' w') dispatcherlaw15_CollValues_R1_ops.toList ρ = dispatcherlaw15_CollValues_R1_Q C K ρ := by kernel_rfl
  rw [e]
  exact W_quiet C (by kernel_rfl) (by kernel_rfl) (by kernel_rfl) hC (Eq.mpr q h)
noncomputable def dispatcherlaw15_CollValues_R2_F (z : At) (K : Exit → Sl → World → Prop) (ρ : Sl) (w : World) : Prop :=
  W z Tryd.prog 239 (Code.loop dispatcherlaw15_CollValues_L3) (blkK 0 (seqK (sx z Tryd.prog 239 dispatcherlaw15_CollValues_R4 K) K)) (up ρ 13 (Value.int .i64 0)) w
theorem dispatcherlaw15_CollValues_R2_eq (z : At) (K : Exit → Sl → World → Prop) (ρ : Sl) (w : World) : sx z Tryd.prog 239 dispatcherlaw15_CollValues_R2 K ρ w = dispatcherlaw15_CollValues_R2_F z K ρ w := by kernel_rfl
noncomputable def dispatcherlaw15_CollValues_L3_F (z : At) (K : Exit → Sl → World → Prop) (ρ : Sl) (w : World) : Prop :=
  IK Tryd.prog .len #[55] 3 [false] [(ρ 0)] w fun x54 w => BK Tryd.prog .lss 3 (.tmp 52) (.tmp 54) (ρ 13) x54 w fun x55 w => CondK x55 (W z Tryd.prog 239 dispatcherlaw15_CollValues_R5 (seqK (sx z Tryd.prog 239 dispatcherlaw15_CollValues_R6 (blkK 1 (seqK (sx z Tryd.prog 239 dispatcherlaw15_CollValues_R7 K) K))) (blkK 1 (seqK (sx z Tryd.prog 239 dispatcherlaw15_CollValues_R7 K) K))) (up (up (up (up ρ 52 (ρ 13)) 53 (ρ 0)) 54 x54) 55 x55) w) (K (.exit 0) (up (up (up (up ρ 52 (ρ 13)) 53 (ρ 0)) 54 x54) 55 x55) w)
theorem dispatcherlaw15_CollValues_L3_eq (z : At) (K : Exit → Sl → World → Prop) (ρ : Sl) (w : World) : sx z Tryd.prog 239 dispatcherlaw15_CollValues_L3 K ρ w = dispatcherlaw15_CollValues_L3_F z K ρ w := by kernel_rfl
theorem dispatcherlaw15_CollValues_L3_ok : dstOk 239 dispatcherlaw15_CollValues_L3 = true := by kernel_rfl
noncomputable def dispatcherlaw15_CollValues_R4_F (z : At) (K : Exit → Sl → World → Prop) (ρ : Sl) (w : World) : Prop :=
  W z Tryd.prog 239 (Code.loop dispatcherlaw15_CollValues_L8) (blkK 2 (seqK (sx z Tryd.prog 239 dispatcherlaw15_CollValues_R9 K) K)) (up ρ 14 (Value.int .i64 0)) w
theorem dispatcherlaw15_CollValues_R4_eq (z : At) (K : Exit → Sl → World → Prop) (ρ : Sl) (w : World) : sx z Tryd.prog 239 dispatcherlaw15_CollValues_R4 K ρ w = dispatcherlaw15_CollValues_R4_F z K ρ w := by kernel_rfl
noncomputable def dispatcherlaw15_CollValues_R5_ops : Array Oper := opsOf dispatcherlaw15_CollValues_R5
def dispatcherlaw15_CollValues_R5_Q (C : World → Prop) (K : Exit → Sl → World → Prop) (ρ : Sl) : Prop :=
  QK Tryd.prog C (do pure (Next.value (← Instr.indexAt 55 (ρ 0) (ρ 13)))) fun x61 => QK Tryd.prog C (do pure (Next.value (← Instr.loadAt 2 x61))) fun x62 => QK Tryd.prog C (do pure (Next.value (← (do eqGuard BinOp.add 2 (Operand.tmp 58) (Operand.tmp 62) (ρ 10) x62; binOp BinOp.add 2 (ρ 10) x62)))) fun x63 => QK Tryd.prog C (do pure (Next.value (← Instr.indexAt 55 (ρ 0) (ρ 13)))) fun x67 => QK Tryd.prog C (do pure (Next.value (← Instr.loadAt 2 x67))) fun x68 => QK Tryd.prog C (builtin Builtin.max #[2, 2] 2 [false, false].toArray [(ρ 11), x68].toArray) fun x69 => QK Tryd.prog C (do pure (Next.value (← Instr.indexAt 55 (ρ 0) (ρ 13)))) fun x73 => QK Tryd.prog C (do pure (Next.value (← Instr.loadAt 2 x73))) fun x74 => QK Tryd.prog C (builtin Builtin.min #[2, 2] 2 [false, false].toArray [(ρ 12), x74].toArray) fun x75 => ∀ w', C w' → K Exit.normal (up (up (up (up (up (up (up (up (up (up (up (up (up (up (up (up (up (up (up (up (up ρ 58 (ρ 10)) 59 (ρ 0)) 60 (ρ 13)) 61 x61) 62 x62) 63 x63) 64 (ρ 11)) 65 (ρ 0)) 66 (ρ 13)) 67 x67) 68 x68) 69 x69) 70 (ρ 12)) 71 (ρ 0)) 72 (ρ 13)) 73 x73) 74 x74) 75 x75) 10 x63) 11 x69) 12 x75) w'
theorem dispatcherlaw15_CollValues_R5_quiet {D : List Deferred} (C : World → Prop) {K : Exit → Sl → World → Prop} {ρ : Sl} {w : World} (hC : C { w with drawn := w.drawn + 1 }) (h : dispatcherlaw15_CollValues_R5_Q C K ρ) : W ⟨none, D⟩ Tryd.prog 239 dispatcherlaw15_CollValues_R5 K ρ w := by
  have e : dispatcherlaw15_CollValues_R5 = .region (idOf dispatcherlaw15_CollValues_R5) dispatcherlaw15_CollValues_R5_ops true := by kernel_rfl
  have q : sxq Tryd.prog C dispatcherlaw15_CollValues_R5_ops (fun ρ' => ∀ w', C w' → K .normal ρ' w') dispatcherlaw15_CollValues_R5_ops.toList ρ = dispatcherlaw15_CollValues_R5_Q C K ρ := by kernel_rfl
  rw [e]
  exact W_quiet C (by kernel_rfl) (by kernel_rfl) (by kernel_rfl) hC (Eq.mpr q h)
noncomputable def dispatcherlaw15_CollValues_R6_F (z : At) (K : Exit → Sl → World → Prop) (ρ : Sl) (w : World) : Prop :=
  W z Tryd.prog 239 dispatcherlaw15_CollValues_R10 (seqK (sx z Tryd.prog 239 dispatcherlaw15_CollValues_R11 K) K) ρ w
theorem dispatcherlaw15_CollValues_R6_eq (z : At) (K : Exit → Sl → World → Prop) (ρ : Sl) (w : World) : sx z Tryd.prog 239 dispatcherlaw15_CollValues_R6 K ρ w = dispatcherlaw15_CollValues_R6_F z K ρ w := by kernel_rfl
noncomputable def dispatcherlaw15_CollValues_R7_F (z : At) (K : Exit → Sl → World → Prop) (ρ : Sl) (w : World) : Prop :=
  BK Tryd.prog .add 3 (.tmp 56) (.const (Value.int .i64 1)) (ρ 13) (Value.int .i64 1) w fun x57 w => K .normal (up (up (up ρ 56 (ρ 13)) 57 x57) 13 x57) w
theorem dispatcherlaw15_CollValues_R7_eq (z : At) (K : Exit → Sl → World → Prop) (ρ : Sl) (w : World) : sx z Tryd.prog 239 dispatcherlaw15_CollValues_R7 K ρ w = dispatcherlaw15_CollValues_R7_F z K ρ w := by kernel_rfl
noncomputable def dispatcherlaw15_CollValues_L8_F (z : At) (K : Exit → Sl → World → Prop) (ρ : Sl) (w : World) : Prop :=
  IK Tryd.prog .len #[55] 3 [false] [(ρ 0)] w fun x126 w => BK Tryd.prog .lss 3 (.tmp 124) (.tmp 126) (ρ 14) x126 w fun x127 w => CondK x127 (CK Tryd.prog (Value.func (Fn.func 27) #[] #[]) [(ρ 9), (Value.string { data := #[] }), (ρ 14), (Value.int .i64 0)] w fun x133 w => VK Tryd.prog (Instr.extract x133 0) w fun x134 w => VK Tryd.prog (Instr.extract x133 1) w fun x135 w => VK Tryd.prog (Instr.alloc 57 true (.tuple #[])) w fun x15 w => UK Tryd.prog (Instr.storeAt 57 x15 x134) w fun _ w => CK Tryd.prog (Value.func (Fn.func 27) #[] #[]) [(ρ 9), (Value.string { data := #[] }), (ρ 14), (Value.int .i64 1)] w fun x139 w => VK Tryd.prog (Instr.extract x139 0) w fun x140 w => VK Tryd.prog (Instr.extract x139 1) w fun x141 w => VK Tryd.prog (Instr.alloc 57 true (.tuple #[])) w fun x17 w => UK Tryd.prog (Instr.storeAt 57 x17 x140) w fun _ w => CK Tryd.prog (Value.func (Fn.func 27) #[] #[]) [(ρ 9), (Value.string { data := #[] }), (ρ 14), (Value.int .i64 2)] w fun x145 w => VK Tryd.prog (Instr.extract x145 0) w fun x146 w => VK Tryd.prog (Instr.extract x145 1) w fun x147 w => VK Tryd.prog (Instr.alloc 57 true (.tuple #[])) w fun x19 w => UK Tryd.prog (Instr.storeAt 57 x19 x146) w fun _ w => sx z Tryd.prog 239 dispatcherlaw15_CollValues_R13 (blkK 3 (seqK (sx z Tryd.prog 239 dispatcherlaw15_CollValues_R12 K) K)) (up (up (up (up (up (up (up (up (up (up (up (up (up (up (up (up (up (up (up (up (up (up (up (up (up (up (up (up ρ 124 (ρ 14)) 125 (ρ 0)) 126 x126) 127 x127) 131 (ρ 9)) 132 (ρ 14)) 133 x133) 130 x133) 134 x134) 135 x135) 15 x15) 16 x135) 137 (ρ 9)) 138 (ρ 14)) 139 x139) 136 x139) 140 x140) 141 x141) 17 x17) 18 x141) 143 (ρ 9)) 144 (ρ 14)) 145 x145) 142 x145) 146 x146) 147 x147) 19 x19) 20 x147) w) (K (.exit 2) (up (up (up (up ρ 124 (ρ 14)) 125 (ρ 0)) 126 x126) 127 x127) w)
theorem dispatcherlaw15_CollValues_L8_eq (z : At) (K : Exit → Sl → World → Prop) (ρ : Sl) (w : World) : sx z Tryd.prog 239 dispatcherlaw15_CollValues_L8 K ρ w = dispatcherlaw15_CollValues_L8_F z K ρ w := by kernel_rfl
theorem dispatcherlaw15_CollValues_L8_ok : dstOk 239 dispatcherlaw15_CollValues_L8 = true := by kernel_rfl
noncomputable def dispatcherlaw15_CollValues_R9_F (z : At) (K : Exit → Sl → World → Prop) (ρ : Sl) (w : World) : Prop :=
  K .ret (up ρ 6 (Value.bool true)) w
theorem dispatcherlaw15_CollValues_R9_eq (z : At) (K : Exit → Sl → World → Prop) (ρ : Sl) (w : World) : sx z Tryd.prog 239 dispatcherlaw15_CollValues_R9 K ρ w = dispatcherlaw15_CollValues_R9_F z K ρ w := by kernel_rfl
noncomputable def dispatcherlaw15_CollValues_R10_ops : Array Oper := opsOf dispatcherlaw15_CollValues_R10
def dispatcherlaw15_CollValues_R10_T (K : Exit → Sl → World → Prop) (ρ : Sl) (w : World) : Prop :=
  let C : World → Prop := fun w' => w' = w; QK Tryd.prog C (do pure (Next.value (← Instr.loadAt 32 (ρ 8)))) fun x77_1 => QK Tryd.prog C (do pure (Next.value (← Instr.indexAt 55 (ρ 0) (ρ 13)))) fun x81_1 => QK Tryd.prog C (do pure (Next.value (← Instr.loadAt 2 x81_1))) fun x82_1 => QK Tryd.prog C (do pure (Next.value (← Instr.build 34 [(0, (Value.int IntKind.u8 18)), (3, x82_1)].toArray))) fun x83_1 => CK Tryd.prog (Value.func (Fn.func 12) #[] #[]) [(ρ 9), x77_1, (ρ 13), x83_1] w fun x84_1 w => K Exit.normal (up (up (up (up (up (up (up (up (up ρ 76 (ρ 9)) 77 x77_1) 78 (ρ 13)) 79 (ρ 0)) 80 (ρ 13)) 81 x81_1) 82 x82_1) 83 x83_1) 84 x84_1) w
theorem dispatcherlaw15_CollValues_R10_tail {D : List Deferred} {K : Exit → Sl → World → Prop} {ρ : Sl} {w : World} (h : dispatcherlaw15_CollValues_R10_T K ρ { w with drawn := w.drawn + 1 }) : W ⟨none, D⟩ Tryd.prog 239 dispatcherlaw15_CollValues_R10 K ρ w := by
  have e : dispatcherlaw15_CollValues_R10 = .region (idOf dispatcherlaw15_CollValues_R10) dispatcherlaw15_CollValues_R10_ops true := by kernel_rfl
  have q : sxq Tryd.prog (fun w' => w' = { w with drawn := w.drawn + 1 }) dispatcherlaw15_CollValues_R10_ops (fun ρ' => sxL Tryd.prog dispatcherlaw15_CollValues_R10_ops (K .normal) (dispatcherlaw15_CollValues_R10_ops.toList.drop 8) ρ' { w with drawn := w.drawn + 1 }) (dispatcherlaw15_CollValues_R10_ops.toList.take 8) ρ = dispatcherlaw15_CollValues_R10_T K ρ { w with drawn := w.drawn + 1 } := by kernel_rfl
  rw [e]
  exact W_tail 8 (by kernel_rfl) (by kernel_rfl) (by kernel_rfl) (by kernel_rfl) (Eq.mpr q h)
noncomputable def dispatcherlaw15_CollValues_R11_F (z : At) (K : Exit → Sl → World → Prop) (ρ : Sl) (w : World) : Prop :=
  W z Tryd.prog 239 dispatcherlaw15_CollValues_R14 (seqK (sx z Tryd.prog 239 dispatcherlaw15_CollValues_R15 K) K) ρ w
theorem dispatcherlaw15_CollValues_R11_eq (z : At) (K : Exit → Sl → World → Prop) (ρ : Sl) (w : World) : sx z Tryd.prog 239 dispatcherlaw15_CollValues_R11 K ρ w = dispatcherlaw15_CollValues_R11_F z K ρ w := by kernel_rfl
noncomputable def dispatcherlaw15_CollValues_R12_F (z : At) (K : Exit → Sl → World → Prop) (ρ : Sl) (w : World) : Prop :=
  BK Tryd.prog .add 3 (.tmp 128) (.const (Value.int .i64 1)) (ρ 14) (Value.int .i64 1) w fun x129 w => K .normal (up (up (up ρ 128 (ρ 14)) 129 x129) 14 x129) w
theorem dispatcherlaw15_CollValues_R12_eq (z : At) (K : Exit → Sl → World → Prop) (ρ : Sl) (w : World) : sx z Tryd.prog 239 dispatcherlaw15_CollValues_R12 K ρ w = dispatcherlaw15_CollValues_R12_F z K ρ w := by kernel_rfl
noncomputable def dispatcherlaw15_CollValues_R13_F (z : At) (K : Exit → Sl → World → Prop) (ρ : Sl) (w : World) : Prop :=
  CK Tryd.prog (Value.func (Fn.func 27) #[] #[]) [(ρ 9), (Value.string { data := #[] }), (ρ 14), (Value.int .i64 3)] w fun x151 w => VK Tryd.prog (Instr.extract x151 0) w fun x152 w => VK Tryd.prog (Instr.extract x151 1) w fun x153 w => VK Tryd.prog (Instr.alloc 57 true (.tuple #[])) w fun x21 w => UK Tryd.prog (Instr.storeAt 57 x21 x152) w fun _ w => CK Tryd.prog (Value.func (Fn.func 27) #[] #[]) [(ρ 9), (Value.string { data := #[] }), (ρ 14), (Value.int .i64 4)] w fun x157 w => VK Tryd.prog (Instr.extract x157 0) w fun x158 w => VK Tryd.prog (Instr.extract x157 1) w fun x159 w => VK Tryd.prog (Instr.alloc 57 true (.tuple #[])) w fun x23 w => UK Tryd.prog (Instr.storeAt 57 x23 x158) w fun _ w => W z Tryd.prog 239 dispatcherlaw15_CollValues_R16 (seqK (sx z Tryd.prog 239 dispatcherlaw15_CollValues_R17 (seqK (sx z Tryd.prog 239 dispatcherlaw15_CollValues_R18 K) K)) (seqK (sx z Tryd.prog 239 dispatcherlaw15_CollValues_R18 K) K)) (up (up (up (up (up (up (up (up (up (up (up (up (up (up (up (up ρ 149 (ρ 9)) 150 (ρ 14)) 151 x151) 148 x151) 152 x152) 153 x153) 21 x21) 22 x153) 155 (ρ 9)) 156 (ρ 14)) 157 x157) 154 x157) 158 x158) 159 x159) 23 x23) 24 x159) w
theorem dispatcherlaw15_CollValues_R13_eq (z : At) (K : Exit → Sl → World → Prop) (ρ : Sl) (w : World) : sx z Tryd.prog 239 dispatcherlaw15_CollValues_R13 K ρ w = dispatcherlaw15_CollValues_R13_F z K ρ w := by kernel_rfl
noncomputable def dispatcherlaw15_CollValues_R14_ops : Array Oper := opsOf dispatcherlaw15_CollValues_R14
def dispatcherlaw15_CollValues_R14_T (K : Exit → Sl → World → Prop) (ρ : Sl) (w : World) : Prop :=
  let C : World → Prop := fun w' => w' = w; QK Tryd.prog C (do pure (Next.value (← Instr.loadAt 32 (ρ 8)))) fun x86_1 => QK Tryd.prog C (do pure (Next.value (← Instr.indexAt 55 (ρ 0) (ρ 13)))) fun x91_1 => QK Tryd.prog C (do pure (Next.value (← Instr.loadAt 2 x91_1))) fun x92_1 => QK Tryd.prog C (do pure (Next.value (← Instr.build 34 [(0, (Value.int IntKind.u8 17)), (1, (ρ 7)), (2, (Value.int IntKind.u8 1)), (3, x92_1)].toArray))) fun x93_1 => CK Tryd.prog (Value.func (Fn.func 12) #[] #[]) [(ρ 9), x86_1, (ρ 13), x93_1] w fun x94_1 w => K Exit.normal (up (up (up (up (up (up (up (up (up (up ρ 85 (ρ 9)) 86 x86_1) 87 (ρ 13)) 88 (ρ 7)) 89 (ρ 0)) 90 (ρ 13)) 91 x91_1) 92 x92_1) 93 x93_1) 94 x94_1) w
theorem dispatcherlaw15_CollValues_R14_tail {D : List Deferred} {K : Exit → Sl → World → Prop} {ρ : Sl} {w : World} (h : dispatcherlaw15_CollValues_R14_T K ρ { w with drawn := w.drawn + 1 }) : W ⟨none, D⟩ Tryd.prog 239 dispatcherlaw15_CollValues_R14 K ρ w := by
  have e : dispatcherlaw15_CollValues_R14 = .region (idOf dispatcherlaw15_CollValues_R14) dispatcherlaw15_CollValues_R14_ops true := by kernel_rfl
  have q : sxq Tryd.prog (fun w' => w' = { w with drawn := w.drawn + 1 }) dispatcherlaw15_CollValues_R14_ops (fun ρ' => sxL Tryd.prog dispatcherlaw15_CollValues_R14_ops (K .normal) (dispatcherlaw15_CollValues_R14_ops.toList.drop 9) ρ' { w with drawn := w.drawn + 1 }) (dispatcherlaw15_CollValues_R14_ops.toList.take 9) ρ = dispatcherlaw15_CollValues_R14_T K ρ { w with drawn := w.drawn + 1 } := by kernel_rfl
  rw [e]
  exact W_tail 9 (by kernel_rfl) (by kernel_rfl) (by kernel_rfl) (by kernel_rfl) (Eq.mpr q h)
noncomputable def dispatcherlaw15_CollValues_R15_F (z : At) (K : Exit → Sl → World → Prop) (ρ : Sl) (w : World) : Prop :=
  W z Tryd.prog 239 dispatcherlaw15_CollValues_R19 (seqK (sx z Tryd.prog 239 dispatcherlaw15_CollValues_R20 K) K) ρ w
theorem dispatcherlaw15_CollValues_R15_eq (z : At) (K : Exit → Sl → World → Prop) (ρ : Sl) (w : World) : sx z Tryd.prog 239 dispatcherlaw15_CollValues_R15 K ρ w = dispatcherlaw15_CollValues_R15_F z K ρ w := by kernel_rfl
noncomputable def dispatcherlaw15_CollValues_R16_ops : Array Oper := opsOf dispatcherlaw15_CollValues_R16
def dispatcherlaw15_CollValues_R16_Q (C : World → Prop) (K : Exit → Sl → World → Prop) (ρ : Sl) : Prop :=
  QK Tryd.prog C (do pure (Next.value (← Op.unary UnOp.not (ρ 16)))) fun x161 => QG Tryd.prog C x161 false  (pure (Next.value (ρ 18))) fun x163 => QG Tryd.prog C x161 false  (do pure (Next.value (← Op.unary UnOp.not x163))) fun x164 => QK Tryd.prog C (do pure (Next.value (if ← asBool x161 then (Value.bool true) else x164))) fun x165 => QG Tryd.prog C x165 false  (pure (Next.value (ρ 20))) fun x167 => QG Tryd.prog C x165 false  (do pure (Next.value (← Op.unary UnOp.not x167))) fun x168 => QK Tryd.prog C (do pure (Next.value (if ← asBool x165 then (Value.bool true) else x168))) fun x169 => QG Tryd.prog C x169 false  (pure (Next.value (ρ 22))) fun x171 => QG Tryd.prog C x169 false  (do pure (Next.value (← Op.unary UnOp.not x171))) fun x172 => QK Tryd.prog C (do pure (Next.value (if ← asBool x169 then (Value.bool true) else x172))) fun x173 => QG Tryd.prog C x173 false  (pure (Next.value (ρ 24))) fun x175 => QG Tryd.prog C x173 false  (do pure (Next.value (← Op.unary UnOp.not x175))) fun x176 => QK Tryd.prog C (do pure (Next.value (if ← asBool x173 then (Value.bool true) else x176))) fun x177 => QG Tryd.prog C x177 false  (do pure (Next.value (← Instr.fieldAt 57 (ρ 15) 0))) fun x179 => QG Tryd.prog C x177 false  (do pure (Next.value (← Instr.loadAt 2 x179))) fun x180 => QG Tryd.prog C x177 false  (pure (Next.value (ρ 10))) fun x181 => QG Tryd.prog C x177 false  (do pure (Next.value (← (do eqGuard BinOp.neq 2 (Operand.tmp 180) (Operand.tmp 181) x180 x181; binOp BinOp.neq 2 x180 x181)))) fun x182 => QK Tryd.prog C (do pure (Next.value (if ← asBool x177 then (Value.bool true) else x182))) fun x183 => QG Tryd.prog C x183 false  (do pure (Next.value (← Instr.fieldAt 57 (ρ 19) 0))) fun x185 => QG Tryd.prog C x183 false  (do pure (Next.value (← Instr.loadAt 2 x185))) fun x186 => QG Tryd.prog C x183 false  (pure (Next.value (ρ 12))) fun x187 => QG Tryd.prog C x183 false  (do pure (Next.value (← (do eqGuard BinOp.neq 2 (Operand.tmp 186) (Operand.tmp 187) x186 x187; binOp BinOp.neq 2 x186 x187)))) fun x188 => QK Tryd.prog C (do pure (Next.value (if ← asBool x183 then (Value.bool true) else x188))) fun x189 => QG Tryd.prog C x189 false  (do pure (Next.value (← Instr.fieldAt 57 (ρ 21) 0))) fun x191 => QG Tryd.prog C x189 false  (do pure (Next.value (← Instr.loadAt 2 x191))) fun x192 => QG Tryd.prog C x189 false  (pure (Next.value (ρ 0))) fun x193 => QG Tryd.prog C x189 false  (pure (Next.value (ρ 7))) fun x194 => QG Tryd.prog C x189 false  (do pure (Next.value (← Instr.indexAt 55 x193 x194))) fun x195 => QG Tryd.prog C x189 false  (do pure (Next.value (← Instr.loadAt 2 x195))) fun x196 => QG Tryd.prog C x189 false  (do pure (Next.value (← (do eqGuard BinOp.neq 2 (Operand.tmp 192) (Operand.tmp 196) x192 x196; binOp BinOp.neq 2 x192 x196)))) fun x197 => QK Tryd.prog C (do pure (Next.value (if ← asBool x189 then (Value.bool true) else x197))) fun x198 => ∀ w', C w' → K Exit.normal (up (up (up (up (up (up (up (up (up (up (up (up (up (up (up (up (up (up (up (up (up (up (up (up (up (up (up (up (up (up (up (up (up (up (up (up (up (up (up ρ 160 (ρ 16)) 161 x161) 162 x161) 163 x163) 164 x164) 165 x165) 166 x165) 167 x167) 168 x168) 169 x169) 170 x169) 171 x171) 172 x172) 173 x173) 174 x173) 175 x175) 176 x176) 177 x177) 178 x177) 179 x179) 180 x180) 181 x181) 182 x182) 183 x183) 184 x183) 185 x185) 186 x186) 187 x187) 188 x188) 189 x189) 190 x189) 191 x191) 192 x192) 193 x193) 194 x194) 195 x195) 196 x196) 197 x197) 198 x198) w'
theorem dispatcherlaw15_CollValues_R16_quiet {D : List Deferred} (C : World → Prop) {K : Exit → Sl → World → Prop} {ρ : Sl} {w : World} (hC : C { w with drawn := w.drawn + 1 }) (h : dispatcherlaw15_CollValues_R16_Q C K ρ) : W ⟨none, D⟩ Tryd.prog 239 dispatcherlaw15_CollValues_R16 K ρ w := by
  have e : dispatcherlaw15_CollValues_R16 = .region (idOf dispatcherlaw15_CollValues_R16) dispatcherlaw15_CollValues_R16_ops true := by kernel_rfl
  have q : sxq Tryd.prog C dispatcherlaw15_CollValues_R16_ops (fun ρ' => ∀ w', C w' → K .normal ρ' w') dispatcherlaw15_CollValues_R16_ops.toList ρ = dispatcherlaw15_CollValues_R16_Q C K ρ := by kernel_rfl
  rw [e]
  exact W_quiet C (by kernel_rfl) (by kernel_rfl) (by kernel_rfl) hC (Eq.mpr q h)
noncomputable def dispatcherlaw15_CollValues_R17_F (z : At) (K : Exit → Sl → World → Prop) (ρ : Sl) (w : World) : Prop :=
  CondK (ρ 198) (K .ret (up ρ 6 (Value.bool false)) w) (K .normal ρ w)
theorem dispatcherlaw15_CollValues_R17_eq (z : At) (K : Exit → Sl → World → Prop) (ρ : Sl) (w : World) : sx z Tryd.prog 239 dispatcherlaw15_CollValues_R17 K ρ w = dispatcherlaw15_CollValues_R17_F z K ρ w := by kernel_rfl
noncomputable def dispatcherlaw15_CollValues_R18_F (z : At) (K : Exit → Sl → World → Prop) (ρ : Sl) (w : World) : Prop :=
  BK Tryd.prog .neq 3 (.tmp 199) (.tmp 200) (ρ 14) (ρ 7) w fun x201 w => CondK x201 (VK Tryd.prog (Instr.fieldAt 57 (ρ 17) 0) w fun x202 w => VK Tryd.prog (Instr.loadAt 2 x202) w fun x203 w => BK Tryd.prog .neq 2 (.tmp 203) (.const (Value.int .i64 0)) x203 (Value.int .i64 0) w fun x204 w => VG Tryd.prog x204 false (Instr.fieldAt 57 (ρ 23) 1) w fun x206 w => VG Tryd.prog x204 false (Instr.loadAt 55 x206) w fun x207 w => IG Tryd.prog x204 false .len #[55] 3 [false] [x207] w fun x208 w => BG Tryd.prog x204 false .neq 3 (.tmp 208) (.const (Value.int .i64 0)) x208 (Value.int .i64 0) w fun x209 w => PK Tryd.prog x204 (Value.bool true) x209 w fun x210 w => CondK x210 (K .ret (up (up (up (up (up (up (up (up (up (up (up (up (up ρ 199 (ρ 14)) 200 (ρ 7)) 201 x201) 202 x202) 203 x203) 204 x204) 205 x204) 206 x206) 207 x207) 208 x208) 209 x209) 210 x210) 6 (Value.bool false)) w) (K (.exit 3) (up (up (up (up (up (up (up (up (up (up (up (up ρ 199 (ρ 14)) 200 (ρ 7)) 201 x201) 202 x202) 203 x203) 204 x204) 205 x204) 206 x206) 207 x207) 208 x208) 209 x209) 210 x210) w)) (VK Tryd.prog (Instr.fieldAt 57 (ρ 17) 0) w fun x211 w => VK Tryd.prog (Instr.loadAt 2 x211) w fun x212 w => BK Tryd.prog .neq 2 (.tmp 212) (.tmp 213) x212 (ρ 11) w fun x214 w => VG Tryd.prog x214 false (Instr.fieldAt 57 (ρ 23) 1) w fun x216 w => VG Tryd.prog x214 false (Instr.loadAt 55 x216) w fun x217 w => IG Tryd.prog x214 false .len #[55] 3 [false] [x217] w fun x218 w => MG Tryd.prog x214 false (ρ 0) w fun x219 w => IG Tryd.prog x214 false .len #[55] 3 [false] [x219] w fun x220 w => BG Tryd.prog x214 false .neq 3 (.tmp 218) (.tmp 220) x218 x220 w fun x221 w => PK Tryd.prog x214 (Value.bool true) x221 w fun x222 w => CondK x222 (K .ret (up (up (up (up (up (up (up (up (up (up (up (up (up (up (up (up ρ 199 (ρ 14)) 200 (ρ 7)) 201 x201) 211 x211) 212 x212) 213 (ρ 11)) 214 x214) 215 x214) 216 x216) 217 x217) 218 x218) 219 x219) 220 x220) 221 x221) 222 x222) 6 (Value.bool false)) w) (W z Tryd.prog 239 (Code.loop dispatcherlaw15_CollValues_L21) (blkK 4 K) (up (up (up (up (up (up (up (up (up (up (up (up (up (up (up (up ρ 199 (ρ 14)) 200 (ρ 7)) 201 x201) 211 x211) 212 x212) 213 (ρ 11)) 214 x214) 215 x214) 216 x216) 217 x217) 218 x218) 219 x219) 220 x220) 221 x221) 222 x222) 25 (Value.int .i64 0)) w))
theorem dispatcherlaw15_CollValues_R18_eq (z : At) (K : Exit → Sl → World → Prop) (ρ : Sl) (w : World) : sx z Tryd.prog 239 dispatcherlaw15_CollValues_R18 K ρ w = dispatcherlaw15_CollValues_R18_F z K ρ w := by kernel_rfl
noncomputable def dispatcherlaw15_CollValues_R19_ops : Array Oper := opsOf dispatcherlaw15_CollValues_R19
def dispatcherlaw15_CollValues_R19_T (K : Exit → Sl → World → Prop) (ρ : Sl) (w : World) : Prop :=
  let C : World → Prop := fun w' => w' = w; QK Tryd.prog C (do pure (Next.value (← Instr.loadAt 32 (ρ 8)))) fun x96_1 => QK Tryd.prog C (do pure (Next.value (← Instr.indexAt 55 (ρ 0) (ρ 13)))) fun x100_1 => QK Tryd.prog C (do pure (Next.value (← Instr.loadAt 2 x100_1))) fun x101_1 => QK Tryd.prog C (do pure (Next.value (← Instr.build 34 [(0, (Value.int IntKind.u8 18)), (2, (Value.int IntKind.u8 2)), (3, x101_1)].toArray))) fun x102_1 => CK Tryd.prog (Value.func (Fn.func 12) #[] #[]) [(ρ 9), x96_1, (ρ 13), x102_1] w fun x103_1 w => K Exit.normal (up (up (up (up (up (up (up (up (up ρ 95 (ρ 9)) 96 x96_1) 97 (ρ 13)) 98 (ρ 0)) 99 (ρ 13)) 100 x100_1) 101 x101_1) 102 x102_1) 103 x103_1) w
theorem dispatcherlaw15_CollValues_R19_tail {D : List Deferred} {K : Exit → Sl → World → Prop} {ρ : Sl} {w : World} (h : dispatcherlaw15_CollValues_R19_T K ρ { w with drawn := w.drawn + 1 }) : W ⟨none, D⟩ Tryd.prog 239 dispatcherlaw15_CollValues_R19 K ρ w := by
  have e : dispatcherlaw15_CollValues_R19 = .region (idOf dispatcherlaw15_CollValues_R19) dispatcherlaw15_CollValues_R19_ops true := by kernel_rfl
  have q : sxq Tryd.prog (fun w' => w' = { w with drawn := w.drawn + 1 }) dispatcherlaw15_CollValues_R19_ops (fun ρ' => sxL Tryd.prog dispatcherlaw15_CollValues_R19_ops (K .normal) (dispatcherlaw15_CollValues_R19_ops.toList.drop 8) ρ' { w with drawn := w.drawn + 1 }) (dispatcherlaw15_CollValues_R19_ops.toList.take 8) ρ = dispatcherlaw15_CollValues_R19_T K ρ { w with drawn := w.drawn + 1 } := by kernel_rfl
  rw [e]
  exact W_tail 8 (by kernel_rfl) (by kernel_rfl) (by kernel_rfl) (by kernel_rfl) (Eq.mpr q h)
noncomputable def dispatcherlaw15_CollValues_R20_F (z : At) (K : Exit → Sl → World → Prop) (ρ : Sl) (w : World) : Prop :=
  W z Tryd.prog 239 dispatcherlaw15_CollValues_R22 (seqK (sx z Tryd.prog 239 dispatcherlaw15_CollValues_R23 K) K) ρ w
theorem dispatcherlaw15_CollValues_R20_eq (z : At) (K : Exit → Sl → World → Prop) (ρ : Sl) (w : World) : sx z Tryd.prog 239 dispatcherlaw15_CollValues_R20 K ρ w = dispatcherlaw15_CollValues_R20_F z K ρ w := by kernel_rfl
noncomputable def dispatcherlaw15_CollValues_L21_F (z : At) (K : Exit → Sl → World → Prop) (ρ : Sl) (w : World) : Prop :=
  IK Tryd.prog .len #[55] 3 [false] [(ρ 0)] w fun x225 w => BK Tryd.prog .lss 3 (.tmp 223) (.tmp 225) (ρ 25) x225 w fun x226 w => CondK x226 (W z Tryd.prog 239 dispatcherlaw15_CollValues_R24 (seqK (sx z Tryd.prog 239 dispatcherlaw15_CollValues_R25 (blkK 5 (seqK (sx z Tryd.prog 239 dispatcherlaw15_CollValues_R26 K) K))) (blkK 5 (seqK (sx z Tryd.prog 239 dispatcherlaw15_CollValues_R26 K) K))) (up (up (up (up ρ 223 (ρ 25)) 224 (ρ 0)) 225 x225) 226 x226) w) (K (.exit 4) (up (up (up (up ρ 223 (ρ 25)) 224 (ρ 0)) 225 x225) 226 x226) w)
theorem dispatcherlaw15_CollValues_L21_eq (z : At) (K : Exit → Sl → World → Prop) (ρ : Sl) (w : World) : sx z Tryd.prog 239 dispatcherlaw15_CollValues_L21 K ρ w = dispatcherlaw15_CollValues_L21_F z K ρ w := by kernel_rfl
theorem dispatcherlaw15_CollValues_L21_ok : dstOk 239 dispatcherlaw15_CollValues_L21 = true := by kernel_rfl
noncomputable def dispatcherlaw15_CollValues_R22_ops : Array Oper := opsOf dispatcherlaw15_CollValues_R22
def dispatcherlaw15_CollValues_R22_T (K : Exit → Sl → World → Prop) (ρ : Sl) (w : World) : Prop :=
  let C : World → Prop := fun w' => w' = w; QK Tryd.prog C (do pure (Next.value (← Instr.loadAt 32 (ρ 8)))) fun x105_1 => QK Tryd.prog C (do pure (Next.value (← Instr.indexAt 55 (ρ 0) (ρ 13)))) fun x110_1 => QK Tryd.prog C (do pure (Next.value (← Instr.loadAt 2 x110_1))) fun x111_1 => QK Tryd.prog C (do pure (Next.value (← Instr.build 34 [(0, (Value.int IntKind.u8 16)), (1, (ρ 7)), (3, x111_1)].toArray))) fun x112_1 => CK Tryd.prog (Value.func (Fn.func 12) #[] #[]) [(ρ 9), x105_1, (ρ 13), x112_1] w fun x113_1 w => K Exit.normal (up (up (up (up (up (up (up (up (up (up ρ 104 (ρ 9)) 105 x105_1) 106 (ρ 13)) 107 (ρ 7)) 108 (ρ 0)) 109 (ρ 13)) 110 x110_1) 111 x111_1) 112 x112_1) 113 x113_1) w
theorem dispatcherlaw15_CollValues_R22_tail {D : List Deferred} {K : Exit → Sl → World → Prop} {ρ : Sl} {w : World} (h : dispatcherlaw15_CollValues_R22_T K ρ { w with drawn := w.drawn + 1 }) : W ⟨none, D⟩ Tryd.prog 239 dispatcherlaw15_CollValues_R22 K ρ w := by
  have e : dispatcherlaw15_CollValues_R22 = .region (idOf dispatcherlaw15_CollValues_R22) dispatcherlaw15_CollValues_R22_ops true := by kernel_rfl
  have q : sxq Tryd.prog (fun w' => w' = { w with drawn := w.drawn + 1 }) dispatcherlaw15_CollValues_R22_ops (fun ρ' => sxL Tryd.prog dispatcherlaw15_CollValues_R22_ops (K .normal) (dispatcherlaw15_CollValues_R22_ops.toList.drop 9) ρ' { w with drawn := w.drawn + 1 }) (dispatcherlaw15_CollValues_R22_ops.toList.take 9) ρ = dispatcherlaw15_CollValues_R22_T K ρ { w with drawn := w.drawn + 1 } := by kernel_rfl
  rw [e]
  exact W_tail 9 (by kernel_rfl) (by kernel_rfl) (by kernel_rfl) (by kernel_rfl) (Eq.mpr q h)
noncomputable def dispatcherlaw15_CollValues_R23_ops : Array Oper := opsOf dispatcherlaw15_CollValues_R23
def dispatcherlaw15_CollValues_R23_T (K : Exit → Sl → World → Prop) (ρ : Sl) (w : World) : Prop :=
  let C : World → Prop := fun w' => w' = w; QK Tryd.prog C (do pure (Next.value (← Instr.loadAt 32 (ρ 8)))) fun x115_1 => QK Tryd.prog C (do pure (Next.value (← Instr.indexAt 55 (ρ 0) (ρ 13)))) fun x120_1 => QK Tryd.prog C (do pure (Next.value (← Instr.loadAt 2 x120_1))) fun x121_1 => QK Tryd.prog C (do pure (Next.value (← Instr.build 34 [(0, (Value.int IntKind.u8 19)), (1, (ρ 7)), (3, x121_1)].toArray))) fun x122_1 => CK Tryd.prog (Value.func (Fn.func 12) #[] #[]) [(ρ 9), x115_1, (ρ 13), x122_1] w fun x123_1 w => K Exit.normal (up (up (up (up (up (up (up (up (up (up ρ 114 (ρ 9)) 115 x115_1) 116 (ρ 13)) 117 (ρ 7)) 118 (ρ 0)) 119 (ρ 13)) 120 x120_1) 121 x121_1) 122 x122_1) 123 x123_1) w
theorem dispatcherlaw15_CollValues_R23_tail {D : List Deferred} {K : Exit → Sl → World → Prop} {ρ : Sl} {w : World} (h : dispatcherlaw15_CollValues_R23_T K ρ { w with drawn := w.drawn + 1 }) : W ⟨none, D⟩ Tryd.prog 239 dispatcherlaw15_CollValues_R23 K ρ w := by
  have e : dispatcherlaw15_CollValues_R23 = .region (idOf dispatcherlaw15_CollValues_R23) dispatcherlaw15_CollValues_R23_ops true := by kernel_rfl
  have q : sxq Tryd.prog (fun w' => w' = { w with drawn := w.drawn + 1 }) dispatcherlaw15_CollValues_R23_ops (fun ρ' => sxL Tryd.prog dispatcherlaw15_CollValues_R23_ops (K .normal) (dispatcherlaw15_CollValues_R23_ops.toList.drop 9) ρ' { w with drawn := w.drawn + 1 }) (dispatcherlaw15_CollValues_R23_ops.toList.take 9) ρ = dispatcherlaw15_CollValues_R23_T K ρ { w with drawn := w.drawn + 1 } := by kernel_rfl
  rw [e]
  exact W_tail 9 (by kernel_rfl) (by kernel_rfl) (by kernel_rfl) (by kernel_rfl) (Eq.mpr q h)
noncomputable def dispatcherlaw15_CollValues_R24_ops : Array Oper := opsOf dispatcherlaw15_CollValues_R24
def dispatcherlaw15_CollValues_R24_Q (C : World → Prop) (K : Exit → Sl → World → Prop) (ρ : Sl) : Prop :=
  QK Tryd.prog C (do pure (Next.value (← Instr.fieldAt 57 (ρ 23) 1))) fun x229 => QK Tryd.prog C (do pure (Next.value (← Instr.loadAt 55 x229))) fun x230 => QK Tryd.prog C (do pure (Next.value (← Instr.indexAt 55 x230 (ρ 25)))) fun x232 => QK Tryd.prog C (do pure (Next.value (← Instr.loadAt 2 x232))) fun x233 => QK Tryd.prog C (do pure (Next.value (← Instr.indexAt 55 (ρ 0) (ρ 25)))) fun x236 => QK Tryd.prog C (do pure (Next.value (← Instr.loadAt 2 x236))) fun x237 => QK Tryd.prog C (do pure (Next.value (← (do eqGuard BinOp.neq 2 (Operand.tmp 233) (Operand.tmp 237) x233 x237; binOp BinOp.neq 2 x233 x237)))) fun x238 => ∀ w', C w' → K Exit.normal (up (up (up (up (up (up (up (up (up (up ρ 229 x229) 230 x230) 231 (ρ 25)) 232 x232) 233 x233) 234 (ρ 0)) 235 (ρ 25)) 236 x236) 237 x237) 238 x238) w'
theorem dispatcherlaw15_CollValues_R24_quiet {D : List Deferred} (C : World → Prop) {K : Exit → Sl → World → Prop} {ρ : Sl} {w : World} (hC : C { w with drawn := w.drawn + 1 }) (h : dispatcherlaw15_CollValues_R24_Q C K ρ) : W ⟨none, D⟩ Tryd.prog 239 dispatcherlaw15_CollValues_R24 K ρ w := by
  have e : dispatcherlaw15_CollValues_R24 = .region (idOf dispatcherlaw15_CollValues_R24) dispatcherlaw15_CollValues_R24_ops true := by kernel_rfl
  have q : sxq Tryd.prog C dispatcherlaw15_CollValues_R24_ops (fun ρ' => ∀ w', C w' → K .normal ρ' w') dispatcherlaw15_CollValues_R24_ops.toList ρ = dispatcherlaw15_CollValues_R24_Q C K ρ := by kernel_rfl
  rw [e]
  exact W_quiet C (by kernel_rfl) (by kernel_rfl) (by kernel_rfl) hC (Eq.mpr q h)
noncomputable def dispatcherlaw15_CollValues_R25_F (z : At) (K : Exit → Sl → World → Prop) (ρ : Sl) (w : World) : Prop :=
  CondK (ρ 238) (K .ret (up ρ 6 (Value.bool false)) w) (K .normal ρ w)
theorem dispatcherlaw15_CollValues_R25_eq (z : At) (K : Exit → Sl → World → Prop) (ρ : Sl) (w : World) : sx z Tryd.prog 239 dispatcherlaw15_CollValues_R25 K ρ w = dispatcherlaw15_CollValues_R25_F z K ρ w := by kernel_rfl
noncomputable def dispatcherlaw15_CollValues_R26_F (z : At) (K : Exit → Sl → World → Prop) (ρ : Sl) (w : World) : Prop :=
  BK Tryd.prog .add 3 (.tmp 227) (.const (Value.int .i64 1)) (ρ 25) (Value.int .i64 1) w fun x228 w => K .normal (up (up (up ρ 227 (ρ 25)) 228 x228) 25 x228) w
theorem dispatcherlaw15_CollValues_R26_eq (z : At) (K : Exit → Sl → World → Prop) (ρ : Sl) (w : World) : sx z Tryd.prog 239 dispatcherlaw15_CollValues_R26 K ρ w = dispatcherlaw15_CollValues_R26_F z K ρ w := by kernel_rfl
noncomputable def dispatcherlaw15_CollValues_F (a0 a1 a2 : Value) (w : World) (R : Value → World → Prop) : Prop :=
  CK Tryd.prog (Value.func (Fn.func 26) #[] #[]) [] w fun x26 w => VK Tryd.prog (Op.unary UnOp.not x26) w fun x27 w => CondK x27 (R (Value.bool false) w) (IK Tryd.prog .len #[55] 3 [false] [a0] w fun x29 w => BK Tryd.prog .lss 3 (.tmp 29) (.const (Value.int .i64 1)) x29 (Value.int .i64 1) w fun x30 w => MG Tryd.prog x30 false a0 w fun x32 w => IG Tryd.prog x30 false .len #[55] 3 [false] [x32] w fun x33 w => BG Tryd.prog x30 false .gtr 3 (.tmp 33) (.const (Value.int .i64 8)) x33 (Value.int .i64 8) w fun x34 w => PK Tryd.prog x30 (Value.bool true) x34 w fun x35 w => CondK x35 (R (Value.bool true) w) (VK Tryd.prog (convert 5 3 a1) w fun x37 w => IK Tryd.prog .len #[55] 3 [false] [a0] w fun x39 w => BK Tryd.prog .rem 3 (.tmp 37) (.tmp 39) x37 x39 w fun x40 w => IK Tryd.prog .len #[55] 3 [false] [a0] w fun x42 w => CK Tryd.prog (Value.func (Fn.func 30) #[] #[]) [x42] w fun x43 w => VK Tryd.prog (Instr.alloc 32 true (.tuple #[])) w fun x8 w => UK Tryd.prog (Instr.storeAt 32 x8 x43) w fun _ w => CK Tryd.prog (Value.func (Fn.func 11) #[] #[]) [a2] w fun x45 w => sx fn_ Tryd.prog 239 dispatcherlaw15_CollValues_R0 (retK Tryd.prog [ResultVar.tmp 6] R) (up (up (up (up (up (up (up (up (up (up (up (up (up (up (up (up (up (up (up (up (up (up (up (up (rho0 [a0, a1, a2]) 6 (Value.bool false)) 26 x26) 27 x27) 28 a0) 29 x29) 30 x30) 31 x30) 32 x32) 33 x33) 34 x34) 35 x35) 36 a1) 37 x37) 38 a0) 39 x39) 40 x40) 7 x40) 41 a0) 42 x42) 43 x43) 8 x8) 44 a2) 45 x45) 9 x45) w))
theorem dispatcherlaw15_CollValues_eq (a0 a1 a2 : Value) (w : World) (R : Value → World → Prop) : sx fn_ Tryd.prog 239 dispatcherlaw15_CollValues_b (retK Tryd.prog Tryd.f8.results.toList R) (rho0 [a0, a1, a2]) w = dispatcherlaw15_CollValues_F a0 a1 a2 w R := by kernel_rfl
theorem dispatcherlaw15_CollValues_calls {a0 a1 a2 : Value} {w : World} {R : Value → World → Prop} (h : dispatcherlaw15_CollValues_F a0 a1 a2 w R) : Calls Tryd.prog 8 #[a0, a1, a2] w fun e w' => ∃ v, e = .returned v ∧ R v w' :=
  Go.X.calls_of_sx (n := 239) (c := dispatcherlaw15_CollValues_b) Tryd.func8 (by kernel_rfl) (by kernel_rfl) (Nat.le_of_ble_eq_true rfl) (by kernel_rfl) (Eq.mpr (dispatcherlaw15_CollValues_eq a0 a1 a2 w R) h)
noncomputable def dispatcherlaw15_awake_b : Code := (Tryd.f26.body).getD .skip
noncomputable def dispatcherlaw15_awake_L0 : Code := cAt [1, 0, 1, 0, 0] dispatcherlaw15_awake_b
noncomputable def dispatcherlaw15_awake_R1 : Code := cAt [1, 1] dispatcherlaw15_awake_b
noncomputable def dispatcherlaw15_awake_R2 : Code := cAt [1, 0, 1, 0, 0, 1, 0, 0, 1, 1, 1, 0] dispatcherlaw15_awake_b
noncomputable def dispatcherlaw15_awake_R3 : Code := cAt [1, 0, 1, 0, 0, 1, 0, 0, 1, 1, 1, 1] dispatcherlaw15_awake_b
noncomputable def dispatcherlaw15_awake_R4 : Code := cAt [1, 0, 1, 0, 0, 1, 1] dispatcherlaw15_awake_b
noncomputable def dispatcherlaw15_awake_R5 : Code := cAt [1, 0, 1, 0, 0, 1, 0, 0, 1, 1, 1, 1, 1, 0] dispatcherlaw15_awake_b
noncomputable def dispatcherlaw15_awake_R6 : Code := cAt [1, 0, 1, 0, 0, 1, 0, 0, 1, 1, 1, 1, 1, 1] dispatcherlaw15_awake_b
noncomputable def dispatcherlaw15_awake_R7 : Code := cAt [1, 0, 1, 0, 0, 1, 0, 0, 1, 1, 1, 1, 1, 1, 1, 0] dispatcherlaw15_awake_b
noncomputable def dispatcherlaw15_awake_R8 : Code := cAt [1, 0, 1, 0, 0, 1, 0, 0, 1, 1, 1, 1, 1, 1, 1, 1] dispatcherlaw15_awake_b
noncomputable def dispatcherlaw15_awake_R9 : Code := cAt [1, 0, 1, 0, 0, 1, 0, 0, 1, 1, 1, 1, 1, 1, 1, 1, 1, 1, 0, 1] dispatcherlaw15_awake_b
noncomputable def dispatcherlaw15_awake_R10 : Code := cAt [1, 0, 1, 0, 0, 1, 0, 0, 1, 1, 1, 1, 1, 1, 1, 1, 1, 1, 1] dispatcherlaw15_awake_b
noncomputable def dispatcherlaw15_awake_R11 : Code := cAt [1, 0, 1, 0, 0, 1, 0, 0, 1, 1, 1, 1, 1, 1, 1, 1, 1, 1, 1, 1, 1, 1] dispatcherlaw15_awake_b
noncomputable def dispatcherlaw15_awake_L0_F (z : At) (K : Exit → Sl → World → Prop) (ρ : Sl) (w : World) : Prop :=
  BK Tryd.prog .lss 3 (.tmp 11) (.const (Value.int .i64 2)) (ρ 1) (Value.int .i64 2) w fun x12 w => CondK x12 (BK Tryd.prog .eql 3 (.tmp 15) (.const (Value.int .i64 1)) (ρ 1) (Value.int .i64 1) w fun x16 w => CK Tryd.prog (Value.func (Fn.func 11) #[] #[]) [x16] w fun x17 w => BK Tryd.prog .eql 24 (.tmp 18) (.const (Value.pointer none)) x17 (Value.pointer none) w fun x19 w => CondK x19 (K .ret (up (up (up (up (up (up (up (up (up ρ 11 (ρ 1)) 12 x12) 15 (ρ 1)) 16 x16) 17 x17) 2 x17) 18 x17) 19 x19) 0 (Value.bool false)) w) (CK Tryd.prog (Value.func (Fn.func 30) #[] #[]) [(Value.int .i64 3)] w fun x20 w => VK Tryd.prog (Instr.alloc 32 true (.tuple #[])) w fun x3 w => UK Tryd.prog (Instr.storeAt 32 x3 x20) w fun _ w => W z Tryd.prog 107 dispatcherlaw15_awake_R2 (seqK (sx z Tryd.prog 107 dispatcherlaw15_awake_R3 (blkK 1 (seqK (sx z Tryd.prog 107 dispatcherlaw15_awake_R4 K) K))) (blkK 1 (seqK (sx z Tryd.prog 107 dispatcherlaw15_awake_R4 K) K))) (up (up (up (up (up (up (up (up (up (up ρ 11 (ρ 1)) 12 x12) 15 (ρ 1)) 16 x16) 17 x17) 2 x17) 18 x17) 19 x19) 20 x20) 3 x3) w)) (K (.exit 0) (up (up ρ 11 (ρ 1)) 12 x12) w)
theorem dispatcherlaw15_awake_L0_eq (z : At) (K : Exit → Sl → World → Prop) (ρ : Sl) (w : World) : sx z Tryd.prog 107 dispatcherlaw15_awake_L0 K ρ w = dispatcherlaw15_awake_L0_F z K ρ w := by kernel_rfl
theorem dispatcherlaw15_awake_L0_ok : dstOk 107 dispatcherlaw15_awake_L0 = true := by kernel_rfl
noncomputable def dispatcherlaw15_awake_R1_F (z : At) (K : Exit → Sl → World → Prop) (ρ : Sl) (w : World) : Prop :=
  K .ret (up ρ 0 (Value.bool true)) w
theorem dispatcherlaw15_awake_R1_eq (z : At) (K : Exit → Sl → World → Prop) (ρ : Sl) (w : World) : sx z Tryd.prog 107 dispatcherlaw15_awake_R1 K ρ w = dispatcherlaw15_awake_R1_F z K ρ w := by kernel_rfl
noncomputable def dispatcherlaw15_awake_R2_ops : Array Oper := opsOf dispatcherlaw15_awake_R2
def dispatcherlaw15_awake_R2_H (S : World → Prop) (K : Exit → Sl → World → Prop) (ρ : Sl) (w : World) : Prop :=
  HK Tryd.prog S (do pure (Next.value (← Instr.loadAt 32 (ρ 3)))) fun x22_2 => CK Tryd.prog (Value.func (Fn.func 56) #[] #[]) [(Value.int IntKind.i64 5)] w fun x23_2 w => S w ∧ (CK Tryd.prog (Value.func (Fn.func 12) #[] #[]) [(ρ 2), x22_2, (Value.int IntKind.i64 0), x23_2] w fun x24_2 w => S w ∧ (K Exit.normal (up (up (up (up ρ 21 (ρ 2)) 22 x22_2) 23 x23_2) 24 x24_2) w))
theorem dispatcherlaw15_awake_R2_held {D : List Deferred} (S : World → Prop) {K : Exit → Sl → World → Prop} {ρ : Sl} {w : World} (hS : S { w with drawn := w.drawn + 1 }) (h : dispatcherlaw15_awake_R2_H S K ρ { w with drawn := w.drawn + 1 }) : W ⟨none, D⟩ Tryd.prog 107 dispatcherlaw15_awake_R2 K ρ w := by
  have e : dispatcherlaw15_awake_R2 = .region (idOf dispatcherlaw15_awake_R2) dispatcherlaw15_awake_R2_ops true := by kernel_rfl
  have q : sxh Tryd.prog S dispatcherlaw15_awake_R2_ops (K .normal) [(0, true), (1, true), (2, false), (3, false)] ρ { w with drawn := w.drawn + 1 } = dispatcherlaw15_awake_R2_H S K ρ { w with drawn := w.drawn + 1 } := by kernel_rfl
  rw [e]
  exact W_held S [(0, true), (1, true), (2, false), (3, false)] (by kernel_rfl) (by kernel_rfl) (by kernel_rfl) (by kernel_rfl) hS (Eq.mpr q h)
noncomputable def dispatcherlaw15_awake_R3_F (z : At) (K : Exit → Sl → World → Prop) (ρ : Sl) (w : World) : Prop :=
  CK Tryd.prog (Value.func (Fn.func 31) #[] #[]) [(ρ 2), (Value.string { data := #[] }), (Value.int .i64 0), (Value.int .i64 0)] w fun x26 w => W z Tryd.prog 107 dispatcherlaw15_awake_R5 (seqK (sx z Tryd.prog 107 dispatcherlaw15_awake_R6 K) K) (up (up (up ρ 25 (ρ 2)) 26 x26) 4 x26) w
theorem dispatcherlaw15_awake_R3_eq (z : At) (K : Exit → Sl → World → Prop) (ρ : Sl) (w : World) : sx z Tryd.prog 107 dispatcherlaw15_awake_R3 K ρ w = dispatcherlaw15_awake_R3_F z K ρ w := by kernel_rfl
noncomputable def dispatcherlaw15_awake_R4_F (z : At) (K : Exit → Sl → World → Prop) (ρ : Sl) (w : World) : Prop :=
  BK Tryd.prog .add 3 (.tmp 13) (.const (Value.int .i64 1)) (ρ 1) (Value.int .i64 1) w fun x14 w => K .normal (up (up (up ρ 13 (ρ 1)) 14 x14) 1 x14) w
theorem dispatcherlaw15_awake_R4_eq (z : At) (K : Exit → Sl → World → Prop) (ρ : Sl) (w : World) : sx z Tryd.prog 107 dispatcherlaw15_awake_R4 K ρ w = dispatcherlaw15_awake_R4_F z K ρ w := by kernel_rfl
noncomputable def dispatcherlaw15_awake_R5_ops : Array Oper := opsOf dispatcherlaw15_awake_R5
def dispatcherlaw15_awake_R5_H (S : World → Prop) (K : Exit → Sl → World → Prop) (ρ : Sl) (w : World) : Prop :=
  HK Tryd.prog S (do pure (Next.value (← Instr.loadAt 32 (ρ 3)))) fun x28_2 => CK Tryd.prog (Value.func (Fn.func 56) #[] #[]) [(Value.int IntKind.i64 7)] w fun x29_2 w => S w ∧ (CK Tryd.prog (Value.func (Fn.func 12) #[] #[]) [(ρ 2), x28_2, (Value.int IntKind.i64 1), x29_2] w fun x30_2 w => S w ∧ (K Exit.normal (up (up (up (up ρ 27 (ρ 2)) 28 x28_2) 29 x29_2) 30 x30_2) w))
theorem dispatcherlaw15_awake_R5_held {D : List Deferred} (S : World → Prop) {K : Exit → Sl → World → Prop} {ρ : Sl} {w : World} (hS : S { w with drawn := w.drawn + 1 }) (h : dispatcherlaw15_awake_R5_H S K ρ { w with drawn := w.drawn + 1 }) : W ⟨none, D⟩ Tryd.prog 107 dispatcherlaw15_awake_R5 K ρ w := by
  have e : dispatcherlaw15_awake_R5 = .region (idOf dispatcherlaw15_awake_R5) dispatcherlaw15_awake_R5_ops true := by kernel_rfl
  have q : sxh Tryd.prog S dispatcherlaw15_awake_R5_ops (K .normal) [(0, true), (1, true), (2, false), (3, false)] ρ { w with drawn := w.drawn + 1 } = dispatcherlaw15_awake_R5_H S K ρ { w with drawn := w.drawn + 1 } := by kernel_rfl
  rw [e]
  exact W_held S [(0, true), (1, true), (2, false), (3, false)] (by kernel_rfl) (by kernel_rfl) (by kernel_rfl) (by kernel_rfl) hS (Eq.mpr q h)
noncomputable def dispatcherlaw15_awake_R6_F (z : At) (K : Exit → Sl → World → Prop) (ρ : Sl) (w : World) : Prop :=
  CK Tryd.prog (Value.func (Fn.func 15) #[] #[]) [(ρ 2)] w fun x32 w => W z Tryd.prog 107 dispatcherlaw15_awake_R7 (seqK (sx z Tryd.prog 107 dispatcherlaw15_awake_R8 K) K) (up (up (up ρ 31 (ρ 2)) 32 x32) 5 x32) w
theorem dispatcherlaw15_awake_R6_eq (z : At) (K : Exit → Sl → World → Prop) (ρ : Sl) (w : World) : sx z Tryd.prog 107 dispatcherlaw15_awake_R6 K ρ w = dispatcherlaw15_awake_R6_F z K ρ w := by kernel_rfl
noncomputable def dispatcherlaw15_awake_R7_ops : Array Oper := opsOf dispatcherlaw15_awake_R7
def dispatcherlaw15_awake_R7_H (S : World → Prop) (K : Exit → Sl → World → Prop) (ρ : Sl) (w : World) : Prop :=
  HK Tryd.prog S (do pure (Next.value (← Instr.loadAt 32 (ρ 3)))) fun x34_2 => CK Tryd.prog (Value.func (Fn.func 56) #[] #[]) [(Value.int IntKind.i64 9)] w fun x35_2 w => S w ∧ (CK Tryd.prog (Value.func (Fn.func 12) #[] #[]) [(ρ 2), x34_2, (Value.int IntKind.i64 2), x35_2] w fun x36_2 w => S w ∧ (K Exit.normal (up (up (up (up ρ 33 (ρ 2)) 34 x34_2) 35 x35_2) 36 x36_2) w))
theorem dispatcherlaw15_awake_R7_held {D : List Deferred} (S : World → Prop) {K : Exit → Sl → World → Prop} {ρ : Sl} {w : World} (hS : S { w with drawn := w.drawn + 1 }) (h : dispatcherlaw15_awake_R7_H S K ρ { w with drawn := w.drawn + 1 }) : W ⟨none, D⟩ Tryd.prog 107 dispatcherlaw15_awake_R7 K ρ w := by
  have e : dispatcherlaw15_awake_R7 = .region (idOf dispatcherlaw15_awake_R7) dispatcherlaw15_awake_R7_ops true := by kernel_rfl
  have q : sxh Tryd.prog S dispatcherlaw15_awake_R7_ops (K .normal) [(0, true), (1, true), (2, false), (3, false)] ρ { w with drawn := w.drawn + 1 } = dispatcherlaw15_awake_R7_H S K ρ { w with drawn := w.drawn + 1 } := by kernel_rfl
  rw [e]
  exact W_held S [(0, true), (1, true), (2, false), (3, false)] (by kernel_rfl) (by kernel_rfl) (by kernel_rfl) (by kernel_rfl) hS (Eq.mpr q h)
noncomputable def dispatcherlaw15_awake_R8_F (z : At) (K : Exit → Sl → World → Prop) (ρ : Sl) (w : World) : Prop :=
  CK Tryd.prog (Value.func (Fn.func 27) #[] #[]) [(ρ 2), (Value.string { data := #[] }), (Value.int .i64 1), (Value.int .i64 0)] w fun x39 w => VK Tryd.prog (Instr.extract x39 0) w fun x40 w => VK Tryd.prog (Instr.extract x39 1) w fun x41 w => VK Tryd.prog (Instr.alloc 57 true (.tuple #[])) w fun x6 w => UK Tryd.prog (Instr.storeAt 57 x6 x40) w fun _ w => CK Tryd.prog (Value.func (Fn.func 27) #[] #[]) [(ρ 2), (Value.string { data := #[] }), (Value.int .i64 2), (Value.int .i64 0)] w fun x44 w => VK Tryd.prog (Instr.extract x44 0) w fun x45 w => VK Tryd.prog (Instr.extract x44 1) w fun x46 w => VK Tryd.prog (Instr.alloc 57 true (.tuple #[])) w fun x8 w => UK Tryd.prog (Instr.storeAt 57 x8 x45) w fun _ w => BK Tryd.prog .eql 3 (.tmp 48) (.const (Value.int .i64 1)) (ρ 1) (Value.int .i64 1) w fun x49 w => BK Tryd.prog .neq 4 (.tmp 47) (.tmp 49) (ρ 4) x49 w fun x50 w => MG Tryd.prog x50 false x41 w fun x52 w => VG Tryd.prog x50 false (Op.unary UnOp.not x52) w fun x53 w => PK Tryd.prog x50 (Value.bool true) x53 w fun x54 w => VG Tryd.prog x54 false (Instr.fieldAt 57 x6 0) w fun x56 w => VG Tryd.prog x54 false (Instr.loadAt 2 x56) w fun x57 w => BG Tryd.prog x54 false .neq 2 (.tmp 57) (.const (Value.int .i64 21)) x57 (Value.int .i64 21) w fun x58 w => PK Tryd.prog x54 (Value.bool true) x58 w fun x59 w => MG Tryd.prog x59 false x46 w fun x61 w => VG Tryd.prog x59 false (Op.unary UnOp.not x61) w fun x62 w => PK Tryd.prog x59 (Value.bool true) x62 w fun x63 w => VG Tryd.prog x63 false (Instr.fieldAt 57 x8 0) w fun x65 w => VG Tryd.prog x63 false (Instr.loadAt 2 x65) w fun x66 w => BG Tryd.prog x63 false .neq 2 (.tmp 66) (.const (Value.int .i64 0)) x66 (Value.int .i64 0) w fun x67 w => PK Tryd.prog x63 (Value.bool true) x67 w fun x68 w => MG Tryd.prog x68 false (ρ 5) w fun x70 w => BG Tryd.prog x68 false .eql 24 (.tmp 70) (.const (Value.pointer none)) x70 (Value.pointer none) w fun x71 w => PK Tryd.prog x68 (Value.bool true) x71 w fun x72 w => MG Tryd.prog x72 false (ρ 5) w fun x74 w => CG Tryd.prog x72 false (Value.func (Fn.func 31) #[] #[]) [x74, (Value.string { data := #[] }), (Value.int .i64 1), (Value.int .i64 0)] w fun x75 w => PK Tryd.prog x72 (Value.bool true) x75 w fun x76 w => sx z Tryd.prog 107 dispatcherlaw15_awake_R9 (seqK (sx z Tryd.prog 107 dispatcherlaw15_awake_R10 K) K) (up (up (up (up (up (up (up (up (up (up (up (up (up (up (up (up (up (up (up (up (up (up (up (up (up (up (up (up (up (up (up (up (up (up (up (up (up (up (up (up (up (up (up (up ρ 38 (ρ 2)) 39 x39) 37 x39) 40 x40) 41 x41) 6 x6) 7 x41) 43 (ρ 2)) 44 x44) 42 x44) 45 x45) 46 x46) 8 x8) 9 x46) 47 (ρ 4)) 48 (ρ 1)) 49 x49) 50 x50) 51 x50) 52 x52) 53 x53) 54 x54) 55 x54) 56 x56) 57 x57) 58 x58) 59 x59) 60 x59) 61 x61) 62 x62) 63 x63) 64 x63) 65 x65) 66 x66) 67 x67) 68 x68) 69 x68) 70 x70) 71 x71) 72 x72) 73 x72) 74 x74) 75 x75) 76 x76) w
theorem dispatcherlaw15_awake_R8_eq (z : At) (K : Exit → Sl → World → Prop) (ρ : Sl) (w : World) : sx z Tryd.prog 107 dispatcherlaw15_awake_R8 K ρ w = dispatcherlaw15_awake_R8_F z K ρ w := by kernel_rfl
noncomputable def dispatcherlaw15_awake_R9_F (z : At) (K : Exit → Sl → World → Prop) (ρ : Sl) (w : World) : Prop :=
  CondK (ρ 76) (K .ret (up ρ 0 (Value.bool false)) w) (K .normal ρ w)
theorem dispatcherlaw15_awake_R9_eq (z : At) (K : Exit → Sl → World → Prop) (ρ : Sl) (w : World) : sx z Tryd.prog 107 dispatcherlaw15_awake_R9 K ρ w = dispatcherlaw15_awake_R9_F z K ρ w := by kernel_rfl
noncomputable def dispatcherlaw15_awake_R10_F (z : At) (K : Exit → Sl → World → Prop) (ρ : Sl) (w : World) : Prop :=
  VK Tryd.prog (Instr.loadAt 32 (ρ 3)) w fun x78 w => VK Tryd.prog (Instr.build 34 [(0, (Value.int .u8 15))].toArray) w fun x79 w => CK Tryd.prog (Value.func (Fn.func 12) #[] #[]) [(ρ 5), x78, (Value.int .i64 2), x79] w fun x80 w => CK Tryd.prog (Value.func (Fn.func 24) #[] #[]) [(ρ 5)] w fun x82 w => IK Tryd.prog .len #[50] 3 [false] [x82] w fun x84 w => BK Tryd.prog .neq 3 (.tmp 84) (.const (Value.int .i64 1)) x84 (Value.int .i64 1) w fun x85 w => MG Tryd.prog x85 false x82 w fun x87 w => VG Tryd.prog x85 false (Instr.indexAt 50 x87 (Value.int .i64 0)) w fun x88 w => VG Tryd.prog x85 false (Instr.loadAt 9 x88) w fun x89 w => BG Tryd.prog x85 false .neq 9 (.tmp 89) (.const (Value.string { data := #[46, 48] })) x89 (Value.string { data := #[46, 48] }) w fun x90 w => PK Tryd.prog x85 (Value.bool true) x90 w fun x91 w => MG Tryd.prog x91 false (ρ 5) w fun x93 w => CG Tryd.prog x91 false (Value.func (Fn.func 31) #[] #[]) [x93, (Value.string { data := #[] }), (Value.int .i64 1), (Value.int .i64 0)] w fun x94 w => PK Tryd.prog x91 (Value.bool true) x94 w fun x95 w => MG Tryd.prog x95 false (ρ 5) w fun x97 w => CG Tryd.prog x95 false (Value.func (Fn.func 31) #[] #[]) [x97, (Value.string { data := #[] }), (Value.int .i64 2), (Value.int .i64 0)] w fun x98 w => PK Tryd.prog x95 (Value.bool true) x98 w fun x99 w => MG Tryd.prog x99 false (ρ 5) w fun x101 w => CG Tryd.prog x99 false (Value.func (Fn.func 31) #[] #[]) [x101, (Value.string { data := #[] }), (Value.int .i64 0), (Value.int .i64 0)] w fun x102 w => MG Tryd.prog x99 false (ρ 1) w fun x103 w => BG Tryd.prog x99 false .eql 3 (.tmp 103) (.const (Value.int .i64 1)) x103 (Value.int .i64 1) w fun x104 w => BG Tryd.prog x99 false .neq 4 (.tmp 102) (.tmp 104) x102 x104 w fun x105 w => PK Tryd.prog x99 (Value.bool true) x105 w fun x106 w => sx z Tryd.prog 107 dispatcherlaw15_awake_R11 K (up (up (up (up (up (up (up (up (up (up (up (up (up (up (up (up (up (up (up (up (up (up (up (up (up (up (up (up (up (up (up ρ 77 (ρ 5)) 78 x78) 79 x79) 80 x80) 81 (ρ 5)) 82 x82) 10 x82) 83 x82) 84 x84) 85 x85) 86 x85) 87 x87) 88 x88) 89 x89) 90 x90) 91 x91) 92 x91) 93 x93) 94 x94) 95 x95) 96 x95) 97 x97) 98 x98) 99 x99) 100 x99) 101 x101) 102 x102) 103 x103) 104 x104) 105 x105) 106 x106) w
theorem dispatcherlaw15_awake_R10_eq (z : At) (K : Exit → Sl → World → Prop) (ρ : Sl) (w : World) : sx z Tryd.prog 107 dispatcherlaw15_awake_R10 K ρ w = dispatcherlaw15_awake_R10_F z K ρ w := by kernel_rfl
noncomputable def dispatcherlaw15_awake_R11_F (z : At) (K : Exit → Sl → World → Prop) (ρ : Sl) (w : World) : Prop :=
  CondK (ρ 106) (K .ret (up ρ 0 (Value.bool false)) w) (K .normal ρ w)
theorem dispatcherlaw15_awake_R11_eq (z : At) (K : Exit → Sl → World → Prop) (ρ : Sl) (w : World) : sx z Tryd.prog 107 dispatcherlaw15_awake_R11 K ρ w = dispatcherlaw15_awake_R11_F z K ρ w := by kernel_rfl
noncomputable def dispatcherlaw15_awake_F (w : World) (R : Value → World → Prop) : Prop :=
  W fn_ Tryd.prog 107 (Code.loop dispatcherlaw15_awake_L0) (blkK 0 (seqK (sx fn_ Tryd.prog 107 dispatcherlaw15_awake_R1 (retK Tryd.prog [ResultVar.tmp 0] R)) (retK Tryd.prog [ResultVar.tmp 0] R))) (up (up (rho0 []) 0 (Value.bool false)) 1 (Value.int .i64 0)) w
theorem dispatcherlaw15_awake_calls {w : World} {R : Value → World → Prop} (h : dispatcherlaw15_awake_F  w R) : Calls Tryd.prog 26 #[] w fun e w' => ∃ v, e = .returned v ∧ R v w' :=
  Go.X.calls_eq (n := 107) (c := dispatcherlaw15_awake_b) (fn := Tryd.f26) (args := #[]) (F := dispatcherlaw15_awake_F  w R) (R := R) Tryd.func26 (by kernel_rfl) (by kernel_rfl) (Nat.le_of_ble_eq_true rfl) (by kernel_rfl) (by kernel_rfl) h
noncomputable def dispatcherlaw15_ranks_b : Code := (Tryd.f30.body).getD .skip
noncomputable def dispatcherlaw15_ranks_F (a0 : Value) (w : World) (R : Value → World → Prop) : Prop :=
  VK Tryd.prog (Instr.alloc 32 true (.tuple #[])) w fun x2 w => CK Tryd.prog (Value.func (Fn.func 60) #[] #[]) [a0] w fun x7 w => VK Tryd.prog (Instr.extract x7 0) w fun x8 w => VK Tryd.prog (Instr.extract x7 1) w fun x9 w => VK Tryd.prog (Instr.alloc 32 true (.tuple #[])) w fun x3 w => UK Tryd.prog (Instr.storeAt 32 x3 x8) w fun _ w => VK Tryd.prog (Instr.loadAt 32 x3) w fun x10 w => UK Tryd.prog (Instr.storeAt 32 x2 x10) w fun _ w => ∃ x2_1, (do loadVar 32 (← asAddr x2) : Sem Value).run Tryd.prog w = .ok x2_1 w ∧ R x2_1 w
theorem dispatcherlaw15_ranks_eq (a0 : Value) (w : World) (R : Value → World → Prop) : sx fn_ Tryd.prog 11 dispatcherlaw15_ranks_b (retK Tryd.prog Tryd.f30.results.toList R) (rho0 [a0]) w = dispatcherlaw15_ranks_F a0 w R := by kernel_rfl
theorem dispatcherlaw15_ranks_calls {a0 : Value} {w : World} {R : Value → World → Prop} (h : dispatcherlaw15_ranks_F a0 w R) : Calls Tryd.prog 30 #[a0] w fun e w' => ∃ v, e = .returned v ∧ R v w' :=
  Go.X.calls_of_sx (n := 11) (c := dispatcherlaw15_ranks_b) Tryd.func30 (by kernel_rfl) (by kernel_rfl) (Nat.le_of_ble_eq_true rfl) (by kernel_rfl) (Eq.mpr (dispatcherlaw15_ranks_eq a0 w R) h)
noncomputable def dispatcherlaw15_reduce_b : Code := (Tryd.f56.body).getD .skip
noncomputable def dispatcherlaw15_reduce_F (a0 : Value) (w : World) (R : Value → World → Prop) : Prop :=
  VK Tryd.prog (Instr.alloc 34 true (.tuple #[])) w fun x2 w => VK Tryd.prog (Instr.build 34 [(0, (Value.int .u8 17)), (1, (Value.int .i64 1)), (3, a0)].toArray) w fun x4 w => UK Tryd.prog (Instr.storeAt 34 x2 x4) w fun _ w => ∃ x2_1, (do loadVar 34 (← asAddr x2) : Sem Value).run Tryd.prog w = .ok x2_1 w ∧ R x2_1 w
theorem dispatcherlaw15_reduce_eq (a0 : Value) (w : World) (R : Value → World → Prop) : sx fn_ Tryd.prog 5 dispatcherlaw15_reduce_b (retK Tryd.prog Tryd.f56.results.toList R) (rho0 [a0]) w = dispatcherlaw15_reduce_F a0 w R := by kernel_rfl
theorem dispatcherlaw15_reduce_calls {a0 : Value} {w : World} {R : Value → World → Prop} (h : dispatcherlaw15_reduce_F a0 w R) : Calls Tryd.prog 56 #[a0] w fun e w' => ∃ v, e = .returned v ∧ R v w' :=
  Go.X.calls_of_sx (n := 5) (c := dispatcherlaw15_reduce_b) Tryd.func56 (by kernel_rfl) (by kernel_rfl) (Nat.le_of_ble_eq_true rfl) (by kernel_rfl) (Eq.mpr (dispatcherlaw15_reduce_eq a0 w R) h)
noncomputable def dispatcherref11_World_b : Code := (Tryd.f60.body).getD .skip
noncomputable def dispatcherref11_World_L0 : Code := cAt [1, 1, 1, 0, 1, 0, 0] dispatcherref11_World_b
noncomputable def dispatcherref11_World_R1 : Code := cAt [1, 1, 1, 1] dispatcherref11_World_b
noncomputable def dispatcherref11_World_L0_F (z : At) (K : Exit → Sl → World → Prop) (ρ : Sl) (w : World) : Prop :=
  BK Tryd.prog .lss 3 (.tmp 14) (.tmp 15) (ρ 5) (ρ 0) w fun x16 w => CondK x16 (VK Tryd.prog (Instr.fieldAt 32 (ρ 4) 1) w fun x19 w => VK Tryd.prog (Instr.loadAt 30 x19) w fun x20 w => VK Tryd.prog (Instr.buildSlice 30 1 [(0, (ρ 5))].toArray) w fun x22 w => IK Tryd.prog .append #[30, 30] 30 [false, false] [x20, x22] w fun x23 w => VK Tryd.prog (Instr.fieldAt 32 (ρ 4) 1) w fun x24 w => UK Tryd.prog (Instr.storeAt 30 x24 x23) w fun _ w => BK Tryd.prog .add 3 (.tmp 17) (.const (Value.int .i64 1)) (ρ 5) (Value.int .i64 1) w fun x18 w => K .normal (up (up (up (up (up (up (up (up (up (up (up (up ρ 14 (ρ 5)) 15 (ρ 0)) 16 x16) 19 x19) 20 x20) 21 (ρ 5)) 22 x22) 23 x23) 24 x24) 17 (ρ 5)) 18 x18) 5 x18) w) (K (.exit 0) (up (up (up ρ 14 (ρ 5)) 15 (ρ 0)) 16 x16) w)
theorem dispatcherref11_World_L0_eq (z : At) (K : Exit → Sl → World → Prop) (ρ : Sl) (w : World) : sx z Tryd.prog 26 dispatcherref11_World_L0 K ρ w = dispatcherref11_World_L0_F z K ρ w := by kernel_rfl
theorem dispatcherref11_World_L0_ok : dstOk 26 dispatcherref11_World_L0 = true := by kernel_rfl
noncomputable def dispatcherref11_World_R1_F (z : At) (K : Exit → Sl → World → Prop) (ρ : Sl) (w : World) : Prop :=
  VK Tryd.prog (Instr.loadAt 32 (ρ 4)) w fun x25 w => UK Tryd.prog (Instr.storeAt 32 (ρ 2) x25) w fun _ w => K .ret (up (up ρ 25 x25) 3 (Value.int .i64 0)) w
theorem dispatcherref11_World_R1_eq (z : At) (K : Exit → Sl → World → Prop) (ρ : Sl) (w : World) : sx z Tryd.prog 26 dispatcherref11_World_R1 K ρ w = dispatcherref11_World_R1_F z K ρ w := by kernel_rfl
noncomputable def dispatcherref11_World_F (a0 : Value) (w : World) (R : Value → World → Prop) : Prop :=
  VK Tryd.prog (Instr.alloc 32 true (.tuple #[])) w fun x2 w => BK Tryd.prog .lss 3 (.tmp 6) (.const (Value.int .i64 1)) a0 (Value.int .i64 1) w fun x7 w => MG Tryd.prog x7 false a0 w fun x9 w => BG Tryd.prog x7 false .gtr 3 (.tmp 9) (.const (Value.int .i64 64)) x9 (Value.int .i64 64) w fun x10 w => PK Tryd.prog x7 (Value.bool true) x10 w fun x11 w => CondK x11 (VK Tryd.prog (Instr.build 32 [].toArray) w fun x12 w => UK Tryd.prog (Instr.storeAt 32 x2 x12) w fun _ w => ∃ x2_1, (do loadVar 32 (← asAddr x2) : Sem Value).run Tryd.prog w = .ok x2_1 w ∧ R (Value.tuple #[x2_1, (Value.int .i64 2)]) w) (VK Tryd.prog (Instr.build 32 [].toArray) w fun x13 w => VK Tryd.prog (Instr.alloc 32 true (.tuple #[])) w fun x4 w => UK Tryd.prog (Instr.storeAt 32 x4 x13) w fun _ w => W fn_ Tryd.prog 26 (Code.loop dispatcherref11_World_L0) (blkK 0 (seqK (sx fn_ Tryd.prog 26 dispatcherref11_World_R1 (retK Tryd.prog [ResultVar.cell 2 32, ResultVar.tmp 3] R)) (retK Tryd.prog [ResultVar.cell 2 32, ResultVar.tmp 3] R))) (up (up (up (up (up (up (up (up (up (up (up (rho0 [a0]) 2 x2) 3 (Value.int .i64 0)) 6 a0) 7 x7) 8 x7) 9 x9) 10 x10) 11 x11) 13 x13) 4 x4) 5 (Value.int .i64 0)) w)
theorem dispatcherref11_World_eq (a0 : Value) (w : World) (R : Value → World → Prop) : sx fn_ Tryd.prog 26 dispatcherref11_World_b (retK Tryd.prog Tryd.f60.results.toList R) (rho0 [a0]) w = dispatcherref11_World_F a0 w R := by kernel_rfl
theorem dispatcherref11_World_calls {a0 : Value} {w : World} {R : Value → World → Prop} (h : dispatcherref11_World_F a0 w R) : Calls Tryd.prog 60 #[a0] w fun e w' => ∃ v, e = .returned v ∧ R v w' :=
  Go.X.calls_of_sx (n := 26) (c := dispatcherref11_World_b) Tryd.func60 (by kernel_rfl) (by kernel_rfl) (Nat.le_of_ble_eq_true rfl) (by kernel_rfl) (Eq.mpr (dispatcherref11_World_eq a0 w R) h)
end Go.Proofs.YtandbmnhghmcgaaDoor.XG
