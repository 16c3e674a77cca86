/- Several texts of this repo, one behind the other, without what is not used here. -/
import Derived.Maps.RangeRun
import Derived.Shelf.Sort.Plain
import Derived.Test.YtnaoiekpfaganaaProg
import Derived.Shelf.Slices.In.SortNone
import Derived.Sort.OwnSortedInts
import Derived.Test.YtnaoiekpfaganaaBO2
set_option linter.unusedVariables false
set_option linter.unusedSimpArgs false
set_option maxRecDepth 4000
namespace Go.Proofs.Ytnaoiekpfaganaa.Que
open Go Go.X Go.RowKit Go.Proofs.Ytnaoiekpfaganaa.XF Go.Proofs.Ytnaoiekpfaganaa.XK
section
variable {w : World} {g cap : Nat} {K : Exit → Sl → World → Prop} {ρ : Sl}
theorem ins_L1 {P T Z : List Ms} {x : Ms} {n : Nat} (hT : SortedL ltM T) (h : Dat w g cap (P ++ (T ++ x :: Z))) (hn : n = (P ++ (T ++ x :: Z)).length) (hl : n ≤ 1000000) (e0 : ρ 0 = dv g cap n) (e1 : ρ 1 = .int .i64 P.length) (e3 : ρ 3 = ordF) (e9 : ρ 9 = .int .i64 ((P.length + T.length : Nat) : Int))
    (hk : ∀ ρ' w' T1 T2, T = T1 ++ T2 → (∀ a ∈ T1, ltM x a = false) → (∀ b ∈ T2, ltM x b = true) → ρ' 0 = ρ 0 → ρ' 1 = ρ 1 → ρ' 2 = ρ 2 → ρ' 3 = ρ 3 → ρ' 8 = ρ 8 → Dat w' g cap (P ++ ((T1 ++ x :: T2) ++ Z)) → Mod (fun b => b = g) w w' → K (.exit 2) ρ' w') :
    W fn_ Try.prog 53 (Code.loop slices_insertionSortCmpFunc_queue_Message_L1) K ρ w := by
  subst hn
  refine W_loop slices_insertionSortCmpFunc_queue_Message_L1_ok (fun ρ' w' => ∃ T1 T2, T = T1 ++ T2 ∧ (∀ b ∈ T2, ltM x b = true) ∧ ρ' 0 = ρ 0 ∧ ρ' 1 = ρ 1 ∧ ρ' 2 = ρ 2 ∧ ρ' 3 = ρ 3 ∧ ρ' 8 = ρ 8 ∧ ρ' 9 = .int .i64 ((P.length + T1.length : Nat) : Int) ∧ Dat w' g cap (P ++ ((T1 ++ x :: T2) ++ Z)) ∧ Mod (fun b => b = g) w w') (fun ρ' _ => (intOf (ρ' 9)).toNat)
    ⟨T, [], by simp, by simp, rfl, rfl, rfl, rfl, rfl, e9, by simpa using h, Mod.refl _ _⟩ ?_
  rintro ρ' w' ⟨T1, T2, rfl, h2, q0, q1, q2, q3, q8, q9, hD, hm⟩
  rw [slices_insertionSortCmpFunc_queue_Message_L1_eq]; unfold slices_insertionSortCmpFunc_queue_Message_L1_F
  have hlen : (P ++ ((T1 ++ x :: T2) ++ Z)).length = (P ++ ((T1 ++ T2) ++ x :: Z)).length := by simp; omega
  have hll : (P ++ ((T1 ++ x :: T2) ++ Z)).length = P.length + T1.length + 1 + T2.length + Z.length := by simp; omega
  have xit : ∀ (ρ'' : Sl) (w'' : World), (∀ a ∈ T1, ltM x a = false) → ρ'' 0 = ρ' 0 → ρ'' 1 = ρ' 1 → ρ'' 2 = ρ' 2 → ρ'' 3 = ρ' 3 → ρ'' 8 = ρ' 8 → ρ'' 9 = ρ' 9 → ρ'' 34 = .bool false → Mod none_ w' w'' → ∀ {N : Sl → World → Prop} {KK : Exit → Sl → World → Prop}, KK (.exit 2) ρ'' w'' → sx fn_ Try.prog 53 slices_insertionSortCmpFunc_queue_Message_R4 (seqK N KK) ρ'' w'' := fun ρ'' w'' _ _ _ _ _ _ _ a34 _ N KK hK => by
    rw [slices_insertionSortCmpFunc_queue_Message_R4_eq]; unfold slices_insertionSortCmpFunc_queue_Message_R4_F
    rw [a34]
    exact condF hK
  refine ins_R3 (j := ((P.length + T1.length : Nat) : Int)) (a := (P.length : Int)) (P ++ ((T1 ++ x :: T2) ++ Z)) hD (by omega) (by rw [q0, e0, hlen]) (q1.trans e1) (q3.trans e3) q9 (by omega) ?_ ?_
  · intro hj ρ'' w'' a0 a1 a2 a3 a8 a9 a34 hm2
    have hT1 : T1 = [] := List.eq_nil_of_length_eq_zero (by omega)
    subst hT1
    rw [sq_n]
    refine xit ρ'' w'' (by simp) a0 a1 a2 a3 a8 a9 a34 hm2 ?_
    exact hk ρ'' w'' [] T2 rfl (by simp) h2 (a0.trans q0) (a1.trans q1) (a2.trans q2) (a3.trans q3) (a8.trans q8) (hD.calm hm2) (hm.trans (hm2.mono fun _ _ z => z.elim))
  · intro hj
    obtain ⟨T1', y, rfl⟩ : ∃ T1' y, T1 = T1' ++ [y] := by
      rcases List.eq_nil_or_concat T1 with z | ⟨a, b, z⟩
      · subst z; simp at hj
      · exact ⟨a, b, by simpa using z⟩
    have eL : P ++ (((T1' ++ [y]) ++ x :: T2) ++ Z) = (P ++ T1') ++ y :: x :: (T2 ++ Z) := by simp
    have eS : (P ++ T1') ++ x :: y :: (T2 ++ Z) = P ++ ((T1' ++ x :: (y :: T2)) ++ Z) := by simp
    have hPT : (P ++ T1').length = P.length + T1'.length := by simp
    refine ⟨P.length + T1'.length, x, y, by simp; omega, by rw [eL, ← hPT]; exact get_mid2, by rw [eL, ← hPT]; exact get_mid, ?_⟩
    intro ρ'' w'' a0 a1 a2 a3 a8 a9 a34 hm2
    rw [sq_n]
    cases hc : ltM x y with
    | false =>
      rw [hc] at a34
      refine xit ρ'' w'' ?_ a0 a1 a2 a3 a8 a9 a34 hm2 ?_
      · intro a ha
        rcases List.mem_append.1 ha with z | z
        · have hs := List.pairwise_append.1 (List.pairwise_append.1 hT).1
          exact ltM_wo.tr a y x (hs.2.2 a z y (by simp)) hc
        · rw [List.mem_singleton.1 z]; exact hc
      · refine hk ρ'' w'' (T1' ++ [y]) T2 rfl ?_ h2 (a0.trans q0) (a1.trans q1) (a2.trans q2) (a3.trans q3) (a8.trans q8) (hD.calm hm2) (hm.trans (hm2.mono fun _ _ z => z.elim))
        intro a ha
        rcases List.mem_append.1 ha with z | z
        · have hs := List.pairwise_append.1 (List.pairwise_append.1 hT).1
          exact ltM_wo.tr a y x (hs.2.2 a z y (by simp)) hc
        · rw [List.mem_singleton.1 z]; exact hc
    | true =>
      rw [hc] at a34
      rw [slices_insertionSortCmpFunc_queue_Message_R4_eq]; unfold slices_insertionSortCmpFunc_queue_Message_R4_F
      rw [a34]
      refine condT ?_
      rw [sq_n, slices_insertionSortCmpFunc_queue_Message_R5_eq]; unfold slices_insertionSortCmpFunc_queue_Message_R5_F
      have hD2 := hD.calm hm2
      rw [eL] at hD2
      refine ins_R6 (A := P ++ T1') (B := T2 ++ Z) (x := x) (y := y) hD2 (by rw [← eL, hlen]) hl (a0.trans (q0.trans e0)) (by rw [a9, q9]; congr 1; simp; omega) ?_
      intro ρ3 w3 b0 b1 b2 b3 b8 b9 hD3 hm3 hz3
      rw [bk_n, sq_n, slices_insertionSortCmpFunc_queue_Message_R7_eq]; unfold slices_insertionSortCmpFunc_queue_Message_R7_F
      rw [b9, a9, q9, BK_sub, wrap_i (by omega) (by omega)]
      rw [eS] at hD3
      refine ⟨⟨T1', y :: T2, by simp, ?_, b0.trans (a0.trans q0), b1.trans (a1.trans q1), b2.trans (a2.trans q2), b3.trans (a3.trans q3), b8.trans (a8.trans q8), ?_, hD3, (hm.trans (hm2.mono fun _ _ z => z.elim)).trans hm3⟩, ?_⟩
      · intro b hb
        rcases List.mem_cons.1 hb with rfl | z
        · exact hc
        · exact h2 b z
      · show Value.int .i64 _ = _
        congr 1; simp; omega
      · show (intOf (.int .i64 _)).toNat < (intOf (.int .i64 _)).toNat
        simp only [intOf, List.length_append, List.length_cons, List.length_nil]
        omega
theorem insSort_ok {P X R : List Ms} {n : Nat} (h : Dat w g cap (P ++ (X ++ R))) (hn : n = (P ++ (X ++ R)).length) (hl : n ≤ 1000000) :
    Rt Try.prog 52 #[dv g cap n, .int .i64 P.length, .int .i64 ((P.length + X.length : Nat) : Int), ordF] w fun _ w' => ∃ S, Stab ltM X S ∧ Dat w' g cap (P ++ (S ++ R)) ∧ Mod (fun b => b = g) w w' := by
  subst hn
  refine slices_insertionSortCmpFunc_queue_Message_calls ?_
  unfold slices_insertionSortCmpFunc_queue_Message_F
  have hll : (P ++ (X ++ R)).length = P.length + X.length + R.length := by simp; omega
  rw [BK_add, wrap_i (by omega) (by omega)]
  cases X with
  | nil =>
    refine W_loop slices_insertionSortCmpFunc_queue_Message_L0_ok (fun ρ' w' => ρ' 8 = .int .i64 ((P.length : Int) + 1) ∧ ρ' 2 = .int .i64 ((P.length + 0 : Nat) : Int) ∧ w' = w) (fun _ _ => 0) ⟨rfl, rfl, rfl⟩ ?_
    rintro ρ' w' ⟨q8, q2, rfl⟩
    rw [slices_insertionSortCmpFunc_queue_Message_L0_eq]; unfold slices_insertionSortCmpFunc_queue_Message_L0_F
    rw [q8, q2, BK_lss, decide_eq_false (by omega)]
    refine condF ?_
    rw [sq_x, bk_x]
    exact ⟨[], ⟨List.Pairwise.nil, fun _ => rfl⟩, h, Mod.refl _ _⟩
  | cons x0 X =>
    refine W_loop slices_insertionSortCmpFunc_queue_Message_L0_ok (fun ρ' w' => ∃ X1 X2 S1, x0 :: X = X1 ++ X2 ∧ Stab ltM X1 S1 ∧ ρ' 0 = dv g cap (P ++ (x0 :: X ++ R)).length ∧ ρ' 1 = .int .i64 P.length ∧ ρ' 2 = .int .i64 ((P.length + (x0 :: X).length : Nat) : Int) ∧ ρ' 3 = ordF ∧ ρ' 8 = .int .i64 ((P.length + X1.length : Nat) : Int) ∧ Dat w' g cap (P ++ (S1 ++ (X2 ++ R))) ∧ Mod (fun b => b = g) w w') (fun ρ' _ => (P.length + (x0 :: X).length) - (intOf (ρ' 8)).toNat)
      ⟨[x0], X, [x0], rfl, Stab.refl (List.pairwise_singleton _ _), rfl, rfl, rfl, rfl, rfl, h, Mod.refl _ _⟩ ?_
    rintro ρ' w' ⟨X1, X2, S1, hX, hS, q0, q1, q2, q3, q8, hD, hm⟩
    rw [slices_insertionSortCmpFunc_queue_Message_L0_eq]; unfold slices_insertionSortCmpFunc_queue_Message_L0_F
    rw [q8, q2, BK_lss]
    have hxl : (x0 :: X).length = X.length + 1 := rfl
    have hlX : (x0 :: X).length = X1.length + X2.length := by rw [hX, List.length_append]
    have hlS : S1.length = X1.length := Stab.len ltM_wo hS.eq
    have hnn : (P ++ (x0 :: X ++ R)).length = P.length + (x0 :: X).length + R.length := hll
    cases X2 with
    | nil =>
      rw [decide_eq_false (by simp only [List.length_nil] at hlX; omega)]
      refine condF ?_
      rw [sq_x, bk_x]
      rw [List.append_nil] at hX
      rw [List.nil_append] at hD
      exact ⟨S1, hX ▸ hS, hD, hm⟩
    | cons x X2 =>
      rw [decide_eq_true (by simp only [List.length_cons] at hlX ⊢; omega)]
      refine condT ?_
      refine ins_L1 (P := P) (T := S1) (Z := X2 ++ R) (x := x) (n := (P ++ (x0 :: X ++ R)).length) hS.so (by simpa using hD) (by simp only [List.length_append, List.length_cons] at hlX ⊢; omega) hl q0 q1 q3 (by show Value.int .i64 _ = _; rw [hlS]) ?_
      intro ρ2 w2 T1 T2 hT h1 h2 a0 a1 a2 a3 a8 hD2 hm2
      rw [bk_x, bk_n, sq_n, slices_insertionSortCmpFunc_queue_Message_R2_eq]; unfold slices_insertionSortCmpFunc_queue_Message_R2_F
      have e8 : ρ2 8 = .int .i64 ((P.length + X1.length : Nat) : Int) := a8.trans q8
      rw [e8, BK_add, wrap_i (by simp only [List.length_cons] at hlX; omega) (by simp only [List.length_cons] at hlX; omega)]
      refine ⟨⟨X1 ++ [x], X2, T1 ++ x :: T2, by rw [hX]; simp, ?_, a0.trans q0, a1.trans q1, a2.trans q2, a3.trans q3, ?_, hD2, hm.trans hm2⟩, ?_⟩
      · have hs := stab_ins ltM_wo (S1 := T1) (S2 := T2) (x := x) (hT ▸ hS.so) h1 h2
        refine Stab.trans (m := (T1 ++ T2) ++ [x]) (fun z => ?_) hs
        rw [← hT, List.filter_append, List.filter_append, hS.eq]
      · show Value.int .i64 _ = _
        congr 1; simp; omega
      · show _ - (intOf (.int .i64 _)).toNat < _ - (intOf (.int .i64 _)).toNat
        simp only [intOf, List.length_cons] at hlX ⊢
        omega
end
end Go.Proofs.Ytnaoiekpfaganaa.Que
set_option linter.unusedVariables false
set_option linter.unusedSimpArgs false
set_option maxRecDepth 4000
namespace Go.X
theorem far_1 {α : Type} {A M B : List α} {u v : α} : (A ++ u :: (M ++ v :: B))[A.length]? = some u := by simp
theorem far_2 {α : Type} {A M B : List α} {u v : α} : (A ++ u :: (M ++ v :: B))[A.length + 1 + M.length]? = some v := by
  rw [List.getElem?_append_right (by omega), show A.length + 1 + M.length - A.length = M.length + 1 by omega]; simp
theorem far_set {α : Type} {A M B : List α} {u v : α} : ((A ++ u :: (M ++ v :: B)).set A.length v).set (A.length + 1 + M.length) u = A ++ v :: (M ++ u :: B) := by
  rw [List.set_append_right _ _ (by omega), List.set_append_right _ _ (by omega), show A.length + 1 + M.length - A.length = M.length + 1 by omega, Nat.sub_self, List.set_cons_zero, List.set_cons_succ, List.set_append_right _ _ (by omega)]
  simp
end Go.X
namespace Go.Proofs.Ytnaoiekpfaganaa.Que
open Go Go.X Go.RowKit Go.Proofs.Ytnaoiekpfaganaa.XF Go.Proofs.Ytnaoiekpfaganaa.XK
section
variable {w : World} {g cap : Nat} {K : Exit → Sl → World → Prop} {ρ : Sl}
theorem swr_R1 {A M B : List Ms} {u v : Ms} {n : Nat} {a b i : Int} (h : Dat w g cap (A ++ u :: (M ++ v :: B))) (hn : n = (A ++ u :: (M ++ v :: B)).length) (hl : n ≤ 1000000) (e0 : ρ 0 = dv g cap n) (e1 : ρ 1 = .int .i64 a) (e2 : ρ 2 = .int .i64 b) (e10 : ρ 10 = .int .i64 i)
    (ha : a + i = (A.length : Int)) (hb : b + i = ((A.length + 1 + M.length : Nat) : Int))
    (hk : ∀ ρ' w', ρ' 0 = ρ 0 → ρ' 1 = ρ 1 → ρ' 2 = ρ 2 → ρ' 3 = ρ 3 → ρ' 10 = ρ 10 → Dat w' g cap (A ++ v :: (M ++ u :: B)) → Mod (fun b => b = g) w w' → K .normal ρ' w') : W fn_ Try.prog 38 slices_swapRangeCmpFunc_queue_Message_R1 K ρ w := by
  refine slices_swapRangeCmpFunc_queue_Message_R1_held (D := []) (fun _ => True) trivial ?_
  have hd : Mod none_ w { w with drawn := w.drawn + 1 } := (Mod.refl _ w).drawn _
  have hdz : ({ w with drawn := w.drawn + 1 } : World).heap.size = w.heap.size := rfl
  generalize ({ w with drawn := w.drawn + 1 } : World) = wd at *
  unfold slices_swapRangeCmpFunc_queue_Message_R1_H
  subst hn
  have hlen : (A ++ u :: (M ++ v :: B)).length = A.length + (M.length + B.length + 2) := by simp; omega
  have hD := h.calm hd
  rw [e0, e1, e2, e10]
  have sa : IntKind.i64.wrap (a + i) = (A.length : Int) := by rw [ha, wrap_i (by omega) (by omega)]
  have sb : IntKind.i64.wrap (b + i) = ((A.length + 1 + M.length : Nat) : Int) := by rw [hb, wrap_i (by omega) (by omega)]
  refine Hadd (Hadd (Hadd ?_))
  rw [sa, sb]
  refine HV_of (fun w' _ => Dat.ix rfl (by omega) w') (Hadd ?_)
  rw [sa]
  refine HV_of (fun w' _ => Dat.ix rfl (by omega) w') ?_
  have fin : ∀ {K' : Value → Value → Value → World → Prop}, (∀ x51 x52 w', Dat w' g cap (A ++ v :: (M ++ u :: B)) → Mod (fun b => b = g) w w' → K' x51 x52 undef w') →
      HK Try.prog (fun _ => True) (do pure (Next.value (← Instr.indexAt tMsS (dv g cap (A ++ u :: (M ++ v :: B)).length) (.int .i64 (A.length : Int))))) fun x51 => UK Try.prog (Instr.storeAt tMs x51 (.agg v.enc.toArray)) wd fun _ w => True ∧ (HK Try.prog (fun _ => True) (do pure (Next.value (← Instr.indexAt tMsS (dv g cap (A ++ u :: (M ++ v :: B)).length) (.int .i64 ((A.length + 1 + M.length : Nat) : Int))))) fun x52 => UK Try.prog (Instr.storeAt tMs x52 (.agg u.enc.toArray)) w fun z w => True ∧ K' x51 x52 z w) := fun {K'} hK => by
    refine HV_of (fun w' _ => Dat.ix (i := A.length) rfl (by omega) w') (hD.st (by omega) fun w1 h1 hm1 hz1 => ⟨trivial, ?_⟩)
    refine HV_of (fun w' _ => Dat.ix (i := A.length + 1 + M.length) rfl (by omega) w') (h1.st (by rw [List.length_set]; omega) fun w2 h2 hm2 hz2 => ⟨trivial, ?_⟩)
    rw [far_set] at h2
    exact hK _ _ w2 h2 (((hd.mono fun _ _ z => z.elim).trans hm1).trans hm2)
  refine ⟨hD.ld far_2 ⟨trivial, hD.ld far_1 ⟨trivial, ?_⟩⟩, hD.ld far_1 ⟨trivial, hD.ld far_2 ⟨trivial, ?_⟩⟩⟩
  · exact fin fun _ _ w' a b => hk _ w' (by first | exact e0.symm | rfl) (by first | exact e1.symm | rfl) (by first | exact e2.symm | rfl) rfl (by first | exact e10.symm | rfl) a b
  · exact fin fun _ _ w' a b => hk _ w' (by first | exact e0.symm | rfl) (by first | exact e1.symm | rfl) (by first | exact e2.symm | rfl) rfl (by first | exact e10.symm | rfl) a b
theorem swr_ok {A U M V B : List Ms} {n : Nat} {a b : Int} (h : Dat w g cap (A ++ (U ++ (M ++ (V ++ B))))) (hn : n = (A ++ (U ++ (M ++ (V ++ B)))).length) (hl : n ≤ 1000000) (hUV : U.length = V.length) (ha : a = (A.length : Int)) (hb : b = ((A.length + U.length + M.length : Nat) : Int)) :
    Rt Try.prog 73 #[dv g cap n, .int .i64 a, .int .i64 b, .int .i64 U.length, ordF] w fun _ w' => Dat w' g cap (A ++ (V ++ (M ++ (U ++ B)))) ∧ Mod (fun b => b = g) w w' := by
  refine slices_swapRangeCmpFunc_queue_Message_calls ?_
  unfold slices_swapRangeCmpFunc_queue_Message_F
  have hll : n = A.length + U.length + M.length + V.length + B.length := by rw [hn]; simp; omega
  refine W_loop slices_swapRangeCmpFunc_queue_Message_L0_ok (fun ρ' w' => ∃ U1 U2 V1 V2, U = U1 ++ U2 ∧ V = V1 ++ V2 ∧ U1.length = V1.length ∧ ρ' 0 = dv g cap n ∧ ρ' 1 = .int .i64 a ∧ ρ' 2 = .int .i64 b ∧ ρ' 3 = .int .i64 U.length ∧ ρ' 10 = .int .i64 U1.length ∧ Dat w' g cap (A ++ (V1 ++ (U2 ++ (M ++ (U1 ++ (V2 ++ B)))))) ∧ Mod (fun b => b = g) w w') (fun ρ' _ => U.length - (intOf (ρ' 10)).toNat)
    ⟨[], U, [], V, rfl, rfl, rfl, rfl, rfl, rfl, rfl, rfl, h, Mod.refl _ _⟩ ?_
  rintro ρ' w' ⟨U1, U2, V1, V2, hU, hV, h1, q0, q1, q2, q3, q10, hD, hm⟩
  rw [slices_swapRangeCmpFunc_queue_Message_L0_eq]; unfold slices_swapRangeCmpFunc_queue_Message_L0_F
  rw [q10, q3, BK_lss]
  have lU : U.length = U1.length + U2.length := by rw [hU, List.length_append]
  have lV : V.length = V1.length + V2.length := by rw [hV, List.length_append]
  cases U2 with
  | nil =>
    have : V2 = [] := List.eq_nil_of_length_eq_zero (by simp only [List.length_nil] at lU; omega)
    subst this
    rw [decide_eq_false (by simp only [List.length_nil] at lU; omega)]
    refine condF ?_
    rw [sq_x, bk_x]
    rw [List.append_nil] at hU hV
    subst hU hV
    exact ⟨by simpa using hD, hm⟩
  | cons u U2 =>
    cases V2 with
    | nil => simp only [List.length_nil, List.length_cons] at lU lV; omega
    | cons v V2 =>
      simp only [List.length_cons] at lU lV
      rw [decide_eq_true (by omega)]
      refine condT ?_
      have eL : A ++ (V1 ++ (u :: U2 ++ (M ++ (U1 ++ (v :: V2 ++ B))))) = (A ++ V1) ++ u :: ((U2 ++ M ++ U1) ++ v :: (V2 ++ B)) := by simp
      have eS : (A ++ V1) ++ v :: ((U2 ++ M ++ U1) ++ u :: (V2 ++ B)) = A ++ ((V1 ++ [v]) ++ (U2 ++ (M ++ ((U1 ++ [u]) ++ (V2 ++ B))))) := by simp
      rw [eL] at hD
      refine swr_R1 (A := A ++ V1) (M := U2 ++ M ++ U1) (B := V2 ++ B) (u := u) (v := v) (n := n) (a := a) (b := b) (i := U1.length) hD (by rw [hll]; simp only [List.length_append, List.length_cons]; omega) hl q0 q1 q2 q10 (by rw [ha, List.length_append]; omega) (by rw [hb]; simp only [List.length_append]; omega) ?_
      intro ρ2 w2 a0 a1 a2 a3 a10 hD2 hm2
      rw [bk_n, sq_n, slices_swapRangeCmpFunc_queue_Message_R2_eq]; unfold slices_swapRangeCmpFunc_queue_Message_R2_F
      have e10 : ρ2 10 = .int .i64 U1.length := a10.trans q10
      rw [e10, BK_add, wrap_i (by omega) (by omega)]
      rw [eS] at hD2
      refine ⟨⟨U1 ++ [u], U2, V1 ++ [v], V2, by rw [hU]; simp, by rw [hV]; simp, by simp [h1], a0.trans q0, a1.trans q1, a2.trans q2, a3.trans q3, ?_, hD2, hm.trans hm2⟩, ?_⟩
      · show Value.int .i64 _ = _
        congr 1; simp
      · show U.length - (intOf (.int .i64 _)).toNat < _ - (intOf (.int .i64 _)).toNat
        simp only [intOf]
        omega
theorem rot_ok {A U V B : List Ms} {n : Nat} {a m b : Int} (h : Dat w g cap (A ++ (U ++ (V ++ B)))) (hn : n = (A ++ (U ++ (V ++ B))).length) (hl : n ≤ 1000000) (hU : 0 < U.length) (hV : 0 < V.length) (ha : a = (A.length : Int)) (hm : m = a + U.length) (hb : b = m + V.length) :
    Rt Try.prog 67 #[dv g cap n, .int .i64 a, .int .i64 m, .int .i64 b, ordF] w fun _ w' => Dat w' g cap (A ++ (V ++ (U ++ B))) ∧ Mod (fun b => b = g) w w' := by
  refine slices_rotateCmpFunc_queue_Message_calls ?_
  unfold slices_rotateCmpFunc_queue_Message_F
  have hll : n = A.length + U.length + V.length + B.length := by rw [hn]; simp; omega
  rw [BK_sub, wrap_i (by omega) (by omega), BK_sub, wrap_i (by omega) (by omega)]
  refine W_loop slices_rotateCmpFunc_queue_Message_L0_ok (fun ρ' w' => ∃ Z1 U' V' Z2, V ++ U = Z1 ++ ((V' ++ U') ++ Z2) ∧ 0 < U'.length ∧ 0 < V'.length ∧ m = ((A.length + Z1.length + U'.length : Nat) : Int) ∧ ρ' 0 = dv g cap n ∧ ρ' 2 = .int .i64 m ∧ ρ' 4 = ordF ∧ ρ' 10 = .int .i64 U'.length ∧ ρ' 11 = .int .i64 V'.length ∧ Dat w' g cap (A ++ (Z1 ++ (U' ++ (V' ++ (Z2 ++ B))))) ∧ Mod (fun b => b = g) w w') (fun ρ' _ => (intOf (ρ' 10)).toNat + (intOf (ρ' 11)).toNat)
    ⟨[], U, V, [], by simp, hU, hV, by rw [hm, ha]; simp, rfl, rfl, rfl, by show Value.int .i64 _ = _; congr 1; omega, by show Value.int .i64 _ = _; congr 1; omega, h, Mod.refl _ _⟩ ?_
  rintro ρ' w' ⟨Z1, U', V', Z2, hZ, u0, v0, hmm, q0, q2, q4, q10, q11, hD, hM⟩
  rw [slices_rotateCmpFunc_queue_Message_L0_eq]; unfold slices_rotateCmpFunc_queue_Message_L0_F
  rw [q10, q11, q0, q2, q4, BK_neq]
  have lZ : V.length + U.length = Z1.length + (V'.length + U'.length + Z2.length) := by have := congrArg List.length hZ; simp only [List.length_append] at this; omega
  have hsub : IntKind.i64.wrap (m - (U'.length : Int)) = ((A.length + Z1.length : Nat) : Int) := by rw [wrap_i (by omega) (by omega)]; omega
  by_cases c : U'.length = V'.length
  · rw [show ((U'.length : Int) != (V'.length : Int)) = false by simp [c]]
    refine condF ?_
    rw [sq_x, bk_x, sq_n, slices_rotateCmpFunc_queue_Message_R1_eq]; unfold slices_rotateCmpFunc_queue_Message_R1_F
    rw [show (up (up (up ρ' 18 (Value.int IntKind.i64 ↑U'.length)) 19 (Value.int IntKind.i64 ↑V'.length)) 20 (Value.bool false)) 2 = .int .i64 m from q2, show (up (up (up ρ' 18 (Value.int IntKind.i64 ↑U'.length)) 19 (Value.int IntKind.i64 ↑V'.length)) 20 (Value.bool false)) 10 = .int .i64 U'.length from q10, show (up (up (up ρ' 18 (Value.int IntKind.i64 ↑U'.length)) 19 (Value.int IntKind.i64 ↑V'.length)) 20 (Value.bool false)) 0 = dv g cap n from q0, show (up (up (up ρ' 18 (Value.int IntKind.i64 ↑U'.length)) 19 (Value.int IntKind.i64 ↑V'.length)) 20 (Value.bool false)) 4 = ordF from q4]
    rw [BK_sub, hsub]
    have e1 : A ++ (Z1 ++ (U' ++ (V' ++ (Z2 ++ B)))) = (A ++ Z1) ++ (U' ++ ([] ++ (V' ++ (Z2 ++ B)))) := by simp
    rw [e1] at hD
    refine CK_st Try.func73 rfl rfl (swr_ok (A := A ++ Z1) (U := U') (M := []) (V := V') (B := Z2 ++ B) hD (by rw [hll]; simp only [List.length_append, List.length_nil]; omega) hl c (by simp) (by rw [hmm]; simp)) ?_
    rintro _ w2 ⟨hD2, hm2⟩
    refine ⟨?_, hM.trans hm2⟩
    have e2 : (A ++ Z1) ++ (V' ++ ([] ++ (U' ++ (Z2 ++ B)))) = A ++ (V ++ (U ++ B)) := by
      have : A ++ (V ++ (U ++ B)) = A ++ ((V ++ U) ++ B) := by simp
      rw [this, hZ]; simp
    rw [← e2]; exact hD2
  · rw [show ((U'.length : Int) != (V'.length : Int)) = true by simp; omega]
    refine condT ?_
    rw [BK_gtr]
    by_cases c2 : V'.length < U'.length
    · rw [decide_eq_true (by omega)]
      refine condT ?_
      rw [BK_sub, hsub]
      obtain ⟨U1, U2, rfl, hU1⟩ : ∃ U1 U2, U' = U1 ++ U2 ∧ U1.length = V'.length := ⟨U'.take V'.length, U'.drop V'.length, (List.take_append_drop _ _).symm, by rw [List.length_take]; omega⟩
      have lU : (U1 ++ U2).length = U1.length + U2.length := List.length_append
      have e1 : A ++ (Z1 ++ ((U1 ++ U2) ++ (V' ++ (Z2 ++ B)))) = (A ++ Z1) ++ (U1 ++ (U2 ++ (V' ++ (Z2 ++ B)))) := by simp
      rw [e1] at hD
      have hsw := swr_ok (w := w') (A := A ++ Z1) (U := U1) (M := U2) (V := V') (B := Z2 ++ B) (n := n) (a := ((A.length + Z1.length : Nat) : Int)) (b := m) hD (by rw [hll]; simp only [List.length_append] at lZ ⊢; omega) hl hU1 (by simp) (by rw [hmm]; simp only [List.length_append]; omega)
      rw [hU1] at hsw
      refine CK_st Try.func73 rfl rfl hsw ?_
      rintro _ w2 ⟨hD2, hm2⟩
      rw [BK_sub, wrap_i (by omega) (by omega)]
      refine ⟨⟨Z1 ++ V', U2, U1, Z2, by rw [hZ]; simp, by omega, by omega, by rw [hmm]; simp only [List.length_append]; omega, q0, q2, q4, ?_, ?_, by simpa using hD2, hM.trans hm2⟩, ?_⟩
      · show Value.int .i64 _ = _
        congr 1; omega
      · show ρ' 11 = _
        rw [q11, hU1]
      · show (intOf (.int .i64 _)).toNat + (intOf (ρ' 11)).toNat < _
        rw [q11]
        simp only [intOf]
        omega
    · rw [decide_eq_false (by omega)]
      refine condF ?_
      have hV' : U'.length < V'.length := by omega
      rw [BK_sub, hsub, BK_add, wrap_i (by omega) (by omega), BK_sub, wrap_i (by omega) (by omega)]
      obtain ⟨V1, V2, rfl, hV2⟩ : ∃ V1 V2, V' = V1 ++ V2 ∧ V2.length = U'.length := ⟨V'.take (V'.length - U'.length), V'.drop (V'.length - U'.length), (List.take_append_drop _ _).symm, by rw [List.length_drop]; omega⟩
      have lV : (V1 ++ V2).length = V1.length + V2.length := List.length_append
      have e1 : A ++ (Z1 ++ (U' ++ ((V1 ++ V2) ++ (Z2 ++ B)))) = (A ++ Z1) ++ (U' ++ (V1 ++ (V2 ++ (Z2 ++ B)))) := by simp
      rw [e1] at hD
      refine CK_st Try.func73 rfl rfl (swr_ok (A := A ++ Z1) (U := U') (M := V1) (V := V2) (B := Z2 ++ B) hD (by rw [hll]; simp only [List.length_append] at lZ ⊢; omega) hl hV2.symm (by simp) (by rw [hmm]; simp only [List.length_append]; omega)) ?_
      rintro _ w2 ⟨hD2, hm2⟩
      rw [BK_sub, wrap_i (by omega) (by omega)]
      refine ⟨⟨Z1, V2, V1, U' ++ Z2, by rw [hZ]; simp, by omega, by omega, by rw [hmm, hV2], q0, q2, q4, ?_, ?_, by simpa using hD2, hM.trans hm2⟩, ?_⟩
      · show ρ' 10 = _
        rw [q10, hV2]
      · show Value.int .i64 _ = _
        congr 1; omega
      · show (intOf (ρ' 10)).toNat + (intOf (.int .i64 _)).toNat < _
        rw [q10]
        simp only [intOf]
        omega
end
end Go.Proofs.Ytnaoiekpfaganaa.Que
set_option linter.unusedVariables false
set_option linter.unusedSimpArgs false
set_option maxRecDepth 4000
namespace Go.X
theorem idx_in {α : Type} {A Y R : List α} {k : Nat} (h : k < Y.length) : (A ++ (Y ++ R))[A.length + k]? = some Y[k] := by
  rw [List.getElem?_append_right (by omega), Nat.add_sub_cancel_left, List.getElem?_append_left h, List.getElem?_eq_getElem h]
end Go.X
namespace Go.Proofs.Ytnaoiekpfaganaa.Que
open Go Go.X Go.RowKit Go.Proofs.Ytnaoiekpfaganaa.XF Go.Proofs.Ytnaoiekpfaganaa.XK
theorem shr_ok {w : World} {K : Value → World → Prop} (x y : Operand) (s : Int) : BK Try.prog .shr 84 x y (.int .u64 s) (.int .u64 1) w K = K (.int .u64 (s / 2)) w := by
  refine BK_of rfl ?_
  simp [go_sem]
theorem conv_k {w : World} {K : Value → World → Prop} {src dst : TypeId} {q k : IntKind} {n : Int} (hs : (Try.prog.underlying src).isSome = true) (hd : Try.prog.underlying dst = some (.int k)) : VK Try.prog (convert src dst (.int q n)) w K = K (.int k (k.wrap n)) w := by
  have ek : Try.prog.intKind dst = k := by simp [Program.intKind, hd]
  have := run_convert_int (P := Try.prog) w src dst q n hs (by rw [ek]; exact hd)
  rw [ek] at this
  exact VK_eq_of this
theorem half_k {w : World} {K : Value → Value → Value → World → Prop} {o1 o2 : Operand} {s : Int} (h0 : 0 ≤ s) (h1 : s < 4611686018427387904) (hK : ∀ x y, K x y (.int .i64 (s / 2)) w) :
    VK Try.prog (convert 3 84 (.int .i64 s)) w fun x w => BK Try.prog .shr 84 o1 o2 x (.int .u64 1) w fun y w => VK Try.prog (convert 84 3 y) w (K x y) := by
  rw [conv_k (k := .u64) (by kernel_rfl) (by kernel_rfl), shr_ok, conv_k (k := .i64) (by kernel_rfl) (by kernel_rfl)]
  rw [show IntKind.i64.wrap (IntKind.u64.wrap s / 2) = s / 2 by
    rw [show IntKind.u64.wrap s = s by rw [IntKind.wrap_u64]; omega, wrap_i (by omega) (by omega)]]
  exact hK _ _
structure SG (ρ ρ' : Sl) : Prop where
  e0 : ρ' 0 = ρ 0
  e1 : ρ' 1 = ρ 1
  e2 : ρ' 2 = ρ 2
  e3 : ρ' 3 = ρ 3
  e4 : ρ' 4 = ρ 4
theorem SG.rfl' {ρ : Sl} : SG ρ ρ := ⟨rfl, rfl, rfl, rfl, rfl⟩
theorem SG.trans {a b c : Sl} (h : SG a b) (k : SG b c) : SG a c := ⟨k.e0.trans h.e0, k.e1.trans h.e1, k.e2.trans h.e2, k.e3.trans h.e3, k.e4.trans h.e4⟩
section
variable {w : World} {g cap n : Nat} {K : Exit → Sl → World → Prop} {ρ : Sl} {P X Y R : List Ms} {x y : Ms}
theorem sm_L0 (h : Dat w g cap ((P ++ [x]) ++ (Y ++ R))) (hn : n = ((P ++ [x]) ++ (Y ++ R)).length) (hl : n ≤ 1000000) (hY : SortedL ltM Y) (e0 : ρ 0 = dv g cap n) (e1 : ρ 1 = .int .i64 P.length) (e4 : ρ 4 = ordF) (e10 : ρ 10 = .int .i64 ((P.length : Int) + 1)) (e11 : ρ 11 = .int .i64 ((P.length : Int) + 1 + Y.length))
    (hk : ∀ ρ' w' Y1 Y2, Y = Y1 ++ Y2 → (∀ a ∈ Y1, ltM a x = true) → (∀ b ∈ Y2, ltM b x = false) → SG ρ ρ' → ρ' 10 = .int .i64 ((P.length : Int) + 1 + Y1.length) → Dat w' g cap ((P ++ [x]) ++ (Y ++ R)) → Mod none_ w w' → K (.exit 0) ρ' w') :
    W fn_ Try.prog 220 (Code.loop slices_symMergeCmpFunc_queue_Message_L0) K ρ w := by
  subst hn
  have hll : ((P ++ [x]) ++ (Y ++ R)).length = P.length + 1 + (Y.length + R.length) := by simp; omega
  have hPx : (P ++ [x]).length = P.length + 1 := by simp
  refine W_loop slices_symMergeCmpFunc_queue_Message_L0_ok (fun ρ' w' => ∃ i j : Nat, i ≤ j ∧ j ≤ Y.length ∧ (i = 0 ∨ ∃ z, Y[i - 1]? = some z ∧ ltM z x = true) ∧ (j = Y.length ∨ ∃ z, Y[j]? = some z ∧ ltM z x = false) ∧ SG ρ ρ' ∧ ρ' 10 = .int .i64 ((P.length : Int) + 1 + i) ∧ ρ' 11 = .int .i64 ((P.length : Int) + 1 + j) ∧ Mod none_ w w') (fun ρ' _ => (intOf (ρ' 11)).toNat - (intOf (ρ' 10)).toNat)
    ⟨0, Y.length, by omega, by omega, .inl rfl, .inl rfl, SG.rfl', by rw [e10]; simp, e11, Mod.refl _ _⟩ ?_
  rintro ρ' w' ⟨i, j, hij, hj, hi0, hj0, hS, q10, q11, hm⟩
  rw [slices_symMergeCmpFunc_queue_Message_L0_eq]; unfold slices_symMergeCmpFunc_queue_Message_L0_F
  rw [q10, q11, BK_lss]
  by_cases c : i < j
  · rw [decide_eq_true (by omega)]
    refine condT ?_
    rw [BK_add, wrap_i (by omega) (by omega)]
    refine half_k (by omega) (by omega) fun _ _ => ?_
    have hh : ((P.length : Int) + 1 + i + ((P.length : Int) + 1 + j)) / 2 = ((P.length + 1 + (i + j) / 2 : Nat) : Int) := by omega
    rw [hh]
    generalize hc : (i + j) / 2 = c' at *
    have hc1 : i ≤ c' ∧ c' < j := by omega
    have q0 := hS.e0.trans e0
    have q1 := hS.e1.trans e1
    have q4 := hS.e4.trans e4
    refine slices_symMergeCmpFunc_queue_Message_R8_quiet (D := []) (fun w'' => Mod none_ w w'') (hm.drawn _) ?_
    unfold slices_symMergeCmpFunc_queue_Message_R8_Q
    simp only [sq_n, sq_x, sq_r, bk_n, bk_r, bk_x, rt_r, rt_n, rs_0, rs_t, pk_1, pk_2, up_at, reduceIte, Nat.reduceEqDiff, q0, q1, q4]
    have gx : ((P ++ [x]) ++ (Y ++ R))[P.length]? = some x := by rw [List.append_assoc]; exact get_mid
    have gc : ((P ++ [x]) ++ (Y ++ R))[P.length + 1 + c']? = some Y[c'] := by rw [← hPx]; exact idx_in (by omega)
    refine QV_of (fun w'' _ => Dat.ix rfl (by omega) w'') (QV_of (fun w'' hw => (h.calm hw).run_ld gc) (QV_of (fun w'' _ => Dat.ix rfl (by omega) w'') (QV_of (fun w'' hw => (h.calm hw).run_ld gx) ?_)))
    refine QC_ord (fun w1 w2 h1 h2 => h1.trans h2) (Qlss ?_)
    rw [ordV_lt]
    intro w'' hm''
    rw [slices_symMergeCmpFunc_queue_Message_R9_eq]; unfold slices_symMergeCmpFunc_queue_Message_R9_F
    simp only [sq_n, sq_x, sq_r, bk_n, bk_r, bk_x, rt_r, rt_n, rs_0, rs_t, pk_1, pk_2, up_at, reduceIte, Nat.reduceEqDiff]
    refine caseC (fun q => ?_) (fun q => ?_)
    · rw [BK_add, wrap_i (by omega) (by omega)]
      refine ⟨⟨c' + 1, j, by omega, hj, .inr ⟨Y[c'], by simp, q⟩, hj0, ⟨by first | exact hS.e0 | exact e0.symm, by first | exact hS.e1 | exact e1.symm, hS.e2, hS.e3, by first | exact hS.e4 | exact e4.symm⟩, ?_, q11, hm''⟩, ?_⟩
      · show Value.int .i64 _ = _
        congr 1 <;> omega
      · show (intOf (ρ' 11)).toNat - (intOf (.int .i64 _)).toNat < _
        rw [q11]
        simp only [intOf]
        omega
    · refine ⟨⟨i, c', by omega, by omega, hi0, .inr ⟨Y[c'], List.getElem?_eq_getElem (by omega), q⟩, ⟨by first | exact hS.e0 | exact e0.symm, by first | exact hS.e1 | exact e1.symm, hS.e2, hS.e3, by first | exact hS.e4 | exact e4.symm⟩, q10, ?_, hm''⟩, ?_⟩
      · show Value.int .i64 _ = _
        congr 1 <;> omega
      · show (intOf (.int .i64 _)).toNat - (intOf (ρ' 10)).toNat < _
        rw [q10]
        simp only [intOf]
        omega
  · rw [decide_eq_false (by omega)]
    refine condF ?_
    obtain rfl : i = j := by omega
    refine hk _ w' (Y.take i) (Y.drop i) (List.take_append_drop _ _).symm ?_ ?_ ⟨hS.e0, hS.e1, hS.e2, hS.e3, hS.e4⟩ ?_ (h.calm hm) hm
    · intro a ha
      obtain ⟨k, hk1, rfl⟩ := List.mem_take_iff_getElem.1 ha
      rcases hi0 with z | ⟨z, hz, hlt⟩
      · omega
      · cases hq : ltM Y[k] x with
        | true => rfl
        | false =>
          have := hY.le_at ltM_wo (i := k) (j := i - 1) (by omega) (List.getElem?_eq_getElem (by omega)) hz
          have := ltM_wo.tr x Y[k] z hq this
          rw [hlt] at this; cases this
    · intro b hb
      obtain ⟨k, hk1, rfl⟩ := List.mem_iff_getElem.1 hb
      rw [List.getElem_drop]
      rw [List.length_drop] at hk1
      rcases hj0 with z | ⟨z, hz, hlt⟩
      · omega
      · have := hY.le_at ltM_wo (i := i) (j := i + k) (by omega) hz (List.getElem?_eq_getElem (by omega))
        exact ltM_wo.tr x z _ hlt this
    · show ρ' 10 = _
      rw [q10, List.length_take, Nat.min_eq_left hj]
theorem sm_L10 {Y1 Z : List Ms} (h : Dat w g cap (P ++ (x :: (Y1 ++ Z)))) (hn : n = (P ++ (x :: (Y1 ++ Z))).length) (hl : n ≤ 1000000) (e0 : ρ 0 = dv g cap n) (e10 : ρ 10 = .int .i64 ((P.length : Int) + 1 + Y1.length)) (e13 : ρ 13 = .int .i64 P.length)
    (hk : ∀ ρ' w', Dat w' g cap (P ++ ((Y1 ++ [x]) ++ Z)) → Mod (fun b => b = g) w w' → K (.exit 2) ρ' w') : W fn_ Try.prog 220 (Code.loop slices_symMergeCmpFunc_queue_Message_L10) K ρ w := by
  subst hn
  have hll : (P ++ (x :: (Y1 ++ Z))).length = P.length + 1 + (Y1.length + Z.length) := by simp; omega
  refine W_loop slices_symMergeCmpFunc_queue_Message_L10_ok (fun ρ' w' => ∃ A B, Y1 = A ++ B ∧ ρ' 0 = dv g cap (P ++ (x :: (Y1 ++ Z))).length ∧ ρ' 10 = .int .i64 ((P.length : Int) + 1 + Y1.length) ∧ ρ' 13 = .int .i64 ((P.length : Int) + A.length) ∧ Dat w' g cap ((P ++ A) ++ x :: (B ++ Z)) ∧ Mod (fun b => b = g) w w') (fun ρ' _ => P.length + Y1.length - (intOf (ρ' 13)).toNat)
    ⟨[], Y1, rfl, e0, e10, by rw [e13]; simp, by simpa using h, Mod.refl _ _⟩ ?_
  rintro ρ' w' ⟨A, B, hA, q0, q10, q13, hD, hm⟩
  rw [slices_symMergeCmpFunc_queue_Message_L10_eq]; unfold slices_symMergeCmpFunc_queue_Message_L10_F
  have lA : Y1.length = A.length + B.length := by rw [hA, List.length_append]
  rw [q10, q13, BK_sub, wrap_i (by omega) (by omega), BK_lss]
  cases B with
  | nil =>
    simp only [List.length_nil] at lA
    rw [decide_eq_false (by omega)]
    refine condF ?_
    rw [sq_x]
    refine hk _ w' ?_ hm
    rw [List.append_nil] at hA
    subst hA
    simpa using hD
  | cons y B =>
    simp only [List.length_cons] at lA
    rw [decide_eq_true (by omega)]
    refine condT ?_
    refine slices_symMergeCmpFunc_queue_Message_R19_held (D := []) (fun _ => True) trivial ?_
    have hd : Mod none_ w' { w' with drawn := w'.drawn + 1 } := (Mod.refl _ w').drawn _
    generalize ({ w' with drawn := w'.drawn + 1 } : World) = wd at *
    unfold slices_symMergeCmpFunc_queue_Message_R19_H
    simp only [sq_n, sq_x, sq_r, bk_n, bk_r, bk_x, rt_r, rt_n, rs_0, rs_t, pk_1, pk_2, up_at, reduceIte, Nat.reduceEqDiff, q0, q13]
    have hDd := hD.calm hd
    have hlen : ((P ++ A) ++ x :: (y :: B ++ Z)).length = (P ++ (x :: (Y1 ++ Z))).length := by rw [hll]; simp; omega
    have hPA : (P ++ A).length = P.length + A.length := by simp
    have s1 : IntKind.i64.wrap ((P.length : Int) + A.length + 1) = ((P.length + A.length + 1 : Nat) : Int) := by rw [wrap_i (by omega) (by omega)]; omega
    refine Hadd (Hadd ?_)
    rw [s1, ← hlen]
    have gx : ((P ++ A) ++ x :: (y :: B ++ Z))[P.length + A.length]? = some x := by rw [← hPA]; exact get_mid
    have gy : ((P ++ A) ++ x :: (y :: B ++ Z))[P.length + A.length + 1]? = some y := by rw [← hPA]; exact get_mid2
    refine HV_of (fun w'' _ => Dat.ix rfl (by omega) w'') (HV_of (fun w'' _ => Dat.ix (i := P.length + A.length) (by omega) (by omega) w'') ?_)
    have fin : ∀ {K' : Value → Value → Value → World → Prop}, (∀ x51 x52 w', Dat w' g cap ((P ++ A) ++ y :: (x :: (B ++ Z))) → Mod (fun b => b = g) w w' → K' x51 x52 undef w') →
        HK Try.prog (fun _ => True) (do pure (Next.value (← Instr.indexAt tMsS (dv g cap ((P ++ A) ++ x :: (y :: B ++ Z)).length) (.int .i64 ((P.length : Int) + A.length))))) fun x51 => UK Try.prog (Instr.storeAt tMs x51 (.agg y.enc.toArray)) wd fun _ w => True ∧ (HK Try.prog (fun _ => True) (do pure (Next.value (← Instr.indexAt tMsS (dv g cap ((P ++ A) ++ x :: (y :: B ++ Z)).length) (.int .i64 ((P.length + A.length + 1 : Nat) : Int))))) fun x52 => UK Try.prog (Instr.storeAt tMs x52 (.agg x.enc.toArray)) w fun z w => True ∧ K' x51 x52 z w) := fun {K'} hK => by
      refine HV_of (fun w' _ => Dat.ix (i := P.length + A.length) (by omega) (by omega) w') (hDd.st (by omega) fun w1 h1 hm1 hz1 => ⟨trivial, ?_⟩)
      refine HV_of (fun w' _ => Dat.ix (i := P.length + A.length + 1) rfl (by omega) w') (h1.st (by rw [List.length_set]; omega) fun w2 h2 hm2 hz2 => ⟨trivial, ?_⟩)
      rw [← hPA] at h2
      have := swap_mid' (A := P ++ A) (B := B ++ Z) (x := y) (y := x)
      rw [show (P ++ A) ++ x :: (y :: B ++ Z) = (P ++ A) ++ x :: y :: (B ++ Z) by simp, this] at h2
      exact hK _ _ w2 h2 (((hm.trans (hd.mono fun _ _ z => z.elim)).trans hm1).trans hm2)
    refine ⟨hDd.ld gy ⟨trivial, hDd.ld gx ⟨trivial, ?_⟩⟩, hDd.ld gx ⟨trivial, hDd.ld gy ⟨trivial, ?_⟩⟩⟩
    · refine fin fun _ _ w4 hD4 hm4 => ?_
      rw [slices_symMergeCmpFunc_queue_Message_R20_eq]; unfold slices_symMergeCmpFunc_queue_Message_R20_F
      simp only [sq_n, sq_x, sq_r, bk_n, bk_r, bk_x, rt_r, rt_n, rs_0, rs_t, pk_1, pk_2, up_at, reduceIte, Nat.reduceEqDiff, q13]
      rw [BK_add, wrap_i (by omega) (by omega)]
      refine ⟨⟨A ++ [y], B, by rw [hA]; simp, ?_, q10, ?_, by simpa using hD4, hm4⟩, ?_⟩
      · first | rfl | exact q0 | (rw [hlen]; exact q0) | (show dv g cap _ = _; rw [hlen])
      · show Value.int .i64 _ = _
        congr 1; simp; omega
      · show P.length + Y1.length - (intOf (.int .i64 _)).toNat < _
        simp only [intOf]
        omega
    · refine fin fun _ _ w4 hD4 hm4 => ?_
      rw [slices_symMergeCmpFunc_queue_Message_R20_eq]; unfold slices_symMergeCmpFunc_queue_Message_R20_F
      simp only [sq_n, sq_x, sq_r, bk_n, bk_r, bk_x, rt_r, rt_n, rs_0, rs_t, pk_1, pk_2, up_at, reduceIte, Nat.reduceEqDiff, q13]
      rw [BK_add, wrap_i (by omega) (by omega)]
      refine ⟨⟨A ++ [y], B, by rw [hA]; simp, ?_, q10, ?_, by simpa using hD4, hm4⟩, ?_⟩
      · first | rfl | exact q0 | (rw [hlen]; exact q0) | (show dv g cap _ = _; rw [hlen])
      · show Value.int .i64 _ = _
        congr 1; simp; omega
      · show P.length + Y1.length - (intOf (.int .i64 _)).toNat < _
        simp only [intOf]
        omega
end
end Go.Proofs.Ytnaoiekpfaganaa.Que
set_option linter.unusedVariables false
set_option linter.unusedSimpArgs false
set_option maxRecDepth 4000
namespace Go.Proofs.Ytnaoiekpfaganaa.Que
open Go Go.X Go.RowKit Go.Proofs.Ytnaoiekpfaganaa.XF Go.Proofs.Ytnaoiekpfaganaa.XK
section
variable {w : World} {g cap n : Nat} {K : Exit → Sl → World → Prop} {ρ : Sl} {P X Y R : List Ms} {x y : Ms}
theorem sm_L3 (h : Dat w g cap (P ++ (X ++ (y :: R)))) (hn : n = (P ++ (X ++ (y :: R))).length) (hl : n ≤ 1000000) (hX : SortedL ltM X) (e0 : ρ 0 = dv g cap n) (e2 : ρ 2 = .int .i64 ((P.length : Int) + X.length)) (e4 : ρ 4 = ordF) (e14 : ρ 14 = .int .i64 P.length) (e15 : ρ 15 = .int .i64 ((P.length : Int) + X.length))
    (hk : ∀ ρ' w' X1 X2, X = X1 ++ X2 → (∀ a ∈ X1, ltM y a = false) → (∀ b ∈ X2, ltM y b = true) → SG ρ ρ' → ρ' 14 = .int .i64 ((P.length : Int) + X1.length) → Dat w' g cap (P ++ (X ++ (y :: R))) → Mod none_ w w' → K (.exit 4) ρ' w') :
    W fn_ Try.prog 220 (Code.loop slices_symMergeCmpFunc_queue_Message_L3) K ρ w := by
  subst hn
  have hll : (P ++ (X ++ (y :: R))).length = P.length + (X.length + (R.length + 1)) := by simp
  refine W_loop slices_symMergeCmpFunc_queue_Message_L3_ok (fun ρ' w' => ∃ i j : Nat, i ≤ j ∧ j ≤ X.length ∧ (i = 0 ∨ ∃ z, X[i - 1]? = some z ∧ ltM y z = false) ∧ (j = X.length ∨ ∃ z, X[j]? = some z ∧ ltM y z = true) ∧ SG ρ ρ' ∧ ρ' 14 = .int .i64 ((P.length : Int) + i) ∧ ρ' 15 = .int .i64 ((P.length : Int) + j) ∧ Mod none_ w w') (fun ρ' _ => (intOf (ρ' 15)).toNat - (intOf (ρ' 14)).toNat)
    ⟨0, X.length, by omega, by omega, .inl rfl, .inl rfl, SG.rfl', by rw [e14]; simp, e15, Mod.refl _ _⟩ ?_
  rintro ρ' w' ⟨i, j, hij, hj, hi0, hj0, hS, q14, q15, hm⟩
  rw [slices_symMergeCmpFunc_queue_Message_L3_eq]; unfold slices_symMergeCmpFunc_queue_Message_L3_F
  rw [q14, q15, BK_lss]
  by_cases c : i < j
  · rw [decide_eq_true (by omega)]
    refine condT ?_
    rw [BK_add, wrap_i (by omega) (by omega)]
    refine half_k (by omega) (by omega) fun _ _ => ?_
    have hh : ((P.length : Int) + i + ((P.length : Int) + j)) / 2 = ((P.length + (i + j) / 2 : Nat) : Int) := by omega
    rw [hh]
    generalize hc : (i + j) / 2 = c' at *
    have hc1 : i ≤ c' ∧ c' < j := by omega
    have q0 := hS.e0.trans e0
    have q2 := hS.e2.trans e2
    have q4 := hS.e4.trans e4
    refine slices_symMergeCmpFunc_queue_Message_R13_quiet (D := []) (fun w'' => Mod none_ w w'') (hm.drawn _) ?_
    unfold slices_symMergeCmpFunc_queue_Message_R13_Q
    simp only [sq_n, sq_x, sq_r, bk_n, bk_r, bk_x, rt_r, rt_n, rs_0, rs_t, pk_1, pk_2, up_at, reduceIte, Nat.reduceEqDiff, q0, q2, q4]
    have gy : (P ++ (X ++ (y :: R)))[P.length + X.length]? = some y := by rw [← List.append_assoc, ← List.length_append]; exact get_mid
    have gc : (P ++ (X ++ (y :: R)))[P.length + c']? = some X[c'] := idx_in (by omega)
    refine QV_of (fun w'' _ => Dat.ix (i := P.length + X.length) (by omega) (by omega) w'') (QV_of (fun w'' hw => (h.calm hw).run_ld gy) (QV_of (fun w'' _ => Dat.ix rfl (by omega) w'') (QV_of (fun w'' hw => (h.calm hw).run_ld gc) ?_)))
    refine QC_ord (fun w1 w2 h1 h2 => h1.trans h2) (Qlss ?_)
    rw [ordV_lt]
    refine QV_of (v := .bool (!ltM y X[c'])) (fun w'' _ => by cases ltM y X[c'] <;> rfl) ?_
    intro w'' hm''
    rw [slices_symMergeCmpFunc_queue_Message_R14_eq]; unfold slices_symMergeCmpFunc_queue_Message_R14_F
    simp only [sq_n, sq_x, sq_r, bk_n, bk_r, bk_x, rt_r, rt_n, rs_0, rs_t, pk_1, pk_2, up_at, reduceIte, Nat.reduceEqDiff]
    refine caseC (fun q => ?_) (fun q => ?_)
    · rw [BK_add, wrap_i (by omega) (by omega)]
      refine ⟨⟨c' + 1, j, by omega, hj, .inr ⟨X[c'], by simp, by simpa using q⟩, hj0, ⟨by first | exact hS.e0 | exact e0.symm, hS.e1, by first | exact hS.e2 | exact e2.symm, hS.e3, by first | exact hS.e4 | exact e4.symm⟩, ?_, q15, hm''⟩, ?_⟩
      · show Value.int .i64 _ = _
        congr 1 <;> omega
      · show (intOf (ρ' 15)).toNat - (intOf (.int .i64 _)).toNat < _
        rw [q15]
        simp only [intOf]
        omega
    · refine ⟨⟨i, c', by omega, by omega, hi0, .inr ⟨X[c'], List.getElem?_eq_getElem (by omega), by simpa using q⟩, ⟨by first | exact hS.e0 | exact e0.symm, hS.e1, by first | exact hS.e2 | exact e2.symm, hS.e3, by first | exact hS.e4 | exact e4.symm⟩, q14, ?_, hm''⟩, ?_⟩
      · show Value.int .i64 _ = _
        congr 1 <;> omega
      · show (intOf (.int .i64 _)).toNat - (intOf (ρ' 14)).toNat < _
        rw [q14]
        simp only [intOf]
        omega
  · rw [decide_eq_false (by omega)]
    refine condF ?_
    obtain rfl : i = j := by omega
    refine hk _ w' (X.take i) (X.drop i) (List.take_append_drop _ _).symm ?_ ?_ ⟨hS.e0, hS.e1, hS.e2, hS.e3, hS.e4⟩ ?_ (h.calm hm) hm
    · intro a ha
      obtain ⟨k, hk1, rfl⟩ := List.mem_take_iff_getElem.1 ha
      rcases hi0 with z | ⟨z, hz, hlt⟩
      · omega
      · have := hX.le_at ltM_wo (i := k) (j := i - 1) (by omega) (List.getElem?_eq_getElem (by omega)) hz
        exact ltM_wo.tr _ z y this hlt
    · intro b hb
      obtain ⟨k, hk1, rfl⟩ := List.mem_iff_getElem.1 hb
      rw [List.getElem_drop]
      rw [List.length_drop] at hk1
      rcases hj0 with z | ⟨z, hz, hlt⟩
      · omega
      · have := hX.le_at ltM_wo (i := i) (j := i + k) (by omega) hz (List.getElem?_eq_getElem (by omega))
        cases hq : ltM y X[i + k] with
        | true => rfl
        | false =>
          have := ltM_wo.tr z _ y this hq
          rw [hlt] at this; cases this
    · show ρ' 14 = _
      rw [q14, List.length_take, Nat.min_eq_left hj]
theorem sm_L15 {X1 X2 : List Ms} (h : Dat w g cap (P ++ (X1 ++ (X2 ++ (y :: R))))) (hn : n = (P ++ (X1 ++ (X2 ++ (y :: R)))).length) (hl : n ≤ 1000000) (e0 : ρ 0 = dv g cap n) (e14 : ρ 14 = .int .i64 ((P.length : Int) + X1.length)) (e17 : ρ 17 = .int .i64 ((P.length : Int) + X1.length + X2.length))
    (hk : ∀ ρ' w', Dat w' g cap (P ++ ((X1 ++ (y :: X2)) ++ R)) → Mod (fun b => b = g) w w' → K (.exit 6) ρ' w') : W fn_ Try.prog 220 (Code.loop slices_symMergeCmpFunc_queue_Message_L15) K ρ w := by
  subst hn
  have hll : (P ++ (X1 ++ (X2 ++ (y :: R)))).length = P.length + (X1.length + (X2.length + (R.length + 1))) := by simp
  refine W_loop slices_symMergeCmpFunc_queue_Message_L15_ok (fun ρ' w' => ∃ A B, X2 = A ++ B ∧ ρ' 0 = dv g cap (P ++ (X1 ++ (X2 ++ (y :: R)))).length ∧ ρ' 14 = .int .i64 ((P.length : Int) + X1.length) ∧ ρ' 17 = .int .i64 ((P.length : Int) + X1.length + A.length) ∧ Dat w' g cap ((P ++ X1 ++ A) ++ y :: (B ++ R)) ∧ Mod (fun b => b = g) w w') (fun ρ' _ => (intOf (ρ' 17)).toNat)
    ⟨X2, [], by simp, e0, e14, e17, by simpa using h, Mod.refl _ _⟩ ?_
  rintro ρ' w' ⟨A, B, hA, q0, q14, q17, hD, hm⟩
  rw [slices_symMergeCmpFunc_queue_Message_L15_eq]; unfold slices_symMergeCmpFunc_queue_Message_L15_F
  have lA : X2.length = A.length + B.length := by rw [hA, List.length_append]
  rw [q14, q17, BK_gtr]
  rcases List.eq_nil_or_concat A with rfl | ⟨A', z, hz⟩
  · simp only [List.length_nil] at lA
    rw [decide_eq_false (by simp)]
    refine condF ?_
    rw [sq_x]
    refine hk _ w' ?_ hm
    rw [List.nil_append] at hA
    subst hA
    simpa using hD
  · have hz' : A = A' ++ [z] := by simpa using hz
    subst hz'
    have lA' : (A' ++ [z]).length = A'.length + 1 := by simp
    rw [decide_eq_true (by omega)]
    refine condT ?_
    refine slices_symMergeCmpFunc_queue_Message_R21_held (D := []) (fun _ => True) trivial ?_
    have hd : Mod none_ w' { w' with drawn := w'.drawn + 1 } := (Mod.refl _ w').drawn _
    generalize ({ w' with drawn := w'.drawn + 1 } : World) = wd at *
    unfold slices_symMergeCmpFunc_queue_Message_R21_H
    simp only [sq_n, sq_x, sq_r, bk_n, bk_r, bk_x, rt_r, rt_n, rs_0, rs_t, pk_1, pk_2, up_at, reduceIte, Nat.reduceEqDiff, q0, q17]
    have eL : (P ++ X1 ++ (A' ++ [z])) ++ y :: (B ++ R) = (P ++ X1 ++ A') ++ z :: y :: (B ++ R) := by simp
    have hDd := hD.calm hd
    rw [eL] at hDd
    have hlen : ((P ++ X1 ++ A') ++ z :: y :: (B ++ R)).length = (P ++ (X1 ++ (X2 ++ (y :: R)))).length := by rw [hll]; simp only [List.length_append, List.length_cons]; omega
    have hPA : (P ++ X1 ++ A').length = P.length + X1.length + A'.length := by simp; omega
    have s1 : IntKind.i64.wrap ((P.length : Int) + X1.length + ((A' ++ [z]).length : Nat) - 1) = ((P.length + X1.length + A'.length : Nat) : Int) := by rw [wrap_i (by omega) (by omega)]; omega
    refine Hsub (Hsub ?_)
    rw [s1, ← hlen]
    have gz : ((P ++ X1 ++ A') ++ z :: y :: (B ++ R))[P.length + X1.length + A'.length]? = some z := by rw [← hPA]; exact get_mid
    have gy : ((P ++ X1 ++ A') ++ z :: y :: (B ++ R))[P.length + X1.length + A'.length + 1]? = some y := by rw [← hPA]; exact get_mid2
    refine HV_of (fun w'' _ => Dat.ix rfl (by omega) w'') (HV_of (fun w'' _ => Dat.ix (i := P.length + X1.length + A'.length + 1) (by omega) (by omega) w'') ?_)
    have fin : ∀ {K' : Value → Value → Value → World → Prop}, (∀ x51 x52 w', Dat w' g cap ((P ++ X1 ++ A') ++ y :: (z :: B ++ R)) → Mod (fun b => b = g) w w' → K' x51 x52 undef w') →
        HK Try.prog (fun _ => True) (do pure (Next.value (← Instr.indexAt tMsS (dv g cap ((P ++ X1 ++ A') ++ z :: y :: (B ++ R)).length) (.int .i64 ((P.length : Int) + X1.length + ((A' ++ [z]).length : Nat)))))) fun x51 => UK Try.prog (Instr.storeAt tMs x51 (.agg z.enc.toArray)) wd fun _ w => True ∧ (HK Try.prog (fun _ => True) (do pure (Next.value (← Instr.indexAt tMsS (dv g cap ((P ++ X1 ++ A') ++ z :: y :: (B ++ R)).length) (.int .i64 ((P.length + X1.length + A'.length : Nat) : Int))))) fun x52 => UK Try.prog (Instr.storeAt tMs x52 (.agg y.enc.toArray)) w fun u w => True ∧ K' x51 x52 u w) := fun {K'} hK => by
      refine HV_of (fun w' _ => Dat.ix (i := P.length + X1.length + A'.length + 1) (by omega) (by omega) w') (hDd.st (by omega) fun w1 h1 hm1 hz1 => ⟨trivial, ?_⟩)
      refine HV_of (fun w' _ => Dat.ix (i := P.length + X1.length + A'.length) rfl (by omega) w') (h1.st (by rw [List.length_set]; omega) fun w2 h2 hm2 hz2 => ⟨trivial, ?_⟩)
      rw [← hPA, swap_mid] at h2
      exact hK _ _ w2 (by simpa using h2) (((hm.trans (hd.mono fun _ _ z => z.elim)).trans hm1).trans hm2)
    refine ⟨hDd.ld gz ⟨trivial, hDd.ld gy ⟨trivial, ?_⟩⟩, hDd.ld gy ⟨trivial, hDd.ld gz ⟨trivial, ?_⟩⟩⟩
    · refine fin fun _ _ w4 hD4 hm4 => ?_
      rw [slices_symMergeCmpFunc_queue_Message_R22_eq]; unfold slices_symMergeCmpFunc_queue_Message_R22_F
      simp only [sq_n, sq_x, sq_r, bk_n, bk_r, bk_x, rt_r, rt_n, rs_0, rs_t, pk_1, pk_2, up_at, reduceIte, Nat.reduceEqDiff, q17]
      rw [BK_sub, wrap_i (by omega) (by omega)]
      refine ⟨⟨A', z :: B, by rw [hA]; simp, ?_, q14, ?_, hD4, hm4⟩, ?_⟩
      · first | rfl | exact q0 | (rw [hlen]; exact q0) | (show dv g cap _ = _; rw [hlen])
      · show Value.int .i64 _ = _
        congr 1; omega
      · show (intOf (.int .i64 _)).toNat < _
        simp only [intOf]
        omega
    · refine fin fun _ _ w4 hD4 hm4 => ?_
      rw [slices_symMergeCmpFunc_queue_Message_R22_eq]; unfold slices_symMergeCmpFunc_queue_Message_R22_F
      simp only [sq_n, sq_x, sq_r, bk_n, bk_r, bk_x, rt_r, rt_n, rs_0, rs_t, pk_1, pk_2, up_at, reduceIte, Nat.reduceEqDiff, q17]
      rw [BK_sub, wrap_i (by omega) (by omega)]
      refine ⟨⟨A', z :: B, by rw [hA]; simp, ?_, q14, ?_, hD4, hm4⟩, ?_⟩
      · first | rfl | exact q0 | (rw [hlen]; exact q0) | (show dv g cap _ = _; rw [hlen])
      · show Value.int .i64 _ = _
        congr 1; omega
      · show (intOf (.int .i64 _)).toNat < _
        simp only [intOf]
        omega
theorem sm_L17 {lo hi N : Nat} (h : Dat w g cap (P ++ (X ++ (Y ++ R)))) (hn : n = (P ++ (X ++ (Y ++ R))).length) (hl : n ≤ 1000000) (e0 : ρ 0 = dv g cap n) (e4 : ρ 4 = ordF) (e20 : ρ 20 = .int .i64 lo) (e21 : ρ 21 = .int .i64 hi) (e22 : ρ 22 = .int .i64 ((N : Int) - 1)) (hlh : lo ≤ hi)
    (h1 : P.length ≤ lo) (h2 : hi ≤ P.length + X.length) (h3 : ∀ c, lo ≤ c → c < hi → P.length + X.length + c + 1 ≤ N ∧ N ≤ P.length + X.length + Y.length + c)
    (hk : ∀ ρ' w' s, lo ≤ s → s ≤ hi → (s = lo ∨ ∃ u v, X[s - 1 - P.length]? = some u ∧ Y[N - s - (P.length + X.length)]? = some v ∧ ltM v u = false) → (s = hi ∨ ∃ u v, X[s - P.length]? = some u ∧ Y[N - 1 - s - (P.length + X.length)]? = some v ∧ ltM v u = true) → SG ρ ρ' → ρ' 18 = ρ 18 → ρ' 19 = ρ 19 → ρ' 20 = .int .i64 s → Dat w' g cap (P ++ (X ++ (Y ++ R))) → Mod none_ w w' → K (.exit 8) ρ' w') :
    W fn_ Try.prog 220 (Code.loop slices_symMergeCmpFunc_queue_Message_L17) K ρ w := by
  subst hn
  have hll : (P ++ (X ++ (Y ++ R))).length = P.length + (X.length + (Y.length + R.length)) := by simp
  refine W_loop slices_symMergeCmpFunc_queue_Message_L17_ok (fun ρ' w' => ∃ i j : Nat, i ≤ j ∧ lo ≤ i ∧ j ≤ hi ∧ (i = lo ∨ ∃ u v, X[i - 1 - P.length]? = some u ∧ Y[N - i - (P.length + X.length)]? = some v ∧ ltM v u = false) ∧ (j = hi ∨ ∃ u v, X[j - P.length]? = some u ∧ Y[N - 1 - j - (P.length + X.length)]? = some v ∧ ltM v u = true) ∧ SG ρ ρ' ∧ ρ' 18 = ρ 18 ∧ ρ' 19 = ρ 19 ∧ ρ' 20 = .int .i64 i ∧ ρ' 21 = .int .i64 j ∧ ρ' 22 = .int .i64 ((N : Int) - 1) ∧ Mod none_ w w') (fun ρ' _ => (intOf (ρ' 21)).toNat - (intOf (ρ' 20)).toNat)
    ⟨lo, hi, hlh, by omega, by omega, .inl rfl, .inl rfl, SG.rfl', rfl, rfl, e20, e21, e22, Mod.refl _ _⟩ ?_
  rintro ρ' w' ⟨i, j, hij, hi1, hj1, hi0, hj0, hS, q18, q19, q20, q21, q22, hm⟩
  rw [slices_symMergeCmpFunc_queue_Message_L17_eq]; unfold slices_symMergeCmpFunc_queue_Message_L17_F
  rw [q20, q21, BK_lss]
  by_cases c : i < j
  · rw [decide_eq_true (by omega)]
    refine condT ?_
    rw [BK_add, wrap_i (by omega) (by omega)]
    refine half_k (by omega) (by omega) fun _ _ => ?_
    have hh : ((i : Int) + j) / 2 = (((i + j) / 2 : Nat) : Int) := by omega
    rw [hh]
    generalize hc : (i + j) / 2 = c' at *
    have hc1 : i ≤ c' ∧ c' < j := by omega
    obtain ⟨b1, b2⟩ := h3 c' (by omega) (by omega)
    have q0 := hS.e0.trans e0
    have q4 := hS.e4.trans e4
    refine slices_symMergeCmpFunc_queue_Message_R23_quiet (D := []) (fun w'' => Mod none_ w w'') (hm.drawn _) ?_
    unfold slices_symMergeCmpFunc_queue_Message_R23_Q
    simp only [sq_n, sq_x, sq_r, bk_n, bk_r, bk_x, rt_r, rt_n, rs_0, rs_t, pk_1, pk_2, up_at, reduceIte, Nat.reduceEqDiff, q0, q22, q4]
    have gx : (P ++ (X ++ (Y ++ R)))[c']? = some X[c' - P.length] := by
      have := idx_in (A := P) (Y := X) (R := Y ++ R) (k := c' - P.length) (by omega)
      rw [show P.length + (c' - P.length) = c' by omega] at this; exact this
    have gy : (P ++ (X ++ (Y ++ R)))[N - 1 - c']? = some Y[N - 1 - c' - (P.length + X.length)] := by
      have := idx_in (A := P ++ X) (Y := Y) (R := R) (k := N - 1 - c' - (P.length + X.length)) (by omega)
      rw [List.length_append, show P.length + X.length + (N - 1 - c' - (P.length + X.length)) = N - 1 - c' by omega, List.append_assoc] at this; exact this
    refine Qsub ?_
    rw [wrap_i (by omega) (by omega)]
    refine QV_of (fun w'' _ => Dat.ix (i := N - 1 - c') (by omega) (by omega) w'') (QV_of (fun w'' hw => (h.calm hw).run_ld gy) (QV_of (fun w'' _ => Dat.ix (i := c') rfl (by omega) w'') (QV_of (fun w'' hw => (h.calm hw).run_ld gx) ?_)))
    refine QC_ord (fun w1 w2 h1 h2 => h1.trans h2) (Qlss ?_)
    rw [ordV_lt]
    refine QV_of (v := .bool (!ltM Y[N - 1 - c' - (P.length + X.length)] X[c' - P.length])) (fun w'' _ => by cases ltM Y[N - 1 - c' - (P.length + X.length)] X[c' - P.length] <;> rfl) ?_
    intro w'' hm''
    rw [slices_symMergeCmpFunc_queue_Message_R24_eq]; unfold slices_symMergeCmpFunc_queue_Message_R24_F
    simp only [sq_n, sq_x, sq_r, bk_n, bk_r, bk_x, rt_r, rt_n, rs_0, rs_t, pk_1, pk_2, up_at, reduceIte, Nat.reduceEqDiff]
    refine caseC (fun q => ?_) (fun q => ?_)
    · rw [BK_add, wrap_i (by omega) (by omega)]
      refine ⟨⟨c' + 1, j, by omega, by omega, hj1, .inr ⟨X[c' - P.length], Y[N - 1 - c' - (P.length + X.length)], ?_, ?_, by simpa using q⟩, hj0, ⟨by first | exact hS.e0 | exact e0.symm, hS.e1, hS.e2, hS.e3, by first | exact hS.e4 | exact e4.symm⟩, q18, q19, ?_, q21, q22, hm''⟩, ?_⟩
      · rw [Nat.add_sub_cancel]; exact List.getElem?_eq_getElem (by omega)
      · rw [show N - (c' + 1) = N - 1 - c' by omega]; exact List.getElem?_eq_getElem (by omega)
      · show Value.int .i64 _ = _
        congr 1
      · show (intOf (ρ' 21)).toNat - (intOf (.int .i64 _)).toNat < _
        rw [q21]
        simp only [intOf]
        omega
    · refine ⟨⟨i, c', by omega, hi1, by omega, hi0, .inr ⟨X[c' - P.length], Y[N - 1 - c' - (P.length + X.length)], List.getElem?_eq_getElem (by omega), List.getElem?_eq_getElem (by omega), by simpa using q⟩, ⟨by first | exact hS.e0 | exact e0.symm, hS.e1, hS.e2, hS.e3, by first | exact hS.e4 | exact e4.symm⟩, q18, q19, q20, rfl, q22, hm''⟩, ?_⟩
      · show (intOf (.int .i64 _)).toNat - (intOf (ρ' 20)).toNat < _
        rw [q20]
        simp only [intOf]
        omega
  · rw [decide_eq_false (by omega)]
    refine condF ?_
    obtain rfl : i = j := by omega
    exact hk _ w' i hi1 hj1 hi0 hj0 ⟨hS.e0, hS.e1, hS.e2, hS.e3, hS.e4⟩ q18 q19 q20 (h.calm hm) hm
end
end Go.Proofs.Ytnaoiekpfaganaa.Que
set_option linter.unusedVariables false
set_option linter.unusedSimpArgs false
set_option maxRecDepth 4000
namespace Go.Proofs.Ytnaoiekpfaganaa.Que
open Go Go.X Go.RowKit Go.Proofs.Ytnaoiekpfaganaa.XF Go.Proofs.Ytnaoiekpfaganaa.XK
def SmP (g cap : Nat) (P X Y R : List Ms) (w w' : World) : Prop := ∃ S, Stab ltM (X ++ Y) S ∧ Dat w' g cap (P ++ (S ++ R)) ∧ Mod (fun b => b = g) w w'
def SmC (g cap N : Nat) : Prop := ∀ {w : World} {P X Y R : List Ms} {n : Nat} {a m b : Int}, X.length + Y.length ≤ N → Dat w g cap (P ++ (X ++ (Y ++ R))) → n = (P ++ (X ++ (Y ++ R))).length → n ≤ 1000000 → SortedL ltM X → SortedL ltM Y → 0 < X.length → 0 < Y.length → a = (P.length : Int) → m = a + X.length → b = m + Y.length →
  Rt Try.prog 53 #[dv g cap n, .int .i64 a, .int .i64 m, .int .i64 b, ordF] w fun _ w' => SmP g cap P X Y R w w'
section
variable {w : World} {g cap n N : Nat} {K : Exit → Sl → World → Prop} {ρ : Sl} {P X Y R : List Ms}
theorem sorted_one (h : SortedL ltM X) (k : SortedL ltM Y) (e : X = [] ∨ Y = []) : Stab ltM (X ++ Y) (X ++ Y) := by
  refine Stab.refl ?_
  rcases e with rfl | rfl
  · simpa using k
  · simpa using h
theorem sm_R26 {mid e b : Int} (ih : SmC g cap N) (hN : X.length + Y.length ≤ N) (h : Dat w g cap (P ++ (X ++ (Y ++ R)))) (hn : n = (P ++ (X ++ (Y ++ R))).length) (hl : n ≤ 1000000) (hX : SortedL ltM X) (hY : SortedL ltM Y) (e1 : mid = (P.length : Int)) (e2 : e = mid + X.length) (e3 : b = e + Y.length)
    (q0 : ρ 0 = dv g cap n) (q18 : ρ 18 = .int .i64 mid) (q24 : ρ 24 = .int .i64 e) (q3 : ρ 3 = .int .i64 b) (q4 : ρ 4 = ordF) (hk : ∀ ρ' w', SmP g cap P X Y R w w' → K .normal ρ' w') : sx fn_ Try.prog 220 slices_symMergeCmpFunc_queue_Message_R26 K ρ w := by
  rw [slices_symMergeCmpFunc_queue_Message_R26_eq]; unfold slices_symMergeCmpFunc_queue_Message_R26_F
  rw [q18, q24, q3, q0, q4]
  have no : X = [] ∨ Y = [] → SmP g cap P X Y R w w := fun z => ⟨X ++ Y, sorted_one hX hY z, by simpa using h, Mod.refl _ _⟩
  by_cases c1 : mid < e
  · simp only [↓VG_u, ↓UG_u, ↓MG_u, ↓NG_u, ↓PG_u, ↓BG_u, ↓CG_u, ↓IG_u, ↓VGtt, ↓VGtf, ↓VGft, ↓VGff, ↓UGtt, ↓UGtf, ↓UGft, ↓UGff, ↓MGtt, ↓MGtf, ↓MGft, ↓MGff, ↓NGtt, ↓NGtf, ↓NGft, ↓NGff, ↓PGtt, ↓PGtf, ↓PGft, ↓PGff, ↓BGtt, ↓BGtf, ↓BGft, ↓BGff, ↓CGtt, ↓CGtf, ↓CGft, ↓CGff, ↓IGtt, ↓IGtf, ↓IGft, ↓IGff, ↓PKt, ↓PKf, ↓CDt, ↓CDf, ↓NOTt, ↓NOTf, ↓NK_ptr, ↓LTt c1]
    by_cases c2 : e < b
    · simp only [↓VG_u, ↓UG_u, ↓MG_u, ↓NG_u, ↓PG_u, ↓BG_u, ↓CG_u, ↓IG_u, ↓VGtt, ↓VGtf, ↓VGft, ↓VGff, ↓UGtt, ↓UGtf, ↓UGft, ↓UGff, ↓MGtt, ↓MGtf, ↓MGft, ↓MGff, ↓NGtt, ↓NGtf, ↓NGft, ↓NGff, ↓PGtt, ↓PGtf, ↓PGft, ↓PGff, ↓BGtt, ↓BGtf, ↓BGft, ↓BGff, ↓CGtt, ↓CGtf, ↓CGft, ↓CGff, ↓IGtt, ↓IGtf, ↓IGft, ↓IGff, ↓PKt, ↓PKf, ↓CDt, ↓CDf, ↓NOTt, ↓NOTf, ↓NK_ptr, ↓LTt c2]
      refine CK_st Try.func53 rfl rfl (ih hN h hn hl hX hY (by omega) (by omega) e1 e2 e3) ?_
      rintro _ w' hP
      exact hk _ w' hP
    · simp only [↓VG_u, ↓UG_u, ↓MG_u, ↓NG_u, ↓PG_u, ↓BG_u, ↓CG_u, ↓IG_u, ↓VGtt, ↓VGtf, ↓VGft, ↓VGff, ↓UGtt, ↓UGtf, ↓UGft, ↓UGff, ↓MGtt, ↓MGtf, ↓MGft, ↓MGff, ↓NGtt, ↓NGtf, ↓NGft, ↓NGff, ↓PGtt, ↓PGtf, ↓PGft, ↓PGff, ↓BGtt, ↓BGtf, ↓BGft, ↓BGff, ↓CGtt, ↓CGtf, ↓CGft, ↓CGff, ↓IGtt, ↓IGtf, ↓IGft, ↓IGff, ↓PKt, ↓PKf, ↓CDt, ↓CDf, ↓NOTt, ↓NOTf, ↓NK_ptr, ↓LTf (Int.not_lt.1 c2)]
      exact hk _ w (no (.inr (List.eq_nil_of_length_eq_zero (by omega))))
  · simp only [↓VG_u, ↓UG_u, ↓MG_u, ↓NG_u, ↓PG_u, ↓BG_u, ↓CG_u, ↓IG_u, ↓VGtt, ↓VGtf, ↓VGft, ↓VGff, ↓UGtt, ↓UGtf, ↓UGft, ↓UGff, ↓MGtt, ↓MGtf, ↓MGft, ↓MGff, ↓NGtt, ↓NGtf, ↓NGft, ↓NGff, ↓PGtt, ↓PGtf, ↓PGft, ↓PGff, ↓BGtt, ↓BGtf, ↓BGft, ↓BGff, ↓CGtt, ↓CGtf, ↓CGft, ↓CGff, ↓IGtt, ↓IGtf, ↓IGft, ↓IGff, ↓PKt, ↓PKf, ↓CDt, ↓CDf, ↓NOTt, ↓NOTf, ↓NK_ptr, ↓LTf (Int.not_lt.1 c1)]
    exact hk _ w (no (.inl (List.eq_nil_of_length_eq_zero (by omega))))
theorem sm_R25 {X1 Y1 X2 Y2 : List Ms} {a s mid e b : Int} (ih : SmC g cap N) (hN1 : X1.length + Y1.length ≤ N) (hN2 : X2.length + Y2.length ≤ N) (h : Dat w g cap (P ++ (X1 ++ (Y1 ++ (X2 ++ (Y2 ++ R)))))) (hn : n = (P ++ (X1 ++ (Y1 ++ (X2 ++ (Y2 ++ R))))).length) (hl : n ≤ 1000000) (hX1 : SortedL ltM X1) (hY1 : SortedL ltM Y1) (hX2 : SortedL ltM X2) (hY2 : SortedL ltM Y2)
    (e0 : a = (P.length : Int)) (e1 : s = a + X1.length) (e2 : mid = s + Y1.length) (e3 : e = mid + X2.length) (e4 : b = e + Y2.length)
    (q0 : ρ 0 = dv g cap n) (q1 : ρ 1 = .int .i64 a) (q20 : ρ 20 = .int .i64 s) (q18 : ρ 18 = .int .i64 mid) (q24 : ρ 24 = .int .i64 e) (q3 : ρ 3 = .int .i64 b) (q4 : ρ 4 = ordF)
    (hk : ∀ ρ' w' S1 S2, Stab ltM (X1 ++ Y1) S1 → Stab ltM (X2 ++ Y2) S2 → Dat w' g cap (P ++ ((S1 ++ S2) ++ R)) → Mod (fun b => b = g) w w' → K .normal ρ' w') : sx fn_ Try.prog 220 slices_symMergeCmpFunc_queue_Message_R25 K ρ w := by
  rw [slices_symMergeCmpFunc_queue_Message_R25_eq]; unfold slices_symMergeCmpFunc_queue_Message_R25_F
  rw [q1, q20, q18, q0, q4]
  have go : ∀ (ρ' : Sl) (w' : World), ρ' 0 = ρ 0 → ρ' 18 = ρ 18 → ρ' 24 = ρ 24 → ρ' 3 = ρ 3 → ρ' 4 = ρ 4 → SmP g cap P X1 Y1 (X2 ++ (Y2 ++ R)) w w' → sx fn_ Try.prog 220 slices_symMergeCmpFunc_queue_Message_R26 K ρ' w' := by
    rintro ρ' w' a0 a18 a24 a3 a4 ⟨S1, hS1, hD1, hm1⟩
    have lS : S1.length = X1.length + Y1.length := by rw [Stab.len ltM_wo hS1.eq, List.length_append]
    have eA : P ++ (S1 ++ (X2 ++ (Y2 ++ R))) = (P ++ S1) ++ (X2 ++ (Y2 ++ R)) := by simp
    rw [eA] at hD1
    refine sm_R26 (P := P ++ S1) (X := X2) (Y := Y2) (R := R) (n := n) (mid := mid) (e := e) (b := b) ih hN2 hD1 (by rw [hn]; simp only [List.length_append]; omega) hl hX2 hY2 (by rw [List.length_append, lS]; omega) e3 e4 (a0.trans q0) (a18.trans q18) (a24.trans q24) (a3.trans q3) (a4.trans q4) ?_
    rintro ρ2 w2 ⟨S2, hS2, hD2, hm2⟩
    exact hk ρ2 w2 S1 S2 hS1 hS2 (by simpa using hD2) (hm1.trans hm2)
  have no : X1 = [] ∨ Y1 = [] → SmP g cap P X1 Y1 (X2 ++ (Y2 ++ R)) w w := fun z => ⟨X1 ++ Y1, sorted_one hX1 hY1 z, by simpa using h, Mod.refl _ _⟩
  by_cases c1 : a < s
  · simp only [↓VG_u, ↓UG_u, ↓MG_u, ↓NG_u, ↓PG_u, ↓BG_u, ↓CG_u, ↓IG_u, ↓VGtt, ↓VGtf, ↓VGft, ↓VGff, ↓UGtt, ↓UGtf, ↓UGft, ↓UGff, ↓MGtt, ↓MGtf, ↓MGft, ↓MGff, ↓NGtt, ↓NGtf, ↓NGft, ↓NGff, ↓PGtt, ↓PGtf, ↓PGft, ↓PGff, ↓BGtt, ↓BGtf, ↓BGft, ↓BGff, ↓CGtt, ↓CGtf, ↓CGft, ↓CGff, ↓IGtt, ↓IGtf, ↓IGft, ↓IGff, ↓PKt, ↓PKf, ↓CDt, ↓CDf, ↓NOTt, ↓NOTf, ↓NK_ptr, ↓LTt c1]
    by_cases c2 : s < mid
    · simp only [↓VG_u, ↓UG_u, ↓MG_u, ↓NG_u, ↓PG_u, ↓BG_u, ↓CG_u, ↓IG_u, ↓VGtt, ↓VGtf, ↓VGft, ↓VGff, ↓UGtt, ↓UGtf, ↓UGft, ↓UGff, ↓MGtt, ↓MGtf, ↓MGft, ↓MGff, ↓NGtt, ↓NGtf, ↓NGft, ↓NGff, ↓PGtt, ↓PGtf, ↓PGft, ↓PGff, ↓BGtt, ↓BGtf, ↓BGft, ↓BGff, ↓CGtt, ↓CGtf, ↓CGft, ↓CGff, ↓IGtt, ↓IGtf, ↓IGft, ↓IGff, ↓PKt, ↓PKf, ↓CDt, ↓CDf, ↓NOTt, ↓NOTf, ↓NK_ptr, ↓LTt c2]
      refine CK_st Try.func53 rfl rfl (ih hN1 h hn hl hX1 hY1 (by omega) (by omega) e0 e1 e2) ?_
      rintro _ w' hP
      exact go _ w' (by first | exact q0.symm | rfl) (by first | exact q18.symm | rfl) rfl rfl (by first | exact q4.symm | rfl) hP
    · simp only [↓VG_u, ↓UG_u, ↓MG_u, ↓NG_u, ↓PG_u, ↓BG_u, ↓CG_u, ↓IG_u, ↓VGtt, ↓VGtf, ↓VGft, ↓VGff, ↓UGtt, ↓UGtf, ↓UGft, ↓UGff, ↓MGtt, ↓MGtf, ↓MGft, ↓MGff, ↓NGtt, ↓NGtf, ↓NGft, ↓NGff, ↓PGtt, ↓PGtf, ↓PGft, ↓PGff, ↓BGtt, ↓BGtf, ↓BGft, ↓BGff, ↓CGtt, ↓CGtf, ↓CGft, ↓CGff, ↓IGtt, ↓IGtf, ↓IGft, ↓IGff, ↓PKt, ↓PKf, ↓CDt, ↓CDf, ↓NOTt, ↓NOTf, ↓NK_ptr, ↓LTf (Int.not_lt.1 c2)]
      exact go _ w (by first | exact q0.symm | rfl) (by first | exact q18.symm | rfl) rfl rfl (by first | exact q4.symm | rfl) (no (.inr (List.eq_nil_of_length_eq_zero (by omega))))
  · simp only [↓VG_u, ↓UG_u, ↓MG_u, ↓NG_u, ↓PG_u, ↓BG_u, ↓CG_u, ↓IG_u, ↓VGtt, ↓VGtf, ↓VGft, ↓VGff, ↓UGtt, ↓UGtf, ↓UGft, ↓UGff, ↓MGtt, ↓MGtf, ↓MGft, ↓MGff, ↓NGtt, ↓NGtf, ↓NGft, ↓NGff, ↓PGtt, ↓PGtf, ↓PGft, ↓PGff, ↓BGtt, ↓BGtf, ↓BGft, ↓BGff, ↓CGtt, ↓CGtf, ↓CGft, ↓CGff, ↓IGtt, ↓IGtf, ↓IGft, ↓IGff, ↓PKt, ↓PKf, ↓CDt, ↓CDf, ↓NOTt, ↓NOTf, ↓NK_ptr, ↓LTf (Int.not_lt.1 c1)]
    exact go _ w (by first | exact q0.symm | rfl) (by first | exact q18.symm | rfl) rfl rfl (by first | exact q4.symm | rfl) (no (.inl (List.eq_nil_of_length_eq_zero (by omega))))
theorem sm_R18 {s : Nat} {a m b mid M : Int} (ih : SmC g cap N) (hN : X.length + Y.length ≤ N + 1) (hX0 : 0 < X.length) (hY0 : 0 < Y.length) (h : Dat w g cap (P ++ (X ++ (Y ++ R)))) (hn : n = (P ++ (X ++ (Y ++ R))).length) (hl : n ≤ 1000000) (hX : SortedL ltM X) (hY : SortedL ltM Y)
    (e0 : a = (P.length : Int)) (e1 : m = a + X.length) (e2 : b = m + Y.length) (hmid : mid = (a + b) / 2) (hM : M = mid + m) (hs0 : a ≤ s) (hs1 : (s : Int) ≤ m) (hs2 : (s : Int) ≤ mid) (hs3 : M - s ≤ b)
    (hlo : (s : Int) = a ∨ M - s = b ∨ ∃ u v, X[s - 1 - P.length]? = some u ∧ Y[(M - s - m).toNat]? = some v ∧ ltM v u = false) (hhi : (s : Int) = m ∨ (s : Int) = mid ∨ ∃ u v, X[s - P.length]? = some u ∧ Y[(M - 1 - s - m).toNat]? = some v ∧ ltM v u = true)
    (q0 : ρ 0 = dv g cap n) (q1 : ρ 1 = .int .i64 a) (q2 : ρ 2 = .int .i64 m) (q3 : ρ 3 = .int .i64 b) (q4 : ρ 4 = ordF) (q18 : ρ 18 = .int .i64 mid) (q19 : ρ 19 = .int .i64 M) (q20 : ρ 20 = .int .i64 s)
    (hk : ∀ ρ' w', SmP g cap P X Y R w w' → K .normal ρ' w') : sx fn_ Try.prog 220 slices_symMergeCmpFunc_queue_Message_R18 K ρ w := by
  have hll : n = P.length + (X.length + (Y.length + R.length)) := by rw [hn]; simp
  obtain ⟨X1, X2, rfl, lX1⟩ : ∃ X1 X2, X = X1 ++ X2 ∧ (s : Int) = a + X1.length := ⟨X.take (s - P.length), X.drop (s - P.length), (List.take_append_drop _ _).symm, by rw [List.length_take]; omega⟩
  obtain ⟨Y1, Y2, rfl, lY1⟩ : ∃ Y1 Y2, Y = Y1 ++ Y2 ∧ M - s = m + Y1.length := ⟨Y.take (M - s - m).toNat, Y.drop (M - s - m).toNat, (List.take_append_drop _ _).symm, by rw [List.length_take]; omega⟩
  have lX : (X1 ++ X2).length = X1.length + X2.length := List.length_append
  have lY : (Y1 ++ Y2).length = Y1.length + Y2.length := List.length_append
  have hX' := List.pairwise_append.1 hX
  have hY' := List.pairwise_append.1 hY
  have hxy : ∀ a ∈ X1, ∀ b ∈ Y2, ltM b a = false := by
    intro p hp r hr
    have h1 : 0 < X1.length := List.length_pos_of_mem hp
    have h2 : 0 < Y2.length := List.length_pos_of_mem hr
    rcases hlo with z | z | ⟨u, v, hu, hv, huv⟩
    · omega
    · omega
    · rw [show s - 1 - P.length = X1.length - 1 by omega, List.getElem?_append_left (by omega)] at hu
      rw [show (M - s - m).toNat = Y1.length by omega, List.getElem?_append_right (by omega), Nat.sub_self] at hv
      obtain ⟨i, hi, rfl⟩ := List.mem_iff_getElem.1 hp
      obtain ⟨j, hj, rfl⟩ := List.mem_iff_getElem.1 hr
      have a1 := SortedL.le_at ltM_wo (show SortedL ltM X1 from hX'.1) (i := i) (j := X1.length - 1) (by omega) (List.getElem?_eq_getElem hi) hu
      have a2 := SortedL.le_at ltM_wo (show SortedL ltM Y2 from hY'.2.1) (i := 0) (j := j) (by omega) hv (List.getElem?_eq_getElem hj)
      exact ltM_wo.tr _ v _ (ltM_wo.tr _ u _ a1 huv) a2
  have hyx : ∀ a ∈ X2, ∀ b ∈ Y1, ltM b a = true := by
    intro p hp r hr
    have h1 : 0 < X2.length := List.length_pos_of_mem hp
    have h2 : 0 < Y1.length := List.length_pos_of_mem hr
    rcases hhi with z | z | ⟨u, v, hu, hv, huv⟩
    · omega
    · omega
    · rw [show s - P.length = X1.length by omega, List.getElem?_append_right (by omega), Nat.sub_self] at hu
      rw [show (M - 1 - s - m).toNat = Y1.length - 1 by omega, List.getElem?_append_left (by omega)] at hv
      obtain ⟨i, hi, rfl⟩ := List.mem_iff_getElem.1 hp
      obtain ⟨j, hj, rfl⟩ := List.mem_iff_getElem.1 hr
      have a1 := SortedL.le_at ltM_wo (show SortedL ltM X2 from hX'.2.1) (i := 0) (j := i) (by omega) hu (List.getElem?_eq_getElem hi)
      have a2 := SortedL.le_at ltM_wo (show SortedL ltM Y1 from hY'.1) (i := j) (j := Y1.length - 1) (by omega) (List.getElem?_eq_getElem hj) hv
      cases hq : ltM Y1[j] X2[i] with
      | true => rfl
      | false =>
        have := ltM_wo.tr u _ v (ltM_wo.tr u _ _ a1 hq) a2
        rw [huv] at this; cases this
  rw [slices_symMergeCmpFunc_queue_Message_R18_eq]; unfold slices_symMergeCmpFunc_queue_Message_R18_F
  rw [q19, q20, q2, q0, q4, BK_sub, wrap_i (by omega) (by omega)]
  have go : ∀ (ρ' : Sl) (w' : World), ρ' 0 = ρ 0 → ρ' 1 = ρ 1 → ρ' 18 = ρ 18 → ρ' 20 = ρ 20 → ρ' 24 = .int .i64 (M - s) → ρ' 3 = ρ 3 → ρ' 4 = ρ 4 → Dat w' g cap (P ++ (X1 ++ (Y1 ++ (X2 ++ (Y2 ++ R))))) → Mod (fun b => b = g) w w' → sx fn_ Try.prog 220 slices_symMergeCmpFunc_queue_Message_R25 K ρ' w' := by
    intro ρ' w' a0 a1 a18 a20 a24 a3 a4 hD hm
    refine sm_R25 (X1 := X1) (Y1 := Y1) (X2 := X2) (Y2 := Y2) (a := a) (s := s) (mid := mid) (e := M - s) (b := b) (n := n) ih (by omega) (by omega) hD (by rw [hll]; simp only [List.length_append]; omega) hl hX'.1 hY'.1 hX'.2.1 hY'.2.1 e0 lX1 (by omega) (by omega) (by omega) (a0.trans q0) (a1.trans q1) (a20.trans q20) (a18.trans q18) a24 (a3.trans q3) (a4.trans q4) ?_
    intro ρ2 w2 S1 S2 h1 h2 hD2 hm2
    exact hk ρ2 w2 ⟨S1 ++ S2, stab_halves ltM_wo hX hY hxy hyx h1 h2, hD2, hm.trans hm2⟩
  have no : X2 = [] ∨ Y1 = [] → Dat w g cap (P ++ (X1 ++ (Y1 ++ (X2 ++ (Y2 ++ R))))) := fun z => by
    rcases z with rfl | rfl
    · simpa using h
    · simpa using h
  have gof := fun (x : Value) => True
  by_cases c1 : (s : Int) < m
  · simp only [↓VG_u, ↓UG_u, ↓MG_u, ↓NG_u, ↓PG_u, ↓BG_u, ↓CG_u, ↓IG_u, ↓VGtt, ↓VGtf, ↓VGft, ↓VGff, ↓UGtt, ↓UGtf, ↓UGft, ↓UGff, ↓MGtt, ↓MGtf, ↓MGft, ↓MGff, ↓NGtt, ↓NGtf, ↓NGft, ↓NGff, ↓PGtt, ↓PGtf, ↓PGft, ↓PGff, ↓BGtt, ↓BGtf, ↓BGft, ↓BGff, ↓CGtt, ↓CGtf, ↓CGft, ↓CGff, ↓IGtt, ↓IGtf, ↓IGft, ↓IGff, ↓PKt, ↓PKf, ↓CDt, ↓CDf, ↓NOTt, ↓NOTf, ↓NK_ptr, ↓LTt c1]
    by_cases c2 : m < M - s
    · simp only [↓VG_u, ↓UG_u, ↓MG_u, ↓NG_u, ↓PG_u, ↓BG_u, ↓CG_u, ↓IG_u, ↓VGtt, ↓VGtf, ↓VGft, ↓VGff, ↓UGtt, ↓UGtf, ↓UGft, ↓UGff, ↓MGtt, ↓MGtf, ↓MGft, ↓MGff, ↓NGtt, ↓NGtf, ↓NGft, ↓NGff, ↓PGtt, ↓PGtf, ↓PGft, ↓PGff, ↓BGtt, ↓BGtf, ↓BGft, ↓BGff, ↓CGtt, ↓CGtf, ↓CGft, ↓CGff, ↓IGtt, ↓IGtf, ↓IGft, ↓IGff, ↓PKt, ↓PKf, ↓CDt, ↓CDf, ↓NOTt, ↓NOTf, ↓NK_ptr, ↓LTt c2]
      have eA : P ++ ((X1 ++ X2) ++ ((Y1 ++ Y2) ++ R)) = (P ++ X1) ++ (X2 ++ (Y1 ++ (Y2 ++ R))) := by simp
      rw [eA] at h
      refine CK_st Try.func67 rfl rfl (rot_ok (A := P ++ X1) (U := X2) (V := Y1) (B := Y2 ++ R) h (by rw [hll]; simp only [List.length_append]; omega) hl (by omega) (by omega) (by rw [List.length_append]; omega) (by omega) (by omega)) ?_
      rintro _ w' ⟨hD, hm⟩
      exact go _ w' (by first | exact q0.symm | rfl) rfl rfl (by first | exact q20.symm | rfl) rfl rfl (by first | exact q4.symm | rfl) (by simpa using hD) hm
    · simp only [↓VG_u, ↓UG_u, ↓MG_u, ↓NG_u, ↓PG_u, ↓BG_u, ↓CG_u, ↓IG_u, ↓VGtt, ↓VGtf, ↓VGft, ↓VGff, ↓UGtt, ↓UGtf, ↓UGft, ↓UGff, ↓MGtt, ↓MGtf, ↓MGft, ↓MGff, ↓NGtt, ↓NGtf, ↓NGft, ↓NGff, ↓PGtt, ↓PGtf, ↓PGft, ↓PGff, ↓BGtt, ↓BGtf, ↓BGft, ↓BGff, ↓CGtt, ↓CGtf, ↓CGft, ↓CGff, ↓IGtt, ↓IGtf, ↓IGft, ↓IGff, ↓PKt, ↓PKf, ↓CDt, ↓CDf, ↓NOTt, ↓NOTf, ↓NK_ptr, ↓LTf (Int.not_lt.1 c2)]
      exact go _ w (by first | exact q0.symm | rfl) rfl rfl (by first | exact q20.symm | rfl) rfl rfl (by first | exact q4.symm | rfl) (no (.inr (List.eq_nil_of_length_eq_zero (by omega)))) (Mod.refl _ _)
  · simp only [↓VG_u, ↓UG_u, ↓MG_u, ↓NG_u, ↓PG_u, ↓BG_u, ↓CG_u, ↓IG_u, ↓VGtt, ↓VGtf, ↓VGft, ↓VGff, ↓UGtt, ↓UGtf, ↓UGft, ↓UGff, ↓MGtt, ↓MGtf, ↓MGft, ↓MGff, ↓NGtt, ↓NGtf, ↓NGft, ↓NGff, ↓PGtt, ↓PGtf, ↓PGft, ↓PGff, ↓BGtt, ↓BGtf, ↓BGft, ↓BGff, ↓CGtt, ↓CGtf, ↓CGft, ↓CGff, ↓IGtt, ↓IGtf, ↓IGft, ↓IGff, ↓PKt, ↓PKf, ↓CDt, ↓CDf, ↓NOTt, ↓NOTf, ↓NK_ptr, ↓LTf (Int.not_lt.1 c1)]
    exact go _ w (by first | exact q0.symm | rfl) rfl rfl (by first | exact q20.symm | rfl) rfl rfl (by first | exact q4.symm | rfl) (no (.inl (List.eq_nil_of_length_eq_zero (by omega)))) (Mod.refl _ _)
end
end Go.Proofs.Ytnaoiekpfaganaa.Que
set_option linter.unusedVariables false
set_option linter.unusedSimpArgs false
set_option maxRecDepth 4000
namespace Go.Proofs.Ytnaoiekpfaganaa.Que
open Go Go.X Go.RowKit Go.Proofs.Ytnaoiekpfaganaa.XF Go.Proofs.Ytnaoiekpfaganaa.XK
section
variable {w : World} {g cap n N : Nat} {ρ : Sl} {P X Y R : List Ms}
abbrev SmK (g cap : Nat) (P X Y R : List Ms) (w0 : World) : Exit → Sl → World → Prop := retK Try.prog [] (fun _ w' => SmP g cap P X Y R w0 w')
theorem sm_R7 {lo hi : Nat} {a m b mid M : Int} (ih : SmC g cap N) (hN : X.length + Y.length ≤ N + 1) (hX0 : 0 < X.length) (hY0 : 0 < Y.length) (h : Dat w g cap (P ++ (X ++ (Y ++ R)))) (hn : n = (P ++ (X ++ (Y ++ R))).length) (hl : n ≤ 1000000) (hX : SortedL ltM X) (hY : SortedL ltM Y)
    (e0 : a = (P.length : Int)) (e1 : m = a + X.length) (e2 : b = m + Y.length) (hmid : mid = (a + b) / 2) (hM : M = mid + m) (hlh : (mid < m ∧ (lo : Int) = M - b ∧ (hi : Int) = mid) ∨ (m ≤ mid ∧ (lo : Int) = a ∧ (hi : Int) = m))
    (q0 : ρ 0 = dv g cap n) (q1 : ρ 1 = .int .i64 a) (q2 : ρ 2 = .int .i64 m) (q3 : ρ 3 = .int .i64 b) (q4 : ρ 4 = ordF) (q18 : ρ 18 = .int .i64 mid) (q19 : ρ 19 = .int .i64 M) (q20 : ρ 20 = .int .i64 lo) (q21 : ρ 21 = .int .i64 hi) :
    sx fn_ Try.prog 220 slices_symMergeCmpFunc_queue_Message_R7 (SmK g cap P X Y R w) ρ w := by
  have hll : n = P.length + (X.length + (Y.length + R.length)) := by rw [hn]; simp
  rw [slices_symMergeCmpFunc_queue_Message_R7_eq]; unfold slices_symMergeCmpFunc_queue_Message_R7_F
  rw [q19, BK_sub, wrap_i (by omega) (by omega)]
  obtain ⟨Mn, hMn⟩ : ∃ Mn : Nat, M = (Mn : Int) := ⟨M.toNat, by omega⟩
  refine sm_L17 (lo := lo) (hi := hi) (N := Mn) h hn hl q0 q4 q20 q21 (by show Value.int .i64 _ = _; rw [hMn]) (by omega) (by omega) (by omega) (fun c hc1 hc2 => by omega) ?_
  intro ρ' w' s hs1 hs2 hlo hhi hS a18 a19 a20 hD hm
  rw [bk_x, sq_n]
  refine sm_R18 (s := s) (a := a) (m := m) (b := b) (mid := mid) (M := M) (n := n) ih hN hX0 hY0 hD hn hl hX hY e0 e1 e2 hmid hM (by omega) (by omega) (by omega) (by omega) ?_ ?_ (hS.e0.trans q0) (hS.e1.trans q1) (hS.e2.trans q2) (hS.e3.trans q3) (hS.e4.trans q4) (a18.trans q18) (a19.trans q19) a20 ?_
  · rcases hlo with z | ⟨u, v, hu, hv, huv⟩
    · rcases hlh with ⟨_, z2, _⟩ | ⟨_, z2, _⟩
      · exact .inr (.inl (by omega))
      · exact .inl (by omega)
    · refine .inr (.inr ⟨u, v, hu, ?_, huv⟩)
      rw [show (M - (s : Int) - m).toNat = Mn - s - (P.length + X.length) by omega]; exact hv
  · rcases hhi with z | ⟨u, v, hu, hv, huv⟩
    · rcases hlh with ⟨_, _, z2⟩ | ⟨_, _, z2⟩
      · exact .inr (.inl (by omega))
      · exact .inl (by omega)
    · refine .inr (.inr ⟨u, v, hu, ?_, huv⟩)
      rw [show (M - 1 - (s : Int) - m).toNat = Mn - 1 - s - (P.length + X.length) by omega]; exact hv
  · rintro ρ2 w2 ⟨S, hS2, hD2, hm2⟩
    exact ⟨S, hS2, hD2, (hm.mono fun _ _ z => z.elim).trans hm2⟩
theorem symMerge_ok (g cap : Nat) : ∀ N, SmC g cap N := by
  intro N
  induction N with
  | zero => intro w P X Y R n a m b hN h hn hl hX hY hX0 hY0 e0 e1 e2; omega
  | succ N ih =>
    intro w P X Y R n a m b hN h hn hl hX hY hX0 hY0 e0 e1 e2
    have hll : n = P.length + (X.length + (Y.length + R.length)) := by rw [hn]; simp
    refine slices_symMergeCmpFunc_queue_Message_calls ?_
    unfold slices_symMergeCmpFunc_queue_Message_F
    rw [BK_sub, wrap_i (by omega) (by omega)]
    refine caseI (fun c1 => condT ?_) (fun c1 => condF ?_)
    · obtain ⟨x, rfl⟩ : ∃ x, X = [x] := by
        match X, hX0, (show X.length = 1 by omega) with
        | [x], _, _ => exact ⟨x, rfl⟩
      have eA : P ++ ([x] ++ (Y ++ R)) = (P ++ [x]) ++ (Y ++ R) := by simp
      have lx : ([x] : List Ms).length = 1 := rfl
      refine sm_L0 (P := P) (x := x) (Y := Y) (R := R) (n := n) (by rw [← eA]; exact h) (by rw [← eA]; exact hn) hl hY rfl (by rw [← e0]; rfl) rfl (by show Value.int .i64 _ = _; congr 1; omega) (by show Value.int .i64 _ = _; congr 1; omega) ?_
      intro ρ' w' Y1 Y2 hY12 h1 h2 hS a10 hD hm
      rw [bk_x, sq_n, slices_symMergeCmpFunc_queue_Message_R1_eq]; unfold slices_symMergeCmpFunc_queue_Message_R1_F
      have a1 : ρ' 1 = .int .i64 a := hS.e1
      have a0 : ρ' 0 = dv g cap n := hS.e0
      subst hY12
      rw [a1]
      refine sm_L10 (P := P) (x := x) (Y1 := Y1) (Z := Y2 ++ R) (n := n) (by simpa using hD) (by rw [hn]; simp) hl a0 a10 (by show Value.int .i64 _ = _; rw [e0]) ?_
      intro ρ2 w2 hD2 hm2
      rw [bk_x, sq_n, slices_symMergeCmpFunc_queue_Message_R11_eq]; unfold slices_symMergeCmpFunc_queue_Message_R11_F
      exact ⟨Y1 ++ x :: Y2, by simpa using stab_out ltM_wo (Y1 := Y1) (Y2 := Y2) (x := x) hY h1 h2, by simpa using hD2, (hm.mono fun _ _ z => z.elim).trans hm2⟩
    rw [BK_sub, wrap_i (by omega) (by omega)]
    refine caseI (fun c2 => condT ?_) (fun c2 => condF ?_)
    · obtain ⟨y, rfl⟩ : ∃ y, Y = [y] := by
        match Y, hY0, (show Y.length = 1 by omega) with
        | [y], _, _ => exact ⟨y, rfl⟩
      have ly : ([y] : List Ms).length = 1 := rfl
      refine sm_L3 (P := P) (X := X) (y := y) (R := R) (n := n) h hn hl hX rfl (by show Value.int .i64 _ = _; congr 1; omega) rfl (by show Value.int .i64 _ = _; congr 1) (by show Value.int .i64 _ = _; congr 1; omega) ?_
      intro ρ' w' X1 X2 hX12 h1 h2 hS a14 hD hm
      rw [bk_x, sq_n, slices_symMergeCmpFunc_queue_Message_R4_eq]; unfold slices_symMergeCmpFunc_queue_Message_R4_F
      have a2 : ρ' 2 = .int .i64 m := hS.e2
      have a0 : ρ' 0 = dv g cap n := hS.e0
      subst hX12
      have lX : (X1 ++ X2).length = X1.length + X2.length := List.length_append
      rw [a2]
      refine sm_L15 (P := P) (X1 := X1) (X2 := X2) (y := y) (R := R) (n := n) (by simpa using hD) (by rw [hn]; simp) hl a0 a14 (by show Value.int .i64 _ = _; congr 1; omega) ?_
      intro ρ2 w2 hD2 hm2
      rw [bk_x, sq_n, slices_symMergeCmpFunc_queue_Message_R16_eq]; unfold slices_symMergeCmpFunc_queue_Message_R16_F
      exact ⟨X1 ++ y :: X2, stab_ins ltM_wo hX h1 h2, by simpa using hD2, (hm.mono fun _ _ z => z.elim).trans hm2⟩
    rw [BK_add, wrap_i (by omega) (by omega)]
    refine half_k (by omega) (by omega) fun _ _ => ?_
    obtain ⟨mid, hmid⟩ : ∃ mid, mid = (a + b) / 2 := ⟨_, rfl⟩
    rw [← hmid, BK_add, wrap_i (by omega) (by omega), BK_gtr]
    have key : ∀ (ρ : Sl), ρ 0 = dv g cap n → ρ 1 = .int .i64 a → ρ 2 = .int .i64 m → ρ 3 = .int .i64 b → ρ 4 = ordF → ρ 18 = .int .i64 mid → ρ 19 = .int .i64 (mid + m) → ρ 140 = .bool (decide (mid < m)) →
        sx fn_ Try.prog 220 slices_symMergeCmpFunc_queue_Message_R6 (seqK (sx fn_ Try.prog 220 slices_symMergeCmpFunc_queue_Message_R7 (SmK g cap P X Y R w)) (SmK g cap P X Y R w)) ρ w := by
      intro ρ q0 q1 q2 q3 q4 q18 q19 q140
      rw [slices_symMergeCmpFunc_queue_Message_R6_eq]; unfold slices_symMergeCmpFunc_queue_Message_R6_F
      rw [q140]
      refine caseC (fun c => ?_) (fun c => ?_)
      · have c' : mid < m := of_decide_eq_true c
        rw [q19, q3, q18, BK_sub, wrap_i (by omega) (by omega), sq_n]
        exact sm_R7 (lo := (mid + m - b).toNat) (hi := mid.toNat) ih hN hX0 hY0 h hn hl hX hY e0 e1 e2 hmid rfl (.inl ⟨c', by omega, by omega⟩) q0 q1 q2 (by first | exact q3 | rfl) q4 (by first | exact q18 | rfl) (by first | exact q19 | rfl) (by show Value.int .i64 _ = _; congr 1; omega) (by show Value.int .i64 _ = _; congr 1; omega)
      · have c' : ¬ mid < m := of_decide_eq_false c
        rw [q1, q2, sq_n]
        exact sm_R7 (lo := P.length) (hi := m.toNat) ih hN hX0 hY0 h hn hl hX hY e0 e1 e2 hmid rfl (.inr ⟨by omega, by omega, by omega⟩) q0 (by first | exact q1 | rfl) (by first | exact q2 | rfl) q3 q4 q18 q19 (by show Value.int .i64 _ = _; rw [e0]) (by show Value.int .i64 _ = _; congr 1; omega)
    exact key _ rfl rfl rfl rfl rfl rfl rfl rfl
end
end Go.Proofs.Ytnaoiekpfaganaa.Que
set_option linter.unusedVariables false
set_option linter.unusedSimpArgs false
set_option maxRecDepth 4000
namespace Go.Proofs.Ytnaoiekpfaganaa.Que
open Go Go.X Go.RowKit Go.Proofs.Ytnaoiekpfaganaa.XF Go.Proofs.Ytnaoiekpfaganaa.XK
def Fq (l l' : List Ms) : Prop := ∀ x, l'.filter (eqv ltM x) = l.filter (eqv ltM x)
theorem Fq.seg {l P X S R : List Ms} (h : Fq l (P ++ (X ++ R))) (hs : Stab ltM X S) : Fq l (P ++ (S ++ R)) := fun x => by
  rw [← h x]
  simp only [List.filter_append, hs.eq]
theorem Fq.len {l l' : List Ms} (h : Fq l l') : l'.length = l.length := Stab.len ltM_wo h
section
variable {w : World} {g cap n : Nat} {l : List Ms}
theorem insSort_nil (v f : Value) (w : World) : Rt Try.prog 52 #[v, .int .i64 0, .int .i64 0, f] w fun _ w' => w' = w := by
  refine slices_insertionSortCmpFunc_queue_Message_calls ?_
  unfold slices_insertionSortCmpFunc_queue_Message_F
  rw [BK_add, wrap_i (by omega) (by omega)]
  refine W_loop slices_insertionSortCmpFunc_queue_Message_L0_ok (fun ρ' w' => ρ' 8 = .int .i64 (0 + 1) ∧ ρ' 2 = .int .i64 0 ∧ w' = w) (fun _ _ => 0) ⟨rfl, rfl, rfl⟩ ?_
  rintro ρ' w' ⟨q8, q2, rfl⟩
  rw [slices_insertionSortCmpFunc_queue_Message_L0_eq]; unfold slices_insertionSortCmpFunc_queue_Message_L0_F
  rw [q8, q2, BK_lss, decide_eq_false (by omega)]
  refine condF ?_
  rw [sq_x, bk_x]
  exact rfl
theorem stable_nil (v f : Value) (w : World) : Rt Try.prog 46 #[v, .int .i64 0, f] w fun _ w' => w' = w := by
  refine slices_stableCmpFunc_queue_Message_calls ?_
  unfold slices_stableCmpFunc_queue_Message_F
  refine W_loop slices_stableCmpFunc_queue_Message_L0_ok (fun ρ' w' => ρ' 0 = v ∧ ρ' 1 = .int .i64 0 ∧ ρ' 2 = f ∧ ρ' 6 = .int .i64 20 ∧ ρ' 7 = .int .i64 0 ∧ ρ' 8 = .int .i64 20 ∧ w' = w) (fun _ _ => 0) ⟨rfl, rfl, rfl, rfl, rfl, rfl, rfl⟩ ?_
  rintro ρ' w' ⟨q0, q1, q2, q6, q7, q8, rfl⟩
  rw [slices_stableCmpFunc_queue_Message_L0_eq]; unfold slices_stableCmpFunc_queue_Message_L0_F
  rw [q8, q1, BK_leq, decide_eq_false (by omega)]
  refine condF ?_
  rw [sq_x, bk_x, sq_n, slices_stableCmpFunc_queue_Message_R1_eq]; unfold slices_stableCmpFunc_queue_Message_R1_F
  have key : ∀ ρ : Sl, ρ 0 = v → ρ 1 = .int .i64 0 → ρ 2 = f → ρ 6 = .int .i64 20 → ρ 7 = .int .i64 0 → CK Try.prog (.func (.func 52) #[] #[]) [ρ 0, ρ 7, ρ 1, ρ 2] w' fun x27 w => W fn_ Try.prog 63 (Code.loop slices_stableCmpFunc_queue_Message_L2) (blkK 2 (retK Try.prog [] fun _ w1 => w1 = w')) (up (up (up (up (up ρ 23 (ρ 0)) 24 (ρ 7)) 25 (ρ 1)) 26 (ρ 2)) 27 x27) w := by
    intro ρ p0 p1 p2 p6 p7
    rw [p0, p1, p2, p7]
    refine CK_st Try.func52 rfl rfl (insSort_nil v f w') ?_
    rintro _ w2 rfl
    refine W_loop slices_stableCmpFunc_queue_Message_L2_ok (fun ρ' w1 => ρ' 6 = .int .i64 20 ∧ ρ' 1 = .int .i64 0 ∧ w1 = w2) (fun _ _ => 0) ⟨p6, p1, rfl⟩ ?_
    rintro ρ3 w3 ⟨r6, r1, rfl⟩
    rw [slices_stableCmpFunc_queue_Message_L2_eq]; unfold slices_stableCmpFunc_queue_Message_L2_F
    rw [r6, r1, BK_lss, decide_eq_false (by omega)]
    refine condF ?_
    rw [sq_x, bk_x]
    exact rfl
  exact key _ q0 q1 q2 q6 q7
structure Bl (bs : Nat) (Bs : List (List Ms)) (C : List Ms) : Prop where
  so : ∀ B ∈ Bs, SortedL ltM B ∧ B.length = bs
  last : SortedL ltM C
theorem Bl.len {bs : Nat} {Bs : List (List Ms)} (h : ∀ B ∈ Bs, SortedL ltM B ∧ B.length = bs) : Bs.flatten.length = Bs.length * bs := by
  induction Bs with
  | nil => simp
  | cons B Bs ih =>
    rw [List.flatten_cons, List.length_append, ih fun x hx => h x (List.mem_cons_of_mem _ hx), (h B List.mem_cons_self).2, List.length_cons, Nat.succ_mul]
    omega
theorem stable_L3 {K : Exit → Sl → World → Prop} {ρ : Sl} {bs : Nat} {Bs : List (List Ms)} {C : List Ms} (hb0 : 0 < bs) (hb : bs < n) (hl : n ≤ 1000000) (hB : Bl bs Bs C) (hC : C.length < bs) (h : Dat w g cap (Bs.flatten ++ C)) (hn : n = (Bs.flatten ++ C).length) (hq : Fq l (Bs.flatten ++ C))
    (q0 : ρ 0 = dv g cap n) (q1 : ρ 1 = .int .i64 n) (q2 : ρ 2 = ordF) (q6 : ρ 6 = .int .i64 bs) (q7 : ρ 7 = .int .i64 0) (q8 : ρ 8 = .int .i64 ((2 * bs : Nat) : Int))
    (hk : ∀ (ρ' : Sl) (w' : World) (Ds Bs' : List (List Ms)), (∀ D ∈ Ds, SortedL ltM D ∧ D.length = 2 * bs) → (∀ B ∈ Bs', SortedL ltM B ∧ B.length = bs) → Bs'.length ≤ 1 → ρ' 0 = ρ 0 → ρ' 1 = ρ 1 → ρ' 2 = ρ 2 → ρ' 6 = ρ 6 → ρ' 7 = .int .i64 Ds.flatten.length → Dat w' g cap (Ds.flatten ++ (Bs'.flatten ++ C)) → n = (Ds.flatten ++ (Bs'.flatten ++ C)).length → Fq l (Ds.flatten ++ (Bs'.flatten ++ C)) → Mod (fun b => b = g) w w' → K (.exit 4) ρ' w') :
    W fn_ Try.prog 63 (Code.loop slices_stableCmpFunc_queue_Message_L3) K ρ w := by
  refine W_loop slices_stableCmpFunc_queue_Message_L3_ok (fun ρ' w' => ∃ Ds Bs' : List (List Ms), (∀ D ∈ Ds, SortedL ltM D ∧ D.length = 2 * bs) ∧ (∀ B ∈ Bs', SortedL ltM B ∧ B.length = bs) ∧ ρ' 0 = ρ 0 ∧ ρ' 1 = ρ 1 ∧ ρ' 2 = ρ 2 ∧ ρ' 6 = ρ 6 ∧ ρ' 7 = .int .i64 Ds.flatten.length ∧ ρ' 8 = .int .i64 ((Ds.flatten.length + 2 * bs : Nat) : Int) ∧ Dat w' g cap (Ds.flatten ++ (Bs'.flatten ++ C)) ∧ n = (Ds.flatten ++ (Bs'.flatten ++ C)).length ∧ Fq l (Ds.flatten ++ (Bs'.flatten ++ C)) ∧ Mod (fun b => b = g) w w') (fun ρ' _ => n + 2 * bs - (intOf (ρ' 8)).toNat)
    ⟨[], Bs, by simp, hB.so, rfl, rfl, rfl, rfl, q7, by rw [q8]; simp, h, hn, hq, Mod.refl _ _⟩ ?_
  rintro ρ' w' ⟨Ds, Bs', hD, hB', p0, p1, p2, p6, p7, p8, hDat, hn', hq', hm⟩
  rw [slices_stableCmpFunc_queue_Message_L3_eq]; unfold slices_stableCmpFunc_queue_Message_L3_F
  have lB := Bl.len hB'
  have ln : n = Ds.flatten.length + (Bs'.flatten.length + C.length) := by rw [hn']; simp
  have p0' := p0.trans q0
  have p1' := p1.trans q1
  have p2' := p2.trans q2
  have p6' := p6.trans q6
  rw [p8, p1', p7, p6', p0', p2', BK_leq]
  match Bs', hB', lB, hDat, hn', hq' with
  | B1 :: B2 :: Bs'', hB', lB, hDat, hn', hq' =>
    obtain ⟨s1, l1⟩ := hB' B1 (by simp)
    obtain ⟨s2, l2⟩ := hB' B2 (by simp)
    have lf : (B1 :: B2 :: Bs'').flatten.length = bs + (bs + Bs''.flatten.length) := by simp [l1, l2]
    rw [decide_eq_true (by omega)]
    refine condT ?_
    rw [BK_add, wrap_i (by omega) (by omega)]
    have eA : Ds.flatten ++ ((B1 :: B2 :: Bs'').flatten ++ C) = Ds.flatten ++ (B1 ++ (B2 ++ (Bs''.flatten ++ C))) := by simp
    rw [eA] at hDat hq' hn'
    refine CK_st Try.func53 rfl rfl (symMerge_ok g cap (B1.length + B2.length) (Nat.le_refl _) hDat hn' hl s1 s2 (by omega) (by omega) rfl (by omega) (by omega)) ?_
    rintro _ w2 ⟨S, hS, hD2, hm2⟩
    have lS : S.length = 2 * bs := by rw [Stab.len ltM_wo hS.eq, List.length_append]; omega
    rw [BK_mul, wrap_i (by omega) (by omega), BK_add, wrap_i (by omega) (by omega)]
    have eB : Ds.flatten ++ (S ++ (Bs''.flatten ++ C)) = (Ds ++ [S]).flatten ++ (Bs''.flatten ++ C) := by simp
    have lDS : (Ds ++ [S]).flatten.length = Ds.flatten.length + 2 * bs := by simp [lS]
    have hq2 : Fq l (Ds.flatten ++ (S ++ (Bs''.flatten ++ C))) := by
      have : Fq l (Ds.flatten ++ ((B1 ++ B2) ++ (Bs''.flatten ++ C))) := by simpa using hq'
      exact this.seg hS
    refine ⟨⟨Ds ++ [S], Bs'', ?_, fun B hb => hB' B (by simp [hb]), p0, p1, p2, p6, ?_, ?_, by rw [← eB]; exact hD2, ?_, by rw [← eB]; exact hq2, hm.trans hm2⟩, ?_⟩
    · intro D hD'
      rcases List.mem_append.1 hD' with z | z
      · exact hD D z
      · rw [List.mem_singleton.1 z]; exact ⟨hS.so, lS⟩
    · show Value.int .i64 _ = _
      rw [lDS]
    · show Value.int .i64 _ = _
      rw [lDS]; congr 1 <;> omega
    · rw [List.length_append, List.length_append, lDS]; omega
    · show n + 2 * bs - (intOf (.int .i64 _)).toNat < n + 2 * bs - (intOf (.int .i64 _)).toNat
      simp only [intOf]
      omega
  | [B], hB', lB, hDat, hn', hq' =>
    have lf : ([B] : List (List Ms)).flatten.length = bs := by simp [(hB' B (by simp)).2]
    rw [decide_eq_false (by omega)]
    refine condF ?_
    rw [sq_x]
    exact hk _ w' Ds [B] hD hB' (by simp) p0 p1 p2 p6 p7 hDat hn' hq' hm
  | [], hB', lB, hDat, hn', hq' =>
    have lf : ([] : List (List Ms)).flatten.length = 0 := rfl
    rw [decide_eq_false (by omega)]
    refine condF ?_
    rw [sq_x]
    exact hk _ w' Ds [] hD hB' (by simp) p0 p1 p2 p6 p7 hDat hn' hq' hm
theorem stable_L2 {K : Exit → Sl → World → Prop} {ρ : Sl} {bs : Nat} {Bs : List (List Ms)} {C : List Ms} (hb0 : 0 < bs) (hb : bs ≤ 2000000) (hl : n ≤ 1000000) (hB : Bl bs Bs C) (hC : C.length < bs) (h : Dat w g cap (Bs.flatten ++ C)) (hn : n = (Bs.flatten ++ C).length) (hq : Fq l (Bs.flatten ++ C))
    (q0 : ρ 0 = dv g cap n) (q1 : ρ 1 = .int .i64 n) (q2 : ρ 2 = ordF) (q6 : ρ 6 = .int .i64 bs)
    (hk : ∀ ρ' w' S, Stab ltM l S → Dat w' g cap S → Mod (fun b => b = g) w w' → K (.exit 2) ρ' w') :
    W fn_ Try.prog 63 (Code.loop slices_stableCmpFunc_queue_Message_L2) K ρ w := by
  refine W_loop slices_stableCmpFunc_queue_Message_L2_ok (fun ρ' w' => ∃ (bs : Nat) (Bs : List (List Ms)) (C : List Ms), 0 < bs ∧ bs ≤ 2000000 ∧ Bl bs Bs C ∧ C.length < bs ∧ ρ' 0 = dv g cap n ∧ ρ' 1 = .int .i64 n ∧ ρ' 2 = ordF ∧ ρ' 6 = .int .i64 bs ∧ Dat w' g cap (Bs.flatten ++ C) ∧ n = (Bs.flatten ++ C).length ∧ Fq l (Bs.flatten ++ C) ∧ Mod (fun b => b = g) w w') (fun ρ' _ => 2000001 - (intOf (ρ' 6)).toNat)
    ⟨bs, Bs, C, hb0, hb, hB, hC, q0, q1, q2, q6, h, hn, hq, Mod.refl _ _⟩ ?_
  rintro ρ' w' ⟨bs, Bs, C, hb0, hb, hB, hC, p0, p1, p2, p6, hD, hn', hq', hm⟩
  rw [slices_stableCmpFunc_queue_Message_L2_eq]; unfold slices_stableCmpFunc_queue_Message_L2_F
  rw [p6, p1, BK_lss]
  have lB := Bl.len hB.so
  have ln : n = Bs.flatten.length + C.length := by rw [hn']; simp
  by_cases c : bs < n
  · rw [decide_eq_true (by omega)]
    refine condT ?_
    rw [BK_mul, wrap_i (by omega) (by omega)]
    refine stable_L3 (l := l) (bs := bs) (Bs := Bs) (C := C) (n := n) hb0 c hl hB hC hD hn' hq' p0 p1 p2 p6 rfl (by show Value.int .i64 _ = _; congr 1) ?_
    intro ρ2 w2 Ds Bs' hDs hBs' hB1 a0 a1 a2 a6 a7 hD2 hn2 hq2 hm2
    rw [bk_x, sq_n, slices_stableCmpFunc_queue_Message_R4_eq]; unfold slices_stableCmpFunc_queue_Message_R4_F
    have lDs := Bl.len hDs
    have ln2 : n = Ds.flatten.length + (Bs'.flatten.length + C.length) := by rw [hn2]; simp
    have a6' : ρ2 6 = .int .i64 bs := a6.trans p6
    have a1' : ρ2 1 = .int .i64 n := a1.trans p1
    have a0' : ρ2 0 = dv g cap n := a0.trans p0
    have a2' : ρ2 2 = ordF := a2.trans p2
    rw [a7, a6', a1', a0', a2', BK_add, wrap_i (by omega) (by omega), BK_lss]
    have fin : ∀ (ρ3 : Sl) (w3 : World) (C' : List Ms), ρ3 0 = dv g cap n → ρ3 1 = .int .i64 n → ρ3 2 = ordF → ρ3 6 = .int .i64 bs → SortedL ltM C' → C'.length < 2 * bs → Dat w3 g cap (Ds.flatten ++ C') → n = (Ds.flatten ++ C').length → Fq l (Ds.flatten ++ C') → Mod (fun b => b = g) w w3 →
        sx fn_ Try.prog 63 slices_stableCmpFunc_queue_Message_R5 (blkK 3 (seqK (fun ρ' w' => (∃ (bs : Nat) (Bs : List (List Ms)) (C : List Ms), 0 < bs ∧ bs ≤ 2000000 ∧ Bl bs Bs C ∧ C.length < bs ∧ ρ' 0 = dv g cap n ∧ ρ' 1 = .int .i64 n ∧ ρ' 2 = ordF ∧ ρ' 6 = .int .i64 bs ∧ Dat w' g cap (Bs.flatten ++ C) ∧ n = (Bs.flatten ++ C).length ∧ Fq l (Bs.flatten ++ C) ∧ Mod (fun b => b = g) w w') ∧ 2000001 - (intOf (ρ' 6)).toNat < 2000001 - (intOf (.int .i64 (bs : Int))).toNat) K)) ρ3 w3 := by
      intro ρ3 w3 C' b0 b1 b2 b6 hs hlt hD3 hn3 hq3 hm3
      rw [slices_stableCmpFunc_queue_Message_R5_eq]; unfold slices_stableCmpFunc_queue_Message_R5_F
      rw [b6, BK_mul, wrap_i (by omega) (by omega), bk_n]
      refine ⟨⟨2 * bs, Ds, C', by omega, by omega, ⟨hDs, hs⟩, hlt, b0, b1, b2, ?_, hD3, hn3, hq3, hm3⟩, ?_⟩
      · show Value.int .i64 _ = _
        congr 1; omega
      · show 2000001 - (intOf (.int .i64 _)).toNat < _
        simp only [intOf]; omega
    match Bs', hBs', hB1, hD2, hn2, hq2, ln2 with
    | [], hBs', hB1, hD2, hn2, hq2, ln2 =>
      have lf : ([] : List (List Ms)).flatten.length = 0 := rfl
      rw [decide_eq_false (by omega)]
      refine condF ?_
      exact fin _ w2 C (by first | exact a0' | rfl) (by first | exact a1' | rfl) (by first | exact a2' | rfl) (by first | exact a6' | rfl) hB.last (by omega) (by simpa using hD2) (by simpa using hn2) (by simpa using hq2) (hm.trans hm2)
    | [B], hBs', hB1, hD2, hn2, hq2, ln2 =>
      obtain ⟨s1, l1⟩ := hBs' B (by simp)
      have lf : ([B] : List (List Ms)).flatten.length = bs := by simp [l1]
      have eB : Ds.flatten ++ (([B] : List (List Ms)).flatten ++ C) = Ds.flatten ++ (B ++ C) := by simp
      rw [eB] at hD2 hn2 hq2
      by_cases c2 : 0 < C.length
      · rw [decide_eq_true (by omega)]
        refine condT ?_
        have eC : Ds.flatten ++ (B ++ C) = Ds.flatten ++ (B ++ (C ++ [])) := by simp
        rw [eC] at hD2 hn2
        refine CK_st Try.func53 rfl rfl (symMerge_ok g cap (B.length + C.length) (Nat.le_refl _) hD2 hn2 hl s1 hB.last (by omega) (by omega) rfl (by omega) (by omega)) ?_
        rintro _ w3 ⟨S, hS, hD3, hm3⟩
        have lS : S.length = bs + C.length := by rw [Stab.len ltM_wo hS.eq, List.length_append]; omega
        have hq3 : Fq l (Ds.flatten ++ (S ++ [])) := by
          have : Fq l (Ds.flatten ++ ((B ++ C) ++ [])) := by simpa using hq2
          exact this.seg hS
        exact fin _ w3 S (by first | exact a0' | rfl) (by first | exact a1' | rfl) (by first | exact a2' | rfl) (by first | exact a6' | rfl) hS.so (by omega) (by simpa using hD3) (by rw [List.length_append]; omega) (by simpa using hq3) ((hm.trans hm2).trans hm3)
      · have hC0 : C = [] := List.eq_nil_of_length_eq_zero (by omega)
        subst hC0
        rw [decide_eq_false (by simp only [List.length_nil] at ln2; omega)]
        refine condF ?_
        exact fin _ w2 B (by first | exact a0' | rfl) (by first | exact a1' | rfl) (by first | exact a2' | rfl) (by first | exact a6' | rfl) s1 (by omega) (by simpa using hD2) (by simpa using hn2) (by simpa using hq2) (hm.trans hm2)
    | _ :: _ :: _, hBs', hB1, hD2, hn2, hq2, ln2 => simp at hB1
  · rw [decide_eq_false (by omega)]
    refine condF ?_
    rw [sq_x]
    have hS : SortedL ltM (Bs.flatten ++ C) := by
      match Bs, hB, lB, ln with
      | [], hB, lB, ln => exact hB.last
      | [B], hB, lB, ln =>
        obtain ⟨s1, l1⟩ := hB.so B (by simp)
        have lf : ([B] : List (List Ms)).flatten.length = bs := by simp [l1]
        have hC0 : C = [] := List.eq_nil_of_length_eq_zero (by omega)
        subst hC0
        simpa using s1
      | B1 :: B2 :: Bs'', hB, lB, ln =>
        obtain ⟨_, l1⟩ := hB.so B1 (by simp)
        obtain ⟨_, l2⟩ := hB.so B2 (by simp)
        have lf : (B1 :: B2 :: Bs'').flatten.length = bs + (bs + Bs''.flatten.length) := by simp [l1, l2]
        omega
    exact hk _ w' _ ⟨hS, hq'⟩ hD hm
theorem stable_ok (h : Dat w g cap l) (hn : n = l.length) (hl : n ≤ 1000000) : Rt Try.prog 46 #[dv g cap n, .int .i64 n, ordF] w fun _ w' => ∃ S, Stab ltM l S ∧ Dat w' g cap S ∧ Mod (fun b => b = g) w w' := by
  refine slices_stableCmpFunc_queue_Message_calls ?_
  unfold slices_stableCmpFunc_queue_Message_F
  refine W_loop slices_stableCmpFunc_queue_Message_L0_ok (fun ρ' w' => ∃ (Bs : List (List Ms)) (T : List Ms), (∀ B ∈ Bs, SortedL ltM B ∧ B.length = 20) ∧ ρ' 0 = dv g cap n ∧ ρ' 1 = .int .i64 n ∧ ρ' 2 = ordF ∧ ρ' 6 = .int .i64 20 ∧ ρ' 7 = .int .i64 Bs.flatten.length ∧ ρ' 8 = .int .i64 ((Bs.flatten.length + 20 : Nat) : Int) ∧ Dat w' g cap (Bs.flatten ++ T) ∧ n = (Bs.flatten ++ T).length ∧ Fq l (Bs.flatten ++ T) ∧ Mod (fun b => b = g) w w') (fun ρ' _ => n + 20 - (intOf (ρ' 8)).toNat)
    ⟨[], l, by simp, rfl, rfl, rfl, rfl, rfl, rfl, h, hn, fun _ => rfl, Mod.refl _ _⟩ ?_
  rintro ρ' w' ⟨Bs, T, hB, p0, p1, p2, p6, p7, p8, hD, hn', hq, hm⟩
  rw [slices_stableCmpFunc_queue_Message_L0_eq]; unfold slices_stableCmpFunc_queue_Message_L0_F
  rw [p8, p1, p7, p6, p0, p2, BK_leq]
  have ln : n = Bs.flatten.length + T.length := by rw [hn']; simp
  by_cases c : 20 ≤ T.length
  · rw [decide_eq_true (by omega)]
    refine condT ?_
    obtain ⟨X, R, rfl, lX⟩ : ∃ X R, T = X ++ R ∧ X.length = 20 := ⟨T.take 20, T.drop 20, (List.take_append_drop _ _).symm, by rw [List.length_take]; omega⟩
    have hins := insSort_ok (w := w') (g := g) (cap := cap) (P := Bs.flatten) (X := X) (R := R) (n := n) hD hn' hl
    rw [lX] at hins
    refine CK_st Try.func52 rfl rfl hins ?_
    rintro _ w2 ⟨S, hS, hD2, hm2⟩
    have lS : S.length = 20 := by rw [Stab.len ltM_wo hS.eq, lX]
    have lXR : (X ++ R).length = 20 + R.length := by rw [List.length_append, lX]
    rw [BK_add, wrap_i (by omega) (by omega)]
    have eB : Bs.flatten ++ (S ++ R) = (Bs ++ [S]).flatten ++ R := by simp
    have lDS : (Bs ++ [S]).flatten.length = Bs.flatten.length + 20 := by simp [lS]
    refine ⟨⟨Bs ++ [S], R, ?_, by first | rfl | exact p0, by first | rfl | exact p1, by first | rfl | exact p2, by first | rfl | exact p6, ?_, ?_, by rw [← eB]; exact hD2, ?_, by rw [← eB]; exact hq.seg hS, hm.trans hm2⟩, ?_⟩
    · intro D hD'
      rcases List.mem_append.1 hD' with z | z
      · exact hB D z
      · rw [List.mem_singleton.1 z]; exact ⟨hS.so, lS⟩
    · show Value.int .i64 _ = _
      rw [lDS]
    · show Value.int .i64 _ = _
      rw [lDS]; congr 1
    · rw [List.length_append, lDS]; omega
    · show n + 20 - (intOf (.int .i64 _)).toNat < n + 20 - (intOf (.int .i64 _)).toNat
      simp only [intOf]
      omega
  · rw [decide_eq_false (by omega)]
    refine condF ?_
    rw [sq_x, bk_x, sq_n, slices_stableCmpFunc_queue_Message_R1_eq]; unfold slices_stableCmpFunc_queue_Message_R1_F
    have key : ∀ ρ : Sl, ρ 0 = dv g cap n → ρ 1 = .int .i64 n → ρ 2 = ordF → ρ 6 = .int .i64 20 → ρ 7 = .int .i64 Bs.flatten.length → CK Try.prog (.func (.func 52) #[] #[]) [ρ 0, ρ 7, ρ 1, ρ 2] w' fun x27 w2 => W fn_ Try.prog 63 (Code.loop slices_stableCmpFunc_queue_Message_L2) (blkK 2 (retK Try.prog [] fun _ w1 => ∃ S, Stab ltM l S ∧ Dat w1 g cap S ∧ Mod (fun b => b = g) w w1)) (up (up (up (up (up ρ 23 (ρ 0)) 24 (ρ 7)) 25 (ρ 1)) 26 (ρ 2)) 27 x27) w2 := by
      intro ρ r0 r1 r2 r6 r7
      rw [r0, r1, r2, r7]
      have eT : Bs.flatten ++ T = Bs.flatten ++ (T ++ []) := by simp
      have hins := insSort_ok (w := w') (g := g) (cap := cap) (P := Bs.flatten) (X := T) (R := []) (n := n) (by rw [← eT]; exact hD) (by rw [← eT]; exact hn') hl
      rw [← ln] at hins
      refine CK_st Try.func52 rfl rfl hins ?_
      rintro _ w2 ⟨S, hS, hD2, hm2⟩
      have lS : S.length = T.length := Stab.len ltM_wo hS.eq
      rw [List.append_nil] at hD2
      have hq2 : Fq l (Bs.flatten ++ (S ++ [])) := by
        have : Fq l (Bs.flatten ++ (T ++ [])) := by rw [← eT]; exact hq
        exact this.seg hS
      rw [List.append_nil] at hq2
      refine stable_L2 (l := l) (bs := 20) (Bs := Bs) (C := S) (n := n) (by omega) (by omega) hl ⟨hB, hS.so⟩ (by omega) hD2 (by rw [List.length_append]; omega) hq2 r0 r1 r2 r6 ?_
      intro ρ3 w3 S3 h3 hD3 hm3
      rw [bk_x]
      exact ⟨S3, h3, hD3, (hm.trans hm2).trans hm3⟩
    exact key _ p0 p1 p2 p6 p7
theorem SortStable_ok {v : Value} {B : Nat} (h : w.ownsRow B tMs 8 v l.length (l.flatMap Ms.enc)) (hl : l.length ≤ 1000000) : Rt Try.prog 36 #[v, ordF] w fun _ w' => ∃ S, Stab ltM l S ∧ w'.ownsRow B tMs 8 v S.length (S.flatMap Ms.enc) ∧ Mod (fun b => sb v b) w w' := by
  refine slices_SortStableFunc_queue_Message_queue_Message_calls ?_
  unfold slices_SortStableFunc_queue_Message_queue_Message_F
  have h' := h
  obtain ⟨hlen, ⟨rfl, h0⟩ | ⟨g, cap, cur, rfl, hb, hg, hn, hm, hs, ht⟩⟩ := h
  · have hl0 : l = [] := List.eq_nil_of_length_eq_zero h0
    subst hl0
    rw [len_sl vMsS]
    refine CK_st Try.func46 rfl rfl (stable_nil _ ordF w) ?_
    rintro _ w' rfl
    exact ⟨[], ⟨List.Pairwise.nil, fun _ => rfl⟩, h', Mod.refl _ _⟩
  · rw [len_sl vMsS]
    have hD : Dat w g cap l := owns_base h' (Nat.zero_le _)
    refine CK_st Try.func46 rfl rfl (stable_ok hD rfl hl) ?_
    rintro _ w' ⟨S, hS, hD', hm'⟩
    have lS : S.length = l.length := Stab.len ltM_wo hS.eq
    refine ⟨S, hS, ?_, hm'.mono fun b _ z => by rw [z]; rfl⟩
    obtain ⟨a1, ⟨q, _⟩ | ⟨g', cap', cur', e', b', g2, n', m', s', t'⟩⟩ := hD'
    · cases q
    · cases e'
      exact ⟨a1, .inr ⟨g, cap, cur', by rw [lS], hb, g2, n', m', s', t'⟩⟩
end
end Go.Proofs.Ytnaoiekpfaganaa.Que
set_option linter.unusedVariables false
set_option linter.unusedSimpArgs false
namespace Go.X
open Go Go.RowKit
section
variable {κ : Type} [DecidableEq κ] {P : Program} {enc : κ → Value}
def IterAt (w : World) (r bm since : Nat) (seen : List Nat) (c : Nat) : Prop := w.heap[r]? = some (.mapIter (some bm) since seen.toArray c)
omit [DecidableEq κ] in
theorem IterAt.mod {S : Nat → Prop} {w w' : World} {r bm since c : Nat} {seen : List Nat} (h : IterAt w r bm since seen c) (hm : Mod S w w') (hS : ¬ S r) : IterAt w' r bm since seen c := hm.blk h hS
omit [DecidableEq κ] in
theorem range_k {w : World} {t k e : TypeId} (ht : P.underlying t = some (.map k e)) {b : Nat} {l : List (Ent κ)} {c : Nat} (h : IsMap enc w b l c) {K : Value → World → Prop}
    (hk : ∀ w', IterAt w' w.heap.size b c [] c → Mod none_ w w' → w'.heap.size = w.heap.size + 1 → K (.pointer (some ⟨w.heap.size, 0, none⟩)) w') : VK P (Instr.range t (.map (some b))) w K :=
  VK_of (run_range_map w t k e b _ c ht h) (new_k w _ hk)
omit [DecidableEq κ] in
theorem next_k {w : World} {r b since c : Nat} {seen : List Nat} {l : List (Ent κ)} {ty : TypeId} (h : IsMap enc w b l c) (hr : IterAt w r b since seen c) (hb : ∀ e ∈ l, e.b < since) (hsc : since ≤ c) {K : Value → World → Prop}
    (h0 : (∀ e ∈ l, e.b ∈ seen) → K (.tuple #[.bool false]) w)
    (h1 : ∀ e ∈ l, e.b ∉ seen → ∀ w', IterAt w' r b since (seen ++ [e.b]) c → Mod (fun i => i = r) w w' → w'.heap.size = w.heap.size → K (.tuple #[.bool true, enc e.k, e.v]) w') : VK P (Instr.next (.pointer (some ⟨r, 0, none⟩)) false ty) w K := by
  rcases run_next_at (P := P) w ty r b since c seen.toArray (l.map (Ent.enc enc)).toArray c hr h (fun x hx => by
      simp only [List.mem_map] at hx
      obtain ⟨e, he, rfl⟩ := hx
      exact hb e he) hsc with ⟨hz, hrun⟩ | ⟨e', he', w1, hw1, hrun⟩
  · refine VK_of hrun (h0 fun e he => ?_)
    have hl : leftOf (l.map (Ent.enc enc)).toArray seen.toArray = #[] := Array.eq_empty_of_size_eq_zero hz
    unfold leftOf at hl
    rw [Array.filter_eq_empty_iff] at hl
    have := hl (e.enc enc) (by simp; exact ⟨e, he, rfl⟩)
    simpa [Ent.enc] using this
  · obtain ⟨hm, hs⟩ := mem_left he'
    simp only [List.mem_map] at hm
    obtain ⟨e, he, rfl⟩ := hm
    have hns : e.b ∉ seen := by simpa [Ent.enc] using hs
    have hb1 : w1.heap = w.heap := by rcases hw1 with rfl | rfl <;> rfl
    have hm1 : Mod none_ w w1 := by
      rcases hw1 with rfl | rfl
      · exact Mod.refl _ _
      · exact (Mod.refl _ w).drawn _
    have hlt : r < w1.heap.size := by rw [hb1]; exact X.blk_lt hr
    refine VK_of hrun (h1 e he hns _ ?_ ((hm1.mono fun _ _ z => z.elim).trans ((Mod.refl _ w1).set _ fun _ => rfl)) (by show (w1.heap.setIfInBounds _ _).size = _; simp [hb1]))
    show (setB w1 r (.mapIter (some b) since (seen.toArray.push e.b) c)).heap[r]? = _
    rw [setB_new _ _ _ hlt, List.push_toArray]
omit [DecidableEq κ] in
theorem entry_k {w : World} {r b since c : Nat} {seen : List Nat} {l : List (Ent κ)} {e : Ent κ} (h : IsMap enc w b l c) (hr : IterAt w r b since (seen ++ [e.b]) c) (he : e ∈ l) (hn : ∀ (i j : Nat) (x y : Ent κ), l[i]? = some x → l[j]? = some y → x.b = y.b → i = j) {K : Value → World → Prop}
    (hk : K (.tuple #[enc e.k, e.v]) w) : VK P (Instr.entry (.pointer (some ⟨r, 0, none⟩))) w K := by
  have hnd : (((l.map (Ent.enc enc)).toArray.toList).map (·.born)).Nodup := by
    simp only [List.map_map, List.Nodup]
    rw [List.pairwise_map, List.pairwise_iff_getElem]
    intro i j hi hj hij q
    have := hn i j _ _ (List.getElem?_eq_getElem hi) (List.getElem?_eq_getElem hj) q
    omega
  have hr' : w.heap[r]? = some (.mapIter (some b) since (seen.toArray.push (e.enc enc).born) c) := by
    have := hr
    unfold IterAt at this
    rw [List.push_toArray]
    exact this
  exact VK_of (run_entry_at (P := P) w r b since seen.toArray _ c (e.enc enc) hr' h (by simp; exact ⟨e, he, rfl⟩) hnd) hk
def togo (l : List (Ent κ)) (seen : List Nat) : Nat := (l.filter fun e => decide (e.b ∉ seen)).length
theorem filt_lt {α : Type} {p q : α → Bool} {e : α} (hpq : ∀ x, q x = true → p x = true) (hp : p e = true) (hq : q e = false) : ∀ {l : List α}, e ∈ l → (l.filter q).length < (l.filter p).length
  | a :: l, he => by
    have le : ∀ l : List α, (l.filter q).length ≤ (l.filter p).length := fun l => by
      induction l with
      | nil => exact Nat.le_refl _
      | cons a l ih =>
        by_cases c : q a = true
        · simp [c, hpq a c, ih]
        · by_cases d : p a = true <;> simp [c, d] <;> omega
    rcases List.mem_cons.1 he with rfl | he
    · simp only [List.filter_cons, hp, hq, if_true, Bool.false_eq_true, if_false, List.length_cons]
      have := le l; omega
    · have ih := filt_lt hpq hp hq he
      by_cases c : q a = true
      · simp [c, hpq a c, ih]
      · by_cases d : p a = true <;> simp [c, d] <;> omega
omit [DecidableEq κ] in
theorem togo_lt {l : List (Ent κ)} {seen : List Nat} {e : Ent κ} (he : e ∈ l) (hn : e.b ∉ seen) : togo l (seen ++ [e.b]) < togo l seen := by
  unfold togo
  exact filt_lt (fun x hx => by simp at hx ⊢; exact hx.1) (by simpa using hn) (by simp) he
end
end Go.X
set_option linter.unusedVariables false
set_option linter.unusedSimpArgs false
set_option maxRecDepth 4000
namespace Go.X
open Go Go.RowKit
def nt (m : Ms) : Bool := !m.taken
theorem flat_one {vs : List (Ent Ch)} {f : Ent Ch → List Ms} (hf : ∀ e ∈ vs, ∀ m ∈ f e, m.ch = e.k) (hd : vs.Pairwise fun a b => a.k ≠ b.k) (c : Ch) : (vs.flatMap f).filter (fun m => decide (m.ch = c)) = match vs.find? (fun e => decide (e.k = c)) with | some e => f e | none => [] := by
  induction vs with
  | nil => rfl
  | cons e vs ih =>
    rw [List.pairwise_cons] at hd
    have ih' := ih (fun x hx => hf x (List.mem_cons_of_mem _ hx)) hd.2
    rw [List.flatMap_cons, List.filter_append]
    by_cases h : e.k = c
    · have e1 : (f e).filter (fun m => decide (m.ch = c)) = f e := List.filter_eq_self.2 fun m hm => by simp [hf e List.mem_cons_self m hm, h]
      have e2 : vs.find? (fun e => decide (e.k = c)) = none := List.find?_eq_none.2 fun x hx => by simpa [h] using fun q : x.k = c => hd.1 x hx (h.trans q.symm)
      rw [ih', e1, e2, List.find?_cons_of_pos (by simpa using h)]
      simp
    · have e1 : (f e).filter (fun m => decide (m.ch = c)) = [] := List.filter_eq_nil_iff.2 fun m hm => by simp [hf e List.mem_cons_self m hm, h]
      rw [ih', e1, List.find?_cons_of_neg (by simpa using h), List.nil_append]
theorem eqv_filter (x : Ms) (l : List Ms) : l.filter (eqv ltM x) = l.filter (fun m => decide (m.ch = x.ch)) := by
  refine List.filter_congr fun m _ => ?_
  rw [Bool.eq_iff_iff, eqv_ch, decide_eq_true_iff]
  exact eq_comm
theorem left_fq {l : List Ms} {V : QV} (h : QInv l V) {vs : List (Ent Ch)} (hs : ∀ e ∈ vs, e ∈ V.er) (hd : vs.Pairwise fun a b => a.k ≠ b.k) (hall : ∀ e ∈ V.er, e.b ∈ vs.map (·.b)) (x : Ms) :
    (vs.flatMap fun e => (rowOf l e.k).filter nt).filter (eqv ltM x) = (l.filter nt).filter (eqv ltM x) := by
  rw [eqv_filter, eqv_filter, flat_one (fun e he m hm => (mem_row.1 (List.mem_filter.1 hm).1).2) hd]
  have comm : ∀ c : Ch, (rowOf l c).filter nt = (l.filter nt).filter (fun m => decide (m.ch = c)) := fun c => by
    unfold rowOf
    rw [List.filter_filter, List.filter_filter]
    refine List.filter_congr fun m _ => ?_
    rw [Bool.and_comm]
  cases hf : vs.find? (fun e => decide (e.k = x.ch)) with
  | some e =>
    have := List.find?_some hf
    dsimp only
    rw [show e.k = x.ch by simpa using this, comm]
  | none =>
    dsimp only
    symm
    refine List.filter_eq_nil_iff.2 fun m hm q => ?_
    have hq : m.ch = x.ch := by simpa using q
    obtain ⟨e, he, hk⟩ := h.cov m (List.mem_filter.1 hm).1
    obtain ⟨e', he', hb⟩ := List.mem_map.1 (hall e he)
    obtain ⟨i, hi, rfl⟩ := List.mem_iff_getElem.1 he
    obtain ⟨j, hj, hj'⟩ := List.mem_iff_getElem.1 (hs e' he')
    have := h.rb i j _ _ (List.getElem?_eq_getElem hi) (List.getElem?_eq_getElem hj) (by rw [hj']; exact hb.symm)
    subst this
    have := List.find?_eq_none.1 hf e' he'
    exact this (by rw [← hj', hk, hq]; simp)
def aheadV (l : List Ms) (f c : Int) : List Ms := match l.find? (Ms.isAt f c) with | none => [] | some m => (rowOf (l.takeWhile fun x => !x.isAt f c) m.ch).filter nt
theorem ahead_row {l : List Ms} (hu : l.Pairwise fun a b => ¬ (a.frm = b.frm ∧ a.call = b.call)) {m : Ms} {f c : Int} (hm : l.find? (Ms.isAt f c) = some m) {j : Nat} (hj : (rowOf l m.ch)[j]? = some m) : (rowOf l m.ch).take j = rowOf (l.takeWhile fun x => !x.isAt f c) m.ch := by
  obtain ⟨hp, xs, ys, rfl, has⟩ := List.find?_eq_some_iff_append.1 hm
  have e1 : (xs ++ m :: ys).takeWhile (fun x => !x.isAt f c) = xs := by
    rw [List.takeWhile_append_of_pos has, List.takeWhile_cons_of_neg (by simp [hp]), List.append_nil]
  have e2 : rowOf (xs ++ m :: ys) m.ch = rowOf xs m.ch ++ m :: rowOf ys m.ch := by unfold rowOf; simp
  rw [e1, e2]
  rw [e2] at hj
  have hur : (rowOf xs m.ch ++ m :: rowOf ys m.ch).Pairwise fun a b => ¬ (a.frm = b.frm ∧ a.call = b.call) := by rw [← e2]; exact hu.filter _
  have hlt := (List.getElem?_eq_some_iff.1 hj).1
  have hat : (rowOf xs m.ch ++ m :: rowOf ys m.ch)[(rowOf xs m.ch).length]? = some m := get_mid
  have : j = (rowOf xs m.ch).length := by
    obtain ⟨hj1, hj2⟩ := List.getElem?_eq_some_iff.1 hj
    obtain ⟨hk1, hk2⟩ := List.getElem?_eq_some_iff.1 hat
    rcases Nat.lt_trichotomy j (rowOf xs m.ch).length with q | q | q
    · exact absurd ⟨by rw [hj2, hk2], by rw [hj2, hk2]⟩ (List.pairwise_iff_getElem.1 hur _ _ hj1 hk1 q)
    · exact q
    · exact absurd ⟨by rw [hj2, hk2], by rw [hj2, hk2]⟩ (List.pairwise_iff_getElem.1 hur _ _ hk1 hj1 q)
  rw [this, List.take_left']
  rfl
theorem fl_take {α : Type} {enc : α → List Value} {k : Nat} (hk : ∀ a, (enc a).length = k) : ∀ (xs : List α) (n : Nat), (xs.flatMap enc).take (n * k) = (xs.take n).flatMap enc
  | [], n => by simp
  | x :: xs, 0 => by simp
  | x :: xs, n + 1 => by
    rw [List.take_succ_cons, List.flatMap_cons, List.flatMap_cons, ← fl_take hk xs n]
    rw [show (n + 1) * k = (enc x).length + n * k by rw [hk, Nat.succ_mul]; omega, List.take_length_add_append]
end Go.X
namespace Go.Proofs.Ytnaoiekpfaganaa.Que
open Go Go.X Go.RowKit Go.Proofs.Ytnaoiekpfaganaa.XF Go.Proofs.Ytnaoiekpfaganaa.XK
theorem owns_bd {w2 : World} {B : Nat} {e : TypeId} {s : Nat} {v : Value} {n : Nat} {xs : List Value} (ho : w2.ownsRow B e s v n xs) : ∀ g, sb v g → B ≤ g ∧ g < w2.heap.size := fun g z => by
  rcases ho.2 with ⟨y, _⟩ | ⟨g', cap', cur', rfl, hb', hg', _⟩
  · unfold sb at z; rw [y] at z; cases z
  · cases z; exact ⟨hb', X.blk_lt hg'⟩
theorem app1 {w : World} {v : Value} {xs : List Ms} {m : Ms} {B : Nat} {K : Value → Value → World → Prop} (ho : w.ownsRow B tMs 8 v xs.length (xs.flatMap Ms.enc)) (hB : B ≤ w.heap.size) (hl : xs.length ≤ 2000000)
    (hk : ∀ x v' w', w'.ownsRow B tMs 8 v' (xs ++ [m]).length ((xs ++ [m]).flatMap Ms.enc) → Mod (fun b => B ≤ b) w w' → K x v' w') :
    VK Try.prog (Instr.buildSlice tMsS 1 [(0, .agg m.enc.toArray)].toArray) w fun x w => IK Try.prog .append #[tMsS, tMsS] tMsS [false, false] [v, x] w (K x) := by
  refine bs_k (cs := m.enc.toArray) (by kernel_rfl) fun w1 hb1 hm1 hz1 => ?_
  refine ap_any eMsS (owns_mod ho hm1 fun _ _ => id) (reads_blk (size := 8) (n := 1) hb1 rfl) (fun u hu => Ms.enc_mem [m] u (by simpa using hu)) (by unfold maxLen; omega) (by omega) (by omega) fun v' w2 ho2 hm2 hv2 => ?_
  refine hk _ v' w2 ?_ ((hm1.mono fun _ _ z => z.elim).trans (hm2.mono fun b _ z => (owns_bd (owns_mod ho hm1 fun _ _ => id) b z.symm).1))
  rw [List.length_append, List.flatMap_append]
  simpa using ho2
section
variable {w : World} {p : Nat} {l : List Ms} {V : QV}
abbrev RowP (w0 : World) (xs : List Ms) : Value → World → Prop := fun v w' => w'.ownsRow w0.heap.size tMs 8 v xs.length (xs.flatMap Ms.enc) ∧ Mod none_ w0 w'
theorem Ahead_ok (h : QAt w p l V) (hL : l.length ≤ 1000000) (m : Ms) : Rt Try.prog 24 #[.pointer (some ⟨p, 0, none⟩), .agg m.enc.toArray] w (RowP w (aheadV l m.frm m.call)) := by
  refine queue_Queue_Ahead_calls ?_
  unfold queue_Queue_Ahead_F
  refine box_k (cs := m.enc.toArray) rfl fun w1 hb1 hm1 hz1 => ?_
  have g1 : FO Try.prog w1 tMs 1 1 ⟨w.heap.size, 0, none⟩ 3 (.int .i64 m.frm) := FO.blk hb1 (by kernel_rfl) vI rfl rfl
  have g3 : FO Try.prog w1 tMs 3 3 ⟨w.heap.size, 0, none⟩ 3 (.int .i64 m.call) := FO.blk hb1 (by kernel_rfl) vI rfl rfl
  rw [g1.e, g3.e]
  have h1 := h.calm hm1
  refine CK_st Try.func34 rfl rfl (find_ok h1 hL m.frm m.call) ?_
  rintro vv w2 ⟨hF, hm2⟩
  have h2 := h1.calm hm2
  have hm12 := hm1.trans hm2
  have hres : ∃ (v : Value) (i : Int) (row : List Ms) (k : Nat), vv = .tuple #[v, .int .i64 i] ∧ (if (0 : Int) > i then (0 : Int) else i) = (k : Int) ∧ k ≤ row.length ∧ MsRow w2 v row ∧ row.length ≤ 1000000 ∧ (row.take k).filter nt = aheadV l m.frm m.call := by
    unfold FindP at hF
    unfold aheadV
    cases hq : l.find? (Ms.isAt m.frm m.call) with
    | none =>
      rw [hq] at hF
      exact ⟨_, _, [], 0, hF, rfl, Nat.le_refl _, reads_nil _ _, by simp, rfl⟩
    | some x =>
      rw [hq] at hF
      obtain ⟨e, hem, hek, j, hj, rfl⟩ := hF
      have hr := reads_of_owns (h2.rows e hem)
      rw [hek] at hr
      have := row_len l x.ch
      refine ⟨e.v, j, rowOf l x.ch, j, rfl, by rw [if_neg (by omega)], Nat.le_of_lt (List.getElem?_eq_some_iff.1 hj).1, hr, by omega, ?_⟩
      dsimp only
      rw [ahead_row h.inv.uniq hq hj]
  obtain ⟨v, i, row, k, rfl, hik, hk, hrow, hrl, hah⟩ := hres
  rw [extract_ok (v := v) rfl, extract_ok (v := .int .i64 i) rfl, max_i, hik]
  refine cut_hi vMsS cMs hrow (by omega) (by omega) fun v' hv' => ?_
  rw [Int.toNat_natCast, fl_take (k := 7 + 1) Ms.enc_len] at hv'
  have hlk : (row.take k).length = k := by rw [List.length_take]; omega
  have hrow' : MsRow w2 v' (row.take k) := by unfold MsRow; rw [hlk]; exact hv'
  rw [← hah]
  generalize hT : row.take k = T at *
  obtain ⟨A, cc, es, _⟩ := reads_cap hrow'
  rw [es, len_sl vMsS, ← es]
  refine W_loop queue_Queue_Ahead_L0_ok (fun ρ w' => ∃ (j : Nat) (o : Value), j ≤ T.length ∧ ρ 24 = .int .i64 j ∧ ρ 23 = .int .i64 T.length ∧ ρ 22 = v' ∧ ρ 5 = o ∧ w'.ownsRow w2.heap.size tMs 8 o ((T.take j).filter nt).length (((T.take j).filter nt).flatMap Ms.enc) ∧ Mod none_ w2 w') (fun ρ _ => T.length - (intOf (ρ 24)).toNat)
    ⟨0, .slice none 0 0, by omega, rfl, rfl, rfl, rfl, World.ownsRow_nil _ _ _ _, Mod.refl _ _⟩ ?_
  rintro ρ w3 ⟨j, o, hj, e24, e23, e22, e5, hO, hm3⟩
  have hR3 := hrow'.calm hm3
  rw [queue_Queue_Ahead_L0_eq]; unfold queue_Queue_Ahead_L0_F
  rw [e24, e23, e22, e5, BK_lss]
  have hs3 := hm3.size
  by_cases hlt : j < T.length
  · rw [decide_eq_true (by omega)]
    refine condT ?_
    have hx : T[j]? = some T[j] := List.getElem?_eq_getElem hlt
    have etk : T.take (j + 1) = T.take j ++ [T[j]] := by rw [List.take_add_one, hx]; rfl
    generalize T[j] = x at *
    refine ixMs hR3 hx rfl fun _ => ?_
    refine al_k (cs := zMs.enc.toArray) zMs_z rfl _ fun w4 hb4 hm4 hz4 => ?_
    refine stS (cs := x.enc.toArray) (old := zMs.enc.toArray) rfl rfl (by rw [iMs]; rfl) rfl (Ms.enc_one _) hb4 fun w5 hb5 hm5 hz5 => ?_
    have hm35 : Mod none_ w3 w5 := hm4.fresh hm5 (by omega)
    have hO5 := owns_mod hO hm35 fun _ _ => id
    have g7 : FO Try.prog w5 tMs 7 7 ⟨w3.heap.size, 0, none⟩ 4 (.bool x.taken) := FO.blk hb5 (by kernel_rfl) vB rfl rfl
    rw [g7.e, not_ok]
    have nx : ∀ (ρ' : Sl) (w' : World) (o' : Value), ρ' 24 = .int .i64 j → ρ' 23 = .int .i64 T.length → ρ' 22 = v' → ρ' 5 = o' → w'.ownsRow w2.heap.size tMs 8 o' ((T.take (j + 1)).filter nt).length (((T.take (j + 1)).filter nt).flatMap Ms.enc) → Mod none_ w2 w' →
        sx fn_ Try.prog 37 queue_Queue_Ahead_R2 (seqK (fun ρ w' => (∃ (j : Nat) (o : Value), j ≤ T.length ∧ ρ 24 = .int .i64 j ∧ ρ 23 = .int .i64 T.length ∧ ρ 22 = v' ∧ ρ 5 = o ∧ w'.ownsRow w2.heap.size tMs 8 o ((T.take j).filter nt).length (((T.take j).filter nt).flatMap Ms.enc) ∧ Mod none_ w2 w') ∧ T.length - (intOf (ρ 24)).toNat < T.length - (intOf (.int .i64 (j : Int))).toNat) (blkK 0 (seqK (sx fn_ Try.prog 37 queue_Queue_Ahead_R1 (retK Try.prog [ResultVar.tmp 4] (RowP w (T.filter nt)))) (retK Try.prog [ResultVar.tmp 4] (RowP w (T.filter nt)))))) ρ' w' := by
      intro ρ' w' o' a24 a23 a22 a5 hO' hm'
      rw [queue_Queue_Ahead_R2_eq]; unfold queue_Queue_Ahead_R2_F
      rw [a24, BK_add, wrap_i (by omega) (by omega)]
      refine ⟨⟨j + 1, o', hlt, rfl, a23, a22, a5, hO', hm'⟩, ?_⟩
      show T.length - (intOf (.int .i64 _)).toNat < T.length - (intOf (.int .i64 _)).toNat
      simp only [intOf]; omega
    cases ht : x.taken with
    | true =>
      simp only [Bool.not_true]
      refine condF ?_
      have e1 : (T.take (j + 1)).filter nt = (T.take j).filter nt := by rw [etk, List.filter_append]; simp [nt, ht]
      exact nx _ w5 o (by first | rfl | exact e24) (by first | rfl | exact e23) (by first | rfl | exact e22) (by first | rfl | exact e5) (by rw [e1]; exact hO5) (hm3.trans hm35)
    | false =>
      simp only [Bool.not_false]
      refine condT ?_
      refine ldS rfl Try.underlying31 rfl (by rw [iMs]; rfl) hb5 ?_
      have e1 : (T.take (j + 1)).filter nt = (T.take j).filter nt ++ [x] := by rw [etk, List.filter_append]; simp [nt, ht]
      have hfl : ((T.take j).filter nt).length ≤ 1000000 := Nat.le_trans (List.length_filter_le _ _) (by rw [List.length_take]; omega)
      refine app1 hO5 (by have := hm35.size; omega) (by omega) fun _ o' w6 hO6 hm6 => ?_
      rw [← e1] at hO6
      exact nx _ w6 o' (by first | rfl | exact e24) (by first | rfl | exact e23) (by first | rfl | exact e22) rfl hO6 ((hm3.trans hm35).then hm6 fun i hi z => by omega)
  · rw [decide_eq_false (by omega)]
    refine condF ?_
    obtain rfl : j = T.length := by omega
    rw [sq_x, bk_x, sq_n, queue_Queue_Ahead_R1_eq]; unfold queue_Queue_Ahead_R1_F
    rw [List.take_length] at hO
    refine ⟨?_, hm12.trans hm3⟩
    show w3.ownsRow _ _ _ (ρ 5) _ _
    rw [e5]; exact owns_base hO hm12.size
end
end Go.Proofs.Ytnaoiekpfaganaa.Que
set_option linter.unusedVariables false
set_option linter.unusedSimpArgs false
set_option maxRecDepth 4000
namespace Go.Proofs.Ytnaoiekpfaganaa.Que
open Go Go.X Go.RowKit Go.Proofs.Ytnaoiekpfaganaa.XF Go.Proofs.Ytnaoiekpfaganaa.XK
section
variable {w : World} {p : Nat} {l : List Ms} {V : QV}
theorem left_L2 {K : Exit → Sl → World → Prop} {ρ : Sl} {v o : Value} {row O : List Ms} {B : Nat} (hB : B ≤ w.heap.size) (hr : ∀ w', Mod (fun b => B ≤ b) w w' → MsRow w' v row) (hl : row.length + O.length ≤ 1000000) (hO : w.ownsRow B tMs 8 o O.length (O.flatMap Ms.enc))
    (e21 : ρ 21 = .int .i64 0) (e20 : ρ 20 = .int .i64 row.length) (e19 : ρ 19 = v) (e3 : ρ 3 = o)
    (hk : ∀ ρ' w' o', ρ' 14 = ρ 14 → ρ' 3 = o' → w'.ownsRow B tMs 8 o' (O ++ row.filter nt).length ((O ++ row.filter nt).flatMap Ms.enc) → Mod (fun b => B ≤ b) w w' → K (.exit 2) ρ' w') : W fn_ Try.prog 36 (Code.loop queue_Queue_Left_L2) K ρ w := by
  refine W_loop queue_Queue_Left_L2_ok (fun ρ' w' => ∃ (j : Nat) (o' : Value), j ≤ row.length ∧ ρ' 21 = .int .i64 j ∧ ρ' 20 = .int .i64 row.length ∧ ρ' 19 = v ∧ ρ' 3 = o' ∧ ρ' 14 = ρ 14 ∧ w'.ownsRow B tMs 8 o' (O ++ (row.take j).filter nt).length ((O ++ (row.take j).filter nt).flatMap Ms.enc) ∧ Mod (fun b => B ≤ b) w w') (fun ρ' _ => row.length - (intOf (ρ' 21)).toNat)
    ⟨0, o, by omega, e21, e20, e19, e3, rfl, by simpa using hO, Mod.refl _ _⟩ ?_
  rintro ρ' w3 ⟨j, o', hj, a21, a20, a19, a3, a14, hO3, hm3⟩
  rw [queue_Queue_Left_L2_eq]; unfold queue_Queue_Left_L2_F
  rw [a21, a20, a19, a3, BK_lss]
  have hs3 := hm3.size
  by_cases hlt : j < row.length
  · rw [decide_eq_true (by omega)]
    refine condT ?_
    have hx : row[j]? = some row[j] := List.getElem?_eq_getElem hlt
    have etk : row.take (j + 1) = row.take j ++ [row[j]] := by rw [List.take_add_one, hx]; rfl
    generalize row[j] = x at *
    refine ixMs (hr w3 hm3) hx rfl fun _ => ?_
    refine al_k (cs := zMs.enc.toArray) zMs_z rfl _ fun w4 hb4 hm4 hz4 => ?_
    refine stS (cs := x.enc.toArray) (old := zMs.enc.toArray) rfl rfl (by rw [iMs]; rfl) rfl (Ms.enc_one _) hb4 fun w5 hb5 hm5 hz5 => ?_
    have hm35 : Mod none_ w3 w5 := hm4.fresh hm5 (by omega)
    have hO5 := owns_mod hO3 hm35 fun _ _ => id
    have g7 : FO Try.prog w5 tMs 7 7 ⟨w3.heap.size, 0, none⟩ 4 (.bool x.taken) := FO.blk hb5 (by kernel_rfl) vB rfl rfl
    rw [g7.e, not_ok]
    have hm5' : Mod (fun b => B ≤ b) w w5 := hm3.trans (hm35.mono fun _ _ z => z.elim)
    have nx : ∀ (ρ2 : Sl) (w' : World) (o2 : Value), ρ2 21 = .int .i64 j → ρ2 20 = .int .i64 row.length → ρ2 19 = v → ρ2 3 = o2 → ρ2 14 = ρ' 14 → w'.ownsRow B tMs 8 o2 (O ++ (row.take (j + 1)).filter nt).length ((O ++ (row.take (j + 1)).filter nt).flatMap Ms.enc) → Mod (fun b => B ≤ b) w w' →
        sx fn_ Try.prog 36 queue_Queue_Left_R3 (seqK (fun ρ' w' => (∃ (j : Nat) (o' : Value), j ≤ row.length ∧ ρ' 21 = .int .i64 j ∧ ρ' 20 = .int .i64 row.length ∧ ρ' 19 = v ∧ ρ' 3 = o' ∧ ρ' 14 = ρ 14 ∧ w'.ownsRow B tMs 8 o' (O ++ (row.take j).filter nt).length ((O ++ (row.take j).filter nt).flatMap Ms.enc) ∧ Mod (fun b => B ≤ b) w w') ∧ row.length - (intOf (ρ' 21)).toNat < row.length - (intOf (.int .i64 (j : Int))).toNat) K) ρ2 w' := by
      intro ρ2 w' o2 b21 b20 b19 b3 b14 hO' hm'
      rw [queue_Queue_Left_R3_eq]; unfold queue_Queue_Left_R3_F
      rw [b21, BK_add, wrap_i (by omega) (by omega)]
      refine ⟨⟨j + 1, o2, hlt, rfl, b20, b19, b3, b14.trans a14, hO', hm'⟩, ?_⟩
      show row.length - (intOf (.int .i64 _)).toNat < row.length - (intOf (.int .i64 _)).toNat
      simp only [intOf]; omega
    cases ht : x.taken with
    | true =>
      simp only [Bool.not_true]
      refine condF ?_
      have e1 : (row.take (j + 1)).filter nt = (row.take j).filter nt := by rw [etk, List.filter_append]; simp [nt, ht]
      exact nx _ w5 o' (by first | rfl | exact a21) (by first | rfl | exact a20) (by first | rfl | exact a19) (by first | rfl | exact a3) rfl (by rw [e1]; exact hO5) hm5'
    | false =>
      simp only [Bool.not_false]
      refine condT ?_
      refine ldS rfl Try.underlying31 rfl (by rw [iMs]; rfl) hb5 ?_
      have e1 : (row.take (j + 1)).filter nt = (row.take j).filter nt ++ [x] := by rw [etk, List.filter_append]; simp [nt, ht]
      have hfl : ((row.take j).filter nt).length ≤ row.length := Nat.le_trans (List.length_filter_le _ _) (by rw [List.length_take]; omega)
      refine app1 hO5 (by have := hm35.size; omega) (by rw [List.length_append]; omega) fun _ o2 w6 hO6 hm6 => ?_
      rw [List.append_assoc, ← e1] at hO6
      exact nx _ w6 o2 (by first | rfl | exact a21) (by first | rfl | exact a20) (by first | rfl | exact a19) rfl rfl hO6 (hm5'.trans hm6)
  · rw [decide_eq_false (by omega)]
    refine condF ?_
    obtain rfl : j = row.length := by omega
    rw [sq_x]
    rw [List.take_length] at hO3
    exact hk _ w3 o' a14 a3 hO3 hm3
theorem flatMap_congr' {α β : Type} {f g : α → List β} : ∀ {vs : List α}, (∀ x ∈ vs, f x = g x) → vs.flatMap f = vs.flatMap g
  | [], _ => rfl
  | a :: vs, h => by rw [List.flatMap_cons, List.flatMap_cons, h a List.mem_cons_self, flatMap_congr' fun x hx => h x (List.mem_cons_of_mem _ hx)]
theorem filter_split (l : List Ms) (k : Ch) : (rowOf l k).length + (l.filter fun m => !decide (m.ch = k)).length = l.length := by
  unfold rowOf
  induction l with
  | nil => rfl
  | cons a l ih => by_cases q : a.ch = k <;> simp [q] <;> omega
theorem vis_len {vs : List (Ent Ch)} (h : QInv l V) (hs : ∀ e ∈ vs, e ∈ V.er) (hd : vs.Pairwise fun a b => a.k ≠ b.k) : (vs.flatMap fun e => (rowOf l e.k).filter nt).length ≤ l.length := by
  have key : ∀ (vs : List (Ent Ch)) (l : List Ms), vs.Pairwise (fun a b => a.k ≠ b.k) → (vs.flatMap fun e => (rowOf l e.k).filter nt).length ≤ l.length := by
    intro vs
    induction vs with
    | nil => intro l _; simp
    | cons e vs ih =>
      intro l hd
      rw [List.pairwise_cons] at hd
      rw [List.flatMap_cons, List.length_append]
      have e1 : (vs.flatMap fun x => (rowOf l x.k).filter nt) = vs.flatMap fun x => (rowOf (l.filter fun m => !decide (m.ch = e.k)) x.k).filter nt := by
        refine flatMap_congr' fun x hx => ?_
        congr 1
        unfold rowOf
        rw [List.filter_filter]
        refine List.filter_congr fun m _ => ?_
        by_cases q : m.ch = x.k
        · have : m.ch ≠ e.k := fun z => hd.1 x hx (z.symm.trans q)
          simp [q, this]
          intro z; exact this (q.trans z)
        · simp [q]
      rw [e1]
      have h2 := ih (l.filter fun m => !decide (m.ch = e.k)) hd.2
      have h3 : ((rowOf l e.k).filter nt).length ≤ (rowOf l e.k).length := List.length_filter_le _ _
      have h4 := filter_split l e.k
      omega
  exact key vs l hd
abbrev LeftP (w0 : World) (l : List Ms) : Value → World → Prop := fun v w' => ∃ S, Stab ltM (l.filter nt) S ∧ w'.ownsRow w0.heap.size tMs 8 v S.length (S.flatMap Ms.enc) ∧ Mod none_ w0 w'
theorem Left_ok (h : QAt w p l V) (hL : l.length ≤ 500000) : Rt Try.prog 16 #[.pointer (some ⟨p, 0, none⟩)] w (LeftP w l) := by
  refine queue_Queue_Left_calls ?_
  unfold queue_Queue_Left_F
  refine CK_st Try.func31 rfl rfl (none_ok h) ?_
  rintro _ w1 ⟨rfl, rfl⟩
  refine condF ?_
  rw [NK_ptr, (f_rows h).e]
  refine range_k uR h.rm fun w2 hit hm2 hz2 => ?_
  have h2 := h.calm hm2
  refine W_loopG queue_Queue_Left_L0_ok (fun m ρ w' => ∃ (vs : List (Ent Ch)) (o : Value), m = togo V.er (vs.map (·.b)) ∧ (∀ e ∈ vs, e ∈ V.er) ∧ vs.Pairwise (fun a b => a.k ≠ b.k) ∧ ρ 14 = .pointer (some ⟨w1.heap.size, 0, none⟩) ∧ ρ 3 = o ∧ IterAt w' w1.heap.size V.rb V.c1 (vs.map (·.b)) V.c1 ∧ w'.ownsRow w2.heap.size tMs 8 o (vs.flatMap fun e => (rowOf l e.k).filter nt).length ((vs.flatMap fun e => (rowOf l e.k).filter nt).flatMap Ms.enc) ∧ Mod (fun b => w1.heap.size ≤ b) w2 w' ∧ Mod none_ w1 w') (togo V.er [])
    ⟨[], .slice none 0 0, rfl, by simp, by simp, rfl, rfl, hit, World.ownsRow_nil _ _ _ _, Mod.refl _ _, hm2⟩ ?_
  rintro m ρ w3 ⟨vs, o, hmv, hvs, hvd, e14, e3, hit3, hO3, hm23, hm13⟩
  rw [queue_Queue_Left_L0_eq]; unfold queue_Queue_Left_L0_F
  rw [e14]
  have h3 := h.calm hm13
  refine next_k h3.rm hit3 h3.inv.rc (Nat.le_refl _) (fun hall => ?_) (fun e he hne w4 hit4 hm4 hz4 => ?_)
  · rw [extract_ok (v := .bool false) rfl]
    refine condF ?_
    rw [sq_x, bk_x, sq_n, queue_Queue_Left_R1_eq]; unfold queue_Queue_Left_R1_F
    have key : ∀ ρ : Sl, ρ 3 = o → CK Try.prog (.func (.func 36) #[] #[]) [ρ 3, ordF] w3 fun x34 w => retK Try.prog [ResultVar.tmp 2] (LeftP w1 l) .ret (up (up (up (up ρ 33 (ρ 3)) 34 x34) 35 (ρ 3)) 2 (ρ 3)) w := by
      intro ρ q3
      rw [q3]
      have hlen := vis_len h.inv hvs hvd
      refine CK_st Try.func36 rfl rfl (SortStable_ok hO3 (by omega)) ?_
      rintro _ w4 ⟨S, hS, hO4, hm4⟩
      refine ⟨S, Stab.trans (left_fq h.inv hvs hvd hall) hS, ?_, hm13.then hm4 fun i hi z => ?_⟩
      · exact owns_base hO4 (by omega)
      · have := (owns_bd hO3 i z).1; omega
    exact key _ e3
  · rw [extract_ok (v := .bool true) rfl]
    refine condT ?_
    have hm14 : Mod none_ w1 w4 := hm13.fresh hm4 (Nat.le_refl _)
    have h4 := h.calm hm14
    refine entry_k h4.rm hit4 he h4.inv.rb ?_
    rw [extract_ok (v := e.v) rfl]
    have hr4 : MsRow w4 e.v (rowOf l e.k) := reads_of_owns (h4.rows e he)
    obtain ⟨A, cc, es, _⟩ := reads_cap hr4
    rw [es, len_sl vMsS, ← es]
    have s12 : w2.heap.size = w1.heap.size + 1 := hz2
    have hO4 := owns_mod hO3 hm4 fun g z y => by have := (owns_bd hO3 g z).1; omega
    have hlen := vis_len h.inv hvs hvd
    have hrl := row_len l e.k
    have s24 : w2.heap.size ≤ w4.heap.size := Nat.le_trans hm23.size (Nat.le_of_eq hz4.symm)
    obtain ⟨O, hOe⟩ : ∃ O, O = vs.flatMap fun e => (rowOf l e.k).filter nt := ⟨_, rfl⟩
    rw [← hOe] at hO4 hlen
    have hsum : (rowOf l e.k).length + O.length ≤ 1000000 := by omega
    refine left_L2 (v := e.v) (o := o) (row := rowOf l e.k) (O := O) (B := w2.heap.size) s24 (fun w' hm' => hr4.mod hm' fun g z y => by have := h.old g (.inr (.inr (.inr ⟨e, he, z⟩))); omega) hsum hO4 rfl rfl rfl (by first | exact e3 | rfl) ?_
    intro ρ5 w5 o5 b14 b3 hO5 hm5
    rw [bk_x, bk_n, sq_n]
    have hmap : (vs ++ [e]).map (·.b) = vs.map (·.b) ++ [e.b] := by simp
    refine ⟨togo V.er ((vs ++ [e]).map (·.b)), by rw [hmv, hmap]; exact togo_lt he hne, vs ++ [e], o5, rfl, fun x hx => ?_, ?_, b14.trans (by first | exact e14 | rfl), b3, ?_, ?_, ?_, ?_⟩
    · rcases List.mem_append.1 hx with z | z
      · exact hvs x z
      · rw [List.mem_singleton.1 z]; exact he
    · rw [List.pairwise_append]
      refine ⟨hvd, by simp, fun a ha b hb => ?_⟩
      rw [List.mem_singleton.1 hb]
      intro hk
      obtain ⟨i, hi, hi'⟩ := List.mem_iff_getElem.1 (hvs a ha)
      obtain ⟨j, hj, hj'⟩ := List.mem_iff_getElem.1 he
      have := h.inv.rk i j _ _ (List.getElem?_eq_getElem hi) (List.getElem?_eq_getElem hj) (by rw [hi', hj']; exact hk)
      subst this
      rw [hi'] at hj'
      subst hj'
      exact hne (List.mem_map_of_mem ha)
    · rw [hmap]
      exact hit4.mod hm5 (by omega)
    · have e1 : ((vs ++ [e]).flatMap fun e => (rowOf l e.k).filter nt) = (vs.flatMap fun e => (rowOf l e.k).filter nt) ++ (rowOf l e.k).filter nt := by simp
      rw [e1, ← hOe]; exact hO5
    · exact (hm23.trans (hm4.mono fun b _ z => by omega)).trans (hm5.mono fun b _ z => by omega)
    · exact hm14.then hm5 fun i hi z => by omega
end
end Go.Proofs.Ytnaoiekpfaganaa.Que
set_option linter.unusedVariables false
set_option linter.unusedSimpArgs false
set_option maxRecDepth 4000
namespace Go.X
open Go Go.RowKit
end Go.X
namespace Go.Proofs.Ytnaoiekpfaganaa.Que
open Go Go.X Go.RowKit Go.Proofs.Ytnaoiekpfaganaa.XF Go.Proofs.Ytnaoiekpfaganaa.XK
structure CpR (w' : World) (B rb : Nat) (l : List Ms) (vs E : List (Ent Ch)) : Prop where
  map : IsMap encC w' rb E E.length
  keys : E.map (·.k) = vs.map (·.k)
  born : ∀ (i : Nat) (e : Ent Ch), E[i]? = some e → e.b = i
  rows : ∀ e ∈ E, w'.ownsRow B tMs 8 e.v (rowOf l e.k).length ((rowOf l e.k).flatMap Ms.enc)
  dist : ∀ (i j : Nat) (a b : Ent Ch), E[i]? = some a → E[j]? = some b → i ≠ j → ∀ g, sb a.v g → ¬ sb b.v g
section
variable {w : World} {p : Nat} {l : List Ms} {V : QV}
theorem CpR.mod {S : Nat → Prop} {w1 w2 : World} {B rb : Nat} {vs E : List (Ent Ch)} (h : CpR w1 B rb l vs E) (hm : Mod S w1 w2) (h1 : ¬ S rb) (h2 : ∀ e ∈ E, ∀ g, sb e.v g → ¬ S g) : CpR w2 B rb l vs E :=
  ⟨h.map.mod hm h1, h.keys, h.born, fun e he => owns_mod (h.rows e he) hm fun g z => h2 e he g z, h.dist⟩
theorem CpR.snoc {w1 w2 : World} {B rb : Nat} {vs E : List (Ent Ch)} {e : Ent Ch} {v : Value} (h : CpR w1 B rb l vs E) (hn : ∀ x ∈ vs, x.k ≠ e.k) (ho : w1.ownsRow B tMs 8 v (rowOf l e.k).length ((rowOf l e.k).flatMap Ms.enc)) (hv : ∀ g, sb v g → g ≠ rb ∧ ∀ x ∈ E, ¬ sb x.v g) (hE : ∀ x ∈ E, ¬ sb x.v rb)
    (hm : Mod (fun b => b = rb) w1 w2) (hmap : IsMap encC w2 rb (putE e.k v E.length E) (clkE e.k E.length E)) : CpR w2 B rb l (vs ++ [e]) (E ++ [⟨e.k, v, E.length⟩]) := by
  have hf : findE e.k E 0 = none := by
    refine findE_none.2 fun x hx q => ?_
    have : x.k ∈ vs.map (·.k) := by rw [← h.keys]; exact List.mem_map_of_mem hx
    obtain ⟨y, hy, hk⟩ := List.mem_map.1 this
    exact hn y hy (hk.trans q)
  unfold putE clkE at hmap
  rw [hf] at hmap
  refine ⟨by rw [List.length_append]; exact hmap, by rw [List.map_append, List.map_append, h.keys]; rfl, fun i x hx => ?_, fun x hx => ?_, fun i j a b hi hj hij g ha hb => ?_⟩
  · rcases app_get hx with z | ⟨z, rfl⟩
    · exact h.born i x z
    · exact z.symm
  · rcases List.mem_append.1 hx with z | z
    · exact owns_mod (h.rows x z) hm fun g q y => hE x z (y ▸ q)
    · rw [List.mem_singleton.1 z]
      exact owns_mod ho hm fun g q y => (hv g q).1 y
  · rcases app_get hi with z | ⟨z, rfl⟩ <;> rcases app_get hj with y | ⟨y, rfl⟩
    · exact h.dist i j a b z y hij g ha hb
    · exact (hv g hb).2 a (List.mem_of_getElem? z) ha
    · exact (hv g ha).2 b (List.mem_of_getElem? y) hb
    · omega
structure CpA (w' : World) (ab : Nat) (vs E : List (Ent (Int × Int))) : Prop where
  map : IsMap encSt w' ab E E.length
  kv : E.map (fun e => (e.k, e.v)) = vs.map (fun e => (e.k, e.v))
  born : ∀ (i : Nat) (e : Ent (Int × Int)), E[i]? = some e → e.b = i
theorem CpA.snoc {w2 : World} {ab : Nat} {vs E : List (Ent (Int × Int))} {e : Ent (Int × Int)} (hb : ∀ (i : Nat) (e : Ent (Int × Int)), E[i]? = some e → e.b = i) (hkv : E.map (fun e => (e.k, e.v)) = vs.map (fun e => (e.k, e.v))) (hn : ∀ x ∈ vs, x.k ≠ e.k)
    (hmap : IsMap encSt w2 ab (putE e.k e.v E.length E) (clkE e.k E.length E)) : CpA w2 ab (vs ++ [e]) (E ++ [⟨e.k, e.v, E.length⟩]) := by
  have hf : findE e.k E 0 = none := by
    refine findE_none.2 fun x hx q => ?_
    have : (x.k, x.v) ∈ vs.map (fun e => (e.k, e.v)) := by rw [← hkv]; exact List.mem_map_of_mem (f := fun e : Ent (Int × Int) => (e.k, e.v)) hx
    obtain ⟨y, hy, hk⟩ := List.mem_map.1 this
    have hk' : y.k = x.k := congrArg Prod.fst hk
    exact hn y hy (hk'.trans q)
  unfold putE clkE at hmap
  rw [hf] at hmap
  refine ⟨by rw [List.length_append]; exact hmap, by rw [List.map_append, List.map_append, hkv]; rfl, fun i x hx => ?_⟩
  rcases app_get hx with z | ⟨z, rfl⟩
  · exact hb i x z
  · exact z.symm
end
end Go.Proofs.Ytnaoiekpfaganaa.Que
set_option linter.unusedVariables false
set_option linter.unusedSimpArgs false
set_option maxRecDepth 4000
namespace Go.Proofs.Ytnaoiekpfaganaa.Que
open Go Go.X Go.RowKit Go.Proofs.Ytnaoiekpfaganaa.XF Go.Proofs.Ytnaoiekpfaganaa.XK
section
variable {w : World} {p : Nat} {l : List Ms} {V : QV}
theorem mem_of_born {κ : Type} {L vs : List (Ent κ)} (hb : ∀ (i j : Nat) (a b : Ent κ), L[i]? = some a → L[j]? = some b → a.b = b.b → i = j) (hs : ∀ e ∈ vs, e ∈ L) (hall : ∀ e ∈ L, e.b ∈ vs.map (·.b)) : ∀ e ∈ L, e ∈ vs := by
  intro e he
  obtain ⟨x, hx, hxb⟩ := List.mem_map.1 (hall e he)
  obtain ⟨i, hi, hi'⟩ := List.mem_iff_getElem.1 he
  obtain ⟨j, hj, hj'⟩ := List.mem_iff_getElem.1 (hs x hx)
  have := hb i j _ _ (List.getElem?_eq_getElem hi) (List.getElem?_eq_getElem hj) (by rw [hi', hj', hxb])
  subst this
  rw [hi'] at hj'
  rw [hj']; exact hx
theorem key_ne {κ : Type} {L vs : List (Ent κ)} {e : Ent κ} (hk : ∀ (i j : Nat) (a b : Ent κ), L[i]? = some a → L[j]? = some b → a.k = b.k → i = j) (hs : ∀ e ∈ vs, e ∈ L) (he : e ∈ L) (hne : e.b ∉ vs.map (·.b)) : ∀ x ∈ vs, x.k ≠ e.k := by
  intro x hx q
  obtain ⟨i, hi, hi'⟩ := List.mem_iff_getElem.1 (hs x hx)
  obtain ⟨j, hj, hj'⟩ := List.mem_iff_getElem.1 he
  have := hk i j _ _ (List.getElem?_eq_getElem hi) (List.getElem?_eq_getElem hj) (by rw [hi', hj']; exact q)
  subst this
  rw [hi'] at hj'
  subst hj'
  exact hne (List.mem_map_of_mem hx)
end
end Go.Proofs.Ytnaoiekpfaganaa.Que
set_option linter.unusedVariables false
set_option linter.unusedSimpArgs false
set_option maxRecDepth 4000
namespace Go.Proofs.Ytnaoiekpfaganaa.Que
open Go Go.X Go.RowKit Go.Proofs.Ytnaoiekpfaganaa.XF Go.Proofs.Ytnaoiekpfaganaa.XK
section
variable {w : World} {p : Nat} {l : List Ms} {V : QV}
end
end Go.Proofs.Ytnaoiekpfaganaa.Que
set_option linter.unusedVariables false
set_option linter.unusedSimpArgs false
set_option maxRecDepth 4000
namespace Go.X
open Go Go.RowKit
structure DAt (w : World) (p : Nat) (l : List Ms) (v : Value) : Prop where
  blk : w.heap[p]? = some (.cells #[v] 29 (0, 0))
  own : w.ownsRow 0 31 8 v l.length (l.flatMap Ms.enc)
def DF (p : Nat) (v : Value) (b : Nat) : Prop := b = p ∨ sb v b
structure DFr (p : Nat) (w : World) (v : Value) (w' : World) (v' : Value) : Prop where
  mod : Mod (DF p v) w w'
  f : ∀ b, DF p v' b → DF p v b ∨ w.heap.size ≤ b
theorem DFr.refl (p : Nat) (w : World) (v : Value) : DFr p w v w v := ⟨Mod.refl _ _, fun _ h => .inl h⟩
theorem DFr.calm {p : Nat} {w w' : World} {v : Value} (h : Mod none_ w w') : DFr p w v w' v := ⟨h.mono fun _ _ q => q.elim, fun _ q => .inl q⟩
theorem DFr.trans {p : Nat} {w w1 w2 : World} {V V1 V2 : Value} (h : DFr p w V w1 V1) (k : DFr p w1 V1 w2 V2) : DFr p w V w2 V2 := by
  have hs := h.mod.size
  refine ⟨h.mod.then k.mod fun i hi q => ?_, fun b q => ?_⟩
  · rcases h.f i q with z | z
    · exact z
    · omega
  · rcases k.f b q with z | z
    · exact h.f b z
    · exact .inr (by omega)
theorem DAt.mod {w w' : World} {p : Nat} {l : List Ms} {v : Value} {S : Nat → Prop} (h : DAt w p l v) (hm : Mod S w w') (hS : ∀ b, DF p v b → ¬ S b) : DAt w' p l v :=
  ⟨hm.blk h.blk (hS _ (.inl rfl)), owns_mod h.own hm fun k q => hS k (.inr q)⟩
theorem DAt.calm {w w' : World} {p : Nat} {l : List Ms} {v : Value} (h : DAt w p l v) (hm : Mod none_ w w') : DAt w' p l v := h.mod hm fun _ _ q => q
theorem DAt.old {w : World} {p : Nat} {l : List Ms} {v : Value} (h : DAt w p l v) : ∀ b, DF p v b → b < w.heap.size := by
  intro b hb
  rcases hb with rfl | hb
  · exact X.blk_lt h.blk
  · obtain ⟨c, hc⟩ := owns_blk h.own hb
    exact X.blk_lt hc
theorem DAt.ne {w : World} {p : Nat} {l : List Ms} {v : Value} (h : DAt w p l v) {b : Nat} (hb : sb v b) : b ≠ p := by
  obtain ⟨c, hc⟩ := owns_blk h.own hb
  intro q
  subst q; have := h.blk; rw [hc] at this; cases this
end Go.X
namespace Go.Proofs.Ytnaoiekpfaganaa.Que
open Go Go.X Go.RowKit Go.Proofs.Ytnaoiekpfaganaa.XF Go.Proofs.Ytnaoiekpfaganaa.XK
section
variable {w : World} {p : Nat} {l : List Ms} {V : Value}
theorem ixF {w : World} {s : Value} {l : List Ms} {i : Nat} {n : Int} {e : Ms} {t : TypeId} {k : Nat} {u : Value} {K : Value → Value → Value → World → Prop} (h : MsRow w s l) (hi : l[i]? = some e) (hn : n = (i : Int)) (hf : fieldOff Try.prog tMs k = some k) (hu : ∀ {a : Addr} {K : Value → World → Prop}, w.cell? a = some u → K u w → VK Try.prog (Instr.loadAt t (.pointer (some a))) w K) (he : e.enc[k]? = some u) (hk : ∀ x y, K x y u w) :
    VK Try.prog (Instr.indexAt tMsS s (.int .i64 n)) w fun x w => VK Try.prog (Instr.fieldAt tMs x k) w fun y w => VK Try.prog (Instr.loadAt t y) w (K x y) := by
  refine ixMsA h hi hn fun a ha => ?_
  rw [fo hf]
  exact hu (ha k u he) (hk _ _)
end
end Go.Proofs.Ytnaoiekpfaganaa.Que
set_option linter.unusedVariables false
set_option linter.unusedSimpArgs false
set_option maxRecDepth 4000
namespace Go.Proofs.Ytnaoiekpfaganaa.Que
open Go Go.X Go.RowKit Go.Proofs.Ytnaoiekpfaganaa.XF Go.Proofs.Ytnaoiekpfaganaa.XK
section
variable {w : World} {p : Nat} {l : List Ms} {V : Value}
end
end Go.Proofs.Ytnaoiekpfaganaa.Que
set_option linter.unusedVariables false
set_option linter.unusedSimpArgs false
set_option maxRecDepth 4000
namespace Go.X
open Go Go.RowKit
end Go.X
namespace Go.Proofs.Ytnaoiekpfaganaa.Que
open Go Go.X Go.RowKit Go.Proofs.Ytnaoiekpfaganaa.XF Go.Proofs.Ytnaoiekpfaganaa.XK
section
variable {w : World} {p : Nat} {l : List Ms} {V : Value}
end
end Go.Proofs.Ytnaoiekpfaganaa.Que
set_option linter.unusedVariables false
set_option linter.unusedSimpArgs false
set_option maxRecDepth 4000
namespace Go.X
end Go.X
namespace Go.Proofs.Ytnaoiekpfaganaa.Que
open Go Go.X Go.RowKit Go.Proofs.Ytnaoiekpfaganaa.XF Go.Proofs.Ytnaoiekpfaganaa.XK
section
variable {w : World} {p : Nat} {l : List Ms} {V : Value}
end
end Go.Proofs.Ytnaoiekpfaganaa.Que
set_option linter.unusedVariables false
set_option linter.unusedSimpArgs false
set_option maxRecDepth 4000
namespace Go.Proofs.Ytnaoiekpfaganaa.Que
open Go Go.X Go.RowKit Go.Proofs.Ytnaoiekpfaganaa.XF Go.Proofs.Ytnaoiekpfaganaa.XK
end Go.Proofs.Ytnaoiekpfaganaa.Que
set_option linter.unusedVariables false
set_option linter.unusedSimpArgs false
set_option maxRecDepth 4000
namespace Go.X
open Go Go.RowKit
end Go.X
namespace Go.Proofs.Ytnaoiekpfaganaa.Que
open Go Go.X Go.RowKit Go.Proofs.Ytnaoiekpfaganaa.XF Go.Proofs.Ytnaoiekpfaganaa.XK
section
variable {w : World} {p : Nat} {l : List Ms} {V : Value}
end
end Go.Proofs.Ytnaoiekpfaganaa.Que
set_option linter.unusedVariables false
set_option linter.unusedSimpArgs false
set_option maxRecDepth 4000
namespace Go.X
open Go Go.RowKit
end Go.X
namespace Go.Proofs.Ytnaoiekpfaganaa.Que
open Go Go.X Go.RowKit Go.Proofs.Ytnaoiekpfaganaa.XF Go.Proofs.Ytnaoiekpfaganaa.XK
section
variable {w : World} {p : Nat} {l : List Ms} {V : Value}
end
end Go.Proofs.Ytnaoiekpfaganaa.Que
namespace Go.Proofs
open Go.Shelf
def Try.lays189_ren : Go.Shelf.Ren := ⟨fun | 189 => 42 | 125 => 51 | 257 => 50 | 128 => 65 | 129 => 66 | 294 => 56 | 295 => 57 | 296 => 58 | 297 => 59 | 298 => 60 | 299 => 61 | 216 => 62 | 300 => 63 | 301 => 64 | 328 => 68 | 329 => 69 | 330 => 70 | 331 => 71 | 332 => 72 | 215 => 55 | 343 => 74 | n => n, fun | 28 => 49 | 3 => 3 | 46 => 84 | 0 => 0 | 51 => 99 | 53 => 101 | 4 => 4 | 183 => 91 | 182 => 90 | 131 => 96 | 5 => 5 | 9 => 9 | 218 => 102 | 222 => 106 | 228 => 108 | 229 => 109 | n => n, fun | n => n⟩
theorem Try.lays189 : Go.Proofs.Lays.n189 Try.prog Try.lays189_ren := {
  mixed := by kernel_rfl
  f125 := Try.func51.trans (congrArg some (by kernel_rfl))
  f128 := Try.func65.trans (congrArg some (by kernel_rfl))
  f129 := Try.func66.trans (congrArg some (by kernel_rfl))
  f189 := Try.func42.trans (congrArg some (by kernel_rfl))
  f215 := Try.func55.trans (congrArg some (by kernel_rfl))
  f216 := Try.func62.trans (congrArg some (by kernel_rfl))
  f257 := Try.func50.trans (congrArg some (by kernel_rfl))
  f294 := Try.func56.trans (congrArg some (by kernel_rfl))
  f295 := Try.func57.trans (congrArg some (by kernel_rfl))
  f296 := Try.func58.trans (congrArg some (by kernel_rfl))
  f297 := Try.func59.trans (congrArg some (by kernel_rfl))
  f298 := Try.func60.trans (congrArg some (by kernel_rfl))
  f299 := Try.func61.trans (congrArg some (by kernel_rfl))
  f300 := Try.func63.trans (congrArg some (by kernel_rfl))
  f301 := Try.func64.trans (congrArg some (by kernel_rfl))
  f328 := Try.func68.trans (congrArg some (by kernel_rfl))
  f329 := Try.func69.trans (congrArg some (by kernel_rfl))
  f330 := Try.func70.trans (congrArg some (by kernel_rfl))
  f331 := Try.func71.trans (congrArg some (by kernel_rfl))
  f332 := Try.func72.trans (congrArg some (by kernel_rfl))
  f343 := Try.func74.trans (congrArg some (by kernel_rfl))
  t0 := Try.underlying0
  a0 := Try.isAgg0
  z0 := Try.sizeOf0
  v0 := Try.zeroValue0
  t3 := Try.underlying3
  a3 := Try.isAgg3
  z3 := Try.sizeOf3
  v3 := Try.zeroValue3
  t4 := Try.underlying4
  a4 := Try.isAgg4
  z4 := Try.sizeOf4
  v4 := Try.zeroValue4
  t5 := Try.underlying5
  a5 := Try.isAgg5
  z5 := Try.sizeOf5
  v5 := Try.zeroValue5
  t9 := Try.underlying9
  a9 := Try.isAgg9
  z9 := Try.sizeOf9
  v9 := Try.zeroValue9
  t28 := Try.underlying49
  a28 := Try.isAgg49
  z28 := Try.sizeOf49
  v28 := Try.zeroValue49
  t46 := Try.underlying84
  a46 := Try.isAgg84
  z46 := Try.sizeOf84
  v46 := Try.zeroValue84
  t51 := Try.underlying99
  a51 := Try.isAgg99
  z51 := Try.sizeOf99
  v51 := Try.zeroValue99
  t53 := Try.underlying101
  a53 := Try.isAgg101
  z53 := Try.sizeOf101
  v53 := Try.zeroValue101
  t131 := Try.underlying96
  a131 := Try.isAgg96
  z131 := Try.sizeOf96
  v131 := Try.zeroValue96
  t182 := Try.underlying90
  a182 := Try.isAgg90
  z182 := Try.sizeOf90
  v182 := Try.zeroValue90
  t183 := Try.underlying91
  a183 := Try.isAgg91
  z183 := Try.sizeOf91
  v183 := Try.zeroValue91
  t218 := Try.underlying102
  a218 := Try.isAgg102
  z218 := Try.sizeOf102
  v218 := Try.zeroValue102
  t222 := Try.underlying106
  a222 := Try.isAgg106
  z222 := Try.sizeOf106
  v222 := Try.zeroValue106
  t228 := Try.underlying108
  a228 := Try.isAgg108
  z228 := Try.sizeOf108
  v228 := Try.zeroValue108
  t229 := Try.underlying109
  a229 := Try.isAgg109
  z229 := Try.sizeOf109
  v229 := Try.zeroValue109 }
end Go.Proofs
set_option linter.unusedVariables false
set_option linter.unusedSimpArgs false
set_option maxRecDepth 4000
namespace Go.X
open Go Go.RowKit
theorem sorted_ext : ∀ {s t : List Int}, s.Pairwise (· < ·) → t.Pairwise (· < ·) → (∀ x, x ∈ s ↔ x ∈ t) → s = t
  | [], [], _, _, _ => rfl
  | [], b :: t, _, _, h => absurd ((h b).2 List.mem_cons_self) (by simp)
  | a :: s, [], _, _, h => absurd ((h a).1 List.mem_cons_self) (by simp)
  | a :: s, b :: t, hs, ht, h => by
    rw [List.pairwise_cons] at hs ht
    have hab : a = b := by
      have h1 := (h a).1 List.mem_cons_self
      have h2 := (h b).2 List.mem_cons_self
      rcases List.mem_cons.1 h1 with q | q
      · exact q
      · rcases List.mem_cons.1 h2 with z | z
        · exact z.symm
        · have := ht.1 a q; have := hs.1 b z; omega
    subst hab
    congr 1
    refine sorted_ext hs.2 ht.2 fun x => ⟨fun q => ?_, fun q => ?_⟩
    · rcases List.mem_cons.1 ((h x).1 (List.mem_cons_of_mem _ q)) with z | z
      · have := hs.1 x q; omega
      · exact z
    · rcases List.mem_cons.1 ((h x).2 (List.mem_cons_of_mem _ q)) with z | z
      · have := ht.1 x q; omega
      · exact z
theorem merge_lt {l : List Int} (h : l.Nodup) : (l.mergeSort fun x y => decide (x ≤ y)).Pairwise (· < ·) := by
  have h1 := List.pairwise_mergeSort (le := fun x y : Int => decide (x ≤ y)) (fun a b c p q => by simp only [decide_eq_true_eq] at p q ⊢; omega) (fun a b => by simp only [Bool.or_eq_true, decide_eq_true_eq]; omega) l
  have h2 : (l.mergeSort fun x y => decide (x ≤ y)).Nodup := (List.mergeSort_perm l _).nodup_iff.2 h
  refine (List.pairwise_iff_getElem.2 fun i j hi hj hij => ?_)
  have a := List.pairwise_iff_getElem.1 h1 i j hi hj hij
  have b := List.pairwise_iff_getElem.1 h2 i j hi hj hij
  simp only [decide_eq_true_eq] at a
  omega
def sentBy (l : List Ms) (k : List UInt8) (t x : Int) : Bool := l.any fun m => nt m && decide (m.ch = (k, x, t))
def sendersV (l : List Ms) (k : List UInt8) (t : Int) : List Int := ((List.range 64).map fun n : Nat => (n : Int)).filter (sentBy l k t)
def FrmOk (l : List Ms) : Prop := ∀ m ∈ l, 0 ≤ m.frm ∧ m.frm ≤ 63
theorem FrmOk.nil : FrmOk [] := by intro m hm; cases hm
theorem FrmOk.take {l : List Ms} (h : FrmOk l) (f c : Int) : FrmOk (takeV l f c).1 := by
  unfold takeV
  split
  · exact h
  · split
    · exact h
    · intro m hm
      obtain ⟨x, hx, rfl⟩ := List.mem_map.1 hm
      rw [tk_frm]; exact h x hx
theorem FrmOk.send {l : List Ms} (h : FrmOk l) (m : Ms) : FrmOk (sendV l m).1 := by
  unfold sendV
  split
  · exact h
  · rename_i hb
    intro x hx
    rcases List.mem_append.1 hx with q | q
    · exact h x q
    · rw [List.mem_singleton.1 q]
      have : badM m = false := by
        cases hq : badM m with
        | false => rfl
        | true => rw [hq] at hb; simp at hb
      unfold badM at this
      simp only [Bool.or_eq_false_iff, Bool.not_eq_false', Bool.and_eq_true, decide_eq_true_eq] at this
      exact this.1.1.1.1.2
theorem range_lt (n : Nat) : ((List.range n).map fun n : Nat => (n : Int)).Pairwise (· < ·) := by
  rw [List.pairwise_map]
  exact List.pairwise_lt_range.imp fun h => by omega
theorem senders_eq {l : List Ms} (hg : FrmOk l) {k : List UInt8} {t : Int} {out : List Int} (hn : out.Nodup) (hm : ∀ x, x ∈ out ↔ sentBy l k t x = true) : (out.mergeSort fun x y => decide (x ≤ y)) = sendersV l k t := by
  refine sorted_ext (merge_lt hn) ((range_lt 64).filter _) fun x => ?_
  rw [(List.mergeSort_perm out _).mem_iff, hm, sendersV, List.mem_filter]
  refine ⟨fun q => ⟨?_, q⟩, fun q => q.2⟩
  unfold sentBy at q
  obtain ⟨m, hml, hmq⟩ := List.any_eq_true.1 q
  have hch : m.ch = (k, x, t) := by
    have := (Bool.and_eq_true_iff.1 hmq).2
    simpa using this
  have hx : m.frm = x := by unfold Ms.ch at hch; simp only [Prod.mk.injEq] at hch; exact hch.2.1
  have := hg m hml
  rw [List.mem_map]
  exact ⟨x.toNat, List.mem_range.2 (by omega), by omega⟩
end Go.X
namespace Go.Proofs.Ytnaoiekpfaganaa.Que
open Go Go.X Go.RowKit Go.Proofs.Ytnaoiekpfaganaa.XF Go.Proofs.Ytnaoiekpfaganaa.XK
abbrev tI : TypeId := 3
abbrev tIs : TypeId := 49
theorem eIs : elemOk Try.prog tIs tI 1 8 = true := by kernel_rfl
theorem SortI_ok {w : World} {v : Value} {zs : List Int} {B : Nat} (h : w.ownsRow B tI 1 v zs.length (ints zs)) (hl : zs.length ≤ 1000000) : Rt Try.prog 42 #[v] w fun _ w' => w'.ownsRow B tI 1 v zs.length (ints (zs.mergeSort fun x y => decide (x ≤ y))) ∧ Mod (fun b => sb v b) w w' := by
  have h' := h
  obtain ⟨hlen, ⟨rfl, h0⟩ | ⟨g, cap, cur, rfl, hb, hg, hn, hm, hs, ht⟩⟩ := h
  · obtain rfl : zs = [] := List.eq_nil_of_length_eq_zero h0
    refine Calls.mono (Any.slices_Sort_int_none Try.lays189 none 0 w) ?_
    rintro e w' ⟨rfl, rfl⟩
    exact ⟨_, rfl, by rw [List.mergeSort_nil]; exact h', Mod.refl _ _⟩
  · have hH : Go.Sort.Holds (Value.int .i64) w g 0 zs.toArray := holds_of_blockI hg (by rw [Nat.mul_one] at ht; exact ht)
    refine Calls.mono (Any.slices_Sort_int Try.lays189 g 0 cap zs w hH (X.blk_lt hg) (by omega)) ?_
    rintro e w' ⟨rfl, n, os, rfl⟩
    refine ⟨_, rfl, ?_, ?_⟩
    · exact ownsRow_sortedI (ss := zs) (ts := zs.mergeSort fun x y => decide (x ≤ y)) (List.length_mergeSort zs) hb hg hn hm hs
    · exact (Mod.ofGrown (grownBy_sortedI (n := n) (os := os) (g := g) (w := w) (zs.mergeSort fun x y => decide (x ≤ y)).toArray)).mono fun b _ z => z.symm
theorem appI {w : World} {v : Value} {xs : List Int} {m : Int} {B : Nat} {K : Value → Value → World → Prop} (ho : w.ownsRow B tI 1 v xs.length (ints xs)) (hB : B ≤ w.heap.size) (hl : xs.length ≤ 2000000)
    (hk : ∀ x v' w', w'.ownsRow B tI 1 v' (xs ++ [m]).length (ints (xs ++ [m])) → Mod (fun b => B ≤ b) w w' → K x v' w') :
    VK Try.prog (Instr.buildSlice tIs 1 [(0, .int .i64 m)].toArray) w fun x w => IK Try.prog .append #[tIs, tIs] tIs [false, false] [v, x] w (K x) := by
  refine bs_k (cs := #[.int .i64 m]) (by kernel_rfl) fun w1 hb1 hm1 hz1 => ?_
  refine ap_any eIs (owns_mod ho hm1 fun _ _ => id) (reads_blk (size := 1) (n := 1) hb1 rfl) (fun u hu => by rw [List.mem_singleton.1 hu]; rfl) (by unfold maxLen; omega) (by omega) (by omega) fun v' w2 ho2 hm2 hv2 => ?_
  refine hk _ v' w2 ?_ ((hm1.mono fun _ _ z => z.elim).trans (hm2.mono fun b _ z => (owns_bd (owns_mod ho hm1 fun _ _ => id) b z.symm).1))
  rw [List.length_append]
  unfold ints at ho2 ⊢
  rw [List.map_append]
  exact ho2
end Go.Proofs.Ytnaoiekpfaganaa.Que
set_option linter.unusedVariables false
set_option linter.unusedSimpArgs false
set_option maxRecDepth 4000
namespace Go.X
open Go Go.RowKit
def toldE (l : List Ms) (k : List UInt8) (t : Int) (e : Ent Ch) : Bool := decide (e.k = (k, e.k.2.1, t)) && (rowOf l e.k).any nt
def outE (l : List Ms) (k : List UInt8) (t : Int) (vs : List (Ent Ch)) : List Int := (vs.filter (toldE l k t)).map fun e => e.k.2.1
theorem toldE_iff {l : List Ms} {k : List UInt8} {t : Int} {e : Ent Ch} : toldE l k t e = true ↔ e.k = (k, e.k.2.1, t) ∧ ∃ m ∈ l, m.ch = e.k ∧ nt m = true := by
  unfold toldE
  rw [Bool.and_eq_true, decide_eq_true_iff, List.any_eq_true]
  refine and_congr Iff.rfl ⟨fun ⟨m, hm, hn⟩ => ?_, fun ⟨m, hm, hc, hn⟩ => ⟨m, mem_row.2 ⟨hm, hc⟩, hn⟩⟩
  obtain ⟨a, b⟩ := mem_row.1 hm
  exact ⟨m, a, b, hn⟩
theorem outE_nodup {l : List Ms} {k : List UInt8} {t : Int} {vs : List (Ent Ch)} (hd : vs.Pairwise fun a b => a.k ≠ b.k) : (outE l k t vs).Nodup := by
  unfold outE
  show List.Pairwise _ _
  rw [List.pairwise_map]
  refine List.pairwise_iff_getElem.2 fun i j hi hj hij z => ?_
  have h1 := List.pairwise_iff_getElem.1 (hd.filter (toldE l k t)) i j hi hj hij
  have a := (toldE_iff.1 (List.mem_filter.1 (List.getElem_mem hi)).2).1
  have b := (toldE_iff.1 (List.mem_filter.1 (List.getElem_mem hj)).2).1
  exact h1 (by rw [a, b, z])
theorem outE_mem {l : List Ms} {V : QV} (h : QInv l V) {k : List UInt8} {t : Int} {vs : List (Ent Ch)} (hs : ∀ e ∈ vs, e ∈ V.er) (hall : ∀ e ∈ V.er, e ∈ vs) (x : Int) : x ∈ outE l k t vs ↔ sentBy l k t x = true := by
  unfold outE sentBy
  rw [List.mem_map, List.any_eq_true]
  constructor
  · rintro ⟨e, he, rfl⟩
    obtain ⟨h1, m, hm, hc, hn⟩ := toldE_iff.1 (List.mem_filter.1 he).2
    exact ⟨m, hm, by rw [hn, hc]; simpa using h1⟩
  · rintro ⟨m, hm, hq⟩
    rw [Bool.and_eq_true, decide_eq_true_iff] at hq
    obtain ⟨e, he, hk⟩ := h.cov m hm
    refine ⟨e, List.mem_filter.2 ⟨hall e he, toldE_iff.2 ⟨?_, m, hm, hk.symm, hq.1⟩⟩, ?_⟩
    · rw [hk, hq.2]
    · rw [hk, hq.2]
end Go.X
namespace Go.Proofs.Ytnaoiekpfaganaa.Que
open Go Go.X Go.RowKit Go.Proofs.Ytnaoiekpfaganaa.XF Go.Proofs.Ytnaoiekpfaganaa.XK
theorem gCh : Try.prog.eqGuardType Try.prog.depth 62 = false := by kernel_rfl
theorem BK_ChE {w : World} {K : Value → World → Prop} {x y : Operand} (a b : Ch) : BK Try.prog .eql 62 x y (encC a) (encC b) w K = K (.bool (decide (a = b))) w := by
  obtain ⟨a1, a2, a3⟩ := a; obtain ⟨b1, b2, b3⟩ := b
  refine BK_of (run_eqGuard_agg w .eql _ x y _ _ gCh) ?_
  unfold encC strV
  rw [run_eql_struct]
  have := eqC ⟨a1.toArray⟩ ⟨b1.toArray⟩ a2 a3 b2 b3 w
  unfold Op.equal at this
  dsimp only
  rw [show (10000 : Nat) = Op.maxDepth from rfl, this, toL, toL]
  show Result.ok (Value.bool _) w = _
  congr 2
  by_cases h1 : a1 = b1 <;> by_cases h2 : a2 = b2 <;> by_cases h3 : a3 = b3 <;> simp [h1, h2, h3]
theorem Senders1_ok (m : Ms) (w : World) : Rt Try.prog 41 #[.agg m.enc.toArray] w fun v w' => v = .bool (nt m) ∧ Mod none_ w w' := by
  refine queue_Queue_Senders_1_calls ?_
  unfold queue_Queue_Senders_1_F
  refine box_k (cs := m.enc.toArray) rfl fun w1 hb1 hm1 hz1 => ?_
  have g : FO Try.prog w1 tMs 7 7 ⟨w.heap.size, 0, none⟩ 4 (.bool m.taken) := FO.blk hb1 (by kernel_rfl) vB rfl rfl
  rw [g.e, not_ok]
  exact ⟨rfl, hm1⟩
section
variable {w : World} {p : Nat} {l : List Ms} {V : QV}
abbrev IntP (w0 : World) (xs : List Int) : Value → World → Prop := fun v w' => w'.ownsRow w0.heap.size tI 1 v xs.length (ints xs) ∧ Mod none_ w0 w'
theorem Senders_ok (h : QAt w p l V) (hg : FrmOk l) (hL : l.length ≤ 500000) (k : List UInt8) (t : Int) : Rt Try.prog 27 #[.pointer (some ⟨p, 0, none⟩), strV k, .int .i64 t] w (IntP w (sendersV l k t)) := by
  refine queue_Queue_Senders_calls ?_
  unfold queue_Queue_Senders_F
  refine CK_st Try.func31 rfl rfl (none_ok h) ?_
  rintro _ w1 ⟨rfl, rfl⟩
  refine condF ?_
  rw [NK_ptr, (f_rows h).e]
  refine range_k uR h.rm fun w2 hit hm2 hz2 => ?_
  refine W_loopG queue_Queue_Senders_L0_ok (fun m ρ w' => ∃ (vs : List (Ent Ch)) (o : Value), m = togo V.er (vs.map (·.b)) ∧ (∀ e ∈ vs, e ∈ V.er) ∧ vs.Pairwise (fun a b => a.k ≠ b.k) ∧ ρ 17 = .pointer (some ⟨w1.heap.size, 0, none⟩) ∧ ρ 7 = o ∧ ρ 1 = strV k ∧ ρ 2 = .int .i64 t ∧ IterAt w' w1.heap.size V.rb V.c1 (vs.map (·.b)) V.c1 ∧ w'.ownsRow w2.heap.size tI 1 o (outE l k t vs).length (ints (outE l k t vs)) ∧ (outE l k t vs).length ≤ l.length ∧ Mod (fun b => w1.heap.size ≤ b) w2 w' ∧ Mod none_ w1 w') (togo V.er [])
    ⟨[], .slice none 0 0, rfl, by simp, by simp, rfl, rfl, rfl, rfl, hit, World.ownsRow_nil _ _ _ _, Nat.zero_le _, Mod.refl _ _, hm2⟩ ?_
  rintro m ρ w3 ⟨vs, o, hmv, hvs, hvd, e17, e7, e1, e2, hit3, hO3, hol, hm23, hm13⟩
  rw [queue_Queue_Senders_L0_eq]; unfold queue_Queue_Senders_L0_F
  rw [e17]
  have h3 := h.calm hm13
  refine next_k h3.rm hit3 h3.inv.rc (Nat.le_refl _) (fun hall => ?_) (fun e he hne w4 hit4 hm4 hz4 => ?_)
  · rw [extract_ok (v := .bool false) rfl]
    refine condF ?_
    rw [sq_x, bk_x, sq_n, queue_Queue_Senders_R1_eq]; unfold queue_Queue_Senders_R1_F
    have key : ∀ ρ : Sl, ρ 7 = o → CK Try.prog (.func (.func 42) #[] #[]) [ρ 7] w3 fun x41 w => retK Try.prog [ResultVar.tmp 6] (IntP w1 (sendersV l k t)) .ret (up (up (up (up ρ 40 (ρ 7)) 41 x41) 42 (ρ 7)) 6 (ρ 7)) w := by
      intro ρ q7
      rw [q7]
      refine CK_st Try.func42 rfl rfl (SortI_ok hO3 (by omega)) ?_
      rintro _ w4 ⟨hO4, hm4⟩
      have hall' := mem_of_born h.inv.rb hvs hall
      have hse := senders_eq hg (outE_nodup (l := l) (k := k) (t := t) hvd) (outE_mem h.inv (k := k) (t := t) hvs hall')
      have hl4 := congrArg List.length hse
      rw [List.length_mergeSort] at hl4
      rw [hse, hl4] at hO4
      refine ⟨?_, hm13.then hm4 fun i hi z => ?_⟩
      · exact owns_base hO4 (by omega)
      · have := (owns_bd hO3 i z).1; omega
    exact key _ e7
  · rw [extract_ok (v := .bool true) rfl]
    refine condT ?_
    have hm14 : Mod none_ w1 w4 := hm13.fresh hm4 (Nat.le_refl _)
    have h4 := h.calm hm14
    refine entry_k h4.rm hit4 he h4.inv.rb ?_
    rw [extract_ok (v := encC e.k) rfl, extract_ok (v := e.v) rfl]
    refine al_k (cs := #[strV [], .int .i64 0, .int .i64 0]) zC_z rfl _ fun w5 hb5 hm5 hz5 => ?_
    refine stS (cs := #[strV e.k.1, .int .i64 e.k.2.1, .int .i64 e.k.2.2]) (old := #[strV [], .int .i64 0, .int .i64 0]) rfl rfl (by kernel_rfl) rfl (by simp [Value.oneCell', strV]) hb5 fun w6 hb6 hm6 hz6 => ?_
    have hm46 : Mod none_ w4 w6 := hm5.fresh hm6 (Nat.le_refl _)
    have h6 := h4.calm hm46
    have hr6 : MsRow w6 e.v (rowOf l e.k) := reads_of_owns (h6.rows e he)
    have hrl := row_len l e.k
    refine CK_st Try.func40 rfl rfl (ContainsFuncMs_ok (p := nt) hr6 (by omega) fun a _ w' _ K hK => ?_) ?_
    · refine CK_st Try.func41 rfl rfl (Senders1_ok a w') ?_
      rintro _ w'' ⟨rfl, hm''⟩
      exact hK w'' hm''
    rintro _ w7 ⟨rfl, hm7⟩
    have hm47 := hm46.trans hm7
    have hb7 := hm7.blk hb6 id
    have g1 : FO Try.prog w7 62 1 1 ⟨w4.heap.size, 0, none⟩ 3 (.int .i64 e.k.2.1) := FO.blk hb7 (by kernel_rfl) vI rfl rfl
    refine ldS (cs := #[strV e.k.1, .int .i64 e.k.2.1, .int .i64 e.k.2.2]) rfl Try.underlying62 rfl (by kernel_rfl) hb7 ?_
    rw [g1.e, e1, e2, build_ok (cs := #[strV k, .int .i64 e.k.2.1, .int .i64 t]) (by kernel_rfl)]
    rw [show Value.agg #[strV e.k.1, .int .i64 e.k.2.1, .int .i64 e.k.2.2] = encC e.k from rfl, show Value.agg #[strV k, .int .i64 e.k.2.1, .int .i64 t] = encC (k, e.k.2.1, t) from rfl, BK_ChE]
    have hO7 := owns_mod (owns_mod hO3 hm4 fun g z y => by have := (owns_bd hO3 g z).1; omega) hm47 fun _ _ => id
    have hmap : (vs ++ [e]).map (·.b) = vs.map (·.b) ++ [e.b] := by simp
    have hz47 := hm47.size
    have hkn := key_ne h.inv.rk hvs he hne
    have hvd' : (vs ++ [e]).Pairwise fun a b => a.k ≠ b.k := by
      rw [List.pairwise_append]
      exact ⟨hvd, by simp, fun a ha b hb => by rw [List.mem_singleton.1 hb]; exact hkn a ha⟩
    have hvs' : ∀ x ∈ vs ++ [e], x ∈ V.er := fun x hx => by
      rcases List.mem_append.1 hx with z | z
      · exact hvs x z
      · rw [List.mem_singleton.1 z]; exact he
    have hoa : outE l k t (vs ++ [e]) = outE l k t vs ++ (if toldE l k t e then [e.k.2.1] else []) := by
      unfold outE
      rw [List.filter_append, List.map_append]
      congr 1
      by_cases q : toldE l k t e = true <;> simp [q]
    have hlen' : (outE l k t (vs ++ [e])).length ≤ l.length := by
      have h2 := (outE_nodup (l := l) (k := k) (t := t) hvd').length_le_of_subset (l₂ := l.map fun m => m.frm) fun x hx => ?_
      · rwa [List.length_map] at h2
      · unfold outE at hx
        obtain ⟨e', he', rfl⟩ := List.mem_map.1 hx
        obtain ⟨_, m', hm', hc', _⟩ := toldE_iff.1 (List.mem_filter.1 he').2
        exact List.mem_map.2 ⟨m', hm', by rw [← hc']; rfl⟩
    have hm27 : Mod (fun b => w1.heap.size ≤ b) w2 w7 := (hm23.trans (hm4.mono fun b _ z => by omega)).trans (hm47.mono fun _ _ z => z.elim)
    have fin : ∀ (ρ' : Sl) (w' : World) (o' : Value), ρ' 17 = .pointer (some ⟨w1.heap.size, 0, none⟩) → ρ' 7 = o' → ρ' 1 = strV k → ρ' 2 = .int .i64 t → IterAt w' w1.heap.size V.rb V.c1 (vs.map (·.b) ++ [e.b]) V.c1 → w'.ownsRow w2.heap.size tI 1 o' (outE l k t (vs ++ [e])).length (ints (outE l k t (vs ++ [e]))) → Mod (fun b => w1.heap.size ≤ b) w2 w' → Mod none_ w1 w' →
        ∃ m', m' < m ∧ ∃ (vs : List (Ent Ch)) (o : Value), m' = togo V.er (vs.map (·.b)) ∧ (∀ e ∈ vs, e ∈ V.er) ∧ vs.Pairwise (fun a b => a.k ≠ b.k) ∧ ρ' 17 = .pointer (some ⟨w1.heap.size, 0, none⟩) ∧ ρ' 7 = o ∧ ρ' 1 = strV k ∧ ρ' 2 = .int .i64 t ∧ IterAt w' w1.heap.size V.rb V.c1 (vs.map (·.b)) V.c1 ∧ w'.ownsRow w2.heap.size tI 1 o (outE l k t vs).length (ints (outE l k t vs)) ∧ (outE l k t vs).length ≤ l.length ∧ Mod (fun b => w1.heap.size ≤ b) w2 w' ∧ Mod none_ w1 w' := by
      intro ρ' w' o' a17 a7 a1 a2 hi' ho' hm2' hm1'
      exact ⟨togo V.er ((vs ++ [e]).map (·.b)), by rw [hmv, hmap]; exact togo_lt he hne, vs ++ [e], o', rfl, hvs', hvd', a17, a7, a1, a2, by rw [hmap]; exact hi', ho', hlen', hm2', hm1'⟩
    have hit7 := hit4.mod hm47 id
    have key : ∀ (ρ' : Sl) (K : Exit → Sl → World → Prop) (q : Bool), ρ' 7 = o → True := fun _ _ _ _ => trivial
    by_cases c1 : e.k = (k, e.k.2.1, t)
    · rw [decide_eq_true c1]
      simp only [↓VG_u, ↓UG_u, ↓MG_u, ↓NG_u, ↓PG_u, ↓BG_u, ↓CG_u, ↓IG_u, ↓VGtt, ↓VGtf, ↓VGft, ↓VGff, ↓UGtt, ↓UGtf, ↓UGft, ↓UGff, ↓MGtt, ↓MGtf, ↓MGft, ↓MGff, ↓NGtt, ↓NGtf, ↓NGft, ↓NGff, ↓PGtt, ↓PGtf, ↓PGft, ↓PGff, ↓BGtt, ↓BGtf, ↓BGft, ↓BGff, ↓CGtt, ↓CGtf, ↓CGft, ↓CGff, ↓IGtt, ↓IGtf, ↓IGft, ↓IGff, ↓PKt, ↓PKf, ↓CDt, ↓CDf, ↓NOTt, ↓NOTf, ↓NK_ptr]
      cases c2 : (rowOf l e.k).any nt with
      | true =>
        simp only [↓VG_u, ↓UG_u, ↓MG_u, ↓NG_u, ↓PG_u, ↓BG_u, ↓CG_u, ↓IG_u, ↓VGtt, ↓VGtf, ↓VGft, ↓VGff, ↓UGtt, ↓UGtf, ↓UGft, ↓UGff, ↓MGtt, ↓MGtf, ↓MGft, ↓MGff, ↓NGtt, ↓NGtf, ↓NGft, ↓NGff, ↓PGtt, ↓PGtf, ↓PGft, ↓PGff, ↓BGtt, ↓BGtf, ↓BGft, ↓BGff, ↓CGtt, ↓CGtf, ↓CGft, ↓CGff, ↓IGtt, ↓IGtf, ↓IGft, ↓IGff, ↓PKt, ↓PKf, ↓CDt, ↓CDf, ↓NOTt, ↓NOTf, ↓NK_ptr]
        rw [g1.e, e7]
        have htold : toldE l k t e = true := by unfold toldE; rw [decide_eq_true c1, c2]; rfl
        have hsz2 := hm2.size
        refine appI hO7 (Nat.le_trans hm27.size (Nat.le_refl _)) (by omega) fun _ o' w8 hO8 hm8 => ?_
        rw [htold, if_pos rfl] at hoa
        rw [← hoa] at hO8
        rw [sq_n]
        refine fin _ w8 o' (by first | exact e17 | rfl) rfl (by first | exact e1 | rfl) (by first | exact e2 | rfl) (hit7.mod hm8 (by omega)) hO8 (hm27.trans (hm8.mono fun b _ z => by omega)) ((hm14.trans hm47).then hm8 fun i hi z => by omega)
      | false =>
        simp only [↓VG_u, ↓UG_u, ↓MG_u, ↓NG_u, ↓PG_u, ↓BG_u, ↓CG_u, ↓IG_u, ↓VGtt, ↓VGtf, ↓VGft, ↓VGff, ↓UGtt, ↓UGtf, ↓UGft, ↓UGff, ↓MGtt, ↓MGtf, ↓MGft, ↓MGff, ↓NGtt, ↓NGtf, ↓NGft, ↓NGff, ↓PGtt, ↓PGtf, ↓PGft, ↓PGff, ↓BGtt, ↓BGtf, ↓BGft, ↓BGff, ↓CGtt, ↓CGtf, ↓CGft, ↓CGff, ↓IGtt, ↓IGtf, ↓IGft, ↓IGff, ↓PKt, ↓PKf, ↓CDt, ↓CDf, ↓NOTt, ↓NOTf, ↓NK_ptr]
        have htold : toldE l k t e = false := by unfold toldE; rw [decide_eq_true c1, c2]; rfl
        rw [htold] at hoa
        simp only [Bool.false_eq_true, if_false, List.append_nil] at hoa
        rw [← hoa] at hO7
        rw [sq_n]
        exact fin _ w7 o (by first | exact e17 | rfl) (by first | exact e7 | rfl) (by first | exact e1 | rfl) (by first | exact e2 | rfl) hit7 hO7 hm27 (hm14.trans hm47)
    · rw [decide_eq_false c1]
      simp only [↓VG_u, ↓UG_u, ↓MG_u, ↓NG_u, ↓PG_u, ↓BG_u, ↓CG_u, ↓IG_u, ↓VGtt, ↓VGtf, ↓VGft, ↓VGff, ↓UGtt, ↓UGtf, ↓UGft, ↓UGff, ↓MGtt, ↓MGtf, ↓MGft, ↓MGff, ↓NGtt, ↓NGtf, ↓NGft, ↓NGff, ↓PGtt, ↓PGtf, ↓PGft, ↓PGff, ↓BGtt, ↓BGtf, ↓BGft, ↓BGff, ↓CGtt, ↓CGtf, ↓CGft, ↓CGff, ↓IGtt, ↓IGtf, ↓IGft, ↓IGff, ↓PKt, ↓PKf, ↓CDt, ↓CDf, ↓NOTt, ↓NOTf, ↓NK_ptr]
      have htold : toldE l k t e = false := by unfold toldE; rw [decide_eq_false c1]; rfl
      rw [htold] at hoa
      simp only [Bool.false_eq_true, if_false, List.append_nil] at hoa
      rw [← hoa] at hO7
      rw [sq_n]
      exact fin _ w7 o (by first | exact e17 | rfl) (by first | exact e7 | rfl) (by first | exact e1 | rfl) (by first | exact e2 | rfl) hit7 hO7 hm27 (hm14.trans hm47)
end
end Go.Proofs.Ytnaoiekpfaganaa.Que
set_option linter.unusedVariables false
set_option linter.unusedSimpArgs false
set_option maxRecDepth 4000
namespace Go.Proofs.Ytnaoiekpfaganaa.Que
open Go Go.X Go.RowKit Go.Proofs.Ytnaoiekpfaganaa.XF Go.Proofs.Ytnaoiekpfaganaa.XK
section
variable {w : World} {p : Nat} {l : List Ms} {V : Value}
end
theorem ixI {w : World} {v : Value} {l : List Int} {B i : Nat} {m : Int} (h : w.ownsRow B tI 1 v l.length (ints l)) (hi : l[i]? = some m) : ∃ a, (∀ w', (Instr.indexAt tIs v (.int .i64 (i : Int))).run Try.prog w' = .ok (.pointer (some a)) w') ∧ ∀ w', Mod none_ w w' → (Instr.loadAt tI (.pointer (some a))).run Try.prog w' = .ok (.int .i64 m) w' := by
  have hil := (List.getElem?_eq_some_iff.1 hi).1
  have hr := reads_of_owns h
  obtain ⟨g, cap, ev, _⟩ := owns_some h (by omega)
  subst ev
  refine ⟨⟨g, i, none⟩, fun w' => ?_, fun w' hw => ?_⟩
  · rw [run_ixa (sz := 0) vIs (by kernel_rfl) (by omega) (by omega) w', add_pl]
    congr 4
    omega
  · have hr' := reads_mod hr hw (fun _ _ _ => id)
    obtain ⟨_, A, c, es, _, hc⟩ := hr'
    cases es
    obtain ⟨a, ha, hcell⟩ := hc i _ (ints_get hi)
    cases ha
    rw [add_pl, Nat.zero_add] at hcell
    exact run_ld1 vI rfl hcell
theorem Ints_ok {w : World} {v u : Value} {a b : List Int} {B B' : Nat} (ha : w.ownsRow B tI 1 v a.length (ints a)) (hb : w.ownsRow B' tI 1 u b.length (ints b)) (hl : a.length ≤ 1000000) : Rt Try.prog 26 #[v, u] w fun x w' => x = .bool (decide (a = b)) ∧ Mod none_ w w' := by
  refine dispatcherref11_Ints_calls ?_
  unfold dispatcherref11_Ints_F
  obtain ⟨A, c, es, _⟩ := reads_cap (reads_of_owns ha)
  obtain ⟨A2, c2, es2, _⟩ := reads_cap (reads_of_owns hb)
  rw [es, len_sl vIs, ← es, es2, len_sl vIs, ← es2, BK_neq]
  by_cases hlen : a.length = b.length
  · rw [show ((a.length : Int) != (b.length : Int)) = false by rw [hlen]; simp]
    refine condF ?_
    refine W_loop dispatcherref11_Ints_L0_ok (fun ρ w' => ∃ i : Nat, i ≤ a.length ∧ ρ 5 = .int .i64 i ∧ ρ 0 = v ∧ ρ 1 = u ∧ a.take i = b.take i ∧ Mod none_ w w') (fun ρ _ => a.length - (intOf (ρ 5)).toNat)
      ⟨0, Nat.zero_le _, rfl, rfl, rfl, by simp, Mod.refl _ _⟩ ?_
    rintro ρ w1 ⟨i, hi, e5, e0, e1, heq, hm⟩
    rw [dispatcherref11_Ints_L0_eq]; unfold dispatcherref11_Ints_L0_F
    rw [e5, e0, es, len_sl vIs, ← es, BK_lss]
    by_cases hlt : i < a.length
    · rw [decide_eq_true (by omega)]
      refine condT ?_
      have hx : a[i]? = some a[i] := List.getElem?_eq_getElem hlt
      have hy : b[i]? = some b[i] := List.getElem?_eq_getElem (by omega)
      have ta : a.take (i + 1) = a.take i ++ [a[i]] := by rw [List.take_add_one, hx]; rfl
      have tb : b.take (i + 1) = b.take i ++ [b[i]] := by rw [List.take_add_one, hy]; rfl
      generalize a[i] = x at *
      generalize b[i] = y at *
      obtain ⟨p1, r1, l1⟩ := ixI ha hx
      obtain ⟨p2, r2, l2⟩ := ixI hb hy
      refine dispatcherref11_Ints_R2_quiet (D := []) (fun w' => Mod none_ w w') (hm.trans ((Mod.refl _ w1).drawn _)) ?_
      have key : ∀ (ρ' : Sl) (K : Exit → Sl → World → Prop), ρ' 0 = v → ρ' 1 = u → ρ' 5 = .int .i64 i →
          (∀ (ρ2 : Sl) (w' : World), ρ2 0 = v → ρ2 1 = u → ρ2 5 = .int .i64 i → ρ2 25 = .bool (x != y) → Mod none_ w w' → K .normal ρ2 w') → dispatcherref11_Ints_R2_Q (fun w' => Mod none_ w w') K ρ' := by
        intro ρ' K q0 q1 q5 hK
        unfold dispatcherref11_Ints_R2_Q
        rw [q0, q1, q5]
        refine QV_of (fun w' _ => r1 w') (QV_of (fun w' hw => l1 w' hw) (QV_of (fun w' _ => r2 w') (QV_of (fun w' hw => l2 w' hw) ?_)))
        refine Qneq ?_
        intro w' hw
        exact hK _ w' q0 q1 q5 rfl hw
      refine key _ _ (by first | exact e0 | rfl) (by first | exact e1 | rfl) (by first | exact e5 | rfl) ?_
      intro ρ2 w' q0 q1 q5 q25 hw
      rw [sq_n, dispatcherref11_Ints_R3_eq]; unfold dispatcherref11_Ints_R3_F
      rw [q25]
      refine caseC (fun q => ?_) (fun q => ?_)
      · refine ⟨?_, hw⟩
        rw [decide_eq_false]
        · rfl
        · intro z
          rw [z, hy] at hx
          have : x ≠ y := by simpa using q
          exact this (Option.some.inj hx).symm
      · have hxy : x = y := by simpa using q
        rw [bk_n, sq_n, dispatcherref11_Ints_R4_eq]; unfold dispatcherref11_Ints_R4_F
        rw [q5, BK_add, wrap_i (by omega) (by omega)]
        refine ⟨⟨i + 1, hlt, rfl, q0, q1, by rw [ta, tb, heq, hxy], hw⟩, ?_⟩
        simp only [sq_n, sq_x, sq_r, bk_n, bk_r, bk_x, rt_r, rt_n, rs_0, rs_t, pk_1, pk_2, up_at, reduceIte, Nat.reduceEqDiff, intOf]; omega
    · obtain rfl : i = a.length := by omega
      rw [decide_eq_false (by omega)]
      refine condF ?_
      rw [sq_x, bk_x, sq_n, dispatcherref11_Ints_R1_eq]; unfold dispatcherref11_Ints_R1_F
      refine ⟨?_, hm⟩
      rw [List.take_length, hlen, List.take_length] at heq
      rw [decide_eq_true heq]; rfl
  · rw [show ((a.length : Int) != (b.length : Int)) = true by rw [bne_iff_ne]; omega]
    refine condT ⟨?_, Mod.refl _ _⟩
    rw [decide_eq_false fun z => hlen (by rw [z])]
end Go.Proofs.Ytnaoiekpfaganaa.Que
set_option linter.unusedVariables false
set_option linter.unusedSimpArgs false
set_option maxRecDepth 4000
namespace Go.X
open Go Go.RowKit
structure Ac where
  kind : Int
  m : Ms
def Ac.enc (a : Ac) : List Value := .int .u8 a.kind :: a.m.enc
theorem Ac.enc_len (a : Ac) : a.enc.length = 8 + 1 := rfl
def Acts (w : World) (v : Value) (l : List Ac) : Prop := reads w (8 + 1) v l.length (l.flatMap Ac.enc)
structure PQ (w0 w : World) (p q : Nat) (l m : List Ms) (V : QV) (D : Value) : Prop where
  qa : QAt w p l V
  da : DAt w q m D
  dj : ∀ b, V.F p b → ¬ DF q D b
  fr : ∀ b, V.F p b → w0.heap.size ≤ b
  fd : ∀ b, DF q D b → w0.heap.size ≤ b
  mod : Mod none_ w0 w
theorem PQ.move {w0 w w1 : World} {p q : Nat} {l m : List Ms} {V : QV} {D : Value} {S : Nat → Prop} (h : PQ w0 w p q l m V D) (hm : Mod S w w1) (hS : ∀ b, S b → ¬ V.F p b ∧ ¬ DF q D b ∧ w0.heap.size ≤ b) : PQ w0 w1 p q l m V D :=
  ⟨h.qa.mod hm fun b z y => (hS b y).1 z, h.da.mod hm fun b z y => (hS b y).2.1 z, h.dj, h.fr, h.fd, h.mod.then hm fun i hi z => by have := (hS i z).2.2; omega⟩
theorem PQ.calm {w0 w w1 : World} {p q : Nat} {l m : List Ms} {V : QV} {D : Value} (h : PQ w0 w p q l m V D) (hm : Mod none_ w w1) : PQ w0 w1 p q l m V D := h.move hm fun _ z => z.elim
theorem PQ.q {w0 w w1 : World} {p q : Nat} {l m l' : List Ms} {V V1 : QV} {D : Value} (h : PQ w0 w p q l m V D) (h1 : QAt w1 p l' V1) (f : QFr p w V w1 V1) : PQ w0 w1 p q l' m V1 D := by
  have hs := h.mod.size
  refine ⟨h1, h.da.mod f.mod fun b z y => h.dj b y z, fun b z y => ?_, fun b z => ?_, h.fd, h.mod.then f.mod fun i hi z => by have := h.fr i z; omega⟩
  · rcases f.f b z with u | u
    · exact h.dj b u y
    · have := h.da.old b y; omega
  · rcases f.f b z with u | u
    · exact h.fr b u
    · omega
theorem PQ.d {w0 w w1 : World} {p q : Nat} {l m m' : List Ms} {V : QV} {D D1 : Value} (h : PQ w0 w p q l m V D) (h1 : DAt w1 q m' D1) (f : DFr q w D w1 D1) : PQ w0 w1 p q l m' V D1 := by
  have hs := h.mod.size
  refine ⟨h.qa.mod f.mod fun b z y => h.dj b z y, h1, fun b z y => ?_, h.fr, fun b z => ?_, h.mod.then f.mod fun i hi z => by have := h.fd i z; omega⟩
  · rcases f.f b y with u | u
    · exact h.dj b z u
    · have := h.qa.old b z; omega
  · rcases f.f b z with u | u
    · exact h.fd b u
    · omega
theorem sendV_len (l : List Ms) (m : Ms) : (sendV l m).1.length ≤ l.length + 1 := by
  unfold sendV
  split <;> simp
end Go.X
namespace Go.Proofs.Ytnaoiekpfaganaa.Que
open Go Go.X Go.RowKit Go.Proofs.Ytnaoiekpfaganaa.XF Go.Proofs.Ytnaoiekpfaganaa.XK
theorem Acts.calm {w w' : World} {s : Value} {l : List Ac} (h : Acts w s l) (hm : Mod none_ w w') : Acts w' s l := reads_mod h hm fun _ _ _ => id
end Go.Proofs.Ytnaoiekpfaganaa.Que
set_option linter.unusedVariables false
set_option linter.unusedSimpArgs false
set_option maxRecDepth 8000
namespace Go.X
open Go Go.RowKit
def aw (c t : Int) : Ms := ⟨[], 0, 1, c, t, 0, 1, false⟩
def awL : List Ms := [aw 0 5, aw 1 6]
def awT : List Ms := [{ aw 0 5 with taken := true }, aw 1 6]
theorem aw1 : sendV [] (aw 0 5) = ([aw 0 5], 0) := by decide
theorem aw2 : sendV [aw 0 5] (aw 1 6) = (awL, 0) := by decide
theorem aw3 : sendV awL (aw 1 7) = (awL, 2) := by decide
theorem aw4 : takeV awL 0 0 = (awT, 0) := by decide
theorem aw5 : aheadV awL 0 1 = [aw 0 5] := by decide
theorem aw6 : sendersV awL [] 1 = [0] := by decide
theorem aw7 : awT.filter nt = [aw 1 6] := by decide
end Go.X
namespace Go.Proofs.Ytnaoiekpfaganaa.Que
open Go Go.X Go.RowKit Go.Proofs.Ytnaoiekpfaganaa.XF Go.Proofs.Ytnaoiekpfaganaa.XK
theorem aw8 : firstV awL ([], 0, 1) (-1) = some (aw 0 5) := by decide
theorem aw9 : firstV awL ([], 0, 1) 6 = some (aw 1 6) := by decide
theorem aw10 : firstV awT ([], 0, 1) (-1) = some (aw 1 6) := by decide
theorem FrmOk.awL : FrmOk awL := by unfold X.FrmOk X.awL aw; simp
theorem message_ok (c t : Int) (w : World) : Rt Try.prog 43 #[.int .i64 c, .int .i64 t] w fun v w' => v = .agg (aw c t).enc.toArray ∧ Mod none_ w w' := by
  refine dispatcherlaw13_message_calls ?_
  unfold dispatcherlaw13_message_F
  refine al_k (cs := zMs.enc.toArray) zMs_z rfl _ fun w1 hb1 hm1 hz1 => ?_
  rw [build_ok (cs := (aw c t).enc.toArray) (by kernel_rfl)]
  refine stS (cs := (aw c t).enc.toArray) (old := zMs.enc.toArray) rfl rfl (by rw [iMs]; rfl) rfl (Ms.enc_one _) hb1 fun w3 hb3 hm3 hz3 => ?_
  exact ⟨_, res_ld (run_ldB Try.underlying31 rfl (by rw [iMs]; rfl) hb3), rfl, hm1.fresh hm3 (Nat.le_refl _)⟩
section
variable {w : World} {p : Nat} {V : QV}
theorem slot_k {K : Value → World → Prop} {m : Ms} (hk : ∀ w', w'.heap[w.heap.size]? = some (.cells m.enc.toArray tMs (0, 0)) → Mod none_ w w' → w'.heap.size = w.heap.size + 1 → K (.pointer (some ⟨w.heap.size, 0, none⟩)) w') : VK Try.prog (Instr.alloc tMs true (.tuple #[])) w fun x w => UK Try.prog (Instr.storeAt tMs x (.agg m.enc.toArray)) w fun _ w => K x w := by
  refine al_k (cs := zMs.enc.toArray) zMs_z rfl _ fun w1 hb1 hm1 hz1 => ?_
  refine stS (cs := m.enc.toArray) (old := zMs.enc.toArray) rfl rfl (by rw [iMs]; rfl) rfl (Ms.enc_one _) hb1 fun w2 hb2 hm2 hz2 => ?_
  exact hk w2 hb2 (hm1.fresh hm2 (Nat.le_refl _)) (by omega)
theorem awake_R1 {R : Value → World → Prop} {ρ : Sl} {b2 b4 b9 : Nat} {u s : Value} {B B' : Nat} (h : QAt w p awT V) (h2 : w.heap[b2]? = some (.cells (aw 0 5).enc.toArray tMs (0, 0))) (h4 : w.heap[b4]? = some (.cells (aw 1 6).enc.toArray tMs (0, 0))) (h9 : w.heap[b9]? = some (.cells (aw 1 6).enc.toArray tMs (0, 0)))
    (hu : w.ownsRow B tMs 8 u [aw 0 5].length ([aw 0 5].flatMap Ms.enc)) (hs : w.ownsRow B' tI 1 s [(0 : Int)].length (ints [0]))
    (e1 : ρ 1 = .pointer (some ⟨p, 0, none⟩)) (e2 : ρ 2 = .pointer (some ⟨b2, 0, none⟩)) (e3 : ρ 3 = .bool true) (e4 : ρ 4 = .pointer (some ⟨b4, 0, none⟩)) (e5 : ρ 5 = .bool true) (e6 : ρ 6 = u) (e7 : ρ 7 = s) (e8 : ρ 8 = .int .i64 0) (e9 : ρ 9 = .pointer (some ⟨b9, 0, none⟩)) (e10 : ρ 10 = .bool true)
    (hR : ∀ w', Mod none_ w w' → R (.bool true) w') : sx fn_ Try.prog 103 dispatcherlaw13_awake_R1 (retK Try.prog [ResultVar.tmp 0] R) ρ w := by
  rw [dispatcherlaw13_awake_R1_eq]; unfold dispatcherlaw13_awake_R1_F
  have g2 : FO Try.prog w tMs 3 3 ⟨b2, 0, none⟩ 3 (.int .i64 0) := FO.blk h2 (by kernel_rfl) vI rfl rfl
  have g4 : FO Try.prog w tMs 3 3 ⟨b4, 0, none⟩ 3 (.int .i64 1) := FO.blk h4 (by kernel_rfl) vI rfl rfl
  rw [e1, e2, e3, e4, e5, e6, e7, e8, e9, e10, g2.e, EQt rfl]
  simp only [↓VG_u, ↓UG_u, ↓MG_u, ↓NG_u, ↓PG_u, ↓BG_u, ↓CG_u, ↓IG_u, ↓VGtt, ↓VGtf, ↓VGft, ↓VGff, ↓UGtt, ↓UGtf, ↓UGft, ↓UGff, ↓MGtt, ↓MGtf, ↓MGft, ↓MGff, ↓NGtt, ↓NGtf, ↓NGft, ↓NGff, ↓PGtt, ↓PGtf, ↓PGft, ↓PGff, ↓BGtt, ↓BGtf, ↓BGft, ↓BGff, ↓CGtt, ↓CGtf, ↓CGft, ↓CGff, ↓IGtt, ↓IGtf, ↓IGft, ↓IGff, ↓PKt, ↓PKf, ↓CDt, ↓CDf, ↓NOTt, ↓NOTf, ↓NK_ptr]
  rw [g4.e]
  try simp only [↓VG_u, ↓UG_u, ↓MG_u, ↓NG_u, ↓PG_u, ↓BG_u, ↓CG_u, ↓IG_u, ↓VGtt, ↓VGtf, ↓VGft, ↓VGff, ↓UGtt, ↓UGtf, ↓UGft, ↓UGff, ↓MGtt, ↓MGtf, ↓MGft, ↓MGff, ↓NGtt, ↓NGtf, ↓NGft, ↓NGff, ↓PGtt, ↓PGtf, ↓PGft, ↓PGff, ↓BGtt, ↓BGtf, ↓BGft, ↓BGff, ↓CGtt, ↓CGtf, ↓CGft, ↓CGff, ↓IGtt, ↓IGtf, ↓IGft, ↓IGff, ↓PKt, ↓PKf, ↓CDt, ↓CDf, ↓NOTt, ↓NOTf, ↓NK_ptr]
  rw [EQt rfl]
  simp only [↓VG_u, ↓UG_u, ↓MG_u, ↓NG_u, ↓PG_u, ↓BG_u, ↓CG_u, ↓IG_u, ↓VGtt, ↓VGtf, ↓VGft, ↓VGff, ↓UGtt, ↓UGtf, ↓UGft, ↓UGff, ↓MGtt, ↓MGtf, ↓MGft, ↓MGff, ↓NGtt, ↓NGtf, ↓NGft, ↓NGff, ↓PGtt, ↓PGtf, ↓PGft, ↓PGff, ↓BGtt, ↓BGtf, ↓BGft, ↓BGff, ↓CGtt, ↓CGtf, ↓CGft, ↓CGff, ↓IGtt, ↓IGtf, ↓IGft, ↓IGff, ↓PKt, ↓PKf, ↓CDt, ↓CDf, ↓NOTt, ↓NOTf, ↓NK_ptr]
  obtain ⟨A, c, es, _⟩ := reads_cap (reads_of_owns hu)
  rw [es, len_sl vMsS, ← es]
  try simp only [↓VG_u, ↓UG_u, ↓MG_u, ↓NG_u, ↓PG_u, ↓BG_u, ↓CG_u, ↓IG_u, ↓VGtt, ↓VGtf, ↓VGft, ↓VGff, ↓UGtt, ↓UGtf, ↓UGft, ↓UGff, ↓MGtt, ↓MGtf, ↓MGft, ↓MGff, ↓NGtt, ↓NGtf, ↓NGft, ↓NGff, ↓PGtt, ↓PGtf, ↓PGft, ↓PGff, ↓BGtt, ↓BGtf, ↓BGft, ↓BGff, ↓CGtt, ↓CGtf, ↓CGft, ↓CGff, ↓IGtt, ↓IGtf, ↓IGft, ↓IGff, ↓PKt, ↓PKf, ↓CDt, ↓CDf, ↓NOTt, ↓NOTf, ↓NK_ptr]
  rw [show (([aw 0 5].length : Nat) : Int) = 1 from rfl, EQt rfl]
  simp only [↓VG_u, ↓UG_u, ↓MG_u, ↓NG_u, ↓PG_u, ↓BG_u, ↓CG_u, ↓IG_u, ↓VGtt, ↓VGtf, ↓VGft, ↓VGff, ↓UGtt, ↓UGtf, ↓UGft, ↓UGff, ↓MGtt, ↓MGtf, ↓MGft, ↓MGff, ↓NGtt, ↓NGtf, ↓NGft, ↓NGff, ↓PGtt, ↓PGtf, ↓PGft, ↓PGff, ↓BGtt, ↓BGtf, ↓BGft, ↓BGff, ↓CGtt, ↓CGtf, ↓CGft, ↓CGff, ↓IGtt, ↓IGtf, ↓IGft, ↓IGff, ↓PKt, ↓PKf, ↓CDt, ↓CDf, ↓NOTt, ↓NOTf, ↓NK_ptr]
  refine ixF (reads_of_owns hu) (i := 0) (e := aw 0 5) rfl rfl (show fieldOff Try.prog tMs 3 = some 3 by kernel_rfl) (ld1 vI rfl) (u := .int .i64 0) rfl fun _ _ => ?_
  try simp only [↓VG_u, ↓UG_u, ↓MG_u, ↓NG_u, ↓PG_u, ↓BG_u, ↓CG_u, ↓IG_u, ↓VGtt, ↓VGtf, ↓VGft, ↓VGff, ↓UGtt, ↓UGtf, ↓UGft, ↓UGff, ↓MGtt, ↓MGtf, ↓MGft, ↓MGff, ↓NGtt, ↓NGtf, ↓NGft, ↓NGff, ↓PGtt, ↓PGtf, ↓PGft, ↓PGff, ↓BGtt, ↓BGtf, ↓BGft, ↓BGff, ↓CGtt, ↓CGtf, ↓CGft, ↓CGff, ↓IGtt, ↓IGtf, ↓IGft, ↓IGff, ↓PKt, ↓PKf, ↓CDt, ↓CDf, ↓NOTt, ↓NOTf, ↓NK_ptr]
  rw [EQt rfl]
  simp only [↓VG_u, ↓UG_u, ↓MG_u, ↓NG_u, ↓PG_u, ↓BG_u, ↓CG_u, ↓IG_u, ↓VGtt, ↓VGtf, ↓VGft, ↓VGff, ↓UGtt, ↓UGtf, ↓UGft, ↓UGff, ↓MGtt, ↓MGtf, ↓MGft, ↓MGff, ↓NGtt, ↓NGtf, ↓NGft, ↓NGff, ↓PGtt, ↓PGtf, ↓PGft, ↓PGff, ↓BGtt, ↓BGtf, ↓BGft, ↓BGff, ↓CGtt, ↓CGtf, ↓CGft, ↓CGff, ↓IGtt, ↓IGtf, ↓IGft, ↓IGff, ↓PKt, ↓PKf, ↓CDt, ↓CDf, ↓NOTt, ↓NOTf, ↓NK_ptr]
  refine bs_k (cs := #[.int .i64 0]) (by kernel_rfl) fun w1 hb1 hm1 hz1 => ?_
  have ho1 : w1.ownsRow 0 tI 1 (.slice (some ⟨w.heap.size, 0, none⟩) 1 1) [(0 : Int)].length (ints [0]) := ⟨rfl, .inr ⟨_, 1, _, rfl, Nat.zero_le _, hb1, Nat.le_refl _, by decide, rfl, rfl⟩⟩
  try simp only [↓VG_u, ↓UG_u, ↓MG_u, ↓NG_u, ↓PG_u, ↓BG_u, ↓CG_u, ↓IG_u, ↓VGtt, ↓VGtf, ↓VGft, ↓VGff, ↓UGtt, ↓UGtf, ↓UGft, ↓UGff, ↓MGtt, ↓MGtf, ↓MGft, ↓MGff, ↓NGtt, ↓NGtf, ↓NGft, ↓NGff, ↓PGtt, ↓PGtf, ↓PGft, ↓PGff, ↓BGtt, ↓BGtf, ↓BGft, ↓BGff, ↓CGtt, ↓CGtf, ↓CGft, ↓CGff, ↓IGtt, ↓IGtf, ↓IGft, ↓IGff, ↓PKt, ↓PKf, ↓CDt, ↓CDf, ↓NOTt, ↓NOTf, ↓NK_ptr]
  refine CK_st Try.func26 rfl rfl (Ints_ok (owns_mod hs hm1 fun _ _ => id) ho1 (by decide)) ?_
  rintro _ w2 ⟨rfl, hm2⟩
  have hm12 := hm1.trans hm2
  rw [decide_eq_true rfl]
  simp only [↓VG_u, ↓UG_u, ↓MG_u, ↓NG_u, ↓PG_u, ↓BG_u, ↓CG_u, ↓IG_u, ↓VGtt, ↓VGtf, ↓VGft, ↓VGff, ↓UGtt, ↓UGtf, ↓UGft, ↓UGff, ↓MGtt, ↓MGtf, ↓MGft, ↓MGff, ↓NGtt, ↓NGtf, ↓NGft, ↓NGff, ↓PGtt, ↓PGtf, ↓PGft, ↓PGff, ↓BGtt, ↓BGtf, ↓BGft, ↓BGff, ↓CGtt, ↓CGtf, ↓CGft, ↓CGff, ↓IGtt, ↓IGtf, ↓IGft, ↓IGff, ↓PKt, ↓PKf, ↓CDt, ↓CDf, ↓NOTt, ↓NOTf, ↓NK_ptr]
  rw [EQt rfl]
  simp only [↓VG_u, ↓UG_u, ↓MG_u, ↓NG_u, ↓PG_u, ↓BG_u, ↓CG_u, ↓IG_u, ↓VGtt, ↓VGtf, ↓VGft, ↓VGff, ↓UGtt, ↓UGtf, ↓UGft, ↓UGff, ↓MGtt, ↓MGtf, ↓MGft, ↓MGff, ↓NGtt, ↓NGtf, ↓NGft, ↓NGff, ↓PGtt, ↓PGtf, ↓PGft, ↓PGff, ↓BGtt, ↓BGtf, ↓BGft, ↓BGff, ↓CGtt, ↓CGtf, ↓CGft, ↓CGff, ↓IGtt, ↓IGtf, ↓IGft, ↓IGff, ↓PKt, ↓PKf, ↓CDt, ↓CDf, ↓NOTt, ↓NOTf, ↓NK_ptr]
  have g9 : FO Try.prog w2 tMs 3 3 ⟨b9, 0, none⟩ 3 (.int .i64 1) := FO.blk (hm12.blk h9 id) (by kernel_rfl) vI rfl rfl
  rw [g9.e]
  try simp only [↓VG_u, ↓UG_u, ↓MG_u, ↓NG_u, ↓PG_u, ↓BG_u, ↓CG_u, ↓IG_u, ↓VGtt, ↓VGtf, ↓VGft, ↓VGff, ↓UGtt, ↓UGtf, ↓UGft, ↓UGff, ↓MGtt, ↓MGtf, ↓MGft, ↓MGff, ↓NGtt, ↓NGtf, ↓NGft, ↓NGff, ↓PGtt, ↓PGtf, ↓PGft, ↓PGff, ↓BGtt, ↓BGtf, ↓BGft, ↓BGff, ↓CGtt, ↓CGtf, ↓CGft, ↓CGff, ↓IGtt, ↓IGtf, ↓IGft, ↓IGff, ↓PKt, ↓PKf, ↓CDt, ↓CDf, ↓NOTt, ↓NOTf, ↓NK_ptr]
  rw [EQt rfl]
  simp only [↓VG_u, ↓UG_u, ↓MG_u, ↓NG_u, ↓PG_u, ↓BG_u, ↓CG_u, ↓IG_u, ↓VGtt, ↓VGtf, ↓VGft, ↓VGff, ↓UGtt, ↓UGtf, ↓UGft, ↓UGff, ↓MGtt, ↓MGtf, ↓MGft, ↓MGff, ↓NGtt, ↓NGtf, ↓NGft, ↓NGff, ↓PGtt, ↓PGtf, ↓PGft, ↓PGff, ↓BGtt, ↓BGtf, ↓BGft, ↓BGff, ↓CGtt, ↓CGtf, ↓CGft, ↓CGff, ↓IGtt, ↓IGtf, ↓IGft, ↓IGff, ↓PKt, ↓PKf, ↓CDt, ↓CDf, ↓NOTt, ↓NOTf, ↓NK_ptr]
  refine CK_st Try.func16 rfl rfl (Left_ok (h.calm hm12) (by decide)) ?_
  rintro x w3 ⟨S, hS, hO, hm3⟩
  have lS : S.length = 1 := by rw [Stab.len ltM_wo hS.eq, aw7]; rfl
  obtain ⟨A2, c2, es2, _⟩ := reads_cap (reads_of_owns hO)
  rw [es2, len_sl vMsS]
  try simp only [↓VG_u, ↓UG_u, ↓MG_u, ↓NG_u, ↓PG_u, ↓BG_u, ↓CG_u, ↓IG_u, ↓VGtt, ↓VGtf, ↓VGft, ↓VGff, ↓UGtt, ↓UGtf, ↓UGft, ↓UGff, ↓MGtt, ↓MGtf, ↓MGft, ↓MGff, ↓NGtt, ↓NGtf, ↓NGft, ↓NGff, ↓PGtt, ↓PGtf, ↓PGft, ↓PGff, ↓BGtt, ↓BGtf, ↓BGft, ↓BGff, ↓CGtt, ↓CGtf, ↓CGft, ↓CGff, ↓IGtt, ↓IGtf, ↓IGft, ↓IGff, ↓PKt, ↓PKf, ↓CDt, ↓CDf, ↓NOTt, ↓NOTf, ↓NK_ptr]
  rw [show ((S.length : Nat) : Int) = 1 by rw [lS]; rfl, EQt rfl]
  try simp only [↓VG_u, ↓UG_u, ↓MG_u, ↓NG_u, ↓PG_u, ↓BG_u, ↓CG_u, ↓IG_u, ↓VGtt, ↓VGtf, ↓VGft, ↓VGff, ↓UGtt, ↓UGtf, ↓UGft, ↓UGff, ↓MGtt, ↓MGtf, ↓MGft, ↓MGff, ↓NGtt, ↓NGtf, ↓NGft, ↓NGff, ↓PGtt, ↓PGtf, ↓PGft, ↓PGff, ↓BGtt, ↓BGtf, ↓BGft, ↓BGff, ↓CGtt, ↓CGtf, ↓CGft, ↓CGff, ↓IGtt, ↓IGtf, ↓IGft, ↓IGff, ↓PKt, ↓PKf, ↓CDt, ↓CDf, ↓NOTt, ↓NOTf, ↓NK_ptr]
  exact hR w3 (hm12.trans hm3)
theorem awake_ok (w : World) : Rt Try.prog 29 #[] w fun v w' => v = .bool true ∧ Mod none_ w w' := by
  refine dispatcherlaw13_awake_calls ?_
  unfold dispatcherlaw13_awake_F
  refine CK_st Try.func9 rfl rfl (New_ok w) ?_
  rintro _ w1 ⟨p, V0, rfl, h0, hF0, hm1⟩
  rw [BK_eqlP uQ]
  simp only [Option.isNone_some, ↓VG_u, ↓UG_u, ↓MG_u, ↓NG_u, ↓PG_u, ↓BG_u, ↓CG_u, ↓IG_u, ↓VGtt, ↓VGtf, ↓VGft, ↓VGff, ↓UGtt, ↓UGtf, ↓UGft, ↓UGff, ↓MGtt, ↓MGtf, ↓MGft, ↓MGff, ↓NGtt, ↓NGtf, ↓NGft, ↓NGff, ↓PGtt, ↓PGtf, ↓PGft, ↓PGff, ↓BGtt, ↓BGtf, ↓BGft, ↓BGff, ↓CGtt, ↓CGtf, ↓CGft, ↓CGff, ↓IGtt, ↓IGtf, ↓IGft, ↓IGff, ↓PKt, ↓PKf, ↓CDt, ↓CDf, ↓NOTt, ↓NOTf, ↓NK_ptr]
  refine CK_st Try.func43 rfl rfl (message_ok 0 5 w1) ?_
  rintro _ w2 ⟨rfl, hm2⟩
  try simp only [↓VG_u, ↓UG_u, ↓MG_u, ↓NG_u, ↓PG_u, ↓BG_u, ↓CG_u, ↓IG_u, ↓VGtt, ↓VGtf, ↓VGft, ↓VGff, ↓UGtt, ↓UGtf, ↓UGft, ↓UGff, ↓MGtt, ↓MGtf, ↓MGft, ↓MGff, ↓NGtt, ↓NGtf, ↓NGft, ↓NGff, ↓PGtt, ↓PGtf, ↓PGft, ↓PGff, ↓BGtt, ↓BGtf, ↓BGft, ↓BGff, ↓CGtt, ↓CGtf, ↓CGft, ↓CGff, ↓IGtt, ↓IGtf, ↓IGft, ↓IGff, ↓PKt, ↓PKf, ↓CDt, ↓CDf, ↓NOTt, ↓NOTf, ↓NK_ptr]
  refine CK_st Try.func10 rfl rfl (Send_ok (h0.calm hm2) (by decide) (aw 0 5)) ?_
  rintro _ w3 ⟨rfl, V1, h1, f1⟩
  rw [aw1] at h1 ⊢
  try simp only [↓VG_u, ↓UG_u, ↓MG_u, ↓NG_u, ↓PG_u, ↓BG_u, ↓CG_u, ↓IG_u, ↓VGtt, ↓VGtf, ↓VGft, ↓VGff, ↓UGtt, ↓UGtf, ↓UGft, ↓UGff, ↓MGtt, ↓MGtf, ↓MGft, ↓MGff, ↓NGtt, ↓NGtf, ↓NGft, ↓NGff, ↓PGtt, ↓PGtf, ↓PGft, ↓PGff, ↓BGtt, ↓BGtf, ↓BGft, ↓BGff, ↓CGtt, ↓CGtf, ↓CGft, ↓CGff, ↓IGtt, ↓IGtf, ↓IGft, ↓IGff, ↓PKt, ↓PKf, ↓CDt, ↓CDf, ↓NOTt, ↓NOTf, ↓NK_ptr]
  rw [NEf rfl]
  simp only [↓VG_u, ↓UG_u, ↓MG_u, ↓NG_u, ↓PG_u, ↓BG_u, ↓CG_u, ↓IG_u, ↓VGtt, ↓VGtf, ↓VGft, ↓VGff, ↓UGtt, ↓UGtf, ↓UGft, ↓UGff, ↓MGtt, ↓MGtf, ↓MGft, ↓MGff, ↓NGtt, ↓NGtf, ↓NGft, ↓NGff, ↓PGtt, ↓PGtf, ↓PGft, ↓PGff, ↓BGtt, ↓BGtf, ↓BGft, ↓BGff, ↓CGtt, ↓CGtf, ↓CGft, ↓CGff, ↓IGtt, ↓IGtf, ↓IGft, ↓IGff, ↓PKt, ↓PKf, ↓CDt, ↓CDf, ↓NOTt, ↓NOTf, ↓NK_ptr]
  refine CK_st Try.func43 rfl rfl (message_ok 1 6 w3) ?_
  rintro _ w4 ⟨rfl, hm4⟩
  try simp only [↓VG_u, ↓UG_u, ↓MG_u, ↓NG_u, ↓PG_u, ↓BG_u, ↓CG_u, ↓IG_u, ↓VGtt, ↓VGtf, ↓VGft, ↓VGff, ↓UGtt, ↓UGtf, ↓UGft, ↓UGff, ↓MGtt, ↓MGtf, ↓MGft, ↓MGff, ↓NGtt, ↓NGtf, ↓NGft, ↓NGff, ↓PGtt, ↓PGtf, ↓PGft, ↓PGff, ↓BGtt, ↓BGtf, ↓BGft, ↓BGff, ↓CGtt, ↓CGtf, ↓CGft, ↓CGff, ↓IGtt, ↓IGtf, ↓IGft, ↓IGff, ↓PKt, ↓PKf, ↓CDt, ↓CDf, ↓NOTt, ↓NOTf, ↓NK_ptr]
  refine CK_st Try.func10 rfl rfl (Send_ok (h1.calm hm4) (by decide) (aw 1 6)) ?_
  rintro _ w5 ⟨rfl, V2, h2, f2⟩
  dsimp only at h2 ⊢
  rw [aw2] at h2 ⊢
  try simp only [↓VG_u, ↓UG_u, ↓MG_u, ↓NG_u, ↓PG_u, ↓BG_u, ↓CG_u, ↓IG_u, ↓VGtt, ↓VGtf, ↓VGft, ↓VGff, ↓UGtt, ↓UGtf, ↓UGft, ↓UGff, ↓MGtt, ↓MGtf, ↓MGft, ↓MGff, ↓NGtt, ↓NGtf, ↓NGft, ↓NGff, ↓PGtt, ↓PGtf, ↓PGft, ↓PGff, ↓BGtt, ↓BGtf, ↓BGft, ↓BGff, ↓CGtt, ↓CGtf, ↓CGft, ↓CGff, ↓IGtt, ↓IGtf, ↓IGft, ↓IGff, ↓PKt, ↓PKf, ↓CDt, ↓CDf, ↓NOTt, ↓NOTf, ↓NK_ptr]
  rw [NEf rfl]
  simp only [↓VG_u, ↓UG_u, ↓MG_u, ↓NG_u, ↓PG_u, ↓BG_u, ↓CG_u, ↓IG_u, ↓VGtt, ↓VGtf, ↓VGft, ↓VGff, ↓UGtt, ↓UGtf, ↓UGft, ↓UGff, ↓MGtt, ↓MGtf, ↓MGft, ↓MGff, ↓NGtt, ↓NGtf, ↓NGft, ↓NGff, ↓PGtt, ↓PGtf, ↓PGft, ↓PGff, ↓BGtt, ↓BGtf, ↓BGft, ↓BGff, ↓CGtt, ↓CGtf, ↓CGft, ↓CGff, ↓IGtt, ↓IGtf, ↓IGft, ↓IGff, ↓PKt, ↓PKf, ↓CDt, ↓CDf, ↓NOTt, ↓NOTf, ↓NK_ptr]
  refine CK_st Try.func43 rfl rfl (message_ok 1 7 w5) ?_
  rintro _ w6 ⟨rfl, hm6⟩
  try simp only [↓VG_u, ↓UG_u, ↓MG_u, ↓NG_u, ↓PG_u, ↓BG_u, ↓CG_u, ↓IG_u, ↓VGtt, ↓VGtf, ↓VGft, ↓VGff, ↓UGtt, ↓UGtf, ↓UGft, ↓UGff, ↓MGtt, ↓MGtf, ↓MGft, ↓MGff, ↓NGtt, ↓NGtf, ↓NGft, ↓NGff, ↓PGtt, ↓PGtf, ↓PGft, ↓PGff, ↓BGtt, ↓BGtf, ↓BGft, ↓BGff, ↓CGtt, ↓CGtf, ↓CGft, ↓CGff, ↓IGtt, ↓IGtf, ↓IGft, ↓IGff, ↓PKt, ↓PKf, ↓CDt, ↓CDf, ↓NOTt, ↓NOTf, ↓NK_ptr]
  refine CK_st Try.func10 rfl rfl (Send_ok (h2.calm hm6) (by decide) (aw 1 7)) ?_
  rintro _ w7 ⟨rfl, V3, h3, f3⟩
  dsimp only at h3 ⊢
  rw [aw3] at h3 ⊢
  try simp only [↓VG_u, ↓UG_u, ↓MG_u, ↓NG_u, ↓PG_u, ↓BG_u, ↓CG_u, ↓IG_u, ↓VGtt, ↓VGtf, ↓VGft, ↓VGff, ↓UGtt, ↓UGtf, ↓UGft, ↓UGff, ↓MGtt, ↓MGtf, ↓MGft, ↓MGff, ↓NGtt, ↓NGtf, ↓NGft, ↓NGff, ↓PGtt, ↓PGtf, ↓PGft, ↓PGff, ↓BGtt, ↓BGtf, ↓BGft, ↓BGff, ↓CGtt, ↓CGtf, ↓CGft, ↓CGff, ↓IGtt, ↓IGtf, ↓IGft, ↓IGff, ↓PKt, ↓PKf, ↓CDt, ↓CDf, ↓NOTt, ↓NOTf, ↓NK_ptr]
  rw [NEf rfl]
  simp only [↓VG_u, ↓UG_u, ↓MG_u, ↓NG_u, ↓PG_u, ↓BG_u, ↓CG_u, ↓IG_u, ↓VGtt, ↓VGtf, ↓VGft, ↓VGff, ↓UGtt, ↓UGtf, ↓UGft, ↓UGff, ↓MGtt, ↓MGtf, ↓MGft, ↓MGff, ↓NGtt, ↓NGtf, ↓NGft, ↓NGff, ↓PGtt, ↓PGtf, ↓PGft, ↓PGff, ↓BGtt, ↓BGtf, ↓BGft, ↓BGff, ↓CGtt, ↓CGtf, ↓CGft, ↓CGff, ↓IGtt, ↓IGtf, ↓IGft, ↓IGff, ↓PKt, ↓PKf, ↓CDt, ↓CDf, ↓NOTt, ↓NOTf, ↓NK_ptr]
  dsimp only at h3
  -- what the sends touched is all new
  have hFr : QFr p w1 V0 w7 V3 := (((QFr.calm hm2).trans f1).trans ((QFr.calm hm4).trans f2)).trans ((QFr.calm hm6).trans f3)
  have hm07 : Mod none_ w w7 := hm1.then hFr.mod fun i hi z => by have := hF0 i z; omega
  have hF3 : ∀ b, V3.F p b → w.heap.size ≤ b := fun b z => by
    rcases hFr.f b z with y | y
    · exact hF0 b y
    · have := hm1.size; omega
  refine CK_st Try.func22 rfl rfl (First_ok h3 (by decide) [] 0 1 (-1)) ?_
  rintro _ w8 ⟨rfl, hm8⟩
  rw [aw8]
  unfold msb
  dsimp only
  rw [extract_ok (v := .agg (aw 0 5).enc.toArray) rfl, extract_ok (v := .bool true) rfl]
  refine slot_k fun w9 hb9 hm9 hz9 => ?_
  have hm79 := hm8.trans hm9
  have h9 := h3.calm hm79
  have nb2 : ∀ b, V3.F p b → b ≠ w8.heap.size := fun b z y => by have := h3.old b z; have := hm8.size; omega
  rw [dispatcherlaw13_awake_R0_eq]; unfold dispatcherlaw13_awake_R0_F
  refine CK_st Try.func22 rfl rfl (First_ok h9 (by decide) [] 0 1 6) ?_
  rintro _ w10 ⟨rfl, hm10⟩
  rw [aw9]
  unfold msb
  dsimp only
  rw [extract_ok (v := .agg (aw 1 6).enc.toArray) rfl, extract_ok (v := .bool true) rfl]
  refine slot_k fun w11 hb11 hm11 hz11 => ?_
  have hm911 := hm10.trans hm11
  have h11 := h9.calm hm911
  refine CK_st Try.func43 rfl rfl (message_ok 1 0 w11) ?_
  rintro _ w12 ⟨rfl, hm12⟩
  have h12 := h11.calm hm12
  refine CK_st Try.func24 rfl rfl (Ahead_ok h12 (by decide) (aw 1 0)) ?_
  rintro u w13 ⟨hu, hm13⟩
  rw [show aheadV awL (aw 1 0).frm (aw 1 0).call = [aw 0 5] from aw5] at hu
  have h13 := h12.calm hm13
  refine CK_st Try.func27 rfl rfl (Senders_ok h13 FrmOk.awL (by decide) [] 1) ?_
  rintro s w14 ⟨hs, hm14⟩
  rw [aw6] at hs
  have h14 := h13.calm hm14
  refine CK_st Try.func12 rfl rfl (Take_ok h14 (by decide) 0 0) ?_
  rintro _ w15 ⟨rfl, h15, f15⟩
  rw [aw4] at h15 ⊢
  dsimp only at h15 ⊢
  refine CK_st Try.func22 rfl rfl (First_ok h15 (by decide) [] 0 1 (-1)) ?_
  rintro _ w16 ⟨rfl, hm16⟩
  rw [aw10]
  unfold msb
  dsimp only
  rw [extract_ok (v := .agg (aw 1 6).enc.toArray) rfl, extract_ok (v := .bool true) rfl]
  refine slot_k fun w17 hb17 hm17 hz17 => ?_
  have hm1517 := hm16.trans hm17
  have hold : ∀ b, V3.F p b → b < w7.heap.size := h3.old
  have s1 := hm79.size
  have s2 := hm911.size
  have s3 := hm12.size
  have s4 := hm13.size
  have s8 := hm8.size
  have s10 := hm10.size
  refine awake_R1 (b2 := w8.heap.size) (b4 := w10.heap.size) (b9 := w16.heap.size) (u := u) (s := s) (h15.calm hm1517) ?_ ?_ hb17 (B := w12.heap.size) (B' := w13.heap.size) ?_ ?_ rfl rfl rfl rfl rfl rfl rfl rfl rfl rfl ?_
  · refine hm1517.blk (f15.mod.blk ((((hm911.trans hm12).trans hm13).trans hm14).blk hb9 id) fun z => ?_) id
    have := hold _ z; omega
  · refine hm1517.blk (f15.mod.blk (((hm12.trans hm13).trans hm14).blk hb11 id) fun z => ?_) id
    have := hold _ z; omega
  · refine owns_mod (owns_mod (owns_mod hu hm14 fun _ _ => id) f15.mod fun g z y => ?_) hm1517 fun _ _ => id
    have := (owns_bd hu g z).1
    have := hold _ y; omega
  · refine owns_mod (owns_mod hs f15.mod fun g z y => ?_) hm1517 fun _ _ => id
    have := (owns_bd hs g z).1
    have := hold _ y; omega
  · intro w' hw'
    refine ⟨rfl, ?_⟩
    have hq : Mod none_ w w15 := (((((hm07.trans hm79).trans hm911).trans hm12).trans hm13).trans hm14).then f15.mod fun i hi z => by have := hF3 i z; omega
    exact (hq.trans hm1517).trans hw'
end
end Go.Proofs.Ytnaoiekpfaganaa.Que
set_option linter.unusedVariables false
set_option linter.unusedSimpArgs false
set_option maxRecDepth 8000
namespace Go.Proofs.Ytnaoiekpfaganaa.Que
open Go Go.X Go.RowKit Go.Proofs.Ytnaoiekpfaganaa.XF Go.Proofs.Ytnaoiekpfaganaa.XK
end Go.Proofs.Ytnaoiekpfaganaa.Que
set_option linter.unusedVariables false
set_option linter.unusedSimpArgs false
set_option maxRecDepth 4000
namespace Go.Proofs.Ytnaoiekpfaganaa.Que
open Go Go.X Go.RowKit Go.Proofs.Ytnaoiekpfaganaa.XF Go.Proofs.Ytnaoiekpfaganaa.XK
section
variable {w w0 : World} {p : Nat} {l : List Ms} {V : QV}
end
end Go.Proofs.Ytnaoiekpfaganaa.Que
set_option linter.unusedVariables false
set_option linter.unusedSimpArgs false
set_option maxRecDepth 4000
namespace Go.Proofs.Ytnaoiekpfaganaa.Que
open Go Go.X Go.RowKit Go.Proofs.Ytnaoiekpfaganaa.XF Go.Proofs.Ytnaoiekpfaganaa.XK
theorem vU8 : Try.prog.underlying 5 = some (.int .u8) := by kernel_rfl
end Go.Proofs.Ytnaoiekpfaganaa.Que
set_option linter.unusedVariables false
set_option linter.unusedSimpArgs false
set_option maxRecDepth 8000
namespace Go.X
open Go Go.RowKit
theorem send_row {l : List Ms} {m : Ms} {c : Ch} (h : m.ch ≠ c) : rowOf (sendV l m).1 c = rowOf l c := by
  unfold sendV
  split
  · rfl
  · rw [row_app, if_neg h, List.append_nil]
structure S7 (ρ ρ' : Sl) : Prop where
  s0 : ρ' 0 = ρ 0
  s1 : ρ' 1 = ρ 1
  s2 : ρ' 2 = ρ 2
  s3 : ρ' 3 = ρ 3
  s4 : ρ' 4 = ρ 4
  s11 : ρ' 11 = ρ 11
  s12 : ρ' 12 = ρ 12
theorem S7.trans {a b c : Sl} (h : S7 a b) (k : S7 b c) : S7 a c := ⟨k.s0.trans h.s0, k.s1.trans h.s1, k.s2.trans h.s2, k.s3.trans h.s3, k.s4.trans h.s4, k.s11.trans h.s11, k.s12.trans h.s12⟩
end Go.X
namespace Go.Proofs.Ytnaoiekpfaganaa.Que
open Go Go.X Go.RowKit Go.Proofs.Ytnaoiekpfaganaa.XF Go.Proofs.Ytnaoiekpfaganaa.XK
theorem msb_get (o : Option Ms) : msb o = .tuple #[.agg (o.getD zMs).enc.toArray, .bool o.isSome] := by cases o <;> rfl
section
variable {w : World} {p : Nat} {V : QV} {ls ls' S : List Ms} {k : List UInt8} {f t tag : Int}
end
end Go.Proofs.Ytnaoiekpfaganaa.Que
set_option linter.unusedVariables false
set_option linter.unusedSimpArgs false
set_option maxRecDepth 8000
namespace Go.Proofs.Ytnaoiekpfaganaa.Que
open Go Go.X Go.RowKit Go.Proofs.Ytnaoiekpfaganaa.XF Go.Proofs.Ytnaoiekpfaganaa.XK
section
variable {w w0 : World} {p : Nat} {V : QV} {ls S : List Ms} {k : List UInt8} {f t tag : Int}
theorem QFr.none {w' : World} {V' : QV} (h : QFr p w V w' V') (h0 : Mod none_ w0 w) (hF : ∀ b, V.F p b → w0.heap.size ≤ b) : Mod none_ w0 w' ∧ ∀ b, V'.F p b → w0.heap.size ≤ b := by
  have hs := h0.size
  refine ⟨h0.then h.mod fun i hi z => by have := hF i z; omega, fun b z => ?_⟩
  rcases h.f b z with y | y
  · exact hF b y
  · omega
end
end Go.Proofs.Ytnaoiekpfaganaa.Que
set_option linter.unusedVariables false
set_option linter.unusedSimpArgs false
set_option maxRecDepth 4000
namespace Go.X
open Go Go.RowKit
section
variable {ls S : List Ms} {m : Ms} {i : Nat}
end
end Go.X
set_option linter.unusedVariables false
set_option linter.unusedSimpArgs false
set_option maxRecDepth 8000
namespace Go.Proofs.Ytnaoiekpfaganaa.Que
open Go Go.X Go.RowKit Go.Proofs.Ytnaoiekpfaganaa.XF Go.Proofs.Ytnaoiekpfaganaa.XK
section
variable {w : World} {p : Nat} {V : QV} {ls S : List Ms} {m : Ms} {i b12 : Nat} {u : Value} {B : Nat}
end
end Go.Proofs.Ytnaoiekpfaganaa.Que
set_option linter.unusedVariables false
set_option linter.unusedSimpArgs false
set_option maxRecDepth 8000
namespace Go.Proofs.Ytnaoiekpfaganaa.Que
open Go Go.X Go.RowKit Go.Proofs.Ytnaoiekpfaganaa.XF Go.Proofs.Ytnaoiekpfaganaa.XK
section
variable {w : World} {p : Nat} {V : QV} {ls S : List Ms} {m : Ms} {i b12 : Nat} {u : Value} {B : Nat}
end
end Go.Proofs.Ytnaoiekpfaganaa.Que
set_option linter.unusedVariables false
set_option linter.unusedSimpArgs false
set_option maxRecDepth 8000
namespace Go.Proofs.Ytnaoiekpfaganaa.Que
open Go Go.X Go.RowKit Go.Proofs.Ytnaoiekpfaganaa.XF Go.Proofs.Ytnaoiekpfaganaa.XK
section
variable {w w0 : World}
end
end Go.Proofs.Ytnaoiekpfaganaa.Que
set_option linter.unusedVariables false
set_option linter.unusedSimpArgs false
set_option maxRecDepth 8000
namespace Go.Proofs.Ytnaoiekpfaganaa.Que
open Go Go.X Go.RowKit
def om (f t : Int) (i : Nat) (g : Int) : Ms := ⟨[107], f, t, 2 * (i : Int), g, 0, 1, false⟩
def ol (f t : Int) (i : Nat) (g : Int) : Ms := ⟨[108], f, t, 2 * (i : Int) + 1, g, 0, 1, false⟩
abbrev chK (f t : Int) : Ch := ([107], f, t)
def fitC (ls : List Ms) (f t tag : Int) : List Int := ((rowOf ls (chK f t)).filter (fits tag)).map Ms.call
def sel (tag g : Int) : Bool := decide (tag = -1) || decide (tag = g)
structure OInv (ls : List Ms) (f t tag : Int) (i : Nat) (want : List Int) : Prop where
  fit : fitC ls f t tag = want
  low : ∀ m ∈ ls, m.call < 2 * (i : Int)
  len : ls.length ≤ 2 * i
theorem OInv.wl {ls : List Ms} {f t tag : Int} {i : Nat} {want : List Int} (h : OInv ls f t tag i want) : want.length ≤ 2 * i := by
  rw [← h.fit]; unfold fitC
  rw [List.length_map]
  exact Nat.le_trans (List.length_filter_le _ _) (Nat.le_trans (row_len _ _) h.len)
theorem om_send {ls : List Ms} {f t tag g : Int} {i : Nat} {want : List Int} (h : OInv ls f t tag i want) (hf : 0 ≤ f ∧ f ≤ 63) (ht : 0 ≤ t ∧ t ≤ 63) (hg : 0 ≤ g ∧ g ≤ 3) : sendV ls (om f t i g) = (ls ++ [om f t i g], 0) := by
  unfold sendV
  have hn : ls.find? (Ms.isAt (om f t i g).frm (om f t i g).call) = none := by
    rw [List.find?_eq_none]
    intro m hm
    have := h.low m hm
    unfold Ms.isAt om
    simp
    omega
  have hb : badM (om f t i g) = false := by
    unfold badM om
    simp
    omega
  rw [hn, hb]
  rfl
theorem om_fit {ls : List Ms} {f t tag g : Int} {i : Nat} {want : List Int} (h : OInv ls f t tag i want) : fitC (ls ++ [om f t i g]) f t tag = want ++ (if sel tag g = true then [2 * (i : Int)] else []) := by
  unfold fitC
  rw [row_app, if_pos (show (om f t i g).ch = chK f t from rfl), List.filter_append, List.map_append]
  have hh := h.fit
  unfold fitC at hh
  rw [hh]
  congr 1
  have : fits tag (om f t i g) = sel tag g := by unfold fits sel om; simp
  by_cases hs : sel tag g = true
  · rw [if_pos hs, List.filter_cons_of_pos (by rw [this, hs]), List.filter_nil]; rfl
  · rw [if_neg hs, List.filter_cons_of_neg (by rw [this]; exact hs), List.filter_nil]; rfl
theorem om_step {ls : List Ms} {f t tag g : Int} {i : Nat} {want want' : List Int} (h : OInv ls f t tag i want) (hw : want' = want ++ (if sel tag g = true then [2 * (i : Int)] else [])) : OInv (ls ++ [om f t i g]) f t tag (i + 1) want' := by
  refine ⟨by rw [hw]; exact om_fit h, fun m hm => ?_, by have := h.len; simp; omega⟩
  rcases List.mem_append.1 hm with z | z
  · have := h.low m z; omega
  · rw [List.mem_singleton.1 z]
    show 2 * (i : Int) < _
    omega
theorem ol_step {ls : List Ms} {f t tag g : Int} {i : Nat} {want want' : List Int} (h : OInv ls f t tag i want) (hw : want' = want ++ (if sel tag g = true then [2 * (i : Int)] else [])) : OInv (sendV (ls ++ [om f t i g]) (ol f t i g)).1 f t tag (i + 1) want' := by
  have h1 := om_step (g := g) h hw
  have hl := h.len
  refine ⟨?_, fun m hm => ?_, ?_⟩
  · rw [← h1.fit]
    unfold fitC
    rw [send_row (show (ol f t i g).ch ≠ chK f t by unfold ol Ms.ch chK; simp)]
  · unfold sendV at hm
    split at hm
    · exact h1.low m hm
    · rcases List.mem_append.1 hm with z | z
      · exact h1.low m z
      · rw [List.mem_singleton.1 z]
        show 2 * (i : Int) + 1 < _
        omega
  · have := sendV_len (ls ++ [om f t i g]) (ol f t i g)
    rw [List.length_append, List.length_singleton] at this
    omega
theorem uniq_eq {ls : List Ms} (hu : ls.Pairwise fun a b => ¬ (a.frm = b.frm ∧ a.call = b.call)) {a b : Ms} (ha : a ∈ ls) (hb : b ∈ ls) (h1 : a.frm = b.frm) (h2 : a.call = b.call) : a = b := by
  induction ls with
  | nil => cases ha
  | cons x ls ih =>
    have hx := (List.pairwise_cons.1 hu).1
    have hr := (List.pairwise_cons.1 hu).2
    rcases List.mem_cons.1 ha with ea | ha'
    · rcases List.mem_cons.1 hb with eb | hb'
      · exact ea.trans eb.symm
      · exact absurd ⟨(congrArg Ms.frm ea).symm.trans h1, (congrArg Ms.call ea).symm.trans h2⟩ (hx b hb')
    · rcases List.mem_cons.1 hb with eb | hb'
      · exact absurd ⟨(congrArg Ms.frm eb).symm.trans h1.symm, (congrArg Ms.call eb).symm.trans h2.symm⟩ (hx a ha')
      · exact ih hr ha' hb'
theorem ord_find {ls : List Ms} {f t tag x : Int} {r : List Int} (hu : ls.Pairwise fun a b => ¬ (a.frm = b.frm ∧ a.call = b.call)) (h : fitC ls f t tag = x :: r) :
    ∃ m, firstV ls (chK f t) tag = some m ∧ m.call = x ∧ m.taken = false ∧ ls.find? (Ms.isAt f x) = some m ∧ fitC (ls.map (tk f x)) f t tag = r := by
  unfold fitC at h
  obtain ⟨m, r', hq, rfl, hr⟩ := List.map_eq_cons_iff.1 h
  have hmem : m ∈ (rowOf ls (chK f t)).filter (fits tag) := by rw [hq]; exact List.mem_cons_self ..
  have hrow := (List.mem_filter.1 hmem).1
  have hfit := (List.mem_filter.1 hmem).2
  have hls := (List.mem_filter.1 hrow).1
  have hch : m.ch = chK f t := of_decide_eq_true (List.mem_filter.1 hrow).2
  have hfrm : m.frm = f := by
    have := congrArg (fun c : Ch => c.2.1) hch
    exact this
  have hat : m.isAt f m.call = true := by unfold Ms.isAt; simp [hfrm]
  have htk : m.taken = false := by unfold fits at hfit; simp at hfit; exact hfit.1
  refine ⟨m, ?_, rfl, htk, ?_, ?_⟩
  · unfold firstV
    rw [← List.head?_filter, hq]; rfl
  · cases hfd : ls.find? (Ms.isAt f m.call) with
    | none => exact absurd hat (List.find?_eq_none.1 hfd m hls)
    | some y =>
      have hy := List.mem_of_find?_eq_some hfd
      have hya := List.find?_some hfd
      unfold Ms.isAt at hya
      simp only [Bool.and_eq_true, decide_eq_true_eq] at hya
      rw [uniq_eq hu hy hls (hya.1.trans hfrm.symm) hya.2]
  · unfold fitC
    rw [row_map, List.filter_map]
    have hsub : (rowOf ls (chK f t)).filter (fits tag ∘ tk f m.call) = ((rowOf ls (chK f t)).filter (fits tag)).filter fun y => !(y.isAt f m.call) := by
      rw [List.filter_filter]
      refine List.filter_congr fun y _ => ?_
      show fits tag (tk f m.call y) = (!(y.isAt f m.call) && fits tag y)
      unfold tk
      cases y.isAt f m.call
      · rfl
      · simp [fits]
    rw [hsub, hq, List.filter_cons_of_neg (by rw [hat]; decide)]
    have hp : (m :: r').Pairwise fun a b => ¬ (a.frm = b.frm ∧ a.call = b.call) := by
      rw [← hq]
      exact hu.sublist (List.filter_sublist.trans List.filter_sublist)
    have hall := (List.pairwise_cons.1 hp).1
    rw [List.filter_eq_self.2 (fun y hy => ?_), List.map_map, ← hr]
    · refine List.map_congr_left fun y _ => ?_
      exact tk_call f m.call y
    · have := hall y hy
      unfold Ms.isAt
      simp only [Bool.not_eq_true', Bool.and_eq_false_iff, decide_eq_false_iff_not]
      by_cases e : y.frm = f
      · right; intro e2; exact this ⟨hfrm.trans e.symm, e2.symm⟩
      · exact .inl e
theorem ord_take {ls : List Ms} {f t tag x : Int} {r : List Int} (hu : ls.Pairwise fun a b => ¬ (a.frm = b.frm ∧ a.call = b.call)) (h : fitC ls f t tag = x :: r) :
    takeV ls f x = (ls.map (tk f x), 0) ∧ takeV (ls.map (tk f x)) f x = (ls.map (tk f x), 2) := by
  obtain ⟨m, _, hc, ht, hf, _⟩ := ord_find hu h
  have ha := List.find?_some hf
  refine ⟨by unfold takeV; rw [hf]; simp [ht], ?_⟩
  unfold takeV
  have : (ls.map (tk f x)).find? (Ms.isAt f x) = (ls.find? (Ms.isAt f x)).map (tk f x) := by
    rw [List.find?_map]
    congr 1
    refine congrArg (fun p => ls.find? p) (funext fun y => ?_)
    exact tk_isAt f x f x y
  rw [this, hf]
  show (if (tk f x m).taken = true then _ else _) = _
  rw [if_pos (by unfold tk; rw [if_pos ha])]
theorem ord_none {ls : List Ms} {f t tag : Int} (h : fitC ls f t tag = []) : firstV ls (chK f t) tag = none := by
  unfold fitC at h
  unfold firstV
  rw [← List.head?_filter, List.map_eq_nil_iff.1 h]; rfl
end Go.Proofs.Ytnaoiekpfaganaa.Que
set_option linter.unusedVariables false
set_option linter.unusedSimpArgs false
set_option maxRecDepth 8000
namespace Go.Proofs.Ytnaoiekpfaganaa.Que
open Go Go.X Go.RowKit Go.Proofs.Ytnaoiekpfaganaa.XF Go.Proofs.Ytnaoiekpfaganaa.XK
section
variable {w w0 : World}
end
end Go.Proofs.Ytnaoiekpfaganaa.Que
set_option linter.unusedVariables false
namespace Go.X
open Go
def stepOk (P : Program) (n : Nat) (ops : Array Oper) (i : Nat) (t : Bool) (listed : Array Bool) : Bool :=
  match ops[i]? with
  | none => false
  | some o => oOk n o && (if t then Region.free .any ops listed i && (Region.ready .any ops listed).contains i else noRound P o.op && (Region.ready .any ops listed == [i]))
theorem planOk_step {P : Program} {n : Nat} {ops : Array Oper} {i : Nat} {t : Bool} {r : List (Nat × Bool)} {listed : Array Bool} (listed' : Array Bool) (hl : listed.setIfInBounds i true = listed') (h : stepOk P n ops i t listed = true) (hr : planOk P n ops r listed' = true) : planOk P n ops ((i, t) :: r) listed = true := by
  subst hl
  show (stepOk P n ops i t listed && planOk P n ops r (listed.setIfInBounds i true)) = true
  rw [h, hr]; rfl
theorem sxh_append (P : Program) (S : World → Prop) (ops : Array Oper) (K : Sl → World → Prop) : ∀ (l r : List (Nat × Bool)), sxh P S ops K (l ++ r) = sxh P S ops (sxh P S ops K r) l
  | [], r => by funext ρ w; rfl
  | (i, t) :: l, r => by
    funext ρ w
    show sxh P S ops K ((i, t) :: (l ++ r)) ρ w = _
    unfold sxh
    rw [sxh_append P S ops K l r]
end Go.X
set_option linter.unusedVariables false
set_option maxRecDepth 100000
namespace Go.Proofs.Ytnaoiekpfaganaa.XO
open Go Go.X
noncomputable def dispatcherlaw13_QueueOrder_b : Code := (Try.f5.body).getD .skip
noncomputable def dispatcherlaw13_QueueOrder_R0 : Code := cAt [1, 1, 1, 1, 1] dispatcherlaw13_QueueOrder_b
noncomputable def dispatcherlaw13_QueueOrder_L1 : Code := cAt [1, 1, 1, 1, 1, 1, 0, 1, 0, 0] dispatcherlaw13_QueueOrder_b
noncomputable def dispatcherlaw13_QueueOrder_R2 : Code := cAt [1, 1, 1, 1, 1, 1, 1] dispatcherlaw13_QueueOrder_b
noncomputable def dispatcherlaw13_QueueOrder_R3 : Code := cAt [1, 1, 1, 1, 1, 1, 0, 1, 0, 0, 1, 1] dispatcherlaw13_QueueOrder_b
noncomputable def dispatcherlaw13_QueueOrder_R4 : Code := cAt [1, 1, 1, 1, 1, 1, 0, 1, 0, 0, 1, 0, 0, 1, 1, 0, 1] dispatcherlaw13_QueueOrder_b
noncomputable def dispatcherlaw13_QueueOrder_R5 : Code := cAt [1, 1, 1, 1, 1, 1, 0, 1, 0, 0, 1, 0, 0, 1, 1, 1] dispatcherlaw13_QueueOrder_b
noncomputable def dispatcherlaw13_QueueOrder_L6 : Code := cAt [1, 1, 1, 1, 1, 1, 1, 0, 1, 0, 0] dispatcherlaw13_QueueOrder_b
noncomputable def dispatcherlaw13_QueueOrder_R7 : Code := cAt [1, 1, 1, 1, 1, 1, 1, 1] dispatcherlaw13_QueueOrder_b
noncomputable def dispatcherlaw13_QueueOrder_R8 : Code := cAt [1, 1, 1, 1, 1, 1, 1, 0, 1, 0, 0, 1, 0, 0, 1, 0] dispatcherlaw13_QueueOrder_b
noncomputable def dispatcherlaw13_QueueOrder_R9 : Code := cAt [1, 1, 1, 1, 1, 1, 1, 0, 1, 0, 0, 1, 0, 0, 1, 1] dispatcherlaw13_QueueOrder_b
noncomputable def dispatcherlaw13_QueueOrder_R10 : Code := cAt [1, 1, 1, 1, 1, 1, 1, 0, 1, 0, 0, 1, 1] dispatcherlaw13_QueueOrder_b
noncomputable def dispatcherlaw13_QueueOrder_R0_F (z : At) (K : Exit → Sl → World → Prop) (ρ : Sl) (w : World) : Prop :=
  W z Try.prog 138 (Code.loop dispatcherlaw13_QueueOrder_L1) (blkK 0 (seqK (sx z Try.prog 138 dispatcherlaw13_QueueOrder_R2 K) K)) (up (up ρ 14 (Value.slice none 0 0)) 15 (Value.int .i64 0)) w
theorem dispatcherlaw13_QueueOrder_R0_eq (z : At) (K : Exit → Sl → World → Prop) (ρ : Sl) (w : World) : sx z Try.prog 138 dispatcherlaw13_QueueOrder_R0 K ρ w = dispatcherlaw13_QueueOrder_R0_F z K ρ w := by kernel_rfl
noncomputable def dispatcherlaw13_QueueOrder_L1_F (z : At) (K : Exit → Sl → World → Prop) (ρ : Sl) (w : World) : Prop :=
  IK Try.prog .len #[52] 3 [false] [(ρ 0)] w fun x44 w => BK Try.prog .lss 3 (.tmp 42) (.tmp 44) (ρ 15) x44 w fun x45 w => CondK x45 (BK Try.prog .mul 3 (.const (Value.int .i64 2)) (.tmp 50) (Value.int .i64 2) (ρ 15) w fun x51 w => VK Try.prog (Instr.indexAt 52 (ρ 0) (ρ 15)) w fun x54 w => VK Try.prog (Instr.loadAt 5 x54) w fun x55 w => BK Try.prog .rem 5 (.tmp 55) (.const (Value.int .u8 4)) x55 (Value.int .u8 4) w fun x56 w => VK Try.prog (convert 5 3 x56) w fun x57 w => VK Try.prog (Instr.build 31 [(0, (Value.string { data := #[107] })), (1, (ρ 11)), (2, (ρ 12)), (3, x51), (4, x57), (6, (Value.int .i64 1))].toArray) w fun x58 w => VK Try.prog (Instr.alloc 31 true (.tuple #[])) w fun x16 w => UK Try.prog (Instr.storeAt 31 x16 x58) w fun _ w => VK Try.prog (Instr.loadAt 31 x16) w fun x60 w => CK Try.prog (Value.func (Fn.func 10) #[] #[]) [(ρ 13), x60] w fun x61 w => BK Try.prog .neq 34 (.tmp 61) (.const (Value.int .i64 0)) x61 (Value.int .i64 0) w fun x62 w => CondK x62 (K .ret (up (up (up (up (up (up (up (up (up (up (up (up (up (up (up (up (up (up (up (up (up ρ 42 (ρ 15)) 43 (ρ 0)) 44 x44) 45 x45) 48 (ρ 11)) 49 (ρ 12)) 50 (ρ 15)) 51 x51) 52 (ρ 0)) 53 (ρ 15)) 54 x54) 55 x55) 56 x56) 57 x57) 58 x58) 16 x16) 59 (ρ 13)) 60 x60) 61 x61) 62 x62) 10 (Value.bool false)) w) (BK Try.prog .eql 3 (.tmp 63) (.const (Value.int .i64 (-1))) (ρ 4) (Value.int .i64 (-1)) w fun x64 w => MG Try.prog x64 false (ρ 4) w fun x66 w => VG Try.prog x64 false (Instr.fieldAt 31 x16 4) w fun x67 w => VG Try.prog x64 false (Instr.loadAt 3 x67) w fun x68 w => BG Try.prog x64 false .eql 3 (.tmp 66) (.tmp 68) x66 x68 w fun x69 w => PK Try.prog x64 (Value.bool true) x69 w fun x70 w => sx z Try.prog 138 dispatcherlaw13_QueueOrder_R4 (seqK (sx z Try.prog 138 dispatcherlaw13_QueueOrder_R5 (blkK 1 (seqK (sx z Try.prog 138 dispatcherlaw13_QueueOrder_R3 K) K))) (blkK 1 (seqK (sx z Try.prog 138 dispatcherlaw13_QueueOrder_R3 K) K))) (up (up (up (up (up (up (up (up (up (up (up (up (up (up (up (up (up (up (up (up (up (up (up (up (up (up (up (up ρ 42 (ρ 15)) 43 (ρ 0)) 44 x44) 45 x45) 48 (ρ 11)) 49 (ρ 12)) 50 (ρ 15)) 51 x51) 52 (ρ 0)) 53 (ρ 15)) 54 x54) 55 x55) 56 x56) 57 x57) 58 x58) 16 x16) 59 (ρ 13)) 60 x60) 61 x61) 62 x62) 63 (ρ 4)) 64 x64) 65 x64) 66 x66) 67 x67) 68 x68) 69 x69) 70 x70) w)) (K (.exit 0) (up (up (up (up ρ 42 (ρ 15)) 43 (ρ 0)) 44 x44) 45 x45) w)
theorem dispatcherlaw13_QueueOrder_L1_eq (z : At) (K : Exit → Sl → World → Prop) (ρ : Sl) (w : World) : sx z Try.prog 138 dispatcherlaw13_QueueOrder_L1 K ρ w = dispatcherlaw13_QueueOrder_L1_F z K ρ w := by kernel_rfl
theorem dispatcherlaw13_QueueOrder_L1_ok : dstOk 138 dispatcherlaw13_QueueOrder_L1 = true := by kernel_rfl
noncomputable def dispatcherlaw13_QueueOrder_R2_F (z : At) (K : Exit → Sl → World → Prop) (ρ : Sl) (w : World) : Prop :=
  W z Try.prog 138 (Code.loop dispatcherlaw13_QueueOrder_L6) (blkK 2 (seqK (sx z Try.prog 138 dispatcherlaw13_QueueOrder_R7 K) K)) (up ρ 17 (Value.int .i64 0)) w
theorem dispatcherlaw13_QueueOrder_R2_eq (z : At) (K : Exit → Sl → World → Prop) (ρ : Sl) (w : World) : sx z Try.prog 138 dispatcherlaw13_QueueOrder_R2 K ρ w = dispatcherlaw13_QueueOrder_R2_F z K ρ w := by kernel_rfl
noncomputable def dispatcherlaw13_QueueOrder_R3_F (z : At) (K : Exit → Sl → World → Prop) (ρ : Sl) (w : World) : Prop :=
  BK Try.prog .add 3 (.tmp 46) (.const (Value.int .i64 1)) (ρ 15) (Value.int .i64 1) w fun x47 w => K .normal (up (up (up ρ 46 (ρ 15)) 47 x47) 15 x47) w
theorem dispatcherlaw13_QueueOrder_R3_eq (z : At) (K : Exit → Sl → World → Prop) (ρ : Sl) (w : World) : sx z Try.prog 138 dispatcherlaw13_QueueOrder_R3 K ρ w = dispatcherlaw13_QueueOrder_R3_F z K ρ w := by kernel_rfl
noncomputable def dispatcherlaw13_QueueOrder_R4_F (z : At) (K : Exit → Sl → World → Prop) (ρ : Sl) (w : World) : Prop :=
  CondK (ρ 70) (BK Try.prog .mul 3 (.const (Value.int .i64 2)) (.tmp 72) (Value.int .i64 2) (ρ 15) w fun x73 w => VK Try.prog (Instr.buildSlice 49 1 [(0, x73)].toArray) w fun x74 w => IK Try.prog .append #[49, 49] 49 [false, false] [(ρ 14), x74] w fun x75 w => K .normal (up (up (up (up (up (up ρ 71 (ρ 14)) 72 (ρ 15)) 73 x73) 74 x74) 75 x75) 14 x75) w) (K .normal ρ w)
theorem dispatcherlaw13_QueueOrder_R4_eq (z : At) (K : Exit → Sl → World → Prop) (ρ : Sl) (w : World) : sx z Try.prog 138 dispatcherlaw13_QueueOrder_R4 K ρ w = dispatcherlaw13_QueueOrder_R4_F z K ρ w := by kernel_rfl
noncomputable def dispatcherlaw13_QueueOrder_R5_F (z : At) (K : Exit → Sl → World → Prop) (ρ : Sl) (w : World) : Prop :=
  CondK (ρ 3) (BK Try.prog .mul 3 (.const (Value.int .i64 2)) (.tmp 80) (Value.int .i64 2) (ρ 15) w fun x81 w => BK Try.prog .add 3 (.tmp 81) (.const (Value.int .i64 1)) x81 (Value.int .i64 1) w fun x82 w => VK Try.prog (Instr.fieldAt 31 (ρ 16) 4) w fun x83 w => VK Try.prog (Instr.loadAt 3 x83) w fun x84 w => VK Try.prog (Instr.build 31 [(0, (Value.string { data := #[108] })), (1, (ρ 11)), (2, (ρ 12)), (3, x82), (4, x84), (6, (Value.int .i64 1))].toArray) w fun x85 w => CK Try.prog (Value.func (Fn.func 10) #[] #[]) [(ρ 13), x85] w fun x86 w => K .normal (up (up (up (up (up (up (up (up (up (up (up ρ 76 (ρ 3)) 77 (ρ 13)) 78 (ρ 11)) 79 (ρ 12)) 80 (ρ 15)) 81 x81) 82 x82) 83 x83) 84 x84) 85 x85) 86 x86) w) (K .normal (up ρ 76 (ρ 3)) w)
theorem dispatcherlaw13_QueueOrder_R5_eq (z : At) (K : Exit → Sl → World → Prop) (ρ : Sl) (w : World) : sx z Try.prog 138 dispatcherlaw13_QueueOrder_R5 K ρ w = dispatcherlaw13_QueueOrder_R5_F z K ρ w := by kernel_rfl
noncomputable def dispatcherlaw13_QueueOrder_L6_F (z : At) (K : Exit → Sl → World → Prop) (ρ : Sl) (w : World) : Prop :=
  IK Try.prog .len #[49] 3 [false] [(ρ 14)] w fun x89 w => BK Try.prog .lss 3 (.tmp 87) (.tmp 89) (ρ 17) x89 w fun x90 w => CondK x90 (CK Try.prog (Value.func (Fn.func 22) #[] #[]) [(ρ 13), (Value.string { data := #[107] }), (ρ 11), (ρ 12), (ρ 4)] w fun x98 w => VK Try.prog (Instr.extract x98 0) w fun x99 w => VK Try.prog (Instr.extract x98 1) w fun x100 w => VK Try.prog (Instr.alloc 31 true (.tuple #[])) w fun x18 w => UK Try.prog (Instr.storeAt 31 x18 x99) w fun _ w => W z Try.prog 138 dispatcherlaw13_QueueOrder_R8 (seqK (sx z Try.prog 138 dispatcherlaw13_QueueOrder_R9 (blkK 3 (seqK (sx z Try.prog 138 dispatcherlaw13_QueueOrder_R10 K) K))) (blkK 3 (seqK (sx z Try.prog 138 dispatcherlaw13_QueueOrder_R10 K) K))) (up (up (up (up (up (up (up (up (up (up (up (up (up (up ρ 87 (ρ 17)) 88 (ρ 14)) 89 x89) 90 x90) 94 (ρ 13)) 95 (ρ 11)) 96 (ρ 12)) 97 (ρ 4)) 98 x98) 93 x98) 99 x99) 100 x100) 18 x18) 19 x100) w) (K (.exit 2) (up (up (up (up ρ 87 (ρ 17)) 88 (ρ 14)) 89 x89) 90 x90) w)
theorem dispatcherlaw13_QueueOrder_L6_eq (z : At) (K : Exit → Sl → World → Prop) (ρ : Sl) (w : World) : sx z Try.prog 138 dispatcherlaw13_QueueOrder_L6 K ρ w = dispatcherlaw13_QueueOrder_L6_F z K ρ w := by kernel_rfl
theorem dispatcherlaw13_QueueOrder_L6_ok : dstOk 138 dispatcherlaw13_QueueOrder_L6 = true := by kernel_rfl
noncomputable def dispatcherlaw13_QueueOrder_R7_F (z : At) (K : Exit → Sl → World → Prop) (ρ : Sl) (w : World) : Prop :=
  CK Try.prog (Value.func (Fn.func 22) #[] #[]) [(ρ 13), (Value.string { data := #[107] }), (ρ 11), (ρ 12), (ρ 4)] w fun x133 w => VK Try.prog (Instr.extract x133 0) w fun x134 w => VK Try.prog (Instr.extract x133 1) w fun x135 w => VK Try.prog (Instr.alloc 31 true (.tuple #[])) w fun x20 w => UK Try.prog (Instr.storeAt 31 x20 x134) w fun _ w => VK Try.prog (Op.unary UnOp.not x135) w fun x137 w => K .ret (up (up (up (up (up (up (up (up (up (up (up (up (up ρ 129 (ρ 13)) 130 (ρ 11)) 131 (ρ 12)) 132 (ρ 4)) 133 x133) 128 x133) 134 x134) 135 x135) 20 x20) 21 x135) 136 x135) 137 x137) 10 x137) w
theorem dispatcherlaw13_QueueOrder_R7_eq (z : At) (K : Exit → Sl → World → Prop) (ρ : Sl) (w : World) : sx z Try.prog 138 dispatcherlaw13_QueueOrder_R7 K ρ w = dispatcherlaw13_QueueOrder_R7_F z K ρ w := by kernel_rfl
noncomputable def dispatcherlaw13_QueueOrder_R8_ops : Array Oper := opsOf dispatcherlaw13_QueueOrder_R8
def dispatcherlaw13_QueueOrder_R8_H0 (S : World → Prop) (K : Sl → World → Prop) (ρ : Sl) (w : World) : Prop :=
  HK Try.prog S (do pure (Next.value (← Op.unary UnOp.not (ρ 19)))) fun x102_2 => HG Try.prog S x102_2 false  (do pure (Next.value (← Instr.fieldAt 31 (ρ 18) 3))) fun x104_2 => HG Try.prog S x102_2 false  (do pure (Next.value (← Instr.loadAt 3 x104_2))) fun x105_2 => HG Try.prog S x102_2 false  (pure (Next.value (ρ 14))) fun x106_2 => HG Try.prog S x102_2 false  (pure (Next.value (ρ 17))) fun x107_2 => HG Try.prog S x102_2 false  (do pure (Next.value (← Instr.indexAt 49 x106_2 x107_2))) fun x108_2 => HG Try.prog S x102_2 false  (do pure (Next.value (← Instr.loadAt 3 x108_2))) fun x109_2 => HG Try.prog S x102_2 false  (do pure (Next.value (← (do eqGuard BinOp.neq 3 (Operand.tmp 105) (Operand.tmp 109) x105_2 x109_2; binOp BinOp.neq 3 x105_2 x109_2)))) fun x110_2 => HK Try.prog S (do pure (Next.value (if ← asBool x102_2 then (Value.bool true) else x110_2))) fun x111_2 => K (up (up (up (up (up (up (up (up (up (up (up (up ρ 101 (ρ 19)) 102 x102_2) 103 x102_2) 104 x104_2) 105 x105_2) 106 x106_2) 107 x107_2) 108 x108_2) 109 x109_2) 110 x110_2) 111 x111_2) 112 x111_2) w
theorem dispatcherlaw13_QueueOrder_R8_q0 (S : World → Prop) (K : Sl → World → Prop) : sxh Try.prog S dispatcherlaw13_QueueOrder_R8_ops K [(0, true), (1, true), (2, true), (3, true), (4, true), (5, true), (6, true), (7, true), (8, true), (9, true), (10, true), (11, true)] = dispatcherlaw13_QueueOrder_R8_H0 S K := by kernel_rfl
def dispatcherlaw13_QueueOrder_R8_H1 (S : World → Prop) (K : Sl → World → Prop) (ρ : Sl) (w : World) : Prop :=
  HG Try.prog S (ρ 112) false  (pure (Next.value (ρ 13))) fun x113_2 => HG Try.prog S (ρ 112) false  (pure (Next.value (ρ 11))) fun x114_2 => HG Try.prog S (ρ 112) false  (do pure (Next.value (← Instr.fieldAt 31 (ρ 18) 3))) fun x115_2 => HG Try.prog S (ρ 112) false  (do pure (Next.value (← Instr.loadAt 3 x115_2))) fun x116_2 => CG Try.prog (ρ 112) false (Value.func (Fn.func 12) #[] #[]) [x113_2, x114_2, x116_2] w fun x117_2 w => S w ∧ (HG Try.prog S (ρ 112) false  (do pure (Next.value (← (do eqGuard BinOp.neq 34 (Operand.tmp 117) (Operand.const (Value.int IntKind.i64 0)) x117_2 (Value.int IntKind.i64 0); binOp BinOp.neq 34 x117_2 (Value.int IntKind.i64 0))))) fun x118_2 => HK Try.prog S (do pure (Next.value (if ← asBool (ρ 112) then (Value.bool true) else x118_2))) fun x119_2 => HG Try.prog S x119_2 false  (pure (Next.value (ρ 13))) fun x121_2 => HG Try.prog S x119_2 false  (pure (Next.value (ρ 11))) fun x122_2 => HG Try.prog S x119_2 false  (do pure (Next.value (← Instr.fieldAt 31 (ρ 18) 3))) fun x123_2 => HG Try.prog S x119_2 false  (do pure (Next.value (← Instr.loadAt 3 x123_2))) fun x124_2 => K (up (up (up (up (up (up (up (up (up (up (up (up ρ 113 x113_2) 114 x114_2) 115 x115_2) 116 x116_2) 117 x117_2) 118 x118_2) 119 x119_2) 120 x119_2) 121 x121_2) 122 x122_2) 123 x123_2) 124 x124_2) w)
theorem dispatcherlaw13_QueueOrder_R8_q1 (S : World → Prop) (K : Sl → World → Prop) : sxh Try.prog S dispatcherlaw13_QueueOrder_R8_ops K [(12, true), (13, true), (14, true), (15, true), (16, false), (17, true), (18, true), (19, true), (20, true), (21, true), (22, true), (23, true)] = dispatcherlaw13_QueueOrder_R8_H1 S K := by kernel_rfl
def dispatcherlaw13_QueueOrder_R8_H2 (S : World → Prop) (K : Sl → World → Prop) (ρ : Sl) (w : World) : Prop :=
  CG Try.prog (ρ 120) false (Value.func (Fn.func 12) #[] #[]) [(ρ 121), (ρ 122), (ρ 124)] w fun x125_2 w => S w ∧ (HG Try.prog S (ρ 120) false  (do pure (Next.value (← (do eqGuard BinOp.neq 34 (Operand.tmp 125) (Operand.const (Value.int IntKind.i64 2)) x125_2 (Value.int IntKind.i64 2); binOp BinOp.neq 34 x125_2 (Value.int IntKind.i64 2))))) fun x126_2 => HK Try.prog S (do pure (Next.value (if ← asBool (ρ 120) then (Value.bool true) else x126_2))) fun x127_2 => K (up (up (up ρ 125 x125_2) 126 x126_2) 127 x127_2) w)
theorem dispatcherlaw13_QueueOrder_R8_q2 (S : World → Prop) (K : Sl → World → Prop) : sxh Try.prog S dispatcherlaw13_QueueOrder_R8_ops K [(24, false), (25, true), (26, true)] = dispatcherlaw13_QueueOrder_R8_H2 S K := by kernel_rfl
def dispatcherlaw13_QueueOrder_R8_H (S : World → Prop) (K : Exit → Sl → World → Prop) (ρ : Sl) (w : World) : Prop :=
  dispatcherlaw13_QueueOrder_R8_H0 S (dispatcherlaw13_QueueOrder_R8_H1 S (dispatcherlaw13_QueueOrder_R8_H2 S (K .normal))) ρ w
theorem dispatcherlaw13_QueueOrder_R8_steps : planOk Try.prog 138 dispatcherlaw13_QueueOrder_R8_ops [(0, true), (1, true), (2, true), (3, true), (4, true), (5, true), (6, true), (7, true), (8, true), (9, true), (10, true), (11, true), (12, true), (13, true), (14, true), (15, true), (16, false), (17, true), (18, true), (19, true), (20, true), (21, true), (22, true), (23, true), (24, false), (25, true), (26, true)] (Array.replicate dispatcherlaw13_QueueOrder_R8_ops.size false) = true :=
  planOk_step #[true, false, false, false, false, false, false, false, false, false, false, false, false, false, false, false, false, false, false, false, false, false, false, false, false, false, false] (by kernel_rfl) (by kernel_rfl) (planOk_step #[true, true, false, false, false, false, false, false, false, false, false, false, false, false, false, false, false, false, false, false, false, false, false, false, false, false, false] (by kernel_rfl) (by kernel_rfl) (planOk_step #[true, true, true, false, false, false, false, false, false, false, false, false, false, false, false, false, false, false, false, false, false, false, false, false, false, false, false] (by kernel_rfl) (by kernel_rfl) (planOk_step #[true, true, true, true, false, false, false, false, false, false, false, false, false, false, false, false, false, false, false, false, false, false, false, false, false, false, false] (by kernel_rfl) (by kernel_rfl) (planOk_step #[true, true, true, true, true, false, false, false, false, false, false, false, false, false, false, false, false, false, false, false, false, false, false, false, false, false, false] (by kernel_rfl) (by kernel_rfl) (planOk_step #[true, true, true, true, true, true, false, false, false, false, false, false, false, false, false, false, false, false, false, false, false, false, false, false, false, false, false] (by kernel_rfl) (by kernel_rfl) (planOk_step #[true, true, true, true, true, true, true, false, false, false, false, false, false, false, false, false, false, false, false, false, false, false, false, false, false, false, false] (by kernel_rfl) (by kernel_rfl) (planOk_step #[true, true, true, true, true, true, true, true, false, false, false, false, false, false, false, false, false, false, false, false, false, false, false, false, false, false, false] (by kernel_rfl) (by kernel_rfl) (planOk_step #[true, true, true, true, true, true, true, true, true, false, false, false, false, false, false, false, false, false, false, false, false, false, false, false, false, false, false] (by kernel_rfl) (by kernel_rfl) (planOk_step #[true, true, true, true, true, true, true, true, true, true, false, false, false, false, false, false, false, false, false, false, false, false, false, false, false, false, false] (by kernel_rfl) (by kernel_rfl) (planOk_step #[true, true, true, true, true, true, true, true, true, true, true, false, false, false, false, false, false, false, false, false, false, false, false, false, false, false, false] (by kernel_rfl) (by kernel_rfl) (planOk_step #[true, true, true, true, true, true, true, true, true, true, true, true, false, false, false, false, false, false, false, false, false, false, false, false, false, false, false] (by kernel_rfl) (by kernel_rfl) (planOk_step #[true, true, true, true, true, true, true, true, true, true, true, true, true, false, false, false, false, false, false, false, false, false, false, false, false, false, false] (by kernel_rfl) (by kernel_rfl) (planOk_step #[true, true, true, true, true, true, true, true, true, true, true, true, true, true, false, false, false, false, false, false, false, false, false, false, false, false, false] (by kernel_rfl) (by kernel_rfl) (planOk_step #[true, true, true, true, true, true, true, true, true, true, true, true, true, true, true, false, false, false, false, false, false, false, false, false, false, false, false] (by kernel_rfl) (by kernel_rfl) (planOk_step #[true, true, true, true, true, true, true, true, true, true, true, true, true, true, true, true, false, false, false, false, false, false, false, false, false, false, false] (by kernel_rfl) (by kernel_rfl) (planOk_step #[true, true, true, true, true, true, true, true, true, true, true, true, true, true, true, true, true, false, false, false, false, false, false, false, false, false, false] (by kernel_rfl) (by kernel_rfl) (planOk_step #[true, true, true, true, true, true, true, true, true, true, true, true, true, true, true, true, true, true, false, false, false, false, false, false, false, false, false] (by kernel_rfl) (by kernel_rfl) (planOk_step #[true, true, true, true, true, true, true, true, true, true, true, true, true, true, true, true, true, true, true, false, false, false, false, false, false, false, false] (by kernel_rfl) (by kernel_rfl) (planOk_step #[true, true, true, true, true, true, true, true, true, true, true, true, true, true, true, true, true, true, true, true, false, false, false, false, false, false, false] (by kernel_rfl) (by kernel_rfl) (planOk_step #[true, true, true, true, true, true, true, true, true, true, true, true, true, true, true, true, true, true, true, true, true, false, false, false, false, false, false] (by kernel_rfl) (by kernel_rfl) (planOk_step #[true, true, true, true, true, true, true, true, true, true, true, true, true, true, true, true, true, true, true, true, true, true, false, false, false, false, false] (by kernel_rfl) (by kernel_rfl) (planOk_step #[true, true, true, true, true, true, true, true, true, true, true, true, true, true, true, true, true, true, true, true, true, true, true, false, false, false, false] (by kernel_rfl) (by kernel_rfl) (planOk_step #[true, true, true, true, true, true, true, true, true, true, true, true, true, true, true, true, true, true, true, true, true, true, true, true, false, false, false] (by kernel_rfl) (by kernel_rfl) (planOk_step #[true, true, true, true, true, true, true, true, true, true, true, true, true, true, true, true, true, true, true, true, true, true, true, true, true, false, false] (by kernel_rfl) (by kernel_rfl) (planOk_step #[true, true, true, true, true, true, true, true, true, true, true, true, true, true, true, true, true, true, true, true, true, true, true, true, true, true, false] (by kernel_rfl) (by kernel_rfl) (planOk_step #[true, true, true, true, true, true, true, true, true, true, true, true, true, true, true, true, true, true, true, true, true, true, true, true, true, true, true] (by kernel_rfl) (by kernel_rfl) (by kernel_rfl)))))))))))))))))))))))))))
theorem dispatcherlaw13_QueueOrder_R8_held {D : List Deferred} (S : World → Prop) {K : Exit → Sl → World → Prop} {ρ : Sl} {w : World} (hS : S { w with drawn := w.drawn + 1 }) (h : dispatcherlaw13_QueueOrder_R8_H S K ρ { w with drawn := w.drawn + 1 }) : W ⟨none, D⟩ Try.prog 138 dispatcherlaw13_QueueOrder_R8 K ρ w := by
  have e : dispatcherlaw13_QueueOrder_R8 = .region (idOf dispatcherlaw13_QueueOrder_R8) dispatcherlaw13_QueueOrder_R8_ops true := by kernel_rfl
  have q : sxh Try.prog S dispatcherlaw13_QueueOrder_R8_ops (K .normal) [(0, true), (1, true), (2, true), (3, true), (4, true), (5, true), (6, true), (7, true), (8, true), (9, true), (10, true), (11, true), (12, true), (13, true), (14, true), (15, true), (16, false), (17, true), (18, true), (19, true), (20, true), (21, true), (22, true), (23, true), (24, false), (25, true), (26, true)] ρ { w with drawn := w.drawn + 1 } = dispatcherlaw13_QueueOrder_R8_H S K ρ { w with drawn := w.drawn + 1 } := by
    show sxh Try.prog S dispatcherlaw13_QueueOrder_R8_ops (K .normal) ([(0, true), (1, true), (2, true), (3, true), (4, true), (5, true), (6, true), (7, true), (8, true), (9, true), (10, true), (11, true)] ++ ([(12, true), (13, true), (14, true), (15, true), (16, false), (17, true), (18, true), (19, true), (20, true), (21, true), (22, true), (23, true)] ++ [(24, false), (25, true), (26, true)])) ρ { w with drawn := w.drawn + 1 } = _
    rw [sxh_append, sxh_append, dispatcherlaw13_QueueOrder_R8_q2, dispatcherlaw13_QueueOrder_R8_q1, dispatcherlaw13_QueueOrder_R8_q0]; rfl
  rw [e]
  exact W_held S [(0, true), (1, true), (2, true), (3, true), (4, true), (5, true), (6, true), (7, true), (8, true), (9, true), (10, true), (11, true), (12, true), (13, true), (14, true), (15, true), (16, false), (17, true), (18, true), (19, true), (20, true), (21, true), (22, true), (23, true), (24, false), (25, true), (26, true)] (by kernel_rfl) (by kernel_rfl) dispatcherlaw13_QueueOrder_R8_steps (by kernel_rfl) hS (Eq.mpr q h)
noncomputable def dispatcherlaw13_QueueOrder_R9_F (z : At) (K : Exit → Sl → World → Prop) (ρ : Sl) (w : World) : Prop :=
  CondK (ρ 127) (K .ret (up ρ 10 (Value.bool false)) w) (K .normal ρ w)
theorem dispatcherlaw13_QueueOrder_R9_eq (z : At) (K : Exit → Sl → World → Prop) (ρ : Sl) (w : World) : sx z Try.prog 138 dispatcherlaw13_QueueOrder_R9 K ρ w = dispatcherlaw13_QueueOrder_R9_F z K ρ w := by kernel_rfl
noncomputable def dispatcherlaw13_QueueOrder_R10_F (z : At) (K : Exit → Sl → World → Prop) (ρ : Sl) (w : World) : Prop :=
  BK Try.prog .add 3 (.tmp 91) (.const (Value.int .i64 1)) (ρ 17) (Value.int .i64 1) w fun x92 w => K .normal (up (up (up ρ 91 (ρ 17)) 92 x92) 17 x92) w
theorem dispatcherlaw13_QueueOrder_R10_eq (z : At) (K : Exit → Sl → World → Prop) (ρ : Sl) (w : World) : sx z Try.prog 138 dispatcherlaw13_QueueOrder_R10 K ρ w = dispatcherlaw13_QueueOrder_R10_F z K ρ w := by kernel_rfl
noncomputable def dispatcherlaw13_QueueOrder_F (a0 a1 a2 a3 a4 : Value) (w : World) (R : Value → World → Prop) : Prop :=
  CK Try.prog (Value.func (Fn.func 29) #[] #[]) [] w fun x22 w => VK Try.prog (Op.unary UnOp.not x22) w fun x23 w => CondK x23 (R (Value.bool false) w) (IK Try.prog .len #[52] 3 [false] [a0] w fun x25 w => BK Try.prog .gtr 3 (.tmp 25) (.const (Value.int .i64 60)) x25 (Value.int .i64 60) w fun x26 w => MG Try.prog x26 false a4 w fun x28 w => BG Try.prog x26 false .lss 3 (.tmp 28) (.const (Value.int .i64 (-1))) x28 (Value.int .i64 (-1)) w fun x29 w => PK Try.prog x26 (Value.bool true) x29 w fun x30 w => MG Try.prog x30 false a4 w fun x32 w => BG Try.prog x30 false .gtr 3 (.tmp 32) (.const (Value.int .i64 3)) x32 (Value.int .i64 3) w fun x33 w => PK Try.prog x30 (Value.bool true) x33 w fun x34 w => CondK x34 (R (Value.bool true) w) (BK Try.prog .rem 5 (.tmp 35) (.const (Value.int .u8 64)) a1 (Value.int .u8 64) w fun x36 w => VK Try.prog (convert 5 3 x36) w fun x37 w => BK Try.prog .rem 5 (.tmp 38) (.const (Value.int .u8 64)) a2 (Value.int .u8 64) w fun x39 w => VK Try.prog (convert 5 3 x39) w fun x40 w => CK Try.prog (Value.func (Fn.func 9) #[] #[]) [] w fun x41 w => sx fn_ Try.prog 138 dispatcherlaw13_QueueOrder_R0 (retK Try.prog [ResultVar.tmp 10] R) (up (up (up (up (up (up (up (up (up (up (up (up (up (up (up (up (up (up (up (up (up (up (up (up (rho0 [a0, a1, a2, a3, a4]) 10 (Value.bool false)) 22 x22) 23 x23) 24 a0) 25 x25) 26 x26) 27 x26) 28 x28) 29 x29) 30 x30) 31 x30) 32 x32) 33 x33) 34 x34) 35 a1) 36 x36) 37 x37) 38 a2) 39 x39) 40 x40) 11 x37) 12 x40) 41 x41) 13 x41) w))
theorem dispatcherlaw13_QueueOrder_eq (a0 a1 a2 a3 a4 : Value) (w : World) (R : Value → World → Prop) : sx fn_ Try.prog 138 dispatcherlaw13_QueueOrder_b (retK Try.prog Try.f5.results.toList R) (rho0 [a0, a1, a2, a3, a4]) w = dispatcherlaw13_QueueOrder_F a0 a1 a2 a3 a4 w R := by kernel_rfl
theorem dispatcherlaw13_QueueOrder_calls {a0 a1 a2 a3 a4 : Value} {w : World} {R : Value → World → Prop} (h : dispatcherlaw13_QueueOrder_F a0 a1 a2 a3 a4 w R) : Calls Try.prog 5 #[a0, a1, a2, a3, a4] w fun e w' => ∃ v, e = .returned v ∧ R v w' :=
  Go.X.calls_of_sx (n := 138) (c := dispatcherlaw13_QueueOrder_b) Try.func5 (by kernel_rfl) (by kernel_rfl) (Nat.le_of_ble_eq_true rfl) (by kernel_rfl) (Eq.mpr (dispatcherlaw13_QueueOrder_eq a0 a1 a2 a3 a4 w R) h)
end Go.Proofs.Ytnaoiekpfaganaa.XO
set_option linter.unusedVariables false
set_option linter.unusedSimpArgs false
set_option maxRecDepth 8000
namespace Go.Proofs.Ytnaoiekpfaganaa.Que
open Go Go.X Go.RowKit Go.Proofs.Ytnaoiekpfaganaa.XO Go.Proofs.Ytnaoiekpfaganaa.XK
theorem HM {S : World → Prop} {v : Value} {K : Value → Prop} (hk : K v) : HK Try.prog S (pure (Next.value v)) K := ⟨v, fun _ _ => rfl, hk⟩
section
variable {w w0 : World} {p q : Nat} {V : QV} {D : Value} {ls : List Ms}
end
end Go.Proofs.Ytnaoiekpfaganaa.Que
set_option linter.unusedVariables false
set_option linter.unusedSimpArgs false
set_option maxRecDepth 8000
namespace Go.Proofs.Ytnaoiekpfaganaa.Que
open Go Go.X Go.RowKit Go.Proofs.Ytnaoiekpfaganaa.XO Go.Proofs.Ytnaoiekpfaganaa.XK
section
variable {w0 : World} {p q : Nat} {V : QV} {D : Value} {ls : List Ms}
end
end Go.Proofs.Ytnaoiekpfaganaa.Que
set_option linter.unusedVariables false
set_option linter.unusedSimpArgs false
set_option maxRecDepth 8000
namespace Go.Proofs.Ytnaoiekpfaganaa.Que
open Go Go.X Go.RowKit Go.Proofs.Ytnaoiekpfaganaa.XO Go.Proofs.Ytnaoiekpfaganaa.XK
abbrev tU8s : TypeId := 52
theorem vU8s : Try.prog.underlying tU8s = some (.slice 5) := by kernel_rfl
def u8s (l : List Int) : List Value := l.map (Value.int .u8)
def Tags (w : World) (v : Value) (l : List Int) : Prop := reads w 1 v l.length (u8s l)
theorem Tags.calm {w w' : World} {v : Value} {l : List Int} (h : Tags w v l) (hm : Mod none_ w w') : Tags w' v l := reads_mod h hm fun _ _ _ => id
theorem tag_k {w : World} {v : Value} {l : List Int} {i : Nat} {g : Int} {K : Value → Value → World → Prop} (h : Tags w v l) (hi : l[i]? = some g) (hk : ∀ x, K x (.int .u8 g) w) : VK Try.prog (Instr.indexAt tU8s v (.int .i64 (i : Int))) w fun x w => VK Try.prog (Instr.loadAt 5 x) w (K x) :=
  ixld vU8s (by kernel_rfl) vU8 rfl h (by omega) (u := .int .u8 g) (by unfold u8s; simp [hi]) hk
theorem mod4 {g : Int} (h : 0 ≤ g) : 0 ≤ g.tmod 4 ∧ g.tmod 4 ≤ 3 := by
  rw [Int.tmod_eq_emod_of_nonneg h]
  omega
structure OSt (w0 w : World) (p : Nat) (V : QV) (o : Value) (want : List Int) : Prop where
  own : w.ownsRow w0.heap.size tI 1 o want.length (ints want)
  apart : ∀ g, sb o g → ¬ V.F p g
  fresh : ∀ b, V.F p b → w0.heap.size ≤ b
  m : Mod none_ w0 w
theorem OSt.q {w0 w w' : World} {p : Nat} {V V' : QV} {o : Value} {want : List Int} (h : OSt w0 w p V o want) (f : QFr p w V w' V') : OSt w0 w' p V' o want := by
  obtain ⟨n, nf⟩ := QFr.none f h.m h.fresh
  refine ⟨owns_mod h.own f.mod fun g z y => h.apart g z y, fun g z y => ?_, nf, n⟩
  rcases f.f g y with y | y
  · exact h.apart g z y
  · have := (owns_bd h.own g z).2; omega
theorem OSt.calm {w0 w w' : World} {p : Nat} {V : QV} {o : Value} {want : List Int} (h : OSt w0 w p V o want) (hm : Mod none_ w w') : OSt w0 w' p V o want := h.q (QFr.calm hm)
theorem OSt.app {w0 w : World} {p : Nat} {V : QV} {o : Value} {want : List Int} {ls : List Ms} {m : Int} {K : Value → Value → World → Prop} (h : OSt w0 w p V o want) (hA : QAt w p ls V) (hl : want.length ≤ 2000000)
    (hk : ∀ x o' w', OSt w0 w' p V o' (want ++ [m]) → QAt w' p ls V → Mod (fun b => sb o b) w w' → K x o' w') :
    VK Try.prog (Instr.buildSlice tIs 1 [(0, .int .i64 m)].toArray) w fun x w => IK Try.prog .append #[tIs, tIs] tIs [false, false] [o, x] w (K x) := by
  have hs := h.m.size
  refine snoc eIs h.own (cs := #[.int .i64 m]) (by kernel_rfl) rfl (fun u hu => by rw [List.mem_singleton.1 hu]; rfl) (by unfold maxLen; omega) (by omega) hs fun x o' w' ho hm hv => ?_
  have hm' : Mod (fun b => sb o b) w w' := hm.mono fun b _ z => z.symm
  refine hk x o' w' ⟨?_, fun g z y => ?_, h.fresh, h.m.then hm' fun i hi z => by have := (owns_bd h.own i z).1; omega⟩ (hA.mod hm' fun b z y => h.apart b y z) hm'
  · rw [List.length_append]
    unfold ints at ho ⊢
    rw [List.map_append]
    exact ho
  · rcases hv with hv | ⟨g', hv, hg⟩
    · exact h.apart g (by unfold sb at z ⊢; rw [← hv]; exact z) y
    · unfold sb at z
      rw [hv] at z
      cases z
      have := hA.old _ y
      omega
section
variable {w0 : World} {p : Nat} {v : Value} {l : List Int} {ob : Bool} {f t tag : Int}
def OI (w0 : World) (v : Value) (l : List Int) (ob : Bool) (f t tag : Int) (i : Nat) (ρ : Sl) (w' : World) : Prop :=
  ∃ (ls : List Ms) (want : List Int) (p : Nat) (V : QV) (o : Value), ρ 15 = .int .i64 i ∧ ρ 0 = v ∧ ρ 3 = .bool ob ∧ ρ 4 = .int .i64 tag ∧ ρ 11 = .int .i64 f ∧ ρ 12 = .int .i64 t ∧ ρ 13 = .pointer (some ⟨p, 0, none⟩) ∧ ρ 14 = o ∧ QAt w' p ls V ∧ OInv ls f t tag i want ∧ OSt w0 w' p V o want
theorem order_R4 {w : World} {K : Exit → Sl → World → Prop} {ρ : Sl} {i b16 : Nat} {g : Int} {ls : List Ms} {want : List Int} {V : QV} {o : Value} (hi : i < 60) (h : QAt w p (ls ++ [om f t i g]) V) (hO : OInv ls f t tag i want) (hs : OSt w0 w p V o want)
    (hb : w.heap[b16]? = some (.cells (om f t i g).enc.toArray tMs (0, 0))) (hbo : ¬ sb o b16) 
    (e70 : ρ 70 = .bool (sel tag g)) (e15 : ρ 15 = .int .i64 i) (e0 : ρ 0 = v) (e3 : ρ 3 = .bool ob) (e4 : ρ 4 = .int .i64 tag) (e11 : ρ 11 = .int .i64 f) (e12 : ρ 12 = .int .i64 t) (e13 : ρ 13 = .pointer (some ⟨p, 0, none⟩)) (e14 : ρ 14 = o) (e16 : ρ 16 = .pointer (some ⟨b16, 0, none⟩))
    (hk : ∀ (ρ' : Sl) (w' : World), OI w0 v l ob f t tag (i + 1) ρ' w' → K .normal ρ' w') : sx fn_ Try.prog 138 dispatcherlaw13_QueueOrder_R4 (seqK (sx fn_ Try.prog 138 dispatcherlaw13_QueueOrder_R5 (blkK 1 (seqK (sx fn_ Try.prog 138 dispatcherlaw13_QueueOrder_R3 K) K))) (blkK 1 (seqK (sx fn_ Try.prog 138 dispatcherlaw13_QueueOrder_R3 K) K))) ρ w := by
  have wl := hO.wl
  have ll := hO.len
  have r5 : ∀ (ρ2 : Sl) (w2 : World) (o' : Value) (want' : List Int), want' = want ++ (if sel tag g = true then [2 * (i : Int)] else []) → QAt w2 p (ls ++ [om f t i g]) V → OSt w0 w2 p V o' want' → w2.heap[b16]? = some (.cells (om f t i g).enc.toArray tMs (0, 0)) → ρ2 15 = .int .i64 i → ρ2 0 = v → ρ2 3 = .bool ob → ρ2 4 = .int .i64 tag → ρ2 11 = .int .i64 f → ρ2 12 = .int .i64 t → ρ2 13 = .pointer (some ⟨p, 0, none⟩) → ρ2 14 = o' → ρ2 16 = .pointer (some ⟨b16, 0, none⟩) → sx fn_ Try.prog 138 dispatcherlaw13_QueueOrder_R5 (blkK 1 (seqK (sx fn_ Try.prog 138 dispatcherlaw13_QueueOrder_R3 K) K)) ρ2 w2 := by
    intro ρ2 w2 o' want' hw h2 hs2 hb2 c15 c0 c3 c4 c11 c12 c13 c14 c16
    rw [dispatcherlaw13_QueueOrder_R5_eq]; unfold dispatcherlaw13_QueueOrder_R5_F
    have r3 : ∀ (ρ3 : Sl) (w3 : World) (ls3 : List Ms) (V3 : QV), QAt w3 p ls3 V3 → OInv ls3 f t tag (i + 1) want' → OSt w0 w3 p V3 o' want' → ρ3 15 = .int .i64 i → ρ3 0 = v → ρ3 3 = .bool ob → ρ3 4 = .int .i64 tag → ρ3 11 = .int .i64 f → ρ3 12 = .int .i64 t → ρ3 13 = .pointer (some ⟨p, 0, none⟩) → ρ3 14 = o' → sx fn_ Try.prog 138 dispatcherlaw13_QueueOrder_R3 K ρ3 w3 := by
      intro ρ3 w3 ls3 V3 h3 hO3 hs3 d15 d0 d3 d4 d11 d12 d13 d14
      rw [dispatcherlaw13_QueueOrder_R3_eq]; unfold dispatcherlaw13_QueueOrder_R3_F
      rw [d15, BK_add, wrap_i (by omega) (by omega)]
      exact hk _ w3 ⟨ls3, want', p, V3, o', rfl, d0, d3, d4, d11, d12, d13, d14, h3, hO3, hs3⟩
    rw [c3, c15, c13, c11, c12, c16]
    refine caseC (fun q => ?_) (fun q => ?_)
    · rw [BK_mul, wrap_i (by omega) (by omega), BK_add, wrap_i (by omega) (by omega)]
      have g4 : FO Try.prog w2 tMs 4 4 ⟨b16, 0, none⟩ 3 (.int .i64 g) := FO.blk hb2 (by kernel_rfl) vI rfl rfl
      rw [g4.e, build_ok (cs := (ol f t i g).enc.toArray) (by kernel_rfl)]
      refine CK_st Try.func10 rfl rfl (Send_ok h2 (by rw [List.length_append, List.length_singleton]; omega) (ol f t i g)) ?_
      rintro _ w3 ⟨_, V3, h3, f3⟩
      rw [bk_n, sq_n]
      exact r3 _ w3 _ V3 h3 (ol_step hO hw) (hs2.q f3) (by first | exact c15 | rfl) (by first | exact c0 | rfl) (by first | exact c3 | rfl) (by first | exact c4 | rfl) (by first | exact c11 | rfl) (by first | exact c12 | rfl) (by first | exact c13 | rfl) (by first | exact c14 | rfl)
    · rw [bk_n, sq_n]
      exact r3 _ w2 _ V h2 (om_step hO hw) hs2 (by first | exact c15 | rfl) (by first | exact c0 | rfl) (by first | exact c3 | rfl) (by first | exact c4 | rfl) (by first | exact c11 | rfl) (by first | exact c12 | rfl) (by first | exact c13 | rfl) (by first | exact c14 | rfl)
  rw [dispatcherlaw13_QueueOrder_R4_eq]; unfold dispatcherlaw13_QueueOrder_R4_F
  rw [e70, e15, e14]
  refine caseC (fun q => ?_) (fun q => ?_)
  · rw [BK_mul, wrap_i (by omega) (by omega)]
    refine hs.app h (by omega) fun _ o' w2 hs2 h2 hm2 => ?_
    rw [sq_n]
    exact r5 _ w2 o' _ (by rw [if_pos q]) h2 hs2 (hm2.blk hb hbo) (by first | exact e15 | rfl) (by first | exact e0 | rfl) (by first | exact e3 | rfl) (by first | exact e4 | rfl) (by first | exact e11 | rfl) (by first | exact e12 | rfl) (by first | exact e13 | rfl) rfl (by first | exact e16 | rfl)
  · rw [sq_n]
    exact r5 _ w o want (by rw [if_neg (by rw [q]; decide), List.append_nil]) h hs hb e15 e0 e3 e4 e11 e12 e13 e14 e16
theorem order_L1 {w : World} {K : Exit → Sl → World → Prop} {ρ : Sl} (hv : Tags w0 v l) (hl : l.length ≤ 60) (hg : ∀ g ∈ l, 0 ≤ g) (hf : 0 ≤ f ∧ f ≤ 63) (ht : 0 ≤ t ∧ t ≤ 63) (h : OI w0 v l ob f t tag 0 ρ w)
    (hk : ∀ (ρ' : Sl) (w' : World), OI w0 v l ob f t tag l.length ρ' w' → K (.exit 0) ρ' w') : W fn_ Try.prog 138 (Code.loop dispatcherlaw13_QueueOrder_L1) K ρ w := by
  refine W_loop dispatcherlaw13_QueueOrder_L1_ok (fun ρ w' => ∃ i : Nat, i ≤ l.length ∧ OI w0 v l ob f t tag i ρ w') (fun ρ _ => l.length - (intOf (ρ 15)).toNat) ⟨0, Nat.zero_le _, h⟩ ?_
  rintro ρ w1 ⟨i, hi, ls, want, p, V, o, e15, e0, e3, e4, e11, e12, e13, e14, h1, hO, hs⟩
  rw [dispatcherlaw13_QueueOrder_L1_eq]; unfold dispatcherlaw13_QueueOrder_L1_F
  obtain ⟨A, c, es, _⟩ := reads_cap hv
  rw [e15, e0, e4, e11, e12, e13, es, len_sl vU8s, ← es, BK_lss]
  have ll := hO.len
  by_cases hlt : i < l.length
  · rw [decide_eq_true (by omega)]
    refine condT ?_
    have hx : l[i]? = some l[i] := List.getElem?_eq_getElem hlt
    have hg0 : 0 ≤ l[i] := hg _ (List.getElem_mem hlt)
    generalize l[i] = g0 at *
    have h4 := mod4 hg0
    rw [BK_mul, wrap_i (by omega) (by omega)]
    refine tag_k (hv.calm hs.m) hx fun _ => ?_
    rw [BK_rem (by decide), conv_k (k := .i64) (by kernel_rfl) (by kernel_rfl), wrap_i (n := g0.tmod 4) (by omega) (by omega)]
    generalize g0.tmod 4 = g at *
    rw [build_ok (cs := (om f t i g).enc.toArray) (by kernel_rfl)]
    refine slot_k fun w2 hb2 hm2 hz2 => ?_
    refine ldS rfl Try.underlying31 rfl (by rw [iMs]; rfl) hb2 ?_
    have h2 := h1.calm hm2
    have hs2 := hs.calm hm2
    refine CK_st Try.func10 rfl rfl (Send_ok h2 (by omega) (om f t i g)) ?_
    rintro _ w3 ⟨rfl, V3, h3, f3⟩
    rw [om_send hO hf ht h4] at h3 ⊢
    have hs3 := hs2.q f3
    have hb3 := f3.mod.blk hb2 fun z => by have := h1.old _ z; omega
    have hbo : ¬ sb o w1.heap.size := fun z => by have := (owns_bd hs.own _ z).2; omega
    try simp only [↓VG_u, ↓UG_u, ↓MG_u, ↓NG_u, ↓PG_u, ↓BG_u, ↓CG_u, ↓IG_u, ↓VGtt, ↓VGtf, ↓VGft, ↓VGff, ↓UGtt, ↓UGtf, ↓UGft, ↓UGff, ↓MGtt, ↓MGtf, ↓MGft, ↓MGff, ↓NGtt, ↓NGtf, ↓NGft, ↓NGff, ↓PGtt, ↓PGtf, ↓PGft, ↓PGff, ↓BGtt, ↓BGtf, ↓BGft, ↓BGff, ↓CGtt, ↓CGtf, ↓CGft, ↓CGff, ↓IGtt, ↓IGtf, ↓IGft, ↓IGff, ↓PKt, ↓PKf, ↓CDt, ↓CDf, ↓NOTt, ↓NOTf, ↓NK_ptr]
    rw [NEf rfl]
    refine condF ?_
    have fin : ∀ (ρ' : Sl) (w' : World), OI w0 v l ob f t tag (i + 1) ρ' w' → (∃ i : Nat, i ≤ l.length ∧ OI w0 v l ob f t tag i ρ' w') ∧ l.length - (intOf (ρ' 15)).toNat < l.length - (intOf (.int .i64 (i : Int))).toNat := by
      intro ρ' w' hI
      refine ⟨⟨i + 1, hlt, hI⟩, ?_⟩
      obtain ⟨_, _, _, _, _, q15, _⟩ := hI
      rw [q15]
      simp only [intOf]; omega
    by_cases ha : tag = -1
    · rw [EQt ha]
      try simp only [↓VG_u, ↓UG_u, ↓MG_u, ↓NG_u, ↓PG_u, ↓BG_u, ↓CG_u, ↓IG_u, ↓VGtt, ↓VGtf, ↓VGft, ↓VGff, ↓UGtt, ↓UGtf, ↓UGft, ↓UGff, ↓MGtt, ↓MGtf, ↓MGft, ↓MGff, ↓NGtt, ↓NGtf, ↓NGft, ↓NGff, ↓PGtt, ↓PGtf, ↓PGft, ↓PGff, ↓BGtt, ↓BGtf, ↓BGft, ↓BGff, ↓CGtt, ↓CGtf, ↓CGft, ↓CGff, ↓IGtt, ↓IGtf, ↓IGft, ↓IGff, ↓PKt, ↓PKf, ↓CDt, ↓CDf, ↓NOTt, ↓NOTf, ↓NK_ptr]
      exact order_R4 (by omega) h3 hO hs3 hb3 hbo (by unfold sel; rw [decide_eq_true ha]; rfl) (by first | exact e15 | rfl) (by first | exact e0 | rfl) (by first | exact e3 | rfl) (by first | exact e4 | rfl) (by first | exact e11 | rfl) (by first | exact e12 | rfl) (by first | exact e13 | rfl) (by first | exact e14 | rfl) rfl fin
    · rw [EQf ha]
      have g4 : FO Try.prog w3 tMs 4 4 ⟨w1.heap.size, 0, none⟩ 3 (.int .i64 g) := FO.blk hb3 (by kernel_rfl) vI rfl rfl
      try simp only [↓VG_u, ↓UG_u, ↓MG_u, ↓NG_u, ↓PG_u, ↓BG_u, ↓CG_u, ↓IG_u, ↓VGtt, ↓VGtf, ↓VGft, ↓VGff, ↓UGtt, ↓UGtf, ↓UGft, ↓UGff, ↓MGtt, ↓MGtf, ↓MGft, ↓MGff, ↓NGtt, ↓NGtf, ↓NGft, ↓NGff, ↓PGtt, ↓PGtf, ↓PGft, ↓PGff, ↓BGtt, ↓BGtf, ↓BGft, ↓BGff, ↓CGtt, ↓CGtf, ↓CGft, ↓CGff, ↓IGtt, ↓IGtf, ↓IGft, ↓IGff, ↓PKt, ↓PKf, ↓CDt, ↓CDf, ↓NOTt, ↓NOTf, ↓NK_ptr]
      rw [g4.e]
      try simp only [↓VG_u, ↓UG_u, ↓MG_u, ↓NG_u, ↓PG_u, ↓BG_u, ↓CG_u, ↓IG_u, ↓VGtt, ↓VGtf, ↓VGft, ↓VGff, ↓UGtt, ↓UGtf, ↓UGft, ↓UGff, ↓MGtt, ↓MGtf, ↓MGft, ↓MGff, ↓NGtt, ↓NGtf, ↓NGft, ↓NGff, ↓PGtt, ↓PGtf, ↓PGft, ↓PGff, ↓BGtt, ↓BGtf, ↓BGft, ↓BGff, ↓CGtt, ↓CGtf, ↓CGft, ↓CGff, ↓IGtt, ↓IGtf, ↓IGft, ↓IGff, ↓PKt, ↓PKf, ↓CDt, ↓CDf, ↓NOTt, ↓NOTf, ↓NK_ptr]
      rw [BK_eql]
      try simp only [↓VG_u, ↓UG_u, ↓MG_u, ↓NG_u, ↓PG_u, ↓BG_u, ↓CG_u, ↓IG_u, ↓VGtt, ↓VGtf, ↓VGft, ↓VGff, ↓UGtt, ↓UGtf, ↓UGft, ↓UGff, ↓MGtt, ↓MGtf, ↓MGft, ↓MGff, ↓NGtt, ↓NGtf, ↓NGft, ↓NGff, ↓PGtt, ↓PGtf, ↓PGft, ↓PGff, ↓BGtt, ↓BGtf, ↓BGft, ↓BGff, ↓CGtt, ↓CGtf, ↓CGft, ↓CGff, ↓IGtt, ↓IGtf, ↓IGft, ↓IGff, ↓PKt, ↓PKf, ↓CDt, ↓CDf, ↓NOTt, ↓NOTf, ↓NK_ptr]
      exact order_R4 (by omega) h3 hO hs3 hb3 hbo (by unfold sel; rw [decide_eq_false ha]; rfl) (by first | exact e15 | rfl) (by first | exact e0 | rfl) (by first | exact e3 | rfl) (by first | exact e4 | rfl) (by first | exact e11 | rfl) (by first | exact e12 | rfl) (by first | exact e13 | rfl) (by first | exact e14 | rfl) rfl fin
  · obtain rfl : i = l.length := by omega
    rw [decide_eq_false (by omega)]
    refine condF ?_
    exact hk _ w1 ⟨ls, want, p, V, o, by first | exact e15 | rfl, by first | exact e0 | rfl, by first | exact e3 | rfl, by first | exact e4 | rfl, by first | exact e11 | rfl, by first | exact e12 | rfl, by first | exact e13 | rfl, by first | exact e14 | rfl, h1, hO, hs⟩
end
end Go.Proofs.Ytnaoiekpfaganaa.Que
set_option linter.unusedVariables false
set_option linter.unusedSimpArgs false
set_option maxRecDepth 8000
namespace Go.Proofs.Ytnaoiekpfaganaa.Que
open Go Go.X Go.RowKit Go.Proofs.Ytnaoiekpfaganaa.XO Go.Proofs.Ytnaoiekpfaganaa.XK
theorem ne_guard {t : TypeId} {x y : Operand} {a b : Int} (w : World) : (eqGuard .neq t x y (.int .i64 a) (.int .i64 b)).run Try.prog w = .ok () w := rfl
theorem ne_run {t : TypeId} {a b : Int} (h : Try.prog.underlying t = some (.int .i64)) (w : World) : (binOp .neq t (.int .i64 a) (.int .i64 b)).run Try.prog w = .ok (.bool (a != b)) w := by
  simp [go_sem]
theorem up_lo {ρ : Sl} {d : Nat} {v : Value} {k n : Nat} (hk : k < n) (hd : n ≤ d) : up ρ d v k = ρ k := by rw [up_at, if_neg (by omega)]
section
variable {w0 w : World} {p b18 : Nat} {V : QV} {ls : List Ms} {o : Value} {want : List Int} {f t tag : Int} {m : Ms}
def SK (w0 : World) (b18 : Nat) (m : Ms) (o : Value) (want : List Int) (w' : World) : Prop := w'.heap[b18]? = some (.cells m.enc.toArray tMs (0, 0)) ∧ w'.ownsRow w0.heap.size tI 1 o want.length (ints want)
theorem sk_fld {x : World} (h : SK w0 b18 m o want x) : (Instr.fieldAt tMs (.pointer (some ⟨b18, 0, none⟩)) 3).run Try.prog x = .ok (.pointer (some ⟨b18, 3, none⟩)) x := by
  rw [run_fo (show fieldOff Try.prog tMs 3 = some 3 by kernel_rfl), add_pl]
theorem sk_ld {x : World} (h : SK w0 b18 m o want x) : (Instr.loadAt tI (.pointer (some ⟨b18, 3, none⟩))).run Try.prog x = .ok (.int .i64 m.call) x :=
  run_ld1 vI rfl (by rw [cell_blk h.1]; rfl)
theorem sk_ix {x : World} {i : Nat} {c : Int} (h : SK w0 b18 m o want x) (hi : want[i]? = some c) : ∃ a, (∀ w', (Instr.indexAt tIs o (.int .i64 (i : Int))).run Try.prog w' = .ok (.pointer (some a)) w') ∧ ∀ w', SK w0 b18 m o want w' → (Instr.loadAt tI (.pointer (some a))).run Try.prog w' = .ok (.int .i64 c) w' := by
  have hil := (List.getElem?_eq_some_iff.1 hi).1
  obtain ⟨g, cap, ev, _⟩ := owns_some h.2 (by omega)
  subst ev
  refine ⟨⟨g, i, none⟩, fun w' => ?_, fun w' hw => ?_⟩
  · rw [run_ixa (sz := 0) vIs (by kernel_rfl) (by omega) (by omega) w', add_pl]
    congr 4
    omega
  · have hr' := reads_of_owns hw.2
    obtain ⟨_, A, c, es, _, hc⟩ := hr'
    cases es
    obtain ⟨a, ha, hcell⟩ := hc i _ (ints_get hi)
    cases ha
    refine run_ld1 vI rfl ?_
    rw [add_pl, Nat.zero_add] at hcell
    exact hcell
theorem order_R8 {K : Exit → Sl → World → Prop} {ρ : Sl} {i : Nat} {c : Int} (h : QAt w p ls V) (hL : ls.length ≤ 120) (hs : OSt w0 w p V o want) (hb : w.heap[b18]? = some (.cells m.enc.toArray tMs (0, 0))) (hbV : ¬ V.F p b18) (hi : want[i]? = some c) (hc : m.call = c)
    (ht1 : takeV ls f c = (ls.map (tk f c), 0)) (ht2 : takeV (ls.map (tk f c)) f c = (ls.map (tk f c), 2))
    (e19 : ρ 19 = .bool true) (e18 : ρ 18 = .pointer (some ⟨b18, 0, none⟩)) (e14 : ρ 14 = o) (e17 : ρ 17 = .int .i64 i) (e13 : ρ 13 = .pointer (some ⟨p, 0, none⟩)) (e11 : ρ 11 = .int .i64 f)
    (hk : ∀ (ρ' : Sl) (w' : World), ρ' 127 = .bool false → (∀ k, k < 101 → ρ' k = ρ k) → QAt w' p (ls.map (tk f c)) V → OSt w0 w' p V o want → K .normal ρ' w') : W fn_ Try.prog 138 dispatcherlaw13_QueueOrder_R8 K ρ w := by
  have hd : Mod none_ w { w with drawn := w.drawn + 1 } := (Mod.refl _ w).drawn _
  refine dispatcherlaw13_QueueOrder_R8_held (D := []) (SK w0 b18 m o want) ⟨hd.blk hb id, (hs.calm hd).own⟩ ?_
  have hS0 : SK w0 b18 m o want { w with drawn := w.drawn + 1 } := ⟨hd.blk hb id, (hs.calm hd).own⟩
  have h0 := h.calm hd
  have hs0 := hs.calm hd
  generalize ({ w with drawn := w.drawn + 1 } : World) = wd at *
  obtain ⟨a, ha, hla⟩ := sk_ix hS0 hi
  unfold dispatcherlaw13_QueueOrder_R8_H dispatcherlaw13_QueueOrder_R8_H0
  rw [e19, e18, e14, e17]
  refine HV_of (v := .bool false) (fun w _ => rfl) ?_
  rw [HG_b, if_pos rfl]
  refine HV_of (fun w h => sk_fld h) ?_
  rw [HG_b, if_pos rfl]
  refine HV_of (fun w h => sk_ld h) ?_
  rw [HG_b, if_pos rfl]
  refine HM ?_
  rw [HG_b, if_pos rfl]
  refine HM ?_
  rw [HG_b, if_pos rfl]
  refine HV_of (fun w _ => ha w) ?_
  rw [HG_b, if_pos rfl]
  refine HV_of (fun w h => hla w h) ?_
  rw [HG_b, if_pos rfl]
  refine HB_of (fun w => ne_guard w) (fun w => ne_run vI w) ?_
  rw [hc, show (c != c) = false by simp]
  refine HP_of ?_
  rw [if_neg (by decide)]
  have key1 : ∀ ρ1 : Sl, ρ1 112 = .bool false → (∀ k, k < 101 → ρ1 k = ρ k) → dispatcherlaw13_QueueOrder_R8_H1 (SK w0 b18 m o want) (dispatcherlaw13_QueueOrder_R8_H2 (SK w0 b18 m o want) (K .normal)) ρ1 wd := by
    intro ρ1 c112 hlow
    unfold dispatcherlaw13_QueueOrder_R8_H1
    rw [c112, hlow 13 (by decide), hlow 11 (by decide), hlow 18 (by decide), e13, e11, e18]
    rw [HG_b, if_pos rfl]
    refine HM ?_
    rw [HG_b, if_pos rfl]
    refine HM ?_
    rw [HG_b, if_pos rfl]
    refine HV_of (fun w h => sk_fld h) ?_
    rw [HG_b, if_pos rfl]
    refine HV_of (fun w h => sk_ld h) ?_
    rw [CG_b, if_pos rfl, hc]
    refine CK_st Try.func12 rfl rfl (Take_ok h0 (by omega) f c) ?_
    rintro _ w1 ⟨rfl, h1, f1⟩
    rw [ht1] at h1 ⊢
    have hs1 := hs0.q f1
    have hb1 := f1.mod.blk hS0.1 hbV
    refine ⟨⟨hb1, hs1.own⟩, ?_⟩
    rw [HG_b, if_pos rfl]
    refine HB_of (fun w => ne_guard w) (fun w => ne_run (by kernel_rfl) w) ?_
    rw [show ((0 : Int) != 0) = false by simp]
    refine HP_of ?_
    rw [if_neg (by decide), HG_b, if_pos rfl]
    refine HM ?_
    rw [HG_b, if_pos rfl]
    refine HM ?_
    rw [HG_b, if_pos rfl]
    refine HV_of (fun w h => sk_fld h) ?_
    rw [HG_b, if_pos rfl]
    refine HV_of (fun w h => sk_ld h) ?_
    have key2 : ∀ ρ2 : Sl, ρ2 120 = .bool false → ρ2 121 = .pointer (some ⟨p, 0, none⟩) → ρ2 122 = .int .i64 f → ρ2 124 = .int .i64 c → (∀ k, k < 101 → ρ2 k = ρ k) → dispatcherlaw13_QueueOrder_R8_H2 (SK w0 b18 m o want) (K .normal) ρ2 w1 := by
      intro ρ2 d120 d121 d122 d124 hlow2
      unfold dispatcherlaw13_QueueOrder_R8_H2
      rw [d120, d121, d122, d124, CG_b, if_pos rfl]
      refine CK_st Try.func12 rfl rfl (Take_ok h1 (by rw [List.length_map]; omega) f c) ?_
      rintro _ w2 ⟨rfl, h2, f2⟩
      rw [ht2] at h2 ⊢
      have hs2 := hs1.q f2
      refine ⟨⟨f2.mod.blk hb1 hbV, hs2.own⟩, ?_⟩
      rw [HG_b, if_pos rfl]
      refine HB_of (fun w => ne_guard w) (fun w => ne_run (by kernel_rfl) w) ?_
      rw [show ((2 : Int) != 2) = false by simp]
      refine HP_of ?_
      rw [if_neg (by decide)]
      refine hk _ w2 rfl (fun k hk => ?_) h2 hs2
      repeat rw [up_lo hk (by decide)]
      exact hlow2 k hk
    refine key2 _ rfl rfl rfl (congrArg (Value.int .i64) hc) (fun k hk => ?_)
    repeat rw [up_lo hk (by decide)]
    exact hlow k hk
  refine key1 _ rfl (fun k hk => ?_)
  repeat rw [up_lo hk (by decide)]
end
end Go.Proofs.Ytnaoiekpfaganaa.Que
set_option linter.unusedVariables false
set_option linter.unusedSimpArgs false
set_option maxRecDepth 8000
namespace Go.Proofs.Ytnaoiekpfaganaa.Que
open Go Go.X Go.RowKit Go.Proofs.Ytnaoiekpfaganaa.XO Go.Proofs.Ytnaoiekpfaganaa.XK
section
variable {w0 : World} {p : Nat} {o : Value} {want : List Int} {f t tag : Int}
def OJ (w0 : World) (p : Nat) (o : Value) (want : List Int) (f t tag : Int) (i : Nat) (ρ : Sl) (w' : World) : Prop :=
  ∃ (ls : List Ms) (V : QV), ρ 17 = .int .i64 i ∧ ρ 4 = .int .i64 tag ∧ ρ 11 = .int .i64 f ∧ ρ 12 = .int .i64 t ∧ ρ 13 = .pointer (some ⟨p, 0, none⟩) ∧ ρ 14 = o ∧ QAt w' p ls V ∧ fitC ls f t tag = want.drop i ∧ ls.length ≤ 120 ∧ OSt w0 w' p V o want
theorem order_L6 {w : World} {K : Exit → Sl → World → Prop} {ρ : Sl} (hl : want.length ≤ 120) (h : OJ w0 p o want f t tag 0 ρ w)
    (hk : ∀ (ρ' : Sl) (w' : World), OJ w0 p o want f t tag want.length ρ' w' → K (.exit 2) ρ' w') : W fn_ Try.prog 138 (Code.loop dispatcherlaw13_QueueOrder_L6) K ρ w := by
  refine W_loop dispatcherlaw13_QueueOrder_L6_ok (fun ρ w' => ∃ i : Nat, i ≤ want.length ∧ OJ w0 p o want f t tag i ρ w') (fun ρ _ => want.length - (intOf (ρ 17)).toNat) ⟨0, Nat.zero_le _, h⟩ ?_
  rintro ρ w1 ⟨i, hi, ls, V, e17, e4, e11, e12, e13, e14, h1, hfit, hL, hs⟩
  rw [dispatcherlaw13_QueueOrder_L6_eq]; unfold dispatcherlaw13_QueueOrder_L6_F
  obtain ⟨A, c0, es, _⟩ := reads_cap (reads_of_owns hs.own)
  rw [e17, e4, e11, e12, e13, e14, es, len_sl vIs, ← es, BK_lss]
  by_cases hlt : i < want.length
  · rw [decide_eq_true (by omega)]
    refine condT ?_
    have hx : want[i]? = some want[i] := List.getElem?_eq_getElem hlt
    rw [List.drop_eq_getElem_cons hlt] at hfit
    generalize want[i] = c at *
    obtain ⟨m, hm1, hmc, hmt, hmf, hnext⟩ := ord_find h1.inv.uniq hfit
    obtain ⟨ht1, ht2⟩ := ord_take h1.inv.uniq hfit
    refine CK_st Try.func22 rfl rfl (First_ok h1 (by omega) [107] f t tag) ?_
    rintro _ w2 ⟨rfl, hm2⟩
    rw [hm1, msb_get, extract_ok (v := .agg m.enc.toArray) rfl, extract_ok (v := .bool true) rfl]
    refine slot_k fun w3 hb3 hm3 hz3 => ?_
    have h3 := (h1.calm hm2).calm hm3
    have hs3 := (hs.calm hm2).calm hm3
    refine order_R8 (m := m) (i := i) (c := c) (ls := ls) (o := o) (want := want) (f := f) h3 hL hs3 hb3 (fun z => by have := (h1.calm hm2).old _ z; omega) hx hmc ht1 ht2 rfl rfl (by first | exact e14 | rfl) (by first | exact e17 | rfl) (by first | exact e13 | rfl) (by first | exact e11 | rfl) ?_
    intro ρ2 w4 c127 hlow h4 hs4
    rw [sq_n, dispatcherlaw13_QueueOrder_R9_eq]; unfold dispatcherlaw13_QueueOrder_R9_F
    rw [c127]
    refine condF ?_
    rw [bk_n, sq_n, dispatcherlaw13_QueueOrder_R10_eq]; unfold dispatcherlaw13_QueueOrder_R10_F
    have q17 : ρ2 17 = .int .i64 (i : Int) := (hlow 17 (by decide)).trans (by first | exact e17 | rfl)
    have q4 : ρ2 4 = .int .i64 tag := (hlow 4 (by decide)).trans (by first | exact e4 | rfl)
    have q11 : ρ2 11 = .int .i64 f := (hlow 11 (by decide)).trans (by first | exact e11 | rfl)
    have q12 : ρ2 12 = .int .i64 t := (hlow 12 (by decide)).trans (by first | exact e12 | rfl)
    have q13 : ρ2 13 = .pointer (some ⟨p, 0, none⟩) := (hlow 13 (by decide)).trans (by first | exact e13 | rfl)
    have q14 : ρ2 14 = o := (hlow 14 (by decide)).trans (by first | exact e14 | rfl)
    rw [q17, BK_add, wrap_i (by omega) (by omega)]
    refine ⟨⟨i + 1, hlt, ls.map (tk f c), V, rfl, q4, q11, q12, q13, q14, h4, hnext, by rw [List.length_map]; exact hL, hs4⟩, ?_⟩
    simp only [sq_n, sq_x, sq_r, bk_n, bk_r, bk_x, rt_r, rt_n, rs_0, rs_t, pk_1, pk_2, up_at, reduceIte, Nat.reduceEqDiff, intOf]; omega
  · obtain rfl : i = want.length := by omega
    rw [decide_eq_false (by omega)]
    refine condF ?_
    exact hk _ w1 ⟨ls, V, by first | exact e17 | rfl, by first | exact e4 | rfl, by first | exact e11 | rfl, by first | exact e12 | rfl, by first | exact e13 | rfl, by first | exact e14 | rfl, h1, hfit, hL, hs⟩
end
theorem mod64 {g : Int} (h : 0 ≤ g) : 0 ≤ g.tmod 64 ∧ g.tmod 64 ≤ 63 := by
  rw [Int.tmod_eq_emod_of_nonneg h]
  omega
theorem QueueOrder_ok {w : World} {v : Value} {l : List Int} (h : Tags w v l) (hg : ∀ g ∈ l, 0 ≤ g) {a b : Int} (ha : 0 ≤ a) (hb : 0 ≤ b) (ob : Bool) (tag : Int) : Rt Try.prog 5 #[v, .int .u8 a, .int .u8 b, .bool ob, .int .i64 tag] w fun u w' => u = .bool true ∧ Mod none_ w w' := by
  refine dispatcherlaw13_QueueOrder_calls ?_
  unfold dispatcherlaw13_QueueOrder_F
  refine CK_st Try.func29 rfl rfl (awake_ok w) ?_
  rintro _ w1 ⟨rfl, hm1⟩
  rw [not_ok]
  refine condF ?_
  obtain ⟨A, c0, es, _⟩ := reads_cap h
  rw [es, len_sl vU8s, ← es, BK_gtr]
  cases hz : decide ((60 : Int) < (l.length : Nat)) with
  | true =>
    try simp only [↓VG_u, ↓UG_u, ↓MG_u, ↓NG_u, ↓PG_u, ↓BG_u, ↓CG_u, ↓IG_u, ↓VGtt, ↓VGtf, ↓VGft, ↓VGff, ↓UGtt, ↓UGtf, ↓UGft, ↓UGff, ↓MGtt, ↓MGtf, ↓MGft, ↓MGff, ↓NGtt, ↓NGtf, ↓NGft, ↓NGff, ↓PGtt, ↓PGtf, ↓PGft, ↓PGff, ↓BGtt, ↓BGtf, ↓BGft, ↓BGff, ↓CGtt, ↓CGtf, ↓CGft, ↓CGff, ↓IGtt, ↓IGtf, ↓IGft, ↓IGff, ↓PKt, ↓PKf, ↓CDt, ↓CDf, ↓NOTt, ↓NOTf, ↓NK_ptr]
    exact ⟨by trivial, hm1⟩
  | false =>
    have hl : l.length ≤ 60 := by have := of_decide_eq_false hz; omega
    try simp only [↓VG_u, ↓UG_u, ↓MG_u, ↓NG_u, ↓PG_u, ↓BG_u, ↓CG_u, ↓IG_u, ↓VGtt, ↓VGtf, ↓VGft, ↓VGff, ↓UGtt, ↓UGtf, ↓UGft, ↓UGff, ↓MGtt, ↓MGtf, ↓MGft, ↓MGff, ↓NGtt, ↓NGtf, ↓NGft, ↓NGff, ↓PGtt, ↓PGtf, ↓PGft, ↓PGff, ↓BGtt, ↓BGtf, ↓BGft, ↓BGff, ↓CGtt, ↓CGtf, ↓CGft, ↓CGff, ↓IGtt, ↓IGtf, ↓IGft, ↓IGff, ↓PKt, ↓PKf, ↓CDt, ↓CDf, ↓NOTt, ↓NOTf, ↓NK_ptr]
    rw [BK_lss]
    cases hz1 : decide (tag < -1) with
    | true =>
      try simp only [↓VG_u, ↓UG_u, ↓MG_u, ↓NG_u, ↓PG_u, ↓BG_u, ↓CG_u, ↓IG_u, ↓VGtt, ↓VGtf, ↓VGft, ↓VGff, ↓UGtt, ↓UGtf, ↓UGft, ↓UGff, ↓MGtt, ↓MGtf, ↓MGft, ↓MGff, ↓NGtt, ↓NGtf, ↓NGft, ↓NGff, ↓PGtt, ↓PGtf, ↓PGft, ↓PGff, ↓BGtt, ↓BGtf, ↓BGft, ↓BGff, ↓CGtt, ↓CGtf, ↓CGft, ↓CGff, ↓IGtt, ↓IGtf, ↓IGft, ↓IGff, ↓PKt, ↓PKf, ↓CDt, ↓CDf, ↓NOTt, ↓NOTf, ↓NK_ptr]
      exact ⟨by trivial, hm1⟩
    | false =>
      try simp only [↓VG_u, ↓UG_u, ↓MG_u, ↓NG_u, ↓PG_u, ↓BG_u, ↓CG_u, ↓IG_u, ↓VGtt, ↓VGtf, ↓VGft, ↓VGff, ↓UGtt, ↓UGtf, ↓UGft, ↓UGff, ↓MGtt, ↓MGtf, ↓MGft, ↓MGff, ↓NGtt, ↓NGtf, ↓NGft, ↓NGff, ↓PGtt, ↓PGtf, ↓PGft, ↓PGff, ↓BGtt, ↓BGtf, ↓BGft, ↓BGff, ↓CGtt, ↓CGtf, ↓CGft, ↓CGff, ↓IGtt, ↓IGtf, ↓IGft, ↓IGff, ↓PKt, ↓PKf, ↓CDt, ↓CDf, ↓NOTt, ↓NOTf, ↓NK_ptr]
      rw [BK_gtr]
      cases hz2 : decide (3 < tag) with
      | true =>
        try simp only [↓VG_u, ↓UG_u, ↓MG_u, ↓NG_u, ↓PG_u, ↓BG_u, ↓CG_u, ↓IG_u, ↓VGtt, ↓VGtf, ↓VGft, ↓VGff, ↓UGtt, ↓UGtf, ↓UGft, ↓UGff, ↓MGtt, ↓MGtf, ↓MGft, ↓MGff, ↓NGtt, ↓NGtf, ↓NGft, ↓NGff, ↓PGtt, ↓PGtf, ↓PGft, ↓PGff, ↓BGtt, ↓BGtf, ↓BGft, ↓BGff, ↓CGtt, ↓CGtf, ↓CGft, ↓CGff, ↓IGtt, ↓IGtf, ↓IGft, ↓IGff, ↓PKt, ↓PKf, ↓CDt, ↓CDf, ↓NOTt, ↓NOTf, ↓NK_ptr]
        exact ⟨by trivial, hm1⟩
      | false =>
        try simp only [↓VG_u, ↓UG_u, ↓MG_u, ↓NG_u, ↓PG_u, ↓BG_u, ↓CG_u, ↓IG_u, ↓VGtt, ↓VGtf, ↓VGft, ↓VGff, ↓UGtt, ↓UGtf, ↓UGft, ↓UGff, ↓MGtt, ↓MGtf, ↓MGft, ↓MGff, ↓NGtt, ↓NGtf, ↓NGft, ↓NGff, ↓PGtt, ↓PGtf, ↓PGft, ↓PGff, ↓BGtt, ↓BGtf, ↓BGft, ↓BGff, ↓CGtt, ↓CGtf, ↓CGft, ↓CGff, ↓IGtt, ↓IGtf, ↓IGft, ↓IGff, ↓PKt, ↓PKf, ↓CDt, ↓CDf, ↓NOTt, ↓NOTf, ↓NK_ptr]
        have hf := mod64 ha
        have ht := mod64 hb
        rw [BK_rem (by decide), conv_k (k := .i64) (by kernel_rfl) (by kernel_rfl), wrap_i (n := a.tmod 64) (by omega) (by omega), BK_rem (by decide), conv_k (k := .i64) (by kernel_rfl) (by kernel_rfl), wrap_i (n := b.tmod 64) (by omega) (by omega)]
        generalize a.tmod 64 = f at *
        generalize b.tmod 64 = t at *
        refine CK_st Try.func9 rfl rfl (New_ok w1) ?_
        rintro _ w2 ⟨p, V, rfl, hA, hF, hm2⟩
        rw [dispatcherlaw13_QueueOrder_R0_eq]; unfold dispatcherlaw13_QueueOrder_R0_F
        refine order_L1 (w0 := w1) (v := v) (l := l) (ob := ob) (f := f) (t := t) (tag := tag) (Tags.calm h hm1) hl hg hf ht ⟨[], [], p, V, .slice none 0 0, rfl, rfl, rfl, rfl, rfl, rfl, rfl, rfl, hA, ⟨rfl, fun m hm => (by cases hm), Nat.le_refl _⟩, ⟨World.ownsRow_nil _ _ _ _, fun g z => (by cases z), hF, hm2⟩⟩ ?_
        rintro ρ3 w3 ⟨ls, want, p3, V3, o, e15, e0, e3, e4, e11, e12, e13, e14, h3, hO, hs⟩
        have wl := hO.wl
        have ll := hO.len
        rw [bk_x, sq_n, dispatcherlaw13_QueueOrder_R2_eq]; unfold dispatcherlaw13_QueueOrder_R2_F
        refine order_L6 (w0 := w1) (p := p3) (o := o) (want := want) (f := f) (t := t) (tag := tag) (by omega) ⟨ls, V3, rfl, by first | exact e4 | rfl, by first | exact e11 | rfl, by first | exact e12 | rfl, by first | exact e13 | rfl, by first | exact e14 | rfl, h3, hO.fit, by omega, hs⟩ ?_
        rintro ρ4 w4 ⟨ls4, V4, g17, g4, g11, g12, g13, g14, h4, hfit, hL4, hs4⟩
        rw [bk_x, sq_n, dispatcherlaw13_QueueOrder_R7_eq]; unfold dispatcherlaw13_QueueOrder_R7_F
        rw [g13, g11, g12, g4]
        rw [List.drop_length] at hfit
        refine CK_st Try.func22 rfl rfl (First_ok h4 (by omega) [107] f t tag) ?_
        rintro _ w5 ⟨rfl, hm5⟩
        rw [ord_none hfit, msb_get, extract_ok (v := .agg zMs.enc.toArray) rfl, extract_ok (v := .bool false) rfl]
        refine slot_k fun w6 hb6 hm6 hz6 => ?_
        rw [not_ok]
        exact ⟨rfl, hm1.trans (hs4.m.trans (hm5.trans hm6))⟩
end Go.Proofs.Ytnaoiekpfaganaa.Que
set_option linter.unusedVariables false
set_option maxRecDepth 4000
namespace Go.Proofs.Ytnaoiekpfaganaa.Que
open Go Go.X Go.RowKit
end Go.Proofs.Ytnaoiekpfaganaa.Que
