/- Several texts of this repo, one behind the other, without what is not used here. -/
import Derived.Test.YtandbmnhghmcgaaDoorRows
import Derived.Lib.LaidTab
import Derived.Test.YtandbmnhghmcgaaDoorCP3
set_option linter.unusedVariables false
set_option linter.unusedSimpArgs false
set_option maxRecDepth 8000
namespace Go.X
open Go Go.RowKit
theorem owns_pre {P : Program} {w : World} {t e : TypeId} {sz base : Nat} (hu : P.underlying t = some (.slice e)) (hc : P.cellsOf e = sz + 1) {v : Value} {n k : Nat} {xs : List Value} (h : w.ownsRow base e (sz + 1) v n xs) (hk : k ≤ n) :
    ∃ v', (∀ w', (Instr.sliceAt t v none (some (.int .i64 (k : Int))) none).run P w' = .ok v' w') ∧ w.ownsRow base e (sz + 1) v' k (xs.take (k * (sz + 1))) ∧ v'.ownBlock = v.ownBlock := by
  obtain ⟨z, hz, hzs⟩ := info_of hc
  have he : P.elem t = e := by simp [Program.elem, hu]
  have run : ∀ (A : Option Addr) (n c : Nat) (w' : World), k ≤ c → (Instr.sliceAt t (.slice A n c) none (some (.int .i64 (k : Int))) none).run P w' = .ok (sliced A 0 k c (sz + 1)) w' := fun A n c w' hkc => by
    rw [run_sliceAt_slice (h := elem_of hu), run_slice_h w' t A n c (elem_of hu) .i64 _ (by omega) (by omega), he]
    simp [sizeOf, typeInfo, hz, hzs]
  obtain ⟨hl, ⟨rfl, rfl⟩ | ⟨g, cap, cur, rfl, hb, hg, hn, hm, hs, ht⟩⟩ := h
  · obtain rfl : k = 0 := by omega
    refine ⟨.slice none 0 0, fun w' => by rw [run _ _ _ _ (Nat.le_refl _)]; simp [sliced], ?_, rfl⟩
    simpa using World.ownsRow_nil _ _ _ _
  · refine ⟨.slice (some ⟨g, 0, none⟩) k cap, fun w' => ?_, ⟨?_, .inr ⟨g, cap, cur, rfl, hb, hg, by omega, hm, hs, ?_⟩⟩, rfl⟩
    · rw [run _ _ _ _ (by omega)]
      simp only [sliced, Nat.sub_zero, Nat.zero_mul, add_pl]
      by_cases hc0 : cap = 0
      · simp [hc0]
      · simp [hc0]; try rfl
    · rw [List.length_take, hl]
      exact Nat.min_eq_left (Nat.mul_le_mul_right _ hk)
    · rw [← ht, List.take_take, Nat.min_eq_left (Nat.mul_le_mul_right _ hk)]
structure KsS (L : List Br) (S : List Ky) : Prop where
  srt : S.Pairwise ltB
  mem : ∀ k, k ∈ S ↔ ∃ b ∈ L, b.key = k
theorem KsS.nil : KsS [] [] := ⟨List.Pairwise.nil, fun k => by simp⟩
theorem KsS.eq {L : List Br} {S : List Ky} (h : KsS L S) : S = keysC L := by
  refine sorted_extB h.srt (merge_ltB (keysOf_nodup L)) fun x => ?_
  unfold keysC
  rw [h.mem, List.mem_mergeSort, keysOf_mem]
theorem KsS.skip {L : List Br} {S : List Ky} {b : Br} (h : KsS L S) (hm : b.key ∈ S) : KsS (L ++ [b]) S := by
  refine ⟨h.srt, fun k => ?_⟩
  rw [h.mem]
  constructor
  · rintro ⟨x, hx, e⟩; exact ⟨x, List.mem_append_left _ hx, e⟩
  · rintro ⟨x, hx, e⟩
    rcases List.mem_append.1 hx with z | z
    · exact ⟨x, z, e⟩
    · rw [List.mem_singleton.1 z] at e
      rw [← e]
      exact (h.mem _).1 hm
theorem KsS.put {L : List Br} {S : List Ky} {b : Br} (h : KsS L S) {a : Nat} (ha : a ≤ S.length) (hlo : ∀ x ∈ S.take a, ltB x b.key) (hhi : ∀ x, S[a]? = some x → ltB b.key x) : KsS (L ++ [b]) (S.take a ++ [b.key] ++ S.drop a) := by
  have hsp : S.take a ++ S.drop a = S := List.take_append_drop a S
  have hs := h.srt
  rw [← hsp, List.pairwise_append] at hs
  have hdrop : ∀ x ∈ S.drop a, ltB b.key x := by
    intro x hx
    cases hd : S.drop a with
    | nil => rw [hd] at hx; cases hx
    | cons y r =>
      have hy : S[a]? = some y := by
        have := congrArg (·[0]?) hd
        simpa using this
      rw [hd] at hx
      rcases List.mem_cons.1 hx with z | z
      · rw [z]; exact hhi y hy
      · have h2 := hs.2.1
        rw [hd] at h2
        exact bl_tr (hhi y hy) ((List.pairwise_cons.1 h2).1 x z)
  refine ⟨?_, fun k => ?_⟩
  · rw [List.append_assoc, List.pairwise_append]
    refine ⟨hs.1, ?_, fun x hx y hy => ?_⟩
    · rw [List.singleton_append, List.pairwise_cons]
      exact ⟨fun y hy => hdrop y hy, hs.2.1⟩
    · rcases List.mem_append.1 hy with z | z
      · rw [List.mem_singleton.1 z]; exact hlo x hx
      · exact hs.2.2 x hx y z
  · have e : k ∈ S.take a ++ [b.key] ++ S.drop a ↔ k ∈ S ∨ k = b.key := by
      conv => rhs; rw [← hsp]
      simp only [List.mem_append, List.mem_singleton]
      constructor
      · rintro ((h | h) | h)
        · exact .inl (.inl h)
        · exact .inr h
        · exact .inl (.inr h)
      · rintro ((h | h) | h)
        · exact .inl (.inl h)
        · exact .inr h
        · exact .inl (.inr h)
    rw [e, h.mem]
    constructor
    · rintro (⟨x, hx, q⟩ | q)
      · exact ⟨x, List.mem_append_left _ hx, q⟩
      · exact ⟨b, List.mem_append_right _ (List.mem_singleton.2 rfl), q.symm⟩
    · rintro ⟨x, hx, q⟩
      rcases List.mem_append.1 hx with z | z
      · exact .inl ⟨x, z, q⟩
      · rw [List.mem_singleton.1 z] at q
        exact .inr q.symm
theorem QlssK {P : Program} {C : World → Prop} {K : Value → Prop} {t : TypeId} {x y : Operand} {a b : Ky} (hk : K (.bool (Op.bytesLess a b))) : QK P C (do pure (Next.value (← (do eqGuard .lss t x y (strV a) (strV b); binOp .lss t (strV a) (strV b))))) K := by
  refine QV_of (v := .bool (Op.bytesLess a b)) (fun w _ => ?_) hk
  simp [strV, go_sem]
theorem QeqlK {P : Program} {C : World → Prop} {K : Value → Prop} {t : TypeId} {x y : Operand} {a b : Ky} (hk : K (.bool (decide (a = b)))) : QK P C (do pure (Next.value (← (do eqGuard .eql t x y (strV a) (strV b); binOp .eql t (strV a) (strV b))))) K := by
  refine QV_of (v := .bool (decide (a = b))) (fun w _ => ?_) hk
  have h := BK_eqK (P := P) (w := w) (K := fun v w' => v = .bool (decide (a = b)) ∧ w' = w) t x y a b
  by_cases q : a = b
  · subst q
    simp [strV, go_sem]
  · have hne : (⟨a.toArray⟩ : ByteArray) ≠ ⟨b.toArray⟩ := fun z => q (by simpa using congrArg (fun b : ByteArray => b.data.toList) z)
    rw [decide_eq_false q]
    simp [strV, go_sem, q]
end Go.X
namespace Go.Proofs.YtandbmnhghmcgaaDoor.Col
open Go Go.X Go.RowKit
theorem KsS.len {L : List Br} {S : List Ky} (h : KsS L S) : S.length ≤ L.length := by
  rw [h.eq]
  unfold keysC
  rw [List.length_mergeSort]
  exact keysOf_len L
end Go.Proofs.YtandbmnhghmcgaaDoor.Col
set_option linter.unusedVariables false
set_option linter.unusedSimpArgs false
set_option maxRecDepth 8000
namespace Go.Proofs.YtandbmnhghmcgaaDoor.Col
open Go Go.X Go.RowKit Go.Proofs.YtandbmnhghmcgaaDoor.XF Go.Proofs.YtandbmnhghmcgaaDoor.XG Go.Proofs.YtandbmnhghmcgaaDoor.XI Go.Proofs.YtandbmnhghmcgaaDoor.XK
section
variable {w w' : World} {B q : Nat} {loose : Bool} {L : List Br} {xs : List Bq} {sv kv : Value} {b : Br} {S : List Ky} {i a : Nat}
theorem odd_R7 {K : Exit → Sl → World → Prop} {ρ : Sl} (h : DAt w B q loose L xs sv) (hS : StrR w kv S) (hx : L[i]? = some b) (q0 : ρ 0 = .pointer (some ⟨q, 0, none⟩)) (q3 : ρ 3 = kv) (q4 : ρ 4 = .int .i64 i) (q5 : ρ 5 = .int .i64 a)
    (hK : ∀ (ρ' : Sl) (w' : World), (∀ i, i < 10 → ρ' i = ρ i) → ρ' 38 = .bool (match S[a]? with | some x => Op.bytesLess x b.key | none => false) → Mod none_ w w' → K .normal ρ' w') : W fn_ Tryd.prog 116 dispatcherref15_Coll_Odd_R7 K ρ w := by
  refine dispatcherref15_Coll_Odd_R7_quiet (D := []) (fun w' => Mod none_ w w') ((Mod.refl _ w).drawn _) ?_
  unfold dispatcherref15_Coll_Odd_R7_Q
  rw [q0, q3, q4, q5]
  obtain ⟨A, c, es, _⟩ := reads_cap hS
  obtain ⟨rv, g, hRR, hix, hat⟩ := brq h hx
  have hlen : ∀ {K : Value → Prop}, K (.int .i64 (S.length : Int)) → QK Tryd.prog (fun w' => Mod none_ w w') (builtin .len #[tSs] tI [false].toArray [kv].toArray) K := fun {K} hk => by
    rw [es]
    exact QI_len vSs _ _ _ _ hk
  refine hlen (Qlss ?_)
  have ldsv : ∀ w', Mod none_ w w' → (Instr.loadAt tBrs (.pointer (some ⟨q, 1, none⟩))).run Tryd.prog w' = .ok sv w' := fun w' hw => by
    have hbl := (h.calm hw).blk
    obtain ⟨A, c, e, _⟩ := reads_cap (reads_of_owns h.row)
    rw [e] at hbl ⊢
    exact run_ld1 vBrs rfl (by rw [cell_blk hbl]; rfl)
  by_cases hlt : a < S.length
  · rw [decide_eq_true (by omega)]
    have hy : S[a]? = some S[a] := List.getElem?_eq_getElem hlt
    generalize S[a] = y at *
    rw [hy] at hK
    obtain ⟨p1, r1, l1⟩ := ixS hS hy
    refine QGt (Qmv (QGt (Qmv (QGt (QV_of (fun w' _ => r1 w') ?_)))))
    refine QGt (QV_of (fun w' hw => l1 w' hw) ?_)
    refine QGt (Qmv (QGt (QN_ptr (QGt (QV_of (v := .pointer (some ⟨q, 1, none⟩)) (fun w' _ => by rw [run_fo (show fieldOff Tryd.prog tDc 1 = some 1 by kernel_rfl), add_pl]) ?_)))))
    refine QGt (QV_of ldsv ?_)
    refine QGt (Qmv (QGt (QV_of (fun w' _ => hix w') ?_)))
    refine QGt (QV_of (fun w' _ => run_fo oB0 _ _) (QGt (QV_of (fun w' _ => run_fo (show fieldOff Tryd.prog tG 0 = some 0 by kernel_rfl) _ _) ?_)))
    refine QGt (QV_of (v := strV b.key) (fun w' hw => run_ld1 vS rfl (by rw [add_add]; exact hat w' hw 0 _ rfl)) (QGt (QlssK ?_)))
    refine QPt ?_
    intro w' hw
    refine hK _ w' (fun i hi => ?_) rfl hw
    repeat rw [up_at, if_neg (by omega)]
  · rw [decide_eq_false (by omega)]
    have hy : S[a]? = none := List.getElem?_eq_none (by omega)
    rw [hy] at hK
    iterate 14 (refine QGn ?_)
    refine QPf ?_
    intro w' hw
    refine hK _ w' (fun i hi => ?_) rfl hw
    repeat rw [up_at, if_neg (by omega)]
theorem odd_R10 {K : Exit → Sl → World → Prop} {ρ : Sl} (h : DAt w B q loose L xs sv) (hS : StrR w kv S) (hx : L[i]? = some b) (q0 : ρ 0 = .pointer (some ⟨q, 0, none⟩)) (q3 : ρ 3 = kv) (q4 : ρ 4 = .int .i64 i) (q5 : ρ 5 = .int .i64 a)
    (hK : ∀ (ρ' : Sl) (w' : World), (∀ i, i < 10 → ρ' i = ρ i) → ρ' 60 = .bool (match S[a]? with | some x => decide (x = b.key) | none => false) → Mod none_ w w' → K .normal ρ' w') : W fn_ Tryd.prog 116 dispatcherref15_Coll_Odd_R10 K ρ w := by
  refine dispatcherref15_Coll_Odd_R10_quiet (D := []) (fun w' => Mod none_ w w') ((Mod.refl _ w).drawn _) ?_
  unfold dispatcherref15_Coll_Odd_R10_Q
  rw [q0, q3, q4, q5]
  obtain ⟨A, c, es, _⟩ := reads_cap hS
  obtain ⟨rv, g, hRR, hix, hat⟩ := brq h hx
  have hlen : ∀ {K : Value → Prop}, K (.int .i64 (S.length : Int)) → QK Tryd.prog (fun w' => Mod none_ w w') (builtin .len #[tSs] tI [false].toArray [kv].toArray) K := fun {K} hk => by
    rw [es]
    exact QI_len vSs _ _ _ _ hk
  refine hlen (Qlss ?_)
  have ldsv : ∀ w', Mod none_ w w' → (Instr.loadAt tBrs (.pointer (some ⟨q, 1, none⟩))).run Tryd.prog w' = .ok sv w' := fun w' hw => by
    have hbl := (h.calm hw).blk
    obtain ⟨A, c, e, _⟩ := reads_cap (reads_of_owns h.row)
    rw [e] at hbl ⊢
    exact run_ld1 vBrs rfl (by rw [cell_blk hbl]; rfl)
  by_cases hlt : a < S.length
  · rw [decide_eq_true (by omega)]
    have hy : S[a]? = some S[a] := List.getElem?_eq_getElem hlt
    generalize S[a] = y at *
    rw [hy] at hK
    obtain ⟨p1, r1, l1⟩ := ixS hS hy
    refine QGt (Qmv (QGt (Qmv (QGt (QV_of (fun w' _ => r1 w') ?_)))))
    refine QGt (QV_of (fun w' hw => l1 w' hw) ?_)
    refine QGt (Qmv (QGt (QN_ptr (QGt (QV_of (v := .pointer (some ⟨q, 1, none⟩)) (fun w' _ => by rw [run_fo (show fieldOff Tryd.prog tDc 1 = some 1 by kernel_rfl), add_pl]) ?_)))))
    refine QGt (QV_of ldsv ?_)
    refine QGt (Qmv (QGt (QV_of (fun w' _ => hix w') ?_)))
    refine QGt (QV_of (fun w' _ => run_fo oB0 _ _) (QGt (QV_of (fun w' _ => run_fo (show fieldOff Tryd.prog tG 0 = some 0 by kernel_rfl) _ _) ?_)))
    refine QGt (QV_of (v := strV b.key) (fun w' hw => run_ld1 vS rfl (by rw [add_add]; exact hat w' hw 0 _ rfl)) (QGt (QeqlK ?_)))
    refine QPt ?_
    intro w' hw
    refine hK _ w' (fun i hi => ?_) rfl hw
    repeat rw [up_at, if_neg (by omega)]
  · rw [decide_eq_false (by omega)]
    have hy : S[a]? = none := List.getElem?_eq_none (by omega)
    rw [hy] at hK
    iterate 14 (refine QGn ?_)
    refine QPf ?_
    intro w' hw
    refine hK _ w' (fun i hi => ?_) rfl hw
    repeat rw [up_at, if_neg (by omega)]
structure OeS (q : Nat) (kv : Value) (i : Nat) (ρ : Sl) : Prop where
  h0 : ρ 0 = .pointer (some ⟨q, 0, none⟩)
  h3 : ρ 3 = kv
  h4 : ρ 4 = .int .i64 i
theorem odd_L3 {K : Exit → Sl → World → Prop} {ρ : Sl} (h : DAt w B q loose L xs sv) (hS : StrR w kv S) (hSl : S.length ≤ 1000000) (hx : L[i]? = some b) (es : OeS q kv i ρ) (q5 : ρ 5 = .int .i64 (0 : Nat))
    (hK : ∀ (ρ' : Sl) (w' : World) (a : Nat), OeS q kv i ρ' → ρ' 5 = .int .i64 a → a ≤ S.length → (∀ x ∈ S.take a, ltB x b.key) → (∀ x, S[a]? = some x → Op.bytesLess x b.key = false) → Mod none_ w w' → K (.exit 2) ρ' w') : W fn_ Tryd.prog 116 (Code.loop dispatcherref15_Coll_Odd_L3) K ρ w := by
  refine W_loop dispatcherref15_Coll_Odd_L3_ok (fun ρ w' => ∃ a : Nat, a ≤ S.length ∧ OeS q kv i ρ ∧ ρ 5 = .int .i64 a ∧ (∀ x ∈ S.take a, ltB x b.key) ∧ Mod none_ w w') (fun ρ _ => S.length - (intOf (ρ 5)).toNat)
    ⟨0, Nat.zero_le _, es, q5, by simp, Mod.refl _ _⟩ ?_
  rintro ρ w1 ⟨a, ha, es, e5, hall, hm⟩
  rw [dispatcherref15_Coll_Odd_L3_eq]; unfold dispatcherref15_Coll_Odd_L3_F
  refine odd_R7 (h.calm hm) (reads_mod hS hm (fun _ _ _ => id)) hx es.h0 es.h3 es.h4 e5 ?_
  intro ρ2 w2 s2 z38 hm2
  have es2 : OeS q kv i ρ2 := ⟨(s2 0 (by decide)).trans es.h0, (s2 3 (by decide)).trans es.h3, (s2 4 (by decide)).trans es.h4⟩
  have e5' : ρ2 5 = .int .i64 a := (s2 5 (by decide)).trans e5
  rw [sq_n, dispatcherref15_Coll_Odd_R8_eq]; unfold dispatcherref15_Coll_Odd_R8_F
  rw [z38]
  cases hy : S[a]? with
  | none =>
    refine condF ?_
    rw [sq_x]
    exact hK _ _ a es2 e5' ha hall (fun x hx => by rw [hy] at hx; cases hx) (hm.trans hm2)
  | some y =>
    simp only
    cases hc : Op.bytesLess y b.key with
    | false =>
      refine condF ?_
      rw [sq_x]
      exact hK _ _ a es2 e5' ha hall (fun x hx => by rw [hy] at hx; cases hx; exact hc) (hm.trans hm2)
    | true =>
      refine condT ?_
      have hlt := (List.getElem?_eq_some_iff.1 hy).1
      rw [sq_n, dispatcherref15_Coll_Odd_R9_eq]; unfold dispatcherref15_Coll_Odd_R9_F
      rw [e5', BK_add, wrap_i (by omega) (by omega)]
      refine ⟨⟨a + 1, hlt, ⟨es2.h0, es2.h3, es2.h4⟩, rfl, fun x hx => ?_, hm.trans hm2⟩, ?_⟩
      · rw [take_one hy] at hx
        rcases List.mem_append.1 hx with z | z
        · exact hall x z
        · rw [List.mem_singleton.1 z]; exact hc
      · rw [e5]
        simp only [sq_n, sq_x, sq_r, bk_n, bk_r, bk_x, rt_r, rt_n, rs_0, rs_t, pk_1, pk_2, up_at, reduceIte, Nat.reduceEqDiff, intOf]; omega
end
end Go.Proofs.YtandbmnhghmcgaaDoor.Col
set_option linter.unusedVariables false
set_option linter.unusedSimpArgs false
set_option maxRecDepth 8000
namespace Go.Proofs.YtandbmnhghmcgaaDoor.Col
open Go Go.X Go.RowKit Go.Proofs.YtandbmnhghmcgaaDoor.XF Go.Proofs.YtandbmnhghmcgaaDoor.XG Go.Proofs.YtandbmnhghmcgaaDoor.XI Go.Proofs.YtandbmnhghmcgaaDoor.XK
theorem strs_app (a b : List Ky) : strs (a ++ b) = strs a ++ strs b := by unfold strs; rw [List.map_append]
theorem strs_take (l : List Ky) (n : Nat) : strs (l.take n) = (strs l).take n := by unfold strs; rw [List.map_take]
theorem strs_drop (l : List Ky) (n : Nat) : strs (l.drop n) = (strs l).drop n := by unfold strs; rw [List.map_drop]
theorem strs_one (l : List Ky) : ∀ u ∈ strs l, u.oneCell' = true := by
  intro u hu
  unfold strs at hu
  obtain ⟨x, _, rfl⟩ := List.mem_map.1 hu
  rfl
section
variable {w0 w w' : World} {B q : Nat} {loose : Bool} {L : List Br} {xs : List Bq} {sv kv : Value} {b : Br} {S : List Ky} {i a : Nat}
theorem odd_R12 {K : Exit → Sl → World → Prop} {ρ : Sl} (h : DAt w0 B q loose L xs sv) (hm : Mod none_ w0 w) (hS : w.ownsRow w0.heap.size tS 1 kv S.length (strs S)) (hSl : S.length ≤ 1000000) (ha : a ≤ S.length) (hx : L[i]? = some b) (es : OeS q kv i ρ) (q5 : ρ 5 = .int .i64 a)
    (hK : ∀ (ρ' : Sl) (w' : World) kv', OeS q kv' i ρ' → w'.ownsRow w0.heap.size tS 1 kv' (S.take a ++ [b.key] ++ S.drop a).length (strs (S.take a ++ [b.key] ++ S.drop a)) → Mod none_ w0 w' → K .normal ρ' w') : sx fn_ Tryd.prog 116 dispatcherref15_Coll_Odd_R12 K ρ w := by
  rw [dispatcherref15_Coll_Odd_R12_eq]; unfold dispatcherref15_Coll_Odd_R12_F
  rw [es.h3, q5]
  have hs0 := hm.size
  refine bs0_k (n := 1) vSs (by kernel_rfl) fun w1 hb1 hm1 hz1 => ?_
  have ho0 : w1.ownsRow w.heap.size tS 1 (.slice (some ⟨w.heap.size, 0, none⟩) 0 0) 0 [] := owns_zero hb1 (Nat.le_refl _)
  refine cut_lo (i := a) (xs := strs S) vSs (show Tryd.prog.cellsOf tS = 0 + 1 from cS) (reads_mod (reads_of_owns hS) hm1 (fun _ _ _ => id)) ha fun u hu => ?_
  have hu' : reads w1 1 u (S.length - a) (strs (S.drop a)) := by rw [strs_drop]; simpa using hu
  refine ap_any eSs ho0 hu' (strs_one _) (by unfold maxLen; omega) (by omega) (by omega) fun rest w2 ho2 hm2 hv2 => ?_
  have hmb2 : Mod none_ w w2 := hm1.then hm2 fun i hi z => by
    have : i = w.heap.size := Option.some.inj (show some i = some w.heap.size from z)
    omega
  have hR : w2.ownsRow w.heap.size tS 1 rest (S.drop a).length (strs (S.drop a)) := by
    have : 0 + (S.length - a) = (S.drop a).length := by rw [List.length_drop]; omega
    rw [this] at ho2
    simpa using ho2
  have hkv2 := owns_mod hS hmb2 fun _ _ => id
  have hd : Mod none_ w2 { w2 with drawn := w2.drawn + 1 } := (Mod.refl _ w2).drawn _
  refine dispatcherref15_Coll_Odd_R15_held (D := []) (fun w' => Mod none_ w0 w') ((hm.trans hmb2).trans hd) ?_
  have hkvd := owns_mod hkv2 hd fun _ _ => id
  have hRd := owns_mod hR hd fun _ _ => id
  have hmd := (hm.trans hmb2).trans hd
  have hszd : w2.heap.size ≤ ({ w2 with drawn := w2.drawn + 1 } : World).heap.size := Nat.le_refl _
  generalize ({ w2 with drawn := w2.drawn + 1 } : World) = wd at *
  unfold dispatcherref15_Coll_Odd_R15_H dispatcherref15_Coll_Odd_R15_H0
  simp only [sq_n, sq_x, sq_r, bk_n, bk_r, bk_x, rt_r, rt_n, rs_0, rs_t, pk_1, pk_2, up_at, reduceIte, Nat.reduceEqDiff, es.h3, es.h0, es.h4, q5]
  obtain ⟨pre, hpre, hpo, hpb⟩ := owns_pre (P := Tryd.prog) (k := a) vSs (show Tryd.prog.cellsOf tS = 0 + 1 from cS) hkvd ha
  obtain ⟨rv, g, hRR, hix, hat⟩ := brq h hx
  have ldsv : ∀ w', Mod none_ w0 w' → (Instr.loadAt tBrs (.pointer (some ⟨q, 1, none⟩))).run Tryd.prog w' = .ok sv w' := fun w' hw => by
    have hbl := (h.calm hw).blk
    obtain ⟨A, c, e, _⟩ := reads_cap (reads_of_owns h.row)
    rw [e] at hbl ⊢
    exact run_ld1 vBrs rfl (by rw [cell_blk hbl]; rfl)
  refine HV_of (fun w' _ => hpre w') (HN_ptr (HV_of (v := .pointer (some ⟨q, 1, none⟩)) (fun w' _ => by rw [run_fo (show fieldOff Tryd.prog tDc 1 = some 1 by kernel_rfl), add_pl]) (HV_of ldsv ?_)))
  refine HV_of (fun w' _ => hix w') (HV_of (fun w' _ => run_fo oB0 _ _) (HV_of (fun w' _ => run_fo (show fieldOff Tryd.prog tG 0 = some 0 by kernel_rfl) _ _) (HV_of (v := strV b.key) (fun w' hw => run_ld1 vS rfl (by rw [add_add]; exact hat w' hw 0 _ rfl)) ?_)))
  unfold dispatcherref15_Coll_Odd_R15_H1
  refine bs_k (cs := #[strV b.key]) (by kernel_rfl) fun w3 hb3 hm3 hz3 => ?_
  refine ⟨hmd.trans hm3, ?_⟩
  have hpo3 : w3.ownsRow w0.heap.size tS 1 pre (S.take a).length (strs (S.take a)) := by
    have := owns_mod hpo hm3 fun _ _ => id
    rw [strs_take, List.length_take, Nat.min_eq_left ha]
    simpa using this
  have hs2 := hmb2.size
  have hs3 := hm3.size
  have hR3 := owns_mod hRd hm3 fun _ _ => id
  refine ap_any eSs hpo3 (reads_blk (size := 1) (n := 1) hb3 rfl) (fun u hu => by rw [List.mem_singleton.1 hu]; rfl) (by rw [List.length_take]; unfold maxLen; omega) (by rw [List.length_take]; omega) (by omega) fun v4 w4 ho4 hm4 hv4 => ?_
  have nR : ∀ b, sb rest b → ¬ some b = pre.ownBlock := fun b hb z => by
    rw [hpb] at z
    have h1 := (owns_bd hR b hb).1
    have h2 := (owns_bd hS b z.symm).2
    omega
  have hR4 := owns_mod hR3 hm4 fun b hb => nR b hb
  have hm04 : Mod none_ w0 w4 := (hmd.trans hm3).then hm4 fun i hi z => by
    have := (owns_bd hpo3 i z.symm).1
    omega
  refine ⟨hm04, ?_⟩
  have ho4' : w4.ownsRow w0.heap.size tS 1 v4 (S.take a ++ [b.key]).length (strs (S.take a ++ [b.key])) := by
    rw [strs_app, List.length_append]
    exact ho4
  simp only [sq_n, sq_x, sq_r, bk_n, bk_r, bk_x, rt_r, rt_n, rs_0, rs_t, pk_1, pk_2, up_at, reduceIte, Nat.reduceEqDiff]
  refine ap_any eSs ho4' (reads_of_owns hR4) (strs_one _) (by rw [List.length_append, List.length_take, List.length_drop]; unfold maxLen; simp; omega) (by rw [List.length_append, List.length_take, List.length_drop]; simp; omega) (by have := hm4.size; omega) fun v5 w5 ho5 hm5 hv5 => ?_
  have hm05 : Mod none_ w0 w5 := hm04.then hm5 fun i hi z => by
    have := (owns_bd ho4' i z.symm).1
    omega
  refine ⟨hm05, hK _ w5 v5 ⟨?_, rfl, ?_⟩ ?_ hm05⟩
  · exact es.h0
  · exact es.h4
  · rw [strs_app, List.length_append]
    exact ho5
end
end Go.Proofs.YtandbmnhghmcgaaDoor.Col
set_option linter.unusedVariables false
set_option linter.unusedSimpArgs false
set_option maxRecDepth 8000
namespace Go.Proofs.YtandbmnhghmcgaaDoor.Col
open Go Go.X Go.RowKit Go.Proofs.YtandbmnhghmcgaaDoor.XF Go.Proofs.YtandbmnhghmcgaaDoor.XG Go.Proofs.YtandbmnhghmcgaaDoor.XI Go.Proofs.YtandbmnhghmcgaaDoor.XK
structure OfS (q : Nat) (kv : Value) (i : Nat) (ρ : Sl) : Prop where
  h0 : ρ 0 = .pointer (some ⟨q, 0, none⟩)
  h3 : ρ 3 = kv
  h8 : ρ 8 = .int .i64 i
section
variable {w0 w w' : World} {B q : Nat} {loose : Bool} {L : List Br} {xs : List Bq} {sv kv : Value} {b : Br} {S : List Ky} {i k : Nat} {key : Ky} {out : List Ky}
theorem childD (key : Ky) (k : Nat) : key ++ [46] ++ Lib.decDigits k = childK key k := by
  rw [childK_eq]
  unfold Lib.itoa
  rw [if_neg (by omega), Int.toNat_natCast]
theorem odd_R17 {K : Exit → Sl → World → Prop} {ρ : Sl} (hm : Mod none_ w0 w) (hS : StrR w0 kv S) (hx : S[i]? = some key) (hkl : key.length ≤ 1000000) (hk : k ≤ 10000) (ho : w.ownsRow w0.heap.size tS 1 (ρ 7) out.length (strs out)) (hol : out.length ≤ 1000000000) (es : OfS q kv i ρ) (q9 : ρ 9 = .int .i64 k)
    (hK : ∀ (ρ' : Sl) (w' : World), OfS q kv i ρ' → ρ' 9 = .int .i64 k → w'.ownsRow w0.heap.size tS 1 (ρ' 7) (out ++ [childK key k]).length (strs (out ++ [childK key k])) → Mod none_ w0 w' → K .normal ρ' w') : W fn_ Tryd.prog 116 dispatcherref15_Coll_Odd_R17 K ρ w := by
  have hd : Mod none_ w { w with drawn := w.drawn + 1 } := (Mod.refl _ w).drawn _
  have hmd := hm.trans hd
  refine dispatcherref15_Coll_Odd_R17_held (D := []) (fun w' => Mod none_ w0 w') hmd ?_
  have hod := owns_mod ho hd fun _ _ => id
  generalize ({ w with drawn := w.drawn + 1 } : World) = wd at *
  unfold dispatcherref15_Coll_Odd_R17_H
  rw [es.h3, es.h8, q9]
  obtain ⟨p1, r1, l1⟩ := ixS hS hx
  refine HV_of (fun w' _ => r1 w') (HV_of (fun w' hw => l1 w' hw) ?_)
  refine HaddS (a := key) (b := [46]) (by omega) (by decide) ?_
  refine CK_st Tryd.func55 rfl rfl (Digits_ok k wd (by omega)) ?_
  rintro _ w2 ⟨rfl, hm2⟩
  have hm02 := hmd.trans hm2
  refine ⟨hm02, ?_⟩
  have hdl := dec_len k
  refine HaddS (by rw [List.length_append]; simp; omega) (by omega) ?_
  rw [childD]
  refine bs_k (cs := #[strV (childK key k)]) (by kernel_rfl) fun w3 hb3 hm3 hz3 => ?_
  refine ⟨hm02.trans hm3, ?_⟩
  have hs := (hm02.trans hm3).size
  refine ap_any eSs (owns_mod (owns_mod hod hm2 fun _ _ => id) hm3 fun _ _ => id) (reads_blk (size := 1) (n := 1) hb3 rfl) (fun u hu => by rw [List.mem_singleton.1 hu]; rfl) (by unfold maxLen; omega) (by omega) hs fun v4 w4 ho4 hm4 hv4 => ?_
  have hm04 : Mod none_ w0 w4 := (hm02.trans hm3).then hm4 fun i hi z => by
    have := (owns_bd ho i z.symm).1
    omega
  refine ⟨hm04, hK _ w4 ⟨?_, ?_, ?_⟩ ?_ ?_ hm04⟩
  · exact es.h0
  · exact es.h3
  · exact es.h8
  · exact q9
  · rw [strs_app, List.length_append]
    exact ho4
theorem odd_L13 {K : Exit → Sl → World → Prop} {ρ : Sl} (h : DAt w0 B q loose L xs sv) (hL : L.length ≤ 10000) (hgl : ∀ g, grpC L key = some g → g.length ≤ 1000000) (hm : Mod none_ w0 w) (hS : StrR w0 kv S) (hx : S[i]? = some key) (hkl : key.length ≤ 1000000) (ho : w.ownsRow w0.heap.size tS 1 (ρ 7) out.length (strs out)) (hol : out.length ≤ 100000000) (es : OfS q kv i ρ) (q9 : ρ 9 = .int .i64 (0 : Nat))
    (hK : ∀ (ρ' : Sl) (w' : World), OfS q kv i ρ' → w'.ownsRow w0.heap.size tS 1 (ρ' 7) (out ++ oddsOf L key).length (strs (out ++ oddsOf L key)) → Mod none_ w0 w' → K (.exit 6) ρ' w') : W fn_ Tryd.prog 116 (Code.loop dispatcherref15_Coll_Odd_L13) K ρ w := by
  refine W_loop dispatcherref15_Coll_Odd_L13_ok (fun ρ w' => ∃ k : Nat, k ≤ L.length ∧ ρ 9 = .int .i64 k ∧ OfS q kv i ρ ∧ w'.ownsRow w0.heap.size tS 1 (ρ 7) (out ++ ((List.range k).filter fun k : Nat => oddK L key k).map fun k : Nat => childK key k).length (strs (out ++ ((List.range k).filter fun k : Nat => oddK L key k).map fun k : Nat => childK key k)) ∧ Mod none_ w0 w') (fun ρ _ => L.length - (intOf (ρ 9)).toNat)
    ⟨0, Nat.zero_le _, q9, es, by simpa using ho, hm⟩ ?_
  rintro ρ w1 ⟨k, hk, e9, es, ho1, hm1⟩
  have h1 := h.calm hm1
  have hfl : (((List.range k).filter fun k : Nat => oddK L key k).map fun k : Nat => childK key k).length ≤ k := by
    rw [List.length_map]
    exact Nat.le_trans (List.length_filter_le _ _) (by rw [List.length_range]; exact Nat.le_refl _)
  rw [dispatcherref15_Coll_Odd_L13_eq]; unfold dispatcherref15_Coll_Odd_L13_F
  rw [e9, es.h0, es.h3, es.h8]
  simp only [↓VG_u, ↓UG_u, ↓MG_u, ↓NG_u, ↓PG_u, ↓BG_u, ↓CG_u, ↓IG_u, ↓VGtt, ↓VGtf, ↓VGft, ↓VGff, ↓UGtt, ↓UGtf, ↓UGft, ↓UGff, ↓MGtt, ↓MGtf, ↓MGft, ↓MGff, ↓NGtt, ↓NGtf, ↓NGft, ↓NGff, ↓PGtt, ↓PGtf, ↓PGft, ↓PGff, ↓BGtt, ↓BGtf, ↓BGft, ↓BGff, ↓CGtt, ↓CGtf, ↓CGft, ↓CGff, ↓IGtt, ↓IGtf, ↓IGft, ↓IGff, ↓PKt, ↓PKf, ↓CDt, ↓CDf, ↓NOTt, ↓NOTf, ↓NK_ptr, ↓(f_all2 h1).e]
  rw [len2 h1, BK_lss]
  by_cases hlt : k < L.length
  case neg =>
    obtain rfl : k = L.length := by omega
    rw [decide_eq_false (by omega)]
    refine condF ?_
    refine hK _ _ ⟨?_, ?_, ?_⟩ ho1 hm1
    · exact es.h0
    · exact es.h3
    · exact es.h8
  rw [decide_eq_true (by omega)]
  refine condT ?_
  obtain ⟨p1, r1, l1⟩ := ixS hS hx
  refine VK_of (r1 _) (VK_of (l1 _ hm1) ?_)
  refine CK_st Tryd.func54 rfl rfl (oddD_ok h1 (by omega) hgl (by omega) (by omega)) ?_
  rintro _ w2 ⟨rfl, hm2⟩
  have hm02 := hm1.trans hm2
  have ho2 := owns_mod ho1 hm2 fun _ _ => id
  have nxt : ∀ {N : Sl → World → Prop} {K0 : Exit → Sl → World → Prop} {ρ2 : Sl} {w3 : World}, ρ2 9 = .int .i64 k → (∀ ρ3 : Sl, ρ3 9 = .int .i64 (k + 1 : Nat) → ρ3 0 = ρ2 0 → ρ3 3 = ρ2 3 → ρ3 8 = ρ2 8 → ρ3 7 = ρ2 7 → N ρ3 w3) → sx fn_ Tryd.prog 116 dispatcherref15_Coll_Odd_R16 (seqK N K0) ρ2 w3 := by
    intro N K0 ρ2 w3 z9 hN
    rw [dispatcherref15_Coll_Odd_R16_eq]; unfold dispatcherref15_Coll_Odd_R16_F
    rw [z9, BK_add, wrap_i (by omega) (by omega)]
    exact hN _ rfl rfl rfl rfl rfl
  have hst := filter_step (c := fun k : Nat => oddK L key k) (f := fun k : Nat => childK key k) k
  cases hod : oddK L key k with
  | true =>
    rw [if_pos hod] at hst
    refine condT ?_
    refine odd_R17 (q := q) (out := out ++ ((List.range k).filter fun k : Nat => oddK L key k).map fun k : Nat => childK key k) (k := k) hm02 hS hx hkl (by omega) ho2 (by rw [List.length_append]; omega) ⟨?_, ?_, ?_⟩ ?_ ?_
    · exact es.h0
    · exact es.h3
    · exact es.h8
    · exact e9
    intro ρ3 w3 es3 z9 ho3 hm3
    rw [bk_n, sq_n]
    refine nxt z9 fun ρ4 y9 y0 y3 y8 y7 => ⟨⟨k + 1, hlt, y9, ⟨y0.trans es3.h0, y3.trans es3.h3, y8.trans es3.h8⟩, ?_, hm3⟩, ?_⟩
    · rw [hst, y7, ← List.append_assoc]; exact ho3
    · rw [y9]; simp only [intOf]; omega
  | false =>
    rw [if_neg (by rw [hod]; simp)] at hst
    refine condF ?_
    refine nxt ?_ fun ρ4 y9 y0 y3 y8 y7 => ⟨⟨k + 1, hlt, y9, ⟨y0.trans es.h0, y3.trans es.h3, y8.trans es.h8⟩, ?_, hm02⟩, ?_⟩
    · exact e9
    · rw [hst, y7, List.append_nil]; exact ho2
    · rw [y9]; simp only [intOf]; omega
theorem OddD_ok (h : DAt w0 B q loose L xs sv) (hL : L.length ≤ 100) (hgl : ∀ key g, grpC L key = some g → g.length ≤ 1000000) (hky : ∀ b ∈ L, b.key.length ≤ 1000000) : Rt Tryd.prog 25 #[.pointer (some ⟨q, 0, none⟩)] w0 fun v w' => StrR w' v (oddC L) ∧ Mod none_ w0 w' := by
  refine dispatcherref15_Coll_Odd_calls ?_
  unfold dispatcherref15_Coll_Odd_F
  refine W_loop dispatcherref15_Coll_Odd_L0_ok (fun ρ w' => ∃ (i : Nat) (S : List Ky) (kv : Value), i ≤ L.length ∧ OeS q kv i ρ ∧ KsS (L.take i) S ∧ w'.ownsRow w0.heap.size tS 1 kv S.length (strs S) ∧ Mod none_ w0 w') (fun ρ _ => L.length - (intOf (ρ 4)).toNat)
    ⟨0, [], nilS, Nat.zero_le _, ⟨rfl, rfl, rfl⟩, KsS.nil, World.ownsRow_nil _ _ _ _, Mod.refl _ _⟩ ?_
  rintro ρ w1 ⟨i, S, kv, hi, es, hks, hS, hm⟩
  have h1 := h.calm hm
  have hSl := KsS.len hks
  rw [List.length_take] at hSl
  rw [dispatcherref15_Coll_Odd_L0_eq]; unfold dispatcherref15_Coll_Odd_L0_F
  rw [es.h4, es.h0]
  simp only [↓VG_u, ↓UG_u, ↓MG_u, ↓NG_u, ↓PG_u, ↓BG_u, ↓CG_u, ↓IG_u, ↓VGtt, ↓VGtf, ↓VGft, ↓VGff, ↓UGtt, ↓UGtf, ↓UGft, ↓UGff, ↓MGtt, ↓MGtf, ↓MGft, ↓MGff, ↓NGtt, ↓NGtf, ↓NGft, ↓NGff, ↓PGtt, ↓PGtf, ↓PGft, ↓PGff, ↓BGtt, ↓BGtf, ↓BGft, ↓BGff, ↓CGtt, ↓CGtf, ↓CGft, ↓CGff, ↓IGtt, ↓IGtf, ↓IGft, ↓IGff, ↓PKt, ↓PKf, ↓CDt, ↓CDf, ↓NOTt, ↓NOTf, ↓NK_ptr, ↓(f_all2 h1).e]
  rw [len2 h1, BK_lss]
  by_cases hlt : i < L.length
  case neg =>
    obtain rfl : i = L.length := by omega
    rw [decide_eq_false (by omega)]
    refine condF ?_
    rw [sq_x, bk_x, sq_n, dispatcherref15_Coll_Odd_R1_eq]; unfold dispatcherref15_Coll_Odd_R1_F
    rw [List.take_length] at hks
    have hkey : ∀ k ∈ S, k.length ≤ 1000000 := fun k hk => by
      obtain ⟨b, hb, rfl⟩ := (hks.mem k).1 hk
      exact hky b hb
    have hoc : oddC L = S.flatMap (oddsOf L) := by rw [hks.eq]; exact oddC_eq L
    have hw1 : w0.heap.size ≤ w1.heap.size := hm.size
    refine W_loop dispatcherref15_Coll_Odd_L5_ok (fun ρ w' => ∃ j : Nat, j ≤ S.length ∧ OfS q kv j ρ ∧ w'.ownsRow w1.heap.size tS 1 (ρ 7) ((S.take j).flatMap (oddsOf L)).length (strs ((S.take j).flatMap (oddsOf L))) ∧ Mod none_ w1 w') (fun ρ _ => S.length - (intOf (ρ 8)).toNat)
      ⟨0, Nat.zero_le _, ⟨?_, ?_, rfl⟩, World.ownsRow_nil _ _ _ _, Mod.refl _ _⟩ ?_
    · exact es.h0
    · exact es.h3
    rintro ρ w2 ⟨j, hj, ef, ho, hm2⟩
    obtain ⟨A, c, ev, _⟩ := reads_cap (reads_of_owns hS)
    rw [dispatcherref15_Coll_Odd_L5_eq]; unfold dispatcherref15_Coll_Odd_L5_F
    rw [ef.h8, ef.h3, ev, len_sl vSs, ← ev, BK_lss]
    have hol : ((S.take j).flatMap (oddsOf L)).length ≤ j * L.length := by
      have : ∀ l : List Ky, (l.flatMap (oddsOf L)).length ≤ l.length * L.length := by
        intro l
        induction l with
        | nil => simp
        | cons a l ih =>
          rw [List.flatMap_cons, List.length_append, List.length_cons, Nat.succ_mul]
          have : (oddsOf L a).length ≤ L.length := by
            unfold oddsOf
            rw [List.length_map]
            exact Nat.le_trans (List.length_filter_le _ _) (by rw [List.length_range]; exact Nat.le_refl _)
          omega
      have h2 := this (S.take j)
      rw [List.length_take, Nat.min_eq_left hj] at h2
      exact h2
    by_cases hjl : j < S.length
    case neg =>
      obtain rfl : j = S.length := by omega
      rw [decide_eq_false (by omega)]
      refine condF ?_
      rw [sq_x, bk_x, sq_n, dispatcherref15_Coll_Odd_R6_eq]; unfold dispatcherref15_Coll_Odd_R6_F
      rw [List.take_length, ← hoc] at ho
      exact ⟨reads_of_owns ho, hm.trans hm2⟩
    rw [decide_eq_true (by omega)]
    refine condT ?_
    have hx : S[j]? = some S[j] := List.getElem?_eq_getElem hjl
    have hmem : S[j] ∈ S := List.getElem_mem hjl
    have etk := take_one hx
    generalize S[j] = key at *
    have hjb : j * L.length ≤ 100 * 100 := Nat.mul_le_mul (by omega) hL
    refine odd_L13 (out := (S.take j).flatMap (oddsOf L)) h1 (by omega) (hgl key) hm2 (reads_of_owns hS) hx (hkey key hmem) ho (by omega) ⟨?_, ?_, ?_⟩ rfl ?_
    · exact ef.h0
    · exact ef.h3
    · exact ef.h8
    intro ρ3 w3 ef3 ho3 hm3
    rw [bk_x, bk_n, sq_n, dispatcherref15_Coll_Odd_R14_eq]; unfold dispatcherref15_Coll_Odd_R14_F
    rw [ef3.h8, BK_add, wrap_i (by omega) (by omega)]
    refine ⟨⟨j + 1, hjl, ⟨ef3.h0, ef3.h3, rfl⟩, ?_, hm3⟩, ?_⟩
    · rw [etk, List.flatMap_append, show ([key] : List Ky).flatMap (oddsOf L) = oddsOf L key from by simp]
      exact ho3
    · simp only [sq_n, sq_x, sq_r, bk_n, bk_r, bk_x, rt_r, rt_n, rs_0, rs_t, pk_1, pk_2, up_at, reduceIte, Nat.reduceEqDiff, intOf]; omega
  rw [decide_eq_true (by omega)]
  refine condT ?_
  have hx : L[i]? = some L[i] := List.getElem?_eq_getElem hlt
  have etk := take_one hx
  generalize L[i] = b at *
  refine odd_L3 h1 (reads_of_owns hS) (by omega) hx ⟨?_, ?_, ?_⟩ rfl ?_
  · exact es.h0
  · exact es.h3
  · exact es.h4
  intro ρ2 w2 a es2 z5 ha hlo hhi hm2
  rw [bk_x, sq_n, dispatcherref15_Coll_Odd_R4_eq]; unfold dispatcherref15_Coll_Odd_R4_F
  have hS2 := owns_mod hS hm2 fun _ _ => id
  refine odd_R10 (h1.calm hm2) (reads_of_owns hS2) hx es2.h0 es2.h3 es2.h4 z5 ?_
  intro ρ3 w3 s3 z60 hm3
  have hm03 := (hm.trans hm2).trans hm3
  have hS3 := owns_mod hS2 hm3 fun _ _ => id
  have es3 : OeS q kv i ρ3 := ⟨(s3 0 (by decide)).trans es2.h0, (s3 3 (by decide)).trans es2.h3, (s3 4 (by decide)).trans es2.h4⟩
  have nxt : ∀ {N : Sl → World → Prop} {K0 : Exit → Sl → World → Prop} {ρ4 : Sl} {w4 : World}, ρ4 4 = .int .i64 i → (∀ ρ5 : Sl, ρ5 4 = .int .i64 (i + 1 : Nat) → ρ5 0 = ρ4 0 → ρ5 3 = ρ4 3 → N ρ5 w4) → sx fn_ Tryd.prog 116 dispatcherref15_Coll_Odd_R2 (seqK N K0) ρ4 w4 := by
    intro N K0 ρ4 w4 y4 hN
    rw [dispatcherref15_Coll_Odd_R2_eq]; unfold dispatcherref15_Coll_Odd_R2_F
    rw [y4, BK_add, wrap_i (by omega) (by omega)]
    exact hN _ rfl rfl rfl
  have fin : ∀ (ρ4 : Sl) (w4 : World) kv' S', OeS q kv' i ρ4 → KsS (L.take (i + 1)) S' → w4.ownsRow w0.heap.size tS 1 kv' S'.length (strs S') → Mod none_ w0 w4 → ∀ (ρ5 : Sl), ρ5 4 = .int .i64 (i + 1 : Nat) → ρ5 0 = ρ4 0 → ρ5 3 = ρ4 3 → (∃ (i : Nat) (S : List Ky) (kv : Value), i ≤ L.length ∧ OeS q kv i ρ5 ∧ KsS (L.take i) S ∧ w4.ownsRow w0.heap.size tS 1 kv S.length (strs S) ∧ Mod none_ w0 w4) ∧ L.length - (intOf (ρ5 4)).toNat < L.length - (intOf (.int .i64 (i : Int))).toNat := by
    intro ρ4 w4 kv' S' e4 hk4 ho4 hm4 ρ5 y4 y0 y3
    refine ⟨⟨i + 1, S', kv', hlt, ⟨y0.trans e4.h0, y3.trans e4.h3, y4⟩, hk4, ho4, hm4⟩, ?_⟩
    rw [y4]; simp only [intOf]; omega
  rw [sq_n, dispatcherref15_Coll_Odd_R11_eq]; unfold dispatcherref15_Coll_Odd_R11_F
  rw [z60]
  have ins : (∀ x, S[a]? = some x → x ≠ b.key) → KsS (L.take (i + 1)) (S.take a ++ [b.key] ++ S.drop a) := fun hne => by
    rw [etk]
    refine hks.put ha hlo fun x hx' => ?_
    unfold ltB
    cases hq : Op.bytesLess b.key x with
    | true => rfl
    | false => exact absurd (bl_tri (hhi x hx') hq) (hne x hx')
  cases hy : S[a]? with
  | some y =>
    simp only
    by_cases c : y = b.key
    · rw [decide_eq_true c]
      refine condT ?_
      rw [sq_x, bk_x, sq_n]
      refine nxt es3.h4 fun ρ5 y4 y0 y3 => fin ρ3 w3 kv S es3 ?_ hS3 hm03 ρ5 y4 y0 y3
      rw [etk]
      exact hks.skip (c ▸ List.mem_of_getElem? hy)
    · rw [decide_eq_false c]
      refine condF ?_
      rw [sq_n]
      refine odd_R12 h hm03 hS3 (by omega) ha hx es3 ((s3 5 (by decide)).trans z5) ?_
      intro ρ4 w4 kv' es4 ho4 hm4
      rw [bk_n, sq_n]
      exact nxt es4.h4 fun ρ5 y4 y0 y3 => fin ρ4 w4 kv' _ es4 (ins fun x hx' => by rw [hy] at hx'; cases hx'; exact c) ho4 hm4 ρ5 y4 y0 y3
  | none =>
    simp only
    refine condF ?_
    rw [sq_n]
    refine odd_R12 h hm03 hS3 (by omega) ha hx es3 ((s3 5 (by decide)).trans z5) ?_
    intro ρ4 w4 kv' es4 ho4 hm4
    rw [bk_n, sq_n]
    exact nxt es4.h4 fun ρ5 y4 y0 y3 => fin ρ4 w4 kv' _ es4 (ins fun x hx' => by rw [hy] at hx'; cases hx') ho4 hm4 ρ5 y4 y0 y3
end
end Go.Proofs.YtandbmnhghmcgaaDoor.Col
set_option linter.unusedVariables false
set_option linter.unusedSimpArgs false
set_option maxRecDepth 8000
namespace Go.Proofs.YtandbmnhghmcgaaDoor.Col
open Go Go.X Go.RowKit Go.Proofs.YtandbmnhghmcgaaDoor.XF Go.Proofs.YtandbmnhghmcgaaDoor.XG Go.Proofs.YtandbmnhghmcgaaDoor.XI Go.Proofs.YtandbmnhghmcgaaDoor.XK
theorem bDc (lo : Bool) (A : Option Addr) (n c : Nat) : Tryd.prog.built tDc [(0, .bool lo), (1, .slice A n c)] = some #[.bool lo, .slice A n c] := by kernel_rfl
theorem bDc0 (lo : Bool) : Tryd.prog.built tDc [(0, .bool lo)] = some #[.bool lo, nilS] := by kernel_rfl
section
variable {w0 w w' : World} {B q : Nat} {loose : Bool} {L : List Br} {xs : List Bq} {sv kv : Value} {b : Br}
theorem CopyCD_ok (h : DAt w B q loose L xs sv) (hB : B ≤ w.heap.size) (hL : L.length ≤ 1000000) (hone : ∀ u ∈ xs.flatMap Bq.enc, u.oneCell' = true) : Rt Tryd.prog 16 #[.pointer (some ⟨q, 0, none⟩)] w fun v w' => ∃ q' sv', v = .pointer (some ⟨q', 0, none⟩) ∧ DAt w' B q' loose L xs sv' ∧ Mod none_ w w' := by
  refine dispatcherref15_Coll_Copy_calls ?_
  unfold dispatcherref15_Coll_Copy_F
  have hd : Mod none_ w { w with drawn := w.drawn + 1 } := (Mod.refl _ w).drawn _
  refine dispatcherref15_Coll_Copy_R0_held (D := []) (fun w' => Mod none_ w w') hd ?_
  generalize ({ w with drawn := w.drawn + 1 } : World) = wd at *
  unfold dispatcherref15_Coll_Copy_R0_H dispatcherref15_Coll_Copy_R0_H0
  simp only [sq_n, sq_x, sq_r, bk_n, bk_r, bk_x, rt_r, rt_n, rs_0, rs_t, pk_1, pk_2, up_at, reduceIte, Nat.reduceEqDiff]
  obtain ⟨A, c, e, _⟩ := reads_cap (reads_of_owns h.row)
  have ldsv : ∀ w', Mod none_ w w' → (Instr.loadAt tBrs (.pointer (some ⟨q, 1, none⟩))).run Tryd.prog w' = .ok sv w' := fun w' hw => by
    have hbl := (h.calm hw).blk
    rw [e] at hbl ⊢
    exact run_ld1 vBrs rfl (by rw [cell_blk hbl]; rfl)
  refine HN_ptr (HV_of (v := .pointer (some ⟨q, 0, none⟩)) (fun w' _ => by rw [run_fo (show fieldOff Tryd.prog tDc 0 = some 0 by kernel_rfl), add_pl]) (HV_of (v := .bool loose) (fun w' hw => run_ld1 vB rfl (by rw [cell_blk (h.calm hw).blk]; rfl)) ?_))
  refine HN_ptr (HV_of (v := .pointer (some ⟨q, 1, none⟩)) (fun w' _ => by rw [run_fo (show fieldOff Tryd.prog tDc 1 = some 1 by kernel_rfl), add_pl]) (HV_of ldsv ?_))
  refine bs0_k (n := 9) vBrs (by kernel_rfl) fun w2 hb2 hm2 hz2 => ?_
  have hm02 := hd.trans hm2
  refine ⟨hm02, ?_⟩
  have ho0 : w2.ownsRow wd.heap.size tBr 9 (.slice (some ⟨wd.heap.size, 0, none⟩) 0 0) 0 [] := owns_zero hb2 (Nat.le_refl _)
  have hxl : xs.length = L.length := by rw [← h.eq, List.length_map]
  refine ap_any eBrs ho0 (reads_of_owns (h.calm hm02).row) hone (by unfold maxLen; omega) (by omega) (by omega) fun v4 w4 ho4 hm4 hv4 => ?_
  have hs := hd.size
  have hm04 : Mod none_ w w4 := hm02.then hm4 fun i hi z => by
    have : i = wd.heap.size := Option.some.inj (show some i = some wd.heap.size from z)
    omega
  refine ⟨hm04, ?_⟩
  obtain ⟨A4, c4, e4, _⟩ := reads_cap (reads_of_owns ho4)
  refine HV_of (v := .agg #[.bool loose, v4]) (fun w' _ => by rw [e4]; exact run_build (P := Tryd.prog) w' _ _ _ (bDc _ _ _ _)) ?_
  refine box_k (cs := #[.bool loose, v4]) rfl fun w5 hb5 hm5 hz5 => ?_
  have hm05 := hm04.trans hm5
  refine ⟨hm05, ?_⟩
  unfold dispatcherref15_Coll_Copy_R0_H1
  try rw [sq_n]
  rw [dispatcherref15_Coll_Copy_R1_eq]; unfold dispatcherref15_Coll_Copy_R1_F
  have hs4 := hm04.size
  refine ⟨w4.heap.size, v4, rfl, ⟨by omega, hb5, ?_, fun x hx => owns_mod (h.rk x hx) hm05 fun _ _ => id, h.eq⟩, hm05⟩
  have := owns_base (owns_mod ho4 hm5 fun _ _ => id) (show B ≤ wd.heap.size by omega)
  simpa using this
structure Sd (w0 w : World) (p q : Nat) (loose : Bool) (L : List Br) (V : CV) (xs : List Bq) (sv : Value) : Prop where
  cs : Cs w0 w p loose L V
  dt : DAt w w0.heap.size q loose L xs sv
theorem Sd.calm {p : Nat} {V : CV} (h : Sd w0 w p q loose L V xs sv) (hm : Mod none_ w w') : Sd w0 w' p q loose L V xs sv := ⟨h.cs.calm hm, h.dt.calm hm⟩
theorem Sd.dmod {p : Nat} {V : CV} {xs' : List Bq} {sv' : Value} {L' : List Br} (h : Cs w0 w p loose L' V) (hd : DAt w w0.heap.size q loose L xs sv) (hm : Mod (fun c => c = q ∨ sb sv c) w w') (hd' : DAt w' w0.heap.size q loose L' xs' sv') : Sd w0 w' p q loose L' V xs' sv' := by
  have tq : ∀ b, b = q ∨ sb sv b → isT tDc w b ∨ isT tBr w b := fun b hb => by
    rcases hb with rfl | z
    · exact .inl ⟨_, _, hd.blk⟩
    · exact .inr (isT_own hd.row z)
  refine ⟨⟨h.at_.mod hm (fun b hb z => ?_) (fun b hb z => ?_), h.new, h.mod.then hm fun i hi z => ?_⟩, hd'⟩
  · rcases tq b z with y | y
    · exact h.at_.notT (by decide) (by decide) (by decide) (by decide) hb y
    · exact h.at_.notT (by decide) (by decide) (by decide) (by decide) hb y
  · rcases tq b z with y | y
    · exact isT_ne hb y (by decide)
    · exact isT_ne hb y (by decide)
  · rcases z with rfl | y
    · have := hd.hq; omega
    · have := (owns_bd hd.row i y).1; omega
end
end Go.Proofs.YtandbmnhghmcgaaDoor.Col
set_option linter.unusedVariables false
set_option linter.unusedSimpArgs false
set_option maxRecDepth 8000
namespace Go.X
open Go Go.RowKit
theorem QneB {P : Program} {C : World → Prop} {K : Value → Prop} {t : TypeId} (ht : P.underlying t = some .bool) {x y : Operand} {a : Bool} (hk : K (.bool false)) : QK P C (do pure (Next.value (← (do eqGuard .neq t x y (.bool a) (.bool a); binOp .neq t (.bool a) (.bool a))))) K :=
  QB_of (fun _ => rfl) (fun w => by rw [run_neq_bool w t a a ht]; simp) hk
end Go.X
namespace Go.Proofs.YtandbmnhghmcgaaDoor.Col
open Go Go.X Go.RowKit Go.Proofs.YtandbmnhghmcgaaDoor.XF Go.Proofs.YtandbmnhghmcgaaDoor.XG Go.Proofs.YtandbmnhghmcgaaDoor.XI Go.Proofs.YtandbmnhghmcgaaDoor.XK
section
variable {w0 w w' : World} {p q : Nat} {loose : Bool} {L : List Br} {V : CV} {xs : List Bq} {sv v : Value} {l : List Ac}
theorem dt_one {B : Nat} (h : DAt w B q loose L xs sv) : ∀ u ∈ xs.flatMap Bq.enc, u.oneCell' = true := by
  intro u hu
  obtain ⟨x, hx, hu⟩ := List.mem_flatMap.1 hu
  obtain ⟨A, c, e, _⟩ := reads_cap (reads_of_owns (h.rk x hx))
  have := br_one x.b.key A x.b.ranks.length c x.b.rank x.b.p
  refine Array.all_eq_true'.1 this u ?_
  have e2 : Bq.enc x = Bq.enc ⟨⟨x.b.key, [], x.b.rank, x.b.p⟩, .slice A x.b.ranks.length c⟩ := by
    cases x
    simp only at e
    rw [e]; rfl
  rw [e2] at hu
  simpa using hu
theorem plays_R7 {K : Exit → Sl → World → Prop} {ρ : Sl} {b8 : Nat} {a a0 : Ac} {k e : Int} (hs : Sd w0 w p q loose L V xs sv) (hA : Acts w0 v l) (hsm : Small l) (hL : L.length ≤ 1000) (ha : a ∈ l) (h0 : l[0]? = some a0) (hb8 : w.heap[b8]? = some (.cells a.enc.toArray tAc (0, 0)))
    (q1 : ρ 1 = v) (q5 : ρ 5 = .pointer (some ⟨p, 0, none⟩)) (q6 : ρ 6 = .pointer (some ⟨q, 0, none⟩)) (q8 : ρ 8 = .pointer (some ⟨b8, 0, none⟩)) (q10 : ρ 10 = .int .i64 k) (q11 : ρ 11 = .int .i64 e) (q12 : ρ 12 = .int .i64 k) (q13 : ρ 13 = .int .i64 e)
    (hK : ∀ (ρ' : Sl) (w' : World), (∀ i, i < 10 → ρ' i = ρ i) → ρ' 126 = .bool false → Mod none_ w w' → K .normal ρ' w') : W fn_ Tryd.prog 132 dispatcherlaw15_CollPlays_R7 K ρ w := by
  refine dispatcherlaw15_CollPlays_R7_quiet (D := []) (fun w' => Mod none_ w w') ((Mod.refl _ w).drawn _) ?_
  unfold dispatcherlaw15_CollPlays_R7_Q
  rw [q1, q5, q6, q8, q10, q11, q12, q13]
  have hat : ∀ w', Mod none_ w w' → AcAt w' ⟨b8, 0, none⟩ a := fun w' hw => acAt_blk (hw.blk hb8 id)
  have fk : ∀ w' : World, (Instr.fieldAt tAc (.pointer (some ⟨b8, 0, none⟩)) 0).run Tryd.prog w' = .ok (.pointer (some ((⟨b8, 0, none⟩ : Addr).add 0))) w' := fun w' => run_fo oAc0 _ _
  have fr : ∀ w' : World, (Instr.fieldAt tAc (.pointer (some ⟨b8, 0, none⟩)) 1).run Tryd.prog w' = .ok (.pointer (some ((⟨b8, 0, none⟩ : Addr).add 2))) w' := fun w' => run_fo oAc1 _ _
  have fp : ∀ w' : World, (Instr.fieldAt tAc (.pointer (some ⟨b8, 0, none⟩)) 2).run Tryd.prog w' = .ok (.pointer (some ((⟨b8, 0, none⟩ : Addr).add 3))) w' := fun w' => run_fo oAc2 _ _
  have fg : ∀ (g : Addr) (w' : World), (Instr.fieldAt tG (.pointer (some g)) 0).run Tryd.prog w' = .ok (.pointer (some (g.add 0))) w' := fun g w' => run_fo (show fieldOff Tryd.prog tG 0 = some 0 by kernel_rfl) _ _
  have ldp : ∀ {g : Addr} {a : Ac} {w' : World}, AcAt w' g a → (Instr.loadAt tPt (.pointer (some (g.add 3)))).run Tryd.prog w' = .ok a.p.v w' := fun {g a w'} h => by
    refine run_ldA (cs := a.p.enc) Tryd.underlying34 rfl (by kernel_rfl) fun j v hj => ?_
    rw [add_add]
    refine h (3 + j) v ?_
    have hjl := (List.getElem?_eq_some_iff.1 hj).1
    unfold Ac.enc
    rw [List.getElem?_append_left (by simp only [List.length_append, List.length_cons, List.length_nil]; omega), List.getElem?_append_right (by simp)]
    simpa using hj
  have ldg : ∀ w', Mod none_ w w' → (Instr.loadAt tG (.pointer (some ((⟨b8, 0, none⟩ : Addr).add 0)))).run Tryd.prog w' = .ok (grpV a.key a.rv) w' := fun w' hw => by
    refine run_ldA (cs := [strV a.key, a.rv]) Tryd.underlying32 rfl (by kernel_rfl) fun j v hj => ?_
    rw [add_add]
    match j, hj with
    | 0, hj => exact hat w' hw 0 v hj
    | 1, hj => exact hat w' hw 1 v hj
    | n + 2, hj => simp at hj
  have hRR : ∀ w', Mod none_ w w' → RR w' a.rv a.ranks := fun w' hw => (hA.rk a ha).calm (hs.cs.mod.trans hw)
  have h8 := hsm.rk a ha
  obtain ⟨g0, hix0, hat0⟩ := acts_at hA h0
  have ne : ∀ a : Int, (a != a) = false := fun a => by simp
  refine Qneq ?_
  rw [ne]
  refine QGf (Qmv (QGf (Qmv (QGf (Qneq ?_)))))
  rw [ne]
  refine QPf ?_
  refine QGf (Qmv (QGf (QV_of (fun w' _ => fk w') (QGf (QV_of (fun w' _ => fg _ w') ?_)))))
  refine QGf (QV_of (fun w' hw => ac_key (hat w' hw)) (QGf (QV_of (fun w' _ => fr w') (QGf (QV_of (fun w' hw => ac_rank (hat w' hw)) (QGf ?_))))))
  refine QC_rt Tryd.func17 rfl rfl (v := .int .i64 (partsC L a.key a.rank).length) (fun w' hw => Many_ok (hs.cs.at_.calm hw) (hs.cs.at_.calm hw).hG a.key a.rank) (fun w' u w'' hw z => ⟨z.1, hw.trans z.2⟩) ?_
  refine QGf (Qmv (QGf (QV_of (fun w' _ => fk w') (QGf (QV_of (fun w' _ => fg _ w') ?_)))))
  refine QGf (QV_of (fun w' hw => ac_key (hat w' hw)) (QGf (QV_of (fun w' _ => fr w') (QGf (QV_of (fun w' hw => ac_rank (hat w' hw)) (QGf ?_))))))
  refine QC_rt Tryd.func18 rfl rfl (v := .int .i64 (partsC L a.key a.rank).length) (fun w' hw => ManyD_ok (hs.dt.calm hw) (by omega) a.key a.rank) (fun w' u w'' hw z => ⟨z.1, z.2 ▸ hw⟩) ?_
  refine QGf (Qneq ?_)
  rw [ne]
  refine QPf ?_
  refine QGf (QV_of (fun w' _ => fk w') (QGf (QV_of ldg (QGf (QV_of (fun w' _ => fp w') (QGf (QV_of (fun w' hw => ldp (hat w' hw)) (QGf ?_))))))))
  refine QC_rt Tryd.func19 rfl rfl (v := .bool (mayPt a.ranks.length a.p)) (fun w' hw => MayP_ok (key := a.key) (hRR w' hw) (by omega) a.p) (fun w' u w'' hw z => ⟨z.1, hw.trans z.2⟩) ?_
  refine QGf (QV_of (fun w' _ => fk w') (QGf (QV_of ldg (QGf (QV_of (fun w' _ => fp w') (QGf (QV_of (fun w' hw => ldp (hat w' hw)) (QGf ?_))))))))
  refine QC_rt Tryd.func20 rfl rfl (v := .bool (mayPt a.ranks.length a.p)) (fun w' hw => MayPD_ok (key := a.key) (hRR w' hw) a.p) (fun w' u w'' hw z => ⟨z.1, hw.trans z.2⟩) ?_
  refine QGf (QneB vB ?_)
  refine QPf ?_
  refine QGf (QV_of (fun w' _ => fp w') (QGf (QV_of (fun w' hw => ldp (hat w' hw)) (QGf (Qmv (QGf (QV_of (fun w' _ => hix0 w') ?_)))))))
  refine QGf (QV_of (fun w' _ => run_fo oAc2 _ _) (QGf (QV_of (fun w' hw => ldp (hat0 w' (hs.cs.mod.trans hw))) (QGf ?_))))
  refine QC_rt Tryd.func21 rfl rfl (v := .bool (fitPt a.p a0.p)) (fun w' hw => Fit_ok a.p a0.p w') (fun w' u w'' hw z => ⟨z.1, hw.trans z.2⟩) ?_
  refine QGf (QV_of (fun w' _ => fp w') (QGf (QV_of (fun w' hw => ldp (hat w' hw)) (QGf (Qmv (QGf (QV_of (fun w' _ => hix0 w') ?_)))))))
  refine QGf (QV_of (fun w' _ => run_fo oAc2 _ _) (QGf (QV_of (fun w' hw => ldp (hat0 w' (hs.cs.mod.trans hw))) (QGf ?_))))
  refine QC_rt Tryd.func22 rfl rfl (v := .bool (fitPt a.p a0.p)) (fun w' hw => FitD_ok a.p a0.p w') (fun w' u w'' hw z => ⟨z.1, hw.trans z.2⟩) ?_
  refine QGf (QneB vB ?_)
  refine QPf ?_
  intro w' hw
  refine hK _ w' (fun i hi => ?_) rfl hw
  repeat rw [up_at, if_neg (by omega)]
end
end Go.Proofs.YtandbmnhghmcgaaDoor.Col
set_option linter.unusedVariables false
set_option linter.unusedSimpArgs false
set_option maxRecDepth 8000
namespace Go.Proofs.YtandbmnhghmcgaaDoor.Col
open Go Go.X Go.RowKit Go.Proofs.YtandbmnhghmcgaaDoor.XF Go.Proofs.YtandbmnhghmcgaaDoor.XG Go.Proofs.YtandbmnhghmcgaaDoor.XI Go.Proofs.YtandbmnhghmcgaaDoor.XK
structure PlS (v : Value) (p q i : Nat) (ρ : Sl) : Prop where
  h1 : ρ 1 = v
  h5 : ρ 5 = .pointer (some ⟨p, 0, none⟩)
  h6 : ρ 6 = .pointer (some ⟨q, 0, none⟩)
  h7 : ρ 7 = .int .i64 i
section
variable {w0 w w' : World} {p q : Nat} {loose : Bool} {L : List Br} {V : CV} {xs : List Bq} {sv v : Value} {l : List Ac}
theorem CollPlays_ok (hgl : Gl w0) (hA : Acts w0 v l) (hcol : ∀ a ∈ l, -9223372036854775808 ≤ a.p.color ∧ a.p.color ≤ 9223372036854775807) (loose : Bool) : Rt Tryd.prog 4 #[.bool loose, v] w0 fun u w' => u = .bool true ∧ Mod none_ w0 w' := by
  refine dispatcherlaw15_CollPlays_calls ?_
  unfold dispatcherlaw15_CollPlays_F
  refine CK_st Tryd.func10 rfl rfl (Great_ok hA) ?_
  rintro _ w2 ⟨b, rfl, hb, hm02⟩
  cases b with
  | true => exact condT ⟨by first | trivial | rfl, hm02⟩
  | false =>
  refine condF ?_
  have hsm := hb rfl
  refine CK_st Tryd.func11 rfl rfl (New_ok w2 loose) ?_
  rintro _ w3 ⟨p, V, rfl, hc, hVe, _, hnew, hm3⟩
  have hc3 : Cs w0 w3 p loose [] V := ⟨hc, fun b hb => Nat.le_trans hm02.size (hnew b hb), hm02.trans hm3⟩
  rw [build_ok (bDc0 loose)]
  refine box_k (cs := #[.bool loose, nilS]) rfl fun w4 hb4 hm4 hz4 => ?_
  rw [BK_eqlP uC]
  simp only [Option.isNone_some]
  refine condF ?_
  have hs4 : Sd w0 w4 p w3.heap.size loose [] V [] nilS := ⟨hc3.calm hm4, ⟨hc3.mod.size, hb4, World.ownsRow_nil _ _ _ _, (fun x hx => by cases hx), rfl⟩⟩
  have h80 := hsm.len
  obtain ⟨Av, cv, ev, _⟩ := reads_cap hA.row
  refine W_loop dispatcherlaw15_CollPlays_L0_ok (fun ρ w' => ∃ (i p q : Nat) (L : List Br) (V : CV) (xs : List Bq) (sv : Value), i ≤ l.length ∧ PlS v p q i ρ ∧ Sd w0 w' p q loose L V xs sv ∧ L.length ≤ i ∧ (∀ b ∈ L, b.key.length ≤ 1000000 ∧ b.ranks.length ≤ 8)) (fun ρ _ => l.length - (intOf (ρ 7)).toNat)
    ⟨0, p, w3.heap.size, [], V, [], nilS, Nat.zero_le _, ⟨rfl, rfl, rfl, rfl⟩, hs4, Nat.le_refl _, (fun b hb => by cases hb)⟩ ?_
  rintro ρ w5 ⟨i, p, q, L, V, xs, sv, hi, es, hs, hLi, hbd⟩
  rw [dispatcherlaw15_CollPlays_L0_eq]; unfold dispatcherlaw15_CollPlays_L0_F
  rw [es.h7, es.h1, es.h5, es.h6, ev, len_sl vAcs, ← ev, BK_lss]
  by_cases hlt : i < l.length
  case neg =>
    obtain rfl : i = l.length := by omega
    rw [decide_eq_false (by omega)]
    refine condF ?_
    rw [sq_x, bk_x, sq_n, dispatcherlaw15_CollPlays_R1_eq]; unfold dispatcherlaw15_CollPlays_R1_F
    simp only [sq_n, sq_x, sq_r, bk_n, bk_r, bk_x, rt_r, rt_n, rs_0, rs_t, pk_1, pk_2, up_at, reduceIte, Nat.reduceEqDiff, es.h5, es.h6]
    refine CK_st Tryd.func24 rfl rfl (Odd_ok hs.cs.at_ (hgl.calm hs.cs.mod) (by omega) (fun b hb => (hbd b hb).1)) ?_
    rintro x w6 ⟨hx, hm6⟩
    have hs6 := hs.calm hm6
    have hgr : ∀ key g, grpC L key = some g → g.length ≤ 1000000 := fun key g hg => by
      obtain ⟨y, hy, _, hr⟩ := grpC_some hg
      rw [← hr]
      have := (hbd y hy).2
      omega
    have dt6 : DAt w6 w0.heap.size q loose L xs sv := hs6.dt
    have od := OddD_ok (w0 := w6) (B := w0.heap.size) dt6 (by omega) hgr (fun b hb => (hbd b hb).1)
    refine CK_st Tryd.func25 rfl rfl od ?_
    rintro y w7 ⟨hy, hm7⟩
    have hol := oddC_len L
    have hLL : L.length * L.length ≤ 80 * 80 := Nat.mul_le_mul (by omega) (by omega)
    refine CK_st Tryd.func23 rfl rfl (texts_ok (reads_mod (reads_of_owns hx) hm7 (fun _ _ _ => id)) hy rfl (by omega)) ?_
    rintro _ w8 ⟨rfl, hm8⟩
    exact ⟨rfl, (hs6.cs.mod.trans hm7).trans hm8⟩
  rw [decide_eq_true (by omega)]
  refine condT ?_
  have hx : l[i]? = some l[i] := List.getElem?_eq_getElem hlt
  have hmem : l[i] ∈ l := List.getElem_mem hlt
  obtain ⟨a0, h0⟩ : ∃ a0, l[0]? = some a0 := ⟨_, List.getElem?_eq_getElem (by omega)⟩
  generalize l[i] = a at *
  obtain ⟨g, hix, hat⟩ := acts_at hA hx
  have hat4 := hat w5 hs.cs.mod
  refine VK_of (hix _) (VK_of (run_ldA (cs := a.enc) Tryd.underlying36 rfl (by kernel_rfl) hat4) ?_)
  have hRR : ∀ w', Mod none_ w0 w' → RR w' a.rv a.ranks := fun w' hw => (hA.rk a hmem).calm hw
  refine lcl_k (cs := a.enc.toArray) zAc _ iAc rfl (zAc_one a (ac_one (hA.rk a hmem))) fun w6 hb6 hm6 hz6 => ?_
  have hs6 := hs.calm hm6
  have h6 := acAt_blk hb6
  have hrk8 := hsm.rk a hmem
  have hky := hsm.key a hmem
  simp only [↓(fC3 h6).e]
  have nxt : ∀ {N : Sl → World → Prop} {K0 : Exit → Sl → World → Prop} {ρ2 : Sl} {w7 : World} {p' q' : Nat}, PlS v p' q' i ρ2 → (∀ ρ3 : Sl, PlS v p' q' (i + 1) ρ3 → N ρ3 w7) → sx fn_ Tryd.prog 132 dispatcherlaw15_CollPlays_R2 (seqK N K0) ρ2 w7 := by
    intro N K0 ρ2 w7 p' q' e2 hN
    rw [dispatcherlaw15_CollPlays_R2_eq]; unfold dispatcherlaw15_CollPlays_R2_F
    rw [e2.h7, BK_add, wrap_i (by omega) (by omega)]
    exact hN _ ⟨e2.h1, e2.h5, e2.h6, rfl⟩
  cases hcp : a.copy with
  | true =>
    refine condT ?_
    refine CK_st Tryd.func15 rfl rfl (Copy_ok hs6.cs.at_ (by omega)) ?_
    rintro _ w7 ⟨p', V', rfl, hC', hCn, hm7⟩
    have hs7 := hs6.calm hm7
    refine CK_st Tryd.func16 rfl rfl (CopyCD_ok hs7.dt hs7.cs.mod.size (by omega) (dt_one hs7.dt)) ?_
    rintro _ w8 ⟨q', sv', rfl, hD', hm8⟩
    have hs8 := hs7.calm hm8
    have hcs8 : Cs w0 w8 p' loose L V' := ⟨hC'.calm hm8, fun b hb => Nat.le_trans hs6.cs.mod.size (hCn b hb), hs8.cs.mod⟩
    have h8 := acAt_blk ((hm7.trans hm8).blk hb6 id)
    simp only [↓(fC0 h8).e, ↓(fC1 h8).e, ↓(fC2 h8).e]
    refine CK_st Tryd.func12 rfl rfl (Bring_ok (b := a.br) hs8.cs.at_ (by omega) (hRR _ hs8.cs.mod) (by show a.ranks.length ≤ 1000; omega)) ?_
    rintro _ w9 ⟨rfl, V9, hc9, hf9⟩
    have hold := hs8.cs.put hc9 hf9
    have hcs9 : Cs w0 w9 p' loose L V' := ⟨hcs8.at_.beside hs8.cs.at_ (fun b hb z => by have := hCn b hb; have := hs6.cs.at_.old z; omega) hf9, hcs8.new, hold.mod⟩
    have hs9 : Sd w0 w9 p' q' loose L V' xs sv' := ⟨hcs9, hD'.bring hs8.cs.at_ hf9⟩
    rw [dispatcherlaw15_CollPlays_R3_eq]; unfold dispatcherlaw15_CollPlays_R3_F
    simp only [sq_n, sq_x, sq_r, bk_n, bk_r, bk_x, rt_r, rt_n, rs_0, rs_t, pk_1, pk_2, up_at, reduceIte, Nat.reduceEqDiff]
    rw [BK_eqlP uC]
    simp only [Option.isNone_some]
    refine condF ?_
    try rw [sq_x]
    try rw [bk_x]
    try rw [sq_n]
    refine nxt (p' := p') (q' := q') ⟨?_, rfl, rfl, ?_⟩ fun ρ3 e3 => ⟨⟨i + 1, p', q', L, V', xs, sv', hlt, e3, hs9, by omega, hbd⟩, ?_⟩
    · exact es.h1
    · exact es.h7
    · rw [e3.h7]; simp only [intOf]; omega
  | false =>
    refine condF ?_
    simp only [↓(fC0 h6).e, ↓(fC1 h6).e, ↓(fC2 h6).e]
    refine CK_st Tryd.func12 rfl rfl (Bring_ok (b := a.br) hs6.cs.at_ (by omega) (hRR _ hs6.cs.mod) (by show a.ranks.length ≤ 1000; omega)) ?_
    rintro _ w7 ⟨rfl, V7, hc7, hf7⟩
    rw [extract_ok (v := .int .i64 (bringC L a.br).2.1) rfl, extract_ok (v := .int .i64 (bringC L a.br).2.2) rfl]
    have hcs7 := hs6.cs.put hc7 hf7
    have hdt7 := hs6.dt.bring hs6.cs.at_ hf7
    have hb7 := keepB hs6.cs.at_ hf7 (by decide) (by decide) (by decide) (by decide) hb6
    rw [dispatcherlaw15_CollPlays_R5_eq]; unfold dispatcherlaw15_CollPlays_R5_F
    have h7 := acAt_blk hb7
    simp only [sq_n, sq_x, sq_r, bk_n, bk_r, bk_x, rt_r, rt_n, rs_0, rs_t, pk_1, pk_2, up_at, reduceIte, Nat.reduceEqDiff, es.h6]
    simp only [↓(fC0 h7).e, ↓(fC1 h7).e, ↓(fC2 h7).e]
    refine CK_st Tryd.func13 rfl rfl (BringD_ok (b := a.br) hdt7 hcs7.mod.size (by omega) (hRR _ hcs7.mod) (by show a.ranks.length ≤ 64; omega)) ?_
    rintro _ w8 ⟨rfl, xs8, sv8, hD8, hm8⟩
    rw [extract_ok (v := .int .i64 (bringC L a.br).2.1) rfl, extract_ok (v := .int .i64 (bringC L a.br).2.2) rfl]
    have hs8 := Sd.dmod hcs7 hdt7 hm8 hD8
    have hb8 := hm8.blk hb7 fun z => by
      rcases z with z | z
      · rw [z] at hb7; exact isT_ne ⟨_, _, hb7⟩ ⟨_, _, hdt7.blk⟩ (by decide)
      · exact isT_ne ⟨_, _, hb7⟩ (isT_own hdt7.row z) (by decide)
    have hLl := bringC_len L a.br
    have hbd' : ∀ b ∈ (bringC L a.br).1, b.key.length ≤ 1000000 ∧ b.ranks.length ≤ 8 := fun b hb => (bringC_mem hb).elim (hbd b) fun z => by
      rw [z]
      exact ⟨by show a.key.length ≤ _; omega, hrk8⟩
    refine plays_R7 hs8 hA hsm (by omega) hmem h0 hb8 ?_ ?_ ?_ rfl rfl rfl rfl rfl ?_
    · exact es.h1
    · exact es.h5
    · exact es.h6
    intro ρ2 w9 s2 z126 hm9
    try rw [sq_n]
    rw [dispatcherlaw15_CollPlays_R8_eq]; unfold dispatcherlaw15_CollPlays_R8_F
    rw [z126]
    refine condF ?_
    try rw [bk_n, sq_n]
    refine nxt (p' := p) (q' := q) ⟨(s2 1 (by decide)).trans ?_, (s2 5 (by decide)).trans ?_, (s2 6 (by decide)).trans ?_, (s2 7 (by decide)).trans ?_⟩ fun ρ3 e3 => ⟨⟨i + 1, p, q, _, V7, xs8, sv8, hlt, e3, hs8.calm hm9, by omega, hbd'⟩, ?_⟩
    · exact es.h1
    · exact es.h5
    · exact es.h6
    · exact es.h7
    · rw [e3.h7]; simp only [intOf]; omega
end
end Go.Proofs.YtandbmnhghmcgaaDoor.Col
set_option linter.unusedVariables false
set_option maxRecDepth 8000
namespace Go.X
open Go Go.RowKit
def in64 (n : Int) : Prop := -9223372036854775808 ≤ n ∧ n ≤ 9223372036854775807
theorem in64_of {n : Int} (h : (Lit.int .i64 n).wf = true) : in64 n := by
  simp [Lit.wf, IntKind.min, IntKind.max, IntKind.signed, IntKind.bits, IntKind.has] at h
  unfold in64
  omega
end Go.X
namespace Go.Proofs.YtandbmnhghmcgaaDoor.Col
open Go Go.X Go.RowKit
def shPt : Sh Pt := ⟨6, fun w p cs => cs = p.enc ∧ in64 p.color ∧ in64 p.val⟩
def shAc : Sh Ac := ⟨10, fun w a cs => cs = a.enc ∧ RR w a.rv a.ranks ∧ in64 a.p.color⟩
theorem strV_back (b : ByteArray) : strV b.data.toList = .string b := by unfold strV; rw [Array.toArray_toList]
theorem opensPt (n : Nat) : OpensAt Tryd.prog n shPt 34 :=
  opens_as (opens_struct Tryd.underlying34 (by kernel_rfl) (fun m _ => fields_cons rfl (by kernel_rfl) (opens_int Tryd.underlying5) (fields_cons rfl (by kernel_rfl) (opens_int Tryd.underlying3) (fields_cons rfl (by kernel_rfl) (opens_int Tryd.underlying5)
    (fields_cons rfl (by kernel_rfl) (opens_int Tryd.underlying2) (fields_cons rfl (by kernel_rfl) (opens_int Tryd.underlying3) (fields_one rfl (by kernel_rfl) (opens_int Tryd.underlying3))))))))
    (fun x => (⟨x.1, x.2.1, x.2.2.1, x.2.2.2.1, x.2.2.2.2.1, x.2.2.2.2.2⟩ : Pt))
    (fun w v cs h => by
      obtain ⟨c0, d0, rfl, _, ⟨rfl, h0⟩, c1, d1, rfl, _, ⟨rfl, h1⟩, c2, d2, rfl, _, ⟨rfl, h2⟩, c3, d3, rfl, _, ⟨rfl, h3⟩, c4, d4, rfl, _, ⟨rfl, h4⟩, ⟨h5, h6⟩⟩ := h
      subst h5
      exact ⟨rfl, in64_of h4, in64_of h3⟩)
def shG : Sh ((Value × List Int) × ByteArray) := ⟨2, fun w x cs => cs = [.string x.2, x.1.1] ∧ RR w x.1.1 x.1.2⟩
theorem RR_of {w : World} {x : Value × List Int} {cs : List Value} (h : (Sh.slice (Sh.int .i64)).K w x cs) : cs = [x.1] ∧ RR w x.1 x.2 := by
  refine ⟨h.1, ?_⟩
  have := reads_sh h (fun g => [Value.int .i64 g]) (fun _ => rfl) (fun _ _ hd => hd.1)
  have e : ∀ l : List Int, (l.flatMap fun g => [Value.int .i64 g]) = ints l := fun l => by
    unfold ints
    induction l with
    | nil => rfl
    | cons a l ih => rw [List.flatMap_cons, ih]; rfl
  rw [e] at this
  exact this
theorem opensG (n : Nat) : OpensAt Tryd.prog n shG tG :=
  opens_as (opens_struct Tryd.underlying32 (by kernel_rfl) (fun m _ => fields_cons rfl (by kernel_rfl) (opens_string Tryd.underlying9) (fields_one rfl (by kernel_rfl) (opens_slice vIs (by kernel_rfl) (fun m _ => opens_int vI)))))
    (fun x => ((x.2.1, x.2.2), x.1))
    (fun w v cs h => by
      obtain ⟨c0, d0, rfl, _, ⟨rfl, h0⟩, h1⟩ := h
      obtain ⟨e, hr⟩ := RR_of h1
      subst e
      exact ⟨rfl, hr⟩)
theorem opensAc (n : Nat) : OpensAt Tryd.prog n shAc tAc :=
  opens_as (opens_struct Tryd.underlying36 (by kernel_rfl) (fun m _ => fields_cons rfl (by kernel_rfl) (opensG m) (fields_cons rfl (by kernel_rfl) (opens_int Tryd.underlying3) (fields_cons rfl (by kernel_rfl) (opensPt m) (fields_one rfl (by kernel_rfl) (opens_bool Tryd.underlying4))))))
    (fun x => (⟨x.1.2.data.toList, x.1.1.1, x.1.1.2, x.2.1, x.2.2.1, x.2.2.2⟩ : Ac))
    (fun w v cs h => by
      obtain ⟨c0, d0, rfl, _, ⟨h0, h0r⟩, c1, d1, rfl, _, ⟨rfl, h1⟩, c2, d2, rfl, _, ⟨h2, h2c, _⟩, h3⟩ := h
      subst h0 h2 h3
      refine ⟨?_, h0r, h2c⟩
      show _ = Ac.enc _
      simp only [Ac.enc, strV_back]
      rfl)
theorem opensAcs (n : Nat) : OpensAt Tryd.prog n (Sh.slice shAc) tAcs := opens_slice vAcs (by kernel_rfl) (fun m _ => opensAc m)
theorem sh_mem {α : Type} {k : Sh α} {w : World} {x : Value × List α} {cs : List Value} (h : (Sh.slice k).K w x cs) : ∀ a ∈ x.2, ∃ d, k.K w a d := by
  intro a ha
  obtain ⟨_, _, A, c, hv, hc, hr⟩ := h
  obtain ⟨i, hi⟩ := List.getElem?_of_mem ha
  obtain ⟨_, d, _, _, hd, _⟩ := hr i a hi
  exact ⟨d, hd⟩
theorem Acts_of {w : World} {x : Value × List Ac} {cs : List Value} (h : (Sh.slice shAc).K w x cs) : Acts w x.1 x.2 ∧ ∀ a ∈ x.2, in64 a.p.color :=
  ⟨⟨reads_sh h Ac.enc (fun _ => rfl) (fun _ _ hd => hd.1), fun a ha => by obtain ⟨d, hd⟩ := sh_mem h a ha; exact hd.2.1⟩, fun a ha => by obtain ⟨d, hd⟩ := sh_mem h a ha; exact hd.2.2⟩
theorem gl_of {W : World} (h : laidMetH Tryd.prog [("math/bits.deBruijn32tab", Rows.laid_math_bits_deBruijn32tab), ("math/bits.deBruijn64tab", Rows.laid_math_bits_deBruijn64tab), ("internal/strconv.uint64pow10", Rows.laid_internal_strconv_uint64pow10)] W) : Gl W := by
  rw [MakeChecks.laidMetH_plain _ _ _ (by kernel_rfl)] at h
  obtain ⟨ps, ⟨g, t, cs, fuel, p, q, hg, ht, hv, hd, ⟨g2, t2, cs2, fuel2, p2, q2, hg2, ht2, hv2, hd2, ⟨g3, t3, cs3, fuel3, p3, q3, hg3, ht3, hv3, hd3, _, _⟩, _⟩, _⟩, _⟩ := h
  obtain rfl := Option.some.inj ((show Tryd.prog.globalNamed "internal/strconv.uint64pow10" = some 0 by kernel_rfl).symm.trans hg3)
  obtain rfl := Option.some.inj ((show (Tryd.prog.globals[0]?).map (·.type) = some 175 by kernel_rfl).symm.trans ht3)
  have hc := Lib.cells_of_tab (zs := Lib.pow10Tab) (show Tryd.prog.underlying 175 = some (.array 20 154) by kernel_rfl) (show Tryd.prog.underlying 154 = some (.int .u64) by kernel_rfl) (by kernel_rfl) (by kernel_rfl) (show DataW.trod _ _ _ _ _ _ _ _ _ = some (Lib.tabData .u64 Lib.pow10Tab, _) from hd3)
  unfold Gl Lib.TabIs
  rw [hv3, ← hc]
set_option maxRecDepth 100000 in
theorem bool_of {W : World} {B : Nat} {v : Value} (h : Value.okWide Tryd.prog W .any B 4 v) : ∃ b, v = .bool b := by
  simp only [Value.okWide, vB, Cell.okWide] at h
  cases v <;> simp_all [Cell.ok]
set_option maxRecDepth 100000 in
theorem str_of {W : World} {B : Nat} {v : Value} (h : Value.okWide Tryd.prog W .any B 9 v) : ∃ k : Ky, v = strV k := by
  simp only [Value.okWide, vS, Cell.okWide] at h
  cases v <;> simp_all [Cell.ok]
  exact ⟨_, (strV_back _).symm⟩
end Go.Proofs.YtandbmnhghmcgaaDoor.Col
