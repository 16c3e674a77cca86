/- ScopeTells. -/
import Derived.Test.YtbnbcimjapiicaaDoorSN
import Derived.Lib.SliceRun
set_option linter.unusedVariables false
set_option linter.unusedSimpArgs false
set_option maxRecDepth 4000
namespace Go.X
open Go Go.RowKit
/-- Elements of a slice that is there, behind one's own; none is as well. -/
theorem ap_some {P : Program} {w : World} {K : Value → World → Prop} {t ty e : TypeId} {size bytes base : Nat} (hE : elemOk P t e size bytes = true) {v : Value} {n : Nat} {xs : List Value} (hown : w.ownsRow base e size v n xs) {a : Addr} {m c : Nat} {news : List Value} (hr : reads w size (.slice (some a) m c) m news) (h1 : ∀ u ∈ news, u.oneCell' = true)
    (h63 : n + m ≤ maxLen) (hbytes : (n + m) * bytes ≤ 140737488355328) (hbase : base ≤ w.heap.size)
    (hk : ∀ v' w', w'.ownsRow base e size v' (n + m) (xs ++ news) → Mod (fun k => some k = v.ownBlock) w w' → K v' w') : IK P .append #[t, t] ty [false, false] [v, .slice (some a) m c] w K := by
  unfold elemOk at hE
  split at hE
  · rename_i e' i hu hi
    simp only [Bool.and_eq_true, beq_iff_eq] at hE
    obtain ⟨⟨⟨⟨rfl, hz⟩, hs⟩, hb⟩, hp⟩ := hE
    split at hz
    · rename_i z hzz
      have hz : z.cells.size = size := by simpa using hz
      have hpos : 0 < size := Nat.le_of_ble_eq_true hp
      obtain ⟨hl, A, c', q, _, hrd⟩ := hr
      cases q
      obtain ⟨v', w', hrun, h2, h3, h4, h5⟩ := run_append_own_at (P := P) w base t ty _ i z size bytes hu hi hzz hs hb hz hpos v n xs hown a m c news hl (fun j u hj => by obtain ⟨a', ha, hc⟩ := hrd j u hj; cases ha; exact hc) h1 h63 hbytes hbase
      exact IK_of (s := Builtin.append_ #[t, t] ty #[v, .slice (some a) m c]) rfl hrun (hk v' w' h2 (Mod.ofGrown h3))
    · cases hz
  · cases hE
/-- A slice literal without elements. -/
theorem bs0_k {P : Program} {w : World} {K : Value → World → Prop} {t e : TypeId} {n : Nat} (hu : P.underlying t = some (.slice e)) (hi : (P.info? e).map (·.size) = some n)
    (hk : ∀ w', w'.heap[w.heap.size]? = some (.cells #[] e (0, 0)) → Mod none_ w w' → w'.heap.size = w.heap.size + 1 → K (.slice (some ⟨w.heap.size, 0, none⟩) 0 0) w') : VK P (Instr.buildSlice t 0 [].toArray) w K := by
  obtain ⟨ie, hie, _⟩ := Option.map_eq_some_iff.1 hi
  have hr : (Instr.buildSlice t 0 [].toArray).run P w = .ok (.slice (some ⟨w.heap.size, 0, none⟩) 0 0) (w.alloc (.cells #[] e)) := by
    simp [Instr.buildSlice, Sem.run_bind, run_underlying hu, sizeOf, typeInfo, hie, Instr.fill, newRow]
    rw [Array.eq_empty_of_size_eq_zero (xs := Array.map _ (Array.range 0)) (by simp)]
  exact VK_of hr (new_k w _ hk)
/-- A row of one's own, without elements. -/
theorem owns_zero {w : World} {b : Nat} {e : TypeId} {size base : Nat} (h : w.heap[b]? = some (.cells #[] e (0, 0))) (hb : base ≤ b) : w.ownsRow base e size (.slice (some ⟨b, 0, none⟩) 0 0) 0 [] :=
  ⟨by simp, .inr ⟨b, 0, #[], rfl, hb, h, Nat.le_refl _, Nat.zero_le _, by simp, by simp⟩⟩
/-- One cell of a row of one's own, stored. -/
theorem put_row {P : Program} {w : World} {K : Value → Value → World → Prop} {t e : TypeId} {base n i : Nat} {v u : Value} {xs : List Value} (hu : P.underlying t = some (.slice e)) (hc : P.cellsOf e = 0 + 1) (hv : u.oneCell' = true) (hown : w.ownsRow base e 1 v n xs) (hi : i < n)
    (hk : ∀ x w', w'.ownsRow base e 1 v n (xs.set i u) → Mod (fun b => some b = v.ownBlock) w w' → K x undef w') : VK P (Instr.indexAt t v (.int .i64 (i : Int))) w fun x w => UK P (Instr.storeAt e x u) w (K x) := by
  obtain ⟨g, cap, rfl, cur, hb⟩ := owns_some hown (by omega)
  rw [ixa hu hc (by omega) (by omega), add_pl]
  simp only [Int.toNat_natCast, Nat.zero_add, Nat.mul_one]
  refine st_row hc hv hown (by omega) fun w' h1 h2 => hk _ _ h1 (h2.mono fun _ _ q => by rw [q]; rfl)
end Go.X
namespace Go.Proofs.YtbnbcimjapiicaaDoor.Tr
open Go Go.X Go.RowKit Go.Proofs.YtbnbcimjapiicaaDoor.XG Go.Proofs.YtbnbcimjapiicaaDoor.XK

theorem BK_slN {t e : TypeId} (h : Tryd.prog.underlying t = some (.slice e)) {w : World} {K : Value → World → Prop} {x y : Operand} (a : Option Addr) (n c : Nat) : BK Tryd.prog .eql t x y (.slice a n c) (.slice none 0 0) w K = K (.bool a.isNone) w :=
  BK_of rfl (Lib.run_eql_slice_nil w t e a n c 0 0 h)
theorem CloneI_ok {w : World} {v : Value} {n : Nat} {xs : List Int} (h : reads w 1 v n (xs.map (.int .i64))) (hn : n ≤ 1099511627776) : Rt Tryd.prog 47 #[v] w fun v' w' => w'.ownsRow w.heap.size 3 1 v' n (xs.map (.int .i64)) ∧ Mod none_ w w' := by
  obtain ⟨A, c, rfl, hnc⟩ := reads_cap h
  refine slices_Clone_int_int_calls ?_
  unfold slices_Clone_int_int_F
  rw [BK_slN uIs]
  cases A with
  | none =>
    refine condT ⟨?_, Mod.refl _ _⟩
    have h0 : (xs.map (Value.int .i64)) = [] := by
      obtain ⟨hl, A', c', q, _, hr⟩ := h
      cases q
      rcases Nat.eq_zero_or_pos (xs.map (Value.int .i64)).length with q | q
      · exact List.length_eq_zero_iff.1 q
      · obtain ⟨a, ha, _⟩ := hr 0 _ (List.getElem?_eq_getElem q)
        cases ha
    have hn0 : n = 0 := by have := h.1; rw [h0] at this; simp at this; omega
    rw [h0, hn0]
    exact ⟨rfl, .inl ⟨rfl, rfl⟩⟩
  | some a =>
    refine condF ?_
    refine bs0_k uIs (show (Tryd.prog.info? 3).map (·.size) = some 1 by kernel_rfl) fun w1 hb1 hm1 hz1 => ?_
    have hown : w1.ownsRow w.heap.size 3 1 (.slice (some ⟨w.heap.size, 0, none⟩) 0 0) 0 [] := owns_zero hb1 (Nat.le_refl _)
    refine ap_some eIs hown (reads_mod h hm1 (fun _ _ _ => id)) (by simp [Value.oneCell']) (by unfold maxLen; omega) (by omega) (by omega) fun v' w' h2 hm2 => ?_
    refine ⟨by simpa using h2, hm1.then hm2 fun i hi q => ?_⟩
    have : i = w.heap.size := by simpa [Value.ownBlock] using q
    omega
theorem CloneS_ok {w : World} {v : Value} {n : Nat} {xs : List ByteArray} (h : reads w 1 v n (xs.map .string)) (hn : n ≤ 1099511627776) : Rt Tryd.prog 48 #[v] w fun v' w' => w'.ownsRow w.heap.size 9 1 v' n (xs.map .string) ∧ Mod none_ w w' := by
  obtain ⟨A, c, rfl, hnc⟩ := reads_cap h
  refine slices_Clone_string_string_calls ?_
  unfold slices_Clone_string_string_F
  rw [BK_slN uSs]
  cases A with
  | none =>
    refine condT ⟨?_, Mod.refl _ _⟩
    have h0 : (xs.map Value.string) = [] := by
      obtain ⟨hl, A', c', q, _, hr⟩ := h
      cases q
      rcases Nat.eq_zero_or_pos (xs.map Value.string).length with q | q
      · exact List.length_eq_zero_iff.1 q
      · obtain ⟨a, ha, _⟩ := hr 0 _ (List.getElem?_eq_getElem q)
        cases ha
    have hn0 : n = 0 := by have := h.1; rw [h0] at this; simp at this; omega
    rw [h0, hn0]
    exact ⟨rfl, .inl ⟨rfl, rfl⟩⟩
  | some a =>
    refine condF ?_
    refine bs0_k uSs (show (Tryd.prog.info? 9).map (·.size) = some 1 by kernel_rfl) fun w1 hb1 hm1 hz1 => ?_
    have hown : w1.ownsRow w.heap.size 9 1 (.slice (some ⟨w.heap.size, 0, none⟩) 0 0) 0 [] := owns_zero hb1 (Nat.le_refl _)
    refine ap_some eSs hown (reads_mod h hm1 (fun _ _ _ => id)) (by simp [Value.oneCell']) (by unfold maxLen; omega) (by omega) (by omega) fun v' w' h2 hm2 => ?_
    refine ⟨by simpa using h2, hm1.then hm2 fun i hi q => ?_⟩
    have : i = w.heap.size := by simpa [Value.ownBlock] using q
    omega
section
variable {w : World} {base t : Nat} {ds : List De}
theorem VarsT_ok (h : TbAt w base t ds) : Rt Tryd.prog 22 #[pt t] w fun v w' => v = .int .i64 (vars ds) ∧ Mod none_ w w' := by
  obtain ⟨nv, av, m, l, c, hR, _⟩ := h.raw
  refine scope_Table_Vars_calls ?_
  unfold scope_Table_Vars_F
  rw [BK_eqlP uTp]
  refine condF ?_
  rw [NK_ptr]
  have f : FAt Tryd.prog w 71 2 ⟨t, 0, none⟩ 3 (.int .i64 (vars ds)) := FAt.mk' (off := 2) (by kernel_rfl) uI rfl (by rw [add_pl, cell_blk hR.bt]; rfl)
  refine f.vk' fun _ => ⟨rfl, Mod.refl _ _⟩
theorem ArraysT_ok (h : TbAt w base t ds) (hl : ds.length ≤ 1099511627776) : Rt Tryd.prog 23 #[pt t] w fun v w' => w'.ownsRow w.heap.size 3 1 v (arrs ds).length ((arrs ds).map (.int .i64)) ∧ Mod none_ w w' := by
  obtain ⟨nv, av, m, l, c, hR, _⟩ := h.raw
  refine scope_Table_Arrays_calls ?_
  unfold scope_Table_Arrays_F
  rw [BK_eqlP uTp]
  refine condF ?_
  rw [NK_ptr]
  have f : FAt Tryd.prog w 71 3 ⟨t, 0, none⟩ 50 av := FAt.mk' (off := 3) (by kernel_rfl) uIs rfl (by rw [add_pl, cell_blk hR.bt]; rfl)
  refine f.vk' fun _ => ?_
  have hoa := reads_of_owns hR.oa
  rw [List.length_map] at hoa
  have := arrs_le ds
  exact CK_st Tryd.func47 rfl rfl (CloneI_ok hoa (by omega)) fun v w' h => h
theorem NamesT_ok (h : TbAt w base t ds) (hl : ds.length ≤ 1099511627776) : Rt Tryd.prog 24 #[pt t] w fun v w' => w'.ownsRow w.heap.size 9 1 v ds.length ((ds.map De.name).map .string) ∧ Mod none_ w w' := by
  obtain ⟨nv, av, m, l, c, hR, _⟩ := h.raw
  refine scope_Table_Names_calls ?_
  unfold scope_Table_Names_F
  rw [BK_eqlP uTp]
  refine condF ?_
  rw [NK_ptr]
  have f : FAt Tryd.prog w 71 0 ⟨t, 0, none⟩ 52 nv := FAt.mk' (off := 0) (by kernel_rfl) uSs rfl (by rw [add_pl, cell_blk hR.bt]; rfl)
  refine f.vk' fun _ => ?_
  have hon := reads_of_owns hR.on
  rw [List.length_map, show (ds.map fun d => Value.string d.name) = (ds.map De.name).map .string by rw [List.map_map]; rfl] at hon
  exact CK_st Tryd.func48 rfl rfl (CloneS_ok hon hl) fun v w' h => h
end
theorem VarsN_ok {w : World} : Rt Tryd.prog 22 #[.pointer none] w fun v w' => v = .int .i64 0 ∧ w' = w := by
  refine scope_Table_Vars_calls ?_
  unfold scope_Table_Vars_F
  rw [BK_eqlP uTp]
  exact condT ⟨rfl, rfl⟩
theorem ArraysN_ok {w : World} : Rt Tryd.prog 23 #[.pointer none] w fun v w' => v = .slice none 0 0 ∧ w' = w := by
  refine scope_Table_Arrays_calls ?_
  unfold scope_Table_Arrays_F
  rw [BK_eqlP uTp]
  exact condT ⟨rfl, rfl⟩
theorem NamesN_ok {w : World} : Rt Tryd.prog 24 #[.pointer none] w fun v w' => v = .slice none 0 0 ∧ w' = w := by
  refine scope_Table_Names_calls ?_
  unfold scope_Table_Names_F
  rw [BK_eqlP uTp]
  exact condT ⟨rfl, rfl⟩
theorem ArraysR_ok {w : World} {l : List De} {s : Value} (h : DesOk w s l) (hlen : l.length ≤ 1099511627776) (hall : ∀ d ∈ l, d.may = true) : Rt Tryd.prog 25 #[s] w fun v w' => w'.ownsRow w.heap.size 3 1 v (arrs l).length ((arrs l).map (.int .i64)) ∧ Mod none_ w w' := by
  obtain ⟨A, c, hs, _⟩ := reads_cap h.1
  refine dispatcherref04_Arrays_calls ?_
  unfold dispatcherref04_Arrays_F
  refine W_loop dispatcherref04_Arrays_L0_ok (fun ρ w' => ∃ n : Nat, n ≤ l.length ∧ ρ 4 = .int .i64 n ∧ ρ 0 = .slice A l.length c ∧ w'.ownsRow w.heap.size 3 1 (ρ 3) (arrs (l.take n)).length ((arrs (l.take n)).map (.int .i64)) ∧ Mod none_ w w') (fun ρ _ => l.length - (intOf (ρ 4)).toNat)
    ⟨0, Nat.zero_le _, rfl, hs, ⟨rfl, .inl ⟨rfl, rfl⟩⟩, Mod.refl _ _⟩ ?_
  rintro ρ w2 ⟨n, hn, h4, h0, hown, hm⟩
  have h2 := h.mod hm
  rw [hs] at h2
  rw [dispatcherref04_Arrays_L0_eq]
  unfold dispatcherref04_Arrays_L0_F
  rw [h0, h4, len22]
  refine BKlss (a := n) (b := l.length) rfl rfl ?_
  by_cases hlt : n < l.length
  · rw [show decide ((n : Int) < (l.length : Int)) = true by rw [decide_eq_true_eq]; omega]
    refine condT ?_
    have hx : l[n]? = some l[n] := List.getElem?_eq_getElem hlt
    have hp := may_places (hall _ (List.getElem_mem hlt))
    have fin : ∀ (K : Exit → Sl → World → Prop) (ρ' : Sl) (w' : World), ρ' 4 = .int .i64 n → (∀ x14 x15, K Exit.normal (up (up (up ρ' 9 x14) 10 x15) 4 (.int .i64 ((n : Int) + 1))) w') → sx fn_ Tryd.prog 26 dispatcherref04_Arrays_R2 K ρ' w' := by
      intro K ρ' w' q hk
      rw [dispatcherref04_Arrays_R2_eq]
      unfold dispatcherref04_Arrays_R2_F
      exact BKadd (a := n) (b := 1) q rfl (by omega) (by omega) (hk _ _)
    have ha := arrs_le (l.take n)
    have htl : (l.take n).length = n := by rw [List.length_take]; omega
    refine ixDeA h2 hx fun a ha => ?_
    have d1 : FAt Tryd.prog w2 40 1 a 3 (.int .i64 l[n].places) := FAt.mk' (off := 1) (by kernel_rfl) uI rfl (ha 1 _ rfl)
    refine d1.vk' fun _ => ?_
    refine BKgtr (a := l[n].places) (b := 0) rfl rfl ?_
    refine caseC (fun hq => ?_) (fun hq => ?_)
    · have hiv : isV l[n] = false := decide_eq_false (by have := of_decide_eq_true hq; omega)
      refine ixDeA h2 hx fun a' ha' => ?_
      have d1' : FAt Tryd.prog w2 40 1 a' 3 (.int .i64 l[n].places) := FAt.mk' (off := 1) (by kernel_rfl) uI rfl (ha' 1 _ rfl)
      refine d1'.vk' fun _ => ?_
      refine snoc (cs := #[.int .i64 l[n].places]) eIs hown (by kernel_rfl) rfl (by simp [Value.oneCell']) (by unfold maxLen; omega) (by omega) hm.size fun y v' w3 h3 hm3 _ => ?_
      refine fin _ _ _ ?_ fun x14 x15 => ⟨⟨n + 1, hlt, rfl, h0, ?_, hm.then hm3 fun i hi q => ?_⟩, ?_⟩
      · exact h4
      · show World.ownsRow _ _ _ _ v' _ _
        rw [take_succ hlt, arrs_snoc, hiv]
        simpa using h3
      · have := owns_ge hown q.symm
        omega
      · show l.length - (intOf (Value.int .i64 ((n : Int) + 1))).toNat < _
        simp only [intOf]; omega
    · have hiv : isV l[n] = true := decide_eq_true (by have := of_decide_eq_false hq; omega)
      refine fin _ _ _ ?_ fun x14 x15 => ⟨⟨n + 1, hlt, rfl, h0, ?_, hm⟩, ?_⟩
      · exact h4
      · show World.ownsRow _ _ _ _ (ρ 3) _ _
        rw [take_succ hlt, arrs_snoc, hiv]
        simpa using hown
      · show l.length - (intOf (Value.int .i64 ((n : Int) + 1))).toNat < _
        simp only [intOf]; omega
  · obtain rfl : n = l.length := by omega
    rw [show decide (((l.length : Nat) : Int) < (l.length : Int)) = false by simp]
    refine condF ?_
    rw [sq_x, bk_x, sq_n, dispatcherref04_Arrays_R1_eq]
    unfold dispatcherref04_Arrays_R1_F
    rw [List.take_length] at hown
    exact ⟨hown, hm⟩
theorem ScopeTells_ok {w : World} (hg : Gl w) {p : Pr} (h : p.Ok w) (hf : p.fits) : Rt Tryd.prog 6 #[.agg p.cells.toArray] w fun v w' => v = .bool true ∧ Mod none_ w w' := by
  refine dispatcherlaw04_ScopeTells_calls ?_
  unfold dispatcherlaw04_ScopeTells_F
  refine box_k (cs := p.cells.toArray) rfl fun w1 hb1 hm1 hz1 => ?_
  refine ldB (cs := p.cells.toArray) Tryd.underlying25 rfl iPr hb1 ?_
  refine CK_st Tryd.func10 rfl rfl (Great_ok (h.mod hm1) hf) ?_
  rintro _ w2 ⟨rfl, hm2⟩
  have hb2 := hm2.blk hb1 id
  have hm02 := hm1.trans hm2
  refine caseC (fun _ => ⟨rfl, hm02⟩) (fun _ => ?_)
  refine ldB (cs := p.cells.toArray) Tryd.underlying25 rfl iPr hb2 ?_
  refine CK_st Tryd.func13 rfl rfl (New_ok (hg.mod hm02) (h.mod hm02) hf) ?_
  rintro _ w3 ⟨x, rfl, hT⟩
  rw [extract_ok (v := x) rfl, extract_ok (v := (checkP p).v) rfl]
  have hm3 := hT.m
  have hm03 := hm02.trans hm3
  have hb3 := hm3.blk hb2 id
  refine lcl_k (cs := (checkP p).cells.toArray) zWrg _ iWrg rfl (wr_one _) fun w4 hb4 hm4 hz4 => ?_
  have hm04 := hm03.trans hm4
  have hb14 := hm4.blk hb3 id
  generalize w3.heap.size = b6 at *
  have g0 : FAt Tryd.prog w4 30 0 ⟨b6, 0, none⟩ 28 (.int .i64 (checkP p).err) := FAt.mk' (off := 0) (by kernel_rfl) uErrI rfl (by rw [add_pl, cell_blk hb4]; rfl)
  refine g0.vk' fun x20 => ?_
  have h4 := h.mod hm04
  have hf1 := hf.1
  refine BKneI (a := (checkP p).err) (b := 0) rfl rfl (fun hz => condF ?_) (fun hz => condT ?_)
  rotate_left
  · have hx := hT.bad hz
    subst hx
    refine CK_st Tryd.func22 rfl rfl VarsN_ok ?_
    rintro _ w5 ⟨rfl, rfl⟩
    refine BKeqI (a := 0) (b := 0) rfl rfl (fun _ => ?_) (fun q => absurd rfl q)
    simp only [CondK_bool, MG_u, NG_u, VG_u, UG_u, PG_u, BG_u, CG_u, IG_u, MG_b, NG_b, VG_b, UG_b, PG_b, BG_b, CG_b, IG_b, PK_bool, NK_ptr, not_ok, reduceCtorEq, if_true, if_false, Bool.true_eq_false, Bool.false_eq_true, Bool.not_true, Bool.not_false]
    refine CK_st Tryd.func23 rfl rfl ArraysN_ok ?_
    rintro _ w6 ⟨rfl, rfl⟩
    rw [len50]
    refine BKeqI (a := ((0 : Nat) : Int)) (b := 0) rfl rfl (fun _ => ?_) (fun q => absurd rfl q)
    simp only [CondK_bool, MG_u, NG_u, VG_u, UG_u, PG_u, BG_u, CG_u, IG_u, MG_b, NG_b, VG_b, UG_b, PG_b, BG_b, CG_b, IG_b, PK_bool, NK_ptr, not_ok, reduceCtorEq, if_true, if_false, Bool.true_eq_false, Bool.false_eq_true, Bool.not_true, Bool.not_false]
    refine CK_st Tryd.func24 rfl rfl NamesN_ok ?_
    rintro _ w7 ⟨rfl, rfl⟩
    rw [len52]
    refine BKeqI (a := ((0 : Nat) : Int)) (b := 0) rfl rfl (fun _ => ?_) (fun q => absurd rfl q)
    first | exact ⟨rfl, hm04⟩ | exact ⟨trivial, hm04⟩
  · obtain ⟨hmay, hdz, t, rfl, hTb⟩ := hT.ok hz
    have hTb4 := hTb.mod hm4
    have hmays : ∀ d ∈ p.decls, d.may = true := by
      unfold Pr.may at hmay
      simp only [Bool.and_eq_true, List.all_eq_true] at hmay
      exact hmay.1.2
    obtain ⟨A, c, hs, hnc⟩ := reads_cap h.d.1
    have hds : ∀ w', Mod none_ w4 w' → DesOk w' (.slice A p.decls.length c) p.decls := fun w' hw => by rw [← hs]; exact h4.d.mod hw
    have cell0 : ∀ w', Mod none_ w4 w' → w'.cell? ((⟨w.heap.size, 0, none⟩ : Addr).add 0) = some (.slice A p.decls.length c) := fun w' hw => by rw [add_pl, cell_blk (hw.blk hb14 id), ← hs]; rfl
    have f0 : FAt Tryd.prog w4 25 0 ⟨w.heap.size, 0, none⟩ 22 (.slice A p.decls.length c) := FAt.mk' (off := 0) (by kernel_rfl) uDes rfl (cell0 w4 (Mod.refl _ _))
    refine f0.vk' fun _ => ?_
    refine CK_st Tryd.func25 rfl rfl (ArraysR_ok (hds w4 (Mod.refl _ _)) hf1 hmays) ?_
    rintro want w5 ⟨hwant, hm5⟩
    have hwr := reads_of_owns hwant
    obtain ⟨Aw, cw, rfl, hwc⟩ := reads_cap hwr
    have hna := arrs_le p.decls
    have hm05 := hm04.trans hm5
    refine W_loop dispatcherlaw04_ScopeTells_L0_ok (fun ρ w' => ∃ k : Nat, k ≤ 2 ∧ ρ 6 = .int .i64 k ∧ ρ 3 = pt t ∧ ρ 1 = pt w.heap.size ∧ ρ 5 = .slice Aw (arrs p.decls).length cw ∧ Mod none_ w5 w') (fun ρ _ => 2 - (intOf (ρ 6)).toNat)
      ⟨0, Nat.zero_le _, rfl, rfl, rfl, rfl, Mod.refl _ _⟩ ?_
    rintro ρ w6 ⟨k, hk, q6, q3, q1, q5, hm6⟩
    have hround : ∀ (K : Exit → Sl → World → Prop), (∀ ρ' w', k < 2 → ρ' 6 = .int .i64 ((k : Int) + 1) → ρ' 3 = pt t → ρ' 1 = pt w.heap.size → ρ' 5 = .slice Aw (arrs p.decls).length cw → Mod none_ w5 w' → K .normal ρ' w') →
        (∀ ρ', K (.exit 0) ρ' w6) → sx fn_ Tryd.prog 106 dispatcherlaw04_ScopeTells_L0 K ρ w6 := by
      intro K kN kX
      rw [dispatcherlaw04_ScopeTells_L0_eq]
      unfold dispatcherlaw04_ScopeTells_L0_F
      rw [q6]
      refine BKlss (a := k) (b := 2) rfl rfl ?_
      refine caseC (fun hlt => ?_) (fun hlt => kX _)
      have hlt := of_decide_eq_true hlt
      have hlt' : k < 2 := by omega
      rw [q3]
      have hTb6 := (hTb4.mod hm5).mod hm6
      refine CK_st Tryd.func23 rfl rfl (ArraysT_ok hTb6 hf1) ?_
      rintro l w7 ⟨hl, hm7⟩
      refine CK_st Tryd.func24 rfl rfl (NamesT_ok (hTb6.mod hm7) hf1) ?_
      rintro nm w8 ⟨hnm, hm8⟩
      have hl8 : w8.ownsRow w6.heap.size 3 1 l (arrs p.decls).length ((arrs p.decls).map (.int .i64)) := owns_mod hl hm8 (fun _ _ => id)
      have hm58 := (hm6.trans hm7).trans hm8
      obtain ⟨Al, cl, rfl, _⟩ := reads_cap (reads_of_owns hl8)
      obtain ⟨An, cn, rfl, _⟩ := reads_cap (reads_of_owns hnm)
      have hTb8 := ((hTb6.mod hm7).mod hm8)
      have hs5 : w5.heap.size ≤ w6.heap.size := hm6.size
      have hs6 : w6.heap.size ≤ w7.heap.size := hm7.size
      have hs7 : w7.heap.size ≤ w8.heap.size := hm8.size
      have hw8 : ∀ w', Mod none_ w5 w' → reads w' 1 (.slice Aw (arrs p.decls).length cw) (arrs p.decls).length ((arrs p.decls).map (.int .i64)) := fun w' hw => reads_mod hwr hw (fun _ _ _ => id)
      -- the end of a turn
      have r5 : ∀ (ρ' : Sl) (w' : World), ρ' 6 = .int .i64 k → ρ' 3 = pt t → ρ' 1 = pt w.heap.size → ρ' 5 = .slice Aw (arrs p.decls).length cw → Mod none_ w5 w' → sx fn_ Tryd.prog 106 dispatcherlaw04_ScopeTells_R5 K ρ' w' := by
        intro ρ' w' t6 t3 t1 t5 hm
        rw [dispatcherlaw04_ScopeTells_R5_eq]
        unfold dispatcherlaw04_ScopeTells_R5_F
        refine BKadd (a := k) (b := 1) t6 rfl (by omega) (by omega) ?_
        refine kN _ w' hlt' rfl ?_ ?_ ?_ hm
        · exact t3
        · exact t1
        · exact t5
      have r2 : ∀ (KK : Exit → Sl → World → Prop), (∀ (ρ3 : Sl) (w9 : World), ρ3 67 = .bool false → ρ3 6 = .int .i64 k → ρ3 3 = pt t → ρ3 1 = pt w.heap.size → ρ3 5 = .slice Aw (arrs p.decls).length cw → ρ3 7 = .slice Al (arrs p.decls).length cl → ρ3 8 = .slice An p.decls.length cn → Mod none_ w8 w9 → KK .normal ρ3 w9) →
          ∀ (ρ2 : Sl), ρ2 6 = .int .i64 k → ρ2 3 = pt t → ρ2 1 = pt w.heap.size → ρ2 5 = .slice Aw (arrs p.decls).length cw → ρ2 7 = .slice Al (arrs p.decls).length cl → ρ2 8 = .slice An p.decls.length cn → W fn_ Tryd.prog 106 dispatcherlaw04_ScopeTells_R2 KK ρ2 w8 := by
        intro KK kN' ρ2 t6 t3 t1 t5 t7 t8
        refine dispatcherlaw04_ScopeTells_R2_quiet (D := []) (fun w' => Mod none_ w8 w') ((Mod.refl _ w8).drawn _) ?_
        unfold dispatcherlaw04_ScopeTells_R2_Q
        rw [t3, t1, t7, t5, t8]
        have c8 : ∀ w', Mod none_ w8 w' → w'.cell? ((⟨w.heap.size, 0, none⟩ : Addr).add 0) = some (.slice A p.decls.length c) := fun w' hw => cell0 w' ((hm5.trans hm58).trans hw)
        refine QC_rt (R := fun w' v w'' => v = .int .i64 (vars p.decls) ∧ Mod none_ w' w'') Tryd.func22 rfl rfl (v := .int .i64 (vars p.decls)) (fun w' hw => VarsT_ok (hTb8.mod hw)) (fun w' u w'' hw hu => ⟨hu.1, hw.trans hu.2⟩) ?_
        refine Qfo (off := 0) (a := ⟨w.heap.size, 0, none⟩) (by kernel_rfl) (Qld uDes rfl (v := .slice A p.decls.length c) c8 ?_)
        refine QC_rt (R := fun w' v w'' => v = .int .i64 (vars p.decls) ∧ Mod none_ w' w'') Tryd.func26 rfl rfl (v := .int .i64 (vars p.decls)) (fun w' hw => Vars_ok (hds w' ((hm5.trans hm58).trans hw)) hf1) (fun w' u w'' hw hu => ⟨hu.1, hw.trans hu.2⟩) (Qneq ?_)
        rw [show (((vars p.decls : Int)) != (vars p.decls : Int)) = false by simp, QG_b, if_pos rfl]
        refine QM ?_
        rw [QG_b, if_pos rfl]
        refine QI_len uIs _ _ _ _ ?_
        rw [QG_b, if_pos rfl]
        refine QM ?_
        rw [QG_b, if_pos rfl]
        refine QI_len uIs _ _ _ _ ?_
        rw [QG_b, if_pos rfl]
        refine Qneq ?_
        rw [show ((((arrs p.decls).length : Int)) != ((arrs p.decls).length : Int)) = false by simp]
        refine QP_of ?_
        rw [if_neg (by simp), QG_b, if_pos rfl]
        refine QM ?_
        rw [QG_b, if_pos rfl]
        refine QI_len uSs _ _ _ _ ?_
        rw [QG_b, if_pos rfl]
        refine Qfo (off := 0) (a := ⟨w.heap.size, 0, none⟩) (by kernel_rfl) ?_
        rw [QG_b, if_pos rfl]
        refine Qld uDes rfl (v := .slice A p.decls.length c) c8 ?_
        rw [QG_b, if_pos rfl]
        refine QI_len uDes _ _ _ _ ?_
        rw [QG_b, if_pos rfl]
        refine Qneq ?_
        rw [show (((p.decls.length : Int)) != (p.decls.length : Int)) = false by simp]
        refine QP_of ?_
        intro w9 hm9
        exact kN' _ w9 rfl t6 t3 t1 t5 t7 t8 hm9
      refine r2 _ (fun ρ3 w9 t67 t6 t3 t1 t5 t7 t8 hm9 => ?_) _ ?_ ?_ ?_ ?_ ?_ ?_
      rotate_left
      · exact q6
      · exact q3
      · exact q1
      · exact q5
      · rfl
      · rfl
      rw [sq_n, dispatcherlaw04_ScopeTells_R3_eq]
      unfold dispatcherlaw04_ScopeTells_R3_F
      rw [t67]
      refine condF ?_
      rw [sq_n, dispatcherlaw04_ScopeTells_R4_eq]
      unfold dispatcherlaw04_ScopeTells_R4_F
      have hl9 := owns_mod hl8 hm9 (fun _ _ => id)
      have hnm9 := owns_mod hnm hm9 (fun _ _ => id)
      have hdn : (w5.heap.size ≤ w6.heap.size) := hs5
      refine W_loop dispatcherlaw04_ScopeTells_L6_ok (fun ρ w' => ∃ (i : Nat) (xs : List Value), i ≤ (arrs p.decls).length ∧ ρ 9 = .int .i64 i ∧ ρ 6 = .int .i64 k ∧ ρ 3 = pt t ∧ ρ 1 = pt w.heap.size ∧ ρ 5 = .slice Aw (arrs p.decls).length cw ∧ ρ 7 = .slice Al (arrs p.decls).length cl ∧ ρ 8 = .slice An p.decls.length cn ∧
          w'.ownsRow w6.heap.size 3 1 (.slice Al (arrs p.decls).length cl) (arrs p.decls).length xs ∧ (∀ j, i ≤ j → xs[j]? = ((arrs p.decls).map (Value.int .i64))[j]?) ∧ w'.ownsRow w7.heap.size 9 1 (.slice An p.decls.length cn) p.decls.length ((p.decls.map De.name).map .string) ∧ Mod none_ w5 w') (fun ρ _ => (arrs p.decls).length - (intOf (ρ 9)).toNat)
        ⟨0, _, Nat.zero_le _, rfl, t6, t3, t1, t5, t7, t8, hl9, fun _ _ => rfl, hnm9, hm58.trans hm9⟩ ?_
      rintro ρ4 w10 ⟨i, xs, hi, u9, u6, u3, u1, u5, u7, u8, ho, hx, hn10, hm10⟩
      rw [dispatcherlaw04_ScopeTells_L6_eq]
      unfold dispatcherlaw04_ScopeTells_L6_F
      rw [u7, len50, u9]
      refine BKlss (a := i) (b := (arrs p.decls).length) rfl rfl ?_
      refine caseC (fun hlt => ?_) (fun hlt => ?_)
      · have hlt : i < (arrs p.decls).length := by have := of_decide_eq_true hlt; omega
        refine dispatcherlaw04_ScopeTells_R8_quiet (D := []) (fun w' => Mod none_ w10 w') ((Mod.refl _ w10).drawn _) ?_
        unfold dispatcherlaw04_ScopeTells_R8_Q
        have e1 : xs[i]? = some (.int .i64 (arrs p.decls)[i]) := by rw [hx i (Nat.le_refl _), List.getElem?_map, List.getElem?_eq_getElem hlt]; rfl
        have e2 : ((arrs p.decls).map (Value.int .i64))[i]? = some (.int .i64 (arrs p.decls)[i]) := by rw [List.getElem?_map, List.getElem?_eq_getElem hlt]; rfl
        show QK _ _ _ _
        simp only [sq_n, sq_x, sq_r, bk_n, bk_r, bk_x, rt_r, rt_n, rs_0, rs_t, pk_1, pk_2, up_at, reduceIte, Nat.reduceEqDiff, u7, u9, u5]
        refine q_ixld uIs cI uI rfl (Mod.refl _ w10) (fun w' hw => reads_mod (reads_of_owns ho) hw (fun _ _ _ => id)) (by omega) (by rw [Int.toNat_natCast]; exact e1) fun x76 => ?_
        refine q_ixld uIs cI uI rfl (Mod.refl _ w10) (fun w' hw => hw8 w' (hm10.trans hw)) (by omega) (by rw [Int.toNat_natCast]; exact e2) fun x80 => Qneq ?_
        rw [show ((arrs p.decls)[i] != (arrs p.decls)[i]) = false by simp]
        intro w11 hm11
        try rw [sq_n]
        rw [dispatcherlaw04_ScopeTells_R9_eq]
        unfold dispatcherlaw04_ScopeTells_R9_F
        refine condF ?_
        rw [sq_n, dispatcherlaw04_ScopeTells_R10_eq]
        unfold dispatcherlaw04_ScopeTells_R10_F
        simp only [sq_n, sq_x, sq_r, bk_n, bk_r, bk_x, rt_r, rt_n, rs_0, rs_t, pk_1, pk_2, up_at, reduceIte, Nat.reduceEqDiff, u7, u9]
        have ho11 := owns_mod ho hm11 (fun _ _ => id)
        have hn11 := owns_mod hn10 hm11 (fun _ _ => id)
        refine put_row uIs cI (by rfl) ho11 hlt fun x w12 ho12 hm12 => ?_
        try rw [bk_n, sq_n]
        rw [dispatcherlaw04_ScopeTells_R11_eq]
        unfold dispatcherlaw04_ScopeTells_R11_F
        refine BKadd (a := i) (b := 1) ?_ rfl (by omega) (by omega) ?_
        · exact u9
        refine ⟨⟨i + 1, _, hlt, rfl, u6, u3, u1, u5, u7, u8, ho12, fun j hj => ?_, ?_, (hm10.trans hm11).then hm12 fun b hb q => ?_⟩, ?_⟩
        · rw [List.getElem?_set_ne (by omega)]; exact hx j (by omega)
        · exact owns_mod hn11 hm12 (fun b hb q => owns_ne hn11 ho11 (by decide) b hb q)
        · have := owns_ge ho11 q.symm
          omega
        · show (arrs p.decls).length - (intOf (Value.int .i64 ((i : Int) + 1))).toNat < _
          simp only [intOf]; omega
      · obtain rfl : i = (arrs p.decls).length := by have := of_decide_eq_false hlt; omega
        rw [sq_x, bk_x, sq_n, dispatcherlaw04_ScopeTells_R7_eq]
        unfold dispatcherlaw04_ScopeTells_R7_F
        refine W_loop dispatcherlaw04_ScopeTells_L12_ok (fun ρ w' => ∃ (i : Nat) (xs : List Value), i ≤ p.decls.length ∧ ρ 10 = .int .i64 i ∧ ρ 6 = .int .i64 k ∧ ρ 3 = pt t ∧ ρ 1 = pt w.heap.size ∧ ρ 5 = .slice Aw (arrs p.decls).length cw ∧ ρ 8 = .slice An p.decls.length cn ∧
            w'.ownsRow w7.heap.size 9 1 (.slice An p.decls.length cn) p.decls.length xs ∧ (∀ j, i ≤ j → xs[j]? = ((p.decls.map De.name).map Value.string)[j]?) ∧ Mod none_ w5 w') (fun ρ _ => p.decls.length - (intOf (ρ 10)).toNat)
          ⟨0, _, Nat.zero_le _, rfl, u6, u3, u1, u5, u8, hn10, fun _ _ => rfl, hm10⟩ ?_
        rintro ρ5 w20 ⟨i, ys, hi, v10, v6, v3, v1, v5, v8, hp, hy, hm20⟩
        rw [dispatcherlaw04_ScopeTells_L12_eq]
        unfold dispatcherlaw04_ScopeTells_L12_F
        rw [v8, len52, v10]
        refine BKlss (a := i) (b := p.decls.length) rfl rfl ?_
        refine caseC (fun hlt => ?_) (fun hlt => ?_)
        · have hlt : i < p.decls.length := by have := of_decide_eq_true hlt; omega
          have hxd : p.decls[i]? = some p.decls[i] := List.getElem?_eq_getElem hlt
          refine dispatcherlaw04_ScopeTells_R13_quiet (D := []) (fun w' => Mod none_ w20 w') ((Mod.refl _ w20).drawn _) ?_
          unfold dispatcherlaw04_ScopeTells_R13_Q
          have e1 : ys[i]? = some (.string p.decls[i].name) := by rw [hy i (Nat.le_refl _), List.getElem?_map, List.getElem?_map, hxd]; rfl
          have c20 : ∀ w', Mod none_ w20 w' → w'.cell? ((⟨w.heap.size, 0, none⟩ : Addr).add 0) = some (.slice A p.decls.length c) := fun w' hw => cell0 w' ((hm5.trans hm20).trans hw)
          show QK _ _ _ _
          simp only [sq_n, sq_x, sq_r, bk_n, bk_r, bk_x, rt_r, rt_n, rs_0, rs_t, pk_1, pk_2, up_at, reduceIte, Nat.reduceEqDiff, v8, v10, v1]
          refine q_ixld uSs cS uS rfl (Mod.refl _ w20) (fun w' hw => reads_mod (reads_of_owns hp) hw (fun _ _ _ => id)) (by omega) (by rw [Int.toNat_natCast]; exact e1) fun x94 => ?_
          refine Qfo (off := 0) (a := ⟨w.heap.size, 0, none⟩) (by kernel_rfl) (Qld uDes rfl (v := .slice A p.decls.length c) c20 ?_)
          refine QixDe (w0 := w20) (Mod.refl _ w20) (fun w' hw => hds w' ((hm5.trans hm20).trans hw)) hxd fun a ha => ?_
          refine Qfo (off := 0) (by kernel_rfl) (Qld uS rfl (v := .string p.decls[i].name) (fun w' hw => ha w' hw 0 _ rfl) ?_)
          refine QB_of (v := .bool false) (fun _ => rfl) (fun w' => by rw [binOp_string_neq]; simp) ?_
          intro w21 hm21
          try rw [sq_n]
          rw [dispatcherlaw04_ScopeTells_R14_eq]
          unfold dispatcherlaw04_ScopeTells_R14_F
          refine condF ?_
          rw [sq_n, dispatcherlaw04_ScopeTells_R15_eq]
          unfold dispatcherlaw04_ScopeTells_R15_F
          simp only [sq_n, sq_x, sq_r, bk_n, bk_r, bk_x, rt_r, rt_n, rs_0, rs_t, pk_1, pk_2, up_at, reduceIte, Nat.reduceEqDiff, v8, v10]
          have hp21 := owns_mod hp hm21 (fun _ _ => id)
          refine put_row uSs cS (by rfl) hp21 hlt fun x w22 hp22 hm22 => ?_
          try rw [bk_n, sq_n]
          rw [dispatcherlaw04_ScopeTells_R16_eq]
          unfold dispatcherlaw04_ScopeTells_R16_F
          refine BKadd (a := i) (b := 1) ?_ rfl (by omega) (by omega) ?_
          · exact v10
          refine ⟨⟨i + 1, _, hlt, rfl, v6, v3, v1, v5, v8, hp22, fun j hj => ?_, (hm20.trans hm21).then hm22 fun b hb q => ?_⟩, ?_⟩
          · rw [List.getElem?_set_ne (by omega)]; exact hy j (by omega)
          · have := owns_ge hp21 q.symm
            omega
          · show p.decls.length - (intOf (Value.int .i64 ((i : Int) + 1))).toNat < _
            simp only [intOf]; omega
        · rw [sq_x, bk_x, bk_n, sq_n]
          exact r5 _ _ v6 v3 v1 v5 hm20
    refine hround _ (fun ρ' w' a b c1 c2 c3 d => ⟨⟨k + 1, a, b, c1, c2, c3, d⟩, ?_⟩) (fun ρ' => ?_)
    · rw [b, q6]; simp only [intOf]; omega
    · rw [sq_x, bk_x, sq_n, dispatcherlaw04_ScopeTells_R1_eq]
      unfold dispatcherlaw04_ScopeTells_R1_F
      exact ⟨rfl, hm05.trans hm6⟩
end Go.Proofs.YtbnbcimjapiicaaDoor.Tr
