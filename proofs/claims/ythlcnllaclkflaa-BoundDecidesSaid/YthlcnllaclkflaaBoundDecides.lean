/- BoundDecides: for every statement whatever the law answers true: the program and the reference agree on whether a statement is a call that decides. No condition. -/
import Derived.Test.YthlcnllaclkflaaXF
import Derived.Test.YthlcnllaclkflaaXRules
import Derived.Test.YthlcnllaclkflaaXOpen
import Derived.Test.YthlcnllaclkflaaPBoundDecidesx2
import Derived.Test.YthlcnllaclkflaaPBoundDecidesx3
import Derived.Great.BuildSlice
set_option linter.unusedVariables false
set_option linter.unusedSimpArgs false
namespace Go.Proofs.Ythlcnllaclkflaa.BoundDecides
open Go Go.X Go.RowKit Go.Proofs.YthlcnllaclkflaaW.PrintWords Go.Proofs.Ythlcnllaclkflaa.PBoundDecides Go.Proofs.Ythlcnllaclkflaa.XF Go.Proofs.Ythlcnllaclkflaa.Open

/-! ### the plain law -/
theorem wrap_inc {i : Int} {n : Nat} (h0 : 0 ≤ i) (h : i < (n : Int)) (hn : n ≤ 9223372036854775807) : wrap64 (i + 1) = i + 1 := by
  unfold wrap64
  omega

theorem rd30_lt (xs : List S30) (i : Int) (h0 : 0 ≤ i) (h : i < xs.length) : SizeOf.sizeOf (rd_T30 xs i).f3 < SizeOf.sizeOf xs := by
  have hi : i.toNat < xs.length := by omega
  have hm : rd_T30 xs i ∈ xs := by unfold rd_T30; rw [List.getD_eq_getElem?_getD, List.getElem?_eq_getElem hi]; exact List.getElem_mem hi
  have h1 := List.sizeOf_lt_of_mem hm
  have h2 : SizeOf.sizeOf (rd_T30 xs i).f3 < SizeOf.sizeOf (rd_T30 xs i) := by
    cases rd_T30 xs i
    simp
    omega
  omega

theorem me_total (w : World) : ∀ (n : Nat) (xs : List S30) (A : Option Addr), SizeOf.sizeOf xs < n → Kd.C k30 w A xs.length xs → ∃ r, Ev (fun k => dispatcherref02_ManyExprs.f k xs) r := by
  intro n
  induction n with
  | zero => intro xs A h; omega
  | succ n ih =>
    intro xs A hn hC
    have hlen : xs.length ≤ 9223372036854775807 := hC.2.1
    have loop : ∀ (d : Nat) (i x3 : Int), 0 ≤ i → i ≤ xs.length → (xs.length : Int) - i = d → ∃ r, Ev (fun k => dispatcherref02_ManyExprs.l0 k xs x3 i) r := by
      intro d
      induction d with
      | zero =>
        intro i x3 h0 h1 hd
        exact ⟨x3, Ev.step (f := fun _ => some x3) (fun k => by simp only [dispatcherref02_ManyExprs.l0]; rw [if_neg (by omega)]) (Ev.now _)⟩
      | succ d ihd =>
        intro i x3 h0 h1 hd
        have hlt : i < (xs.length : Int) := by omega
        obtain ⟨ad, A3, c3, _, _, _, _, _, _, _, _, hC3⟩ := at_T30 hC i h0 hlt
        obtain ⟨r, hr⟩ := ih _ _ (by have := rd30_lt xs i h0 hlt; omega) hC3
        obtain ⟨q, hq⟩ := ihd (i + 1) (wrap64 ((wrap64 ((wrap64 (x3 + 1)) + (mn (((rd_T30 xs i).f2).size : Int) 30000))) + r)) (by omega) (by omega) (by omega)
        refine ⟨q, Ev.step (f := fun k => (dispatcherref02_ManyExprs.f k ((rd_T30 xs i).f3)).bind fun t => dispatcherref02_ManyExprs.l0 k xs (wrap64 ((wrap64 ((wrap64 (x3 + 1)) + (mn (((rd_T30 xs i).f2).size : Int) 30000))) + t)) (wrap64 (i + 1))) (fun k => ?_) ?_⟩
        · simp only [dispatcherref02_ManyExprs.l0]; rw [if_pos hlt, if_pos h0]
        · refine Ev.bind hr ?_
          rw [wrap_inc h0 hlt hlen]
          exact hq
    obtain ⟨r, hr⟩ := loop xs.length 0 0 (by omega) (by omega) (by omega)
    exact ⟨r, Ev.step (f := fun k => dispatcherref02_ManyExprs.l0 k xs 0 0) (fun k => by simp only [dispatcherref02_ManyExprs.f]) hr⟩

theorem rd25_lt (xs : List S25) (i : Int) (h0 : 0 ≤ i) (h : i < xs.length) : SizeOf.sizeOf (rd_T25 xs i).f6 < SizeOf.sizeOf xs ∧ SizeOf.sizeOf (rd_T25 xs i).f7 < SizeOf.sizeOf xs := by
  have hi : i.toNat < xs.length := by omega
  have hm : rd_T25 xs i ∈ xs := by unfold rd_T25; rw [List.getD_eq_getElem?_getD, List.getElem?_eq_getElem hi]; exact List.getElem_mem hi
  have h1 := List.sizeOf_lt_of_mem hm
  have h2 : SizeOf.sizeOf (rd_T25 xs i).f6 < SizeOf.sizeOf (rd_T25 xs i) ∧ SizeOf.sizeOf (rd_T25 xs i).f7 < SizeOf.sizeOf (rd_T25 xs i) := by
    cases rd_T25 xs i
    simp
    omega
  omega

theorem many_total (w : World) : ∀ (n : Nat) (xs : List S25) (A : Option Addr), SizeOf.sizeOf xs < n → Kd.C k25 w A xs.length xs → ∃ r, Ev (fun k => dispatcherref02_Many.f k xs) r := by
  intro n
  induction n with
  | zero => intro xs A h; omega
  | succ n ih =>
    intro xs A hn hC
    have hlen : xs.length ≤ 9223372036854775807 := hC.2.1
    have loop : ∀ (d : Nat) (i x3 : Int), 0 ≤ i → i ≤ xs.length → (xs.length : Int) - i = d → ∃ r, Ev (fun k => dispatcherref02_Many.l0 k xs x3 i) r := by
      intro d
      induction d with
      | zero =>
        intro i x3 h0 h1 hd
        exact ⟨x3, Ev.step (f := fun _ => some x3) (fun k => by simp only [dispatcherref02_Many.l0]; rw [if_neg (by omega)]) (Ev.now _)⟩
      | succ d ihd =>
        intro i x3 h0 h1 hd
        have hlt : i < (xs.length : Int) := by omega
        obtain ⟨ad, A5, c5, A6, c6, A7, c7, _, _, _, _, _, _, _, _, _, _, _, _, hC5, _, hC6, _, hC7⟩ := at_T25 hC i h0 hlt
        have hsz := rd25_lt xs i h0 hlt
        obtain ⟨r5, h5⟩ := me_total w _ _ _ (Nat.lt_succ_self _) hC5
        obtain ⟨r6, h6⟩ := ih _ _ (by omega) hC6
        obtain ⟨r7, h7⟩ := ih _ _ (by omega) hC7
        obtain ⟨q, hq⟩ := ihd (i + 1) (wrap64 ((wrap64 ((wrap64 ((wrap64 ((wrap64 (x3 + 1)) + (mn (((rd_T25 xs i).f3).size : Int) 30000))) + r5)) + r6)) + r7)) (by omega) (by omega) (by omega)
        refine ⟨q, Ev.step (f := fun k => (dispatcherref02_ManyExprs.f k ((rd_T25 xs i).f5)).bind fun t106 => ((dispatcherref02_Many.f k ((rd_T25 xs i).f6)).bind fun t108 => ((dispatcherref02_Many.f k ((rd_T25 xs i).f7)).bind fun t110 => (dispatcherref02_Many.l0 k xs (wrap64 ((wrap64 ((wrap64 ((wrap64 ((wrap64 (x3 + 1)) + (mn (((rd_T25 xs i).f3).size : Int) 30000))) + t106)) + t108)) + t110)) (wrap64 (i + 1)))))) (fun k => ?_) ?_⟩
        · simp only [dispatcherref02_Many.l0]; rw [if_pos hlt, if_pos h0]
        · refine Ev.bind h5 (Ev.bind h6 (Ev.bind h7 ?_))
          rw [wrap_inc h0 hlt hlen]
          exact hq
    obtain ⟨r, hr⟩ := loop xs.length 0 0 (by omega) (by omega) (by omega)
    exact ⟨r, Ev.step (f := fun k => dispatcherref02_Many.l0 k xs 0 0) (fun k => by simp only [dispatcherref02_Many.f]) hr⟩

theorem decides_same (x0 x1 x2 : Int) (x3 : ByteArray) (x4 : Int) (l5 : List S30) (l6 l7 : List S25) (x8 x9 : Int) :
    ∃ r, bound_Decides.f 1 x0 x1 x2 x3 x4 l5 l6 l7 x8 x9 = some r ∧ dispatcherref09_Decides.f 1 x0 x1 x2 x3 x4 l5 l6 l7 x8 x9 = some r := by
  unfold bound_Decides.f dispatcherref09_Decides.f
  simp only [bound_Decides.j0, dispatcherref09_Decides.j0]
  by_cases h0 : x0 = 8
  · simp only [if_pos h0]
    by_cases hl : (l5.length : Int) < 2
    · by_cases a : x1 = 6 <;> by_cases b : x1 = 7 <;> by_cases c : x1 = 13 <;> by_cases d : x1 = 14 <;> by_cases e : x1 = 10 <;> by_cases f : x1 = 11 <;> by_cases g : x1 = 12 <;> first | (exfalso; omega) | simp_all
    · have hl' : 1 < (l5.length : Int) := by omega
      simp only [if_neg hl, if_pos hl']
      clear hl hl'
      by_cases a : x1 = 6 <;> by_cases b : x1 = 7 <;> by_cases c : x1 = 13 <;> by_cases d : x1 = 14 <;> by_cases e : x1 = 10 <;> by_cases f : x1 = 11 <;> by_cases g : x1 = 12 <;> first | (exfalso; omega) | simp_all
  · simp [h0]

/-! ### the walk -/
theorem law_calls (x : S25) (cs : List Value) (w : World) (hK : k25.K w x cs) : Calls Try.prog 3 #[.agg cs.toArray] w fun e w' => e = .returned (.bool true) ∧ Below w.heap.size w w' := by
  suffices h : Calls Try.prog 3 #[.agg cs.toArray] w fun e w' => ∃ v, e = .returned v ∧ (v = .bool true ∧ Mod none_ w w') from
    h.mono fun e w' ⟨v, he, hv, hm⟩ => ⟨by rw [he, hv], hm.toBelow⟩
  have hlen : cs.length = 10 := k25.K_len hK
  refine dispatcherlaw09_BoundDecides_calls ?_
  unfold dispatcherlaw09_BoundDecides_F
  obtain ⟨A5, c5, A6, c6, A7, c7, rfl, l5, g5, l6, g6, l7, g7⟩ := k25_open hK
  rw [box_ok]
  generalize hw1 : w.alloc (.cells (Value.agg _).cells 25) = w1
  have m1 : Mod none_ w w1 := by rw [← hw1]; exact (Mod.refl _ _).alloc _
  have hb1 : w1.heap[w.heap.size]? = some (.cells #[.int .u8 x.f0, .int .u8 x.f1, .int .u8 x.f2, .string x.f3, .int .i64 x.f4, .slice A5 x.f5.length c5, .slice A6 x.f6.length c6, .slice A7 x.f7.length c7, .int .i64 x.f8, .int .i64 x.f9] 25 (0, 0)) := by rw [← hw1]; exact alloc_new _ _
  have s1 : w.heap.size < w1.heap.size := X.blk_lt hb1
  clear hw1
  refine ldB Try.underlying25 rfl (by kernel_rfl) hb1 ?_
  refine VK_of (w' := w1.alloc (.cells #[.int .u8 x.f0, .int .u8 x.f1, .int .u8 x.f2, .string x.f3, .int .i64 x.f4, .slice A5 x.f5.length c5, .slice A6 x.f6.length c6, .slice A7 x.f7.length c7, .int .i64 x.f8, .int .i64 x.f9] 25)) (v := .slice (some ⟨w1.heap.size, 0, none⟩) 1 1) (by kernel_rfl) ?_
  generalize hw2 : w1.alloc (.cells #[.int .u8 x.f0, .int .u8 x.f1, .int .u8 x.f2, .string x.f3, .int .i64 x.f4, .slice A5 x.f5.length c5, .slice A6 x.f6.length c6, .slice A7 x.f7.length c7, .int .i64 x.f8, .int .i64 x.f9] 25) = w2
  have m2 : Mod none_ w1 w2 := by rw [← hw2]; exact (Mod.refl _ _).alloc _
  have hb2 : w2.heap[w1.heap.size]? = some (.cells #[.int .u8 x.f0, .int .u8 x.f1, .int .u8 x.f2, .string x.f3, .int .i64 x.f4, .slice A5 x.f5.length c5, .slice A6 x.f6.length c6, .slice A7 x.f7.length c7, .int .i64 x.f8, .int .i64 x.f9] 25 (0, 0)) := by rw [← hw2]; exact alloc_new _ _
  clear hw2
  have m12 := m1.trans m2
  have hK2 := k25.K_below m12.toBelow hK
  have hC2 : Kd.C k25 w2 (some ⟨w1.heap.size, 0, none⟩) [x].length [x] := by
    refine ⟨rfl, by simp, fun _ => ⟨_, rfl, fun j p hp => ?_⟩⟩
    match j with
    | 0 =>
      simp at hp
      subst hp
      refine ⟨_, rfl, hK2, fun i u hu => ?_⟩
      rw [add_pl, cell_blk hb2]
      simpa using hu
    | j + 1 => simp at hp
  obtain ⟨r, hr⟩ := many_total w2 _ [x] _ (Nat.lt_succ_self _) hC2
  obtain ⟨k, hr⟩ := hr.rounds
  refine CK_st Try.func4 rfl rfl (R := fun v w' => v = .int .i64 r ∧ Mod none_ w2 w') ((dispatcherref02_Many.calls k _ 1 [x] r w2 hC2 (by simp) hr).mono fun e w' ⟨he, hb⟩ => ⟨_, he, rfl, Mod.ofBelow hb⟩) ?_
  rintro v w3 ⟨rfl, m3⟩
  rw [BK_gtr, CondK_bool]
  have m13 := m12.trans m3
  by_cases hg : (3000 : Int) < r
  · rw [if_pos (by simpa using hg)]
    exact ⟨rfl, m13⟩
  rw [if_neg (by simpa using hg)]
  obtain ⟨q, hq1, hq2⟩ := decides_same x.f0 x.f1 x.f2 x.f3 x.f4 x.f5 x.f6 x.f7 x.f8 x.f9
  have hb3 := (m2.trans m3).blk hb1 id
  have hq : ∀ w', Mod none_ w3 w' → w'.heap[w.heap.size]? = some (.cells #[.int .u8 x.f0, .int .u8 x.f1, .int .u8 x.f2, .string x.f3, .int .i64 x.f4, .slice A5 x.f5.length c5, .slice A6 x.f6.length c6, .slice A7 x.f7.length c7, .int .i64 x.f8, .int .i64 x.f9] 25 (0, 0)) := fun w' m => m.blk hb3 id
  have g5' : ∀ w', Mod none_ w3 w' → Kd.C k30 w' A5 x.f5.length x.f5 := fun w' m => Kd.C_below g5 (m13.trans m).toBelow
  have g6' : ∀ w', Mod none_ w3 w' → Kd.C k25 w' A6 x.f6.length x.f6 := fun w' m => Kd.C_below g6 (m13.trans m).toBelow
  have g7' : ∀ w', Mod none_ w3 w' → Kd.C k25 w' A7 x.f7.length x.f7 := fun w' m => Kd.C_below g7 (m13.trans m).toBelow
  refine dispatcherlaw09_BoundDecides_R0_quiet (fun w' => Mod none_ w3 w') ((Mod.refl _ _).drawn _) ?_
  unfold dispatcherlaw09_BoundDecides_R0_Q
  simp only [up_at, Nat.reduceEqDiff, if_true, if_false]
  refine QV_of (fun w' m => run_ldB Try.underlying25 rfl (by kernel_rfl) (hq w' m)) ?_
  refine QC_st Try.func5 rfl rfl (fun w' m => (bound_Decides.calls 1 _ _ _ _ _ _ _ _ _ _ _ _ _ _ _ _ _ w' (g5' w' m) l5 (g6' w' m) l6 (g7' w' m) l7 hq1).mono fun e w'' ⟨he, hb⟩ => ⟨he, m.trans (Mod.ofBelow hb)⟩) ?_
  refine QV_of (fun w' m => run_ldB Try.underlying25 rfl (by kernel_rfl) (hq w' m)) ?_
  refine QC_st Try.func6 rfl rfl (fun w' m => (dispatcherref09_Decides.calls 1 _ _ _ _ _ _ _ _ _ _ _ _ _ _ _ _ _ w' (g5' w' m) l5 (g6' w' m) l6 (g7' w' m) l7 hq2).mono fun e w'' ⟨he, hb⟩ => ⟨he, m.trans (Mod.ofBelow hb)⟩) ?_
  refine QB_of (fun w => rfl) (fun w => run_eql_bool w 4 q q Try.underlying4) ?_
  intro w' m
  show _
  rw [show seqK (sx Try.prog 12 dispatcherlaw09_BoundDecides_R1 (retK Try.prog [ResultVar.tmp 2] _)) (retK Try.prog [ResultVar.tmp 2] _) Exit.normal = sx Try.prog 12 dispatcherlaw09_BoundDecides_R1 (retK Try.prog [ResultVar.tmp 2] _) from rfl]
  rw [dispatcherlaw09_BoundDecides_R1_eq]
  refine ⟨?_, m13.trans m⟩
  simp [up_at, packV]

/-! ### what the argument reads as -/
theorem opens30 (n : Nat) : OpensAt Try.prog n k30 (fun _ => True) 30 := by
  refine opens_fix (fun d n hs ih m hm => ?_)
  exact opens_iso (fun x : S30 => (x.f0, x.f1, x.f2, x.f3, x.f4, x.f5)) (fun y => ⟨y.1, y.2.1, y.2.2.1, y.2.2.2.1, y.2.2.2.2.1, y.2.2.2.2.2⟩) (fun _ => rfl) (fun _ _ => trivial) (opens_struct Try.underlying30 (by kernel_rfl) (fun m' hm' =>
    fields_cons rfl (by kernel_rfl) (opens_int Try.underlying5) (fields_cons rfl (by kernel_rfl) (opens_int Try.underlying2) (fields_cons rfl (by kernel_rfl) (opens_string Try.underlying9)
    (fields_cons rfl (by kernel_rfl) (opens_slice Try.underlying22 (by rw [hs]; kernel_rfl) (fun q hq => ih q (by omega))) (fields_cons rfl (by kernel_rfl) (opens_int Try.underlying3) (fields_one rfl (by kernel_rfl) (opens_int Try.underlying3))))))))
theorem opens25 (n : Nat) : OpensAt Try.prog n k25 (fun _ => True) 25 := by
  refine opens_fix (fun d n hs ih m hm => ?_)
  exact opens_iso (fun x : S25 => (x.f0, x.f1, x.f2, x.f3, x.f4, x.f5, x.f6, x.f7, x.f8, x.f9)) (fun y => ⟨y.1, y.2.1, y.2.2.1, y.2.2.2.1, y.2.2.2.2.1, y.2.2.2.2.2.1, y.2.2.2.2.2.2.1, y.2.2.2.2.2.2.2.1, y.2.2.2.2.2.2.2.2.1, y.2.2.2.2.2.2.2.2.2⟩) (fun _ => rfl) (fun _ _ => trivial) (opens_struct Try.underlying25 (by kernel_rfl) (fun m' hm' =>
    fields_cons rfl (by kernel_rfl) (opens_int Try.underlying5) (fields_cons rfl (by kernel_rfl) (opens_int Try.underlying5) (fields_cons rfl (by kernel_rfl) (opens_int Try.underlying5) (fields_cons rfl (by kernel_rfl) (opens_string Try.underlying9)
    (fields_cons rfl (by kernel_rfl) (opens_int Try.underlying3) (fields_cons rfl (by kernel_rfl) (opens_slice Try.underlying22 (by kernel_rfl) (fun q hq => opens30 q))
    (fields_cons rfl (by kernel_rfl) (opens_slice Try.underlying23 (by rw [hs]; kernel_rfl) (fun q hq => ih q (by omega))) (fields_cons rfl (by kernel_rfl) (opens_slice Try.underlying23 (by rw [hs]; kernel_rfl) (fun q hq => ih q (by omega)))
    (fields_cons rfl (by kernel_rfl) (opens_int Try.underlying3) (fields_one rfl (by kernel_rfl) (opens_int Try.underlying3))))))))))))
end Go.Proofs.Ythlcnllaclkflaa.BoundDecides
