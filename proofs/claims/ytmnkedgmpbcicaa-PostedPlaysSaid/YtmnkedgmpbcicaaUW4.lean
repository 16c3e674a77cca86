/- Several texts of this repo, one behind the other, without what is not used here. -/
import Derived.Shelf.Sort.Plain
import Derived.Test.YtmnkedgmpbcicaaProg
import Derived.Shelf.Slices.In.SortNone
import Derived.Sort.OwnSortedInts
import Derived.Test.YtmnkedgmpbcicaaUW3
set_option linter.unusedVariables false
set_option linter.unusedSimpArgs false
set_option maxRecDepth 4000
namespace Go.X
open Go Go.RowKit
theorem ahead_filt (l : List Ms) (m : Ms) : (rowOf l m.ch).filter nt = l.filter fun x => isV x m.key m.frm m.to := by
  unfold rowOf
  rw [List.filter_filter]
  refine List.filter_congr fun x _ => ?_
  rfl
end Go.X
namespace Go.Proofs.Ytmnkedgmpbcicaa.Que
open Go Go.X Go.RowKit Go.Proofs.Ytmnkedgmpbcicaa.XF Go.Proofs.Ytmnkedgmpbcicaa.XK
section
variable {w : World} {p : Nat} {l : List Ms} {V : Value}
theorem RAhead_ok (h : DAt w p l V) (hL : l.length ≤ 1000000) (m0 : Ms) : Rt Try.prog 81 #[.pointer (some ⟨p, 0, none⟩), .agg m0.enc.toArray] w (RowP w (aheadV l m0.frm m0.call)) := by
  refine dispatcherref13_Queue_Ahead_calls ?_
  unfold dispatcherref13_Queue_Ahead_F
  refine box_k (cs := m0.enc.toArray) rfl fun w1 hb1 hm1 hz1 => ?_
  have g1 : FO Try.prog w1 tMs 1 1 ⟨w.heap.size, 0, none⟩ 3 (.int .i64 m0.frm) := FO.blk hb1 (by kernel_rfl) vI rfl rfl
  have g3 : FO Try.prog w1 tMs 3 3 ⟨w.heap.size, 0, none⟩ 3 (.int .i64 m0.call) := FO.blk hb1 (by kernel_rfl) vI rfl rfl
  rw [g1.e, g3.e]
  have h1 := h.calm hm1
  refine CK_st Try.func70 rfl rfl (place_ok h1 hL m0.frm m0.call) ?_
  rintro _ w2 ⟨rfl, rfl⟩
  -- how far, and what each is asked for
  obtain ⟨n, kk, hkk, hnl, hat, hres⟩ : ∃ (n : Int) (k : Nat), (n = (k : Int) ∨ n < 0 ∧ k = 0) ∧ k ≤ l.length ∧ (0 < k → ∃ m, l[k]? = some m ∧ n = (k : Int) ∧ aheadV l m0.frm m0.call = (l.take k).filter fun x => isV x m.key m.frm m.to) ∧ (idxV (Ms.isAt m0.frm m0.call) l = n ∧ (k = 0 → aheadV l m0.frm m0.call = [])) := by
    unfold idxV aheadV
    rcases idx_find (Ms.isAt m0.frm m0.call) l with ⟨q1, q2⟩ | ⟨j, m, q1, q2, q3, q4⟩
    · rw [q1, q2]
      exact ⟨-1, 0, .inr ⟨by omega, rfl⟩, Nat.zero_le _, fun z => absurd z (by omega), rfl, fun _ => rfl⟩
    · rw [q1, q3]
      refine ⟨j, j, .inl rfl, Nat.le_of_lt (List.getElem?_eq_some_iff.1 q2).1, fun _ => ⟨m, q2, rfl, ?_⟩, rfl, fun z => ?_⟩
      · dsimp only
        rw [ahead_filt, q4]
      · dsimp only
        rw [ahead_filt, ← q4, z]; rfl
  rw [hres.1]
  refine W_loop dispatcherref13_Queue_Ahead_L0_ok (fun ρ w' => ∃ (i : Nat) (o : Value) (O : List Ms), i ≤ kk ∧ ρ 7 = .int .i64 i ∧ ρ 6 = .int .i64 n ∧ ρ 0 = .pointer (some ⟨p, 0, none⟩) ∧ ρ 5 = o ∧ (i = kk → O = aheadV l m0.frm m0.call) ∧ (∀ m, l[kk]? = some m → O = (l.take i).filter fun x => isV x m.key m.frm m.to) ∧ O.length ≤ i ∧ w'.ownsRow w2.heap.size tMs 8 o O.length (O.flatMap Ms.enc) ∧ Mod none_ w2 w') (fun ρ _ => kk - (intOf (ρ 7)).toNat)
    ⟨0, .slice none 0 0, [], Nat.zero_le _, rfl, rfl, rfl, rfl, fun z => (hres.2 z.symm).symm, fun m _ => rfl, Nat.le_refl _, World.ownsRow_nil _ _ _ _, Mod.refl _ _⟩ ?_
  rintro ρ w3 ⟨i, o, O, hi, e7, e6, e0, e5, hO1, hO2, hOl, hO, hm3⟩
  rw [dispatcherref13_Queue_Ahead_L0_eq]; unfold dispatcherref13_Queue_Ahead_L0_F
  rw [e7, e6, BK_lss]
  by_cases hlt : i < kk
  · obtain ⟨m, hm, hn, hah⟩ := hat (by omega)
    subst hn
    rw [decide_eq_true (by omega)]
    refine condT ?_
    have hx : l[i]? = some l[i] := List.getElem?_eq_getElem (by omega)
    have etk : l.take (i + 1) = l.take i ++ [l[i]] := by rw [List.take_add_one, hx]; rfl
    generalize l[i] = x at *
    have hOe := hO2 m hm
    refine dispatcherref13_Queue_Ahead_R3_tail (D := []) ?_
    have hd : Mod none_ w3 { w3 with drawn := w3.drawn + 1 } := (Mod.refl _ w3).drawn _
    generalize ({ w3 with drawn := w3.drawn + 1 } : World) = wd at *
    have hmd := hm3.trans hd
    have hD := h1.calm hmd
    obtain ⟨pa, ra, la⟩ := own_at hD.own hx
    have hcell : ∀ (k : Nat) (u : Value), m.enc[k]? = some u → ∃ a, (∀ w', (Instr.indexAt tMsS V (.int .i64 (kk : Int))).run Try.prog w' = .ok (.pointer (some a)) w') ∧ wd.cell? (a.add k) = some u := by
      intro k u hu
      obtain ⟨g, cap, ev, _⟩ := owns_some hD.own (by omega)
      have hkl := (List.getElem?_eq_some_iff.1 hm).1
      have hDV : Dat wd g cap l := by have := hD.own; rw [ev] at this; exact this
      subst ev
      refine ⟨⟨g, kk * 8, none⟩, fun w' => Dat.ix rfl hkl w', ?_⟩
      obtain ⟨_, A, cc, es, _, hr⟩ := reads_of_owns hDV
      cases es
      have hk8 : k < 7 + 1 := (List.getElem?_eq_some_iff.1 hu).1
      obtain ⟨a, ha, hc⟩ := hr (kk * (7 + 1) + k) u (by rw [fl_get (k := 7 + 1) Ms.enc_len hm hk8]; exact hu)
      cases ha
      rw [add_pl] at hc ⊢
      simpa using hc
    obtain ⟨a0, r0, c0⟩ := hcell 0 _ rfl
    obtain ⟨a1, r1, c1⟩ := hcell 1 _ rfl
    obtain ⟨a2, r2, c2⟩ := hcell 2 _ rfl
    have key : ∀ (ρ' : Sl) (K : Exit → Sl → World → Prop), ρ' 0 = .pointer (some ⟨p, 0, none⟩) → ρ' 6 = .int .i64 kk → ρ' 7 = .int .i64 i →
        (∀ (ρ2 : Sl) (w' : World), ρ2 0 = ρ' 0 → ρ2 5 = ρ' 5 → ρ2 6 = ρ' 6 → ρ2 7 = ρ' 7 → ρ2 50 = .bool (isV x m.key m.frm m.to) → Mod none_ wd w' → K .normal ρ2 w') → dispatcherref13_Queue_Ahead_R3_T K ρ' wd := by
      intro ρ' K q0 q6 q7 hK
      unfold dispatcherref13_Queue_Ahead_R3_T
      rw [q0, q6, q7]
      have ldV : ∀ {K : Value → Prop}, K V → QK Try.prog (fun w' => w' = wd) (do pure (Next.value (← Instr.loadAt tMsS (.pointer (some (Addr.add ⟨p, 0, none⟩ 0)))))) K := fun hk => Qld vMsS rfl (fun w' hw => by rw [hw, add_pl, cell_blk hD.blk]; rfl) hk
      refine QN_ptr (Qfo (off := 0) (by kernel_rfl) (ldV ?_))
      refine QV_of (fun w' _ => ra w') (QV_of (fun w' hw => by rw [hw]; exact la wd (Mod.refl _ _)) ?_)
      refine QN_ptr (Qfo (off := 0) (by kernel_rfl) (ldV ?_))
      refine QV_of (fun w' _ => r0 w') (Qfo (off := 0) (by kernel_rfl) (Qld (v := strV m.key) vS rfl (fun w' hw => by rw [hw]; exact c0) ?_))
      refine QN_ptr (Qfo (off := 0) (by kernel_rfl) (ldV ?_))
      refine QV_of (fun w' _ => r1 w') (Qfo (off := 1) (by kernel_rfl) (Qld (v := .int .i64 m.frm) vI rfl (fun w' hw => by rw [hw]; exact c1) ?_))
      refine QN_ptr (Qfo (off := 0) (by kernel_rfl) (ldV ?_))
      refine QV_of (fun w' _ => r2 w') (Qfo (off := 2) (by kernel_rfl) (Qld (v := .int .i64 m.to) vI rfl (fun w' hw => by rw [hw]; exact c2) ?_))
      refine CK_st Try.func88 rfl rfl (is_ok x m.key m.frm m.to wd) ?_
      rintro _ w4 ⟨rfl, hm4⟩
      exact hK _ w4 rfl rfl rfl rfl rfl hm4
    refine key _ _ (by first | exact e0 | rfl) (by first | exact e6 | rfl) (by first | exact e7 | rfl) ?_
    intro ρ2 w4 z0 z5 z6 z7 q50 hm4
    have s0 : ρ2 0 = .pointer (some ⟨p, 0, none⟩) := z0.trans (by first | exact e0 | rfl)
    have s5 : ρ2 5 = o := z5.trans (by first | exact e5 | rfl)
    have s6 : ρ2 6 = .int .i64 kk := z6.trans (by first | exact e6 | rfl)
    have s7 : ρ2 7 = .int .i64 i := z7.trans (by first | exact e7 | rfl)
    have hm34 := hmd.trans hm4
    have hO4 := owns_mod hO (hd.trans hm4) fun _ _ => id
    have hD4 := hD.calm hm4
    rw [sq_n, dispatcherref13_Queue_Ahead_R4_eq]; unfold dispatcherref13_Queue_Ahead_R4_F
    rw [q50, s0, s5, s7]
    have nx : ∀ (ρ3 : Sl) (w' : World) (o' : Value) (O' : List Ms), ρ3 7 = .int .i64 i → ρ3 6 = .int .i64 kk → ρ3 0 = .pointer (some ⟨p, 0, none⟩) → ρ3 5 = o' → O' = ((l.take (i + 1)).filter fun x => isV x m.key m.frm m.to) → w'.ownsRow w2.heap.size tMs 8 o' O'.length (O'.flatMap Ms.enc) → Mod none_ w2 w' →
        sx fn_ Try.prog 62 dispatcherref13_Queue_Ahead_R2 (seqK (fun ρ w' => (∃ (i : Nat) (o : Value) (O : List Ms), i ≤ kk ∧ ρ 7 = .int .i64 i ∧ ρ 6 = .int .i64 kk ∧ ρ 0 = .pointer (some ⟨p, 0, none⟩) ∧ ρ 5 = o ∧ (i = kk → O = aheadV l m0.frm m0.call) ∧ (∀ m, l[kk]? = some m → O = (l.take i).filter fun x => isV x m.key m.frm m.to) ∧ O.length ≤ i ∧ w'.ownsRow w2.heap.size tMs 8 o O.length (O.flatMap Ms.enc) ∧ Mod none_ w2 w') ∧ kk - (intOf (ρ 7)).toNat < kk - (intOf (.int .i64 (i : Int))).toNat) (blkK 0 (seqK (sx fn_ Try.prog 62 dispatcherref13_Queue_Ahead_R1 (retK Try.prog [ResultVar.tmp 4] (RowP w (aheadV l m0.frm m0.call)))) (retK Try.prog [ResultVar.tmp 4] (RowP w (aheadV l m0.frm m0.call)))))) ρ3 w' := by
      intro ρ3 w' o' O' b7 b6 b0 b5 hO' hown hmw
      rw [dispatcherref13_Queue_Ahead_R2_eq]; unfold dispatcherref13_Queue_Ahead_R2_F
      rw [b7, BK_add, wrap_i (by omega) (by omega)]
      refine ⟨⟨i + 1, o', O', hlt, rfl, b6, b0, b5, fun z => by rw [hO', hah, z], fun m' hm' => by rw [hm] at hm'; cases hm'; exact hO', ?_, hown, hmw⟩, ?_⟩
      · rw [hO']
        exact Nat.le_trans (List.length_filter_le _ _) (by rw [List.length_take]; omega)
      · simp only [sq_n, sq_x, sq_r, bk_n, bk_r, bk_x, rt_r, rt_n, rs_0, rs_t, pk_1, pk_2, up_at, reduceIte, Nat.reduceEqDiff, intOf]; omega
    cases hv : isV x m.key m.frm m.to with
    | false =>
      refine condF ?_
      rw [bk_n, sq_n]
      exact nx _ w4 o O s7 s6 s0 s5 (by rw [etk, List.filter_append, hOe]; simp [hv]) hO4 hm34
    | true =>
      refine condT ?_
      rw [NK_ptr, (f_all hD4).e]
      refine ixMs (d_row hD4) hx rfl fun _ => ?_
      refine app1 hO4 hm34.size (by omega) fun _ o' w6 hO6 hm6 => ?_
      rw [bk_n, sq_n]
      exact nx _ w6 o' _ (by first | exact s7 | rfl) (by first | exact s6 | rfl) (by first | exact s0 | rfl) rfl (by rw [etk, List.filter_append, hOe]; simp [hv]) hO6 (hm34.then hm6 fun i hi z => by omega)
  · obtain rfl : i = kk := by omega
    rw [decide_eq_false (by rcases hkk with q | ⟨q, _⟩ <;> omega)]
    refine condF ?_
    rw [sq_x, bk_x, sq_n, dispatcherref13_Queue_Ahead_R1_eq]; unfold dispatcherref13_Queue_Ahead_R1_F
    rw [hO1 rfl] at hO
    refine ⟨?_, hm1.trans hm3⟩
    show w3.ownsRow _ _ _ (ρ 5) _ _
    rw [e5]; exact owns_base hO hm1.size
end
end Go.Proofs.Ytmnkedgmpbcicaa.Que
set_option maxRecDepth 20000
namespace Go.Proofs
open Go.Shelf
def Try.lays189_ren : Go.Shelf.Ren := ⟨fun | 189 => 79 | 125 => 87 | 257 => 86 | 128 => 99 | 129 => 100 | 294 => 90 | 295 => 91 | 296 => 92 | 297 => 93 | 298 => 94 | 299 => 95 | 216 => 96 | 300 => 97 | 301 => 98 | 328 => 102 | 329 => 103 | 330 => 104 | 331 => 105 | 332 => 106 | 215 => 85 | 343 => 107 | n => n, fun | 28 => 107 | 3 => 3 | 46 => 129 | 0 => 0 | 51 => 141 | 53 => 85 | 4 => 4 | 183 => 133 | 182 => 132 | 131 => 138 | 5 => 5 | 9 => 9 | 218 => 143 | 222 => 147 | 228 => 149 | 229 => 150 | n => n, fun | n => n⟩
theorem Try.lays189 : Go.Proofs.Lays.n189 Try.prog Try.lays189_ren := {
  mixed := by kernel_rfl
  f125 := Try.func87.trans (congrArg some (by kernel_rfl))
  f128 := Try.func99.trans (congrArg some (by kernel_rfl))
  f129 := Try.func100.trans (congrArg some (by kernel_rfl))
  f189 := Try.func79.trans (congrArg some (by kernel_rfl))
  f215 := Try.func85.trans (congrArg some (by kernel_rfl))
  f216 := Try.func96.trans (congrArg some (by kernel_rfl))
  f257 := Try.func86.trans (congrArg some (by kernel_rfl))
  f294 := Try.func90.trans (congrArg some (by kernel_rfl))
  f295 := Try.func91.trans (congrArg some (by kernel_rfl))
  f296 := Try.func92.trans (congrArg some (by kernel_rfl))
  f297 := Try.func93.trans (congrArg some (by kernel_rfl))
  f298 := Try.func94.trans (congrArg some (by kernel_rfl))
  f299 := Try.func95.trans (congrArg some (by kernel_rfl))
  f300 := Try.func97.trans (congrArg some (by kernel_rfl))
  f301 := Try.func98.trans (congrArg some (by kernel_rfl))
  f328 := Try.func102.trans (congrArg some (by kernel_rfl))
  f329 := Try.func103.trans (congrArg some (by kernel_rfl))
  f330 := Try.func104.trans (congrArg some (by kernel_rfl))
  f331 := Try.func105.trans (congrArg some (by kernel_rfl))
  f332 := Try.func106.trans (congrArg some (by kernel_rfl))
  f343 := Try.func107.trans (congrArg some (by kernel_rfl))
  t0 := Try.underlying0
  a0 := Try.isAgg0
  z0 := Try.sizeOf0
  v0 := Try.zeroValue0
  t3 := Try.underlying3
  a3 := Try.isAgg3
  z3 := Try.sizeOf3
  v3 := Try.zeroValue3
  t4 := Try.underlying4
  a4 := Try.isAgg4
  z4 := Try.sizeOf4
  v4 := Try.zeroValue4
  t5 := Try.underlying5
  a5 := Try.isAgg5
  z5 := Try.sizeOf5
  v5 := Try.zeroValue5
  t9 := Try.underlying9
  a9 := Try.isAgg9
  z9 := Try.sizeOf9
  v9 := Try.zeroValue9
  t28 := Try.underlying107
  a28 := Try.isAgg107
  z28 := Try.sizeOf107
  v28 := Try.zeroValue107
  t46 := Try.underlying129
  a46 := Try.isAgg129
  z46 := Try.sizeOf129
  v46 := Try.zeroValue129
  t51 := Try.underlying141
  a51 := Try.isAgg141
  z51 := Try.sizeOf141
  v51 := Try.zeroValue141
  t53 := Try.underlying85
  a53 := Try.isAgg85
  z53 := Try.sizeOf85
  v53 := Try.zeroValue85
  t131 := Try.underlying138
  a131 := Try.isAgg138
  z131 := Try.sizeOf138
  v131 := Try.zeroValue138
  t182 := Try.underlying132
  a182 := Try.isAgg132
  z182 := Try.sizeOf132
  v182 := Try.zeroValue132
  t183 := Try.underlying133
  a183 := Try.isAgg133
  z183 := Try.sizeOf133
  v183 := Try.zeroValue133
  t218 := Try.underlying143
  a218 := Try.isAgg143
  z218 := Try.sizeOf143
  v218 := Try.zeroValue143
  t222 := Try.underlying147
  a222 := Try.isAgg147
  z222 := Try.sizeOf147
  v222 := Try.zeroValue147
  t228 := Try.underlying149
  a228 := Try.isAgg149
  z228 := Try.sizeOf149
  v228 := Try.zeroValue149
  t229 := Try.underlying150
  a229 := Try.isAgg150
  z229 := Try.sizeOf150
  v229 := Try.zeroValue150 }
end Go.Proofs
set_option linter.unusedVariables false
set_option linter.unusedSimpArgs false
set_option maxRecDepth 4000
namespace Go.X
open Go Go.RowKit
theorem sorted_ext : ∀ {s t : List Int}, s.Pairwise (· < ·) → t.Pairwise (· < ·) → (∀ x, x ∈ s ↔ x ∈ t) → s = t
  | [], [], _, _, _ => rfl
  | [], b :: t, _, _, h => absurd ((h b).2 List.mem_cons_self) (by simp)
  | a :: s, [], _, _, h => absurd ((h a).1 List.mem_cons_self) (by simp)
  | a :: s, b :: t, hs, ht, h => by
    rw [List.pairwise_cons] at hs ht
    have hab : a = b := by
      have h1 := (h a).1 List.mem_cons_self
      have h2 := (h b).2 List.mem_cons_self
      rcases List.mem_cons.1 h1 with q | q
      · exact q
      · rcases List.mem_cons.1 h2 with z | z
        · exact z.symm
        · have := ht.1 a q; have := hs.1 b z; omega
    subst hab
    congr 1
    refine sorted_ext hs.2 ht.2 fun x => ⟨fun q => ?_, fun q => ?_⟩
    · rcases List.mem_cons.1 ((h x).1 (List.mem_cons_of_mem _ q)) with z | z
      · have := hs.1 x q; omega
      · exact z
    · rcases List.mem_cons.1 ((h x).2 (List.mem_cons_of_mem _ q)) with z | z
      · have := ht.1 x q; omega
      · exact z
theorem merge_lt {l : List Int} (h : l.Nodup) : (l.mergeSort fun x y => decide (x ≤ y)).Pairwise (· < ·) := by
  have h1 := List.pairwise_mergeSort (le := fun x y : Int => decide (x ≤ y)) (fun a b c p q => by simp only [decide_eq_true_eq] at p q ⊢; omega) (fun a b => by simp only [Bool.or_eq_true, decide_eq_true_eq]; omega) l
  have h2 : (l.mergeSort fun x y => decide (x ≤ y)).Nodup := (List.mergeSort_perm l _).nodup_iff.2 h
  refine (List.pairwise_iff_getElem.2 fun i j hi hj hij => ?_)
  have a := List.pairwise_iff_getElem.1 h1 i j hi hj hij
  have b := List.pairwise_iff_getElem.1 h2 i j hi hj hij
  simp only [decide_eq_true_eq] at a
  omega
def sentBy (l : List Ms) (k : List UInt8) (t x : Int) : Bool := l.any fun m => nt m && decide (m.ch = (k, x, t))
def sendersV (l : List Ms) (k : List UInt8) (t : Int) : List Int := ((List.range 64).map fun n : Nat => (n : Int)).filter (sentBy l k t)
def FrmOk (l : List Ms) : Prop := ∀ m ∈ l, 0 ≤ m.frm ∧ m.frm ≤ 63
theorem FrmOk.nil : FrmOk [] := by intro m hm; cases hm
theorem FrmOk.take {l : List Ms} (h : FrmOk l) (f c : Int) : FrmOk (takeV l f c).1 := by
  unfold takeV
  split
  · exact h
  · split
    · exact h
    · intro m hm
      obtain ⟨x, hx, rfl⟩ := List.mem_map.1 hm
      rw [tk_frm]; exact h x hx
theorem FrmOk.send {l : List Ms} (h : FrmOk l) (m : Ms) : FrmOk (sendV l m).1 := by
  unfold sendV
  split
  · exact h
  · rename_i hb
    intro x hx
    rcases List.mem_append.1 hx with q | q
    · exact h x q
    · rw [List.mem_singleton.1 q]
      have : badM m = false := by
        cases hq : badM m with
        | false => rfl
        | true => rw [hq] at hb; simp at hb
      unfold badM at this
      simp only [Bool.or_eq_false_iff, Bool.not_eq_false', Bool.and_eq_true, decide_eq_true_eq] at this
      exact this.1.1.1.1.2
theorem range_lt (n : Nat) : ((List.range n).map fun n : Nat => (n : Int)).Pairwise (· < ·) := by
  rw [List.pairwise_map]
  exact List.pairwise_lt_range.imp fun h => by omega
theorem senders_eq {l : List Ms} (hg : FrmOk l) {k : List UInt8} {t : Int} {out : List Int} (hn : out.Nodup) (hm : ∀ x, x ∈ out ↔ sentBy l k t x = true) : (out.mergeSort fun x y => decide (x ≤ y)) = sendersV l k t := by
  refine sorted_ext (merge_lt hn) ((range_lt 64).filter _) fun x => ?_
  rw [(List.mergeSort_perm out _).mem_iff, hm, sendersV, List.mem_filter]
  refine ⟨fun q => ⟨?_, q⟩, fun q => q.2⟩
  unfold sentBy at q
  obtain ⟨m, hml, hmq⟩ := List.any_eq_true.1 q
  have hch : m.ch = (k, x, t) := by
    have := (Bool.and_eq_true_iff.1 hmq).2
    simpa using this
  have hx : m.frm = x := by unfold Ms.ch at hch; simp only [Prod.mk.injEq] at hch; exact hch.2.1
  have := hg m hml
  rw [List.mem_map]
  exact ⟨x.toNat, List.mem_range.2 (by omega), by omega⟩
end Go.X
namespace Go.Proofs.Ytmnkedgmpbcicaa.Que
open Go Go.X Go.RowKit Go.Proofs.Ytmnkedgmpbcicaa.XF Go.Proofs.Ytmnkedgmpbcicaa.XK
abbrev tI : TypeId := 3
abbrev tIs : TypeId := 107
theorem eIs : elemOk Try.prog tIs tI 1 8 = true := by kernel_rfl
theorem SortI_ok {w : World} {v : Value} {zs : List Int} {B : Nat} (h : w.ownsRow B tI 1 v zs.length (ints zs)) (hl : zs.length ≤ 1000000) : Rt Try.prog 79 #[v] w fun _ w' => w'.ownsRow B tI 1 v zs.length (ints (zs.mergeSort fun x y => decide (x ≤ y))) ∧ Mod (fun b => sb v b) w w' := by
  have h' := h
  obtain ⟨hlen, ⟨rfl, h0⟩ | ⟨g, cap, cur, rfl, hb, hg, hn, hm, hs, ht⟩⟩ := h
  · obtain rfl : zs = [] := List.eq_nil_of_length_eq_zero h0
    refine Calls.mono (Any.slices_Sort_int_none Try.lays189 none 0 w) ?_
    rintro e w' ⟨rfl, rfl⟩
    exact ⟨_, rfl, by rw [List.mergeSort_nil]; exact h', Mod.refl _ _⟩
  · have hH : Go.Sort.Holds (Value.int .i64) w g 0 zs.toArray := holds_of_blockI hg (by rw [Nat.mul_one] at ht; exact ht)
    refine Calls.mono (Any.slices_Sort_int Try.lays189 g 0 cap zs w hH (X.blk_lt hg) (by omega)) ?_
    rintro e w' ⟨rfl, n, os, rfl⟩
    refine ⟨_, rfl, ?_, ?_⟩
    · exact ownsRow_sortedI (ss := zs) (ts := zs.mergeSort fun x y => decide (x ≤ y)) (List.length_mergeSort zs) hb hg hn hm hs
    · exact (Mod.ofGrown (grownBy_sortedI (n := n) (os := os) (g := g) (w := w) (zs.mergeSort fun x y => decide (x ≤ y)).toArray)).mono fun b _ z => z.symm
theorem appI {w : World} {v : Value} {xs : List Int} {m : Int} {B : Nat} {K : Value → Value → World → Prop} (ho : w.ownsRow B tI 1 v xs.length (ints xs)) (hB : B ≤ w.heap.size) (hl : xs.length ≤ 2000000)
    (hk : ∀ x v' w', w'.ownsRow B tI 1 v' (xs ++ [m]).length (ints (xs ++ [m])) → Mod (fun b => B ≤ b) w w' → K x v' w') :
    VK Try.prog (Instr.buildSlice tIs 1 [(0, .int .i64 m)].toArray) w fun x w => IK Try.prog .append #[tIs, tIs] tIs [false, false] [v, x] w (K x) := by
  refine bs_k (cs := #[.int .i64 m]) (by kernel_rfl) fun w1 hb1 hm1 hz1 => ?_
  refine ap_any eIs (owns_mod ho hm1 fun _ _ => id) (reads_blk (size := 1) (n := 1) hb1 rfl) (fun u hu => by rw [List.mem_singleton.1 hu]; rfl) (by unfold maxLen; omega) (by omega) (by omega) fun v' w2 ho2 hm2 hv2 => ?_
  refine hk _ v' w2 ?_ ((hm1.mono fun _ _ z => z.elim).trans (hm2.mono fun b _ z => (owns_bd (owns_mod ho hm1 fun _ _ => id) b z.symm).1))
  rw [List.length_append]
  unfold ints at ho2 ⊢
  rw [List.map_append]
  exact ho2
end Go.Proofs.Ytmnkedgmpbcicaa.Que
set_option linter.unusedVariables false
set_option linter.unusedSimpArgs false
set_option maxRecDepth 4000
namespace Go.X
open Go Go.RowKit
def toldE (l : List Ms) (k : List UInt8) (t : Int) (e : Ent Ch) : Bool := decide (e.k = (k, e.k.2.1, t)) && (rowOf l e.k).any nt
def outE (l : List Ms) (k : List UInt8) (t : Int) (vs : List (Ent Ch)) : List Int := (vs.filter (toldE l k t)).map fun e => e.k.2.1
theorem toldE_iff {l : List Ms} {k : List UInt8} {t : Int} {e : Ent Ch} : toldE l k t e = true ↔ e.k = (k, e.k.2.1, t) ∧ ∃ m ∈ l, m.ch = e.k ∧ nt m = true := by
  unfold toldE
  rw [Bool.and_eq_true, decide_eq_true_iff, List.any_eq_true]
  refine and_congr Iff.rfl ⟨fun ⟨m, hm, hn⟩ => ?_, fun ⟨m, hm, hc, hn⟩ => ⟨m, mem_row.2 ⟨hm, hc⟩, hn⟩⟩
  obtain ⟨a, b⟩ := mem_row.1 hm
  exact ⟨m, a, b, hn⟩
theorem outE_nodup {l : List Ms} {k : List UInt8} {t : Int} {vs : List (Ent Ch)} (hd : vs.Pairwise fun a b => a.k ≠ b.k) : (outE l k t vs).Nodup := by
  unfold outE
  show List.Pairwise _ _
  rw [List.pairwise_map]
  refine List.pairwise_iff_getElem.2 fun i j hi hj hij z => ?_
  have h1 := List.pairwise_iff_getElem.1 (hd.filter (toldE l k t)) i j hi hj hij
  have a := (toldE_iff.1 (List.mem_filter.1 (List.getElem_mem hi)).2).1
  have b := (toldE_iff.1 (List.mem_filter.1 (List.getElem_mem hj)).2).1
  exact h1 (by rw [a, b, z])
theorem outE_mem {l : List Ms} {V : QV} (h : QInv l V) {k : List UInt8} {t : Int} {vs : List (Ent Ch)} (hs : ∀ e ∈ vs, e ∈ V.er) (hall : ∀ e ∈ V.er, e ∈ vs) (x : Int) : x ∈ outE l k t vs ↔ sentBy l k t x = true := by
  unfold outE sentBy
  rw [List.mem_map, List.any_eq_true]
  constructor
  · rintro ⟨e, he, rfl⟩
    obtain ⟨h1, m, hm, hc, hn⟩ := toldE_iff.1 (List.mem_filter.1 he).2
    exact ⟨m, hm, by rw [hn, hc]; simpa using h1⟩
  · rintro ⟨m, hm, hq⟩
    rw [Bool.and_eq_true, decide_eq_true_iff] at hq
    obtain ⟨e, he, hk⟩ := h.cov m hm
    refine ⟨e, List.mem_filter.2 ⟨hall e he, toldE_iff.2 ⟨?_, m, hm, hk.symm, hq.1⟩⟩, ?_⟩
    · rw [hk, hq.2]
    · rw [hk, hq.2]
end Go.X
namespace Go.Proofs.Ytmnkedgmpbcicaa.Que
open Go Go.X Go.RowKit Go.Proofs.Ytmnkedgmpbcicaa.XF Go.Proofs.Ytmnkedgmpbcicaa.XK
theorem gCh : Try.prog.eqGuardType Try.prog.depth 91 = false := by kernel_rfl
theorem BK_ChE {w : World} {K : Value → World → Prop} {x y : Operand} (a b : Ch) : BK Try.prog .eql 91 x y (encC a) (encC b) w K = K (.bool (decide (a = b))) w := by
  obtain ⟨a1, a2, a3⟩ := a; obtain ⟨b1, b2, b3⟩ := b
  refine BK_of (run_eqGuard_agg w .eql _ x y _ _ gCh) ?_
  unfold encC strV
  rw [run_eql_struct]
  have := eqC ⟨a1.toArray⟩ ⟨b1.toArray⟩ a2 a3 b2 b3 w
  unfold Op.equal at this
  dsimp only
  rw [show (10000 : Nat) = Op.maxDepth from rfl, this, toL, toL]
  show Result.ok (Value.bool _) w = _
  congr 2
  by_cases h1 : a1 = b1 <;> by_cases h2 : a2 = b2 <;> by_cases h3 : a3 = b3 <;> simp [h1, h2, h3]
theorem Senders1_ok (m : Ms) (w : World) : Rt Try.prog 78 #[.agg m.enc.toArray] w fun v w' => v = .bool (nt m) ∧ Mod none_ w w' := by
  refine queue_Queue_Senders_1_calls ?_
  unfold queue_Queue_Senders_1_F
  refine box_k (cs := m.enc.toArray) rfl fun w1 hb1 hm1 hz1 => ?_
  have g : FO Try.prog w1 tMs 7 7 ⟨w.heap.size, 0, none⟩ 4 (.bool m.taken) := FO.blk hb1 (by kernel_rfl) vB rfl rfl
  rw [g.e, not_ok]
  exact ⟨rfl, hm1⟩
section
variable {w : World} {p : Nat} {l : List Ms} {V : QV}
abbrev IntP (w0 : World) (xs : List Int) : Value → World → Prop := fun v w' => w'.ownsRow w0.heap.size tI 1 v xs.length (ints xs) ∧ Mod none_ w0 w'
theorem Senders_ok (h : QAt w p l V) (hg : FrmOk l) (hL : l.length ≤ 500000) (k : List UInt8) (t : Int) : Rt Try.prog 62 #[.pointer (some ⟨p, 0, none⟩), strV k, .int .i64 t] w (IntP w (sendersV l k t)) := by
  refine queue_Queue_Senders_calls ?_
  unfold queue_Queue_Senders_F
  refine CK_st Try.func49 rfl rfl (none_ok h) ?_
  rintro _ w1 ⟨rfl, rfl⟩
  refine condF ?_
  rw [NK_ptr, (f_rows h).e]
  refine range_k uR h.rm fun w2 hit hm2 hz2 => ?_
  refine W_loopG queue_Queue_Senders_L0_ok (fun m ρ w' => ∃ (vs : List (Ent Ch)) (o : Value), m = togo V.er (vs.map (·.b)) ∧ (∀ e ∈ vs, e ∈ V.er) ∧ vs.Pairwise (fun a b => a.k ≠ b.k) ∧ ρ 17 = .pointer (some ⟨w1.heap.size, 0, none⟩) ∧ ρ 7 = o ∧ ρ 1 = strV k ∧ ρ 2 = .int .i64 t ∧ IterAt w' w1.heap.size V.rb V.c1 (vs.map (·.b)) V.c1 ∧ w'.ownsRow w2.heap.size tI 1 o (outE l k t vs).length (ints (outE l k t vs)) ∧ (outE l k t vs).length ≤ l.length ∧ Mod (fun b => w1.heap.size ≤ b) w2 w' ∧ Mod none_ w1 w') (togo V.er [])
    ⟨[], .slice none 0 0, rfl, by simp, by simp, rfl, rfl, rfl, rfl, hit, World.ownsRow_nil _ _ _ _, Nat.zero_le _, Mod.refl _ _, hm2⟩ ?_
  rintro m ρ w3 ⟨vs, o, hmv, hvs, hvd, e17, e7, e1, e2, hit3, hO3, hol, hm23, hm13⟩
  rw [queue_Queue_Senders_L0_eq]; unfold queue_Queue_Senders_L0_F
  rw [e17]
  have h3 := h.calm hm13
  refine next_k h3.rm hit3 h3.inv.rc (Nat.le_refl _) (fun hall => ?_) (fun e he hne w4 hit4 hm4 hz4 => ?_)
  · rw [extract_ok (v := .bool false) rfl]
    refine condF ?_
    rw [sq_x, bk_x, sq_n, queue_Queue_Senders_R1_eq]; unfold queue_Queue_Senders_R1_F
    have key : ∀ ρ : Sl, ρ 7 = o → CK Try.prog (.func (.func 79) #[] #[]) [ρ 7] w3 fun x41 w => retK Try.prog [ResultVar.tmp 6] (IntP w1 (sendersV l k t)) .ret (up (up (up (up ρ 40 (ρ 7)) 41 x41) 42 (ρ 7)) 6 (ρ 7)) w := by
      intro ρ q7
      rw [q7]
      refine CK_st Try.func79 rfl rfl (SortI_ok hO3 (by omega)) ?_
      rintro _ w4 ⟨hO4, hm4⟩
      have hall' := mem_of_born h.inv.rb hvs hall
      have hse := senders_eq hg (outE_nodup (l := l) (k := k) (t := t) hvd) (outE_mem h.inv (k := k) (t := t) hvs hall')
      have hl4 := congrArg List.length hse
      rw [List.length_mergeSort] at hl4
      rw [hse, hl4] at hO4
      refine ⟨?_, hm13.then hm4 fun i hi z => ?_⟩
      · exact owns_base hO4 (by omega)
      · have := (owns_bd hO3 i z).1; omega
    exact key _ e7
  · rw [extract_ok (v := .bool true) rfl]
    refine condT ?_
    have hm14 : Mod none_ w1 w4 := hm13.fresh hm4 (Nat.le_refl _)
    have h4 := h.calm hm14
    refine entry_k h4.rm hit4 he h4.inv.rb ?_
    rw [extract_ok (v := encC e.k) rfl, extract_ok (v := e.v) rfl]
    refine al_k (cs := #[strV [], .int .i64 0, .int .i64 0]) zC_z rfl _ fun w5 hb5 hm5 hz5 => ?_
    refine stS (cs := #[strV e.k.1, .int .i64 e.k.2.1, .int .i64 e.k.2.2]) (old := #[strV [], .int .i64 0, .int .i64 0]) rfl rfl (by kernel_rfl) rfl (by simp [Value.oneCell', strV]) hb5 fun w6 hb6 hm6 hz6 => ?_
    have hm46 : Mod none_ w4 w6 := hm5.fresh hm6 (Nat.le_refl _)
    have h6 := h4.calm hm46
    have hr6 : MsRow w6 e.v (rowOf l e.k) := reads_of_owns (h6.rows e he)
    have hrl := row_len l e.k
    refine CK_st Try.func44 rfl rfl (ContainsFuncMs_ok (p := nt) hr6 (by omega) fun a _ w' _ K hK => ?_) ?_
    · refine CK_st Try.func78 rfl rfl (Senders1_ok a w') ?_
      rintro _ w'' ⟨rfl, hm''⟩
      exact hK w'' hm''
    rintro _ w7 ⟨rfl, hm7⟩
    have hm47 := hm46.trans hm7
    have hb7 := hm7.blk hb6 id
    have g1 : FO Try.prog w7 91 1 1 ⟨w4.heap.size, 0, none⟩ 3 (.int .i64 e.k.2.1) := FO.blk hb7 (by kernel_rfl) vI rfl rfl
    refine ldS (cs := #[strV e.k.1, .int .i64 e.k.2.1, .int .i64 e.k.2.2]) rfl Try.underlying91 rfl (by kernel_rfl) hb7 ?_
    rw [g1.e, e1, e2, build_ok (cs := #[strV k, .int .i64 e.k.2.1, .int .i64 t]) (by kernel_rfl)]
    rw [show Value.agg #[strV e.k.1, .int .i64 e.k.2.1, .int .i64 e.k.2.2] = encC e.k from rfl, show Value.agg #[strV k, .int .i64 e.k.2.1, .int .i64 t] = encC (k, e.k.2.1, t) from rfl, BK_ChE]
    have hO7 := owns_mod (owns_mod hO3 hm4 fun g z y => by have := (owns_bd hO3 g z).1; omega) hm47 fun _ _ => id
    have hmap : (vs ++ [e]).map (·.b) = vs.map (·.b) ++ [e.b] := by simp
    have hz47 := hm47.size
    have hkn := key_ne h.inv.rk hvs he hne
    have hvd' : (vs ++ [e]).Pairwise fun a b => a.k ≠ b.k := by
      rw [List.pairwise_append]
      exact ⟨hvd, by simp, fun a ha b hb => by rw [List.mem_singleton.1 hb]; exact hkn a ha⟩
    have hvs' : ∀ x ∈ vs ++ [e], x ∈ V.er := fun x hx => by
      rcases List.mem_append.1 hx with z | z
      · exact hvs x z
      · rw [List.mem_singleton.1 z]; exact he
    have hoa : outE l k t (vs ++ [e]) = outE l k t vs ++ (if toldE l k t e then [e.k.2.1] else []) := by
      unfold outE
      rw [List.filter_append, List.map_append]
      congr 1
      by_cases q : toldE l k t e = true <;> simp [q]
    have hlen' : (outE l k t (vs ++ [e])).length ≤ l.length := by
      have h2 := (outE_nodup (l := l) (k := k) (t := t) hvd').length_le_of_subset (l₂ := l.map fun m => m.frm) fun x hx => ?_
      · rwa [List.length_map] at h2
      · unfold outE at hx
        obtain ⟨e', he', rfl⟩ := List.mem_map.1 hx
        obtain ⟨_, m', hm', hc', _⟩ := toldE_iff.1 (List.mem_filter.1 he').2
        exact List.mem_map.2 ⟨m', hm', by rw [← hc']; rfl⟩
    have hm27 : Mod (fun b => w1.heap.size ≤ b) w2 w7 := (hm23.trans (hm4.mono fun b _ z => by omega)).trans (hm47.mono fun _ _ z => z.elim)
    have fin : ∀ (ρ' : Sl) (w' : World) (o' : Value), ρ' 17 = .pointer (some ⟨w1.heap.size, 0, none⟩) → ρ' 7 = o' → ρ' 1 = strV k → ρ' 2 = .int .i64 t → IterAt w' w1.heap.size V.rb V.c1 (vs.map (·.b) ++ [e.b]) V.c1 → w'.ownsRow w2.heap.size tI 1 o' (outE l k t (vs ++ [e])).length (ints (outE l k t (vs ++ [e]))) → Mod (fun b => w1.heap.size ≤ b) w2 w' → Mod none_ w1 w' →
        ∃ m', m' < m ∧ ∃ (vs : List (Ent Ch)) (o : Value), m' = togo V.er (vs.map (·.b)) ∧ (∀ e ∈ vs, e ∈ V.er) ∧ vs.Pairwise (fun a b => a.k ≠ b.k) ∧ ρ' 17 = .pointer (some ⟨w1.heap.size, 0, none⟩) ∧ ρ' 7 = o ∧ ρ' 1 = strV k ∧ ρ' 2 = .int .i64 t ∧ IterAt w' w1.heap.size V.rb V.c1 (vs.map (·.b)) V.c1 ∧ w'.ownsRow w2.heap.size tI 1 o (outE l k t vs).length (ints (outE l k t vs)) ∧ (outE l k t vs).length ≤ l.length ∧ Mod (fun b => w1.heap.size ≤ b) w2 w' ∧ Mod none_ w1 w' := by
      intro ρ' w' o' a17 a7 a1 a2 hi' ho' hm2' hm1'
      exact ⟨togo V.er ((vs ++ [e]).map (·.b)), by rw [hmv, hmap]; exact togo_lt he hne, vs ++ [e], o', rfl, hvs', hvd', a17, a7, a1, a2, by rw [hmap]; exact hi', ho', hlen', hm2', hm1'⟩
    have hit7 := hit4.mod hm47 id
    have key : ∀ (ρ' : Sl) (K : Exit → Sl → World → Prop) (q : Bool), ρ' 7 = o → True := fun _ _ _ _ => trivial
    by_cases c1 : e.k = (k, e.k.2.1, t)
    · rw [decide_eq_true c1]
      simp only [↓VG_u, ↓UG_u, ↓MG_u, ↓NG_u, ↓PG_u, ↓BG_u, ↓CG_u, ↓IG_u, ↓VGtt, ↓VGtf, ↓VGft, ↓VGff, ↓UGtt, ↓UGtf, ↓UGft, ↓UGff, ↓MGtt, ↓MGtf, ↓MGft, ↓MGff, ↓NGtt, ↓NGtf, ↓NGft, ↓NGff, ↓PGtt, ↓PGtf, ↓PGft, ↓PGff, ↓BGtt, ↓BGtf, ↓BGft, ↓BGff, ↓CGtt, ↓CGtf, ↓CGft, ↓CGff, ↓IGtt, ↓IGtf, ↓IGft, ↓IGff, ↓PKt, ↓PKf, ↓CDt, ↓CDf, ↓NOTt, ↓NOTf, ↓NK_ptr]
      cases c2 : (rowOf l e.k).any nt with
      | true =>
        simp only [↓VG_u, ↓UG_u, ↓MG_u, ↓NG_u, ↓PG_u, ↓BG_u, ↓CG_u, ↓IG_u, ↓VGtt, ↓VGtf, ↓VGft, ↓VGff, ↓UGtt, ↓UGtf, ↓UGft, ↓UGff, ↓MGtt, ↓MGtf, ↓MGft, ↓MGff, ↓NGtt, ↓NGtf, ↓NGft, ↓NGff, ↓PGtt, ↓PGtf, ↓PGft, ↓PGff, ↓BGtt, ↓BGtf, ↓BGft, ↓BGff, ↓CGtt, ↓CGtf, ↓CGft, ↓CGff, ↓IGtt, ↓IGtf, ↓IGft, ↓IGff, ↓PKt, ↓PKf, ↓CDt, ↓CDf, ↓NOTt, ↓NOTf, ↓NK_ptr]
        rw [g1.e, e7]
        have htold : toldE l k t e = true := by unfold toldE; rw [decide_eq_true c1, c2]; rfl
        have hsz2 := hm2.size
        refine appI hO7 (Nat.le_trans hm27.size (Nat.le_refl _)) (by omega) fun _ o' w8 hO8 hm8 => ?_
        rw [htold, if_pos rfl] at hoa
        rw [← hoa] at hO8
        rw [sq_n]
        refine fin _ w8 o' (by first | exact e17 | rfl) rfl (by first | exact e1 | rfl) (by first | exact e2 | rfl) (hit7.mod hm8 (by omega)) hO8 (hm27.trans (hm8.mono fun b _ z => by omega)) ((hm14.trans hm47).then hm8 fun i hi z => by omega)
      | false =>
        simp only [↓VG_u, ↓UG_u, ↓MG_u, ↓NG_u, ↓PG_u, ↓BG_u, ↓CG_u, ↓IG_u, ↓VGtt, ↓VGtf, ↓VGft, ↓VGff, ↓UGtt, ↓UGtf, ↓UGft, ↓UGff, ↓MGtt, ↓MGtf, ↓MGft, ↓MGff, ↓NGtt, ↓NGtf, ↓NGft, ↓NGff, ↓PGtt, ↓PGtf, ↓PGft, ↓PGff, ↓BGtt, ↓BGtf, ↓BGft, ↓BGff, ↓CGtt, ↓CGtf, ↓CGft, ↓CGff, ↓IGtt, ↓IGtf, ↓IGft, ↓IGff, ↓PKt, ↓PKf, ↓CDt, ↓CDf, ↓NOTt, ↓NOTf, ↓NK_ptr]
        have htold : toldE l k t e = false := by unfold toldE; rw [decide_eq_true c1, c2]; rfl
        rw [htold] at hoa
        simp only [Bool.false_eq_true, if_false, List.append_nil] at hoa
        rw [← hoa] at hO7
        rw [sq_n]
        exact fin _ w7 o (by first | exact e17 | rfl) (by first | exact e7 | rfl) (by first | exact e1 | rfl) (by first | exact e2 | rfl) hit7 hO7 hm27 (hm14.trans hm47)
    · rw [decide_eq_false c1]
      simp only [↓VG_u, ↓UG_u, ↓MG_u, ↓NG_u, ↓PG_u, ↓BG_u, ↓CG_u, ↓IG_u, ↓VGtt, ↓VGtf, ↓VGft, ↓VGff, ↓UGtt, ↓UGtf, ↓UGft, ↓UGff, ↓MGtt, ↓MGtf, ↓MGft, ↓MGff, ↓NGtt, ↓NGtf, ↓NGft, ↓NGff, ↓PGtt, ↓PGtf, ↓PGft, ↓PGff, ↓BGtt, ↓BGtf, ↓BGft, ↓BGff, ↓CGtt, ↓CGtf, ↓CGft, ↓CGff, ↓IGtt, ↓IGtf, ↓IGft, ↓IGff, ↓PKt, ↓PKf, ↓CDt, ↓CDf, ↓NOTt, ↓NOTf, ↓NK_ptr]
      have htold : toldE l k t e = false := by unfold toldE; rw [decide_eq_false c1]; rfl
      rw [htold] at hoa
      simp only [Bool.false_eq_true, if_false, List.append_nil] at hoa
      rw [← hoa] at hO7
      rw [sq_n]
      exact fin _ w7 o (by first | exact e17 | rfl) (by first | exact e7 | rfl) (by first | exact e1 | rfl) (by first | exact e2 | rfl) hit7 hO7 hm27 (hm14.trans hm47)
end
end Go.Proofs.Ytmnkedgmpbcicaa.Que
set_option linter.unusedVariables false
set_option linter.unusedSimpArgs false
set_option maxRecDepth 4000
namespace Go.Proofs.Ytmnkedgmpbcicaa.Que
open Go Go.X Go.RowKit Go.Proofs.Ytmnkedgmpbcicaa.XF Go.Proofs.Ytmnkedgmpbcicaa.XK
def upto (l : List Ms) (k : List UInt8) (t : Int) (n : Nat) : List Int := ((List.range n).map fun n : Nat => (n : Int)).filter (sentBy l k t)
theorem upto_len (l : List Ms) (k : List UInt8) (t : Int) (n : Nat) : (upto l k t n).length ≤ n := by
  unfold upto
  exact Nat.le_trans (List.length_filter_le _ _) (by simp)
section
variable {w : World} {p : Nat} {l : List Ms} {V : Value}
end
theorem ixI {w : World} {v : Value} {l : List Int} {B i : Nat} {m : Int} (h : w.ownsRow B tI 1 v l.length (ints l)) (hi : l[i]? = some m) : ∃ a, (∀ w', (Instr.indexAt tIs v (.int .i64 (i : Int))).run Try.prog w' = .ok (.pointer (some a)) w') ∧ ∀ w', Mod none_ w w' → (Instr.loadAt tI (.pointer (some a))).run Try.prog w' = .ok (.int .i64 m) w' := by
  have hil := (List.getElem?_eq_some_iff.1 hi).1
  have hr := reads_of_owns h
  obtain ⟨g, cap, ev, _⟩ := owns_some h (by omega)
  subst ev
  refine ⟨⟨g, i, none⟩, fun w' => ?_, fun w' hw => ?_⟩
  · rw [run_ixa (sz := 0) vIs (by kernel_rfl) (by omega) (by omega) w', add_pl]
    congr 4
    omega
  · have hr' := reads_mod hr hw (fun _ _ _ => id)
    obtain ⟨_, A, c, es, _, hc⟩ := hr'
    cases es
    obtain ⟨a, ha, hcell⟩ := hc i _ (ints_get hi)
    cases ha
    rw [add_pl, Nat.zero_add] at hcell
    exact run_ld1 vI rfl hcell
end Go.Proofs.Ytmnkedgmpbcicaa.Que
set_option linter.unusedVariables false
set_option linter.unusedSimpArgs false
set_option maxRecDepth 4000
namespace Go.X
open Go Go.RowKit
structure Ac where
  kind : Int
  m : Ms
def Ac.enc (a : Ac) : List Value := .int .u8 a.kind :: a.m.enc
theorem Ac.enc_len (a : Ac) : a.enc.length = 8 + 1 := rfl
def Acts (w : World) (v : Value) (l : List Ac) : Prop := reads w (8 + 1) v l.length (l.flatMap Ac.enc)
structure PQ (w0 w : World) (p q : Nat) (l m : List Ms) (V : QV) (D : Value) : Prop where
  qa : QAt w p l V
  da : DAt w q m D
  dj : ∀ b, V.F p b → ¬ DF q D b
  fr : ∀ b, V.F p b → w0.heap.size ≤ b
  fd : ∀ b, DF q D b → w0.heap.size ≤ b
  mod : Mod none_ w0 w
theorem PQ.move {w0 w w1 : World} {p q : Nat} {l m : List Ms} {V : QV} {D : Value} {S : Nat → Prop} (h : PQ w0 w p q l m V D) (hm : Mod S w w1) (hS : ∀ b, S b → ¬ V.F p b ∧ ¬ DF q D b ∧ w0.heap.size ≤ b) : PQ w0 w1 p q l m V D :=
  ⟨h.qa.mod hm fun b z y => (hS b y).1 z, h.da.mod hm fun b z y => (hS b y).2.1 z, h.dj, h.fr, h.fd, h.mod.then hm fun i hi z => by have := (hS i z).2.2; omega⟩
theorem PQ.calm {w0 w w1 : World} {p q : Nat} {l m : List Ms} {V : QV} {D : Value} (h : PQ w0 w p q l m V D) (hm : Mod none_ w w1) : PQ w0 w1 p q l m V D := h.move hm fun _ z => z.elim
theorem PQ.q {w0 w w1 : World} {p q : Nat} {l m l' : List Ms} {V V1 : QV} {D : Value} (h : PQ w0 w p q l m V D) (h1 : QAt w1 p l' V1) (f : QFr p w V w1 V1) : PQ w0 w1 p q l' m V1 D := by
  have hs := h.mod.size
  refine ⟨h1, h.da.mod f.mod fun b z y => h.dj b y z, fun b z y => ?_, fun b z => ?_, h.fd, h.mod.then f.mod fun i hi z => by have := h.fr i z; omega⟩
  · rcases f.f b z with u | u
    · exact h.dj b u y
    · have := h.da.old b y; omega
  · rcases f.f b z with u | u
    · exact h.fr b u
    · omega
theorem PQ.d {w0 w w1 : World} {p q : Nat} {l m m' : List Ms} {V : QV} {D D1 : Value} (h : PQ w0 w p q l m V D) (h1 : DAt w1 q m' D1) (f : DFr q w D w1 D1) : PQ w0 w1 p q l m' V D1 := by
  have hs := h.mod.size
  refine ⟨h.qa.mod f.mod fun b z y => h.dj b z y, h1, fun b z y => ?_, h.fr, fun b z => ?_, h.mod.then f.mod fun i hi z => by have := h.fd i z; omega⟩
  · rcases f.f b y with u | u
    · exact h.dj b z u
    · have := h.qa.old b z; omega
  · rcases f.f b z with u | u
    · exact h.fd b u
    · omega
theorem sendV_len (l : List Ms) (m : Ms) : (sendV l m).1.length ≤ l.length + 1 := by
  unfold sendV
  split <;> simp
theorem takeV_len (l : List Ms) (f c : Int) : (takeV l f c).1.length = l.length := by
  unfold takeV
  split
  · rfl
  · split <;> simp
end Go.X
namespace Go.Proofs.Ytmnkedgmpbcicaa.Que
open Go Go.X Go.RowKit Go.Proofs.Ytmnkedgmpbcicaa.XF Go.Proofs.Ytmnkedgmpbcicaa.XK
theorem Acts.calm {w w' : World} {s : Value} {l : List Ac} (h : Acts w s l) (hm : Mod none_ w w') : Acts w' s l := reads_mod h hm fun _ _ _ => id
end Go.Proofs.Ytmnkedgmpbcicaa.Que
set_option linter.unusedVariables false
set_option linter.unusedSimpArgs false
set_option maxRecDepth 8000
namespace Go.X
open Go Go.RowKit
end Go.X
namespace Go.Proofs.Ytmnkedgmpbcicaa.Que
open Go Go.X Go.RowKit Go.Proofs.Ytmnkedgmpbcicaa.XF Go.Proofs.Ytmnkedgmpbcicaa.XK
section
variable {w : World} {p : Nat} {V : QV}
theorem slot_k {K : Value → World → Prop} {m : Ms} (hk : ∀ w', w'.heap[w.heap.size]? = some (.cells m.enc.toArray tMs (0, 0)) → Mod none_ w w' → w'.heap.size = w.heap.size + 1 → K (.pointer (some ⟨w.heap.size, 0, none⟩)) w') : VK Try.prog (Instr.alloc tMs true (.tuple #[])) w fun x w => UK Try.prog (Instr.storeAt tMs x (.agg m.enc.toArray)) w fun _ w => K x w := by
  refine al_k (cs := zMs.enc.toArray) zMs_z rfl _ fun w1 hb1 hm1 hz1 => ?_
  refine stS (cs := m.enc.toArray) (old := zMs.enc.toArray) rfl rfl (by rw [iMs]; rfl) rfl (Ms.enc_one _) hb1 fun w2 hb2 hm2 hz2 => ?_
  exact hk w2 hb2 (hm1.fresh hm2 (Nat.le_refl _)) (by omega)
end
end Go.Proofs.Ytmnkedgmpbcicaa.Que
set_option linter.unusedVariables false
set_option linter.unusedSimpArgs false
set_option maxRecDepth 8000
namespace Go.X
open Go Go.RowKit
end Go.X
namespace Go.Proofs.Ytmnkedgmpbcicaa.Que
open Go Go.X Go.RowKit Go.Proofs.Ytmnkedgmpbcicaa.XF Go.Proofs.Ytmnkedgmpbcicaa.XK
section
variable {w w0 : World} {p : Nat} {V : QV}
theorem QFr.none {w' : World} {V' : QV} (h : QFr p w V w' V') (h0 : Mod none_ w0 w) (hF : ∀ b, V.F p b → w0.heap.size ≤ b) : Mod none_ w0 w' ∧ ∀ b, V'.F p b → w0.heap.size ≤ b := by
  have hs := h0.size
  refine ⟨h0.then h.mod fun i hi z => by have := hF i z; omega, fun b z => ?_⟩
  rcases h.f b z with y | y
  · exact hF b y
  · omega
theorem msb_get (o : Option Ms) : msb o = .tuple #[.agg (o.getD zMs).enc.toArray, .bool o.isSome] := by cases o <;> rfl
end
end Go.Proofs.Ytmnkedgmpbcicaa.Que
namespace Go.X
open Go Go.RowKit
end Go.X
set_option linter.unusedVariables false
namespace Go.X
open Go
def stepOk (P : Program) (n : Nat) (ops : Array Oper) (i : Nat) (t : Bool) (listed : Array Bool) : Bool :=
  match ops[i]? with
  | none => false
  | some o => oOk n o && (if t then Region.free .any ops listed i && (Region.ready .any ops listed).contains i else noRound P o.op && (Region.ready .any ops listed == [i]))
theorem planOk_step {P : Program} {n : Nat} {ops : Array Oper} {i : Nat} {t : Bool} {r : List (Nat × Bool)} {listed : Array Bool} (listed' : Array Bool) (hl : listed.setIfInBounds i true = listed') (h : stepOk P n ops i t listed = true) (hr : planOk P n ops r listed' = true) : planOk P n ops ((i, t) :: r) listed = true := by
  subst hl
  show (stepOk P n ops i t listed && planOk P n ops r (listed.setIfInBounds i true)) = true
  rw [h, hr]; rfl
theorem sxh_append (P : Program) (S : World → Prop) (ops : Array Oper) (K : Sl → World → Prop) : ∀ (l r : List (Nat × Bool)), sxh P S ops K (l ++ r) = sxh P S ops (sxh P S ops K r) l
  | [], r => by funext ρ w; rfl
  | (i, t) :: l, r => by
    funext ρ w
    show sxh P S ops K ((i, t) :: (l ++ r)) ρ w = _
    unfold sxh
    rw [sxh_append P S ops K l r]
end Go.X
set_option linter.unusedVariables false
set_option maxRecDepth 100000
namespace Go.Proofs.Ytmnkedgmpbcicaa.XG
open Go Go.X
noncomputable def dispatcherlaw14_PostedPlays_b : Code := (Try.f9.body).getD .skip
noncomputable def dispatcherlaw14_PostedPlays_L0 : Code := cAt [1, 1, 1, 1, 0, 1, 0, 0] dispatcherlaw14_PostedPlays_b
noncomputable def dispatcherlaw14_PostedPlays_R1 : Code := cAt [1, 1, 1, 1, 1] dispatcherlaw14_PostedPlays_b
noncomputable def dispatcherlaw14_PostedPlays_R2 : Code := cAt [1, 1, 1, 1, 0, 1, 0, 0, 1, 0, 0, 1, 1, 0] dispatcherlaw14_PostedPlays_b
noncomputable def dispatcherlaw14_PostedPlays_R3 : Code := cAt [1, 1, 1, 1, 0, 1, 0, 0, 1, 0, 0, 1, 1, 1] dispatcherlaw14_PostedPlays_b
noncomputable def dispatcherlaw14_PostedPlays_R4 : Code := cAt [1, 1, 1, 1, 0, 1, 0, 0, 1, 1] dispatcherlaw14_PostedPlays_b
noncomputable def dispatcherlaw14_PostedPlays_R5 : Code := cAt [1, 1, 1, 1, 0, 1, 0, 0, 1, 0, 0, 1, 1, 1, 0] dispatcherlaw14_PostedPlays_b
noncomputable def dispatcherlaw14_PostedPlays_R6 : Code := cAt [1, 1, 1, 1, 0, 1, 0, 0, 1, 0, 0, 1, 1, 1, 1] dispatcherlaw14_PostedPlays_b
noncomputable def dispatcherlaw14_PostedPlays_R7 : Code := cAt [1, 1, 1, 1, 0, 1, 0, 0, 1, 0, 0, 1, 1, 1, 1, 0] dispatcherlaw14_PostedPlays_b
noncomputable def dispatcherlaw14_PostedPlays_R8 : Code := cAt [1, 1, 1, 1, 0, 1, 0, 0, 1, 0, 0, 1, 1, 1, 1, 1] dispatcherlaw14_PostedPlays_b
noncomputable def dispatcherlaw14_PostedPlays_L0_F (z : At) (K : Exit → Sl → World → Prop) (ρ : Sl) (w : World) : Prop :=
  IK Try.prog .len #[22] 3 [false] [(ρ 0)] w fun x27 w => BK Try.prog .lss 3 (.tmp 25) (.tmp 27) (ρ 4) x27 w fun x28 w => CondK x28 (VK Try.prog (Instr.indexAt 22 (ρ 0) (ρ 4)) w fun x33 w => VK Try.prog (Instr.fieldAt 48 x33 2) w fun x34 w => VK Try.prog (Instr.loadAt 24 x34) w fun x35 w => VK Try.prog (Instr.alloc 24 true (.tuple #[])) w fun x5 w => UK Try.prog (Instr.storeAt 24 x5 x35) w fun _ w => VK Try.prog (Instr.indexAt 22 (ρ 0) (ρ 4)) w fun x39 w => VK Try.prog (Instr.loadAt 48 x39) w fun x40 w => CK Try.prog (Value.func (Fn.func 30) #[] #[]) [(ρ 3), x40] w fun x41 w => VK Try.prog (Op.unary UnOp.not x41) w fun x42 w => CondK x42 (K .ret (up (up (up (up (up (up (up (up (up (up (up (up (up (up (up (up (up (up ρ 25 (ρ 4)) 26 (ρ 0)) 27 x27) 28 x28) 31 (ρ 0)) 32 (ρ 4)) 33 x33) 34 x34) 35 x35) 5 x5) 36 (ρ 3)) 37 (ρ 0)) 38 (ρ 4)) 39 x39) 40 x40) 41 x41) 42 x42) 2 (Value.bool false)) w) (W z Try.prog 124 dispatcherlaw14_PostedPlays_R2 (seqK (sx z Try.prog 124 dispatcherlaw14_PostedPlays_R3 (blkK 1 (seqK (sx z Try.prog 124 dispatcherlaw14_PostedPlays_R4 K) K))) (blkK 1 (seqK (sx z Try.prog 124 dispatcherlaw14_PostedPlays_R4 K) K))) (up (up (up (up (up (up (up (up (up (up (up (up (up (up (up (up (up ρ 25 (ρ 4)) 26 (ρ 0)) 27 x27) 28 x28) 31 (ρ 0)) 32 (ρ 4)) 33 x33) 34 x34) 35 x35) 5 x5) 36 (ρ 3)) 37 (ρ 0)) 38 (ρ 4)) 39 x39) 40 x40) 41 x41) 42 x42) w)) (K (.exit 0) (up (up (up (up ρ 25 (ρ 4)) 26 (ρ 0)) 27 x27) 28 x28) w)
theorem dispatcherlaw14_PostedPlays_L0_eq (z : At) (K : Exit → Sl → World → Prop) (ρ : Sl) (w : World) : sx z Try.prog 124 dispatcherlaw14_PostedPlays_L0 K ρ w = dispatcherlaw14_PostedPlays_L0_F z K ρ w := by kernel_rfl
theorem dispatcherlaw14_PostedPlays_L0_ok : dstOk 124 dispatcherlaw14_PostedPlays_L0 = true := by kernel_rfl
noncomputable def dispatcherlaw14_PostedPlays_R1_F (z : At) (K : Exit → Sl → World → Prop) (ρ : Sl) (w : World) : Prop :=
  K .ret (up ρ 2 (Value.bool true)) w
theorem dispatcherlaw14_PostedPlays_R1_eq (z : At) (K : Exit → Sl → World → Prop) (ρ : Sl) (w : World) : sx z Try.prog 124 dispatcherlaw14_PostedPlays_R1 K ρ w = dispatcherlaw14_PostedPlays_R1_F z K ρ w := by kernel_rfl
noncomputable def dispatcherlaw14_PostedPlays_R2_ops : Array Oper := opsOf dispatcherlaw14_PostedPlays_R2
def dispatcherlaw14_PostedPlays_R2_H (S : World → Prop) (K : Exit → Sl → World → Prop) (ρ : Sl) (w : World) : Prop :=
  HK Try.prog S (nilCk (ρ 3)) fun x45 => HK Try.prog S (do pure (Next.value (← Instr.fieldAt 69 x45 1))) fun x46 => HK Try.prog S (do pure (Next.value (← Instr.loadAt 28 x46))) fun x47 => HK Try.prog S (do pure (Next.value (← Instr.fieldAt 24 (ρ 5) 1))) fun x48 => HK Try.prog S (do pure (Next.value (← Instr.loadAt 3 x48))) fun x49 => HK Try.prog S (do pure (Next.value (← Instr.fieldAt 24 (ρ 5) 2))) fun x50 => HK Try.prog S (do pure (Next.value (← Instr.loadAt 3 x50))) fun x51 => (CK Try.prog (Value.func (Fn.func 21) #[] #[]) [x47, x49, x51] w fun x52 w => S w ∧ (HK Try.prog S (do pure (Next.value (← Instr.extract x52 0))) fun x53 => HK Try.prog S (do pure (Next.value (← Instr.extract x52 1))) fun x54 => VK Try.prog (Instr.alloc 24 true (.tuple #[])) w fun x6 w => S w ∧ (UK Try.prog (Instr.storeAt 24 x6 x53) w fun _ w => S w ∧ (K Exit.normal (up (up (up (up (up (up (up (up (up (up (up (up (up (up ρ 44 (ρ 3)) 45 x45) 46 x46) 47 x47) 48 x48) 49 x49) 50 x50) 51 x51) 52 x52) 43 x52) 53 x53) 54 x54) 6 x6) 7 x54) w)))) ∧ (VK Try.prog (Instr.alloc 24 true (.tuple #[])) w fun x6_1 w => S w ∧ (CK Try.prog (Value.func (Fn.func 21) #[] #[]) [x47, x49, x51] w fun x52_1 w => S w ∧ (HK Try.prog S (do pure (Next.value (← Instr.extract x52_1 0))) fun x53_1 => HK Try.prog S (do pure (Next.value (← Instr.extract x52_1 1))) fun x54_1 => UK Try.prog (Instr.storeAt 24 x6_1 x53_1) w fun _ w => S w ∧ (K Exit.normal (up (up (up (up (up (up (up (up (up (up (up (up (up (up ρ 44 (ρ 3)) 45 x45) 46 x46) 47 x47) 48 x48) 49 x49) 50 x50) 51 x51) 6 x6_1) 52 x52_1) 43 x52_1) 53 x53_1) 54 x54_1) 7 x54_1) w))))
theorem dispatcherlaw14_PostedPlays_R2_held {D : List Deferred} (S : World → Prop) {K : Exit → Sl → World → Prop} {ρ : Sl} {w : World} (hS : S { w with drawn := w.drawn + 1 }) (h : dispatcherlaw14_PostedPlays_R2_H S K ρ { w with drawn := w.drawn + 1 }) : W ⟨none, D⟩ Try.prog 124 dispatcherlaw14_PostedPlays_R2 K ρ w := by
  have e : dispatcherlaw14_PostedPlays_R2 = .region (idOf dispatcherlaw14_PostedPlays_R2) dispatcherlaw14_PostedPlays_R2_ops true := by kernel_rfl
  have q : sxd Try.prog S dispatcherlaw14_PostedPlays_R2_ops (K .normal) (Pd.take 0 (Pd.take 1 (Pd.take 2 (Pd.take 3 (Pd.take 4 (Pd.take 5 (Pd.take 6 (Pd.take 7 (Pd.two false false 8 12 (Pd.take 9 (Pd.take 10 (Pd.take 11 (Pd.only false 12 (Pd.only false 13 (Pd.take 14 Pd.done)))))) (Pd.only false 8 (Pd.take 9 (Pd.take 10 (Pd.take 11 (Pd.only false 13 (Pd.take 14 Pd.done))))))))))))))) ρ { w with drawn := w.drawn + 1 } = dispatcherlaw14_PostedPlays_R2_H S K ρ { w with drawn := w.drawn + 1 } := by kernel_rfl
  rw [e]
  exact W_pland S (Pd.take 0 (Pd.take 1 (Pd.take 2 (Pd.take 3 (Pd.take 4 (Pd.take 5 (Pd.take 6 (Pd.take 7 (Pd.two false false 8 12 (Pd.take 9 (Pd.take 10 (Pd.take 11 (Pd.only false 12 (Pd.only false 13 (Pd.take 14 Pd.done)))))) (Pd.only false 8 (Pd.take 9 (Pd.take 10 (Pd.take 11 (Pd.only false 13 (Pd.take 14 Pd.done))))))))))))))) (by kernel_rfl) (by kernel_rfl) (by kernel_rfl) (by kernel_rfl) hS (Eq.mpr q h)
noncomputable def dispatcherlaw14_PostedPlays_R3_F (z : At) (K : Exit → Sl → World → Prop) (ρ : Sl) (w : World) : Prop :=
  W z Try.prog 124 dispatcherlaw14_PostedPlays_R5 (seqK (sx z Try.prog 124 dispatcherlaw14_PostedPlays_R6 K) K) ρ w
theorem dispatcherlaw14_PostedPlays_R3_eq (z : At) (K : Exit → Sl → World → Prop) (ρ : Sl) (w : World) : sx z Try.prog 124 dispatcherlaw14_PostedPlays_R3 K ρ w = dispatcherlaw14_PostedPlays_R3_F z K ρ w := by kernel_rfl
noncomputable def dispatcherlaw14_PostedPlays_R4_F (z : At) (K : Exit → Sl → World → Prop) (ρ : Sl) (w : World) : Prop :=
  BK Try.prog .add 3 (.tmp 29) (.const (Value.int .i64 1)) (ρ 4) (Value.int .i64 1) w fun x30 w => K .normal (up (up (up ρ 29 (ρ 4)) 30 x30) 4 x30) w
theorem dispatcherlaw14_PostedPlays_R4_eq (z : At) (K : Exit → Sl → World → Prop) (ρ : Sl) (w : World) : sx z Try.prog 124 dispatcherlaw14_PostedPlays_R4 K ρ w = dispatcherlaw14_PostedPlays_R4_F z K ρ w := by kernel_rfl
noncomputable def dispatcherlaw14_PostedPlays_R5_ops : Array Oper := opsOf dispatcherlaw14_PostedPlays_R5
def dispatcherlaw14_PostedPlays_R5_H (S : World → Prop) (K : Exit → Sl → World → Prop) (ρ : Sl) (w : World) : Prop :=
  HK Try.prog S (nilCk (ρ 3)) fun x57 => HK Try.prog S (do pure (Next.value (← Instr.fieldAt 69 x57 3))) fun x58 => HK Try.prog S (do pure (Next.value (← Instr.loadAt 67 x58))) fun x59 => HK Try.prog S (do pure (Next.value (← Instr.fieldAt 24 (ρ 5) 1))) fun x60 => HK Try.prog S (do pure (Next.value (← Instr.loadAt 3 x60))) fun x61 => HK Try.prog S (do pure (Next.value (← Instr.fieldAt 24 (ρ 5) 2))) fun x62 => HK Try.prog S (do pure (Next.value (← Instr.loadAt 3 x62))) fun x63 => (CK Try.prog (Value.func (Fn.func 33) #[] #[]) [x59, x61, x63] w fun x64 w => S w ∧ (HK Try.prog S (do pure (Next.value (← Instr.extract x64 0))) fun x65 => HK Try.prog S (do pure (Next.value (← Instr.extract x64 1))) fun x66 => VK Try.prog (Instr.alloc 24 true (.tuple #[])) w fun x8 w => S w ∧ (UK Try.prog (Instr.storeAt 24 x8 x65) w fun _ w => S w ∧ (K Exit.normal (up (up (up (up (up (up (up (up (up (up (up (up (up (up ρ 56 (ρ 3)) 57 x57) 58 x58) 59 x59) 60 x60) 61 x61) 62 x62) 63 x63) 64 x64) 55 x64) 65 x65) 66 x66) 8 x8) 9 x66) w)))) ∧ (VK Try.prog (Instr.alloc 24 true (.tuple #[])) w fun x8_1 w => S w ∧ (CK Try.prog (Value.func (Fn.func 33) #[] #[]) [x59, x61, x63] w fun x64_1 w => S w ∧ (HK Try.prog S (do pure (Next.value (← Instr.extract x64_1 0))) fun x65_1 => HK Try.prog S (do pure (Next.value (← Instr.extract x64_1 1))) fun x66_1 => UK Try.prog (Instr.storeAt 24 x8_1 x65_1) w fun _ w => S w ∧ (K Exit.normal (up (up (up (up (up (up (up (up (up (up (up (up (up (up ρ 56 (ρ 3)) 57 x57) 58 x58) 59 x59) 60 x60) 61 x61) 62 x62) 63 x63) 8 x8_1) 64 x64_1) 55 x64_1) 65 x65_1) 66 x66_1) 9 x66_1) w))))
theorem dispatcherlaw14_PostedPlays_R5_held {D : List Deferred} (S : World → Prop) {K : Exit → Sl → World → Prop} {ρ : Sl} {w : World} (hS : S { w with drawn := w.drawn + 1 }) (h : dispatcherlaw14_PostedPlays_R5_H S K ρ { w with drawn := w.drawn + 1 }) : W ⟨none, D⟩ Try.prog 124 dispatcherlaw14_PostedPlays_R5 K ρ w := by
  have e : dispatcherlaw14_PostedPlays_R5 = .region (idOf dispatcherlaw14_PostedPlays_R5) dispatcherlaw14_PostedPlays_R5_ops true := by kernel_rfl
  have q : sxd Try.prog S dispatcherlaw14_PostedPlays_R5_ops (K .normal) (Pd.take 0 (Pd.take 1 (Pd.take 2 (Pd.take 3 (Pd.take 4 (Pd.take 5 (Pd.take 6 (Pd.take 7 (Pd.two false false 8 12 (Pd.take 9 (Pd.take 10 (Pd.take 11 (Pd.only false 12 (Pd.only false 13 (Pd.take 14 Pd.done)))))) (Pd.only false 8 (Pd.take 9 (Pd.take 10 (Pd.take 11 (Pd.only false 13 (Pd.take 14 Pd.done))))))))))))))) ρ { w with drawn := w.drawn + 1 } = dispatcherlaw14_PostedPlays_R5_H S K ρ { w with drawn := w.drawn + 1 } := by kernel_rfl
  rw [e]
  exact W_pland S (Pd.take 0 (Pd.take 1 (Pd.take 2 (Pd.take 3 (Pd.take 4 (Pd.take 5 (Pd.take 6 (Pd.take 7 (Pd.two false false 8 12 (Pd.take 9 (Pd.take 10 (Pd.take 11 (Pd.only false 12 (Pd.only false 13 (Pd.take 14 Pd.done)))))) (Pd.only false 8 (Pd.take 9 (Pd.take 10 (Pd.take 11 (Pd.only false 13 (Pd.take 14 Pd.done))))))))))))))) (by kernel_rfl) (by kernel_rfl) (by kernel_rfl) (by kernel_rfl) hS (Eq.mpr q h)
noncomputable def dispatcherlaw14_PostedPlays_R6_F (z : At) (K : Exit → Sl → World → Prop) (ρ : Sl) (w : World) : Prop :=
  W z Try.prog 124 dispatcherlaw14_PostedPlays_R7 (seqK (sx z Try.prog 124 dispatcherlaw14_PostedPlays_R8 K) K) ρ w
theorem dispatcherlaw14_PostedPlays_R6_eq (z : At) (K : Exit → Sl → World → Prop) (ρ : Sl) (w : World) : sx z Try.prog 124 dispatcherlaw14_PostedPlays_R6 K ρ w = dispatcherlaw14_PostedPlays_R6_F z K ρ w := by kernel_rfl
noncomputable def dispatcherlaw14_PostedPlays_R7_ops : Array Oper := opsOf dispatcherlaw14_PostedPlays_R7
noncomputable def dispatcherlaw14_PostedPlays_R8_F (z : At) (K : Exit → Sl → World → Prop) (ρ : Sl) (w : World) : Prop :=
  CondK (ρ 123) (K .ret (up ρ 2 (Value.bool false)) w) (K .normal ρ w)
theorem dispatcherlaw14_PostedPlays_R8_eq (z : At) (K : Exit → Sl → World → Prop) (ρ : Sl) (w : World) : sx z Try.prog 124 dispatcherlaw14_PostedPlays_R8 K ρ w = dispatcherlaw14_PostedPlays_R8_F z K ρ w := by kernel_rfl
noncomputable def dispatcherlaw14_PostedPlays_F (a0 : Value) (w : World) (R : Value → World → Prop) : Prop :=
  CK Try.prog (Value.func (Fn.func 11) #[] #[]) [a0] w fun x11 w => CondK x11 (R (Value.bool true) w) (CK Try.prog (Value.func (Fn.func 29) #[] #[]) [] w fun x12 w => NK Try.prog x12 w fun x14 w => VK Try.prog (Instr.fieldAt 69 x14 0) w fun x15 w => VK Try.prog (Instr.loadAt 27 x15) w fun x16 w => BK Try.prog .eql 27 (.tmp 16) (.const (Value.pointer none)) x16 (Value.pointer none) w fun x17 w => MG Try.prog x17 false x12 w fun x19 w => NG Try.prog x17 false x19 w fun x20 w => VG Try.prog x17 false (Instr.fieldAt 69 x20 1) w fun x21 w => VG Try.prog x17 false (Instr.loadAt 28 x21) w fun x22 w => BG Try.prog x17 false .eql 28 (.tmp 22) (.const (Value.pointer none)) x22 (Value.pointer none) w fun x23 w => PK Try.prog x17 (Value.bool true) x23 w fun x24 w => CondK x24 (R (Value.bool false) w) (W fn_ Try.prog 124 (Code.loop dispatcherlaw14_PostedPlays_L0) (blkK 0 (seqK (sx fn_ Try.prog 124 dispatcherlaw14_PostedPlays_R1 (retK Try.prog [ResultVar.tmp 2] R)) (retK Try.prog [ResultVar.tmp 2] R))) (up (up (up (up (up (up (up (up (up (up (up (up (up (up (up (up (up (up (rho0 [a0]) 2 (Value.bool false)) 10 a0) 11 x11) 12 x12) 3 x12) 13 x12) 14 x14) 15 x15) 16 x16) 17 x17) 18 x17) 19 x19) 20 x20) 21 x21) 22 x22) 23 x23) 24 x24) 4 (Value.int .i64 0)) w))
theorem dispatcherlaw14_PostedPlays_eq (a0 : Value) (w : World) (R : Value → World → Prop) : sx fn_ Try.prog 124 dispatcherlaw14_PostedPlays_b (retK Try.prog Try.f9.results.toList R) (rho0 [a0]) w = dispatcherlaw14_PostedPlays_F a0 w R := by kernel_rfl
theorem dispatcherlaw14_PostedPlays_calls {a0 : Value} {w : World} {R : Value → World → Prop} (h : dispatcherlaw14_PostedPlays_F a0 w R) : Calls Try.prog 9 #[a0] w fun e w' => ∃ v, e = .returned v ∧ R v w' :=
  Go.X.calls_of_sx (n := 124) (c := dispatcherlaw14_PostedPlays_b) Try.func9 (by kernel_rfl) (by kernel_rfl) (Nat.le_of_ble_eq_true rfl) (by kernel_rfl) (Eq.mpr (dispatcherlaw14_PostedPlays_eq a0 w R) h)
noncomputable def dispatcherlaw14_Great_b : Code := (Try.f11.body).getD .skip
noncomputable def dispatcherlaw14_Great_L0 : Code := cAt [1, 1, 0, 1, 0, 0] dispatcherlaw14_Great_b
noncomputable def dispatcherlaw14_Great_R1 : Code := cAt [1, 1, 1] dispatcherlaw14_Great_b
noncomputable def dispatcherlaw14_Great_L0_F (z : At) (K : Exit → Sl → World → Prop) (ρ : Sl) (w : World) : Prop :=
  IK Try.prog .len #[22] 3 [false] [(ρ 0)] w fun x9 w => BK Try.prog .lss 3 (.tmp 7) (.tmp 9) (ρ 3) x9 w fun x10 w => CondK x10 (VK Try.prog (Instr.indexAt 22 (ρ 0) (ρ 3)) w fun x15 w => VK Try.prog (Instr.fieldAt 48 x15 1) w fun x16 w => VK Try.prog (Instr.fieldAt 39 x16 0) w fun x17 w => VK Try.prog (Instr.loadAt 9 x17) w fun x18 w => IK Try.prog .len #[9] 3 [false] [x18] w fun x19 w => BK Try.prog .gtr 3 (.tmp 19) (.const (Value.int .i64 100)) x19 (Value.int .i64 100) w fun x20 w => MG Try.prog x20 false (ρ 0) w fun x22 w => MG Try.prog x20 false (ρ 3) w fun x23 w => VG Try.prog x20 false (Instr.indexAt 22 x22 x23) w fun x24 w => VG Try.prog x20 false (Instr.fieldAt 48 x24 2) w fun x25 w => VG Try.prog x20 false (Instr.fieldAt 24 x25 0) w fun x26 w => VG Try.prog x20 false (Instr.loadAt 9 x26) w fun x27 w => IG Try.prog x20 false .len #[9] 3 [false] [x27] w fun x28 w => BG Try.prog x20 false .gtr 3 (.tmp 28) (.const (Value.int .i64 100)) x28 (Value.int .i64 100) w fun x29 w => PK Try.prog x20 (Value.bool true) x29 w fun x30 w => CondK x30 (K .ret (up (up (up (up (up (up (up (up (up (up (up (up (up (up (up (up (up (up (up (up (up (up (up ρ 7 (ρ 3)) 8 (ρ 0)) 9 x9) 10 x10) 13 (ρ 0)) 14 (ρ 3)) 15 x15) 16 x16) 17 x17) 18 x18) 19 x19) 20 x20) 21 x20) 22 x22) 23 x23) 24 x24) 25 x25) 26 x26) 27 x27) 28 x28) 29 x29) 30 x30) 2 (Value.bool true)) w) (BK Try.prog .add 3 (.tmp 11) (.const (Value.int .i64 1)) (ρ 3) (Value.int .i64 1) w fun x12 w => K .normal (up (up (up (up (up (up (up (up (up (up (up (up (up (up (up (up (up (up (up (up (up (up (up (up (up ρ 7 (ρ 3)) 8 (ρ 0)) 9 x9) 10 x10) 13 (ρ 0)) 14 (ρ 3)) 15 x15) 16 x16) 17 x17) 18 x18) 19 x19) 20 x20) 21 x20) 22 x22) 23 x23) 24 x24) 25 x25) 26 x26) 27 x27) 28 x28) 29 x29) 30 x30) 11 (ρ 3)) 12 x12) 3 x12) w)) (K (.exit 0) (up (up (up (up ρ 7 (ρ 3)) 8 (ρ 0)) 9 x9) 10 x10) w)
theorem dispatcherlaw14_Great_L0_eq (z : At) (K : Exit → Sl → World → Prop) (ρ : Sl) (w : World) : sx z Try.prog 31 dispatcherlaw14_Great_L0 K ρ w = dispatcherlaw14_Great_L0_F z K ρ w := by kernel_rfl
theorem dispatcherlaw14_Great_L0_ok : dstOk 31 dispatcherlaw14_Great_L0 = true := by kernel_rfl
noncomputable def dispatcherlaw14_Great_R1_F (z : At) (K : Exit → Sl → World → Prop) (ρ : Sl) (w : World) : Prop :=
  K .ret (up ρ 2 (Value.bool false)) w
theorem dispatcherlaw14_Great_R1_eq (z : At) (K : Exit → Sl → World → Prop) (ρ : Sl) (w : World) : sx z Try.prog 31 dispatcherlaw14_Great_R1 K ρ w = dispatcherlaw14_Great_R1_F z K ρ w := by kernel_rfl
noncomputable def dispatcherlaw14_Great_F (a0 : Value) (w : World) (R : Value → World → Prop) : Prop :=
  IK Try.prog .len #[22] 3 [false] [a0] w fun x5 w => BK Try.prog .gtr 3 (.tmp 5) (.const (Value.int .i64 120)) x5 (Value.int .i64 120) w fun x6 w => CondK x6 (R (Value.bool true) w) (W fn_ Try.prog 31 (Code.loop dispatcherlaw14_Great_L0) (blkK 0 (seqK (sx fn_ Try.prog 31 dispatcherlaw14_Great_R1 (retK Try.prog [ResultVar.tmp 2] R)) (retK Try.prog [ResultVar.tmp 2] R))) (up (up (up (up (up (rho0 [a0]) 2 (Value.bool false)) 4 a0) 5 x5) 6 x6) 3 (Value.int .i64 0)) w)
theorem dispatcherlaw14_Great_eq (a0 : Value) (w : World) (R : Value → World → Prop) : sx fn_ Try.prog 31 dispatcherlaw14_Great_b (retK Try.prog Try.f11.results.toList R) (rho0 [a0]) w = dispatcherlaw14_Great_F a0 w R := by kernel_rfl
theorem dispatcherlaw14_Great_calls {a0 : Value} {w : World} {R : Value → World → Prop} (h : dispatcherlaw14_Great_F a0 w R) : Calls Try.prog 11 #[a0] w fun e w' => ∃ v, e = .returned v ∧ R v w' :=
  Go.X.calls_of_sx (n := 31) (c := dispatcherlaw14_Great_b) Try.func11 (by kernel_rfl) (by kernel_rfl) (Nat.le_of_ble_eq_true rfl) (by kernel_rfl) (Eq.mpr (dispatcherlaw14_Great_eq a0 w R) h)
noncomputable def posted_Posted_Post_b : Code := (Try.f14.body).getD .skip
noncomputable def posted_Posted_Post_R0 : Code := cAt [1, 1, 1, 0, 0] posted_Posted_Post_b
noncomputable def posted_Posted_Post_R1 : Code := cAt [1, 1, 1, 0, 1] posted_Posted_Post_b
noncomputable def posted_Posted_Post_R2 : Code := cAt [1, 1, 1, 1] posted_Posted_Post_b
noncomputable def posted_Posted_Post_R3 : Code := cAt [1, 1, 1, 1, 1, 0] posted_Posted_Post_b
noncomputable def posted_Posted_Post_R4 : Code := cAt [1, 1, 1, 1, 1, 1] posted_Posted_Post_b
noncomputable def posted_Posted_Post_R0_ops : Array Oper := opsOf posted_Posted_Post_R0
def posted_Posted_Post_R0_Q (C : World → Prop) (K : Exit → Sl → World → Prop) (ρ : Sl) : Prop :=
  QK Try.prog C (do pure (Next.value (← Instr.fieldAt 24 (ρ 3) 1))) fun x19 => QK Try.prog C (do pure (Next.value (← Instr.loadAt 3 x19))) fun x20 => QK Try.prog C (do let d ← Deferred.ofValue (Value.func (Fn.func 41) #[] #[]) [x20, (Value.int IntKind.i64 0), (Value.int IntKind.i64 63)].toArray; invoke d.target d.args) fun x21 => QK Try.prog C (do pure (Next.value (← Op.unary UnOp.not x21))) fun x22 => QG Try.prog C x22 false  (do pure (Next.value (← Instr.fieldAt 24 (ρ 3) 3))) fun x24 => QG Try.prog C x22 false  (do pure (Next.value (← Instr.loadAt 3 x24))) fun x25 => QG Try.prog C x22 false  (do let d ← Deferred.ofValue (Value.func (Fn.func 41) #[] #[]) [x25, (Value.int IntKind.i64 (-1)), (Value.int IntKind.i64 63)].toArray; invoke d.target d.args) fun x26 => QG Try.prog C x22 false  (do pure (Next.value (← Op.unary UnOp.not x26))) fun x27 => QK Try.prog C (do pure (Next.value (if ← asBool x22 then (Value.bool true) else x27))) fun x28 => QG Try.prog C x28 false  (do pure (Next.value (← Instr.fieldAt 24 (ρ 3) 4))) fun x30 => QG Try.prog C x28 false  (do pure (Next.value (← Instr.loadAt 3 x30))) fun x31 => QG Try.prog C x28 false  (do let d ← Deferred.ofValue (Value.func (Fn.func 41) #[] #[]) [x31, (Value.int IntKind.i64 (-1)), (Value.int IntKind.i64 32767)].toArray; invoke d.target d.args) fun x32 => QG Try.prog C x28 false  (do pure (Next.value (← Op.unary UnOp.not x32))) fun x33 => QK Try.prog C (do pure (Next.value (if ← asBool x28 then (Value.bool true) else x33))) fun x34 => QG Try.prog C x34 false  (do pure (Next.value (← Instr.fieldAt 24 (ρ 3) 5))) fun x36 => QG Try.prog C x34 false  (do pure (Next.value (← Instr.loadAt 3 x36))) fun x37 => QG Try.prog C x34 false  (do pure (Next.value (← (do eqGuard BinOp.lss 3 (Operand.tmp 37) (Operand.const (Value.int IntKind.i64 (-1))) x37 (Value.int IntKind.i64 (-1)); binOp BinOp.lss 3 x37 (Value.int IntKind.i64 (-1)))))) fun x38 => QK Try.prog C (do pure (Next.value (if ← asBool x34 then (Value.bool true) else x38))) fun x39 => QG Try.prog C x39 false  (do pure (Next.value (← Instr.fieldAt 24 (ρ 3) 2))) fun x41 => QG Try.prog C x39 false  (do pure (Next.value (← Instr.loadAt 3 x41))) fun x42 => QG Try.prog C x39 false  (do pure (Next.value (← (do eqGuard BinOp.lss 3 (Operand.tmp 42) (Operand.const (Value.int IntKind.i64 0)) x42 (Value.int IntKind.i64 0); binOp BinOp.lss 3 x42 (Value.int IntKind.i64 0))))) fun x43 => QK Try.prog C (do pure (Next.value (if ← asBool x39 then (Value.bool true) else x43))) fun x44 => QG Try.prog C x44 false  (pure (Next.value (ρ 5))) fun x46 => QG Try.prog C x44 false  (builtin Builtin.len #[41] 3 [false].toArray [x46].toArray) fun x47 => QG Try.prog C x44 false  (do pure (Next.value (← (do eqGuard BinOp.gtr 3 (Operand.tmp 47) (Operand.const (Value.int IntKind.i64 0)) x47 (Value.int IntKind.i64 0); binOp BinOp.gtr 3 x47 (Value.int IntKind.i64 0))))) fun x48 => QG Try.prog C x44 false  (pure (Next.value x48)) fun x49 => QG Try.prog C x49 true  (do pure (Next.value (← Instr.fieldAt 24 (ρ 3) 2))) fun x50 => QG Try.prog C x49 true  (do pure (Next.value (← Instr.loadAt 3 x50))) fun x51 => QG Try.prog C x49 true  (pure (Next.value (ρ 5))) fun x52 => QG Try.prog C x49 true  (pure (Next.value (ρ 5))) fun x53 => QG Try.prog C x49 true  (builtin Builtin.len #[41] 3 [false].toArray [x53].toArray) fun x54 => QG Try.prog C x49 true  (do pure (Next.value (← (do eqGuard BinOp.sub 3 (Operand.tmp 54) (Operand.const (Value.int IntKind.i64 1)) x54 (Value.int IntKind.i64 1); binOp BinOp.sub 3 x54 (Value.int IntKind.i64 1))))) fun x55 => QG Try.prog C x49 true  (do pure (Next.value (← Instr.indexAt 41 x52 x55))) fun x56 => QG Try.prog C x49 true  (do pure (Next.value (← Instr.fieldAt 24 x56 2))) fun x57 => QG Try.prog C x49 true  (do pure (Next.value (← Instr.loadAt 3 x57))) fun x58 => QG Try.prog C x49 true  (do pure (Next.value (← (do eqGuard BinOp.leq 3 (Operand.tmp 51) (Operand.tmp 58) x51 x58; binOp BinOp.leq 3 x51 x58)))) fun x59 => QG Try.prog C x44 false  (do pure (Next.value (if ← asBool x49 then x59 else (Value.bool false)))) fun x60 => QK Try.prog C (do pure (Next.value (if ← asBool x44 then (Value.bool true) else x60))) fun x61 => ∀ w', C w' → K Exit.normal (up (up (up (up (up (up (up (up (up (up (up (up (up (up (up (up (up (up (up (up (up (up (up (up (up (up (up (up (up (up (up (up (up (up (up (up (up (up (up (up (up (up (up ρ 19 x19) 20 x20) 21 x21) 22 x22) 23 x22) 24 x24) 25 x25) 26 x26) 27 x27) 28 x28) 29 x28) 30 x30) 31 x31) 32 x32) 33 x33) 34 x34) 35 x34) 36 x36) 37 x37) 38 x38) 39 x39) 40 x39) 41 x41) 42 x42) 43 x43) 44 x44) 45 x44) 46 x46) 47 x47) 48 x48) 49 x49) 50 x50) 51 x51) 52 x52) 53 x53) 54 x54) 55 x55) 56 x56) 57 x57) 58 x58) 59 x59) 60 x60) 61 x61) w'
theorem posted_Posted_Post_R0_quiet {D : List Deferred} (C : World → Prop) {K : Exit → Sl → World → Prop} {ρ : Sl} {w : World} (hC : C { w with drawn := w.drawn + 1 }) (h : posted_Posted_Post_R0_Q C K ρ) : W ⟨none, D⟩ Try.prog 75 posted_Posted_Post_R0 K ρ w := by
  have e : posted_Posted_Post_R0 = .region (idOf posted_Posted_Post_R0) posted_Posted_Post_R0_ops true := by kernel_rfl
  have q : sxq Try.prog C posted_Posted_Post_R0_ops (fun ρ' => ∀ w', C w' → K .normal ρ' w') posted_Posted_Post_R0_ops.toList ρ = posted_Posted_Post_R0_Q C K ρ := by kernel_rfl
  rw [e]
  exact W_quiet C (by kernel_rfl) (by kernel_rfl) (by kernel_rfl) hC (Eq.mpr q h)
noncomputable def posted_Posted_Post_R1_F (z : At) (K : Exit → Sl → World → Prop) (ρ : Sl) (w : World) : Prop :=
  CondK (ρ 61) (K .ret (up ρ 4 (Value.int .i64 2)) w) (K .normal ρ w)
theorem posted_Posted_Post_R1_eq (z : At) (K : Exit → Sl → World → Prop) (ρ : Sl) (w : World) : sx z Try.prog 75 posted_Posted_Post_R1 K ρ w = posted_Posted_Post_R1_F z K ρ w := by kernel_rfl
noncomputable def posted_Posted_Post_R2_F (z : At) (K : Exit → Sl → World → Prop) (ρ : Sl) (w : World) : Prop :=
  VK Try.prog (Instr.fieldAt 24 (ρ 3) 6) w fun x62 w => UK Try.prog (Instr.storeAt 4 x62 (Value.bool false)) w fun _ w => VK Try.prog (Instr.fieldAt 24 (ρ 3) 7) w fun x63 w => UK Try.prog (Instr.storeAt 3 x63 (Value.int .i64 0)) w fun _ w => VK Try.prog (Instr.fieldAt 24 (ρ 3) 8) w fun x64 w => UK Try.prog (Instr.storeAt 3 x64 (Value.int .i64 0)) w fun _ w => W z Try.prog 75 posted_Posted_Post_R3 (seqK (sx z Try.prog 75 posted_Posted_Post_R4 K) K) (up (up (up ρ 62 x62) 63 x63) 64 x64) w
theorem posted_Posted_Post_R2_eq (z : At) (K : Exit → Sl → World → Prop) (ρ : Sl) (w : World) : sx z Try.prog 75 posted_Posted_Post_R2 K ρ w = posted_Posted_Post_R2_F z K ρ w := by kernel_rfl
noncomputable def posted_Posted_Post_R3_ops : Array Oper := opsOf posted_Posted_Post_R3
def posted_Posted_Post_R3_H (S : World → Prop) (K : Exit → Sl → World → Prop) (ρ : Sl) (w : World) : Prop :=
  HK Try.prog S (do pure (Next.value (← Instr.fieldAt 24 (ρ 3) 1))) fun x66 => HK Try.prog S (do pure (Next.value (← Instr.loadAt 3 x66))) fun x67 => HK Try.prog S (do pure (Next.value (← Instr.loadAt 24 (ρ 3)))) fun x69 => HK Try.prog S (nilCk (ρ 0)) fun x72 => HK Try.prog S (do pure (Next.value (← Instr.fieldAt 61 x72 1))) fun x73 => VK Try.prog (Instr.buildSlice 41 1 [(0, x69)].toArray) w fun x70 w => S w ∧ (IK Try.prog Builtin.append #[41, 41] 41 [false, false] [(ρ 5), x70] w fun x71 w => S w ∧ (HK Try.prog S (do pure (Next.value (← Instr.indexAt 59 x73 x67))) fun x74 => UK Try.prog (Instr.storeAt 41 x74 x71) w fun _ w => S w ∧ (K Exit.normal (up (up (up (up (up (up (up (up (up (up ρ 65 (ρ 0)) 66 x66) 67 x67) 68 (ρ 5)) 69 x69) 72 x72) 73 x73) 70 x70) 71 x71) 74 x74) w)))
theorem posted_Posted_Post_R3_held {D : List Deferred} (S : World → Prop) {K : Exit → Sl → World → Prop} {ρ : Sl} {w : World} (hS : S { w with drawn := w.drawn + 1 }) (h : posted_Posted_Post_R3_H S K ρ { w with drawn := w.drawn + 1 }) : W ⟨none, D⟩ Try.prog 75 posted_Posted_Post_R3 K ρ w := by
  have e : posted_Posted_Post_R3 = .region (idOf posted_Posted_Post_R3) posted_Posted_Post_R3_ops true := by kernel_rfl
  have q : sxh Try.prog S posted_Posted_Post_R3_ops (K .normal) [(0, true), (1, true), (2, true), (3, true), (4, true), (7, true), (8, true), (5, false), (6, false), (9, true), (10, false)] ρ { w with drawn := w.drawn + 1 } = posted_Posted_Post_R3_H S K ρ { w with drawn := w.drawn + 1 } := by kernel_rfl
  rw [e]
  exact W_held S [(0, true), (1, true), (2, true), (3, true), (4, true), (7, true), (8, true), (5, false), (6, false), (9, true), (10, false)] (by kernel_rfl) (by kernel_rfl) (by kernel_rfl) (by kernel_rfl) hS (Eq.mpr q h)
noncomputable def posted_Posted_Post_R4_F (z : At) (K : Exit → Sl → World → Prop) (ρ : Sl) (w : World) : Prop :=
  K .ret (up ρ 4 (Value.int .i64 0)) w
theorem posted_Posted_Post_R4_eq (z : At) (K : Exit → Sl → World → Prop) (ρ : Sl) (w : World) : sx z Try.prog 75 posted_Posted_Post_R4 K ρ w = posted_Posted_Post_R4_F z K ρ w := by kernel_rfl
noncomputable def posted_Posted_Post_F (a0 a1 : Value) (w : World) (R : Value → World → Prop) : Prop :=
  VK Try.prog (Instr.box 24 a1) w fun x3 w => BK Try.prog .eql 28 (.tmp 6) (.const (Value.pointer none)) a0 (Value.pointer none) w fun x7 w => MG Try.prog x7 false a0 w fun x9 w => NG Try.prog x7 false x9 w fun x10 w => VG Try.prog x7 false (Instr.fieldAt 61 x10 0) w fun x11 w => VG Try.prog x7 false (Instr.loadAt 4 x11) w fun x12 w => VG Try.prog x7 false (Op.unary UnOp.not x12) w fun x13 w => PK Try.prog x7 (Value.bool true) x13 w fun x14 w => CondK x14 (R (Value.int .i64 1) w) (VK Try.prog (Instr.fieldAt 24 x3 1) w fun x16 w => VK Try.prog (Instr.loadAt 3 x16) w fun x17 w => CK Try.prog (Value.func (Fn.func 40) #[] #[]) [a0, x17] w fun x18 w => W fn_ Try.prog 75 posted_Posted_Post_R0 (seqK (sx fn_ Try.prog 75 posted_Posted_Post_R1 (seqK (sx fn_ Try.prog 75 posted_Posted_Post_R2 (retK Try.prog [ResultVar.tmp 4] R)) (retK Try.prog [ResultVar.tmp 4] R))) (seqK (sx fn_ Try.prog 75 posted_Posted_Post_R2 (retK Try.prog [ResultVar.tmp 4] R)) (retK Try.prog [ResultVar.tmp 4] R))) (up (up (up (up (up (up (up (up (up (up (up (up (up (up (up (up (rho0 [a0, a1]) 3 x3) 4 (Value.int .i64 0)) 6 a0) 7 x7) 8 x7) 9 x9) 10 x10) 11 x11) 12 x12) 13 x13) 14 x14) 15 a0) 16 x16) 17 x17) 18 x18) 5 x18) w)
theorem posted_Posted_Post_eq (a0 a1 : Value) (w : World) (R : Value → World → Prop) : sx fn_ Try.prog 75 posted_Posted_Post_b (retK Try.prog Try.f14.results.toList R) (rho0 [a0, a1]) w = posted_Posted_Post_F a0 a1 w R := by kernel_rfl
theorem posted_Posted_Post_calls {a0 a1 : Value} {w : World} {R : Value → World → Prop} (h : posted_Posted_Post_F a0 a1 w R) : Calls Try.prog 14 #[a0, a1] w fun e w' => ∃ v, e = .returned v ∧ R v w' :=
  Go.X.calls_of_sx (n := 75) (c := posted_Posted_Post_b) Try.func14 (by kernel_rfl) (by kernel_rfl) (Nat.le_of_ble_eq_true rfl) (by kernel_rfl) (Eq.mpr (posted_Posted_Post_eq a0 a1 w R) h)
noncomputable def posted_Posted_May_b : Code := (Try.f16.body).getD .skip
noncomputable def posted_Posted_May_R0 : Code := cAt [1, 1, 1, 1, 1, 0] posted_Posted_May_b
noncomputable def posted_Posted_May_R1 : Code := cAt [1, 1, 1, 1, 1, 1] posted_Posted_May_b
noncomputable def posted_Posted_May_R0_ops : Array Oper := opsOf posted_Posted_May_R0
def posted_Posted_May_R0_T (K : Exit → Sl → World → Prop) (ρ : Sl) (w : World) : Prop :=
  let C : World → Prop := fun w' => w' = w; QK Try.prog C (do pure (Next.value (← Instr.indexAt 41 (ρ 10) (ρ 9)))) fun x28_1 => QK Try.prog C (do pure (Next.value (← Instr.loadAt 24 x28_1))) fun x29_1 => QK Try.prog C (do pure (Next.value (← Instr.sliceAt 41 (ρ 10) none (some (ρ 9)) none))) fun x32_1 => CK Try.prog (Value.func (Fn.func 39) #[] #[]) [(ρ 1), x29_1, x32_1] w fun x33_1 w => K Exit.normal (up (up (up (up (up (up (up (up (up (up ρ 25 (ρ 1)) 26 (ρ 10)) 27 (ρ 9)) 28 x28_1) 29 x29_1) 30 (ρ 10)) 31 (ρ 9)) 32 x32_1) 33 x33_1) 8 x33_1) w
theorem posted_Posted_May_R0_tail {D : List Deferred} {K : Exit → Sl → World → Prop} {ρ : Sl} {w : World} (h : posted_Posted_May_R0_T K ρ { w with drawn := w.drawn + 1 }) : W ⟨none, D⟩ Try.prog 34 posted_Posted_May_R0 K ρ w := by
  have e : posted_Posted_May_R0 = .region (idOf posted_Posted_May_R0) posted_Posted_May_R0_ops true := by kernel_rfl
  have q : sxq Try.prog (fun w' => w' = { w with drawn := w.drawn + 1 }) posted_Posted_May_R0_ops (fun ρ' => sxL Try.prog posted_Posted_May_R0_ops (K .normal) (posted_Posted_May_R0_ops.toList.drop 8) ρ' { w with drawn := w.drawn + 1 }) (posted_Posted_May_R0_ops.toList.take 8) ρ = posted_Posted_May_R0_T K ρ { w with drawn := w.drawn + 1 } := by kernel_rfl
  rw [e]
  exact W_tail 8 (by kernel_rfl) (by kernel_rfl) (by kernel_rfl) (by kernel_rfl) (Eq.mpr q h)
noncomputable def posted_Posted_May_R1_F (z : At) (K : Exit → Sl → World → Prop) (ρ : Sl) (w : World) : Prop :=
  K .ret ρ w
theorem posted_Posted_May_R1_eq (z : At) (K : Exit → Sl → World → Prop) (ρ : Sl) (w : World) : sx z Try.prog 34 posted_Posted_May_R1 K ρ w = posted_Posted_May_R1_F z K ρ w := by kernel_rfl
noncomputable def posted_Posted_May_F (a0 a1 a2 a3 : Value) (w : World) (R : Value → World → Prop) : Prop :=
  CK Try.prog (Value.func (Fn.func 42) #[] #[]) [a0, a2, a3] w fun x14 w => BK Try.prog .lss 3 (.tmp 15) (.const (Value.int .i64 0)) x14 (Value.int .i64 0) w fun x16 w => CondK x16 (R (Value.slice none 0 0) w) (CK Try.prog (Value.func (Fn.func 40) #[] #[]) [a0, a2] w fun x19 w => VK Try.prog (Instr.indexAt 41 x19 x14) w fun x22 w => VK Try.prog (Instr.fieldAt 24 x22 6) w fun x23 w => VK Try.prog (Instr.loadAt 4 x23) w fun x24 w => CondK x24 (R (Value.slice none 0 0) w) (W fn_ Try.prog 34 posted_Posted_May_R0 (seqK (sx fn_ Try.prog 34 posted_Posted_May_R1 (retK Try.prog [ResultVar.tmp 8] R)) (retK Try.prog [ResultVar.tmp 8] R)) (up (up (up (up (up (up (up (up (up (up (up (up (up (up (up (up (up (rho0 [a0, a1, a2, a3]) 8 (Value.slice none 0 0)) 11 a0) 12 a2) 13 a3) 14 x14) 9 x14) 15 x14) 16 x16) 17 a0) 18 a2) 19 x19) 10 x19) 20 x19) 21 x14) 22 x22) 23 x23) 24 x24) w))
theorem posted_Posted_May_eq (a0 a1 a2 a3 : Value) (w : World) (R : Value → World → Prop) : sx fn_ Try.prog 34 posted_Posted_May_b (retK Try.prog Try.f16.results.toList R) (rho0 [a0, a1, a2, a3]) w = posted_Posted_May_F a0 a1 a2 a3 w R := by kernel_rfl
theorem posted_Posted_May_calls {a0 a1 a2 a3 : Value} {w : World} {R : Value → World → Prop} (h : posted_Posted_May_F a0 a1 a2 a3 w R) : Calls Try.prog 16 #[a0, a1, a2, a3] w fun e w' => ∃ v, e = .returned v ∧ R v w' :=
  Go.X.calls_of_sx (n := 34) (c := posted_Posted_May_b) Try.func16 (by kernel_rfl) (by kernel_rfl) (Nat.le_of_ble_eq_true rfl) (by kernel_rfl) (Eq.mpr (posted_Posted_May_eq a0 a1 a2 a3 w R) h)
noncomputable def posted_Posted_Match_b : Code := (Try.f17.body).getD .skip
noncomputable def posted_Posted_Match_R0 : Code := cAt [1, 1, 1, 0, 1] posted_Posted_Match_b
noncomputable def posted_Posted_Match_R1 : Code := cAt [1, 1, 1, 1] posted_Posted_Match_b
noncomputable def posted_Posted_Match_R2 : Code := cAt [1, 1, 1, 1, 0] posted_Posted_Match_b
noncomputable def posted_Posted_Match_R3 : Code := cAt [1, 1, 1, 1, 1] posted_Posted_Match_b
noncomputable def posted_Posted_Match_R4 : Code := cAt [1, 1, 1, 1, 1, 0] posted_Posted_Match_b
noncomputable def posted_Posted_Match_R5 : Code := cAt [1, 1, 1, 1, 1, 1] posted_Posted_Match_b
noncomputable def posted_Posted_Match_R0_F (z : At) (K : Exit → Sl → World → Prop) (ρ : Sl) (w : World) : Prop :=
  CondK (ρ 39) (K .ret (up ρ 12 (Value.int .i64 2)) w) (K .normal ρ w)
theorem posted_Posted_Match_R0_eq (z : At) (K : Exit → Sl → World → Prop) (ρ : Sl) (w : World) : sx z Try.prog 62 posted_Posted_Match_R0 K ρ w = posted_Posted_Match_R0_F z K ρ w := by kernel_rfl
noncomputable def posted_Posted_Match_R1_F (z : At) (K : Exit → Sl → World → Prop) (ρ : Sl) (w : World) : Prop :=
  W z Try.prog 62 posted_Posted_Match_R2 (seqK (sx z Try.prog 62 posted_Posted_Match_R3 K) K) ρ w
theorem posted_Posted_Match_R1_eq (z : At) (K : Exit → Sl → World → Prop) (ρ : Sl) (w : World) : sx z Try.prog 62 posted_Posted_Match_R1 K ρ w = posted_Posted_Match_R1_F z K ρ w := by kernel_rfl
noncomputable def posted_Posted_Match_R2_ops : Array Oper := opsOf posted_Posted_Match_R2
def posted_Posted_Match_R2_H (S : World → Prop) (K : Exit → Sl → World → Prop) (ρ : Sl) (w : World) : Prop :=
  HK Try.prog S (nilCk (ρ 0)) fun x42_2 => HK Try.prog S (do pure (Next.value (← Instr.fieldAt 61 x42_2 1))) fun x43_2 => HK Try.prog S (do pure (Next.value (← Instr.indexAt 59 x43_2 (ρ 2)))) fun x44_2 => HK Try.prog S (do pure (Next.value (← Instr.loadAt 41 x44_2))) fun x45_2 => CK Try.prog (Value.func (Fn.func 42) #[] #[]) [(ρ 0), (ρ 2), (ρ 3)] w fun x49_2 w => S w ∧ (HK Try.prog S (do pure (Next.value (← Instr.indexAt 41 x45_2 x49_2))) fun x50_2 => K Exit.normal (up (up (up (up (up (up (up (up (up (up (up (up ρ 40 (ρ 0)) 41 (ρ 2)) 42 x42_2) 43 x43_2) 44 x44_2) 45 x45_2) 46 (ρ 0)) 47 (ρ 2)) 48 (ρ 3)) 49 x49_2) 50 x50_2) 14 x50_2) w)
theorem posted_Posted_Match_R2_held {D : List Deferred} (S : World → Prop) {K : Exit → Sl → World → Prop} {ρ : Sl} {w : World} (hS : S { w with drawn := w.drawn + 1 }) (h : posted_Posted_Match_R2_H S K ρ { w with drawn := w.drawn + 1 }) : W ⟨none, D⟩ Try.prog 62 posted_Posted_Match_R2 K ρ w := by
  have e : posted_Posted_Match_R2 = .region (idOf posted_Posted_Match_R2) posted_Posted_Match_R2_ops true := by kernel_rfl
  have q : sxh Try.prog S posted_Posted_Match_R2_ops (K .normal) [(0, true), (1, true), (2, true), (3, true), (4, true), (5, true), (6, true), (7, true), (8, true), (9, false), (10, true), (11, true)] ρ { w with drawn := w.drawn + 1 } = posted_Posted_Match_R2_H S K ρ { w with drawn := w.drawn + 1 } := by kernel_rfl
  rw [e]
  exact W_held S [(0, true), (1, true), (2, true), (3, true), (4, true), (5, true), (6, true), (7, true), (8, true), (9, false), (10, true), (11, true)] (by kernel_rfl) (by kernel_rfl) (by kernel_rfl) (by kernel_rfl) hS (Eq.mpr q h)
noncomputable def posted_Posted_Match_R3_F (z : At) (K : Exit → Sl → World → Prop) (ρ : Sl) (w : World) : Prop :=
  W z Try.prog 62 posted_Posted_Match_R4 (seqK (sx z Try.prog 62 posted_Posted_Match_R5 K) K) ρ w
theorem posted_Posted_Match_R3_eq (z : At) (K : Exit → Sl → World → Prop) (ρ : Sl) (w : World) : sx z Try.prog 62 posted_Posted_Match_R3 K ρ w = posted_Posted_Match_R3_F z K ρ w := by kernel_rfl
noncomputable def posted_Posted_Match_R4_ops : Array Oper := opsOf posted_Posted_Match_R4
def posted_Posted_Match_R4_H0 (S : World → Prop) (K : Sl → World → Prop) (ρ : Sl) (w : World) : Prop :=
  HK Try.prog S (do pure (Next.value (← Instr.loadAt 3 (ρ 10)))) fun x54 => HK Try.prog S (do pure (Next.value (← Instr.loadAt 3 (ρ 11)))) fun x55 => HK Try.prog S (nilCk (ρ 14)) fun x56 => HK Try.prog S (do pure (Next.value (← Instr.fieldAt 24 x56 6))) fun x57 => UK Try.prog (Instr.storeAt 4 x57 (Value.bool true)) w fun _ w => S w ∧ (HK Try.prog S (nilCk (ρ 14)) fun x58 => HK Try.prog S (do pure (Next.value (← Instr.fieldAt 24 x58 7))) fun x59 => UK Try.prog (Instr.storeAt 3 x59 x54) w fun _ w => S w ∧ (HK Try.prog S (nilCk (ρ 14)) fun x60 => K (up (up (up (up (up (up (up (up (up (up ρ 51 (ρ 14)) 52 (ρ 14)) 53 (ρ 14)) 54 x54) 55 x55) 56 x56) 57 x57) 58 x58) 59 x59) 60 x60) w))
theorem posted_Posted_Match_R4_q0 (S : World → Prop) (K : Sl → World → Prop) : sxh Try.prog S posted_Posted_Match_R4_ops K [(0, true), (1, true), (2, true), (3, true), (4, true), (5, true), (6, true), (7, false), (8, true), (9, true), (10, false), (11, true)] = posted_Posted_Match_R4_H0 S K := by kernel_rfl
def posted_Posted_Match_R4_H1 (S : World → Prop) (K : Sl → World → Prop) (ρ : Sl) (w : World) : Prop :=
  HK Try.prog S (do pure (Next.value (← Instr.fieldAt 24 (ρ 60) 8))) fun x61 => UK Try.prog (Instr.storeAt 3 x61 (ρ 55)) w fun _ w => S w ∧ (K (up ρ 61 x61) w)
theorem posted_Posted_Match_R4_q1 (S : World → Prop) (K : Sl → World → Prop) : sxh Try.prog S posted_Posted_Match_R4_ops K [(12, true), (13, false)] = posted_Posted_Match_R4_H1 S K := by kernel_rfl
def posted_Posted_Match_R4_H (S : World → Prop) (K : Exit → Sl → World → Prop) (ρ : Sl) (w : World) : Prop :=
  posted_Posted_Match_R4_H0 S (posted_Posted_Match_R4_H1 S (K .normal)) ρ w
theorem posted_Posted_Match_R4_steps : planOk Try.prog 62 posted_Posted_Match_R4_ops [(0, true), (1, true), (2, true), (3, true), (4, true), (5, true), (6, true), (7, false), (8, true), (9, true), (10, false), (11, true), (12, true), (13, false)] (Array.replicate posted_Posted_Match_R4_ops.size false) = true :=
  by kernel_rfl
theorem posted_Posted_Match_R4_held {D : List Deferred} (S : World → Prop) {K : Exit → Sl → World → Prop} {ρ : Sl} {w : World} (hS : S { w with drawn := w.drawn + 1 }) (h : posted_Posted_Match_R4_H S K ρ { w with drawn := w.drawn + 1 }) : W ⟨none, D⟩ Try.prog 62 posted_Posted_Match_R4 K ρ w := by
  have e : posted_Posted_Match_R4 = .region (idOf posted_Posted_Match_R4) posted_Posted_Match_R4_ops true := by kernel_rfl
  have q : sxh Try.prog S posted_Posted_Match_R4_ops (K .normal) [(0, true), (1, true), (2, true), (3, true), (4, true), (5, true), (6, true), (7, false), (8, true), (9, true), (10, false), (11, true), (12, true), (13, false)] ρ { w with drawn := w.drawn + 1 } = posted_Posted_Match_R4_H S K ρ { w with drawn := w.drawn + 1 } := by
    show sxh Try.prog S posted_Posted_Match_R4_ops (K .normal) ([(0, true), (1, true), (2, true), (3, true), (4, true), (5, true), (6, true), (7, false), (8, true), (9, true), (10, false), (11, true)] ++ [(12, true), (13, false)]) ρ { w with drawn := w.drawn + 1 } = _
    rw [sxh_append, posted_Posted_Match_R4_q1, posted_Posted_Match_R4_q0]; rfl
  rw [e]
  exact W_held S [(0, true), (1, true), (2, true), (3, true), (4, true), (5, true), (6, true), (7, false), (8, true), (9, true), (10, false), (11, true), (12, true), (13, false)] (by kernel_rfl) (by kernel_rfl) posted_Posted_Match_R4_steps (by kernel_rfl) hS (Eq.mpr q h)
noncomputable def posted_Posted_Match_R5_F (z : At) (K : Exit → Sl → World → Prop) (ρ : Sl) (w : World) : Prop :=
  K .ret (up ρ 12 (Value.int .i64 0)) w
theorem posted_Posted_Match_R5_eq (z : At) (K : Exit → Sl → World → Prop) (ρ : Sl) (w : World) : sx z Try.prog 62 posted_Posted_Match_R5 K ρ w = posted_Posted_Match_R5_F z K ρ w := by kernel_rfl
noncomputable def posted_Posted_Match_F (a0 a1 a2 a3 a4 a5 : Value) (w : World) (R : Value → World → Prop) : Prop :=
  VK Try.prog (Instr.box 3 a4) w fun x10 w => VK Try.prog (Instr.box 3 a5) w fun x11 w => BK Try.prog .eql 28 (.tmp 15) (.const (Value.pointer none)) a0 (Value.pointer none) w fun x16 w => MG Try.prog x16 false a0 w fun x18 w => NG Try.prog x16 false x18 w fun x19 w => VG Try.prog x16 false (Instr.fieldAt 61 x19 0) w fun x20 w => VG Try.prog x16 false (Instr.loadAt 4 x20) w fun x21 w => VG Try.prog x16 false (Op.unary UnOp.not x21) w fun x22 w => PK Try.prog x16 (Value.bool true) x22 w fun x23 w => CondK x23 (R (Value.int .i64 1) w) (VK Try.prog (Instr.makeFunc (Fn.func 43) [].toArray [x10, x11].toArray) w fun x24 w => CK Try.prog (Value.func (Fn.func 16) #[] #[]) [a0, a1, a2, a3] w fun x29 w => CK Try.prog (Value.func (Fn.func 44) #[] #[]) [x29, x24] w fun x31 w => VK Try.prog (Op.unary UnOp.not x31) w fun x32 w => MG Try.prog x32 false a1 w fun x34 w => VG Try.prog x32 false (Instr.loadAt 3 x10) w fun x35 w => VG Try.prog x32 false (Instr.loadAt 3 x11) w fun x36 w => CG Try.prog x32 false (Value.func (Fn.func 45) #[] #[]) [x34, x35, x36] w fun x37 w => BG Try.prog x32 false .neq 33 (.tmp 37) (.const (Value.int .i64 0)) x37 (Value.int .i64 0) w fun x38 w => PK Try.prog x32 (Value.bool true) x38 w fun x39 w => sx fn_ Try.prog 62 posted_Posted_Match_R0 (seqK (sx fn_ Try.prog 62 posted_Posted_Match_R1 (retK Try.prog [ResultVar.tmp 12] R)) (retK Try.prog [ResultVar.tmp 12] R)) (up (up (up (up (up (up (up (up (up (up (up (up (up (up (up (up (up (up (up (up (up (up (up (up (up (up (up (up (up (rho0 [a0, a1, a2, a3, a4, a5]) 10 x10) 11 x11) 12 (Value.int .i64 0)) 15 a0) 16 x16) 17 x16) 18 x18) 19 x19) 20 x20) 21 x21) 22 x22) 23 x23) 24 x24) 13 x24) 25 a0) 26 a1) 27 a2) 28 a3) 29 x29) 30 x24) 31 x31) 32 x32) 33 x32) 34 x34) 35 x35) 36 x36) 37 x37) 38 x38) 39 x39) w)
theorem posted_Posted_Match_eq (a0 a1 a2 a3 a4 a5 : Value) (w : World) (R : Value → World → Prop) : sx fn_ Try.prog 62 posted_Posted_Match_b (retK Try.prog Try.f17.results.toList R) (rho0 [a0, a1, a2, a3, a4, a5]) w = posted_Posted_Match_F a0 a1 a2 a3 a4 a5 w R := by kernel_rfl
theorem posted_Posted_Match_calls {a0 a1 a2 a3 a4 a5 : Value} {w : World} {R : Value → World → Prop} (h : posted_Posted_Match_F a0 a1 a2 a3 a4 a5 w R) : Calls Try.prog 17 #[a0, a1, a2, a3, a4, a5] w fun e w' => ∃ v, e = .returned v ∧ R v w' :=
  Go.X.calls_of_sx (n := 62) (c := posted_Posted_Match_b) Try.func17 (by kernel_rfl) (by kernel_rfl) (Nat.le_of_ble_eq_true rfl) (by kernel_rfl) (Eq.mpr (posted_Posted_Match_eq a0 a1 a2 a3 a4 a5 w R) h)
noncomputable def posted_Posted_Waiting_b : Code := (Try.f18.body).getD .skip
noncomputable def posted_Posted_Waiting_F (a0 a1 : Value) (w : World) (R : Value → World → Prop) : Prop :=
  CK Try.prog (Value.func (Fn.func 40) #[] #[]) [a0, a1] w fun x7 w => CK Try.prog (Value.func (Fn.func 46) #[] #[]) [x7, (Value.func (Fn.func 47) #[] #[])] w fun x8 w => R x8 w
theorem posted_Posted_Waiting_eq (a0 a1 : Value) (w : World) (R : Value → World → Prop) : sx fn_ Try.prog 9 posted_Posted_Waiting_b (retK Try.prog Try.f18.results.toList R) (rho0 [a0, a1]) w = posted_Posted_Waiting_F a0 a1 w R := by kernel_rfl
theorem posted_Posted_Waiting_calls {a0 a1 : Value} {w : World} {R : Value → World → Prop} (h : posted_Posted_Waiting_F a0 a1 w R) : Calls Try.prog 18 #[a0, a1] w fun e w' => ∃ v, e = .returned v ∧ R v w' :=
  Go.X.calls_of_sx (n := 9) (c := posted_Posted_Waiting_b) Try.func18 (by kernel_rfl) (by kernel_rfl) (Nat.le_of_ble_eq_true rfl) (by kernel_rfl) (Eq.mpr (posted_Posted_Waiting_eq a0 a1 w R) h)
noncomputable def posted_Fits_b : Code := (Try.f19.body).getD .skip
noncomputable def posted_Fits_F (a0 a1 : Value) (w : World) (R : Value → World → Prop) : Prop :=
  VK Try.prog (Instr.box 24 a0) w fun x2 w => VK Try.prog (Instr.box 39 a1) w fun x3 w => VK Try.prog (Instr.loadAt 24 x2) w fun x5 w => VK Try.prog (Instr.loadAt 39 x3) w fun x6 w => CK Try.prog (Value.func (Fn.func 48) #[] #[]) [x5, x6] w fun x7 w => R x7 w
theorem posted_Fits_eq (a0 a1 : Value) (w : World) (R : Value → World → Prop) : sx fn_ Try.prog 8 posted_Fits_b (retK Try.prog Try.f19.results.toList R) (rho0 [a0, a1]) w = posted_Fits_F a0 a1 w R := by kernel_rfl
theorem posted_Fits_calls {a0 a1 : Value} {w : World} {R : Value → World → Prop} (h : posted_Fits_F a0 a1 w R) : Calls Try.prog 19 #[a0, a1] w fun e w' => ∃ v, e = .returned v ∧ R v w' :=
  Go.X.calls_of_sx (n := 8) (c := posted_Fits_b) Try.func19 (by kernel_rfl) (by kernel_rfl) (Nat.le_of_ble_eq_true rfl) (by kernel_rfl) (Eq.mpr (posted_Fits_eq a0 a1 w R) h)
noncomputable def posted_Posted_At_b : Code := (Try.f21.body).getD .skip
noncomputable def posted_Posted_At_F (a0 a1 a2 : Value) (w : World) (R : Value → World → Prop) : Prop :=
  VK Try.prog (Instr.alloc 24 true (.tuple #[])) w fun x6 w => CK Try.prog (Value.func (Fn.func 42) #[] #[]) [a0, a1, a2] w fun x12 w => BK Try.prog .lss 3 (.tmp 13) (.const (Value.int .i64 0)) x12 (Value.int .i64 0) w fun x14 w => CondK x14 (VK Try.prog (Instr.build 24 [].toArray) w fun x15 w => UK Try.prog (Instr.storeAt 24 x6 x15) w fun _ w => ∃ x6_1, (do loadVar 24 (← asAddr x6) : Sem Value).run Try.prog w = .ok x6_1 w ∧ R (Value.tuple #[x6_1, (Value.bool false)]) w) (CK Try.prog (Value.func (Fn.func 40) #[] #[]) [a0, a1] w fun x18 w => VK Try.prog (Instr.indexAt 41 x18 x12) w fun x20 w => VK Try.prog (Instr.loadAt 24 x20) w fun x21 w => UK Try.prog (Instr.storeAt 24 x6 x21) w fun _ w => ∃ x6_2, (do loadVar 24 (← asAddr x6) : Sem Value).run Try.prog w = .ok x6_2 w ∧ R (Value.tuple #[x6_2, (Value.bool true)]) w)
theorem posted_Posted_At_eq (a0 a1 a2 : Value) (w : World) (R : Value → World → Prop) : sx fn_ Try.prog 22 posted_Posted_At_b (retK Try.prog Try.f21.results.toList R) (rho0 [a0, a1, a2]) w = posted_Posted_At_F a0 a1 a2 w R := by kernel_rfl
theorem posted_Posted_At_calls {a0 a1 a2 : Value} {w : World} {R : Value → World → Prop} (h : posted_Posted_At_F a0 a1 a2 w R) : Calls Try.prog 21 #[a0, a1, a2] w fun e w' => ∃ v, e = .returned v ∧ R v w' :=
  Go.X.calls_of_sx (n := 22) (c := posted_Posted_At_b) Try.func21 (by kernel_rfl) (by kernel_rfl) (Nat.le_of_ble_eq_true rfl) (by kernel_rfl) (Eq.mpr (posted_Posted_At_eq a0 a1 a2 w R) h)
noncomputable def posted_New_b : Code := (Try.f24.body).getD .skip
noncomputable def posted_New_F (w : World) (R : Value → World → Prop) : Prop :=
  VK Try.prog (Instr.build 61 [(0, (Value.bool true))].toArray) w fun x1 w => VK Try.prog (Instr.box 61 x1) w fun x2 w => R x2 w
theorem posted_New_calls {w : World} {R : Value → World → Prop} (h : posted_New_F  w R) : Calls Try.prog 24 #[] w fun e w' => ∃ v, e = .returned v ∧ R v w' :=
  Go.X.calls_eq (n := 3) (c := posted_New_b) (fn := Try.f24) (args := #[]) (F := posted_New_F  w R) (R := R) Try.func24 (by kernel_rfl) (by kernel_rfl) (Nat.le_of_ble_eq_true rfl) (by kernel_rfl) (by kernel_rfl) h
noncomputable def posted_Posted_Copy_b : Code := (Try.f28.body).getD .skip
noncomputable def posted_Posted_Copy_L0 : Code := cAt [1, 1, 1, 0, 1, 0, 0] posted_Posted_Copy_b
noncomputable def posted_Posted_Copy_R1 : Code := cAt [1, 1, 1, 1] posted_Posted_Copy_b
noncomputable def posted_Posted_Copy_L0_F (z : At) (K : Exit → Sl → World → Prop) (ρ : Sl) (w : World) : Prop :=
  BK Try.prog .lss 3 (.tmp 13) (.const (Value.int .i64 64)) (ρ 13) (Value.int .i64 64) w fun x14 w => CondK x14 (VK Try.prog (Instr.index 59 (ρ 12) (ρ 13)) w fun x16 w => CK Try.prog (Value.func (Fn.func 51) #[] #[]) [x16] w fun x19 w => VK Try.prog (Instr.fieldAt 61 (ρ 3) 1) w fun x20 w => VK Try.prog (Instr.indexAt 59 x20 (ρ 13)) w fun x21 w => UK Try.prog (Instr.storeAt 41 x21 x19) w fun _ w => BK Try.prog .add 3 (.tmp 13) (.const (Value.int .i64 1)) (ρ 13) (Value.int .i64 1) w fun x22 w => K .normal (up (up (up (up (up (up (up (up (up (up (up (up ρ 14 x14) 15 (ρ 13)) 16 x16) 4 (ρ 13)) 5 x16) 17 (ρ 13)) 18 x16) 19 x19) 20 x20) 21 x21) 22 x22) 13 x22) w) (K (.exit 0) (up ρ 14 x14) w)
theorem posted_Posted_Copy_L0_eq (z : At) (K : Exit → Sl → World → Prop) (ρ : Sl) (w : World) : sx z Try.prog 23 posted_Posted_Copy_L0 K ρ w = posted_Posted_Copy_L0_F z K ρ w := by kernel_rfl
theorem posted_Posted_Copy_L0_ok : dstOk 23 posted_Posted_Copy_L0 = true := by kernel_rfl
noncomputable def posted_Posted_Copy_R1_F (z : At) (K : Exit → Sl → World → Prop) (ρ : Sl) (w : World) : Prop :=
  K .ret (up ρ 2 (ρ 3)) w
theorem posted_Posted_Copy_R1_eq (z : At) (K : Exit → Sl → World → Prop) (ρ : Sl) (w : World) : sx z Try.prog 23 posted_Posted_Copy_R1 K ρ w = posted_Posted_Copy_R1_F z K ρ w := by kernel_rfl
noncomputable def posted_Posted_Copy_F (a0 : Value) (w : World) (R : Value → World → Prop) : Prop :=
  BK Try.prog .eql 28 (.tmp 6) (.const (Value.pointer none)) a0 (Value.pointer none) w fun x7 w => CondK x7 (R (Value.pointer none) w) (NK Try.prog a0 w fun x9 w => VK Try.prog (Instr.loadAt 61 x9) w fun x10 w => VK Try.prog (Instr.alloc 61 true (.tuple #[])) w fun x3 w => UK Try.prog (Instr.storeAt 61 x3 x10) w fun _ w => VK Try.prog (Instr.fieldAt 61 x3 1) w fun x11 w => VK Try.prog (Instr.loadAt 59 x11) w fun x12 w => W fn_ Try.prog 23 (Code.loop posted_Posted_Copy_L0) (blkK 0 (seqK (sx fn_ Try.prog 23 posted_Posted_Copy_R1 (retK Try.prog [ResultVar.tmp 2] R)) (retK Try.prog [ResultVar.tmp 2] R))) (up (up (up (up (up (up (up (up (up (up (rho0 [a0]) 2 (Value.pointer none)) 6 a0) 7 x7) 8 a0) 9 x9) 10 x10) 3 x3) 11 x11) 12 x12) 13 (Value.int .i64 0)) w)
theorem posted_Posted_Copy_eq (a0 : Value) (w : World) (R : Value → World → Prop) : sx fn_ Try.prog 23 posted_Posted_Copy_b (retK Try.prog Try.f28.results.toList R) (rho0 [a0]) w = posted_Posted_Copy_F a0 w R := by kernel_rfl
theorem posted_Posted_Copy_calls {a0 : Value} {w : World} {R : Value → World → Prop} (h : posted_Posted_Copy_F a0 w R) : Calls Try.prog 28 #[a0] w fun e w' => ∃ v, e = .returned v ∧ R v w' :=
  Go.X.calls_of_sx (n := 23) (c := posted_Posted_Copy_b) Try.func28 (by kernel_rfl) (by kernel_rfl) (Nat.le_of_ble_eq_true rfl) (by kernel_rfl) (Eq.mpr (posted_Posted_Copy_eq a0 w R) h)
noncomputable def dispatcherlaw14_begin_b : Code := (Try.f29.body).getD .skip
noncomputable def dispatcherlaw14_begin_F (w : World) (R : Value → World → Prop) : Prop :=
  CK Try.prog (Value.func (Fn.func 23) #[] #[]) [] w fun x1 w => CK Try.prog (Value.func (Fn.func 24) #[] #[]) [] w fun x2 w => VK Try.prog (Instr.build 97 [].toArray) w fun x3 w => VK Try.prog (Instr.box 97 x3) w fun x4 w => VK Try.prog (Instr.build 71 [].toArray) w fun x5 w => VK Try.prog (Instr.box 71 x5) w fun x6 w => VK Try.prog (Instr.build 69 [(0, x1), (1, x2), (2, x4), (3, x6)].toArray) w fun x7 w => VK Try.prog (Instr.box 69 x7) w fun x8 w => R x8 w
theorem dispatcherlaw14_begin_calls {w : World} {R : Value → World → Prop} (h : dispatcherlaw14_begin_F  w R) : Calls Try.prog 29 #[] w fun e w' => ∃ v, e = .returned v ∧ R v w' :=
  Go.X.calls_eq (n := 9) (c := dispatcherlaw14_begin_b) (fn := Try.f29) (args := #[]) (F := dispatcherlaw14_begin_F  w R) (R := R) Try.func29 (by kernel_rfl) (by kernel_rfl) (Nat.le_of_ble_eq_true rfl) (by kernel_rfl) (by kernel_rfl) h
noncomputable def dispatcherlaw14_play_does_b : Code := (Try.f30.body).getD .skip
noncomputable def dispatcherlaw14_play_does_R0 : Code := cAt [1, 0, 1, 0, 1] dispatcherlaw14_play_does_b
noncomputable def dispatcherlaw14_play_does_R1 : Code := cAt [1, 1] dispatcherlaw14_play_does_b
noncomputable def dispatcherlaw14_play_does_R2 : Code := cAt [1, 0, 1, 0, 1, 0, 0] dispatcherlaw14_play_does_b
noncomputable def dispatcherlaw14_play_does_R3 : Code := cAt [1, 0, 1, 0, 1, 0, 1] dispatcherlaw14_play_does_b
noncomputable def dispatcherlaw14_play_does_R4 : Code := cAt [1, 0, 1, 0, 1, 1, 1, 0, 0] dispatcherlaw14_play_does_b
noncomputable def dispatcherlaw14_play_does_R5 : Code := cAt [1, 0, 1, 0, 1, 1, 1, 0, 1] dispatcherlaw14_play_does_b
noncomputable def dispatcherlaw14_play_does_R6 : Code := cAt [1, 0, 1, 0, 1, 1, 1, 1, 1, 0, 0] dispatcherlaw14_play_does_b
noncomputable def dispatcherlaw14_play_does_R7 : Code := cAt [1, 0, 1, 0, 1, 1, 1, 1, 1, 0, 1] dispatcherlaw14_play_does_b
noncomputable def dispatcherlaw14_play_does_R8 : Code := cAt [1, 1, 0] dispatcherlaw14_play_does_b
noncomputable def dispatcherlaw14_play_does_R9 : Code := cAt [1, 1, 1] dispatcherlaw14_play_does_b
noncomputable def dispatcherlaw14_play_does_R10 : Code := cAt [1, 1, 1, 1, 0] dispatcherlaw14_play_does_b
noncomputable def dispatcherlaw14_play_does_R11 : Code := cAt [1, 1, 1, 1, 1] dispatcherlaw14_play_does_b
noncomputable def dispatcherlaw14_play_does_R0_F (z : At) (K : Exit → Sl → World → Prop) (ρ : Sl) (w : World) : Prop :=
  CondK (ρ 10) (W z Try.prog 150 dispatcherlaw14_play_does_R2 (seqK (sx z Try.prog 150 dispatcherlaw14_play_does_R3 K) K) ρ w) (BK Try.prog .eql 5 (.tmp 9) (.const (Value.int .u8 2)) (ρ 9) (Value.int .u8 2) w fun x29 w => CondK x29 (W z Try.prog 150 dispatcherlaw14_play_does_R4 (seqK (sx z Try.prog 150 dispatcherlaw14_play_does_R5 K) K) (up (up ρ 29 x29) 28 x29) w) (BK Try.prog .eql 5 (.tmp 9) (.const (Value.int .u8 3)) (ρ 9) (Value.int .u8 3) w fun x46 w => CondK x46 (W z Try.prog 150 dispatcherlaw14_play_does_R6 (seqK (sx z Try.prog 150 dispatcherlaw14_play_does_R7 K) K) (up (up (up (up ρ 29 x29) 28 x29) 46 x46) 45 x46) w) (K .normal (up (up (up (up ρ 29 x29) 28 x29) 46 x46) 45 x46) w)))
theorem dispatcherlaw14_play_does_R0_eq (z : At) (K : Exit → Sl → World → Prop) (ρ : Sl) (w : World) : sx z Try.prog 150 dispatcherlaw14_play_does_R0 K ρ w = dispatcherlaw14_play_does_R0_F z K ρ w := by kernel_rfl
noncomputable def dispatcherlaw14_play_does_R1_F (z : At) (K : Exit → Sl → World → Prop) (ρ : Sl) (w : World) : Prop :=
  W z Try.prog 150 dispatcherlaw14_play_does_R8 (seqK (sx z Try.prog 150 dispatcherlaw14_play_does_R9 K) K) ρ w
theorem dispatcherlaw14_play_does_R1_eq (z : At) (K : Exit → Sl → World → Prop) (ρ : Sl) (w : World) : sx z Try.prog 150 dispatcherlaw14_play_does_R1 K ρ w = dispatcherlaw14_play_does_R1_F z K ρ w := by kernel_rfl
noncomputable def dispatcherlaw14_play_does_R2_ops : Array Oper := opsOf dispatcherlaw14_play_does_R2
def dispatcherlaw14_play_does_R2_H0 (S : World → Prop) (K : Sl → World → Prop) (ρ : Sl) (w : World) : Prop :=
  HK Try.prog S (nilCk (ρ 0)) fun x14_2 => HK Try.prog S (do pure (Next.value (← Instr.fieldAt 69 x14_2 0))) fun x15_2 => HK Try.prog S (do pure (Next.value (← Instr.loadAt 27 x15_2))) fun x16_2 => HK Try.prog S (do pure (Next.value (← Instr.fieldAt 48 (ρ 3) 1))) fun x17_2 => HK Try.prog S (do pure (Next.value (← Instr.loadAt 39 x17_2))) fun x18_2 => HK Try.prog S (nilCk (ρ 0)) fun x21_2 => HK Try.prog S (do pure (Next.value (← Instr.fieldAt 69 x21_2 2))) fun x22_2 => HK Try.prog S (do pure (Next.value (← Instr.loadAt 66 x22_2))) fun x23_2 => HK Try.prog S (do pure (Next.value (← Instr.fieldAt 48 (ρ 3) 1))) fun x24_2 => HK Try.prog S (do pure (Next.value (← Instr.loadAt 39 x24_2))) fun x25_2 => K (up (up (up (up (up (up (up (up (up (up (up (up ρ 13 (ρ 0)) 14 x14_2) 15 x15_2) 16 x16_2) 17 x17_2) 18 x18_2) 20 (ρ 0)) 21 x21_2) 22 x22_2) 23 x23_2) 24 x24_2) 25 x25_2) w
theorem dispatcherlaw14_play_does_R2_q0 (S : World → Prop) (K : Sl → World → Prop) : sxh Try.prog S dispatcherlaw14_play_does_R2_ops K [(0, true), (1, true), (2, true), (3, true), (4, true), (5, true), (7, true), (8, true), (9, true), (10, true), (11, true), (12, true)] = dispatcherlaw14_play_does_R2_H0 S K := by kernel_rfl
def dispatcherlaw14_play_does_R2_H1 (S : World → Prop) (K : Sl → World → Prop) (ρ : Sl) (w : World) : Prop :=
  CK Try.prog (Value.func (Fn.func 25) #[] #[]) [(ρ 16), (ρ 18)] w fun x19_2 w => S w ∧ (CK Try.prog (Value.func (Fn.func 52) #[] #[]) [(ρ 23), (ρ 25)] w fun x26_2 w => S w ∧ (HK Try.prog S (do pure (Next.value (← (do eqGuard BinOp.eql 3 (Operand.tmp 19) (Operand.tmp 26) x19_2 x26_2; binOp BinOp.eql 3 x19_2 x26_2)))) fun x27_2 => K (up (up (up (up ρ 19 x19_2) 26 x26_2) 27 x27_2) 4 x27_2) w))
theorem dispatcherlaw14_play_does_R2_q1 (S : World → Prop) (K : Sl → World → Prop) : sxh Try.prog S dispatcherlaw14_play_does_R2_ops K [(6, false), (13, false), (14, true), (15, true)] = dispatcherlaw14_play_does_R2_H1 S K := by kernel_rfl
def dispatcherlaw14_play_does_R2_H (S : World → Prop) (K : Exit → Sl → World → Prop) (ρ : Sl) (w : World) : Prop :=
  dispatcherlaw14_play_does_R2_H0 S (dispatcherlaw14_play_does_R2_H1 S (K .normal)) ρ w
theorem dispatcherlaw14_play_does_R2_steps : planOk Try.prog 150 dispatcherlaw14_play_does_R2_ops [(0, true), (1, true), (2, true), (3, true), (4, true), (5, true), (7, true), (8, true), (9, true), (10, true), (11, true), (12, true), (6, false), (13, false), (14, true), (15, true)] (Array.replicate dispatcherlaw14_play_does_R2_ops.size false) = true :=
  by kernel_rfl
theorem dispatcherlaw14_play_does_R2_held {D : List Deferred} (S : World → Prop) {K : Exit → Sl → World → Prop} {ρ : Sl} {w : World} (hS : S { w with drawn := w.drawn + 1 }) (h : dispatcherlaw14_play_does_R2_H S K ρ { w with drawn := w.drawn + 1 }) : W ⟨none, D⟩ Try.prog 150 dispatcherlaw14_play_does_R2 K ρ w := by
  have e : dispatcherlaw14_play_does_R2 = .region (idOf dispatcherlaw14_play_does_R2) dispatcherlaw14_play_does_R2_ops true := by kernel_rfl
  have q : sxh Try.prog S dispatcherlaw14_play_does_R2_ops (K .normal) [(0, true), (1, true), (2, true), (3, true), (4, true), (5, true), (7, true), (8, true), (9, true), (10, true), (11, true), (12, true), (6, false), (13, false), (14, true), (15, true)] ρ { w with drawn := w.drawn + 1 } = dispatcherlaw14_play_does_R2_H S K ρ { w with drawn := w.drawn + 1 } := by
    show sxh Try.prog S dispatcherlaw14_play_does_R2_ops (K .normal) ([(0, true), (1, true), (2, true), (3, true), (4, true), (5, true), (7, true), (8, true), (9, true), (10, true), (11, true), (12, true)] ++ [(6, false), (13, false), (14, true), (15, true)]) ρ { w with drawn := w.drawn + 1 } = _
    rw [sxh_append, dispatcherlaw14_play_does_R2_q1, dispatcherlaw14_play_does_R2_q0]; rfl
  rw [e]
  exact W_held S [(0, true), (1, true), (2, true), (3, true), (4, true), (5, true), (7, true), (8, true), (9, true), (10, true), (11, true), (12, true), (6, false), (13, false), (14, true), (15, true)] (by kernel_rfl) (by kernel_rfl) dispatcherlaw14_play_does_R2_steps (by kernel_rfl) hS (Eq.mpr q h)
noncomputable def dispatcherlaw14_play_does_R3_F (z : At) (K : Exit → Sl → World → Prop) (ρ : Sl) (w : World) : Prop :=
  K .ret ρ w
theorem dispatcherlaw14_play_does_R3_eq (z : At) (K : Exit → Sl → World → Prop) (ρ : Sl) (w : World) : sx z Try.prog 150 dispatcherlaw14_play_does_R3 K ρ w = dispatcherlaw14_play_does_R3_F z K ρ w := by kernel_rfl
noncomputable def dispatcherlaw14_play_does_R4_ops : Array Oper := opsOf dispatcherlaw14_play_does_R4
def dispatcherlaw14_play_does_R4_H0 (S : World → Prop) (K : Sl → World → Prop) (ρ : Sl) (w : World) : Prop :=
  HK Try.prog S (nilCk (ρ 0)) fun x31_2 => HK Try.prog S (do pure (Next.value (← Instr.fieldAt 69 x31_2 1))) fun x32_2 => HK Try.prog S (do pure (Next.value (← Instr.loadAt 28 x32_2))) fun x33_2 => HK Try.prog S (do pure (Next.value (← Instr.fieldAt 48 (ρ 3) 2))) fun x34_2 => HK Try.prog S (do pure (Next.value (← Instr.loadAt 24 x34_2))) fun x35_2 => HK Try.prog S (nilCk (ρ 0)) fun x38_2 => HK Try.prog S (do pure (Next.value (← Instr.fieldAt 69 x38_2 3))) fun x39_2 => HK Try.prog S (do pure (Next.value (← Instr.loadAt 67 x39_2))) fun x40_2 => HK Try.prog S (do pure (Next.value (← Instr.fieldAt 48 (ρ 3) 2))) fun x41_2 => HK Try.prog S (do pure (Next.value (← Instr.loadAt 24 x41_2))) fun x42_2 => K (up (up (up (up (up (up (up (up (up (up (up (up ρ 30 (ρ 0)) 31 x31_2) 32 x32_2) 33 x33_2) 34 x34_2) 35 x35_2) 37 (ρ 0)) 38 x38_2) 39 x39_2) 40 x40_2) 41 x41_2) 42 x42_2) w
theorem dispatcherlaw14_play_does_R4_q0 (S : World → Prop) (K : Sl → World → Prop) : sxh Try.prog S dispatcherlaw14_play_does_R4_ops K [(0, true), (1, true), (2, true), (3, true), (4, true), (5, true), (7, true), (8, true), (9, true), (10, true), (11, true), (12, true)] = dispatcherlaw14_play_does_R4_H0 S K := by kernel_rfl
def dispatcherlaw14_play_does_R4_H1 (S : World → Prop) (K : Sl → World → Prop) (ρ : Sl) (w : World) : Prop :=
  CK Try.prog (Value.func (Fn.func 14) #[] #[]) [(ρ 33), (ρ 35)] w fun x36_2 w => S w ∧ (CK Try.prog (Value.func (Fn.func 53) #[] #[]) [(ρ 40), (ρ 42)] w fun x43_2 w => S w ∧ (HK Try.prog S (do pure (Next.value (← (do eqGuard BinOp.eql 3 (Operand.tmp 36) (Operand.tmp 43) x36_2 x43_2; binOp BinOp.eql 3 x36_2 x43_2)))) fun x44_2 => K (up (up (up (up ρ 36 x36_2) 43 x43_2) 44 x44_2) 4 x44_2) w))
theorem dispatcherlaw14_play_does_R4_q1 (S : World → Prop) (K : Sl → World → Prop) : sxh Try.prog S dispatcherlaw14_play_does_R4_ops K [(6, false), (13, false), (14, true), (15, true)] = dispatcherlaw14_play_does_R4_H1 S K := by kernel_rfl
def dispatcherlaw14_play_does_R4_H (S : World → Prop) (K : Exit → Sl → World → Prop) (ρ : Sl) (w : World) : Prop :=
  dispatcherlaw14_play_does_R4_H0 S (dispatcherlaw14_play_does_R4_H1 S (K .normal)) ρ w
theorem dispatcherlaw14_play_does_R4_steps : planOk Try.prog 150 dispatcherlaw14_play_does_R4_ops [(0, true), (1, true), (2, true), (3, true), (4, true), (5, true), (7, true), (8, true), (9, true), (10, true), (11, true), (12, true), (6, false), (13, false), (14, true), (15, true)] (Array.replicate dispatcherlaw14_play_does_R4_ops.size false) = true :=
  by kernel_rfl
theorem dispatcherlaw14_play_does_R4_held {D : List Deferred} (S : World → Prop) {K : Exit → Sl → World → Prop} {ρ : Sl} {w : World} (hS : S { w with drawn := w.drawn + 1 }) (h : dispatcherlaw14_play_does_R4_H S K ρ { w with drawn := w.drawn + 1 }) : W ⟨none, D⟩ Try.prog 150 dispatcherlaw14_play_does_R4 K ρ w := by
  have e : dispatcherlaw14_play_does_R4 = .region (idOf dispatcherlaw14_play_does_R4) dispatcherlaw14_play_does_R4_ops true := by kernel_rfl
  have q : sxh Try.prog S dispatcherlaw14_play_does_R4_ops (K .normal) [(0, true), (1, true), (2, true), (3, true), (4, true), (5, true), (7, true), (8, true), (9, true), (10, true), (11, true), (12, true), (6, false), (13, false), (14, true), (15, true)] ρ { w with drawn := w.drawn + 1 } = dispatcherlaw14_play_does_R4_H S K ρ { w with drawn := w.drawn + 1 } := by
    show sxh Try.prog S dispatcherlaw14_play_does_R4_ops (K .normal) ([(0, true), (1, true), (2, true), (3, true), (4, true), (5, true), (7, true), (8, true), (9, true), (10, true), (11, true), (12, true)] ++ [(6, false), (13, false), (14, true), (15, true)]) ρ { w with drawn := w.drawn + 1 } = _
    rw [sxh_append, dispatcherlaw14_play_does_R4_q1, dispatcherlaw14_play_does_R4_q0]; rfl
  rw [e]
  exact W_held S [(0, true), (1, true), (2, true), (3, true), (4, true), (5, true), (7, true), (8, true), (9, true), (10, true), (11, true), (12, true), (6, false), (13, false), (14, true), (15, true)] (by kernel_rfl) (by kernel_rfl) dispatcherlaw14_play_does_R4_steps (by kernel_rfl) hS (Eq.mpr q h)
noncomputable def dispatcherlaw14_play_does_R5_F (z : At) (K : Exit → Sl → World → Prop) (ρ : Sl) (w : World) : Prop :=
  K .ret ρ w
theorem dispatcherlaw14_play_does_R5_eq (z : At) (K : Exit → Sl → World → Prop) (ρ : Sl) (w : World) : sx z Try.prog 150 dispatcherlaw14_play_does_R5 K ρ w = dispatcherlaw14_play_does_R5_F z K ρ w := by kernel_rfl
noncomputable def dispatcherlaw14_play_does_R6_ops : Array Oper := opsOf dispatcherlaw14_play_does_R6
noncomputable def dispatcherlaw14_play_does_R7_F (z : At) (K : Exit → Sl → World → Prop) (ρ : Sl) (w : World) : Prop :=
  K .ret ρ w
theorem dispatcherlaw14_play_does_R7_eq (z : At) (K : Exit → Sl → World → Prop) (ρ : Sl) (w : World) : sx z Try.prog 150 dispatcherlaw14_play_does_R7 K ρ w = dispatcherlaw14_play_does_R7_F z K ρ w := by kernel_rfl
noncomputable def dispatcherlaw14_play_does_R8_ops : Array Oper := opsOf dispatcherlaw14_play_does_R8
def dispatcherlaw14_play_does_R8_T (K : Exit → Sl → World → Prop) (ρ : Sl) (w : World) : Prop :=
  let C : World → Prop := fun w' => w' = w; QK Try.prog C (nilCk (ρ 0)) fun x91_1 => QK Try.prog C (do pure (Next.value (← Instr.fieldAt 69 x91_1 0))) fun x92_1 => QK Try.prog C (do pure (Next.value (← Instr.loadAt 27 x92_1))) fun x93_1 => QK Try.prog C (nilCk (ρ 0)) fun x95_1 => QK Try.prog C (do pure (Next.value (← Instr.fieldAt 69 x95_1 1))) fun x96_1 => QK Try.prog C (do pure (Next.value (← Instr.loadAt 28 x96_1))) fun x97_1 => K Exit.normal (up (up (up (up (up (up (up (up (up (up ρ 90 (ρ 0)) 91 x91_1) 92 x92_1) 93 x93_1) 94 (ρ 0)) 95 x95_1) 96 x96_1) 97 x97_1) 5 x93_1) 6 x97_1) w
theorem dispatcherlaw14_play_does_R8_tail {D : List Deferred} {K : Exit → Sl → World → Prop} {ρ : Sl} {w : World} (h : dispatcherlaw14_play_does_R8_T K ρ { w with drawn := w.drawn + 1 }) : W ⟨none, D⟩ Try.prog 150 dispatcherlaw14_play_does_R8 K ρ w := by
  have e : dispatcherlaw14_play_does_R8 = .region (idOf dispatcherlaw14_play_does_R8) dispatcherlaw14_play_does_R8_ops true := by kernel_rfl
  have q : sxq Try.prog (fun w' => w' = { w with drawn := w.drawn + 1 }) dispatcherlaw14_play_does_R8_ops (fun ρ' => sxL Try.prog dispatcherlaw14_play_does_R8_ops (K .normal) (dispatcherlaw14_play_does_R8_ops.toList.drop 9) ρ' { w with drawn := w.drawn + 1 }) (dispatcherlaw14_play_does_R8_ops.toList.take 9) ρ = dispatcherlaw14_play_does_R8_T K ρ { w with drawn := w.drawn + 1 } := by kernel_rfl
  rw [e]
  exact W_tail 9 (by kernel_rfl) (by kernel_rfl) (by kernel_rfl) (by kernel_rfl) (Eq.mpr q h)
noncomputable def dispatcherlaw14_play_does_R9_F (z : At) (K : Exit → Sl → World → Prop) (ρ : Sl) (w : World) : Prop :=
  CK Try.prog (Value.func (Fn.func 55) #[] #[]) [(ρ 5)] w fun x101 w => CK Try.prog (Value.func (Fn.func 28) #[] #[]) [(ρ 6)] w fun x103 w => NK Try.prog (ρ 0) w fun x104 w => VK Try.prog (Instr.fieldAt 69 x104 0) w fun x105 w => UK Try.prog (Instr.storeAt 27 x105 x101) w fun _ w => NK Try.prog (ρ 0) w fun x106 w => VK Try.prog (Instr.fieldAt 69 x106 1) w fun x107 w => UK Try.prog (Instr.storeAt 28 x107 x103) w fun _ w => W z Try.prog 150 dispatcherlaw14_play_does_R10 (seqK (sx z Try.prog 150 dispatcherlaw14_play_does_R11 K) K) (up (up (up (up (up (up (up (up (up (up ρ 98 (ρ 0)) 99 (ρ 0)) 100 (ρ 5)) 101 x101) 102 (ρ 6)) 103 x103) 104 x104) 105 x105) 106 x106) 107 x107) w
theorem dispatcherlaw14_play_does_R9_eq (z : At) (K : Exit → Sl → World → Prop) (ρ : Sl) (w : World) : sx z Try.prog 150 dispatcherlaw14_play_does_R9 K ρ w = dispatcherlaw14_play_does_R9_F z K ρ w := by kernel_rfl
noncomputable def dispatcherlaw14_play_does_R10_ops : Array Oper := opsOf dispatcherlaw14_play_does_R10
def dispatcherlaw14_play_does_R10_H (S : World → Prop) (K : Exit → Sl → World → Prop) (ρ : Sl) (w : World) : Prop :=
  HK Try.prog S (nilCk (ρ 0)) fun x111 => HK Try.prog S (do pure (Next.value (← Instr.fieldAt 69 x111 2))) fun x112 => HK Try.prog S (nilCk (ρ 0)) fun x116 => HK Try.prog S (do pure (Next.value (← Instr.fieldAt 69 x116 3))) fun x117 => (VK Try.prog (Instr.loadAt 66 x112) w fun x113 w => S w ∧ ((CK Try.prog (Value.func (Fn.func 56) #[] #[]) [x113] w fun x114 w => S w ∧ (VK Try.prog (Instr.loadAt 67 x117) w fun x118 w => S w ∧ (CK Try.prog (Value.func (Fn.func 57) #[] #[]) [x118] w fun x119 w => S w ∧ (HK Try.prog S (nilCk (ρ 0)) fun x120 => HK Try.prog S (do pure (Next.value (← Instr.fieldAt 69 x120 2))) fun x121 => UK Try.prog (Instr.storeAt 66 x121 x114) w fun _ w => S w ∧ (HK Try.prog S (nilCk (ρ 0)) fun x122 => HK Try.prog S (do pure (Next.value (← Instr.fieldAt 69 x122 3))) fun x123 => UK Try.prog (Instr.storeAt 67 x123 x119) w fun _ w => S w ∧ (K Exit.normal (up (up (up (up (up (up (up (up (up (up (up (up (up (up (up (up ρ 108 (ρ 0)) 109 (ρ 0)) 110 (ρ 0)) 111 x111) 112 x112) 115 (ρ 0)) 116 x116) 117 x117) 113 x113) 114 x114) 118 x118) 119 x119) 120 x120) 121 x121) 122 x122) 123 x123) w)))))) ∧ (VK Try.prog (Instr.loadAt 67 x117) w fun x118_1 w => S w ∧ (CK Try.prog (Value.func (Fn.func 56) #[] #[]) [x113] w fun x114_1 w => S w ∧ (CK Try.prog (Value.func (Fn.func 57) #[] #[]) [x118_1] w fun x119_1 w => S w ∧ (HK Try.prog S (nilCk (ρ 0)) fun x120_1 => HK Try.prog S (do pure (Next.value (← Instr.fieldAt 69 x120_1 2))) fun x121_1 => UK Try.prog (Instr.storeAt 66 x121_1 x114_1) w fun _ w => S w ∧ (HK Try.prog S (nilCk (ρ 0)) fun x122_1 => HK Try.prog S (do pure (Next.value (← Instr.fieldAt 69 x122_1 3))) fun x123_1 => UK Try.prog (Instr.storeAt 67 x123_1 x119_1) w fun _ w => S w ∧ (K Exit.normal (up (up (up (up (up (up (up (up (up (up (up (up (up (up (up (up ρ 108 (ρ 0)) 109 (ρ 0)) 110 (ρ 0)) 111 x111) 112 x112) 115 (ρ 0)) 116 x116) 117 x117) 113 x113) 118 x118_1) 114 x114_1) 119 x119_1) 120 x120_1) 121 x121_1) 122 x122_1) 123 x123_1) w)))))))) ∧ (VK Try.prog (Instr.loadAt 67 x117) w fun x118_2 w => S w ∧ (VK Try.prog (Instr.loadAt 66 x112) w fun x113_1 w => S w ∧ (CK Try.prog (Value.func (Fn.func 56) #[] #[]) [x113_1] w fun x114_2 w => S w ∧ (CK Try.prog (Value.func (Fn.func 57) #[] #[]) [x118_2] w fun x119_2 w => S w ∧ (HK Try.prog S (nilCk (ρ 0)) fun x120_2 => HK Try.prog S (do pure (Next.value (← Instr.fieldAt 69 x120_2 2))) fun x121_2 => UK Try.prog (Instr.storeAt 66 x121_2 x114_2) w fun _ w => S w ∧ (HK Try.prog S (nilCk (ρ 0)) fun x122_2 => HK Try.prog S (do pure (Next.value (← Instr.fieldAt 69 x122_2 3))) fun x123_2 => UK Try.prog (Instr.storeAt 67 x123_2 x119_2) w fun _ w => S w ∧ (K Exit.normal (up (up (up (up (up (up (up (up (up (up (up (up (up (up (up (up ρ 108 (ρ 0)) 109 (ρ 0)) 110 (ρ 0)) 111 x111) 112 x112) 115 (ρ 0)) 116 x116) 117 x117) 118 x118_2) 113 x113_1) 114 x114_2) 119 x119_2) 120 x120_2) 121 x121_2) 122 x122_2) 123 x123_2) w)))))))
theorem dispatcherlaw14_play_does_R10_held {D : List Deferred} (S : World → Prop) {K : Exit → Sl → World → Prop} {ρ : Sl} {w : World} (hS : S { w with drawn := w.drawn + 1 }) (h : dispatcherlaw14_play_does_R10_H S K ρ { w with drawn := w.drawn + 1 }) : W ⟨none, D⟩ Try.prog 150 dispatcherlaw14_play_does_R10 K ρ w := by
  have e : dispatcherlaw14_play_does_R10 = .region (idOf dispatcherlaw14_play_does_R10) dispatcherlaw14_play_does_R10_ops true := by kernel_rfl
  have q : sxd Try.prog S dispatcherlaw14_play_does_R10_ops (K .normal) (Pd.take 0 (Pd.take 1 (Pd.take 2 (Pd.take 3 (Pd.take 4 (Pd.take 7 (Pd.take 8 (Pd.take 9 (Pd.two false false 5 10 (Pd.two false false 6 10 (Pd.only false 10 (Pd.only false 11 (Pd.take 12 (Pd.take 13 (Pd.only false 14 (Pd.take 15 (Pd.take 16 (Pd.only false 17 Pd.done)))))))) (Pd.only false 6 (Pd.only false 11 (Pd.take 12 (Pd.take 13 (Pd.only false 14 (Pd.take 15 (Pd.take 16 (Pd.only false 17 Pd.done))))))))) (Pd.only false 5 (Pd.only false 6 (Pd.only false 11 (Pd.take 12 (Pd.take 13 (Pd.only false 14 (Pd.take 15 (Pd.take 16 (Pd.only false 17 Pd.done)))))))))))))))))) ρ { w with drawn := w.drawn + 1 } = dispatcherlaw14_play_does_R10_H S K ρ { w with drawn := w.drawn + 1 } := by kernel_rfl
  rw [e]
  exact W_pland S (Pd.take 0 (Pd.take 1 (Pd.take 2 (Pd.take 3 (Pd.take 4 (Pd.take 7 (Pd.take 8 (Pd.take 9 (Pd.two false false 5 10 (Pd.two false false 6 10 (Pd.only false 10 (Pd.only false 11 (Pd.take 12 (Pd.take 13 (Pd.only false 14 (Pd.take 15 (Pd.take 16 (Pd.only false 17 Pd.done)))))))) (Pd.only false 6 (Pd.only false 11 (Pd.take 12 (Pd.take 13 (Pd.only false 14 (Pd.take 15 (Pd.take 16 (Pd.only false 17 Pd.done))))))))) (Pd.only false 5 (Pd.only false 6 (Pd.only false 11 (Pd.take 12 (Pd.take 13 (Pd.only false 14 (Pd.take 15 (Pd.take 16 (Pd.only false 17 Pd.done)))))))))))))))))) (by kernel_rfl) (by kernel_rfl) (by kernel_rfl) (by kernel_rfl) hS (Eq.mpr q h)
noncomputable def dispatcherlaw14_play_does_R11_F (z : At) (K : Exit → Sl → World → Prop) (ρ : Sl) (w : World) : Prop :=
  VK Try.prog (Instr.fieldAt 48 (ρ 3) 1) w fun x125 w => VK Try.prog (Instr.fieldAt 39 x125 1) w fun x126 w => VK Try.prog (Instr.loadAt 3 x126) w fun x127 w => VK Try.prog (Instr.fieldAt 48 (ρ 3) 1) w fun x128 w => VK Try.prog (Instr.fieldAt 39 x128 3) w fun x129 w => VK Try.prog (Instr.loadAt 3 x129) w fun x130 w => CK Try.prog (Value.func (Fn.func 45) #[] #[]) [(ρ 5), x127, x130] w fun x131 w => VK Try.prog (Instr.fieldAt 48 (ρ 3) 2) w fun x133 w => VK Try.prog (Instr.fieldAt 24 x133 1) w fun x134 w => VK Try.prog (Instr.loadAt 3 x134) w fun x135 w => VK Try.prog (Instr.build 24 [(1, x135), (2, (Value.int .i64 1099511627776)), (3, (Value.int .i64 (-1))), (4, (Value.int .i64 (-1)))].toArray) w fun x136 w => CK Try.prog (Value.func (Fn.func 14) #[] #[]) [(ρ 6), x136] w fun x137 w => NK Try.prog (ρ 0) w fun x139 w => VK Try.prog (Instr.fieldAt 69 x139 0) w fun x140 w => VK Try.prog (Instr.loadAt 27 x140) w fun x141 w => BK Try.prog .neq 27 (.tmp 141) (.const (Value.pointer none)) x141 (Value.pointer none) w fun x142 w => MG Try.prog x142 true (ρ 0) w fun x144 w => NG Try.prog x142 true x144 w fun x145 w => VG Try.prog x142 true (Instr.fieldAt 69 x145 1) w fun x146 w => VG Try.prog x142 true (Instr.loadAt 28 x146) w fun x147 w => BG Try.prog x142 true .neq 28 (.tmp 147) (.const (Value.pointer none)) x147 (Value.pointer none) w fun x148 w => PK Try.prog x142 x148 (Value.bool false) w fun x149 w => K .ret (up (up (up (up (up (up (up (up (up (up (up (up (up (up (up (up (up (up (up (up (up (up (up (up (up (up (up ρ 124 (ρ 5)) 125 x125) 126 x126) 127 x127) 128 x128) 129 x129) 130 x130) 131 x131) 132 (ρ 6)) 133 x133) 134 x134) 135 x135) 136 x136) 137 x137) 138 (ρ 0)) 139 x139) 140 x140) 141 x141) 142 x142) 143 x142) 144 x144) 145 x145) 146 x146) 147 x147) 148 x148) 149 x149) 4 x149) w
theorem dispatcherlaw14_play_does_R11_eq (z : At) (K : Exit → Sl → World → Prop) (ρ : Sl) (w : World) : sx z Try.prog 150 dispatcherlaw14_play_does_R11 K ρ w = dispatcherlaw14_play_does_R11_F z K ρ w := by kernel_rfl
noncomputable def dispatcherlaw14_play_does_F (a0 a1 : Value) (w : World) (R : Value → World → Prop) : Prop :=
  VK Try.prog (Instr.box 48 a1) w fun x3 w => VK Try.prog (Instr.fieldAt 48 x3 0) w fun x7 w => VK Try.prog (Instr.loadAt 5 x7) w fun x8 w => BK Try.prog .rem 5 (.tmp 8) (.const (Value.int .u8 5)) x8 (Value.int .u8 5) w fun x9 w => BK Try.prog .eql 5 (.tmp 9) (.const (Value.int .u8 0)) x9 (Value.int .u8 0) w fun x11 w => CondK x11 (sx fn_ Try.prog 150 dispatcherlaw14_play_does_R0 (blkK 0 (seqK (sx fn_ Try.prog 150 dispatcherlaw14_play_does_R1 (retK Try.prog [ResultVar.tmp 4] R)) (retK Try.prog [ResultVar.tmp 4] R))) (up (up (up (up (up (up (up (rho0 [a0, a1]) 3 x3) 4 (Value.bool false)) 7 x7) 8 x8) 9 x9) 11 x11) 10 x11) w) (BK Try.prog .eql 5 (.tmp 9) (.const (Value.int .u8 1)) x9 (Value.int .u8 1) w fun x12 w => sx fn_ Try.prog 150 dispatcherlaw14_play_does_R0 (blkK 0 (seqK (sx fn_ Try.prog 150 dispatcherlaw14_play_does_R1 (retK Try.prog [ResultVar.tmp 4] R)) (retK Try.prog [ResultVar.tmp 4] R))) (up (up (up (up (up (up (up (up (up (rho0 [a0, a1]) 3 x3) 4 (Value.bool false)) 7 x7) 8 x8) 9 x9) 11 x11) 10 x11) 12 x12) 10 x12) w)
theorem dispatcherlaw14_play_does_eq (a0 a1 : Value) (w : World) (R : Value → World → Prop) : sx fn_ Try.prog 150 dispatcherlaw14_play_does_b (retK Try.prog Try.f30.results.toList R) (rho0 [a0, a1]) w = dispatcherlaw14_play_does_F a0 a1 w R := by kernel_rfl
theorem dispatcherlaw14_play_does_calls {a0 a1 : Value} {w : World} {R : Value → World → Prop} (h : dispatcherlaw14_play_does_F a0 a1 w R) : Calls Try.prog 30 #[a0, a1] w fun e w' => ∃ v, e = .returned v ∧ R v w' :=
  Go.X.calls_of_sx (n := 150) (c := dispatcherlaw14_play_does_b) Try.func30 (by kernel_rfl) (by kernel_rfl) (Nat.le_of_ble_eq_true rfl) (by kernel_rfl) (Eq.mpr (dispatcherlaw14_play_does_eq a0 a1 w R) h)
noncomputable def dispatcherref14_Posted_May_b : Code := (Try.f31.body).getD .skip
noncomputable def dispatcherref14_Posted_May_F (a0 a1 a2 a3 : Value) (w : World) (R : Value → World → Prop) : Prop :=
  CK Try.prog (Value.func (Fn.func 33) #[] #[]) [a0, a2, a3] w fun x15 w => VK Try.prog (Instr.extract x15 0) w fun x16 w => VK Try.prog (Instr.extract x15 1) w fun x17 w => VK Try.prog (Instr.alloc 24 true (.tuple #[])) w fun x9 w => UK Try.prog (Instr.storeAt 24 x9 x16) w fun _ w => VK Try.prog (Op.unary UnOp.not x17) w fun x19 w => VG Try.prog x19 false (Instr.fieldAt 24 x9 6) w fun x21 w => VG Try.prog x19 false (Instr.loadAt 4 x21) w fun x22 w => PK Try.prog x19 (Value.bool true) x22 w fun x23 w => CondK x23 (R (Value.slice none 0 0) w) (VK Try.prog (Instr.loadAt 24 x9) w fun x26 w => CK Try.prog (Value.func (Fn.func 58) #[] #[]) [a0, a1, x26, (Value.bool false)] w fun x27 w => R x27 w)
theorem dispatcherref14_Posted_May_eq (a0 a1 a2 a3 : Value) (w : World) (R : Value → World → Prop) : sx fn_ Try.prog 28 dispatcherref14_Posted_May_b (retK Try.prog Try.f31.results.toList R) (rho0 [a0, a1, a2, a3]) w = dispatcherref14_Posted_May_F a0 a1 a2 a3 w R := by kernel_rfl
theorem dispatcherref14_Posted_May_calls {a0 a1 a2 a3 : Value} {w : World} {R : Value → World → Prop} (h : dispatcherref14_Posted_May_F a0 a1 a2 a3 w R) : Calls Try.prog 31 #[a0, a1, a2, a3] w fun e w' => ∃ v, e = .returned v ∧ R v w' :=
  Go.X.calls_of_sx (n := 28) (c := dispatcherref14_Posted_May_b) Try.func31 (by kernel_rfl) (by kernel_rfl) (Nat.le_of_ble_eq_true rfl) (by kernel_rfl) (Eq.mpr (dispatcherref14_Posted_May_eq a0 a1 a2 a3 w R) h)
noncomputable def dispatcherref14_Posted_At_b : Code := (Try.f33.body).getD .skip
noncomputable def dispatcherref14_Posted_At_L0 : Code := cAt [1, 0, 1, 0, 0] dispatcherref14_Posted_At_b
noncomputable def dispatcherref14_Posted_At_R1 : Code := cAt [1, 1] dispatcherref14_Posted_At_b
noncomputable def dispatcherref14_Posted_At_R2 : Code := cAt [1, 0, 1, 0, 0, 1, 0, 0, 1] dispatcherref14_Posted_At_b
noncomputable def dispatcherref14_Posted_At_R3 : Code := cAt [1, 0, 1, 0, 0, 1, 1] dispatcherref14_Posted_At_b
noncomputable def dispatcherref14_Posted_At_L0_F (z : At) (K : Exit → Sl → World → Prop) (ρ : Sl) (w : World) : Prop :=
  NK Try.prog (ρ 0) w fun x11 w => VK Try.prog (Instr.fieldAt 71 x11 0) w fun x12 w => VK Try.prog (Instr.loadAt 41 x12) w fun x13 w => IK Try.prog .len #[41] 3 [false] [x13] w fun x14 w => BK Try.prog .lss 3 (.tmp 9) (.tmp 14) (ρ 8) x14 w fun x15 w => CondK x15 (NK Try.prog (ρ 0) w fun x19 w => VK Try.prog (Instr.fieldAt 71 x19 0) w fun x20 w => VK Try.prog (Instr.loadAt 41 x20) w fun x21 w => VK Try.prog (Instr.indexAt 41 x21 (ρ 8)) w fun x23 w => VK Try.prog (Instr.fieldAt 24 x23 1) w fun x24 w => VK Try.prog (Instr.loadAt 3 x24) w fun x25 w => BK Try.prog .eql 3 (.tmp 25) (.tmp 26) x25 (ρ 1) w fun x27 w => MG Try.prog x27 true (ρ 0) w fun x29 w => NG Try.prog x27 true x29 w fun x30 w => VG Try.prog x27 true (Instr.fieldAt 71 x30 0) w fun x31 w => VG Try.prog x27 true (Instr.loadAt 41 x31) w fun x32 w => MG Try.prog x27 true (ρ 8) w fun x33 w => VG Try.prog x27 true (Instr.indexAt 41 x32 x33) w fun x34 w => VG Try.prog x27 true (Instr.fieldAt 24 x34 2) w fun x35 w => VG Try.prog x27 true (Instr.loadAt 3 x35) w fun x36 w => MG Try.prog x27 true (ρ 2) w fun x37 w => BG Try.prog x27 true .eql 3 (.tmp 36) (.tmp 37) x36 x37 w fun x38 w => PK Try.prog x27 x38 (Value.bool false) w fun x39 w => sx z Try.prog 48 dispatcherref14_Posted_At_R2 (blkK 1 (seqK (sx z Try.prog 48 dispatcherref14_Posted_At_R3 K) K)) (up (up (up (up (up (up (up (up (up (up (up (up (up (up (up (up (up (up (up (up (up (up (up (up (up (up (up (up (up ρ 9 (ρ 8)) 10 (ρ 0)) 11 x11) 12 x12) 13 x13) 14 x14) 15 x15) 18 (ρ 0)) 19 x19) 20 x20) 21 x21) 22 (ρ 8)) 23 x23) 24 x24) 25 x25) 26 (ρ 1)) 27 x27) 28 x27) 29 x29) 30 x30) 31 x31) 32 x32) 33 x33) 34 x34) 35 x35) 36 x36) 37 x37) 38 x38) 39 x39) w) (K (.exit 0) (up (up (up (up (up (up (up ρ 9 (ρ 8)) 10 (ρ 0)) 11 x11) 12 x12) 13 x13) 14 x14) 15 x15) w)
theorem dispatcherref14_Posted_At_L0_eq (z : At) (K : Exit → Sl → World → Prop) (ρ : Sl) (w : World) : sx z Try.prog 48 dispatcherref14_Posted_At_L0 K ρ w = dispatcherref14_Posted_At_L0_F z K ρ w := by kernel_rfl
theorem dispatcherref14_Posted_At_L0_ok : dstOk 48 dispatcherref14_Posted_At_L0 = true := by kernel_rfl
noncomputable def dispatcherref14_Posted_At_R1_F (z : At) (K : Exit → Sl → World → Prop) (ρ : Sl) (w : World) : Prop :=
  VK Try.prog (Instr.build 24 [].toArray) w fun x47 w => UK Try.prog (Instr.storeAt 24 (ρ 6) x47) w fun _ w => K .ret (up (up ρ 47 x47) 7 (Value.bool false)) w
theorem dispatcherref14_Posted_At_R1_eq (z : At) (K : Exit → Sl → World → Prop) (ρ : Sl) (w : World) : sx z Try.prog 48 dispatcherref14_Posted_At_R1 K ρ w = dispatcherref14_Posted_At_R1_F z K ρ w := by kernel_rfl
noncomputable def dispatcherref14_Posted_At_R2_F (z : At) (K : Exit → Sl → World → Prop) (ρ : Sl) (w : World) : Prop :=
  CondK (ρ 39) (NK Try.prog (ρ 0) w fun x41 w => VK Try.prog (Instr.fieldAt 71 x41 0) w fun x42 w => VK Try.prog (Instr.loadAt 41 x42) w fun x43 w => VK Try.prog (Instr.indexAt 41 x43 (ρ 8)) w fun x45 w => VK Try.prog (Instr.loadAt 24 x45) w fun x46 w => UK Try.prog (Instr.storeAt 24 (ρ 6) x46) w fun _ w => K .ret (up (up (up (up (up (up (up (up ρ 40 (ρ 0)) 41 x41) 42 x42) 43 x43) 44 (ρ 8)) 45 x45) 46 x46) 7 (Value.bool true)) w) (K .normal ρ w)
theorem dispatcherref14_Posted_At_R2_eq (z : At) (K : Exit → Sl → World → Prop) (ρ : Sl) (w : World) : sx z Try.prog 48 dispatcherref14_Posted_At_R2 K ρ w = dispatcherref14_Posted_At_R2_F z K ρ w := by kernel_rfl
noncomputable def dispatcherref14_Posted_At_R3_F (z : At) (K : Exit → Sl → World → Prop) (ρ : Sl) (w : World) : Prop :=
  BK Try.prog .add 3 (.tmp 16) (.const (Value.int .i64 1)) (ρ 8) (Value.int .i64 1) w fun x17 w => K .normal (up (up (up ρ 16 (ρ 8)) 17 x17) 8 x17) w
theorem dispatcherref14_Posted_At_R3_eq (z : At) (K : Exit → Sl → World → Prop) (ρ : Sl) (w : World) : sx z Try.prog 48 dispatcherref14_Posted_At_R3 K ρ w = dispatcherref14_Posted_At_R3_F z K ρ w := by kernel_rfl
noncomputable def dispatcherref14_Posted_At_F (a0 a1 a2 : Value) (w : World) (R : Value → World → Prop) : Prop :=
  VK Try.prog (Instr.alloc 24 true (.tuple #[])) w fun x6 w => W fn_ Try.prog 48 (Code.loop dispatcherref14_Posted_At_L0) (blkK 0 (seqK (sx fn_ Try.prog 48 dispatcherref14_Posted_At_R1 (retK Try.prog [ResultVar.cell 6 24, ResultVar.tmp 7] R)) (retK Try.prog [ResultVar.cell 6 24, ResultVar.tmp 7] R))) (up (up (up (rho0 [a0, a1, a2]) 6 x6) 7 (Value.bool false)) 8 (Value.int .i64 0)) w
theorem dispatcherref14_Posted_At_eq (a0 a1 a2 : Value) (w : World) (R : Value → World → Prop) : sx fn_ Try.prog 48 dispatcherref14_Posted_At_b (retK Try.prog Try.f33.results.toList R) (rho0 [a0, a1, a2]) w = dispatcherref14_Posted_At_F a0 a1 a2 w R := by kernel_rfl
theorem dispatcherref14_Posted_At_calls {a0 a1 a2 : Value} {w : World} {R : Value → World → Prop} (h : dispatcherref14_Posted_At_F a0 a1 a2 w R) : Calls Try.prog 33 #[a0, a1, a2] w fun e w' => ∃ v, e = .returned v ∧ R v w' :=
  Go.X.calls_of_sx (n := 48) (c := dispatcherref14_Posted_At_b) Try.func33 (by kernel_rfl) (by kernel_rfl) (Nat.le_of_ble_eq_true rfl) (by kernel_rfl) (Eq.mpr (dispatcherref14_Posted_At_eq a0 a1 a2 w R) h)
noncomputable def dispatcherref14_Same_b : Code := (Try.f34.body).getD .skip
noncomputable def dispatcherref14_Same_L0 : Code := cAt [1, 1, 0, 1, 0, 0] dispatcherref14_Same_b
noncomputable def dispatcherref14_Same_R1 : Code := cAt [1, 1, 1] dispatcherref14_Same_b
noncomputable def dispatcherref14_Same_R2 : Code := cAt [1, 1, 0, 1, 0, 0, 1, 0, 0, 0] dispatcherref14_Same_b
noncomputable def dispatcherref14_Same_R3 : Code := cAt [1, 1, 0, 1, 0, 0, 1, 0, 0, 1] dispatcherref14_Same_b
noncomputable def dispatcherref14_Same_R4 : Code := cAt [1, 1, 0, 1, 0, 0, 1, 1] dispatcherref14_Same_b
noncomputable def dispatcherref14_Same_L0_F (z : At) (K : Exit → Sl → World → Prop) (ρ : Sl) (w : World) : Prop :=
  IK Try.prog .len #[41] 3 [false] [(ρ 0)] w fun x13 w => BK Try.prog .lss 3 (.tmp 11) (.tmp 13) (ρ 5) x13 w fun x14 w => CondK x14 (W z Try.prog 26 dispatcherref14_Same_R2 (seqK (sx z Try.prog 26 dispatcherref14_Same_R3 (blkK 1 (seqK (sx z Try.prog 26 dispatcherref14_Same_R4 K) K))) (blkK 1 (seqK (sx z Try.prog 26 dispatcherref14_Same_R4 K) K))) (up (up (up (up ρ 11 (ρ 5)) 12 (ρ 0)) 13 x13) 14 x14) w) (K (.exit 0) (up (up (up (up ρ 11 (ρ 5)) 12 (ρ 0)) 13 x13) 14 x14) w)
theorem dispatcherref14_Same_L0_eq (z : At) (K : Exit → Sl → World → Prop) (ρ : Sl) (w : World) : sx z Try.prog 26 dispatcherref14_Same_L0 K ρ w = dispatcherref14_Same_L0_F z K ρ w := by kernel_rfl
theorem dispatcherref14_Same_L0_ok : dstOk 26 dispatcherref14_Same_L0 = true := by kernel_rfl
noncomputable def dispatcherref14_Same_R1_F (z : At) (K : Exit → Sl → World → Prop) (ρ : Sl) (w : World) : Prop :=
  K .ret (up ρ 4 (Value.bool true)) w
theorem dispatcherref14_Same_R1_eq (z : At) (K : Exit → Sl → World → Prop) (ρ : Sl) (w : World) : sx z Try.prog 26 dispatcherref14_Same_R1 K ρ w = dispatcherref14_Same_R1_F z K ρ w := by kernel_rfl
noncomputable def dispatcherref14_Same_R2_ops : Array Oper := opsOf dispatcherref14_Same_R2
def dispatcherref14_Same_R2_Q (C : World → Prop) (K : Exit → Sl → World → Prop) (ρ : Sl) : Prop :=
  QK Try.prog C (do pure (Next.value (← Instr.indexAt 41 (ρ 0) (ρ 5)))) fun x19 => QK Try.prog C (do pure (Next.value (← Instr.loadAt 24 x19))) fun x20 => QK Try.prog C (do pure (Next.value (← Instr.indexAt 41 (ρ 1) (ρ 5)))) fun x23 => QK Try.prog C (do pure (Next.value (← Instr.loadAt 24 x23))) fun x24 => QK Try.prog C (do pure (Next.value (← (do eqGuard BinOp.neq 24 (Operand.tmp 20) (Operand.tmp 24) x20 x24; binOp BinOp.neq 24 x20 x24)))) fun x25 => ∀ w', C w' → K Exit.normal (up (up (up (up (up (up (up (up (up ρ 17 (ρ 0)) 18 (ρ 5)) 19 x19) 20 x20) 21 (ρ 1)) 22 (ρ 5)) 23 x23) 24 x24) 25 x25) w'
theorem dispatcherref14_Same_R2_quiet {D : List Deferred} (C : World → Prop) {K : Exit → Sl → World → Prop} {ρ : Sl} {w : World} (hC : C { w with drawn := w.drawn + 1 }) (h : dispatcherref14_Same_R2_Q C K ρ) : W ⟨none, D⟩ Try.prog 26 dispatcherref14_Same_R2 K ρ w := by
  have e : dispatcherref14_Same_R2 = .region (idOf dispatcherref14_Same_R2) dispatcherref14_Same_R2_ops true := by kernel_rfl
  have q : sxq Try.prog C dispatcherref14_Same_R2_ops (fun ρ' => ∀ w', C w' → K .normal ρ' w') dispatcherref14_Same_R2_ops.toList ρ = dispatcherref14_Same_R2_Q C K ρ := by kernel_rfl
  rw [e]
  exact W_quiet C (by kernel_rfl) (by kernel_rfl) (by kernel_rfl) hC (Eq.mpr q h)
noncomputable def dispatcherref14_Same_R3_F (z : At) (K : Exit → Sl → World → Prop) (ρ : Sl) (w : World) : Prop :=
  CondK (ρ 25) (K .ret (up ρ 4 (Value.bool false)) w) (K .normal ρ w)
theorem dispatcherref14_Same_R3_eq (z : At) (K : Exit → Sl → World → Prop) (ρ : Sl) (w : World) : sx z Try.prog 26 dispatcherref14_Same_R3 K ρ w = dispatcherref14_Same_R3_F z K ρ w := by kernel_rfl
noncomputable def dispatcherref14_Same_R4_F (z : At) (K : Exit → Sl → World → Prop) (ρ : Sl) (w : World) : Prop :=
  BK Try.prog .add 3 (.tmp 15) (.const (Value.int .i64 1)) (ρ 5) (Value.int .i64 1) w fun x16 w => K .normal (up (up (up ρ 15 (ρ 5)) 16 x16) 5 x16) w
theorem dispatcherref14_Same_R4_eq (z : At) (K : Exit → Sl → World → Prop) (ρ : Sl) (w : World) : sx z Try.prog 26 dispatcherref14_Same_R4 K ρ w = dispatcherref14_Same_R4_F z K ρ w := by kernel_rfl
noncomputable def dispatcherref14_Same_F (a0 a1 : Value) (w : World) (R : Value → World → Prop) : Prop :=
  IK Try.prog .len #[41] 3 [false] [a0] w fun x7 w => IK Try.prog .len #[41] 3 [false] [a1] w fun x9 w => BK Try.prog .neq 3 (.tmp 7) (.tmp 9) x7 x9 w fun x10 w => CondK x10 (R (Value.bool false) w) (W fn_ Try.prog 26 (Code.loop dispatcherref14_Same_L0) (blkK 0 (seqK (sx fn_ Try.prog 26 dispatcherref14_Same_R1 (retK Try.prog [ResultVar.tmp 4] R)) (retK Try.prog [ResultVar.tmp 4] R))) (up (up (up (up (up (up (up (rho0 [a0, a1]) 4 (Value.bool false)) 6 a0) 7 x7) 8 a1) 9 x9) 10 x10) 5 (Value.int .i64 0)) w)
theorem dispatcherref14_Same_eq (a0 a1 : Value) (w : World) (R : Value → World → Prop) : sx fn_ Try.prog 26 dispatcherref14_Same_b (retK Try.prog Try.f34.results.toList R) (rho0 [a0, a1]) w = dispatcherref14_Same_F a0 a1 w R := by kernel_rfl
theorem dispatcherref14_Same_calls {a0 a1 : Value} {w : World} {R : Value → World → Prop} (h : dispatcherref14_Same_F a0 a1 w R) : Calls Try.prog 34 #[a0, a1] w fun e w' => ∃ v, e = .returned v ∧ R v w' :=
  Go.X.calls_of_sx (n := 26) (c := dispatcherref14_Same_b) Try.func34 (by kernel_rfl) (by kernel_rfl) (Nat.le_of_ble_eq_true rfl) (by kernel_rfl) (Eq.mpr (dispatcherref14_Same_eq a0 a1 w R) h)
noncomputable def dispatcherref14_Posted_Waiting_b : Code := (Try.f35.body).getD .skip
noncomputable def dispatcherref14_Posted_Waiting_L0 : Code := cAt [1, 1, 0, 1, 0, 0] dispatcherref14_Posted_Waiting_b
noncomputable def dispatcherref14_Posted_Waiting_R1 : Code := cAt [1, 1, 1] dispatcherref14_Posted_Waiting_b
noncomputable def dispatcherref14_Posted_Waiting_R2 : Code := cAt [1, 1, 0, 1, 0, 0, 1, 1] dispatcherref14_Posted_Waiting_b
noncomputable def dispatcherref14_Posted_Waiting_R3 : Code := cAt [1, 1, 0, 1, 0, 0, 1, 0, 0, 1] dispatcherref14_Posted_Waiting_b
noncomputable def dispatcherref14_Posted_Waiting_L0_F (z : At) (K : Exit → Sl → World → Prop) (ρ : Sl) (w : World) : Prop :=
  NK Try.prog (ρ 0) w fun x9 w => VK Try.prog (Instr.fieldAt 71 x9 0) w fun x10 w => VK Try.prog (Instr.loadAt 41 x10) w fun x11 w => IK Try.prog .len #[41] 3 [false] [x11] w fun x12 w => BK Try.prog .lss 3 (.tmp 7) (.tmp 12) (ρ 6) x12 w fun x13 w => CondK x13 (NK Try.prog (ρ 0) w fun x17 w => VK Try.prog (Instr.fieldAt 71 x17 0) w fun x18 w => VK Try.prog (Instr.loadAt 41 x18) w fun x19 w => VK Try.prog (Instr.indexAt 41 x19 (ρ 6)) w fun x21 w => VK Try.prog (Instr.fieldAt 24 x21 1) w fun x22 w => VK Try.prog (Instr.loadAt 3 x22) w fun x23 w => BK Try.prog .eql 3 (.tmp 23) (.tmp 24) x23 (ρ 1) w fun x25 w => MG Try.prog x25 true (ρ 0) w fun x27 w => NG Try.prog x25 true x27 w fun x28 w => VG Try.prog x25 true (Instr.fieldAt 71 x28 0) w fun x29 w => VG Try.prog x25 true (Instr.loadAt 41 x29) w fun x30 w => MG Try.prog x25 true (ρ 6) w fun x31 w => VG Try.prog x25 true (Instr.indexAt 41 x30 x31) w fun x32 w => VG Try.prog x25 true (Instr.fieldAt 24 x32 6) w fun x33 w => VG Try.prog x25 true (Instr.loadAt 4 x33) w fun x34 w => VG Try.prog x25 true (Op.unary UnOp.not x34) w fun x35 w => PK Try.prog x25 x35 (Value.bool false) w fun x36 w => sx z Try.prog 48 dispatcherref14_Posted_Waiting_R3 (blkK 1 (seqK (sx z Try.prog 48 dispatcherref14_Posted_Waiting_R2 K) K)) (up (up (up (up (up (up (up (up (up (up (up (up (up (up (up (up (up (up (up (up (up (up (up (up (up (up (up (up ρ 7 (ρ 6)) 8 (ρ 0)) 9 x9) 10 x10) 11 x11) 12 x12) 13 x13) 16 (ρ 0)) 17 x17) 18 x18) 19 x19) 20 (ρ 6)) 21 x21) 22 x22) 23 x23) 24 (ρ 1)) 25 x25) 26 x25) 27 x27) 28 x28) 29 x29) 30 x30) 31 x31) 32 x32) 33 x33) 34 x34) 35 x35) 36 x36) w) (K (.exit 0) (up (up (up (up (up (up (up ρ 7 (ρ 6)) 8 (ρ 0)) 9 x9) 10 x10) 11 x11) 12 x12) 13 x13) w)
theorem dispatcherref14_Posted_Waiting_L0_eq (z : At) (K : Exit → Sl → World → Prop) (ρ : Sl) (w : World) : sx z Try.prog 48 dispatcherref14_Posted_Waiting_L0 K ρ w = dispatcherref14_Posted_Waiting_L0_F z K ρ w := by kernel_rfl
theorem dispatcherref14_Posted_Waiting_L0_ok : dstOk 48 dispatcherref14_Posted_Waiting_L0 = true := by kernel_rfl
noncomputable def dispatcherref14_Posted_Waiting_R1_F (z : At) (K : Exit → Sl → World → Prop) (ρ : Sl) (w : World) : Prop :=
  K .ret (up (up ρ 47 (ρ 5)) 4 (ρ 5)) w
theorem dispatcherref14_Posted_Waiting_R1_eq (z : At) (K : Exit → Sl → World → Prop) (ρ : Sl) (w : World) : sx z Try.prog 48 dispatcherref14_Posted_Waiting_R1 K ρ w = dispatcherref14_Posted_Waiting_R1_F z K ρ w := by kernel_rfl
noncomputable def dispatcherref14_Posted_Waiting_R2_F (z : At) (K : Exit → Sl → World → Prop) (ρ : Sl) (w : World) : Prop :=
  BK Try.prog .add 3 (.tmp 14) (.const (Value.int .i64 1)) (ρ 6) (Value.int .i64 1) w fun x15 w => K .normal (up (up (up ρ 14 (ρ 6)) 15 x15) 6 x15) w
theorem dispatcherref14_Posted_Waiting_R2_eq (z : At) (K : Exit → Sl → World → Prop) (ρ : Sl) (w : World) : sx z Try.prog 48 dispatcherref14_Posted_Waiting_R2 K ρ w = dispatcherref14_Posted_Waiting_R2_F z K ρ w := by kernel_rfl
noncomputable def dispatcherref14_Posted_Waiting_R3_F (z : At) (K : Exit → Sl → World → Prop) (ρ : Sl) (w : World) : Prop :=
  CondK (ρ 36) (NK Try.prog (ρ 0) w fun x39 w => VK Try.prog (Instr.fieldAt 71 x39 0) w fun x40 w => VK Try.prog (Instr.loadAt 41 x40) w fun x41 w => VK Try.prog (Instr.indexAt 41 x41 (ρ 6)) w fun x43 w => VK Try.prog (Instr.loadAt 24 x43) w fun x44 w => VK Try.prog (Instr.buildSlice 41 1 [(0, x44)].toArray) w fun x45 w => IK Try.prog .append #[41, 41] 41 [false, false] [(ρ 5), x45] w fun x46 w => K .normal (up (up (up (up (up (up (up (up (up (up (up ρ 37 (ρ 5)) 38 (ρ 0)) 39 x39) 40 x40) 41 x41) 42 (ρ 6)) 43 x43) 44 x44) 45 x45) 46 x46) 5 x46) w) (K .normal ρ w)
theorem dispatcherref14_Posted_Waiting_R3_eq (z : At) (K : Exit → Sl → World → Prop) (ρ : Sl) (w : World) : sx z Try.prog 48 dispatcherref14_Posted_Waiting_R3 K ρ w = dispatcherref14_Posted_Waiting_R3_F z K ρ w := by kernel_rfl
noncomputable def dispatcherref14_Posted_Waiting_F (a0 a1 : Value) (w : World) (R : Value → World → Prop) : Prop :=
  W fn_ Try.prog 48 (Code.loop dispatcherref14_Posted_Waiting_L0) (blkK 0 (seqK (sx fn_ Try.prog 48 dispatcherref14_Posted_Waiting_R1 (retK Try.prog [ResultVar.tmp 4] R)) (retK Try.prog [ResultVar.tmp 4] R))) (up (up (up (rho0 [a0, a1]) 4 (Value.slice none 0 0)) 5 (Value.slice none 0 0)) 6 (Value.int .i64 0)) w
theorem dispatcherref14_Posted_Waiting_eq (a0 a1 : Value) (w : World) (R : Value → World → Prop) : sx fn_ Try.prog 48 dispatcherref14_Posted_Waiting_b (retK Try.prog Try.f35.results.toList R) (rho0 [a0, a1]) w = dispatcherref14_Posted_Waiting_F a0 a1 w R := by kernel_rfl
theorem dispatcherref14_Posted_Waiting_calls {a0 a1 : Value} {w : World} {R : Value → World → Prop} (h : dispatcherref14_Posted_Waiting_F a0 a1 w R) : Calls Try.prog 35 #[a0, a1] w fun e w' => ∃ v, e = .returned v ∧ R v w' :=
  Go.X.calls_of_sx (n := 48) (c := dispatcherref14_Posted_Waiting_b) Try.func35 (by kernel_rfl) (by kernel_rfl) (Nat.le_of_ble_eq_true rfl) (by kernel_rfl) (Eq.mpr (dispatcherref14_Posted_Waiting_eq a0 a1 w R) h)
noncomputable def dispatcherref14_Fits_b : Code := (Try.f38.body).getD .skip
noncomputable def dispatcherref14_Fits_F (a0 a1 : Value) (w : World) (R : Value → World → Prop) : Prop :=
  VK Try.prog (Instr.box 24 a0) w fun x2 w => VK Try.prog (Instr.box 39 a1) w fun x3 w => VK Try.prog (Instr.fieldAt 24 x2 0) w fun x5 w => VK Try.prog (Instr.loadAt 9 x5) w fun x6 w => VK Try.prog (Instr.fieldAt 39 x3 0) w fun x7 w => VK Try.prog (Instr.loadAt 9 x7) w fun x8 w => BK Try.prog .neq 9 (.tmp 6) (.tmp 8) x6 x8 w fun x9 w => VG Try.prog x9 false (Instr.fieldAt 24 x2 1) w fun x11 w => VG Try.prog x9 false (Instr.loadAt 3 x11) w fun x12 w => VG Try.prog x9 false (Instr.fieldAt 39 x3 2) w fun x13 w => VG Try.prog x9 false (Instr.loadAt 3 x13) w fun x14 w => BG Try.prog x9 false .neq 3 (.tmp 12) (.tmp 14) x12 x14 w fun x15 w => PK Try.prog x9 (Value.bool true) x15 w fun x16 w => CondK x16 (R (Value.bool false) w) (VK Try.prog (Instr.fieldAt 24 x2 3) w fun x17 w => VK Try.prog (Instr.loadAt 3 x17) w fun x18 w => BK Try.prog .eql 3 (.tmp 18) (.const (Value.int .i64 (-1))) x18 (Value.int .i64 (-1)) w fun x19 w => VG Try.prog x19 false (Instr.fieldAt 24 x2 3) w fun x21 w => VG Try.prog x19 false (Instr.loadAt 3 x21) w fun x22 w => VG Try.prog x19 false (Instr.fieldAt 39 x3 1) w fun x23 w => VG Try.prog x19 false (Instr.loadAt 3 x23) w fun x24 w => BG Try.prog x19 false .eql 3 (.tmp 22) (.tmp 24) x22 x24 w fun x25 w => PK Try.prog x19 (Value.bool true) x25 w fun x26 w => VG Try.prog x26 true (Instr.fieldAt 24 x2 4) w fun x28 w => VG Try.prog x26 true (Instr.loadAt 3 x28) w fun x29 w => BG Try.prog x26 true .eql 3 (.tmp 29) (.const (Value.int .i64 (-1))) x29 (Value.int .i64 (-1)) w fun x30 w => MG Try.prog x26 true x30 w fun x31 w => VG Try.prog x31 false (Instr.fieldAt 24 x2 4) w fun x32 w => VG Try.prog x31 false (Instr.loadAt 3 x32) w fun x33 w => VG Try.prog x31 false (Instr.fieldAt 39 x3 4) w fun x34 w => VG Try.prog x31 false (Instr.loadAt 3 x34) w fun x35 w => BG Try.prog x31 false .eql 3 (.tmp 33) (.tmp 35) x33 x35 w fun x36 w => PG Try.prog x26 true x31 (Value.bool true) x36 w fun x37 w => PK Try.prog x26 x37 (Value.bool false) w fun x38 w => R x38 w)
theorem dispatcherref14_Fits_eq (a0 a1 : Value) (w : World) (R : Value → World → Prop) : sx fn_ Try.prog 39 dispatcherref14_Fits_b (retK Try.prog Try.f38.results.toList R) (rho0 [a0, a1]) w = dispatcherref14_Fits_F a0 a1 w R := by kernel_rfl
theorem dispatcherref14_Fits_calls {a0 a1 : Value} {w : World} {R : Value → World → Prop} (h : dispatcherref14_Fits_F a0 a1 w R) : Calls Try.prog 38 #[a0, a1] w fun e w' => ∃ v, e = .returned v ∧ R v w' :=
  Go.X.calls_of_sx (n := 39) (c := dispatcherref14_Fits_b) Try.func38 (by kernel_rfl) (by kernel_rfl) (Nat.le_of_ble_eq_true rfl) (by kernel_rfl) (Eq.mpr (dispatcherref14_Fits_eq a0 a1 w R) h)
noncomputable def posted_free_b : Code := (Try.f39.body).getD .skip
noncomputable def posted_free_L0 : Code := cAt [1, 1, 1, 0, 1, 0, 0] posted_free_b
noncomputable def posted_free_R1 : Code := cAt [1, 1, 1, 1] posted_free_b
noncomputable def posted_free_R2 : Code := cAt [1, 1, 1, 0, 1, 0, 0, 1, 1, 1] posted_free_b
noncomputable def posted_free_R3 : Code := cAt [1, 1, 1, 0, 1, 0, 0, 1, 1, 0, 0, 1, 1, 1] posted_free_b
noncomputable def posted_free_L0_F (z : At) (K : Exit → Sl → World → Prop) (ρ : Sl) (w : World) : Prop :=
  BK Try.prog .lss 3 (.tmp 23) (.tmp 22) (ρ 23) (ρ 22) w fun x24 w => CondK x24 (VK Try.prog (Instr.indexAt 107 (ρ 21) (ρ 23)) w fun x25 w => VK Try.prog (Instr.loadAt 3 x25) w fun x26 w => VK Try.prog (Instr.fieldAt 24 (ρ 4) 3) w fun x27 w => VK Try.prog (Instr.loadAt 3 x27) w fun x28 w => BK Try.prog .neq 3 (.tmp 28) (.const (Value.int .i64 (-1))) x28 (Value.int .i64 (-1)) w fun x29 w => VG Try.prog x29 true (Instr.fieldAt 24 (ρ 4) 3) w fun x31 w => VG Try.prog x29 true (Instr.loadAt 3 x31) w fun x32 w => MG Try.prog x29 true x26 w fun x33 w => BG Try.prog x29 true .neq 3 (.tmp 32) (.tmp 33) x32 x33 w fun x34 w => PK Try.prog x29 x34 (Value.bool false) w fun x35 w => CondK x35 (sx z Try.prog 62 posted_free_R2 K (up (up (up (up (up (up (up (up (up (up (up (up (up ρ 24 x24) 25 x25) 26 x26) 10 x26) 27 x27) 28 x28) 29 x29) 30 x29) 31 x31) 32 x32) 33 x33) 34 x34) 35 x35) w) (VK Try.prog (Instr.fieldAt 24 (ρ 4) 0) w fun x38 w => VK Try.prog (Instr.loadAt 9 x38) w fun x39 w => VK Try.prog (Instr.fieldAt 24 (ρ 4) 1) w fun x41 w => VK Try.prog (Instr.loadAt 3 x41) w fun x42 w => VK Try.prog (Instr.fieldAt 24 (ρ 4) 4) w fun x43 w => VK Try.prog (Instr.loadAt 3 x43) w fun x44 w => CK Try.prog (Value.func (Fn.func 63) #[] #[]) [(ρ 0), x39, x26, x42, x44] w fun x45 w => VK Try.prog (Instr.extract x45 0) w fun x46 w => VK Try.prog (Instr.extract x45 1) w fun x47 w => VK Try.prog (Instr.alloc 39 true (.tuple #[])) w fun x11 w => UK Try.prog (Instr.storeAt 39 x11 x46) w fun _ w => sx z Try.prog 62 posted_free_R3 (blkK 1 (seqK (sx z Try.prog 62 posted_free_R2 K) K)) (up (up (up (up (up (up (up (up (up (up (up (up (up (up (up (up (up (up (up (up (up (up (up (up (up (up (up ρ 24 x24) 25 x25) 26 x26) 10 x26) 27 x27) 28 x28) 29 x29) 30 x29) 31 x31) 32 x32) 33 x33) 34 x34) 35 x35) 37 (ρ 0)) 38 x38) 39 x39) 40 x26) 41 x41) 42 x42) 43 x43) 44 x44) 45 x45) 36 x45) 46 x46) 47 x47) 11 x11) 12 x47) w)) (K (.exit 0) (up ρ 24 x24) w)
theorem posted_free_L0_eq (z : At) (K : Exit → Sl → World → Prop) (ρ : Sl) (w : World) : sx z Try.prog 62 posted_free_L0 K ρ w = posted_free_L0_F z K ρ w := by kernel_rfl
theorem posted_free_L0_ok : dstOk 62 posted_free_L0 = true := by kernel_rfl
noncomputable def posted_free_R1_F (z : At) (K : Exit → Sl → World → Prop) (ρ : Sl) (w : World) : Prop :=
  K .ret (up (up ρ 61 (ρ 7)) 6 (ρ 7)) w
theorem posted_free_R1_eq (z : At) (K : Exit → Sl → World → Prop) (ρ : Sl) (w : World) : sx z Try.prog 62 posted_free_R1 K ρ w = posted_free_R1_F z K ρ w := by kernel_rfl
noncomputable def posted_free_R2_F (z : At) (K : Exit → Sl → World → Prop) (ρ : Sl) (w : World) : Prop :=
  BK Try.prog .add 3 (.tmp 23) (.const (Value.int .i64 1)) (ρ 23) (Value.int .i64 1) w fun x60 w => K .normal (up (up ρ 60 x60) 23 x60) w
theorem posted_free_R2_eq (z : At) (K : Exit → Sl → World → Prop) (ρ : Sl) (w : World) : sx z Try.prog 62 posted_free_R2 K ρ w = posted_free_R2_F z K ρ w := by kernel_rfl
noncomputable def posted_free_R3_F (z : At) (K : Exit → Sl → World → Prop) (ρ : Sl) (w : World) : Prop :=
  VK Try.prog (Instr.makeFunc (Fn.func 65) [].toArray [(ρ 11)].toArray) w fun x49 w => CK Try.prog (Value.func (Fn.func 64) #[] #[]) [(ρ 8), x49] w fun x50 w => MG Try.prog (ρ 12) true x50 w fun x53 w => VG Try.prog (ρ 12) true (Op.unary UnOp.not x53) w fun x54 w => PK Try.prog (ρ 12) x54 (Value.bool false) w fun x55 w => CondK x55 (VK Try.prog (Instr.loadAt 39 (ρ 11)) w fun x57 w => VK Try.prog (Instr.buildSlice 31 1 [(0, x57)].toArray) w fun x58 w => IK Try.prog .append #[31, 31] 31 [false, false] [(ρ 7), x58] w fun x59 w => K .normal (up (up (up (up (up (up (up (up (up (up (up (up (up (up ρ 48 (ρ 8)) 49 x49) 50 x50) 13 x50) 51 (ρ 12)) 52 (ρ 12)) 53 x53) 54 x54) 55 x55) 56 (ρ 7)) 57 x57) 58 x58) 59 x59) 7 x59) w) (K .normal (up (up (up (up (up (up (up (up (up ρ 48 (ρ 8)) 49 x49) 50 x50) 13 x50) 51 (ρ 12)) 52 (ρ 12)) 53 x53) 54 x54) 55 x55) w)
theorem posted_free_R3_eq (z : At) (K : Exit → Sl → World → Prop) (ρ : Sl) (w : World) : sx z Try.prog 62 posted_free_R3 K ρ w = posted_free_R3_F z K ρ w := by kernel_rfl
noncomputable def posted_free_F (a0 a1 a2 : Value) (w : World) (R : Value → World → Prop) : Prop :=
  VK Try.prog (Instr.box 24 a1) w fun x4 w => CK Try.prog (Value.func (Fn.func 46) #[] #[]) [a2, (Value.func (Fn.func 47) #[] #[])] w fun x15 w => VK Try.prog (Instr.fieldAt 24 x4 0) w fun x17 w => VK Try.prog (Instr.loadAt 9 x17) w fun x18 w => VK Try.prog (Instr.fieldAt 24 x4 1) w fun x19 w => VK Try.prog (Instr.loadAt 3 x19) w fun x20 w => CK Try.prog (Value.func (Fn.func 62) #[] #[]) [a0, x18, x20] w fun x21 w => IK Try.prog .len #[107] 3 [false] [x21] w fun x22 w => W fn_ Try.prog 62 (Code.loop posted_free_L0) (blkK 0 (seqK (sx fn_ Try.prog 62 posted_free_R1 (retK Try.prog [ResultVar.tmp 6] R)) (retK Try.prog [ResultVar.tmp 6] R))) (up (up (up (up (up (up (up (up (up (up (up (up (up (up (rho0 [a0, a1, a2]) 4 x4) 6 (Value.slice none 0 0)) 7 (Value.slice none 0 0)) 14 a2) 15 x15) 8 x15) 16 a0) 17 x17) 18 x18) 19 x19) 20 x20) 21 x21) 22 x22) 23 (Value.int .i64 0)) w
theorem posted_free_eq (a0 a1 a2 : Value) (w : World) (R : Value → World → Prop) : sx fn_ Try.prog 62 posted_free_b (retK Try.prog Try.f39.results.toList R) (rho0 [a0, a1, a2]) w = posted_free_F a0 a1 a2 w R := by kernel_rfl
theorem posted_free_calls {a0 a1 a2 : Value} {w : World} {R : Value → World → Prop} (h : posted_free_F a0 a1 a2 w R) : Calls Try.prog 39 #[a0, a1, a2] w fun e w' => ∃ v, e = .returned v ∧ R v w' :=
  Go.X.calls_of_sx (n := 62) (c := posted_free_b) Try.func39 (by kernel_rfl) (by kernel_rfl) (Nat.le_of_ble_eq_true rfl) (by kernel_rfl) (Eq.mpr (posted_free_eq a0 a1 a2 w R) h)
noncomputable def posted_Posted_of_b : Code := (Try.f40.body).getD .skip
noncomputable def posted_Posted_of_F (a0 a1 : Value) (w : World) (R : Value → World → Prop) : Prop :=
  BK Try.prog .eql 28 (.tmp 5) (.const (Value.pointer none)) a0 (Value.pointer none) w fun x6 w => MG Try.prog x6 false a0 w fun x8 w => NG Try.prog x6 false x8 w fun x9 w => VG Try.prog x6 false (Instr.fieldAt 61 x9 0) w fun x10 w => VG Try.prog x6 false (Instr.loadAt 4 x10) w fun x11 w => VG Try.prog x6 false (Op.unary UnOp.not x11) w fun x12 w => PK Try.prog x6 (Value.bool true) x12 w fun x13 w => MG Try.prog x13 false a1 w fun x15 w => CG Try.prog x13 false (Value.func (Fn.func 41) #[] #[]) [x15, (Value.int .i64 0), (Value.int .i64 63)] w fun x16 w => VG Try.prog x13 false (Op.unary UnOp.not x16) w fun x17 w => PK Try.prog x13 (Value.bool true) x17 w fun x18 w => CondK x18 (R (Value.slice none 0 0) w) (NK Try.prog a0 w fun x21 w => VK Try.prog (Instr.fieldAt 61 x21 1) w fun x22 w => VK Try.prog (Instr.indexAt 59 x22 a1) w fun x23 w => VK Try.prog (Instr.loadAt 41 x23) w fun x24 w => R x24 w)
theorem posted_Posted_of_eq (a0 a1 : Value) (w : World) (R : Value → World → Prop) : sx fn_ Try.prog 25 posted_Posted_of_b (retK Try.prog Try.f40.results.toList R) (rho0 [a0, a1]) w = posted_Posted_of_F a0 a1 w R := by kernel_rfl
theorem posted_Posted_of_calls {a0 a1 : Value} {w : World} {R : Value → World → Prop} (h : posted_Posted_of_F a0 a1 w R) : Calls Try.prog 40 #[a0, a1] w fun e w' => ∃ v, e = .returned v ∧ R v w' :=
  Go.X.calls_of_sx (n := 25) (c := posted_Posted_of_b) Try.func40 (by kernel_rfl) (by kernel_rfl) (Nat.le_of_ble_eq_true rfl) (by kernel_rfl) (Eq.mpr (posted_Posted_of_eq a0 a1 w R) h)
noncomputable def posted_in_b : Code := (Try.f41.body).getD .skip
noncomputable def posted_in_F (a0 a1 a2 : Value) (w : World) (R : Value → World → Prop) : Prop :=
  BK Try.prog .geq 3 (.tmp 7) (.tmp 8) a0 a1 w fun x9 w => MG Try.prog x9 true a0 w fun x11 w => MG Try.prog x9 true a2 w fun x12 w => BG Try.prog x9 true .leq 3 (.tmp 11) (.tmp 12) x11 x12 w fun x13 w => PK Try.prog x9 x13 (Value.bool false) w fun x14 w => R x14 w
theorem posted_in_eq (a0 a1 a2 : Value) (w : World) (R : Value → World → Prop) : sx fn_ Try.prog 15 posted_in_b (retK Try.prog Try.f41.results.toList R) (rho0 [a0, a1, a2]) w = posted_in_F a0 a1 a2 w R := by kernel_rfl
theorem posted_in_calls {a0 a1 a2 : Value} {w : World} {R : Value → World → Prop} (h : posted_in_F a0 a1 a2 w R) : Calls Try.prog 41 #[a0, a1, a2] w fun e w' => ∃ v, e = .returned v ∧ R v w' :=
  Go.X.calls_of_sx (n := 15) (c := posted_in_b) Try.func41 (by kernel_rfl) (by kernel_rfl) (Nat.le_of_ble_eq_true rfl) (by kernel_rfl) (Eq.mpr (posted_in_eq a0 a1 a2 w R) h)
noncomputable def posted_Posted_place_b : Code := (Try.f42.body).getD .skip
noncomputable def posted_Posted_place_F (a0 a1 a2 : Value) (w : World) (R : Value → World → Prop) : Prop :=
  VK Try.prog (Instr.box 3 a2) w fun x5 w => CK Try.prog (Value.func (Fn.func 40) #[] #[]) [a0, a1] w fun x9 w => VK Try.prog (Instr.makeFunc (Fn.func 67) [].toArray [x5].toArray) w fun x10 w => CK Try.prog (Value.func (Fn.func 66) #[] #[]) [x9, x10] w fun x11 w => R x11 w
theorem posted_Posted_place_eq (a0 a1 a2 : Value) (w : World) (R : Value → World → Prop) : sx fn_ Try.prog 12 posted_Posted_place_b (retK Try.prog Try.f42.results.toList R) (rho0 [a0, a1, a2]) w = posted_Posted_place_F a0 a1 a2 w R := by kernel_rfl
theorem posted_Posted_place_calls {a0 a1 a2 : Value} {w : World} {R : Value → World → Prop} (h : posted_Posted_place_F a0 a1 a2 w R) : Calls Try.prog 42 #[a0, a1, a2] w fun e w' => ∃ v, e = .returned v ∧ R v w' :=
  Go.X.calls_of_sx (n := 12) (c := posted_Posted_place_b) Try.func42 (by kernel_rfl) (by kernel_rfl) (Nat.le_of_ble_eq_true rfl) (by kernel_rfl) (Eq.mpr (posted_Posted_place_eq a0 a1 a2 w R) h)
noncomputable def posted_Posted_Match_1_b : Code := (Try.f43.body).getD .skip
noncomputable def posted_Posted_Match_1_F (a0 a1 a2 : Value) (w : World) (R : Value → World → Prop) : Prop :=
  VK Try.prog (Instr.box 39 a0) w fun x3 w => VK Try.prog (Instr.fieldAt 39 x3 1) w fun x5 w => VK Try.prog (Instr.loadAt 3 x5) w fun x6 w => VK Try.prog (Instr.loadAt 3 a1) w fun x7 w => BK Try.prog .eql 3 (.tmp 6) (.tmp 7) x6 x7 w fun x8 w => VG Try.prog x8 true (Instr.fieldAt 39 x3 3) w fun x10 w => VG Try.prog x8 true (Instr.loadAt 3 x10) w fun x11 w => VG Try.prog x8 true (Instr.loadAt 3 a2) w fun x12 w => BG Try.prog x8 true .eql 3 (.tmp 11) (.tmp 12) x11 x12 w fun x13 w => PK Try.prog x8 x13 (Value.bool false) w fun x14 w => R x14 w
theorem posted_Posted_Match_1_eq (a0 a1 a2 : Value) (w : World) (R : Value → World → Prop) : sx fn_ Try.prog 15 posted_Posted_Match_1_b (retK Try.prog Try.f43.results.toList R) (rho0 [a0, a1, a2]) w = posted_Posted_Match_1_F a0 a1 a2 w R := by kernel_rfl
theorem posted_Posted_Match_1_calls {a0 a1 a2 : Value} {w : World} {R : Value → World → Prop} (h : posted_Posted_Match_1_F a0 a1 a2 w R) : Calls Try.prog 43 #[a0, a1, a2] w fun e w' => ∃ v, e = .returned v ∧ R v w' :=
  Go.X.calls_of_sx (n := 15) (c := posted_Posted_Match_1_b) Try.func43 (by kernel_rfl) (by kernel_rfl) (Nat.le_of_ble_eq_true rfl) (by kernel_rfl) (Eq.mpr (posted_Posted_Match_1_eq a0 a1 a2 w R) h)
noncomputable def posted_kept_posted_Receive_b : Code := (Try.f46.body).getD .skip
noncomputable def posted_kept_posted_Receive_L0 : Code := cAt [1, 1, 0, 1, 0, 0] posted_kept_posted_Receive_b
noncomputable def posted_kept_posted_Receive_R1 : Code := cAt [1, 1, 1] posted_kept_posted_Receive_b
noncomputable def posted_kept_posted_Receive_R2 : Code := cAt [1, 1, 0, 1, 0, 0, 1, 1, 1] posted_kept_posted_Receive_b
noncomputable def posted_kept_posted_Receive_L0_F (z : At) (K : Exit → Sl → World → Prop) (ρ : Sl) (w : World) : Prop :=
  BK Try.prog .lss 3 (.tmp 10) (.tmp 9) (ρ 10) (ρ 9) w fun x11 w => CondK x11 (VK Try.prog (Instr.indexAt 41 (ρ 8) (ρ 10)) w fun x12 w => VK Try.prog (Instr.loadAt 24 x12) w fun x13 w => VK Try.prog (Instr.alloc 24 true (.tuple #[])) w fun x7 w => UK Try.prog (Instr.storeAt 24 x7 x13) w fun _ w => VK Try.prog (Instr.loadAt 24 x7) w fun x15 w => CK Try.prog (ρ 1) [x15] w fun x16 w => CondK x16 (VK Try.prog (Instr.loadAt 24 x7) w fun x18 w => VK Try.prog (Instr.buildSlice 41 1 [(0, x18)].toArray) w fun x19 w => IK Try.prog .append #[41, 41] 41 [false, false] [(ρ 5), x19] w fun x20 w => sx z Try.prog 23 posted_kept_posted_Receive_R2 K (up (up (up (up (up (up (up (up (up (up (up (up ρ 11 x11) 12 x12) 13 x13) 7 x7) 14 (ρ 1)) 15 x15) 16 x16) 17 (ρ 5)) 18 x18) 19 x19) 20 x20) 5 x20) w) (sx z Try.prog 23 posted_kept_posted_Receive_R2 K (up (up (up (up (up (up (up ρ 11 x11) 12 x12) 13 x13) 7 x7) 14 (ρ 1)) 15 x15) 16 x16) w)) (K (.exit 0) (up ρ 11 x11) w)
theorem posted_kept_posted_Receive_L0_eq (z : At) (K : Exit → Sl → World → Prop) (ρ : Sl) (w : World) : sx z Try.prog 23 posted_kept_posted_Receive_L0 K ρ w = posted_kept_posted_Receive_L0_F z K ρ w := by kernel_rfl
theorem posted_kept_posted_Receive_L0_ok : dstOk 23 posted_kept_posted_Receive_L0 = true := by kernel_rfl
noncomputable def posted_kept_posted_Receive_R1_F (z : At) (K : Exit → Sl → World → Prop) (ρ : Sl) (w : World) : Prop :=
  K .ret (up (up ρ 22 (ρ 5)) 4 (ρ 5)) w
theorem posted_kept_posted_Receive_R1_eq (z : At) (K : Exit → Sl → World → Prop) (ρ : Sl) (w : World) : sx z Try.prog 23 posted_kept_posted_Receive_R1 K ρ w = posted_kept_posted_Receive_R1_F z K ρ w := by kernel_rfl
noncomputable def posted_kept_posted_Receive_R2_F (z : At) (K : Exit → Sl → World → Prop) (ρ : Sl) (w : World) : Prop :=
  BK Try.prog .add 3 (.tmp 10) (.const (Value.int .i64 1)) (ρ 10) (Value.int .i64 1) w fun x21 w => K .normal (up (up ρ 21 x21) 10 x21) w
theorem posted_kept_posted_Receive_R2_eq (z : At) (K : Exit → Sl → World → Prop) (ρ : Sl) (w : World) : sx z Try.prog 23 posted_kept_posted_Receive_R2 K ρ w = posted_kept_posted_Receive_R2_F z K ρ w := by kernel_rfl
noncomputable def posted_kept_posted_Receive_F (a0 a1 : Value) (w : World) (R : Value → World → Prop) : Prop :=
  IK Try.prog .len #[41] 3 [false] [a0] w fun x9 w => W fn_ Try.prog 23 (Code.loop posted_kept_posted_Receive_L0) (blkK 0 (seqK (sx fn_ Try.prog 23 posted_kept_posted_Receive_R1 (retK Try.prog [ResultVar.tmp 4] R)) (retK Try.prog [ResultVar.tmp 4] R))) (up (up (up (up (up (rho0 [a0, a1]) 4 (Value.slice none 0 0)) 5 (Value.slice none 0 0)) 8 a0) 9 x9) 10 (Value.int .i64 0)) w
theorem posted_kept_posted_Receive_eq (a0 a1 : Value) (w : World) (R : Value → World → Prop) : sx fn_ Try.prog 23 posted_kept_posted_Receive_b (retK Try.prog Try.f46.results.toList R) (rho0 [a0, a1]) w = posted_kept_posted_Receive_F a0 a1 w R := by kernel_rfl
theorem posted_kept_posted_Receive_calls {a0 a1 : Value} {w : World} {R : Value → World → Prop} (h : posted_kept_posted_Receive_F a0 a1 w R) : Calls Try.prog 46 #[a0, a1] w fun e w' => ∃ v, e = .returned v ∧ R v w' :=
  Go.X.calls_of_sx (n := 23) (c := posted_kept_posted_Receive_b) Try.func46 (by kernel_rfl) (by kernel_rfl) (Nat.le_of_ble_eq_true rfl) (by kernel_rfl) (Eq.mpr (posted_kept_posted_Receive_eq a0 a1 w R) h)
noncomputable def posted_Receive_waits_b : Code := (Try.f47.body).getD .skip
noncomputable def posted_Receive_waits_F (a0 : Value) (w : World) (R : Value → World → Prop) : Prop :=
  VK Try.prog (Instr.box 24 a0) w fun x1 w => VK Try.prog (Instr.fieldAt 24 x1 6) w fun x3 w => VK Try.prog (Instr.loadAt 4 x3) w fun x4 w => VK Try.prog (Op.unary UnOp.not x4) w fun x5 w => R x5 w
theorem posted_Receive_waits_eq (a0 : Value) (w : World) (R : Value → World → Prop) : sx fn_ Try.prog 6 posted_Receive_waits_b (retK Try.prog Try.f47.results.toList R) (rho0 [a0]) w = posted_Receive_waits_F a0 w R := by kernel_rfl
theorem posted_Receive_waits_calls {a0 : Value} {w : World} {R : Value → World → Prop} (h : posted_Receive_waits_F a0 w R) : Calls Try.prog 47 #[a0] w fun e w' => ∃ v, e = .returned v ∧ R v w' :=
  Go.X.calls_of_sx (n := 6) (c := posted_Receive_waits_b) Try.func47 (by kernel_rfl) (by kernel_rfl) (Nat.le_of_ble_eq_true rfl) (by kernel_rfl) (Eq.mpr (posted_Receive_waits_eq a0 w R) h)
noncomputable def posted_Receive_fits_b : Code := (Try.f48.body).getD .skip
noncomputable def posted_Receive_fits_F (a0 a1 : Value) (w : World) (R : Value → World → Prop) : Prop :=
  VK Try.prog (Instr.box 24 a0) w fun x2 w => VK Try.prog (Instr.box 39 a1) w fun x3 w => VK Try.prog (Instr.fieldAt 24 x2 0) w fun x5 w => VK Try.prog (Instr.loadAt 9 x5) w fun x6 w => VK Try.prog (Instr.fieldAt 39 x3 0) w fun x7 w => VK Try.prog (Instr.loadAt 9 x7) w fun x8 w => BK Try.prog .eql 9 (.tmp 6) (.tmp 8) x6 x8 w fun x9 w => VG Try.prog x9 true (Instr.fieldAt 24 x2 1) w fun x11 w => VG Try.prog x9 true (Instr.loadAt 3 x11) w fun x12 w => VG Try.prog x9 true (Instr.fieldAt 39 x3 2) w fun x13 w => VG Try.prog x9 true (Instr.loadAt 3 x13) w fun x14 w => BG Try.prog x9 true .eql 3 (.tmp 12) (.tmp 14) x12 x14 w fun x15 w => PK Try.prog x9 x15 (Value.bool false) w fun x16 w => VG Try.prog x16 true (Instr.fieldAt 24 x2 3) w fun x18 w => VG Try.prog x16 true (Instr.loadAt 3 x18) w fun x19 w => BG Try.prog x16 true .eql 3 (.tmp 19) (.const (Value.int .i64 (-1))) x19 (Value.int .i64 (-1)) w fun x20 w => MG Try.prog x16 true x20 w fun x21 w => VG Try.prog x21 false (Instr.fieldAt 24 x2 3) w fun x22 w => VG Try.prog x21 false (Instr.loadAt 3 x22) w fun x23 w => VG Try.prog x21 false (Instr.fieldAt 39 x3 1) w fun x24 w => VG Try.prog x21 false (Instr.loadAt 3 x24) w fun x25 w => BG Try.prog x21 false .eql 3 (.tmp 23) (.tmp 25) x23 x25 w fun x26 w => PG Try.prog x16 true x21 (Value.bool true) x26 w fun x27 w => PK Try.prog x16 x27 (Value.bool false) w fun x28 w => VG Try.prog x28 true (Instr.fieldAt 24 x2 4) w fun x30 w => VG Try.prog x28 true (Instr.loadAt 3 x30) w fun x31 w => BG Try.prog x28 true .eql 3 (.tmp 31) (.const (Value.int .i64 (-1))) x31 (Value.int .i64 (-1)) w fun x32 w => MG Try.prog x28 true x32 w fun x33 w => VG Try.prog x33 false (Instr.fieldAt 24 x2 4) w fun x34 w => VG Try.prog x33 false (Instr.loadAt 3 x34) w fun x35 w => VG Try.prog x33 false (Instr.fieldAt 39 x3 4) w fun x36 w => VG Try.prog x33 false (Instr.loadAt 3 x36) w fun x37 w => BG Try.prog x33 false .eql 3 (.tmp 35) (.tmp 37) x35 x37 w fun x38 w => PG Try.prog x28 true x33 (Value.bool true) x38 w fun x39 w => PK Try.prog x28 x39 (Value.bool false) w fun x40 w => R x40 w
theorem posted_Receive_fits_eq (a0 a1 : Value) (w : World) (R : Value → World → Prop) : sx fn_ Try.prog 41 posted_Receive_fits_b (retK Try.prog Try.f48.results.toList R) (rho0 [a0, a1]) w = posted_Receive_fits_F a0 a1 w R := by kernel_rfl
theorem posted_Receive_fits_calls {a0 a1 : Value} {w : World} {R : Value → World → Prop} (h : posted_Receive_fits_F a0 a1 w R) : Calls Try.prog 48 #[a0, a1] w fun e w' => ∃ v, e = .returned v ∧ R v w' :=
  Go.X.calls_of_sx (n := 41) (c := posted_Receive_fits_b) Try.func48 (by kernel_rfl) (by kernel_rfl) (Nat.le_of_ble_eq_true rfl) (by kernel_rfl) (Eq.mpr (posted_Receive_fits_eq a0 a1 w R) h)
noncomputable def slices_Clone_posted_Receive_posted_Receive_b : Code := (Try.f51.body).getD .skip
noncomputable def slices_Clone_posted_Receive_posted_Receive_F (a0 : Value) (w : World) (R : Value → World → Prop) : Prop :=
  BK Try.prog .eql 41 (.tmp 3) (.const (Value.slice none 0 0)) a0 (Value.slice none 0 0) w fun x4 w => CondK x4 (R (Value.slice none 0 0) w) (VK Try.prog (Instr.buildSlice 41 0 [].toArray) w fun x5 w => IK Try.prog .append #[41, 41] 41 [false, false] [x5, a0] w fun x7 w => R x7 w)
theorem slices_Clone_posted_Receive_posted_Receive_eq (a0 : Value) (w : World) (R : Value → World → Prop) : sx fn_ Try.prog 8 slices_Clone_posted_Receive_posted_Receive_b (retK Try.prog Try.f51.results.toList R) (rho0 [a0]) w = slices_Clone_posted_Receive_posted_Receive_F a0 w R := by kernel_rfl
theorem slices_Clone_posted_Receive_posted_Receive_calls {a0 : Value} {w : World} {R : Value → World → Prop} (h : slices_Clone_posted_Receive_posted_Receive_F a0 w R) : Calls Try.prog 51 #[a0] w fun e w' => ∃ v, e = .returned v ∧ R v w' :=
  Go.X.calls_of_sx (n := 8) (c := slices_Clone_posted_Receive_posted_Receive_b) Try.func51 (by kernel_rfl) (by kernel_rfl) (Nat.le_of_ble_eq_true rfl) (by kernel_rfl) (Eq.mpr (slices_Clone_posted_Receive_posted_Receive_eq a0 w R) h)
noncomputable def dispatcherref14_Posted_Post_b : Code := (Try.f53.body).getD .skip
noncomputable def dispatcherref14_Posted_Post_R0 : Code := cAt [1, 0, 1] dispatcherref14_Posted_Post_b
noncomputable def dispatcherref14_Posted_Post_R1 : Code := cAt [1, 1] dispatcherref14_Posted_Post_b
noncomputable def dispatcherref14_Posted_Post_L2 : Code := cAt [1, 1, 0, 1, 0, 0] dispatcherref14_Posted_Post_b
noncomputable def dispatcherref14_Posted_Post_R3 : Code := cAt [1, 1, 1] dispatcherref14_Posted_Post_b
noncomputable def dispatcherref14_Posted_Post_R4 : Code := cAt [1, 1, 0, 1, 0, 0, 1, 0, 0, 0] dispatcherref14_Posted_Post_b
noncomputable def dispatcherref14_Posted_Post_R5 : Code := cAt [1, 1, 0, 1, 0, 0, 1, 0, 0, 1] dispatcherref14_Posted_Post_b
noncomputable def dispatcherref14_Posted_Post_R6 : Code := cAt [1, 1, 0, 1, 0, 0, 1, 1] dispatcherref14_Posted_Post_b
noncomputable def dispatcherref14_Posted_Post_R7 : Code := cAt [1, 1, 1, 0] dispatcherref14_Posted_Post_b
noncomputable def dispatcherref14_Posted_Post_R8 : Code := cAt [1, 1, 1, 1] dispatcherref14_Posted_Post_b
noncomputable def dispatcherref14_Posted_Post_R0_F (z : At) (K : Exit → Sl → World → Prop) (ρ : Sl) (w : World) : Prop :=
  CondK (ρ 43) (K .ret (up ρ 4 (Value.int .i64 2)) w) (K .normal ρ w)
theorem dispatcherref14_Posted_Post_R0_eq (z : At) (K : Exit → Sl → World → Prop) (ρ : Sl) (w : World) : sx z Try.prog 99 dispatcherref14_Posted_Post_R0 K ρ w = dispatcherref14_Posted_Post_R0_F z K ρ w := by kernel_rfl
noncomputable def dispatcherref14_Posted_Post_R1_F (z : At) (K : Exit → Sl → World → Prop) (ρ : Sl) (w : World) : Prop :=
  W z Try.prog 99 (Code.loop dispatcherref14_Posted_Post_L2) (blkK 0 (seqK (sx z Try.prog 99 dispatcherref14_Posted_Post_R3 K) K)) (up ρ 5 (Value.int .i64 0)) w
theorem dispatcherref14_Posted_Post_R1_eq (z : At) (K : Exit → Sl → World → Prop) (ρ : Sl) (w : World) : sx z Try.prog 99 dispatcherref14_Posted_Post_R1 K ρ w = dispatcherref14_Posted_Post_R1_F z K ρ w := by kernel_rfl
noncomputable def dispatcherref14_Posted_Post_L2_F (z : At) (K : Exit → Sl → World → Prop) (ρ : Sl) (w : World) : Prop :=
  NK Try.prog (ρ 0) w fun x46 w => VK Try.prog (Instr.fieldAt 71 x46 0) w fun x47 w => VK Try.prog (Instr.loadAt 41 x47) w fun x48 w => IK Try.prog .len #[41] 3 [false] [x48] w fun x49 w => BK Try.prog .lss 3 (.tmp 44) (.tmp 49) (ρ 5) x49 w fun x50 w => CondK x50 (W z Try.prog 99 dispatcherref14_Posted_Post_R4 (seqK (sx z Try.prog 99 dispatcherref14_Posted_Post_R5 (blkK 1 (seqK (sx z Try.prog 99 dispatcherref14_Posted_Post_R6 K) K))) (blkK 1 (seqK (sx z Try.prog 99 dispatcherref14_Posted_Post_R6 K) K))) (up (up (up (up (up (up (up ρ 44 (ρ 5)) 45 (ρ 0)) 46 x46) 47 x47) 48 x48) 49 x49) 50 x50) w) (K (.exit 0) (up (up (up (up (up (up (up ρ 44 (ρ 5)) 45 (ρ 0)) 46 x46) 47 x47) 48 x48) 49 x49) 50 x50) w)
theorem dispatcherref14_Posted_Post_L2_eq (z : At) (K : Exit → Sl → World → Prop) (ρ : Sl) (w : World) : sx z Try.prog 99 dispatcherref14_Posted_Post_L2 K ρ w = dispatcherref14_Posted_Post_L2_F z K ρ w := by kernel_rfl
theorem dispatcherref14_Posted_Post_L2_ok : dstOk 99 dispatcherref14_Posted_Post_L2 = true := by kernel_rfl
noncomputable def dispatcherref14_Posted_Post_R3_F (z : At) (K : Exit → Sl → World → Prop) (ρ : Sl) (w : World) : Prop :=
  W z Try.prog 99 dispatcherref14_Posted_Post_R7 (seqK (sx z Try.prog 99 dispatcherref14_Posted_Post_R8 K) K) ρ w
theorem dispatcherref14_Posted_Post_R3_eq (z : At) (K : Exit → Sl → World → Prop) (ρ : Sl) (w : World) : sx z Try.prog 99 dispatcherref14_Posted_Post_R3 K ρ w = dispatcherref14_Posted_Post_R3_F z K ρ w := by kernel_rfl
noncomputable def dispatcherref14_Posted_Post_R4_ops : Array Oper := opsOf dispatcherref14_Posted_Post_R4
def dispatcherref14_Posted_Post_R4_T (K : Exit → Sl → World → Prop) (ρ : Sl) (w : World) : Prop :=
  let C : World → Prop := fun w' => w' = w; QK Try.prog C (nilCk (ρ 0)) fun x54_1 => QK Try.prog C (do pure (Next.value (← Instr.fieldAt 71 x54_1 0))) fun x55_1 => QK Try.prog C (do pure (Next.value (← Instr.loadAt 41 x55_1))) fun x56_1 => QK Try.prog C (do pure (Next.value (← Instr.indexAt 41 x56_1 (ρ 5)))) fun x58_1 => QK Try.prog C (do pure (Next.value (← Instr.fieldAt 24 x58_1 1))) fun x59_1 => QK Try.prog C (do pure (Next.value (← Instr.loadAt 3 x59_1))) fun x60_1 => QK Try.prog C (do pure (Next.value (← Instr.fieldAt 24 (ρ 3) 1))) fun x61_1 => QK Try.prog C (do pure (Next.value (← Instr.loadAt 3 x61_1))) fun x62_1 => QK Try.prog C (do pure (Next.value (← (do eqGuard BinOp.eql 3 (Operand.tmp 60) (Operand.tmp 62) x60_1 x62_1; binOp BinOp.eql 3 x60_1 x62_1)))) fun x63_1 => QG Try.prog C x63_1 true  (pure (Next.value (ρ 0))) fun x65_1 => QG Try.prog C x63_1 true  (nilCk x65_1) fun x66_1 => QG Try.prog C x63_1 true  (do pure (Next.value (← Instr.fieldAt 71 x66_1 0))) fun x67_1 => QG Try.prog C x63_1 true  (do pure (Next.value (← Instr.loadAt 41 x67_1))) fun x68_1 => QG Try.prog C x63_1 true  (pure (Next.value (ρ 5))) fun x69_1 => QG Try.prog C x63_1 true  (do pure (Next.value (← Instr.indexAt 41 x68_1 x69_1))) fun x70_1 => QG Try.prog C x63_1 true  (do pure (Next.value (← Instr.fieldAt 24 x70_1 2))) fun x71_1 => QG Try.prog C x63_1 true  (do pure (Next.value (← Instr.loadAt 3 x71_1))) fun x72_1 => QG Try.prog C x63_1 true  (do pure (Next.value (← Instr.fieldAt 24 (ρ 3) 2))) fun x73_1 => QG Try.prog C x63_1 true  (do pure (Next.value (← Instr.loadAt 3 x73_1))) fun x74_1 => BG Try.prog x63_1 true BinOp.geq 3 (Operand.tmp 72) (Operand.tmp 74) x72_1 x74_1 w fun x75_1 w => PK Try.prog x63_1 x75_1 (Value.bool false) w fun x76_1 w => K Exit.normal (up (up (up (up (up (up (up (up (up (up (up (up (up (up (up (up (up (up (up (up (up (up (up (up ρ 53 (ρ 0)) 54 x54_1) 55 x55_1) 56 x56_1) 57 (ρ 5)) 58 x58_1) 59 x59_1) 60 x60_1) 61 x61_1) 62 x62_1) 63 x63_1) 64 x63_1) 65 x65_1) 66 x66_1) 67 x67_1) 68 x68_1) 69 x69_1) 70 x70_1) 71 x71_1) 72 x72_1) 73 x73_1) 74 x74_1) 75 x75_1) 76 x76_1) w
theorem dispatcherref14_Posted_Post_R4_tail {D : List Deferred} {K : Exit → Sl → World → Prop} {ρ : Sl} {w : World} (h : dispatcherref14_Posted_Post_R4_T K ρ { w with drawn := w.drawn + 1 }) : W ⟨none, D⟩ Try.prog 99 dispatcherref14_Posted_Post_R4 K ρ w := by
  have e : dispatcherref14_Posted_Post_R4 = .region (idOf dispatcherref14_Posted_Post_R4) dispatcherref14_Posted_Post_R4_ops true := by kernel_rfl
  have q : sxq Try.prog (fun w' => w' = { w with drawn := w.drawn + 1 }) dispatcherref14_Posted_Post_R4_ops (fun ρ' => sxL Try.prog dispatcherref14_Posted_Post_R4_ops (K .normal) (dispatcherref14_Posted_Post_R4_ops.toList.drop 22) ρ' { w with drawn := w.drawn + 1 }) (dispatcherref14_Posted_Post_R4_ops.toList.take 22) ρ = dispatcherref14_Posted_Post_R4_T K ρ { w with drawn := w.drawn + 1 } := by kernel_rfl
  rw [e]
  exact W_tail 22 (by kernel_rfl) (by kernel_rfl) (by kernel_rfl) (by kernel_rfl) (Eq.mpr q h)
noncomputable def dispatcherref14_Posted_Post_R5_F (z : At) (K : Exit → Sl → World → Prop) (ρ : Sl) (w : World) : Prop :=
  CondK (ρ 76) (K .ret (up ρ 4 (Value.int .i64 2)) w) (K .normal ρ w)
theorem dispatcherref14_Posted_Post_R5_eq (z : At) (K : Exit → Sl → World → Prop) (ρ : Sl) (w : World) : sx z Try.prog 99 dispatcherref14_Posted_Post_R5 K ρ w = dispatcherref14_Posted_Post_R5_F z K ρ w := by kernel_rfl
noncomputable def dispatcherref14_Posted_Post_R6_F (z : At) (K : Exit → Sl → World → Prop) (ρ : Sl) (w : World) : Prop :=
  BK Try.prog .add 3 (.tmp 51) (.const (Value.int .i64 1)) (ρ 5) (Value.int .i64 1) w fun x52 w => K .normal (up (up (up ρ 51 (ρ 5)) 52 x52) 5 x52) w
theorem dispatcherref14_Posted_Post_R6_eq (z : At) (K : Exit → Sl → World → Prop) (ρ : Sl) (w : World) : sx z Try.prog 99 dispatcherref14_Posted_Post_R6 K ρ w = dispatcherref14_Posted_Post_R6_F z K ρ w := by kernel_rfl
noncomputable def dispatcherref14_Posted_Post_R7_ops : Array Oper := opsOf dispatcherref14_Posted_Post_R7
def dispatcherref14_Posted_Post_R7_H (S : World → Prop) (K : Exit → Sl → World → Prop) (ρ : Sl) (w : World) : Prop :=
  HK Try.prog S (nilCk (ρ 0)) fun x79 => HK Try.prog S (do pure (Next.value (← Instr.fieldAt 71 x79 0))) fun x80 => HK Try.prog S (do pure (Next.value (← Instr.fieldAt 24 (ρ 3) 0))) fun x82 => HK Try.prog S (do pure (Next.value (← Instr.loadAt 9 x82))) fun x83 => HK Try.prog S (do pure (Next.value (← Instr.fieldAt 24 (ρ 3) 1))) fun x84 => HK Try.prog S (do pure (Next.value (← Instr.loadAt 3 x84))) fun x85 => HK Try.prog S (do pure (Next.value (← Instr.fieldAt 24 (ρ 3) 2))) fun x86 => HK Try.prog S (do pure (Next.value (← Instr.loadAt 3 x86))) fun x87 => HK Try.prog S (do pure (Next.value (← Instr.fieldAt 24 (ρ 3) 3))) fun x88 => HK Try.prog S (do pure (Next.value (← Instr.loadAt 3 x88))) fun x89 => HK Try.prog S (do pure (Next.value (← Instr.fieldAt 24 (ρ 3) 4))) fun x90 => HK Try.prog S (do pure (Next.value (← Instr.loadAt 3 x90))) fun x91 => HK Try.prog S (do pure (Next.value (← Instr.fieldAt 24 (ρ 3) 5))) fun x92 => HK Try.prog S (do pure (Next.value (← Instr.loadAt 3 x92))) fun x93 => HK Try.prog S (do pure (Next.value (← Instr.build 24 [(0, x83), (1, x85), (2, x87), (3, x89), (4, x91), (5, x93)].toArray))) fun x94 => (VK Try.prog (Instr.loadAt 41 x80) w fun x81 w => S w ∧ (VK Try.prog (Instr.buildSlice 41 1 [(0, x94)].toArray) w fun x95 w => S w ∧ (IK Try.prog Builtin.append #[41, 41] 41 [false, false] [x81, x95] w fun x96 w => S w ∧ (HK Try.prog S (nilCk (ρ 0)) fun x97 => HK Try.prog S (do pure (Next.value (← Instr.fieldAt 71 x97 0))) fun x98 => UK Try.prog (Instr.storeAt 41 x98 x96) w fun _ w => S w ∧ (K Exit.normal (up (up (up (up (up (up (up (up (up (up (up (up (up (up (up (up (up (up (up (up (up (up ρ 77 (ρ 0)) 78 (ρ 0)) 79 x79) 80 x80) 82 x82) 83 x83) 84 x84) 85 x85) 86 x86) 87 x87) 88 x88) 89 x89) 90 x90) 91 x91) 92 x92) 93 x93) 94 x94) 81 x81) 95 x95) 96 x96) 97 x97) 98 x98) w))))) ∧ (VK Try.prog (Instr.buildSlice 41 1 [(0, x94)].toArray) w fun x95_1 w => S w ∧ (VK Try.prog (Instr.loadAt 41 x80) w fun x81_1 w => S w ∧ (IK Try.prog Builtin.append #[41, 41] 41 [false, false] [x81_1, x95_1] w fun x96_1 w => S w ∧ (HK Try.prog S (nilCk (ρ 0)) fun x97_1 => HK Try.prog S (do pure (Next.value (← Instr.fieldAt 71 x97_1 0))) fun x98_1 => UK Try.prog (Instr.storeAt 41 x98_1 x96_1) w fun _ w => S w ∧ (K Exit.normal (up (up (up (up (up (up (up (up (up (up (up (up (up (up (up (up (up (up (up (up (up (up ρ 77 (ρ 0)) 78 (ρ 0)) 79 x79) 80 x80) 82 x82) 83 x83) 84 x84) 85 x85) 86 x86) 87 x87) 88 x88) 89 x89) 90 x90) 91 x91) 92 x92) 93 x93) 94 x94) 95 x95_1) 81 x81_1) 96 x96_1) 97 x97_1) 98 x98_1) w)))))
theorem dispatcherref14_Posted_Post_R7_held {D : List Deferred} (S : World → Prop) {K : Exit → Sl → World → Prop} {ρ : Sl} {w : World} (hS : S { w with drawn := w.drawn + 1 }) (h : dispatcherref14_Posted_Post_R7_H S K ρ { w with drawn := w.drawn + 1 }) : W ⟨none, D⟩ Try.prog 99 dispatcherref14_Posted_Post_R7 K ρ w := by
  have e : dispatcherref14_Posted_Post_R7 = .region (idOf dispatcherref14_Posted_Post_R7) dispatcherref14_Posted_Post_R7_ops true := by kernel_rfl
  have q : sxd Try.prog S dispatcherref14_Posted_Post_R7_ops (K .normal) (Pd.take 0 (Pd.take 1 (Pd.take 2 (Pd.take 3 (Pd.take 5 (Pd.take 6 (Pd.take 7 (Pd.take 8 (Pd.take 9 (Pd.take 10 (Pd.take 11 (Pd.take 12 (Pd.take 13 (Pd.take 14 (Pd.take 15 (Pd.take 16 (Pd.take 17 (Pd.two false false 4 18 (Pd.only false 18 (Pd.only false 19 (Pd.take 20 (Pd.take 21 (Pd.only false 22 Pd.done))))) (Pd.only false 4 (Pd.only false 19 (Pd.take 20 (Pd.take 21 (Pd.only false 22 Pd.done))))))))))))))))))))))) ρ { w with drawn := w.drawn + 1 } = dispatcherref14_Posted_Post_R7_H S K ρ { w with drawn := w.drawn + 1 } := by kernel_rfl
  rw [e]
  exact W_pland S (Pd.take 0 (Pd.take 1 (Pd.take 2 (Pd.take 3 (Pd.take 5 (Pd.take 6 (Pd.take 7 (Pd.take 8 (Pd.take 9 (Pd.take 10 (Pd.take 11 (Pd.take 12 (Pd.take 13 (Pd.take 14 (Pd.take 15 (Pd.take 16 (Pd.take 17 (Pd.two false false 4 18 (Pd.only false 18 (Pd.only false 19 (Pd.take 20 (Pd.take 21 (Pd.only false 22 Pd.done))))) (Pd.only false 4 (Pd.only false 19 (Pd.take 20 (Pd.take 21 (Pd.only false 22 Pd.done))))))))))))))))))))))) (by kernel_rfl) (by kernel_rfl) (by kernel_rfl) (by kernel_rfl) hS (Eq.mpr q h)
noncomputable def dispatcherref14_Posted_Post_R8_F (z : At) (K : Exit → Sl → World → Prop) (ρ : Sl) (w : World) : Prop :=
  K .ret (up ρ 4 (Value.int .i64 0)) w
theorem dispatcherref14_Posted_Post_R8_eq (z : At) (K : Exit → Sl → World → Prop) (ρ : Sl) (w : World) : sx z Try.prog 99 dispatcherref14_Posted_Post_R8 K ρ w = dispatcherref14_Posted_Post_R8_F z K ρ w := by kernel_rfl
noncomputable def dispatcherref14_Posted_Post_F (a0 a1 : Value) (w : World) (R : Value → World → Prop) : Prop :=
  VK Try.prog (Instr.box 24 a1) w fun x3 w => VK Try.prog (Instr.fieldAt 24 x3 1) w fun x6 w => VK Try.prog (Instr.loadAt 3 x6) w fun x7 w => BK Try.prog .lss 3 (.tmp 7) (.const (Value.int .i64 0)) x7 (Value.int .i64 0) w fun x8 w => VG Try.prog x8 false (Instr.fieldAt 24 x3 1) w fun x10 w => VG Try.prog x8 false (Instr.loadAt 3 x10) w fun x11 w => BG Try.prog x8 false .gtr 3 (.tmp 11) (.const (Value.int .i64 63)) x11 (Value.int .i64 63) w fun x12 w => PK Try.prog x8 (Value.bool true) x12 w fun x13 w => VG Try.prog x13 false (Instr.fieldAt 24 x3 3) w fun x15 w => VG Try.prog x13 false (Instr.loadAt 3 x15) w fun x16 w => BG Try.prog x13 false .lss 3 (.tmp 16) (.const (Value.int .i64 (-1))) x16 (Value.int .i64 (-1)) w fun x17 w => PK Try.prog x13 (Value.bool true) x17 w fun x18 w => VG Try.prog x18 false (Instr.fieldAt 24 x3 3) w fun x20 w => VG Try.prog x18 false (Instr.loadAt 3 x20) w fun x21 w => BG Try.prog x18 false .gtr 3 (.tmp 21) (.const (Value.int .i64 63)) x21 (Value.int .i64 63) w fun x22 w => PK Try.prog x18 (Value.bool true) x22 w fun x23 w => VG Try.prog x23 false (Instr.fieldAt 24 x3 4) w fun x25 w => VG Try.prog x23 false (Instr.loadAt 3 x25) w fun x26 w => BG Try.prog x23 false .lss 3 (.tmp 26) (.const (Value.int .i64 (-1))) x26 (Value.int .i64 (-1)) w fun x27 w => PK Try.prog x23 (Value.bool true) x27 w fun x28 w => VG Try.prog x28 false (Instr.fieldAt 24 x3 4) w fun x30 w => VG Try.prog x28 false (Instr.loadAt 3 x30) w fun x31 w => BG Try.prog x28 false .gtr 3 (.tmp 31) (.const (Value.int .i64 32767)) x31 (Value.int .i64 32767) w fun x32 w => PK Try.prog x28 (Value.bool true) x32 w fun x33 w => VG Try.prog x33 false (Instr.fieldAt 24 x3 5) w fun x35 w => VG Try.prog x33 false (Instr.loadAt 3 x35) w fun x36 w => BG Try.prog x33 false .lss 3 (.tmp 36) (.const (Value.int .i64 (-1))) x36 (Value.int .i64 (-1)) w fun x37 w => PK Try.prog x33 (Value.bool true) x37 w fun x38 w => VG Try.prog x38 false (Instr.fieldAt 24 x3 2) w fun x40 w => VG Try.prog x38 false (Instr.loadAt 3 x40) w fun x41 w => BG Try.prog x38 false .lss 3 (.tmp 41) (.const (Value.int .i64 0)) x41 (Value.int .i64 0) w fun x42 w => PK Try.prog x38 (Value.bool true) x42 w fun x43 w => sx fn_ Try.prog 99 dispatcherref14_Posted_Post_R0 (seqK (sx fn_ Try.prog 99 dispatcherref14_Posted_Post_R1 (retK Try.prog [ResultVar.tmp 4] R)) (retK Try.prog [ResultVar.tmp 4] R)) (up (up (up (up (up (up (up (up (up (up (up (up (up (up (up (up (up (up (up (up (up (up (up (up (up (up (up (up (up (up (up (up (up (up (up (up (up (up (up (up (rho0 [a0, a1]) 3 x3) 4 (Value.int .i64 0)) 6 x6) 7 x7) 8 x8) 9 x8) 10 x10) 11 x11) 12 x12) 13 x13) 14 x13) 15 x15) 16 x16) 17 x17) 18 x18) 19 x18) 20 x20) 21 x21) 22 x22) 23 x23) 24 x23) 25 x25) 26 x26) 27 x27) 28 x28) 29 x28) 30 x30) 31 x31) 32 x32) 33 x33) 34 x33) 35 x35) 36 x36) 37 x37) 38 x38) 39 x38) 40 x40) 41 x41) 42 x42) 43 x43) w
theorem dispatcherref14_Posted_Post_eq (a0 a1 : Value) (w : World) (R : Value → World → Prop) : sx fn_ Try.prog 99 dispatcherref14_Posted_Post_b (retK Try.prog Try.f53.results.toList R) (rho0 [a0, a1]) w = dispatcherref14_Posted_Post_F a0 a1 w R := by kernel_rfl
theorem dispatcherref14_Posted_Post_calls {a0 a1 : Value} {w : World} {R : Value → World → Prop} (h : dispatcherref14_Posted_Post_F a0 a1 w R) : Calls Try.prog 53 #[a0, a1] w fun e w' => ∃ v, e = .returned v ∧ R v w' :=
  Go.X.calls_of_sx (n := 99) (c := dispatcherref14_Posted_Post_b) Try.func53 (by kernel_rfl) (by kernel_rfl) (Nat.le_of_ble_eq_true rfl) (by kernel_rfl) (Eq.mpr (dispatcherref14_Posted_Post_eq a0 a1 w R) h)
noncomputable def dispatcherref14_Posted_Match_b : Code := (Try.f54.body).getD .skip
noncomputable def dispatcherref14_Posted_Match_L0 : Code := cAt [1, 1, 0, 1, 0, 0] dispatcherref14_Posted_Match_b
noncomputable def dispatcherref14_Posted_Match_R1 : Code := cAt [1, 1, 1] dispatcherref14_Posted_Match_b
noncomputable def dispatcherref14_Posted_Match_R2 : Code := cAt [1, 1, 0, 1, 0, 0, 1, 0, 0, 1, 1] dispatcherref14_Posted_Match_b
noncomputable def dispatcherref14_Posted_Match_R3 : Code := cAt [1, 1, 0, 1, 0, 0, 1, 1] dispatcherref14_Posted_Match_b
noncomputable def dispatcherref14_Posted_Match_L4 : Code := cAt [1, 1, 0, 1, 0, 0, 1, 0, 0, 1, 1, 0, 1, 0, 0] dispatcherref14_Posted_Match_b
noncomputable def dispatcherref14_Posted_Match_R5 : Code := cAt [1, 1, 0, 1, 0, 0, 1, 0, 0, 1, 1, 1] dispatcherref14_Posted_Match_b
noncomputable def dispatcherref14_Posted_Match_R6 : Code := cAt [1, 1, 0, 1, 0, 0, 1, 0, 0, 1, 1, 0, 1, 0, 0, 1, 1] dispatcherref14_Posted_Match_b
noncomputable def dispatcherref14_Posted_Match_R7 : Code := cAt [1, 1, 0, 1, 0, 0, 1, 0, 0, 1, 1, 0, 1, 0, 0, 1, 0, 0, 1] dispatcherref14_Posted_Match_b
noncomputable def dispatcherref14_Posted_Match_R8 : Code := cAt [1, 1, 0, 1, 0, 0, 1, 0, 0, 1, 1, 0, 1, 0, 0, 1, 0, 0, 1, 0, 1] dispatcherref14_Posted_Match_b
noncomputable def dispatcherref14_Posted_Match_L0_F (z : At) (K : Exit → Sl → World → Prop) (ρ : Sl) (w : World) : Prop :=
  IK Try.prog .len #[31] 3 [false] [(ρ 13)] w fun x23 w => BK Try.prog .lss 3 (.tmp 21) (.tmp 23) (ρ 14) x23 w fun x24 w => CondK x24 (VK Try.prog (Instr.indexAt 31 (ρ 13) (ρ 14)) w fun x29 w => VK Try.prog (Instr.fieldAt 39 x29 1) w fun x30 w => VK Try.prog (Instr.loadAt 3 x30) w fun x31 w => BK Try.prog .neq 3 (.tmp 31) (.tmp 32) x31 (ρ 4) w fun x33 w => MG Try.prog x33 false (ρ 13) w fun x35 w => MG Try.prog x33 false (ρ 14) w fun x36 w => VG Try.prog x33 false (Instr.indexAt 31 x35 x36) w fun x37 w => VG Try.prog x33 false (Instr.fieldAt 39 x37 3) w fun x38 w => VG Try.prog x33 false (Instr.loadAt 3 x38) w fun x39 w => MG Try.prog x33 false (ρ 5) w fun x40 w => BG Try.prog x33 false .neq 3 (.tmp 39) (.tmp 40) x39 x40 w fun x41 w => PK Try.prog x33 (Value.bool true) x41 w fun x42 w => CondK x42 (BK Try.prog .add 3 (.tmp 25) (.const (Value.int .i64 1)) (ρ 14) (Value.int .i64 1) w fun x26 w => K .normal (up (up (up (up (up (up (up (up (up (up (up (up (up (up (up (up (up (up (up (up (up (up (up ρ 21 (ρ 14)) 22 (ρ 13)) 23 x23) 24 x24) 27 (ρ 13)) 28 (ρ 14)) 29 x29) 30 x30) 31 x31) 32 (ρ 4)) 33 x33) 34 x33) 35 x35) 36 x36) 37 x37) 38 x38) 39 x39) 40 x40) 41 x41) 42 x42) 25 (ρ 14)) 26 x26) 14 x26) w) (CK Try.prog (Value.func (Fn.func 71) #[] #[]) [(ρ 1), (ρ 4), (ρ 5)] w fun x46 w => sx z Try.prog 101 dispatcherref14_Posted_Match_R2 (blkK 1 (seqK (sx z Try.prog 101 dispatcherref14_Posted_Match_R3 K) K)) (up (up (up (up (up (up (up (up (up (up (up (up (up (up (up (up (up (up (up (up (up (up (up (up ρ 21 (ρ 14)) 22 (ρ 13)) 23 x23) 24 x24) 27 (ρ 13)) 28 (ρ 14)) 29 x29) 30 x30) 31 x31) 32 (ρ 4)) 33 x33) 34 x33) 35 x35) 36 x36) 37 x37) 38 x38) 39 x39) 40 x40) 41 x41) 42 x42) 43 (ρ 1)) 44 (ρ 4)) 45 (ρ 5)) 46 x46) w)) (K (.exit 0) (up (up (up (up ρ 21 (ρ 14)) 22 (ρ 13)) 23 x23) 24 x24) w)
theorem dispatcherref14_Posted_Match_L0_eq (z : At) (K : Exit → Sl → World → Prop) (ρ : Sl) (w : World) : sx z Try.prog 101 dispatcherref14_Posted_Match_L0 K ρ w = dispatcherref14_Posted_Match_L0_F z K ρ w := by kernel_rfl
theorem dispatcherref14_Posted_Match_L0_ok : dstOk 101 dispatcherref14_Posted_Match_L0 = true := by kernel_rfl
noncomputable def dispatcherref14_Posted_Match_R1_F (z : At) (K : Exit → Sl → World → Prop) (ρ : Sl) (w : World) : Prop :=
  K .ret (up ρ 12 (Value.int .i64 2)) w
theorem dispatcherref14_Posted_Match_R1_eq (z : At) (K : Exit → Sl → World → Prop) (ρ : Sl) (w : World) : sx z Try.prog 101 dispatcherref14_Posted_Match_R1 K ρ w = dispatcherref14_Posted_Match_R1_F z K ρ w := by kernel_rfl
noncomputable def dispatcherref14_Posted_Match_R2_F (z : At) (K : Exit → Sl → World → Prop) (ρ : Sl) (w : World) : Prop :=
  W z Try.prog 101 (Code.loop dispatcherref14_Posted_Match_L4) (blkK 2 (seqK (sx z Try.prog 101 dispatcherref14_Posted_Match_R5 K) K)) (up ρ 15 (Value.int .i64 0)) w
theorem dispatcherref14_Posted_Match_R2_eq (z : At) (K : Exit → Sl → World → Prop) (ρ : Sl) (w : World) : sx z Try.prog 101 dispatcherref14_Posted_Match_R2 K ρ w = dispatcherref14_Posted_Match_R2_F z K ρ w := by kernel_rfl
noncomputable def dispatcherref14_Posted_Match_L4_F (z : At) (K : Exit → Sl → World → Prop) (ρ : Sl) (w : World) : Prop :=
  NK Try.prog (ρ 0) w fun x49 w => VK Try.prog (Instr.fieldAt 71 x49 0) w fun x50 w => VK Try.prog (Instr.loadAt 41 x50) w fun x51 w => IK Try.prog .len #[41] 3 [false] [x51] w fun x52 w => BK Try.prog .lss 3 (.tmp 47) (.tmp 52) (ρ 15) x52 w fun x53 w => CondK x53 (NK Try.prog (ρ 0) w fun x57 w => VK Try.prog (Instr.fieldAt 71 x57 0) w fun x58 w => VK Try.prog (Instr.loadAt 41 x58) w fun x59 w => VK Try.prog (Instr.indexAt 41 x59 (ρ 15)) w fun x61 w => VK Try.prog (Instr.fieldAt 24 x61 1) w fun x62 w => VK Try.prog (Instr.loadAt 3 x62) w fun x63 w => BK Try.prog .eql 3 (.tmp 63) (.tmp 64) x63 (ρ 2) w fun x65 w => MG Try.prog x65 true (ρ 0) w fun x67 w => NG Try.prog x65 true x67 w fun x68 w => VG Try.prog x65 true (Instr.fieldAt 71 x68 0) w fun x69 w => VG Try.prog x65 true (Instr.loadAt 41 x69) w fun x70 w => MG Try.prog x65 true (ρ 15) w fun x71 w => VG Try.prog x65 true (Instr.indexAt 41 x70 x71) w fun x72 w => VG Try.prog x65 true (Instr.fieldAt 24 x72 2) w fun x73 w => VG Try.prog x65 true (Instr.loadAt 3 x73) w fun x74 w => MG Try.prog x65 true (ρ 3) w fun x75 w => BG Try.prog x65 true .eql 3 (.tmp 74) (.tmp 75) x74 x75 w fun x76 w => PK Try.prog x65 x76 (Value.bool false) w fun x77 w => sx z Try.prog 101 dispatcherref14_Posted_Match_R7 (blkK 3 (seqK (sx z Try.prog 101 dispatcherref14_Posted_Match_R6 K) K)) (up (up (up (up (up (up (up (up (up (up (up (up (up (up (up (up (up (up (up (up (up (up (up (up (up (up (up (up (up ρ 47 (ρ 15)) 48 (ρ 0)) 49 x49) 50 x50) 51 x51) 52 x52) 53 x53) 56 (ρ 0)) 57 x57) 58 x58) 59 x59) 60 (ρ 15)) 61 x61) 62 x62) 63 x63) 64 (ρ 2)) 65 x65) 66 x65) 67 x67) 68 x68) 69 x69) 70 x70) 71 x71) 72 x72) 73 x73) 74 x74) 75 x75) 76 x76) 77 x77) w) (K (.exit 2) (up (up (up (up (up (up (up ρ 47 (ρ 15)) 48 (ρ 0)) 49 x49) 50 x50) 51 x51) 52 x52) 53 x53) w)
theorem dispatcherref14_Posted_Match_L4_eq (z : At) (K : Exit → Sl → World → Prop) (ρ : Sl) (w : World) : sx z Try.prog 101 dispatcherref14_Posted_Match_L4 K ρ w = dispatcherref14_Posted_Match_L4_F z K ρ w := by kernel_rfl
theorem dispatcherref14_Posted_Match_L4_ok : dstOk 101 dispatcherref14_Posted_Match_L4 = true := by kernel_rfl
noncomputable def dispatcherref14_Posted_Match_R5_F (z : At) (K : Exit → Sl → World → Prop) (ρ : Sl) (w : World) : Prop :=
  K .ret (up ρ 12 (Value.int .i64 0)) w
theorem dispatcherref14_Posted_Match_R5_eq (z : At) (K : Exit → Sl → World → Prop) (ρ : Sl) (w : World) : sx z Try.prog 101 dispatcherref14_Posted_Match_R5 K ρ w = dispatcherref14_Posted_Match_R5_F z K ρ w := by kernel_rfl
noncomputable def dispatcherref14_Posted_Match_R6_F (z : At) (K : Exit → Sl → World → Prop) (ρ : Sl) (w : World) : Prop :=
  BK Try.prog .add 3 (.tmp 54) (.const (Value.int .i64 1)) (ρ 15) (Value.int .i64 1) w fun x55 w => K .normal (up (up (up ρ 54 (ρ 15)) 55 x55) 15 x55) w
theorem dispatcherref14_Posted_Match_R6_eq (z : At) (K : Exit → Sl → World → Prop) (ρ : Sl) (w : World) : sx z Try.prog 101 dispatcherref14_Posted_Match_R6 K ρ w = dispatcherref14_Posted_Match_R6_F z K ρ w := by kernel_rfl
noncomputable def dispatcherref14_Posted_Match_R7_F (z : At) (K : Exit → Sl → World → Prop) (ρ : Sl) (w : World) : Prop :=
  CondK (ρ 77) (NK Try.prog (ρ 0) w fun x79 w => VK Try.prog (Instr.fieldAt 71 x79 0) w fun x80 w => VK Try.prog (Instr.loadAt 41 x80) w fun x81 w => VK Try.prog (Instr.indexAt 41 x81 (ρ 15)) w fun x83 w => VK Try.prog (Instr.fieldAt 24 x83 6) w fun x84 w => UK Try.prog (Instr.storeAt 4 x84 (Value.bool true)) w fun _ w => W z Try.prog 101 dispatcherref14_Posted_Match_R8 K (up (up (up (up (up (up (up ρ 78 (ρ 0)) 79 x79) 80 x80) 81 x81) 82 (ρ 15)) 83 x83) 84 x84) w) (K .normal ρ w)
theorem dispatcherref14_Posted_Match_R7_eq (z : At) (K : Exit → Sl → World → Prop) (ρ : Sl) (w : World) : sx z Try.prog 101 dispatcherref14_Posted_Match_R7 K ρ w = dispatcherref14_Posted_Match_R7_F z K ρ w := by kernel_rfl
noncomputable def dispatcherref14_Posted_Match_R8_ops : Array Oper := opsOf dispatcherref14_Posted_Match_R8
def dispatcherref14_Posted_Match_R8_H0 (S : World → Prop) (K : Sl → World → Prop) (ρ : Sl) (w : World) : Prop :=
  HK Try.prog S (nilCk (ρ 0)) fun x86 => HK Try.prog S (do pure (Next.value (← Instr.fieldAt 71 x86 0))) fun x87 => HK Try.prog S (do pure (Next.value (← Instr.loadAt 41 x87))) fun x88 => HK Try.prog S (nilCk (ρ 0)) fun x91 => HK Try.prog S (do pure (Next.value (← Instr.fieldAt 71 x91 0))) fun x92 => HK Try.prog S (do pure (Next.value (← Instr.loadAt 41 x92))) fun x93 => K (up (up (up (up (up (up (up (up (up (up (up (up ρ 85 (ρ 0)) 86 x86) 87 x87) 88 x88) 89 (ρ 15)) 90 (ρ 0)) 91 x91) 92 x92) 93 x93) 94 (ρ 15)) 95 (ρ 4)) 96 (ρ 5)) w
theorem dispatcherref14_Posted_Match_R8_q0 (S : World → Prop) (K : Sl → World → Prop) : sxh Try.prog S dispatcherref14_Posted_Match_R8_ops K [(0, true), (1, true), (2, true), (3, true), (4, true), (5, true), (6, true), (7, true), (8, true), (9, true), (10, true), (11, true)] = dispatcherref14_Posted_Match_R8_H0 S K := by kernel_rfl
def dispatcherref14_Posted_Match_R8_H1 (S : World → Prop) (K : Sl → World → Prop) (ρ : Sl) (w : World) : Prop :=
  HK Try.prog S (do pure (Next.value (← Instr.indexAt 41 (ρ 88) (ρ 89)))) fun x97 => HK Try.prog S (do pure (Next.value (← Instr.fieldAt 24 x97 7))) fun x98 => UK Try.prog (Instr.storeAt 3 x98 (ρ 95)) w fun _ w => S w ∧ (HK Try.prog S (do pure (Next.value (← Instr.indexAt 41 (ρ 93) (ρ 94)))) fun x99 => HK Try.prog S (do pure (Next.value (← Instr.fieldAt 24 x99 8))) fun x100 => UK Try.prog (Instr.storeAt 3 x100 (ρ 96)) w fun _ w => S w ∧ (K (up (up (up (up ρ 97 x97) 98 x98) 99 x99) 100 x100) w))
theorem dispatcherref14_Posted_Match_R8_q1 (S : World → Prop) (K : Sl → World → Prop) : sxh Try.prog S dispatcherref14_Posted_Match_R8_ops K [(12, true), (13, true), (14, false), (15, true), (16, true), (17, false)] = dispatcherref14_Posted_Match_R8_H1 S K := by kernel_rfl
def dispatcherref14_Posted_Match_R8_H (S : World → Prop) (K : Exit → Sl → World → Prop) (ρ : Sl) (w : World) : Prop :=
  dispatcherref14_Posted_Match_R8_H0 S (dispatcherref14_Posted_Match_R8_H1 S (K .normal)) ρ w
theorem dispatcherref14_Posted_Match_R8_steps : planOk Try.prog 101 dispatcherref14_Posted_Match_R8_ops [(0, true), (1, true), (2, true), (3, true), (4, true), (5, true), (6, true), (7, true), (8, true), (9, true), (10, true), (11, true), (12, true), (13, true), (14, false), (15, true), (16, true), (17, false)] (Array.replicate dispatcherref14_Posted_Match_R8_ops.size false) = true :=
  by kernel_rfl
theorem dispatcherref14_Posted_Match_R8_held {D : List Deferred} (S : World → Prop) {K : Exit → Sl → World → Prop} {ρ : Sl} {w : World} (hS : S { w with drawn := w.drawn + 1 }) (h : dispatcherref14_Posted_Match_R8_H S K ρ { w with drawn := w.drawn + 1 }) : W ⟨none, D⟩ Try.prog 101 dispatcherref14_Posted_Match_R8 K ρ w := by
  have e : dispatcherref14_Posted_Match_R8 = .region (idOf dispatcherref14_Posted_Match_R8) dispatcherref14_Posted_Match_R8_ops true := by kernel_rfl
  have q : sxh Try.prog S dispatcherref14_Posted_Match_R8_ops (K .normal) [(0, true), (1, true), (2, true), (3, true), (4, true), (5, true), (6, true), (7, true), (8, true), (9, true), (10, true), (11, true), (12, true), (13, true), (14, false), (15, true), (16, true), (17, false)] ρ { w with drawn := w.drawn + 1 } = dispatcherref14_Posted_Match_R8_H S K ρ { w with drawn := w.drawn + 1 } := by
    show sxh Try.prog S dispatcherref14_Posted_Match_R8_ops (K .normal) ([(0, true), (1, true), (2, true), (3, true), (4, true), (5, true), (6, true), (7, true), (8, true), (9, true), (10, true), (11, true)] ++ [(12, true), (13, true), (14, false), (15, true), (16, true), (17, false)]) ρ { w with drawn := w.drawn + 1 } = _
    rw [sxh_append, dispatcherref14_Posted_Match_R8_q1, dispatcherref14_Posted_Match_R8_q0]; rfl
  rw [e]
  exact W_held S [(0, true), (1, true), (2, true), (3, true), (4, true), (5, true), (6, true), (7, true), (8, true), (9, true), (10, true), (11, true), (12, true), (13, true), (14, false), (15, true), (16, true), (17, false)] (by kernel_rfl) (by kernel_rfl) dispatcherref14_Posted_Match_R8_steps (by kernel_rfl) hS (Eq.mpr q h)
noncomputable def dispatcherref14_Posted_Match_F (a0 a1 a2 a3 a4 a5 : Value) (w : World) (R : Value → World → Prop) : Prop :=
  CK Try.prog (Value.func (Fn.func 31) #[] #[]) [a0, a1, a2, a3] w fun x20 w => W fn_ Try.prog 101 (Code.loop dispatcherref14_Posted_Match_L0) (blkK 0 (seqK (sx fn_ Try.prog 101 dispatcherref14_Posted_Match_R1 (retK Try.prog [ResultVar.tmp 12] R)) (retK Try.prog [ResultVar.tmp 12] R))) (up (up (up (up (up (up (up (up (rho0 [a0, a1, a2, a3, a4, a5]) 12 (Value.int .i64 0)) 16 a0) 17 a1) 18 a2) 19 a3) 20 x20) 13 x20) 14 (Value.int .i64 0)) w
theorem dispatcherref14_Posted_Match_eq (a0 a1 a2 a3 a4 a5 : Value) (w : World) (R : Value → World → Prop) : sx fn_ Try.prog 101 dispatcherref14_Posted_Match_b (retK Try.prog Try.f54.results.toList R) (rho0 [a0, a1, a2, a3, a4, a5]) w = dispatcherref14_Posted_Match_F a0 a1 a2 a3 a4 a5 w R := by kernel_rfl
theorem dispatcherref14_Posted_Match_calls {a0 a1 a2 a3 a4 a5 : Value} {w : World} {R : Value → World → Prop} (h : dispatcherref14_Posted_Match_F a0 a1 a2 a3 a4 a5 w R) : Calls Try.prog 54 #[a0, a1, a2, a3, a4, a5] w fun e w' => ∃ v, e = .returned v ∧ R v w' :=
  Go.X.calls_of_sx (n := 101) (c := dispatcherref14_Posted_Match_b) Try.func54 (by kernel_rfl) (by kernel_rfl) (Nat.le_of_ble_eq_true rfl) (by kernel_rfl) (Eq.mpr (dispatcherref14_Posted_Match_eq a0 a1 a2 a3 a4 a5 w R) h)
noncomputable def dispatcherref14_Posted_Copy_b : Code := (Try.f57.body).getD .skip
noncomputable def dispatcherref14_Posted_Copy_F (a0 : Value) (w : World) (R : Value → World → Prop) : Prop :=
  VK Try.prog (Instr.buildSlice 41 0 [].toArray) w fun x3 w => NK Try.prog a0 w fun x5 w => VK Try.prog (Instr.fieldAt 71 x5 0) w fun x6 w => VK Try.prog (Instr.loadAt 41 x6) w fun x7 w => IK Try.prog .append #[41, 41] 41 [false, false] [x3, x7] w fun x8 w => VK Try.prog (Instr.build 71 [(0, x8)].toArray) w fun x9 w => VK Try.prog (Instr.box 71 x9) w fun x10 w => R x10 w
theorem dispatcherref14_Posted_Copy_eq (a0 : Value) (w : World) (R : Value → World → Prop) : sx fn_ Try.prog 11 dispatcherref14_Posted_Copy_b (retK Try.prog Try.f57.results.toList R) (rho0 [a0]) w = dispatcherref14_Posted_Copy_F a0 w R := by kernel_rfl
theorem dispatcherref14_Posted_Copy_calls {a0 : Value} {w : World} {R : Value → World → Prop} (h : dispatcherref14_Posted_Copy_F a0 w R) : Calls Try.prog 57 #[a0] w fun e w' => ∃ v, e = .returned v ∧ R v w' :=
  Go.X.calls_of_sx (n := 11) (c := dispatcherref14_Posted_Copy_b) Try.func57 (by kernel_rfl) (by kernel_rfl) (Nat.le_of_ble_eq_true rfl) (by kernel_rfl) (Eq.mpr (dispatcherref14_Posted_Copy_eq a0 w R) h)
noncomputable def dispatcherref14_Posted_all_b : Code := (Try.f58.body).getD .skip
noncomputable def dispatcherref14_Posted_all_L0 : Code := cAt [1, 1, 1, 0, 1, 0, 0] dispatcherref14_Posted_all_b
noncomputable def dispatcherref14_Posted_all_R1 : Code := cAt [1, 1, 1, 1] dispatcherref14_Posted_all_b
noncomputable def dispatcherref14_Posted_all_L2 : Code := cAt [1, 1, 1, 0, 1, 0, 0, 1, 0, 0, 1, 0, 0] dispatcherref14_Posted_all_b
noncomputable def dispatcherref14_Posted_all_R3 : Code := cAt [1, 1, 1, 0, 1, 0, 0, 1, 1] dispatcherref14_Posted_all_b
noncomputable def dispatcherref14_Posted_all_R4 : Code := cAt [1, 1, 1, 0, 1, 0, 0, 1, 0, 0, 1, 0, 0, 1, 1] dispatcherref14_Posted_all_b
noncomputable def dispatcherref14_Posted_all_R5 : Code := cAt [1, 1, 1, 0, 1, 0, 0, 1, 0, 0, 1, 0, 0, 1, 0, 0, 0] dispatcherref14_Posted_all_b
noncomputable def dispatcherref14_Posted_all_R6 : Code := cAt [1, 1, 1, 0, 1, 0, 0, 1, 0, 0, 1, 0, 0, 1, 0, 0, 1] dispatcherref14_Posted_all_b
noncomputable def dispatcherref14_Posted_all_L0_F (z : At) (K : Exit → Sl → World → Prop) (ρ : Sl) (w : World) : Prop :=
  BK Try.prog .lss 3 (.tmp 15) (.const (Value.int .i64 64)) (ρ 11) (Value.int .i64 64) w fun x16 w => CondK x16 (W z Try.prog 51 (Code.loop dispatcherref14_Posted_all_L2) (blkK 2 (blkK 1 (seqK (sx z Try.prog 51 dispatcherref14_Posted_all_R3 K) K))) (up (up (up ρ 15 (ρ 11)) 16 x16) 12 (Value.int .i64 0)) w) (K (.exit 0) (up (up ρ 15 (ρ 11)) 16 x16) w)
theorem dispatcherref14_Posted_all_L0_eq (z : At) (K : Exit → Sl → World → Prop) (ρ : Sl) (w : World) : sx z Try.prog 51 dispatcherref14_Posted_all_L0 K ρ w = dispatcherref14_Posted_all_L0_F z K ρ w := by kernel_rfl
theorem dispatcherref14_Posted_all_L0_ok : dstOk 51 dispatcherref14_Posted_all_L0 = true := by kernel_rfl
noncomputable def dispatcherref14_Posted_all_R1_F (z : At) (K : Exit → Sl → World → Prop) (ρ : Sl) (w : World) : Prop :=
  K .ret (up (up ρ 50 (ρ 9)) 8 (ρ 9)) w
theorem dispatcherref14_Posted_all_R1_eq (z : At) (K : Exit → Sl → World → Prop) (ρ : Sl) (w : World) : sx z Try.prog 51 dispatcherref14_Posted_all_R1 K ρ w = dispatcherref14_Posted_all_R1_F z K ρ w := by kernel_rfl
noncomputable def dispatcherref14_Posted_all_L2_F (z : At) (K : Exit → Sl → World → Prop) (ρ : Sl) (w : World) : Prop :=
  IK Try.prog .len #[31] 3 [false] [(ρ 10)] w fun x21 w => BK Try.prog .lss 3 (.tmp 19) (.tmp 21) (ρ 12) x21 w fun x22 w => CondK x22 (W z Try.prog 51 dispatcherref14_Posted_all_R5 (seqK (sx z Try.prog 51 dispatcherref14_Posted_all_R6 (blkK 3 (seqK (sx z Try.prog 51 dispatcherref14_Posted_all_R4 K) K))) (blkK 3 (seqK (sx z Try.prog 51 dispatcherref14_Posted_all_R4 K) K))) (up (up (up (up ρ 19 (ρ 12)) 20 (ρ 10)) 21 x21) 22 x22) w) (K (.exit 2) (up (up (up (up ρ 19 (ρ 12)) 20 (ρ 10)) 21 x21) 22 x22) w)
theorem dispatcherref14_Posted_all_L2_eq (z : At) (K : Exit → Sl → World → Prop) (ρ : Sl) (w : World) : sx z Try.prog 51 dispatcherref14_Posted_all_L2 K ρ w = dispatcherref14_Posted_all_L2_F z K ρ w := by kernel_rfl
theorem dispatcherref14_Posted_all_L2_ok : dstOk 51 dispatcherref14_Posted_all_L2 = true := by kernel_rfl
noncomputable def dispatcherref14_Posted_all_R3_F (z : At) (K : Exit → Sl → World → Prop) (ρ : Sl) (w : World) : Prop :=
  BK Try.prog .add 3 (.tmp 17) (.const (Value.int .i64 1)) (ρ 11) (Value.int .i64 1) w fun x18 w => K .normal (up (up (up ρ 17 (ρ 11)) 18 x18) 11 x18) w
theorem dispatcherref14_Posted_all_R3_eq (z : At) (K : Exit → Sl → World → Prop) (ρ : Sl) (w : World) : sx z Try.prog 51 dispatcherref14_Posted_all_R3 K ρ w = dispatcherref14_Posted_all_R3_F z K ρ w := by kernel_rfl
noncomputable def dispatcherref14_Posted_all_R4_F (z : At) (K : Exit → Sl → World → Prop) (ρ : Sl) (w : World) : Prop :=
  BK Try.prog .add 3 (.tmp 23) (.const (Value.int .i64 1)) (ρ 12) (Value.int .i64 1) w fun x24 w => K .normal (up (up (up ρ 23 (ρ 12)) 24 x24) 12 x24) w
theorem dispatcherref14_Posted_all_R4_eq (z : At) (K : Exit → Sl → World → Prop) (ρ : Sl) (w : World) : sx z Try.prog 51 dispatcherref14_Posted_all_R4 K ρ w = dispatcherref14_Posted_all_R4_F z K ρ w := by kernel_rfl
noncomputable def dispatcherref14_Posted_all_R5_ops : Array Oper := opsOf dispatcherref14_Posted_all_R5
def dispatcherref14_Posted_all_R5_T (K : Exit → Sl → World → Prop) (ρ : Sl) (w : World) : Prop :=
  let C : World → Prop := fun w' => w' = w; QK Try.prog C (do pure (Next.value (← Instr.indexAt 31 (ρ 10) (ρ 12)))) fun x27_1 => QK Try.prog C (do pure (Next.value (← Instr.fieldAt 39 x27_1 1))) fun x28_1 => QK Try.prog C (do pure (Next.value (← Instr.loadAt 3 x28_1))) fun x29_1 => QK Try.prog C (do pure (Next.value (← (do eqGuard BinOp.eql 3 (Operand.tmp 29) (Operand.tmp 30) x29_1 (ρ 11); binOp BinOp.eql 3 x29_1 (ρ 11))))) fun x31_1 => QG Try.prog C x31_1 true  (pure (Next.value (ρ 0))) fun x33_1 => QG Try.prog C x31_1 true  (pure (Next.value (ρ 1))) fun x34_1 => QG Try.prog C x31_1 true  (do pure (Next.value (← Instr.loadAt 24 (ρ 6)))) fun x35_1 => QG Try.prog C x31_1 true  (pure (Next.value (ρ 10))) fun x36_1 => QG Try.prog C x31_1 true  (pure (Next.value (ρ 12))) fun x37_1 => QG Try.prog C x31_1 true  (do pure (Next.value (← Instr.indexAt 31 x36_1 x37_1))) fun x38_1 => QG Try.prog C x31_1 true  (do pure (Next.value (← Instr.loadAt 39 x38_1))) fun x39_1 => QG Try.prog C x31_1 true  (pure (Next.value (ρ 3))) fun x40_1 => CG Try.prog x31_1 true (Value.func (Fn.func 73) #[] #[]) [x33_1, x34_1, x35_1, x39_1, x40_1] w fun x41_1 w => PK Try.prog x31_1 x41_1 (Value.bool false) w fun x42_1 w => K Exit.normal (up (up (up (up (up (up (up (up (up (up (up (up (up (up (up (up (up (up ρ 25 (ρ 10)) 26 (ρ 12)) 27 x27_1) 28 x28_1) 29 x29_1) 30 (ρ 11)) 31 x31_1) 32 x31_1) 33 x33_1) 34 x34_1) 35 x35_1) 36 x36_1) 37 x37_1) 38 x38_1) 39 x39_1) 40 x40_1) 41 x41_1) 42 x42_1) w
theorem dispatcherref14_Posted_all_R5_tail {D : List Deferred} {K : Exit → Sl → World → Prop} {ρ : Sl} {w : World} (h : dispatcherref14_Posted_all_R5_T K ρ { w with drawn := w.drawn + 1 }) : W ⟨none, D⟩ Try.prog 51 dispatcherref14_Posted_all_R5 K ρ w := by
  have e : dispatcherref14_Posted_all_R5 = .region (idOf dispatcherref14_Posted_all_R5) dispatcherref14_Posted_all_R5_ops true := by kernel_rfl
  have q : sxq Try.prog (fun w' => w' = { w with drawn := w.drawn + 1 }) dispatcherref14_Posted_all_R5_ops (fun ρ' => sxL Try.prog dispatcherref14_Posted_all_R5_ops (K .normal) (dispatcherref14_Posted_all_R5_ops.toList.drop 16) ρ' { w with drawn := w.drawn + 1 }) (dispatcherref14_Posted_all_R5_ops.toList.take 16) ρ = dispatcherref14_Posted_all_R5_T K ρ { w with drawn := w.drawn + 1 } := by kernel_rfl
  rw [e]
  exact W_tail 16 (by kernel_rfl) (by kernel_rfl) (by kernel_rfl) (by kernel_rfl) (Eq.mpr q h)
noncomputable def dispatcherref14_Posted_all_R6_F (z : At) (K : Exit → Sl → World → Prop) (ρ : Sl) (w : World) : Prop :=
  CondK (ρ 42) (VK Try.prog (Instr.indexAt 31 (ρ 10) (ρ 12)) w fun x46 w => VK Try.prog (Instr.loadAt 39 x46) w fun x47 w => VK Try.prog (Instr.buildSlice 31 1 [(0, x47)].toArray) w fun x48 w => IK Try.prog .append #[31, 31] 31 [false, false] [(ρ 9), x48] w fun x49 w => K .normal (up (up (up (up (up (up (up (up ρ 43 (ρ 9)) 44 (ρ 10)) 45 (ρ 12)) 46 x46) 47 x47) 48 x48) 49 x49) 9 x49) w) (K .normal ρ w)
theorem dispatcherref14_Posted_all_R6_eq (z : At) (K : Exit → Sl → World → Prop) (ρ : Sl) (w : World) : sx z Try.prog 51 dispatcherref14_Posted_all_R6 K ρ w = dispatcherref14_Posted_all_R6_F z K ρ w := by kernel_rfl
noncomputable def dispatcherref14_Posted_all_F (a0 a1 a2 a3 : Value) (w : World) (R : Value → World → Prop) : Prop :=
  VK Try.prog (Instr.box 24 a2) w fun x6 w => CK Try.prog (Value.func (Fn.func 37) #[] #[]) [a1] w fun x14 w => W fn_ Try.prog 51 (Code.loop dispatcherref14_Posted_all_L0) (blkK 0 (seqK (sx fn_ Try.prog 51 dispatcherref14_Posted_all_R1 (retK Try.prog [ResultVar.tmp 8] R)) (retK Try.prog [ResultVar.tmp 8] R))) (up (up (up (up (up (up (up (rho0 [a0, a1, a2, a3]) 6 x6) 8 (Value.slice none 0 0)) 9 (Value.slice none 0 0)) 13 a1) 14 x14) 10 x14) 11 (Value.int .i64 0)) w
theorem dispatcherref14_Posted_all_eq (a0 a1 a2 a3 : Value) (w : World) (R : Value → World → Prop) : sx fn_ Try.prog 51 dispatcherref14_Posted_all_b (retK Try.prog Try.f58.results.toList R) (rho0 [a0, a1, a2, a3]) w = dispatcherref14_Posted_all_F a0 a1 a2 a3 w R := by kernel_rfl
theorem dispatcherref14_Posted_all_calls {a0 a1 a2 a3 : Value} {w : World} {R : Value → World → Prop} (h : dispatcherref14_Posted_all_F a0 a1 a2 a3 w R) : Calls Try.prog 58 #[a0, a1, a2, a3] w fun e w' => ∃ v, e = .returned v ∧ R v w' :=
  Go.X.calls_of_sx (n := 51) (c := dispatcherref14_Posted_all_b) Try.func58 (by kernel_rfl) (by kernel_rfl) (Nat.le_of_ble_eq_true rfl) (by kernel_rfl) (Eq.mpr (dispatcherref14_Posted_all_eq a0 a1 a2 a3 w R) h)
noncomputable def slices_ContainsFunc_posted_Receive_posted_Receive_b : Code := (Try.f64.body).getD .skip
noncomputable def slices_ContainsFunc_posted_Receive_posted_Receive_F (a0 a1 : Value) (w : World) (R : Value → World → Prop) : Prop :=
  CK Try.prog (Value.func (Fn.func 66) #[] #[]) [a0, a1] w fun x7 w => BK Try.prog .geq 3 (.tmp 7) (.const (Value.int .i64 0)) x7 (Value.int .i64 0) w fun x8 w => R x8 w
theorem slices_ContainsFunc_posted_Receive_posted_Receive_eq (a0 a1 : Value) (w : World) (R : Value → World → Prop) : sx fn_ Try.prog 9 slices_ContainsFunc_posted_Receive_posted_Receive_b (retK Try.prog Try.f64.results.toList R) (rho0 [a0, a1]) w = slices_ContainsFunc_posted_Receive_posted_Receive_F a0 a1 w R := by kernel_rfl
theorem slices_ContainsFunc_posted_Receive_posted_Receive_calls {a0 a1 : Value} {w : World} {R : Value → World → Prop} (h : slices_ContainsFunc_posted_Receive_posted_Receive_F a0 a1 w R) : Calls Try.prog 64 #[a0, a1] w fun e w' => ∃ v, e = .returned v ∧ R v w' :=
  Go.X.calls_of_sx (n := 9) (c := slices_ContainsFunc_posted_Receive_posted_Receive_b) Try.func64 (by kernel_rfl) (by kernel_rfl) (Nat.le_of_ble_eq_true rfl) (by kernel_rfl) (Eq.mpr (slices_ContainsFunc_posted_Receive_posted_Receive_eq a0 a1 w R) h)
noncomputable def posted_free_1_b : Code := (Try.f65.body).getD .skip
noncomputable def posted_free_1_F (a0 a1 : Value) (w : World) (R : Value → World → Prop) : Prop :=
  VK Try.prog (Instr.box 24 a0) w fun x2 w => VK Try.prog (Instr.loadAt 24 x2) w fun x4 w => VK Try.prog (Instr.loadAt 39 a1) w fun x5 w => CK Try.prog (Value.func (Fn.func 48) #[] #[]) [x4, x5] w fun x6 w => R x6 w
theorem posted_free_1_eq (a0 a1 : Value) (w : World) (R : Value → World → Prop) : sx fn_ Try.prog 7 posted_free_1_b (retK Try.prog Try.f65.results.toList R) (rho0 [a0, a1]) w = posted_free_1_F a0 a1 w R := by kernel_rfl
theorem posted_free_1_calls {a0 a1 : Value} {w : World} {R : Value → World → Prop} (h : posted_free_1_F a0 a1 w R) : Calls Try.prog 65 #[a0, a1] w fun e w' => ∃ v, e = .returned v ∧ R v w' :=
  Go.X.calls_of_sx (n := 7) (c := posted_free_1_b) Try.func65 (by kernel_rfl) (by kernel_rfl) (Nat.le_of_ble_eq_true rfl) (by kernel_rfl) (Eq.mpr (posted_free_1_eq a0 a1 w R) h)
noncomputable def slices_IndexFunc_posted_Receive_posted_Receive_b : Code := (Try.f66.body).getD .skip
noncomputable def slices_IndexFunc_posted_Receive_posted_Receive_L0 : Code := cAt [1, 0, 1, 0, 0] slices_IndexFunc_posted_Receive_posted_Receive_b
noncomputable def slices_IndexFunc_posted_Receive_posted_Receive_R1 : Code := cAt [1, 1] slices_IndexFunc_posted_Receive_posted_Receive_b
noncomputable def slices_IndexFunc_posted_Receive_posted_Receive_L0_F (z : At) (K : Exit → Sl → World → Prop) (ρ : Sl) (w : World) : Prop :=
  BK Try.prog .lss 3 (.tmp 8) (.tmp 7) (ρ 8) (ρ 7) w fun x9 w => CondK x9 (VK Try.prog (Instr.indexAt 41 (ρ 0) (ρ 8)) w fun x14 w => VK Try.prog (Instr.loadAt 24 x14) w fun x15 w => CK Try.prog (ρ 1) [x15] w fun x16 w => CondK x16 (K .ret (up (up (up (up (up (up (up (up (up (up (up ρ 9 x9) 10 (ρ 8)) 5 (ρ 8)) 11 (ρ 1)) 12 (ρ 0)) 13 (ρ 8)) 14 x14) 15 x15) 16 x16) 17 (ρ 8)) 4 (ρ 8)) w) (BK Try.prog .add 3 (.tmp 8) (.const (Value.int .i64 1)) (ρ 8) (Value.int .i64 1) w fun x18 w => K .normal (up (up (up (up (up (up (up (up (up (up (up ρ 9 x9) 10 (ρ 8)) 5 (ρ 8)) 11 (ρ 1)) 12 (ρ 0)) 13 (ρ 8)) 14 x14) 15 x15) 16 x16) 18 x18) 8 x18) w)) (K (.exit 0) (up ρ 9 x9) w)
theorem slices_IndexFunc_posted_Receive_posted_Receive_L0_eq (z : At) (K : Exit → Sl → World → Prop) (ρ : Sl) (w : World) : sx z Try.prog 19 slices_IndexFunc_posted_Receive_posted_Receive_L0 K ρ w = slices_IndexFunc_posted_Receive_posted_Receive_L0_F z K ρ w := by kernel_rfl
theorem slices_IndexFunc_posted_Receive_posted_Receive_L0_ok : dstOk 19 slices_IndexFunc_posted_Receive_posted_Receive_L0 = true := by kernel_rfl
noncomputable def slices_IndexFunc_posted_Receive_posted_Receive_R1_F (z : At) (K : Exit → Sl → World → Prop) (ρ : Sl) (w : World) : Prop :=
  K .ret (up ρ 4 (Value.int .i64 (-1))) w
theorem slices_IndexFunc_posted_Receive_posted_Receive_R1_eq (z : At) (K : Exit → Sl → World → Prop) (ρ : Sl) (w : World) : sx z Try.prog 19 slices_IndexFunc_posted_Receive_posted_Receive_R1 K ρ w = slices_IndexFunc_posted_Receive_posted_Receive_R1_F z K ρ w := by kernel_rfl
noncomputable def slices_IndexFunc_posted_Receive_posted_Receive_F (a0 a1 : Value) (w : World) (R : Value → World → Prop) : Prop :=
  IK Try.prog .len #[41] 3 [false] [a0] w fun x7 w => W fn_ Try.prog 19 (Code.loop slices_IndexFunc_posted_Receive_posted_Receive_L0) (blkK 0 (seqK (sx fn_ Try.prog 19 slices_IndexFunc_posted_Receive_posted_Receive_R1 (retK Try.prog [ResultVar.tmp 4] R)) (retK Try.prog [ResultVar.tmp 4] R))) (up (up (up (up (rho0 [a0, a1]) 4 (Value.int .i64 0)) 6 a0) 7 x7) 8 (Value.int .i64 0)) w
theorem slices_IndexFunc_posted_Receive_posted_Receive_eq (a0 a1 : Value) (w : World) (R : Value → World → Prop) : sx fn_ Try.prog 19 slices_IndexFunc_posted_Receive_posted_Receive_b (retK Try.prog Try.f66.results.toList R) (rho0 [a0, a1]) w = slices_IndexFunc_posted_Receive_posted_Receive_F a0 a1 w R := by kernel_rfl
theorem slices_IndexFunc_posted_Receive_posted_Receive_calls {a0 a1 : Value} {w : World} {R : Value → World → Prop} (h : slices_IndexFunc_posted_Receive_posted_Receive_F a0 a1 w R) : Calls Try.prog 66 #[a0, a1] w fun e w' => ∃ v, e = .returned v ∧ R v w' :=
  Go.X.calls_of_sx (n := 19) (c := slices_IndexFunc_posted_Receive_posted_Receive_b) Try.func66 (by kernel_rfl) (by kernel_rfl) (Nat.le_of_ble_eq_true rfl) (by kernel_rfl) (Eq.mpr (slices_IndexFunc_posted_Receive_posted_Receive_eq a0 a1 w R) h)
noncomputable def posted_Posted_place_1_b : Code := (Try.f67.body).getD .skip
noncomputable def posted_Posted_place_1_F (a0 a1 : Value) (w : World) (R : Value → World → Prop) : Prop :=
  VK Try.prog (Instr.box 24 a0) w fun x2 w => VK Try.prog (Instr.fieldAt 24 x2 2) w fun x4 w => VK Try.prog (Instr.loadAt 3 x4) w fun x5 w => VK Try.prog (Instr.loadAt 3 a1) w fun x6 w => BK Try.prog .eql 3 (.tmp 5) (.tmp 6) x5 x6 w fun x7 w => R x7 w
theorem posted_Posted_place_1_eq (a0 a1 : Value) (w : World) (R : Value → World → Prop) : sx fn_ Try.prog 8 posted_Posted_place_1_b (retK Try.prog Try.f67.results.toList R) (rho0 [a0, a1]) w = posted_Posted_place_1_F a0 a1 w R := by kernel_rfl
theorem posted_Posted_place_1_calls {a0 a1 : Value} {w : World} {R : Value → World → Prop} (h : posted_Posted_place_1_F a0 a1 w R) : Calls Try.prog 67 #[a0, a1] w fun e w' => ∃ v, e = .returned v ∧ R v w' :=
  Go.X.calls_of_sx (n := 8) (c := posted_Posted_place_1_b) Try.func67 (by kernel_rfl) (by kernel_rfl) (Nat.le_of_ble_eq_true rfl) (by kernel_rfl) (Eq.mpr (posted_Posted_place_1_eq a0 a1 w R) h)
noncomputable def dispatcherref14_Posted_its_b : Code := (Try.f73.body).getD .skip
noncomputable def dispatcherref14_Posted_its_L0 : Code := cAt [1, 1, 1, 0, 1, 0, 0] dispatcherref14_Posted_its_b
noncomputable def dispatcherref14_Posted_its_R1 : Code := cAt [1, 1, 1, 1] dispatcherref14_Posted_its_b
noncomputable def dispatcherref14_Posted_its_R2 : Code := cAt [1, 1, 1, 0, 1, 0, 0, 1, 0, 0, 0] dispatcherref14_Posted_its_b
noncomputable def dispatcherref14_Posted_its_R3 : Code := cAt [1, 1, 1, 0, 1, 0, 0, 1, 0, 0, 1] dispatcherref14_Posted_its_b
noncomputable def dispatcherref14_Posted_its_R4 : Code := cAt [1, 1, 1, 0, 1, 0, 0, 1, 1] dispatcherref14_Posted_its_b
noncomputable def dispatcherref14_Posted_its_L5 : Code := cAt [1, 1, 1, 1, 1, 0, 1, 0, 0] dispatcherref14_Posted_its_b
noncomputable def dispatcherref14_Posted_its_R6 : Code := cAt [1, 1, 1, 1, 1, 1] dispatcherref14_Posted_its_b
noncomputable def dispatcherref14_Posted_its_R7 : Code := cAt [1, 1, 1, 1, 1, 0, 1, 0, 0, 1, 0, 0, 0] dispatcherref14_Posted_its_b
noncomputable def dispatcherref14_Posted_its_R8 : Code := cAt [1, 1, 1, 1, 1, 0, 1, 0, 0, 1, 0, 0, 1] dispatcherref14_Posted_its_b
noncomputable def dispatcherref14_Posted_its_R9 : Code := cAt [1, 1, 1, 1, 1, 0, 1, 0, 0, 1, 1] dispatcherref14_Posted_its_b
noncomputable def dispatcherref14_Posted_its_L0_F (z : At) (K : Exit → Sl → World → Prop) (ρ : Sl) (w : World) : Prop :=
  IK Try.prog .len #[31] 3 [false] [(ρ 11)] w fun x28 w => BK Try.prog .lss 3 (.tmp 26) (.tmp 28) (ρ 12) x28 w fun x29 w => CondK x29 (W z Try.prog 67 dispatcherref14_Posted_its_R2 (seqK (sx z Try.prog 67 dispatcherref14_Posted_its_R3 (blkK 1 (seqK (sx z Try.prog 67 dispatcherref14_Posted_its_R4 K) K))) (blkK 1 (seqK (sx z Try.prog 67 dispatcherref14_Posted_its_R4 K) K))) (up (up (up (up ρ 26 (ρ 12)) 27 (ρ 11)) 28 x28) 29 x29) w) (K (.exit 0) (up (up (up (up ρ 26 (ρ 12)) 27 (ρ 11)) 28 x28) 29 x29) w)
theorem dispatcherref14_Posted_its_L0_eq (z : At) (K : Exit → Sl → World → Prop) (ρ : Sl) (w : World) : sx z Try.prog 67 dispatcherref14_Posted_its_L0 K ρ w = dispatcherref14_Posted_its_L0_F z K ρ w := by kernel_rfl
theorem dispatcherref14_Posted_its_L0_ok : dstOk 67 dispatcherref14_Posted_its_L0 = true := by kernel_rfl
noncomputable def dispatcherref14_Posted_its_R1_F (z : At) (K : Exit → Sl → World → Prop) (ρ : Sl) (w : World) : Prop :=
  VK Try.prog (Instr.fieldAt 24 (ρ 7) 1) w fun x39 w => VK Try.prog (Instr.loadAt 3 x39) w fun x40 w => CK Try.prog (Value.func (Fn.func 35) #[] #[]) [(ρ 0), x40] w fun x41 w => W z Try.prog 67 (Code.loop dispatcherref14_Posted_its_L5) (blkK 2 (seqK (sx z Try.prog 67 dispatcherref14_Posted_its_R6 K) K)) (up (up (up (up (up (up ρ 38 (ρ 0)) 39 x39) 40 x40) 41 x41) 13 x41) 14 (Value.int .i64 0)) w
theorem dispatcherref14_Posted_its_R1_eq (z : At) (K : Exit → Sl → World → Prop) (ρ : Sl) (w : World) : sx z Try.prog 67 dispatcherref14_Posted_its_R1 K ρ w = dispatcherref14_Posted_its_R1_F z K ρ w := by kernel_rfl
noncomputable def dispatcherref14_Posted_its_R2_ops : Array Oper := opsOf dispatcherref14_Posted_its_R2
def dispatcherref14_Posted_its_R2_T (K : Exit → Sl → World → Prop) (ρ : Sl) (w : World) : Prop :=
  let C : World → Prop := fun w' => w' = w; QK Try.prog C (do pure (Next.value (← Instr.loadAt 24 (ρ 7)))) fun x32_1 => QK Try.prog C (do pure (Next.value (← Instr.indexAt 31 (ρ 11) (ρ 12)))) fun x35_1 => QK Try.prog C (do pure (Next.value (← Instr.loadAt 39 x35_1))) fun x36_1 => CK Try.prog (Value.func (Fn.func 38) #[] #[]) [x32_1, x36_1] w fun x37_1 w => K Exit.normal (up (up (up (up (up (up ρ 32 x32_1) 33 (ρ 11)) 34 (ρ 12)) 35 x35_1) 36 x36_1) 37 x37_1) w
theorem dispatcherref14_Posted_its_R2_tail {D : List Deferred} {K : Exit → Sl → World → Prop} {ρ : Sl} {w : World} (h : dispatcherref14_Posted_its_R2_T K ρ { w with drawn := w.drawn + 1 }) : W ⟨none, D⟩ Try.prog 67 dispatcherref14_Posted_its_R2 K ρ w := by
  have e : dispatcherref14_Posted_its_R2 = .region (idOf dispatcherref14_Posted_its_R2) dispatcherref14_Posted_its_R2_ops true := by kernel_rfl
  have q : sxq Try.prog (fun w' => w' = { w with drawn := w.drawn + 1 }) dispatcherref14_Posted_its_R2_ops (fun ρ' => sxL Try.prog dispatcherref14_Posted_its_R2_ops (K .normal) (dispatcherref14_Posted_its_R2_ops.toList.drop 5) ρ' { w with drawn := w.drawn + 1 }) (dispatcherref14_Posted_its_R2_ops.toList.take 5) ρ = dispatcherref14_Posted_its_R2_T K ρ { w with drawn := w.drawn + 1 } := by kernel_rfl
  rw [e]
  exact W_tail 5 (by kernel_rfl) (by kernel_rfl) (by kernel_rfl) (by kernel_rfl) (Eq.mpr q h)
noncomputable def dispatcherref14_Posted_its_R3_F (z : At) (K : Exit → Sl → World → Prop) (ρ : Sl) (w : World) : Prop :=
  CondK (ρ 37) (K .ret (up ρ 10 (Value.bool false)) w) (K .normal ρ w)
theorem dispatcherref14_Posted_its_R3_eq (z : At) (K : Exit → Sl → World → Prop) (ρ : Sl) (w : World) : sx z Try.prog 67 dispatcherref14_Posted_its_R3 K ρ w = dispatcherref14_Posted_its_R3_F z K ρ w := by kernel_rfl
noncomputable def dispatcherref14_Posted_its_R4_F (z : At) (K : Exit → Sl → World → Prop) (ρ : Sl) (w : World) : Prop :=
  BK Try.prog .add 3 (.tmp 30) (.const (Value.int .i64 1)) (ρ 12) (Value.int .i64 1) w fun x31 w => K .normal (up (up (up ρ 30 (ρ 12)) 31 x31) 12 x31) w
theorem dispatcherref14_Posted_its_R4_eq (z : At) (K : Exit → Sl → World → Prop) (ρ : Sl) (w : World) : sx z Try.prog 67 dispatcherref14_Posted_its_R4 K ρ w = dispatcherref14_Posted_its_R4_F z K ρ w := by kernel_rfl
noncomputable def dispatcherref14_Posted_its_L5_F (z : At) (K : Exit → Sl → World → Prop) (ρ : Sl) (w : World) : Prop :=
  IK Try.prog .len #[41] 3 [false] [(ρ 13)] w fun x44 w => BK Try.prog .lss 3 (.tmp 42) (.tmp 44) (ρ 14) x44 w fun x45 w => CondK x45 (W z Try.prog 67 dispatcherref14_Posted_its_R7 (seqK (sx z Try.prog 67 dispatcherref14_Posted_its_R8 (blkK 3 (seqK (sx z Try.prog 67 dispatcherref14_Posted_its_R9 K) K))) (blkK 3 (seqK (sx z Try.prog 67 dispatcherref14_Posted_its_R9 K) K))) (up (up (up (up ρ 42 (ρ 14)) 43 (ρ 13)) 44 x44) 45 x45) w) (K (.exit 2) (up (up (up (up ρ 42 (ρ 14)) 43 (ρ 13)) 44 x44) 45 x45) w)
theorem dispatcherref14_Posted_its_L5_eq (z : At) (K : Exit → Sl → World → Prop) (ρ : Sl) (w : World) : sx z Try.prog 67 dispatcherref14_Posted_its_L5 K ρ w = dispatcherref14_Posted_its_L5_F z K ρ w := by kernel_rfl
theorem dispatcherref14_Posted_its_L5_ok : dstOk 67 dispatcherref14_Posted_its_L5 = true := by kernel_rfl
noncomputable def dispatcherref14_Posted_its_R6_F (z : At) (K : Exit → Sl → World → Prop) (ρ : Sl) (w : World) : Prop :=
  K .ret (up ρ 10 (Value.bool true)) w
theorem dispatcherref14_Posted_its_R6_eq (z : At) (K : Exit → Sl → World → Prop) (ρ : Sl) (w : World) : sx z Try.prog 67 dispatcherref14_Posted_its_R6 K ρ w = dispatcherref14_Posted_its_R6_F z K ρ w := by kernel_rfl
noncomputable def dispatcherref14_Posted_its_R7_ops : Array Oper := opsOf dispatcherref14_Posted_its_R7
def dispatcherref14_Posted_its_R7_T (K : Exit → Sl → World → Prop) (ρ : Sl) (w : World) : Prop :=
  let C : World → Prop := fun w' => w' = w; QG Try.prog C (ρ 4) false  (pure (Next.value (ρ 13))) fun x50_1 => QG Try.prog C (ρ 4) false  (pure (Next.value (ρ 14))) fun x51_1 => QG Try.prog C (ρ 4) false  (do pure (Next.value (← Instr.indexAt 41 x50_1 x51_1))) fun x52_1 => QG Try.prog C (ρ 4) false  (do pure (Next.value (← Instr.fieldAt 24 x52_1 2))) fun x53_1 => QG Try.prog C (ρ 4) false  (do pure (Next.value (← Instr.loadAt 3 x53_1))) fun x54_1 => QG Try.prog C (ρ 4) false  (do pure (Next.value (← Instr.fieldAt 24 (ρ 7) 2))) fun x55_1 => QG Try.prog C (ρ 4) false  (do pure (Next.value (← Instr.loadAt 3 x55_1))) fun x56_1 => QG Try.prog C (ρ 4) false  (do pure (Next.value (← (do eqGuard BinOp.lss 3 (Operand.tmp 54) (Operand.tmp 56) x54_1 x56_1; binOp BinOp.lss 3 x54_1 x56_1)))) fun x57_1 => QK Try.prog C (do pure (Next.value (if ← asBool (ρ 4) then (Value.bool true) else x57_1))) fun x58_1 => QG Try.prog C x58_1 true  (pure (Next.value (ρ 13))) fun x60_1 => QG Try.prog C x58_1 true  (pure (Next.value (ρ 14))) fun x61_1 => QG Try.prog C x58_1 true  (do pure (Next.value (← Instr.indexAt 41 x60_1 x61_1))) fun x62_1 => QG Try.prog C x58_1 true  (do pure (Next.value (← Instr.loadAt 24 x62_1))) fun x63_1 => QG Try.prog C x58_1 true  (do pure (Next.value (← Instr.loadAt 39 (ρ 8)))) fun x64_1 => CG Try.prog x58_1 true (Value.func (Fn.func 38) #[] #[]) [x63_1, x64_1] w fun x65_1 w => PK Try.prog x58_1 x65_1 (Value.bool false) w fun x66_1 w => K Exit.normal (up (up (up (up (up (up (up (up (up (up (up (up (up (up (up (up (up (up (up ρ 48 (ρ 4)) 49 (ρ 4)) 50 x50_1) 51 x51_1) 52 x52_1) 53 x53_1) 54 x54_1) 55 x55_1) 56 x56_1) 57 x57_1) 58 x58_1) 59 x58_1) 60 x60_1) 61 x61_1) 62 x62_1) 63 x63_1) 64 x64_1) 65 x65_1) 66 x66_1) w
theorem dispatcherref14_Posted_its_R7_tail {D : List Deferred} {K : Exit → Sl → World → Prop} {ρ : Sl} {w : World} (h : dispatcherref14_Posted_its_R7_T K ρ { w with drawn := w.drawn + 1 }) : W ⟨none, D⟩ Try.prog 67 dispatcherref14_Posted_its_R7 K ρ w := by
  have e : dispatcherref14_Posted_its_R7 = .region (idOf dispatcherref14_Posted_its_R7) dispatcherref14_Posted_its_R7_ops true := by kernel_rfl
  have q : sxq Try.prog (fun w' => w' = { w with drawn := w.drawn + 1 }) dispatcherref14_Posted_its_R7_ops (fun ρ' => sxL Try.prog dispatcherref14_Posted_its_R7_ops (K .normal) (dispatcherref14_Posted_its_R7_ops.toList.drop 17) ρ' { w with drawn := w.drawn + 1 }) (dispatcherref14_Posted_its_R7_ops.toList.take 17) ρ = dispatcherref14_Posted_its_R7_T K ρ { w with drawn := w.drawn + 1 } := by kernel_rfl
  rw [e]
  exact W_tail 17 (by kernel_rfl) (by kernel_rfl) (by kernel_rfl) (by kernel_rfl) (Eq.mpr q h)
noncomputable def dispatcherref14_Posted_its_R8_F (z : At) (K : Exit → Sl → World → Prop) (ρ : Sl) (w : World) : Prop :=
  CondK (ρ 66) (K .ret (up ρ 10 (Value.bool false)) w) (K .normal ρ w)
theorem dispatcherref14_Posted_its_R8_eq (z : At) (K : Exit → Sl → World → Prop) (ρ : Sl) (w : World) : sx z Try.prog 67 dispatcherref14_Posted_its_R8 K ρ w = dispatcherref14_Posted_its_R8_F z K ρ w := by kernel_rfl
noncomputable def dispatcherref14_Posted_its_R9_F (z : At) (K : Exit → Sl → World → Prop) (ρ : Sl) (w : World) : Prop :=
  BK Try.prog .add 3 (.tmp 46) (.const (Value.int .i64 1)) (ρ 14) (Value.int .i64 1) w fun x47 w => K .normal (up (up (up ρ 46 (ρ 14)) 47 x47) 14 x47) w
theorem dispatcherref14_Posted_its_R9_eq (z : At) (K : Exit → Sl → World → Prop) (ρ : Sl) (w : World) : sx z Try.prog 67 dispatcherref14_Posted_its_R9 K ρ w = dispatcherref14_Posted_its_R9_F z K ρ w := by kernel_rfl
noncomputable def dispatcherref14_Posted_its_F (a0 a1 a2 a3 a4 : Value) (w : World) (R : Value → World → Prop) : Prop :=
  VK Try.prog (Instr.box 24 a2) w fun x7 w => VK Try.prog (Instr.box 39 a3) w fun x8 w => VK Try.prog (Instr.fieldAt 39 x8 7) w fun x15 w => VK Try.prog (Instr.loadAt 4 x15) w fun x16 w => VG Try.prog x16 false (Instr.loadAt 24 x7) w fun x18 w => VG Try.prog x16 false (Instr.loadAt 39 x8) w fun x19 w => CG Try.prog x16 false (Value.func (Fn.func 38) #[] #[]) [x18, x19] w fun x20 w => VG Try.prog x16 false (Op.unary UnOp.not x20) w fun x21 w => PK Try.prog x16 (Value.bool true) x21 w fun x22 w => CondK x22 (R (Value.bool false) w) (VK Try.prog (Instr.loadAt 39 x8) w fun x24 w => CK Try.prog (Value.func (Fn.func 81) #[] #[]) [a1, x24] w fun x25 w => W fn_ Try.prog 67 (Code.loop dispatcherref14_Posted_its_L0) (blkK 0 (seqK (sx fn_ Try.prog 67 dispatcherref14_Posted_its_R1 (retK Try.prog [ResultVar.tmp 10] R)) (retK Try.prog [ResultVar.tmp 10] R))) (up (up (up (up (up (up (up (up (up (up (up (up (up (up (up (up (rho0 [a0, a1, a2, a3, a4]) 7 x7) 8 x8) 10 (Value.bool false)) 15 x15) 16 x16) 17 x16) 18 x18) 19 x19) 20 x20) 21 x21) 22 x22) 23 a1) 24 x24) 25 x25) 11 x25) 12 (Value.int .i64 0)) w)
theorem dispatcherref14_Posted_its_eq (a0 a1 a2 a3 a4 : Value) (w : World) (R : Value → World → Prop) : sx fn_ Try.prog 67 dispatcherref14_Posted_its_b (retK Try.prog Try.f73.results.toList R) (rho0 [a0, a1, a2, a3, a4]) w = dispatcherref14_Posted_its_F a0 a1 a2 a3 a4 w R := by kernel_rfl
theorem dispatcherref14_Posted_its_calls {a0 a1 a2 a3 a4 : Value} {w : World} {R : Value → World → Prop} (h : dispatcherref14_Posted_its_F a0 a1 a2 a3 a4 w R) : Calls Try.prog 73 #[a0, a1, a2, a3, a4] w fun e w' => ∃ v, e = .returned v ∧ R v w' :=
  Go.X.calls_of_sx (n := 67) (c := dispatcherref14_Posted_its_b) Try.func73 (by kernel_rfl) (by kernel_rfl) (Nat.le_of_ble_eq_true rfl) (by kernel_rfl) (Eq.mpr (dispatcherref14_Posted_its_eq a0 a1 a2 a3 a4 w R) h)
end Go.Proofs.Ytmnkedgmpbcicaa.XG
set_option linter.unusedVariables false
set_option linter.unusedSimpArgs false
set_option maxRecDepth 8000
namespace Go.X
open Go Go.RowKit
structure Rc where
  key : List UInt8
  rank : Int
  call : Int
  peer : Int
  tag : Int
  req : Int
  done : Bool
  frm : Int
  seq : Int
deriving DecidableEq
def Rc.enc (r : Rc) : List Value := [strV r.key, .int .i64 r.rank, .int .i64 r.call, .int .i64 r.peer, .int .i64 r.tag, .int .i64 r.req, .bool r.done, .int .i64 r.frm, .int .i64 r.seq]
def zRc : Rc := ⟨[], 0, 0, 0, 0, 0, false, 0, 0⟩
theorem Rc.enc_len (m : Rc) : m.enc.length = 8 + 1 := rfl
theorem Rc.enc_one (m : Rc) : m.enc.toArray.all (·.oneCell') = true := by simp [Rc.enc, Value.oneCell', strV]
theorem Rc.enc_mem (l : List Rc) : ∀ u ∈ l.flatMap Rc.enc, u.oneCell' = true := by
  intro u hu
  obtain ⟨m, _, hm⟩ := List.mem_flatMap.1 hu
  have := Rc.enc_one m
  rw [Array.all_eq_true'] at this
  exact this u (by simpa using hm)
def wt (r : Rc) : Bool := !r.done
def fitsV (r : Rc) (m : Ms) : Bool := decide (r.key = m.key) && decide (r.rank = m.to) && (decide (r.peer = -1) || decide (r.peer = m.frm)) && (decide (r.tag = -1) || decide (r.tag = m.tag))
def idxR (p : Rc → Bool) (l : List Rc) : Int := match l.findIdx? p with | some j => j | none => -1
end Go.X
namespace Go.Proofs.Ytmnkedgmpbcicaa.Que
open Go Go.X Go.RowKit Go.Proofs.Ytmnkedgmpbcicaa.XF Go.Proofs.Ytmnkedgmpbcicaa.XG Go.Proofs.Ytmnkedgmpbcicaa.XK
abbrev tRc : TypeId := 24
abbrev tRcS : TypeId := 41
theorem vRcS : Try.prog.underlying tRcS = some (.slice tRc) := by kernel_rfl
theorem cRc : Try.prog.cellsOf tRc = 8 + 1 := by kernel_rfl
theorem iRc : (Try.prog.info? tRc).map (·.size) = some 9 := by kernel_rfl
theorem eRcS : elemOk Try.prog tRcS tRc 9 80 = true := by kernel_rfl
theorem zRc_z : (Try.prog.info? tRc).bind (·.zero) = some (.agg zRc.enc.toArray) := by kernel_rfl
def RcRow (w : World) (s : Value) (l : List Rc) : Prop := reads w (8 + 1) s l.length (l.flatMap Rc.enc)
theorem RcRow.mod {S : Nat → Prop} {w w' : World} {s : Value} {l : List Rc} (h : RcRow w s l) (hm : Mod S w w') (hS : ∀ k, sb s k → ¬ S k) : RcRow w' s l := reads_mod h hm fun k _ q => hS k q
theorem RcRow.calm {w w' : World} {s : Value} {l : List Rc} (h : RcRow w s l) (hm : Mod none_ w w') : RcRow w' s l := h.mod hm fun _ _ => id
theorem RcRow.nil (w : World) : RcRow w (.slice none 0 0) [] := reads_nil _ _
theorem ixRc {w : World} {s : Value} {l : List Rc} {i : Nat} {n : Int} {e : Rc} {K : Value → Value → World → Prop} (h : RcRow w s l) (hi : l[i]? = some e) (hn : n = (i : Int)) (hk : ∀ x, K x (.agg e.enc.toArray) w) :
    VK Try.prog (Instr.indexAt tRcS s (.int .i64 n)) w fun x w => VK Try.prog (Instr.loadAt tRc x) w (K x) := by
  subst hn
  have hlt : i < l.length := (List.getElem?_eq_some_iff.1 hi).1
  refine ixldA vRcS cRc Try.underlying24 rfl h (by omega) (by omega) fun x => ?_
  rw [show ((i : Int).toNat) = i by omega, fl_drop (k := 8 + 1) Rc.enc_len hi]
  exact hk x
theorem ixRcA {w : World} {s : Value} {l : List Rc} {i : Nat} {n : Int} {e : Rc} {K : Value → World → Prop} (h : RcRow w s l) (hi : l[i]? = some e) (hn : n = (i : Int)) (hk : ∀ a, (∀ j u, e.enc[j]? = some u → w.cell? (a.add j) = some u) → K (.pointer (some a)) w) :
    VK Try.prog (Instr.indexAt tRcS s (.int .i64 n)) w K := by
  subst hn
  have hlt : i < l.length := (List.getElem?_eq_some_iff.1 hi).1
  refine ixat vRcS cRc h (by omega) (by omega) fun a ha _ => hk a fun j u hu => ?_
  have hj : j < 8 + 1 := (List.getElem?_eq_some_iff.1 hu).1
  refine ha j u hj ?_
  rw [show ((i : Int).toNat) = i by omega, fl_get (k := 8 + 1) Rc.enc_len hi hj]
  exact hu
theorem appR {w : World} {v : Value} {xs : List Rc} {m : Rc} {B : Nat} {K : Value → Value → World → Prop} (ho : w.ownsRow B tRc 9 v xs.length (xs.flatMap Rc.enc)) (hB : B ≤ w.heap.size) (hl : xs.length ≤ 2000000)
    (hk : ∀ x v' w', w'.ownsRow B tRc 9 v' (xs ++ [m]).length ((xs ++ [m]).flatMap Rc.enc) → Mod (fun b => B ≤ b) w w' → K x v' w') :
    VK Try.prog (Instr.buildSlice tRcS 1 [(0, .agg m.enc.toArray)].toArray) w fun x w => IK Try.prog .append #[tRcS, tRcS] tRcS [false, false] [v, x] w (K x) := by
  refine bs_k (cs := m.enc.toArray) (by kernel_rfl) fun w1 hb1 hm1 hz1 => ?_
  refine ap_any eRcS (owns_mod ho hm1 fun _ _ => id) (reads_blk (size := 9) (n := 1) hb1 rfl) (fun u hu => Rc.enc_mem [m] u (by simpa using hu)) (by unfold maxLen; omega) (by omega) (by omega) fun v' w2 ho2 hm2 hv2 => ?_
  refine hk _ v' w2 ?_ ((hm1.mono fun _ _ z => z.elim).trans (hm2.mono fun b _ z => (owns_bd (owns_mod ho hm1 fun _ _ => id) b z.symm).1))
  rw [List.length_append, List.flatMap_append]
  simpa using ho2
abbrev RowR (w0 : World) (xs : List Rc) : Value → World → Prop := fun v w' => w'.ownsRow w0.heap.size tRc 9 v xs.length (xs.flatMap Rc.enc) ∧ Mod none_ w0 w'
theorem rcSlot_k {K : Value → World → Prop} {w : World} {m : Rc} (hk : ∀ w', w'.heap[w.heap.size]? = some (.cells m.enc.toArray tRc (0, 0)) → Mod none_ w w' → w'.heap.size = w.heap.size + 1 → K (.pointer (some ⟨w.heap.size, 0, none⟩)) w') : VK Try.prog (Instr.alloc tRc true (.tuple #[])) w fun x w => UK Try.prog (Instr.storeAt tRc x (.agg m.enc.toArray)) w fun _ w => K x w := by
  refine al_k (cs := zRc.enc.toArray) zRc_z rfl _ fun w1 hb1 hm1 hz1 => ?_
  refine stS (cs := m.enc.toArray) (old := zRc.enc.toArray) rfl rfl (by rw [iRc]; rfl) rfl (Rc.enc_one _) hb1 fun w2 hb2 hm2 hz2 => ?_
  exact hk w2 hb2 (hm1.fresh hm2 (Nat.le_refl _)) (by omega)
theorem waits_ok (w : World) (r : Rc) : Rt Try.prog 47 #[.agg r.enc.toArray] w fun v w' => v = .bool (wt r) ∧ Mod none_ w w' := by
  refine posted_Receive_waits_calls ?_
  unfold posted_Receive_waits_F
  refine box_k (cs := r.enc.toArray) rfl fun w1 hb1 hm1 hz1 => ?_
  have g : FO Try.prog w1 tRc 6 6 ⟨w.heap.size, 0, none⟩ 4 (.bool r.done) := FO.blk hb1 (by kernel_rfl) vB rfl rfl
  rw [g.e, not_ok]
  exact ⟨rfl, hm1⟩
theorem fits_ok (w : World) (r : Rc) (m : Ms) : Rt Try.prog 48 #[.agg r.enc.toArray, .agg m.enc.toArray] w fun v w' => v = .bool (fitsV r m) ∧ Mod none_ w w' := by
  refine posted_Receive_fits_calls ?_
  unfold posted_Receive_fits_F
  refine box_k (cs := r.enc.toArray) rfl fun w1 hb1 hm1 hz1 => ?_
  refine box_k (cs := m.enc.toArray) rfl fun w2 hb2 hm2 hz2 => ?_
  have hb1' := hm2.blk hb1 id
  have hmm := hm1.trans hm2
  have k0 : FO Try.prog w2 tRc 0 0 ⟨w.heap.size, 0, none⟩ 9 (strV r.key) := FO.blk hb1' (by kernel_rfl) vS rfl rfl
  have k1 : FO Try.prog w2 tRc 1 1 ⟨w.heap.size, 0, none⟩ 3 (.int .i64 r.rank) := FO.blk hb1' (by kernel_rfl) vI rfl rfl
  have k3 : FO Try.prog w2 tRc 3 3 ⟨w.heap.size, 0, none⟩ 3 (.int .i64 r.peer) := FO.blk hb1' (by kernel_rfl) vI rfl rfl
  have k4 : FO Try.prog w2 tRc 4 4 ⟨w.heap.size, 0, none⟩ 3 (.int .i64 r.tag) := FO.blk hb1' (by kernel_rfl) vI rfl rfl
  have g0 : FO Try.prog w2 tMs 0 0 ⟨w1.heap.size, 0, none⟩ 9 (strV m.key) := FO.blk hb2 (by kernel_rfl) vS rfl rfl
  have g1 : FO Try.prog w2 tMs 1 1 ⟨w1.heap.size, 0, none⟩ 3 (.int .i64 m.frm) := FO.blk hb2 (by kernel_rfl) vI rfl rfl
  have g2 : FO Try.prog w2 tMs 2 2 ⟨w1.heap.size, 0, none⟩ 3 (.int .i64 m.to) := FO.blk hb2 (by kernel_rfl) vI rfl rfl
  have g4 : FO Try.prog w2 tMs 4 4 ⟨w1.heap.size, 0, none⟩ 3 (.int .i64 m.tag) := FO.blk hb2 (by kernel_rfl) vI rfl rfl
  have fin : ∀ b, fitsV r m = b → (Value.bool b = .bool (fitsV r m) ∧ Mod none_ w w2) := fun b hb => ⟨by rw [hb], hmm⟩
  rw [k0.e, g0.e, BK_eqlL]
  by_cases c0 : r.key = m.key
  · rw [decide_eq_true c0]
    try simp only [↓VG_u, ↓UG_u, ↓MG_u, ↓NG_u, ↓PG_u, ↓BG_u, ↓CG_u, ↓IG_u, ↓VGtt, ↓VGtf, ↓VGft, ↓VGff, ↓UGtt, ↓UGtf, ↓UGft, ↓UGff, ↓MGtt, ↓MGtf, ↓MGft, ↓MGff, ↓NGtt, ↓NGtf, ↓NGft, ↓NGff, ↓PGtt, ↓PGtf, ↓PGft, ↓PGff, ↓BGtt, ↓BGtf, ↓BGft, ↓BGff, ↓CGtt, ↓CGtf, ↓CGft, ↓CGff, ↓IGtt, ↓IGtf, ↓IGft, ↓IGff, ↓PKt, ↓PKf, ↓CDt, ↓CDf, ↓NOTt, ↓NOTf, ↓NK_ptr]
    rw [k1.e]
    try simp only [↓VG_u, ↓UG_u, ↓MG_u, ↓NG_u, ↓PG_u, ↓BG_u, ↓CG_u, ↓IG_u, ↓VGtt, ↓VGtf, ↓VGft, ↓VGff, ↓UGtt, ↓UGtf, ↓UGft, ↓UGff, ↓MGtt, ↓MGtf, ↓MGft, ↓MGff, ↓NGtt, ↓NGtf, ↓NGft, ↓NGff, ↓PGtt, ↓PGtf, ↓PGft, ↓PGff, ↓BGtt, ↓BGtf, ↓BGft, ↓BGff, ↓CGtt, ↓CGtf, ↓CGft, ↓CGff, ↓IGtt, ↓IGtf, ↓IGft, ↓IGff, ↓PKt, ↓PKf, ↓CDt, ↓CDf, ↓NOTt, ↓NOTf, ↓NK_ptr]
    rw [g2.e]
    try simp only [↓VG_u, ↓UG_u, ↓MG_u, ↓NG_u, ↓PG_u, ↓BG_u, ↓CG_u, ↓IG_u, ↓VGtt, ↓VGtf, ↓VGft, ↓VGff, ↓UGtt, ↓UGtf, ↓UGft, ↓UGff, ↓MGtt, ↓MGtf, ↓MGft, ↓MGff, ↓NGtt, ↓NGtf, ↓NGft, ↓NGff, ↓PGtt, ↓PGtf, ↓PGft, ↓PGff, ↓BGtt, ↓BGtf, ↓BGft, ↓BGff, ↓CGtt, ↓CGtf, ↓CGft, ↓CGff, ↓IGtt, ↓IGtf, ↓IGft, ↓IGff, ↓PKt, ↓PKf, ↓CDt, ↓CDf, ↓NOTt, ↓NOTf, ↓NK_ptr]
    by_cases c1 : r.rank = m.to
    · rw [EQt c1]
      try simp only [↓VG_u, ↓UG_u, ↓MG_u, ↓NG_u, ↓PG_u, ↓BG_u, ↓CG_u, ↓IG_u, ↓VGtt, ↓VGtf, ↓VGft, ↓VGff, ↓UGtt, ↓UGtf, ↓UGft, ↓UGff, ↓MGtt, ↓MGtf, ↓MGft, ↓MGff, ↓NGtt, ↓NGtf, ↓NGft, ↓NGff, ↓PGtt, ↓PGtf, ↓PGft, ↓PGff, ↓BGtt, ↓BGtf, ↓BGft, ↓BGff, ↓CGtt, ↓CGtf, ↓CGft, ↓CGff, ↓IGtt, ↓IGtf, ↓IGft, ↓IGff, ↓PKt, ↓PKf, ↓CDt, ↓CDf, ↓NOTt, ↓NOTf, ↓NK_ptr]
      rw [k3.e]
      try simp only [↓VG_u, ↓UG_u, ↓MG_u, ↓NG_u, ↓PG_u, ↓BG_u, ↓CG_u, ↓IG_u, ↓VGtt, ↓VGtf, ↓VGft, ↓VGff, ↓UGtt, ↓UGtf, ↓UGft, ↓UGff, ↓MGtt, ↓MGtf, ↓MGft, ↓MGff, ↓NGtt, ↓NGtf, ↓NGft, ↓NGff, ↓PGtt, ↓PGtf, ↓PGft, ↓PGff, ↓BGtt, ↓BGtf, ↓BGft, ↓BGff, ↓CGtt, ↓CGtf, ↓CGft, ↓CGff, ↓IGtt, ↓IGtf, ↓IGft, ↓IGff, ↓PKt, ↓PKf, ↓CDt, ↓CDf, ↓NOTt, ↓NOTf, ↓NK_ptr]
      have last : fitsV r m = ((decide (r.peer = -1) || decide (r.peer = m.frm)) && (decide (r.tag = -1) || decide (r.tag = m.tag))) := by unfold fitsV; rw [decide_eq_true c0, decide_eq_true c1]; rfl
      by_cases c2 : r.peer = -1
      · rw [EQt c2]
        try simp only [↓VG_u, ↓UG_u, ↓MG_u, ↓NG_u, ↓PG_u, ↓BG_u, ↓CG_u, ↓IG_u, ↓VGtt, ↓VGtf, ↓VGft, ↓VGff, ↓UGtt, ↓UGtf, ↓UGft, ↓UGff, ↓MGtt, ↓MGtf, ↓MGft, ↓MGff, ↓NGtt, ↓NGtf, ↓NGft, ↓NGff, ↓PGtt, ↓PGtf, ↓PGft, ↓PGff, ↓BGtt, ↓BGtf, ↓BGft, ↓BGff, ↓CGtt, ↓CGtf, ↓CGft, ↓CGff, ↓IGtt, ↓IGtf, ↓IGft, ↓IGff, ↓PKt, ↓PKf, ↓CDt, ↓CDf, ↓NOTt, ↓NOTf, ↓NK_ptr]
        rw [k4.e]
        try simp only [↓VG_u, ↓UG_u, ↓MG_u, ↓NG_u, ↓PG_u, ↓BG_u, ↓CG_u, ↓IG_u, ↓VGtt, ↓VGtf, ↓VGft, ↓VGff, ↓UGtt, ↓UGtf, ↓UGft, ↓UGff, ↓MGtt, ↓MGtf, ↓MGft, ↓MGff, ↓NGtt, ↓NGtf, ↓NGft, ↓NGff, ↓PGtt, ↓PGtf, ↓PGft, ↓PGff, ↓BGtt, ↓BGtf, ↓BGft, ↓BGff, ↓CGtt, ↓CGtf, ↓CGft, ↓CGff, ↓IGtt, ↓IGtf, ↓IGft, ↓IGff, ↓PKt, ↓PKf, ↓CDt, ↓CDf, ↓NOTt, ↓NOTf, ↓NK_ptr]
        by_cases c3 : r.tag = -1
        · rw [EQt c3]
          try simp only [↓VG_u, ↓UG_u, ↓MG_u, ↓NG_u, ↓PG_u, ↓BG_u, ↓CG_u, ↓IG_u, ↓VGtt, ↓VGtf, ↓VGft, ↓VGff, ↓UGtt, ↓UGtf, ↓UGft, ↓UGff, ↓MGtt, ↓MGtf, ↓MGft, ↓MGff, ↓NGtt, ↓NGtf, ↓NGft, ↓NGff, ↓PGtt, ↓PGtf, ↓PGft, ↓PGff, ↓BGtt, ↓BGtf, ↓BGft, ↓BGff, ↓CGtt, ↓CGtf, ↓CGft, ↓CGff, ↓IGtt, ↓IGtf, ↓IGft, ↓IGff, ↓PKt, ↓PKf, ↓CDt, ↓CDf, ↓NOTt, ↓NOTf, ↓NK_ptr]
          exact fin true (by rw [last, decide_eq_true c2, decide_eq_true c3]; rfl)
        · rw [EQf c3]
          try simp only [↓VG_u, ↓UG_u, ↓MG_u, ↓NG_u, ↓PG_u, ↓BG_u, ↓CG_u, ↓IG_u, ↓VGtt, ↓VGtf, ↓VGft, ↓VGff, ↓UGtt, ↓UGtf, ↓UGft, ↓UGff, ↓MGtt, ↓MGtf, ↓MGft, ↓MGff, ↓NGtt, ↓NGtf, ↓NGft, ↓NGff, ↓PGtt, ↓PGtf, ↓PGft, ↓PGff, ↓BGtt, ↓BGtf, ↓BGft, ↓BGff, ↓CGtt, ↓CGtf, ↓CGft, ↓CGff, ↓IGtt, ↓IGtf, ↓IGft, ↓IGff, ↓PKt, ↓PKf, ↓CDt, ↓CDf, ↓NOTt, ↓NOTf, ↓NK_ptr]
          rw [k4.e]
          try simp only [↓VG_u, ↓UG_u, ↓MG_u, ↓NG_u, ↓PG_u, ↓BG_u, ↓CG_u, ↓IG_u, ↓VGtt, ↓VGtf, ↓VGft, ↓VGff, ↓UGtt, ↓UGtf, ↓UGft, ↓UGff, ↓MGtt, ↓MGtf, ↓MGft, ↓MGff, ↓NGtt, ↓NGtf, ↓NGft, ↓NGff, ↓PGtt, ↓PGtf, ↓PGft, ↓PGff, ↓BGtt, ↓BGtf, ↓BGft, ↓BGff, ↓CGtt, ↓CGtf, ↓CGft, ↓CGff, ↓IGtt, ↓IGtf, ↓IGft, ↓IGff, ↓PKt, ↓PKf, ↓CDt, ↓CDf, ↓NOTt, ↓NOTf, ↓NK_ptr]
          rw [g4.e]
          try simp only [↓VG_u, ↓UG_u, ↓MG_u, ↓NG_u, ↓PG_u, ↓BG_u, ↓CG_u, ↓IG_u, ↓VGtt, ↓VGtf, ↓VGft, ↓VGff, ↓UGtt, ↓UGtf, ↓UGft, ↓UGff, ↓MGtt, ↓MGtf, ↓MGft, ↓MGff, ↓NGtt, ↓NGtf, ↓NGft, ↓NGff, ↓PGtt, ↓PGtf, ↓PGft, ↓PGff, ↓BGtt, ↓BGtf, ↓BGft, ↓BGff, ↓CGtt, ↓CGtf, ↓CGft, ↓CGff, ↓IGtt, ↓IGtf, ↓IGft, ↓IGff, ↓PKt, ↓PKf, ↓CDt, ↓CDf, ↓NOTt, ↓NOTf, ↓NK_ptr]
          rw [BK_eql]
          try simp only [↓VG_u, ↓UG_u, ↓MG_u, ↓NG_u, ↓PG_u, ↓BG_u, ↓CG_u, ↓IG_u, ↓VGtt, ↓VGtf, ↓VGft, ↓VGff, ↓UGtt, ↓UGtf, ↓UGft, ↓UGff, ↓MGtt, ↓MGtf, ↓MGft, ↓MGff, ↓NGtt, ↓NGtf, ↓NGft, ↓NGff, ↓PGtt, ↓PGtf, ↓PGft, ↓PGff, ↓BGtt, ↓BGtf, ↓BGft, ↓BGff, ↓CGtt, ↓CGtf, ↓CGft, ↓CGff, ↓IGtt, ↓IGtf, ↓IGft, ↓IGff, ↓PKt, ↓PKf, ↓CDt, ↓CDf, ↓NOTt, ↓NOTf, ↓NK_ptr]
          refine fin _ ?_
          rw [last, decide_eq_true c2, decide_eq_false c3]
          rfl
      · rw [EQf c2]
        try simp only [↓VG_u, ↓UG_u, ↓MG_u, ↓NG_u, ↓PG_u, ↓BG_u, ↓CG_u, ↓IG_u, ↓VGtt, ↓VGtf, ↓VGft, ↓VGff, ↓UGtt, ↓UGtf, ↓UGft, ↓UGff, ↓MGtt, ↓MGtf, ↓MGft, ↓MGff, ↓NGtt, ↓NGtf, ↓NGft, ↓NGff, ↓PGtt, ↓PGtf, ↓PGft, ↓PGff, ↓BGtt, ↓BGtf, ↓BGft, ↓BGff, ↓CGtt, ↓CGtf, ↓CGft, ↓CGff, ↓IGtt, ↓IGtf, ↓IGft, ↓IGff, ↓PKt, ↓PKf, ↓CDt, ↓CDf, ↓NOTt, ↓NOTf, ↓NK_ptr]
        rw [k3.e]
        try simp only [↓VG_u, ↓UG_u, ↓MG_u, ↓NG_u, ↓PG_u, ↓BG_u, ↓CG_u, ↓IG_u, ↓VGtt, ↓VGtf, ↓VGft, ↓VGff, ↓UGtt, ↓UGtf, ↓UGft, ↓UGff, ↓MGtt, ↓MGtf, ↓MGft, ↓MGff, ↓NGtt, ↓NGtf, ↓NGft, ↓NGff, ↓PGtt, ↓PGtf, ↓PGft, ↓PGff, ↓BGtt, ↓BGtf, ↓BGft, ↓BGff, ↓CGtt, ↓CGtf, ↓CGft, ↓CGff, ↓IGtt, ↓IGtf, ↓IGft, ↓IGff, ↓PKt, ↓PKf, ↓CDt, ↓CDf, ↓NOTt, ↓NOTf, ↓NK_ptr]
        rw [g1.e]
        try simp only [↓VG_u, ↓UG_u, ↓MG_u, ↓NG_u, ↓PG_u, ↓BG_u, ↓CG_u, ↓IG_u, ↓VGtt, ↓VGtf, ↓VGft, ↓VGff, ↓UGtt, ↓UGtf, ↓UGft, ↓UGff, ↓MGtt, ↓MGtf, ↓MGft, ↓MGff, ↓NGtt, ↓NGtf, ↓NGft, ↓NGff, ↓PGtt, ↓PGtf, ↓PGft, ↓PGff, ↓BGtt, ↓BGtf, ↓BGft, ↓BGff, ↓CGtt, ↓CGtf, ↓CGft, ↓CGff, ↓IGtt, ↓IGtf, ↓IGft, ↓IGff, ↓PKt, ↓PKf, ↓CDt, ↓CDf, ↓NOTt, ↓NOTf, ↓NK_ptr]
        by_cases c4 : r.peer = m.frm
        · rw [EQt c4]
          try simp only [↓VG_u, ↓UG_u, ↓MG_u, ↓NG_u, ↓PG_u, ↓BG_u, ↓CG_u, ↓IG_u, ↓VGtt, ↓VGtf, ↓VGft, ↓VGff, ↓UGtt, ↓UGtf, ↓UGft, ↓UGff, ↓MGtt, ↓MGtf, ↓MGft, ↓MGff, ↓NGtt, ↓NGtf, ↓NGft, ↓NGff, ↓PGtt, ↓PGtf, ↓PGft, ↓PGff, ↓BGtt, ↓BGtf, ↓BGft, ↓BGff, ↓CGtt, ↓CGtf, ↓CGft, ↓CGff, ↓IGtt, ↓IGtf, ↓IGft, ↓IGff, ↓PKt, ↓PKf, ↓CDt, ↓CDf, ↓NOTt, ↓NOTf, ↓NK_ptr]
          rw [k4.e]
          try simp only [↓VG_u, ↓UG_u, ↓MG_u, ↓NG_u, ↓PG_u, ↓BG_u, ↓CG_u, ↓IG_u, ↓VGtt, ↓VGtf, ↓VGft, ↓VGff, ↓UGtt, ↓UGtf, ↓UGft, ↓UGff, ↓MGtt, ↓MGtf, ↓MGft, ↓MGff, ↓NGtt, ↓NGtf, ↓NGft, ↓NGff, ↓PGtt, ↓PGtf, ↓PGft, ↓PGff, ↓BGtt, ↓BGtf, ↓BGft, ↓BGff, ↓CGtt, ↓CGtf, ↓CGft, ↓CGff, ↓IGtt, ↓IGtf, ↓IGft, ↓IGff, ↓PKt, ↓PKf, ↓CDt, ↓CDf, ↓NOTt, ↓NOTf, ↓NK_ptr]
          by_cases c3 : r.tag = -1
          · rw [EQt c3]
            try simp only [↓VG_u, ↓UG_u, ↓MG_u, ↓NG_u, ↓PG_u, ↓BG_u, ↓CG_u, ↓IG_u, ↓VGtt, ↓VGtf, ↓VGft, ↓VGff, ↓UGtt, ↓UGtf, ↓UGft, ↓UGff, ↓MGtt, ↓MGtf, ↓MGft, ↓MGff, ↓NGtt, ↓NGtf, ↓NGft, ↓NGff, ↓PGtt, ↓PGtf, ↓PGft, ↓PGff, ↓BGtt, ↓BGtf, ↓BGft, ↓BGff, ↓CGtt, ↓CGtf, ↓CGft, ↓CGff, ↓IGtt, ↓IGtf, ↓IGft, ↓IGff, ↓PKt, ↓PKf, ↓CDt, ↓CDf, ↓NOTt, ↓NOTf, ↓NK_ptr]
            exact fin true (by rw [last, decide_eq_true c4, decide_eq_true c3, Bool.or_true]; rfl)
          · rw [EQf c3]
            try simp only [↓VG_u, ↓UG_u, ↓MG_u, ↓NG_u, ↓PG_u, ↓BG_u, ↓CG_u, ↓IG_u, ↓VGtt, ↓VGtf, ↓VGft, ↓VGff, ↓UGtt, ↓UGtf, ↓UGft, ↓UGff, ↓MGtt, ↓MGtf, ↓MGft, ↓MGff, ↓NGtt, ↓NGtf, ↓NGft, ↓NGff, ↓PGtt, ↓PGtf, ↓PGft, ↓PGff, ↓BGtt, ↓BGtf, ↓BGft, ↓BGff, ↓CGtt, ↓CGtf, ↓CGft, ↓CGff, ↓IGtt, ↓IGtf, ↓IGft, ↓IGff, ↓PKt, ↓PKf, ↓CDt, ↓CDf, ↓NOTt, ↓NOTf, ↓NK_ptr]
            rw [k4.e]
            try simp only [↓VG_u, ↓UG_u, ↓MG_u, ↓NG_u, ↓PG_u, ↓BG_u, ↓CG_u, ↓IG_u, ↓VGtt, ↓VGtf, ↓VGft, ↓VGff, ↓UGtt, ↓UGtf, ↓UGft, ↓UGff, ↓MGtt, ↓MGtf, ↓MGft, ↓MGff, ↓NGtt, ↓NGtf, ↓NGft, ↓NGff, ↓PGtt, ↓PGtf, ↓PGft, ↓PGff, ↓BGtt, ↓BGtf, ↓BGft, ↓BGff, ↓CGtt, ↓CGtf, ↓CGft, ↓CGff, ↓IGtt, ↓IGtf, ↓IGft, ↓IGff, ↓PKt, ↓PKf, ↓CDt, ↓CDf, ↓NOTt, ↓NOTf, ↓NK_ptr]
            rw [g4.e]
            try simp only [↓VG_u, ↓UG_u, ↓MG_u, ↓NG_u, ↓PG_u, ↓BG_u, ↓CG_u, ↓IG_u, ↓VGtt, ↓VGtf, ↓VGft, ↓VGff, ↓UGtt, ↓UGtf, ↓UGft, ↓UGff, ↓MGtt, ↓MGtf, ↓MGft, ↓MGff, ↓NGtt, ↓NGtf, ↓NGft, ↓NGff, ↓PGtt, ↓PGtf, ↓PGft, ↓PGff, ↓BGtt, ↓BGtf, ↓BGft, ↓BGff, ↓CGtt, ↓CGtf, ↓CGft, ↓CGff, ↓IGtt, ↓IGtf, ↓IGft, ↓IGff, ↓PKt, ↓PKf, ↓CDt, ↓CDf, ↓NOTt, ↓NOTf, ↓NK_ptr]
            rw [BK_eql]
            try simp only [↓VG_u, ↓UG_u, ↓MG_u, ↓NG_u, ↓PG_u, ↓BG_u, ↓CG_u, ↓IG_u, ↓VGtt, ↓VGtf, ↓VGft, ↓VGff, ↓UGtt, ↓UGtf, ↓UGft, ↓UGff, ↓MGtt, ↓MGtf, ↓MGft, ↓MGff, ↓NGtt, ↓NGtf, ↓NGft, ↓NGff, ↓PGtt, ↓PGtf, ↓PGft, ↓PGff, ↓BGtt, ↓BGtf, ↓BGft, ↓BGff, ↓CGtt, ↓CGtf, ↓CGft, ↓CGff, ↓IGtt, ↓IGtf, ↓IGft, ↓IGff, ↓PKt, ↓PKf, ↓CDt, ↓CDf, ↓NOTt, ↓NOTf, ↓NK_ptr]
            refine fin _ ?_
            rw [last, decide_eq_true c4, decide_eq_false c3, Bool.or_true]
            rfl
        · rw [EQf c4]
          try simp only [↓VG_u, ↓UG_u, ↓MG_u, ↓NG_u, ↓PG_u, ↓BG_u, ↓CG_u, ↓IG_u, ↓VGtt, ↓VGtf, ↓VGft, ↓VGff, ↓UGtt, ↓UGtf, ↓UGft, ↓UGff, ↓MGtt, ↓MGtf, ↓MGft, ↓MGff, ↓NGtt, ↓NGtf, ↓NGft, ↓NGff, ↓PGtt, ↓PGtf, ↓PGft, ↓PGff, ↓BGtt, ↓BGtf, ↓BGft, ↓BGff, ↓CGtt, ↓CGtf, ↓CGft, ↓CGff, ↓IGtt, ↓IGtf, ↓IGft, ↓IGff, ↓PKt, ↓PKf, ↓CDt, ↓CDf, ↓NOTt, ↓NOTf, ↓NK_ptr]
          exact fin false (by rw [last, decide_eq_false c2, decide_eq_false c4]; rfl)
    · rw [EQf c1]
      try simp only [↓VG_u, ↓UG_u, ↓MG_u, ↓NG_u, ↓PG_u, ↓BG_u, ↓CG_u, ↓IG_u, ↓VGtt, ↓VGtf, ↓VGft, ↓VGff, ↓UGtt, ↓UGtf, ↓UGft, ↓UGff, ↓MGtt, ↓MGtf, ↓MGft, ↓MGff, ↓NGtt, ↓NGtf, ↓NGft, ↓NGff, ↓PGtt, ↓PGtf, ↓PGft, ↓PGff, ↓BGtt, ↓BGtf, ↓BGft, ↓BGff, ↓CGtt, ↓CGtf, ↓CGft, ↓CGff, ↓IGtt, ↓IGtf, ↓IGft, ↓IGff, ↓PKt, ↓PKf, ↓CDt, ↓CDf, ↓NOTt, ↓NOTf, ↓NK_ptr]
      exact fin false (by unfold fitsV; rw [decide_eq_true c0, decide_eq_false c1]; rfl)
  · rw [decide_eq_false c0]
    try simp only [↓VG_u, ↓UG_u, ↓MG_u, ↓NG_u, ↓PG_u, ↓BG_u, ↓CG_u, ↓IG_u, ↓VGtt, ↓VGtf, ↓VGft, ↓VGff, ↓UGtt, ↓UGtf, ↓UGft, ↓UGff, ↓MGtt, ↓MGtf, ↓MGft, ↓MGff, ↓NGtt, ↓NGtf, ↓NGft, ↓NGff, ↓PGtt, ↓PGtf, ↓PGft, ↓PGff, ↓BGtt, ↓BGtf, ↓BGft, ↓BGff, ↓CGtt, ↓CGtf, ↓CGft, ↓CGff, ↓IGtt, ↓IGtf, ↓IGft, ↓IGff, ↓PKt, ↓PKf, ↓CDt, ↓CDf, ↓NOTt, ↓NOTf, ↓NK_ptr]
    exact fin false (by unfold fitsV; rw [decide_eq_false c0]; rfl)
end Go.Proofs.Ytmnkedgmpbcicaa.Que
set_option linter.unusedVariables false
set_option linter.unusedSimpArgs false
set_option maxRecDepth 8000
namespace Go.Proofs.Ytmnkedgmpbcicaa.Que
open Go Go.X Go.RowKit Go.Proofs.Ytmnkedgmpbcicaa.XF Go.Proofs.Ytmnkedgmpbcicaa.XG Go.Proofs.Ytmnkedgmpbcicaa.XK
theorem kept_R2 {w : World} {K : Exit → Sl → World → Prop} {ρ : Sl} {n : Nat} (hn : n ≤ 1000000) (e10 : ρ 10 = .int .i64 n) (hk : ∀ ρ' : Sl, ρ' 10 = .int .i64 (n + 1 : Nat) → ρ' 9 = ρ 9 → ρ' 8 = ρ 8 → ρ' 1 = ρ 1 → ρ' 5 = ρ 5 → K .normal ρ' w) : sx fn_ Try.prog 23 posted_kept_posted_Receive_R2 K ρ w := by
  rw [posted_kept_posted_Receive_R2_eq]; unfold posted_kept_posted_Receive_R2_F
  rw [e10, BK_add, wrap_i (by omega) (by omega)]
  exact hk _ rfl rfl rfl rfl rfl
theorem kept_ok {w : World} {v : Value} {l : List Rc} (h : RcRow w v l) (hl : l.length ≤ 1000000) : Rt Try.prog 46 #[v, .func (.func 47) #[] #[]] w (RowR w (l.filter wt)) := by
  obtain ⟨A, c, hs, _⟩ := reads_cap h
  refine posted_kept_posted_Receive_calls ?_
  unfold posted_kept_posted_Receive_F
  rw [hs, len_sl vRcS, ← hs]
  refine W_loop posted_kept_posted_Receive_L0_ok (fun ρ w' => ∃ (n : Nat) (o : Value), n ≤ l.length ∧ ρ 10 = .int .i64 n ∧ ρ 9 = .int .i64 l.length ∧ ρ 8 = v ∧ ρ 1 = .func (.func 47) #[] #[] ∧ ρ 5 = o ∧ w'.ownsRow w.heap.size tRc 9 o ((l.take n).filter wt).length (((l.take n).filter wt).flatMap Rc.enc) ∧ Mod none_ w w') (fun ρ _ => l.length - (intOf (ρ 10)).toNat)
    ⟨0, .slice none 0 0, Nat.zero_le _, rfl, rfl, rfl, rfl, rfl, World.ownsRow_nil _ _ _ _, Mod.refl _ _⟩ ?_
  rintro ρ w1 ⟨n, o, hn, e10, e9, e8, e1, e5, hO, hm⟩
  rw [posted_kept_posted_Receive_L0_eq]; unfold posted_kept_posted_Receive_L0_F
  rw [e10, e9, e8, e1, e5, BK_lss]
  have hsz := hm.size
  by_cases hlt : n < l.length
  · rw [decide_eq_true (by omega)]
    refine condT ?_
    have hx : l[n]? = some l[n] := List.getElem?_eq_getElem hlt
    have etk : l.take (n + 1) = l.take n ++ [l[n]] := by rw [List.take_add_one, hx]; rfl
    generalize l[n] = x at *
    have hlen : ((l.take n).filter wt).length ≤ n := Nat.le_trans (List.length_filter_le _ _) (by rw [List.length_take]; omega)
    refine ixRc (h.calm hm) hx rfl fun y => ?_
    refine rcSlot_k fun w2 hb2 hm2 hz2 => ?_
    refine ldS rfl Try.underlying24 rfl (by rw [iRc]; rfl) hb2 ?_
    refine CK_st Try.func47 rfl rfl (waits_ok w2 x) ?_
    rintro _ w3 ⟨rfl, hm3⟩
    have hm13 := hm2.trans hm3
    refine caseC (fun q => ?_) (fun q => ?_)
    · refine ldS rfl Try.underlying24 rfl (by rw [iRc]; rfl) (hm3.blk hb2 id) ?_
      refine appR (owns_mod hO hm13 fun _ _ => id) (by have := hm13.size; omega) (by omega) fun _ o' w4 hO4 hm4 => ?_
      have ef : (l.take (n + 1)).filter wt = (l.take n).filter wt ++ [x] := by rw [etk, List.filter_append, List.filter_cons_of_pos q, List.filter_nil]
      rw [← ef] at hO4
      refine kept_R2 (by omega) (by first | exact e10 | rfl) fun ρ2 q10 q9 q8 q1 q5 => ⟨⟨n + 1, o', hlt, q10, q9.trans (by first | exact e9 | rfl), q8.trans (by first | exact e8 | rfl), q1.trans (by first | exact e1 | rfl), q5, hO4, (hm.trans hm13).then hm4 fun i hi z => by omega⟩, ?_⟩
      rw [q10]
      simp only [intOf]; omega
    · have ef : (l.take (n + 1)).filter wt = (l.take n).filter wt := by rw [etk, List.filter_append, List.filter_cons_of_neg (by rw [q]; decide), List.filter_nil, List.append_nil]
      rw [← ef] at hO
      refine kept_R2 (by omega) (by first | exact e10 | rfl) fun ρ2 q10 q9 q8 q1 q5 => ⟨⟨n + 1, o, hlt, q10, q9.trans (by first | exact e9 | rfl), q8.trans (by first | exact e8 | rfl), q1.trans (by first | exact e1 | rfl), q5.trans (by first | exact e5 | rfl), owns_mod hO hm13 fun _ _ => id, hm.trans hm13⟩, ?_⟩
      rw [q10]
      simp only [intOf]; omega
  · obtain rfl : n = l.length := by omega
    rw [decide_eq_false (by omega)]
    refine condF ?_
    rw [sq_x, bk_x, sq_n, posted_kept_posted_Receive_R1_eq]; unfold posted_kept_posted_Receive_R1_F
    rw [List.take_length] at hO
    have key : ∀ ρ0 : Sl, ρ0 5 = o → retK Try.prog [ResultVar.tmp 4] (RowR w (l.filter wt)) .ret (up (up ρ0 22 (ρ0 5)) 4 (ρ0 5)) w1 := by
      intro ρ0 q
      show RowR w (l.filter wt) (ρ0 5) w1
      rw [q]
      exact ⟨hO, hm⟩
    exact key _ (by first | exact e5 | rfl)
theorem IndexFuncRc_ok {w : World} {s : Value} {l : List Rc} {p : Rc → Bool} {fv : Value} (h : RcRow w s l) (hlen : l.length ≤ 1099511627776)
    (hf : ∀ a ∈ l, ∀ w', Mod none_ w w' → ∀ K : Value → World → Prop, (∀ w'', Mod none_ w' w'' → K (.bool (p a)) w'') → CK Try.prog fv [.agg a.enc.toArray] w' K) :
    Rt Try.prog 66 #[s, fv] w fun v w' => v = .int .i64 (idxR p l) ∧ Mod none_ w w' := by
  obtain ⟨A, c, hs, _⟩ := reads_cap h
  refine slices_IndexFunc_posted_Receive_posted_Receive_calls ?_
  unfold slices_IndexFunc_posted_Receive_posted_Receive_F
  rw [hs, len_sl vRcS]
  refine W_loop slices_IndexFunc_posted_Receive_posted_Receive_L0_ok (fun ρ w' => ∃ n : Nat, n ≤ l.length ∧ ρ 8 = .int .i64 n ∧ ρ 7 = .int .i64 l.length ∧ ρ 0 = .slice A l.length c ∧ ρ 1 = fv ∧ (∀ a ∈ l.take n, p a = false) ∧ Mod none_ w w') (fun ρ _ => l.length - (intOf (ρ 8)).toNat)
    ⟨0, Nat.zero_le _, rfl, rfl, rfl, rfl, by simp, Mod.refl _ _⟩ ?_
  rintro ρ w1 ⟨n, hn, h8, h7, h0, h1, hno, hm⟩
  rw [slices_IndexFunc_posted_Receive_posted_Receive_L0_eq]
  unfold slices_IndexFunc_posted_Receive_posted_Receive_L0_F
  rw [h8, h7, h0, h1, BK_lss]
  by_cases hlt : n < l.length
  · rw [decide_eq_true (by omega)]
    refine condT ?_
    have hx : l[n]? = some l[n] := List.getElem?_eq_getElem hlt
    have hmem : l[n] ∈ l := List.getElem_mem hlt
    have h2 := h.calm hm
    rw [hs] at h2
    refine ixRc h2 hx rfl fun y => ?_
    refine hf _ hmem w1 hm _ fun w2 hm2 => ?_
    refine caseC (fun hp => ?_) (fun hp => ?_)
    · refine ⟨?_, hm.trans hm2⟩
      unfold idxR
      rw [show l.findIdx? p = some n from List.findIdx?_eq_some_iff_getElem.2 ⟨hlt, hp, fun j hj => by
        have := hno l[j] (List.mem_take_iff_getElem.2 ⟨j, by omega, rfl⟩)
        simp [this]⟩]
      rfl
    · rw [BK_add, wrap_i (by omega) (by omega)]
      refine ⟨⟨n + 1, hlt, rfl, h7, h0, h1, ?_, hm.trans hm2⟩, ?_⟩
      · rw [List.take_add_one, hx, Option.toList_some]
        intro a q
        rcases List.mem_append.1 q with q | q
        · exact hno a q
        · rw [List.mem_singleton.1 q]; exact hp
      · simp only [sq_n, sq_x, sq_r, bk_n, bk_r, bk_x, rt_r, rt_n, rs_0, rs_t, pk_1, pk_2, up_at, reduceIte, Nat.reduceEqDiff, intOf]; omega
  · obtain rfl : n = l.length := by omega
    rw [decide_eq_false (by omega)]
    refine condF ?_
    rw [sq_x, bk_x, sq_n, slices_IndexFunc_posted_Receive_posted_Receive_R1_eq]
    unfold slices_IndexFunc_posted_Receive_posted_Receive_R1_F
    refine ⟨?_, hm⟩
    rw [List.take_length] at hno
    unfold idxR
    rw [List.findIdx?_eq_none_iff.2 hno]
    rfl
theorem ContainsFuncRc_ok {w : World} {s : Value} {l : List Rc} {p : Rc → Bool} {fv : Value} (h : RcRow w s l) (hlen : l.length ≤ 1099511627776)
    (hf : ∀ a ∈ l, ∀ w', Mod none_ w w' → ∀ K : Value → World → Prop, (∀ w'', Mod none_ w' w'' → K (.bool (p a)) w'') → CK Try.prog fv [.agg a.enc.toArray] w' K) :
    Rt Try.prog 64 #[s, fv] w fun v w' => v = .bool (l.any p) ∧ Mod none_ w w' := by
  refine slices_ContainsFunc_posted_Receive_posted_Receive_calls ?_
  unfold slices_ContainsFunc_posted_Receive_posted_Receive_F
  refine CK_st Try.func66 rfl rfl (IndexFuncRc_ok h hlen hf) ?_
  rintro _ w1 ⟨rfl, hm⟩
  rw [BK_geq]
  refine ⟨?_, hm⟩
  congr 1
  unfold idxR
  cases hq : l.findIdx? p with
  | none =>
    rw [List.findIdx?_eq_none_iff] at hq
    rw [show l.any p = false by simpa using hq]
    rfl
  | some j =>
    rw [List.findIdx?_eq_some_iff_getElem] at hq
    obtain ⟨hj, hp, _⟩ := hq
    rw [show l.any p = true from List.any_eq_true.2 ⟨l[j], List.getElem_mem hj, hp⟩]
    simp
end Go.Proofs.Ytmnkedgmpbcicaa.Que
set_option linter.unusedVariables false
set_option linter.unusedSimpArgs false
set_option maxRecDepth 8000
namespace Go.X
open Go Go.RowKit
abbrev Rks := Nat → List Rc
def rowP (R : Rks) (rk : Int) : List Rc := if 0 ≤ rk ∧ rk ≤ 63 then R rk.toNat else []
def PF (p : Nat) (vs : List Value) (b : Nat) : Prop := b = p ∨ ∃ v ∈ vs, sb v b
def badR (r : Rc) (l : List Rc) : Bool := !(decide (0 ≤ r.rank) && decide (r.rank ≤ 63)) || !(decide (-1 ≤ r.peer) && decide (r.peer ≤ 63)) || !(decide (-1 ≤ r.tag) && decide (r.tag ≤ 32767)) || decide (r.req < -1) || decide (r.call < 0) || (match l.getLast? with | none => false | some x => decide (r.call ≤ x.call))
def Rc.new (r : Rc) : Rc := { r with done := false, frm := 0, seq := 0 }
def putR (R : Rks) (k : Nat) (l : List Rc) : Rks := fun i => if i = k then l else R i
def postV (R : Rks) (r : Rc) : Rks × Int := if badR r (rowP R r.rank) then (R, 2) else (putR R r.rank.toNat (rowP R r.rank ++ [r.new]), 0)
end Go.X
namespace Go.Proofs.Ytmnkedgmpbcicaa.Que
open Go Go.X Go.RowKit Go.Proofs.Ytmnkedgmpbcicaa.XF Go.Proofs.Ytmnkedgmpbcicaa.XG Go.Proofs.Ytmnkedgmpbcicaa.XK
abbrev tPd : TypeId := 61
abbrev tArr : TypeId := 59
theorem uPd : Try.prog.underlying 28 = some (.pointer tPd) := by kernel_rfl
structure PAt (w : World) (p : Nat) (R : Rks) (vs : List Value) : Prop where
  blk : w.heap[p]? = some (.cells (.bool true :: vs).toArray tPd (0, 0))
  len : vs.length = 64
  rows : ∀ (i : Nat) v, vs[i]? = some v → w.ownsRow 0 tRc 9 v (R i).length ((R i).flatMap Rc.enc)
  ne : ∀ v ∈ vs, ¬ sb v p
  dist : ∀ (i j : Nat) v u, vs[i]? = some v → vs[j]? = some u → i ≠ j → ∀ g, sb v g → ¬ sb u g
structure PFr (p : Nat) (w : World) (vs : List Value) (w' : World) (vs' : List Value) : Prop where
  mod : Mod (PF p vs) w w'
  f : ∀ b, PF p vs' b → PF p vs b ∨ w.heap.size ≤ b
theorem PFr.calm {p : Nat} {w w' : World} {vs : List Value} (h : Mod none_ w w') : PFr p w vs w' vs := ⟨h.mono fun _ _ q => q.elim, fun _ q => .inl q⟩
theorem PFr.trans {p : Nat} {w w1 w2 : World} {V V1 V2 : List Value} (h : PFr p w V w1 V1) (k : PFr p w1 V1 w2 V2) : PFr p w V w2 V2 := by
  have hs := h.mod.size
  refine ⟨h.mod.then k.mod fun i hi q => ?_, fun b q => ?_⟩
  · rcases h.f i q with z | z
    · exact z
    · omega
  · rcases k.f b q with z | z
    · exact h.f b z
    · right; omega
theorem PAt.mod {w w' : World} {p : Nat} {R : Rks} {vs : List Value} {S : Nat → Prop} (h : PAt w p R vs) (hm : Mod S w w') (hS : ∀ b, PF p vs b → ¬ S b) : PAt w' p R vs :=
  ⟨hm.blk h.blk (hS _ (.inl rfl)), h.len, fun i v hv => owns_mod (h.rows i v hv) hm fun k q => hS k (.inr ⟨v, List.mem_of_getElem? hv, q⟩), h.ne, h.dist⟩
theorem PAt.calm {w w' : World} {p : Nat} {R : Rks} {vs : List Value} (h : PAt w p R vs) (hm : Mod none_ w w') : PAt w' p R vs := h.mod hm fun _ _ q => q
theorem PAt.old {w : World} {p : Nat} {R : Rks} {vs : List Value} (h : PAt w p R vs) : ∀ b, PF p vs b → b < w.heap.size := by
  rintro b (rfl | ⟨v, hv, hb⟩)
  · exact X.blk_lt h.blk
  · obtain ⟨i, hi⟩ := List.getElem?_of_mem hv
    exact (owns_bd (h.rows i v hi) b hb).2
section
variable {w : World} {p : Nat} {R : Rks} {vs : List Value}
theorem f_made (h : PAt w p R vs) : FO Try.prog w tPd 0 0 ⟨p, 0, none⟩ 4 (.bool true) := FO.blk h.blk (by kernel_rfl) vB rfl rfl
theorem run_arr {b o : Nat} {k : IntKind} {i : Int} (h0 : 0 ≤ i) (h1 : i ≤ 63) (w : World) : (Instr.indexAt tArr (.pointer (some ⟨b, o, none⟩)) (.int k i)).run Try.prog w = .ok (.pointer (some ⟨b, o + i.toNat, none⟩)) w := by
  rw [run_indexAt_array w tArr _ k i (by kernel_rfl), if_pos ⟨h0, by rw [show Try.prog.arrayLen tArr = 64 by kernel_rfl]; omega⟩, show Try.prog.elem tArr = tRcS by kernel_rfl, Try.sizeOf41]
  simp [add_pl]
theorem ixArr {b o : Nat} {k : IntKind} {i : Int} (h0 : 0 ≤ i) (h1 : i ≤ 63) {K : Value → World → Prop} : VK Try.prog (Instr.indexAt tArr (.pointer (some ⟨b, o, none⟩)) (.int k i)) w K = K (.pointer (some ⟨b, o + i.toNat, none⟩)) w := VK_eq_of (run_arr h0 h1 w)
theorem inP_ok (n a b : Int) (w : World) : Rt Try.prog 41 #[.int .i64 n, .int .i64 a, .int .i64 b] w fun v w' => v = .bool (decide (a ≤ n) && decide (n ≤ b)) ∧ w' = w := by
  refine posted_in_calls ?_
  unfold posted_in_F
  rw [BK_geq]
  cases hz : decide (a ≤ n) with
  | true =>
    try simp only [↓VG_u, ↓UG_u, ↓MG_u, ↓NG_u, ↓PG_u, ↓BG_u, ↓CG_u, ↓IG_u, ↓VGtt, ↓VGtf, ↓VGft, ↓VGff, ↓UGtt, ↓UGtf, ↓UGft, ↓UGff, ↓MGtt, ↓MGtf, ↓MGft, ↓MGff, ↓NGtt, ↓NGtf, ↓NGft, ↓NGff, ↓PGtt, ↓PGtf, ↓PGft, ↓PGff, ↓BGtt, ↓BGtf, ↓BGft, ↓BGff, ↓CGtt, ↓CGtf, ↓CGft, ↓CGff, ↓IGtt, ↓IGtf, ↓IGft, ↓IGff, ↓PKt, ↓PKf, ↓CDt, ↓CDf, ↓NOTt, ↓NOTf, ↓NK_ptr]
    rw [BK_leq]
    try simp only [↓VG_u, ↓UG_u, ↓MG_u, ↓NG_u, ↓PG_u, ↓BG_u, ↓CG_u, ↓IG_u, ↓VGtt, ↓VGtf, ↓VGft, ↓VGff, ↓UGtt, ↓UGtf, ↓UGft, ↓UGff, ↓MGtt, ↓MGtf, ↓MGft, ↓MGff, ↓NGtt, ↓NGtf, ↓NGft, ↓NGff, ↓PGtt, ↓PGtf, ↓PGft, ↓PGff, ↓BGtt, ↓BGtf, ↓BGft, ↓BGff, ↓CGtt, ↓CGtf, ↓CGft, ↓CGff, ↓IGtt, ↓IGtf, ↓IGft, ↓IGff, ↓PKt, ↓PKf, ↓CDt, ↓CDf, ↓NOTt, ↓NOTf, ↓NK_ptr]
    exact ⟨by first | rfl | simp, by trivial⟩
  | false =>
    try simp only [↓VG_u, ↓UG_u, ↓MG_u, ↓NG_u, ↓PG_u, ↓BG_u, ↓CG_u, ↓IG_u, ↓VGtt, ↓VGtf, ↓VGft, ↓VGff, ↓UGtt, ↓UGtf, ↓UGft, ↓UGff, ↓MGtt, ↓MGtf, ↓MGft, ↓MGff, ↓NGtt, ↓NGtf, ↓NGft, ↓NGff, ↓PGtt, ↓PGtf, ↓PGft, ↓PGff, ↓BGtt, ↓BGtf, ↓BGft, ↓BGff, ↓CGtt, ↓CGtf, ↓CGft, ↓CGff, ↓IGtt, ↓IGtf, ↓IGft, ↓IGff, ↓PKt, ↓PKf, ↓CDt, ↓CDf, ↓NOTt, ↓NOTf, ↓NK_ptr]
    exact ⟨by first | trivial | rfl | simp, by trivial⟩
theorem PAt.at (h : PAt w p R vs) {rk : Int} (h0 : 0 ≤ rk) (h1 : rk ≤ 63) : ∃ v, vs[rk.toNat]? = some v ∧ w.cell? ⟨p, 1 + rk.toNat, none⟩ = some v ∧ RcRow w v (rowP R rk) := by
  have hl := h.len
  have hx : vs[rk.toNat]? = some vs[rk.toNat] := List.getElem?_eq_getElem (by omega)
  refine ⟨_, hx, ?_, ?_⟩
  · rw [cell_blk h.blk]
    rw [show (1 + rk.toNat) = rk.toNat + 1 by omega]
    simp
  · unfold rowP
    rw [if_pos ⟨h0, h1⟩]
    exact reads_of_owns (h.rows _ _ hx)
theorem of_ok' (h : PAt w p R vs) (rk : Int) : Rt Try.prog 40 #[.pointer (some ⟨p, 0, none⟩), .int .i64 rk] w fun v w' => w' = w ∧ RcRow w v (rowP R rk) ∧ (0 ≤ rk ∧ rk ≤ 63 → vs[rk.toNat]? = some v) := by
  refine posted_Posted_of_calls ?_
  unfold posted_Posted_of_F
  rw [BK_eqlP uPd]
  simp only [Option.isNone_some, ↓VG_u, ↓UG_u, ↓MG_u, ↓NG_u, ↓PG_u, ↓BG_u, ↓CG_u, ↓IG_u, ↓VGtt, ↓VGtf, ↓VGft, ↓VGff, ↓UGtt, ↓UGtf, ↓UGft, ↓UGff, ↓MGtt, ↓MGtf, ↓MGft, ↓MGff, ↓NGtt, ↓NGtf, ↓NGft, ↓NGff, ↓PGtt, ↓PGtf, ↓PGft, ↓PGff, ↓BGtt, ↓BGtf, ↓BGft, ↓BGff, ↓CGtt, ↓CGtf, ↓CGft, ↓CGff, ↓IGtt, ↓IGtf, ↓IGft, ↓IGff, ↓PKt, ↓PKf, ↓CDt, ↓CDf, ↓NOTt, ↓NOTf, ↓NK_ptr]
  rw [(f_made h).e]
  try simp only [↓VG_u, ↓UG_u, ↓MG_u, ↓NG_u, ↓PG_u, ↓BG_u, ↓CG_u, ↓IG_u, ↓VGtt, ↓VGtf, ↓VGft, ↓VGff, ↓UGtt, ↓UGtf, ↓UGft, ↓UGff, ↓MGtt, ↓MGtf, ↓MGft, ↓MGff, ↓NGtt, ↓NGtf, ↓NGft, ↓NGff, ↓PGtt, ↓PGtf, ↓PGft, ↓PGff, ↓BGtt, ↓BGtf, ↓BGft, ↓BGff, ↓CGtt, ↓CGtf, ↓CGft, ↓CGff, ↓IGtt, ↓IGtf, ↓IGft, ↓IGff, ↓PKt, ↓PKf, ↓CDt, ↓CDf, ↓NOTt, ↓NOTf, ↓NK_ptr]
  refine CK_st Try.func41 rfl rfl (inP_ok rk 0 63 w) ?_
  rintro _ w1 ⟨rfl, rfl⟩
  by_cases hr : 0 ≤ rk ∧ rk ≤ 63
  · rw [decide_eq_true hr.1, decide_eq_true hr.2]
    obtain ⟨v, hv, hc, hrow⟩ := h.at hr.1 hr.2
    try simp only [Bool.true_and, Bool.and_true, ↓VG_u, ↓UG_u, ↓MG_u, ↓NG_u, ↓PG_u, ↓BG_u, ↓CG_u, ↓IG_u, ↓VGtt, ↓VGtf, ↓VGft, ↓VGff, ↓UGtt, ↓UGtf, ↓UGft, ↓UGff, ↓MGtt, ↓MGtf, ↓MGft, ↓MGff, ↓NGtt, ↓NGtf, ↓NGft, ↓NGff, ↓PGtt, ↓PGtf, ↓PGft, ↓PGff, ↓BGtt, ↓BGtf, ↓BGft, ↓BGff, ↓CGtt, ↓CGtf, ↓CGft, ↓CGff, ↓IGtt, ↓IGtf, ↓IGft, ↓IGff, ↓PKt, ↓PKf, ↓CDt, ↓CDf, ↓NOTt, ↓NOTf, ↓NK_ptr]
    rw [fo (show fieldOff Try.prog tPd 1 = some 1 by kernel_rfl), add_pl, ixArr hr.1 hr.2]
    refine ld1 vRcS rfl (by rw [Nat.zero_add]; exact hc) ?_
    exact ⟨rfl, hrow, fun _ => hv⟩
  · rw [show (decide (0 ≤ rk) && decide (rk ≤ 63)) = false by
      rw [Bool.and_eq_false_iff]; simp only [decide_eq_false_iff_not]; omega]
    try simp only [↓VG_u, ↓UG_u, ↓MG_u, ↓NG_u, ↓PG_u, ↓BG_u, ↓CG_u, ↓IG_u, ↓VGtt, ↓VGtf, ↓VGft, ↓VGff, ↓UGtt, ↓UGtf, ↓UGft, ↓UGff, ↓MGtt, ↓MGtf, ↓MGft, ↓MGff, ↓NGtt, ↓NGtf, ↓NGft, ↓NGff, ↓PGtt, ↓PGtf, ↓PGft, ↓PGff, ↓BGtt, ↓BGtf, ↓BGft, ↓BGff, ↓CGtt, ↓CGtf, ↓CGft, ↓CGff, ↓IGtt, ↓IGtf, ↓IGft, ↓IGff, ↓PKt, ↓PKf, ↓CDt, ↓CDf, ↓NOTt, ↓NOTf, ↓NK_ptr]
    refine ⟨by trivial, ?_, fun z => absurd z hr⟩
    unfold rowP
    rw [if_neg hr]
    exact RcRow.nil _
theorem New_ok' (w : World) : Rt Try.prog 24 #[] w fun v w' => ∃ p vs, v = .pointer (some ⟨p, 0, none⟩) ∧ PAt w' p (fun _ => []) vs ∧ (∀ b, PF p vs b → w.heap.size ≤ b) ∧ Mod none_ w w' := by
  refine posted_New_calls ?_
  unfold posted_New_F
  rw [build_ok (cs := (.bool true :: List.replicate 64 (.slice none 0 0)).toArray) (by kernel_rfl)]
  refine box_k (cs := (.bool true :: List.replicate 64 (.slice none 0 0)).toArray) rfl fun w1 hb1 hm1 hz1 => ?_
  have hall : ∀ v ∈ List.replicate 64 (Value.slice none 0 0), v = .slice none 0 0 := fun v hv => (List.mem_replicate.1 hv).2
  refine ⟨_, List.replicate 64 (.slice none 0 0), rfl, ⟨hb1, List.length_replicate .., fun i v hv => ?_, fun v hv z => ?_, fun i j v u hv hu _ g z => ?_⟩, ?_, hm1⟩
  · rw [hall v (List.mem_of_getElem? hv)]
    exact World.ownsRow_nil _ _ _ _
  · rw [hall v hv] at z; cases z
  · rw [hall v (List.mem_of_getElem? hv)] at z; cases z
  · rintro b (rfl | ⟨v, hv, hb⟩)
    · exact Nat.le_refl _
    · rw [hall v hv] at hb; cases hb
end
end Go.Proofs.Ytmnkedgmpbcicaa.Que
set_option linter.unusedVariables false
set_option linter.unusedSimpArgs false
set_option maxRecDepth 8000
namespace Go.Proofs.Ytmnkedgmpbcicaa.Que
open Go Go.X Go.RowKit Go.Proofs.Ytmnkedgmpbcicaa.XF Go.Proofs.Ytmnkedgmpbcicaa.XG Go.Proofs.Ytmnkedgmpbcicaa.XK
theorem up_lo {ρ : Sl} {d : Nat} {v : Value} {k n : Nat} (hk : k < n) (hd : n ≤ d) : up ρ d v k = ρ k := by rw [up_at, if_neg (by omega)]
theorem Qnot {C : World → Prop} {b : Bool} {K : Value → Prop} (hk : K (.bool (!b))) : QK Try.prog C (do pure (Next.value (← Op.unary UnOp.not (.bool b)))) K := QV_of (fun w _ => rfl) hk
section
variable {w : World} {p : Nat} {R : Rks} {vs : List Value}
theorem post_R0 {b3 : Nat} {r : Rc} {l : List Rc} {v : Value} {K : Exit → Sl → World → Prop} {ρ : Sl} (hb : w.heap[b3]? = some (.cells r.enc.toArray tRc (0, 0))) (hl : RcRow w v l) (hlen : l.length ≤ 1000000) (e3 : ρ 3 = .pointer (some ⟨b3, 0, none⟩)) (e5 : ρ 5 = v)
    (hk : ∀ (ρ' : Sl) (w' : World), ρ' 61 = .bool (badR r l) → (∀ k, k < 19 → ρ' k = ρ k) → Mod none_ w w' → K .normal ρ' w') : W fn_ Try.prog 75 posted_Posted_Post_R0 K ρ w := by
  refine posted_Posted_Post_R0_quiet (D := []) (fun w' => Mod none_ w w') ((Mod.refl _ w).drawn _) ?_
  unfold posted_Posted_Post_R0_Q
  rw [e3, e5]
  have hc : ∀ (k : Nat) (u : Value), r.enc.toArray[k]? = some u → ∀ w', Mod none_ w w' → w'.cell? (Addr.add ⟨b3, 0, none⟩ k) = some u := fun k u hu w' hm => by
    rw [add_pl, Nat.zero_add, cell_blk (hm.blk hb id)]; exact hu
  have hl' := hl
  have fin : ∀ (ρ' : Sl) (b : Bool), badR r l = b → ρ' 61 = .bool b → (∀ k, k < 19 → ρ' k = ρ k) → ∀ w', Mod none_ w w' → K .normal ρ' w' := fun ρ' b hb h61 hlo w' hm => hk ρ' w' (by rw [h61, hb]) hlo hm
  have hin : ∀ (n a b : Int) (K : Value → Prop), K (.bool (decide (a ≤ n) && decide (n ≤ b))) → QK Try.prog (fun w' => Mod none_ w w') (do let d ← Deferred.ofValue (.func (.func 41) #[] #[]) [.int .i64 n, .int .i64 a, .int .i64 b].toArray; invoke d.target d.args) K := fun n a b K hK =>
    QC_rt Try.func41 rfl rfl (fun w' _ => inP_ok n a b w') (fun w' u w'' hw h => ⟨h.1, by rw [h.2]; exact hw⟩) hK
  refine Qfo (show fieldOff Try.prog tRc 1 = some 1 by kernel_rfl) ?_
  refine Qld vI rfl (hc 1 (.int .i64 r.rank) rfl) ?_
  refine hin _ _ _ _ ?_
  refine Qnot ?_
  cases c1 : (decide (0 ≤ r.rank) && decide (r.rank ≤ 63)) with
  | false =>
    rw [Bool.not_false]
    repeat (first | rw [QG_b, if_neg (by decide)] | rw [QG_u] | (refine QP_of ?_; rw [if_pos rfl]))
    exact fin _ true (by unfold badR; rw [c1]; rfl) rfl (fun k hk => by repeat rw [up_lo hk (by decide)])
  | true =>
    rw [Bool.not_true, QG_b, if_pos rfl]
    refine Qfo (show fieldOff Try.prog tRc 3 = some 3 by kernel_rfl) ?_
    rw [QG_b, if_pos rfl]
    refine Qld vI rfl (hc 3 (.int .i64 r.peer) rfl) ?_
    rw [QG_b, if_pos rfl]
    refine hin _ _ _ _ ?_
    rw [QG_b, if_pos rfl]
    refine Qnot ?_
    refine QP_of ?_
    rw [if_neg (by decide)]
    cases c2 : (decide (-1 ≤ r.peer) && decide (r.peer ≤ 63)) with
    | false =>
      rw [Bool.not_false]
      repeat (first | rw [QG_b, if_neg (by decide)] | rw [QG_u] | (refine QP_of ?_; rw [if_pos rfl]))
      exact fin _ true (by unfold badR; rw [c1, c2]; rfl) rfl (fun k hk => by repeat rw [up_lo hk (by decide)])
    | true =>
      rw [Bool.not_true, QG_b, if_pos rfl]
      refine Qfo (show fieldOff Try.prog tRc 4 = some 4 by kernel_rfl) ?_
      rw [QG_b, if_pos rfl]
      refine Qld vI rfl (hc 4 (.int .i64 r.tag) rfl) ?_
      rw [QG_b, if_pos rfl]
      refine hin _ _ _ _ ?_
      rw [QG_b, if_pos rfl]
      refine Qnot ?_
      refine QP_of ?_
      rw [if_neg (by decide)]
      cases c3 : (decide (-1 ≤ r.tag) && decide (r.tag ≤ 32767)) with
      | false =>
        rw [Bool.not_false]
        repeat (first | rw [QG_b, if_neg (by decide)] | rw [QG_u] | (refine QP_of ?_; rw [if_pos rfl]))
        exact fin _ true (by unfold badR; rw [c1, c2, c3]; rfl) rfl (fun k hk => by repeat rw [up_lo hk (by decide)])
      | true =>
        rw [Bool.not_true, QG_b, if_pos rfl]
        refine Qfo (show fieldOff Try.prog tRc 5 = some 5 by kernel_rfl) ?_
        rw [QG_b, if_pos rfl]
        refine Qld vI rfl (hc 5 (.int .i64 r.req) rfl) ?_
        rw [QG_b, if_pos rfl]
        refine Qlss ?_
        refine QP_of ?_
        rw [if_neg (by decide)]
        cases c4 : decide (r.req < -1) with
        | true =>
          repeat (first | rw [QG_b, if_neg (by decide)] | rw [QG_u] | (refine QP_of ?_; rw [if_pos rfl]))
          exact fin _ true (by unfold badR; rw [c1, c2, c3, c4]; rfl) rfl (fun k hk => by repeat rw [up_lo hk (by decide)])
        | false =>
          rw [QG_b, if_pos rfl]
          refine Qfo (show fieldOff Try.prog tRc 2 = some 2 by kernel_rfl) ?_
          rw [QG_b, if_pos rfl]
          refine Qld vI rfl (hc 2 (.int .i64 r.call) rfl) ?_
          rw [QG_b, if_pos rfl]
          refine Qlss ?_
          refine QP_of ?_
          rw [if_neg (by decide)]
          cases c5 : decide (r.call < 0) with
          | true =>
            repeat (first | rw [QG_b, if_neg (by decide)] | rw [QG_u] | (refine QP_of ?_; rw [if_pos rfl]))
            exact fin _ true (by unfold badR; rw [c1, c2, c3, c4, c5]; rfl) rfl (fun k hk => by repeat rw [up_lo hk (by decide)])
          | false =>
            obtain ⟨A, c, es, _⟩ := reads_cap hl
            rw [QG_b, if_pos rfl]
            refine QM ?_
            rw [QG_b, if_pos rfl, es]
            refine QI_len vRcS _ _ _ _ ?_
            rw [QG_b, if_pos rfl]
            refine Qgtr ?_
            rw [QG_b, if_pos rfl]
            refine QM ?_
            cases hlast : l.getLast? with
            | none =>
              rw [List.getLast?_eq_none_iff] at hlast
              subst hlast
              rw [show decide ((0 : Int) < (([] : List Rc).length : Nat)) = false from rfl]
              repeat rw [QG_b, if_neg (by decide)]
              repeat rw [QG_u]
              rw [QG_b, if_pos rfl]
              refine QP_of ?_
              rw [if_neg (by decide)]
              refine QP_of ?_
              rw [if_neg (by decide)]
              exact fin _ false (by unfold badR; rw [c1, c2, c3, c4, c5]; rfl) rfl (fun k hk => by repeat rw [up_lo hk (by decide)])
            | some x =>
              have hne : 0 < l.length := by
                cases l with
                | nil => cases hlast
                | cons a l => simp
              rw [show decide ((0 : Int) < (l.length : Nat)) = true from decide_eq_true (by omega)]
              have hxl : l[l.length - 1]? = some x := by rw [← List.getLast?_eq_getElem?]; exact hlast
              have hcell : ∃ a, A = some a ∧ ∀ w', Mod none_ w w' → w'.cell? (a.add ((l.length - 1) * (8 + 1) + 2)) = some (.int .i64 x.call) := by
                have hget : (l.flatMap Rc.enc)[(l.length - 1) * (8 + 1) + 2]? = some (.int .i64 x.call) := by
                  rw [fl_get (k := 8 + 1) Rc.enc_len hxl (by decide)]; rfl
                obtain ⟨_, A', c', es', _, hr⟩ := hl
                rw [es] at es'
                cases es'
                obtain ⟨a, ha, _⟩ := hr _ _ hget
                refine ⟨a, ha, fun w' hm => ?_⟩
                obtain ⟨_, A2, c2, es2, _, hr2⟩ := RcRow.calm (l := l) (s := v) hl' hm
                rw [es] at es2
                cases es2
                obtain ⟨a2, ha2, hc2⟩ := hr2 _ _ hget
                rw [ha] at ha2
                cases ha2
                exact hc2
              obtain ⟨a, rfl, hcl⟩ := hcell
              rw [QG_b, if_pos rfl]
              refine Qfo (show fieldOff Try.prog tRc 2 = some 2 by kernel_rfl) ?_
              rw [QG_b, if_pos rfl]
              refine Qld vI rfl (hc 2 (.int .i64 r.call) rfl) ?_
              rw [QG_b, if_pos rfl]
              refine QM ?_
              rw [QG_b, if_pos rfl]
              refine QM ?_
              rw [QG_b, if_pos rfl]
              refine QI_len vRcS _ _ _ _ ?_
              rw [QG_b, if_pos rfl]
              refine Qsub ?_
              rw [wrap_i (by omega) (by omega), QG_b, if_pos rfl]
              refine QV_of (fun w _ => run_ixa vRcS cRc (by omega) (by omega) w) ?_
              rw [QG_b, if_pos rfl]
              refine Qfo (show fieldOff Try.prog tRc 2 = some 2 by kernel_rfl) ?_
              rw [QG_b, if_pos rfl]
              refine Qld vI rfl (v := .int .i64 x.call) (fun w' hm => ?_) ?_
              · have := hcl w' hm
                rw [show ((l.length : Int) - 1).toNat = l.length - 1 by omega]
                rw [add_add]
                exact this
              rw [QG_b, if_pos rfl]
              refine Qleq ?_
              rw [QG_b, if_pos rfl]
              refine QP_of ?_
              rw [if_pos rfl]
              refine QP_of ?_
              rw [if_neg (by decide)]
              exact fin _ (decide (r.call ≤ x.call)) (by unfold badR; rw [c1, c2, c3, c4, c5, hlast]; rfl) rfl (fun k hk => by repeat rw [up_lo hk (by decide)])
theorem post_R2 {b3 : Nat} {r : Rc} {v : Value} {rt : Value → World → Prop} {ρ : Sl} (h : PAt w p R vs) (h0 : 0 ≤ r.rank) (h1 : r.rank ≤ 63) (hb : w.heap[b3]? = some (.cells r.enc.toArray tRc (0, 0))) (hbp : ¬ PF p vs b3) (hv : vs[r.rank.toNat]? = some v) (hlen : (R r.rank.toNat).length ≤ 1000000)
    (e3 : ρ 3 = .pointer (some ⟨b3, 0, none⟩)) (e5 : ρ 5 = v) (e0 : ρ 0 = .pointer (some ⟨p, 0, none⟩))
    (hk : ∀ (w' : World) (vs' : List Value), PAt w' p (putR R r.rank.toNat (R r.rank.toNat ++ [r.new])) vs' → Mod (fun b => PF p vs b ∨ b = b3) w w' → (∀ b, PF p vs' b → PF p vs b ∨ w.heap.size ≤ b) → rt (.int .i64 0) w') : sx fn_ Try.prog 75 posted_Posted_Post_R2 (retK Try.prog [ResultVar.tmp 4] rt) ρ w := by
  rw [posted_Posted_Post_R2_eq]; unfold posted_Posted_Post_R2_F
  rw [e3, fo (show fieldOff Try.prog tRc 6 = some 6 by kernel_rfl), add_pl]
  refine stC rfl (by kernel_rfl) rfl hb (by simp [Rc.enc]) fun w1 hb1 hm1 hz1 => ?_
  rw [fo (show fieldOff Try.prog tRc 7 = some 7 by kernel_rfl), add_pl]
  refine stC rfl (by kernel_rfl) rfl hb1 (by simp [Rc.enc]) fun w2 hb2 hm2 hz2 => ?_
  rw [fo (show fieldOff Try.prog tRc 8 = some 8 by kernel_rfl), add_pl]
  refine stC rfl (by kernel_rfl) rfl hb2 (by simp [Rc.enc]) fun w3 hb3 hm3 hz3 => ?_
  have hm03 : Mod (fun b => b = b3) w w3 := (hm1.trans hm2).trans hm3
  have hbn : w3.heap[b3]? = some (.cells r.new.enc.toArray tRc (0, 0)) := hb3
  have h3 : PAt w3 p R vs := h.mod hm03 fun b z y => hbp (y ▸ z)
  have key : ∀ ρ1 : Sl, ρ1 3 = .pointer (some ⟨b3, 0, none⟩) → ρ1 5 = v → ρ1 0 = .pointer (some ⟨p, 0, none⟩) → W fn_ Try.prog 75 posted_Posted_Post_R3 (seqK (sx fn_ Try.prog 75 posted_Posted_Post_R4 (retK Try.prog [ResultVar.tmp 4] rt)) (retK Try.prog [ResultVar.tmp 4] rt)) ρ1 w3 := by
    intro ρ1 q3 q5 q0
    have hd : Mod none_ w3 { w3 with drawn := w3.drawn + 1 } := (Mod.refl _ w3).drawn _
    refine posted_Posted_Post_R3_held (D := []) (fun w' => w'.heap[b3]? = some (.cells r.new.enc.toArray tRc (0, 0))) (hd.blk hbn id) ?_
    have hb4 := hd.blk hbn id
    have h4 := h3.calm hd
    have hm04 := hm03.then hd fun i hi z => z.elim
    generalize ({ w3 with drawn := w3.drawn + 1 } : World) = wd at *
    unfold posted_Posted_Post_R3_H
    rw [q3, q5, q0]
    refine HV_of (fun w _ => run_fo (show fieldOff Try.prog tRc 1 = some 1 by kernel_rfl) _ w) ?_
    refine HV_of (v := .int .i64 r.rank) (fun w hw => run_ld1 vI rfl (by rw [add_pl, cell_blk hw]; rfl)) ?_
    refine HV_of (fun w hw => run_ldB Try.underlying24 rfl (by rw [iRc]; rfl) hw) ?_
    refine HN_ptr ?_
    refine HV_of (fun w _ => run_fo (show fieldOff Try.prog tPd 1 = some 1 by kernel_rfl) _ w) ?_
    refine bs_k (cs := r.new.enc.toArray) (by kernel_rfl) fun w5 hb5 hm5 hz5 => ?_
    refine ⟨hm5.blk hb4 id, ?_⟩
    have h5 := h4.calm hm5
    have hO := h5.rows _ _ hv
    refine ap_any eRcS hO (reads_blk (size := 9) (n := 1) hb5 rfl) (fun u hu => Rc.enc_mem [r.new] u (by simpa using hu)) (by unfold maxLen; omega) (by omega) (Nat.zero_le _) fun v' w6 ho6 hm6 hv6 => ?_
    have hvm := List.mem_of_getElem? hv
    have hm6' : Mod (fun b => sb v b) w5 w6 := hm6.mono fun b _ z => z.symm
    have hb6 := hm6'.blk (hm5.blk hb4 id) fun z => hbp (.inr ⟨v, hvm, z⟩)
    refine ⟨hb6, ?_⟩
    rw [add_pl]
    refine HV_of (fun w _ => run_arr h0 h1 w) ?_
    have hpb := hm6'.blk h5.blk (h5.ne v hvm)
    have hlen64 := h5.len
    have hrk : r.rank.toNat < 64 := by omega
    obtain ⟨g0, cap0, ev0, _⟩ := owns_some ho6 (by omega)
    refine stC rfl (by kernel_rfl) (by rw [ev0]; rfl) hpb (by simp; omega) fun w7 hb7 hm7 hz7 => ?_
    have hb67 := hm7.blk hb6 fun z => hbp (.inl z)
    refine ⟨hb67, ?_⟩
    rw [sq_n, posted_Posted_Post_R4_eq]; unfold posted_Posted_Post_R4_F
    show rt (.int .i64 0) w7
    have hpw5 : p < w5.heap.size := h5.old p (.inl rfl)
    have nv : ∀ g, sb v' g → sb v g ∨ g = w5.heap.size := fun g z => by
      unfold sb at z ⊢
      rcases hv6 with q | q
      · exact .inl (q ▸ z)
      · rw [q] at z; cases z; exact .inr rfl
    have nvp : ¬ sb v' p := fun z => by
      rcases nv p z with q | q
      · exact h5.ne v hvm q
      · omega
    have hm37 : Mod (fun b => PF p vs b ∨ b = b3) w w7 := by
      refine (hm04.mono fun b _ z => .inr z).then ?_ (fun i hi z => z)
      refine (hm5.mono fun b _ z => z.elim).then ?_ (fun i hi z => z)
      refine (hm6'.mono fun b _ z => .inl (.inr ⟨v, hvm, z⟩)).then ?_ (fun i hi z => z)
      exact hm7.mono fun b _ z => .inl (.inl z)
    have hs5 : w.heap.size ≤ w5.heap.size := Nat.le_trans hm04.size hm5.size
    refine hk w7 (vs.set r.rank.toNat v') ⟨?_, by rw [List.length_set]; exact hlen64, fun i u hu => ?_, fun u hu z => ?_, fun i j a b ha hb hij g za zb => ?_⟩ hm37 (fun b z => ?_)
    · rw [hb7, List.setIfInBounds_toArray, show 0 + 1 + r.rank.toNat = r.rank.toNat + 1 by omega, List.set_cons_succ]
    · unfold putR
      by_cases hi : i = r.rank.toNat
      · subst hi
        rw [if_pos rfl]
        rw [List.getElem?_set_self (by omega)] at hu
        cases hu
        have := owns_mod ho6 hm7 fun k z y => nvp (y ▸ z)
        rw [List.length_append, List.flatMap_append]
        simpa using this
      · rw [if_neg hi]
        rw [List.getElem?_set_ne (by omega)] at hu
        exact owns_mod (owns_mod (h5.rows i u hu) hm6' fun k z y => h5.dist i _ u v hu hv hi k z y) hm7 fun k z y => h5.ne u (List.mem_of_getElem? hu) (y ▸ z)
    · obtain ⟨i, hi⟩ := List.getElem?_of_mem hu
      by_cases hi' : i = r.rank.toNat
      · subst hi'
        rw [List.getElem?_set_self (by omega)] at hi
        cases hi
        exact nvp z
      · rw [List.getElem?_set_ne (by omega)] at hi
        exact h5.ne u (List.mem_of_getElem? hi) z
    · by_cases hi' : i = r.rank.toNat
      · subst hi'
        rw [List.getElem?_set_self (by omega)] at ha
        cases ha
        rw [List.getElem?_set_ne (by omega)] at hb
        rcases nv g za with q | q
        · exact h5.dist _ j v b hv hb hij g q zb
        · have := h5.old g (.inr ⟨b, List.mem_of_getElem? hb, zb⟩); omega
      · rw [List.getElem?_set_ne (by omega)] at ha
        by_cases hj' : j = r.rank.toNat
        · subst hj'
          rw [List.getElem?_set_self (by omega)] at hb
          cases hb
          rcases nv g zb with q | q
          · exact h5.dist i _ a v ha hv hi' g za q
          · have := h5.old g (.inr ⟨a, List.mem_of_getElem? ha, za⟩); omega
        · rw [List.getElem?_set_ne (by omega)] at hb
          exact h5.dist i j a b ha hb hij g za zb
    · rcases z with rfl | ⟨u, hu, hz⟩
      · exact .inl (.inl rfl)
      · obtain ⟨i, hi⟩ := List.getElem?_of_mem hu
        by_cases hi' : i = r.rank.toNat
        · subst hi'
          rw [List.getElem?_set_self (by omega)] at hi
          cases hi
          rcases nv b hz with q | q
          · exact .inl (.inr ⟨v, hvm, q⟩)
          · right; omega
        · rw [List.getElem?_set_ne (by omega)] at hi
          exact .inl (.inr ⟨u, List.mem_of_getElem? hi, hz⟩)
  exact key _ (by first | exact e3 | rfl) (by first | exact e5 | rfl) (by first | exact e0 | rfl)
end
end Go.Proofs.Ytmnkedgmpbcicaa.Que
