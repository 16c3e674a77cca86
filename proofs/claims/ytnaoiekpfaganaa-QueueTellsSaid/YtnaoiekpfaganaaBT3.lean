/- Several texts of this repo, one behind the other, without what is not used here. -/
import Derived.Test.YtnaoiekpfaganaaBT2
set_option linter.unusedVariables false
set_option linter.unusedSimpArgs false
set_option maxRecDepth 8000
namespace Go.Proofs.Ytnaoiekpfaganaa.Que
open Go Go.X Go.RowKit Go.Proofs.Ytnaoiekpfaganaa.XO Go.Proofs.Ytnaoiekpfaganaa.XK
theorem HM {S : World → Prop} {v : Value} {K : Value → Prop} (hk : K v) : HK Try.prog S (pure (Next.value v)) K := ⟨v, fun _ _ => rfl, hk⟩
section
variable {w w0 : World} {p q : Nat} {V : QV} {D : Value} {ls : List Ms}
theorem tells_R2 {K : Exit → Sl → World → Prop} {ρ : Sl} {b15 b17 b19 b21 b23 : Nat} {A A2 m : Ms} {x y : Bool} {k : List UInt8} {t : Int} (h : PQ w0 w p q ls ls V D) (hL : ls.length ≤ 400000) (hg : FrmOk ls)
    (h15 : w.heap[b15]? = some (.cells A.enc.toArray tMs (0, 0))) (h17 : w.heap[b17]? = some (.cells A.enc.toArray tMs (0, 0))) (h19 : w.heap[b19]? = some (.cells A2.enc.toArray tMs (0, 0))) (h21 : w.heap[b21]? = some (.cells A2.enc.toArray tMs (0, 0))) (h23 : w.heap[b23]? = some (.cells m.enc.toArray tMs (0, 0)))
    (e15 : ρ 15 = .pointer (some ⟨b15, 0, none⟩)) (e17 : ρ 17 = .pointer (some ⟨b17, 0, none⟩)) (e19 : ρ 19 = .pointer (some ⟨b19, 0, none⟩)) (e21 : ρ 21 = .pointer (some ⟨b21, 0, none⟩)) (e23 : ρ 23 = .pointer (some ⟨b23, 0, none⟩))
    (e16 : ρ 16 = .bool x) (e18 : ρ 18 = .bool x) (e20 : ρ 20 = .bool y) (e22 : ρ 22 = .bool y) (e13 : ρ 13 = .pointer (some ⟨p, 0, none⟩)) (e14 : ρ 14 = .pointer (some ⟨q, 0, none⟩)) (e1 : ρ 1 = strV k) (e3 : ρ 3 = .int .i64 t)
    (hk : ∀ (ρ' : Sl) (w' : World), ρ' 12 = .bool true → Mod none_ w w' → K .normal ρ' w') : W fn_ Try.prog 122 dispatcherlaw13_QueueTells_R2 K ρ w := by
  refine dispatcherlaw13_QueueTells_R2_held (D := []) (fun w' => Mod none_ w w') ((Mod.refl _ w).drawn _) ?_
  have hd : Mod none_ w { w with drawn := w.drawn + 1 } := (Mod.refl _ w).drawn _
  generalize ({ w with drawn := w.drawn + 1 } : World) = wd at *
  unfold dispatcherlaw13_QueueTells_R2_H
  have ld : ∀ {b : Nat} {z : Ms}, w.heap[b]? = some (.cells z.enc.toArray tMs (0, 0)) → ∀ w', Mod none_ w w' → (Instr.loadAt tMs (.pointer (some ⟨b, 0, none⟩))).run Try.prog w' = .ok (.agg z.enc.toArray) w' := fun hb w' hw => run_ldB Try.underlying31 rfl (by rw [iMs]; rfl) (hw.blk hb id)
  unfold dispatcherlaw13_QueueTells_R2_H0
  rw [e15, e17, e19, e21, e16, e18]
  refine HV_of (ld h15) (HV_of (ld h17) ?_)
  refine HB_of (v := .bool (decide (A = A))) (fun w => run_eqGuard_agg w .eql _ _ _ _ _ gMs) (fun w => rMsE _ _ w) ?_
  rw [decide_eq_true rfl, HG_b, if_pos rfl]
  refine HM ?_
  rw [HG_b, if_pos rfl]
  refine HM ?_
  rw [HG_b, if_pos rfl]
  refine HB_of (v := .bool (x == x)) (fun w => rfl) (fun w => run_eql_bool w _ _ _ vB) ?_
  rw [beq_self_eq_true]
  refine HP_of ?_
  rw [if_pos rfl, HG_b, if_pos rfl]
  refine HV_of (ld h19) ?_
  rw [HG_b, if_pos rfl]
  refine HV_of (ld h21) ?_
  rw [HG_b, if_pos rfl]
  refine HB_of (v := .bool (decide (A2 = A2))) (fun w => run_eqGuard_agg w .eql _ _ _ _ _ gMs) (fun w => rMsE _ _ w) ?_
  rw [decide_eq_true rfl]
  have key1 : ∀ ρ1 : Sl, ρ1 92 = .bool true → ρ1 95 = .bool true → ρ1 20 = .bool y → ρ1 22 = .bool y → ρ1 13 = .pointer (some ⟨p, 0, none⟩) → ρ1 14 = .pointer (some ⟨q, 0, none⟩) → ρ1 23 = .pointer (some ⟨b23, 0, none⟩) → ρ1 1 = strV k → ρ1 3 = .int .i64 t → dispatcherlaw13_QueueTells_R2_H1 (fun w' => Mod none_ w w') (dispatcherlaw13_QueueTells_R2_H2 (fun w' => Mod none_ w w') (dispatcherlaw13_QueueTells_R2_H3 (fun w' => Mod none_ w w') (K .normal))) ρ1 wd := by
   intro ρ1 c92 c95 c20 c22 c13 c14 c23 c1 c3
   unfold dispatcherlaw13_QueueTells_R2_H1
   rw [c92, c95, c20, c22, c13, c14, c23]
   refine HP_of ?_
   rw [if_pos rfl, HG_b, if_pos rfl]
   refine HM ?_
   rw [HG_b, if_pos rfl]
   refine HM ?_
   rw [HG_b, if_pos rfl]
   refine HB_of (v := .bool (y == y)) (fun w => rfl) (fun w => run_eql_bool w _ _ _ vB) ?_
   rw [beq_self_eq_true]
   refine HP_of ?_
   rw [if_pos rfl, HG_b, if_pos rfl]
   refine HM ?_
   rw [HG_b, if_pos rfl]
   refine HV_of (ld h23) ?_
   rw [HG_b, if_pos rfl]
   refine HM ?_
   rw [HG_b, if_pos rfl]
   refine HV_of (ld h23) ?_
   have hPd := h.calm hd
   rw [CG_b, if_pos rfl]
   refine CK_st Try.func24 rfl rfl (Ahead_ok hPd.qa (by omega) m) ?_
   rintro u1 w1 ⟨hu1, hm1⟩
   refine ⟨hd.trans hm1, ?_⟩
   have hP1 := hPd.calm hm1
   have key2 : ∀ ρ2 : Sl, ρ2 102 = .bool true → ρ2 106 = .pointer (some ⟨q, 0, none⟩) → ρ2 107 = .agg m.enc.toArray → ρ2 105 = u1 → ρ2 13 = .pointer (some ⟨p, 0, none⟩) → ρ2 14 = .pointer (some ⟨q, 0, none⟩) → ρ2 1 = strV k → ρ2 3 = .int .i64 t → dispatcherlaw13_QueueTells_R2_H2 (fun w' => Mod none_ w w') (dispatcherlaw13_QueueTells_R2_H3 (fun w' => Mod none_ w w') (K .normal)) ρ2 w1 := by
    intro ρ2 d102 d106 d107 d105 d13 d14 d1 d3
    unfold dispatcherlaw13_QueueTells_R2_H2
    rw [d102, d106, d107, d105, d13, d14, d1, d3]
    rw [CG_b, if_pos rfl]
    refine CK_st Try.func25 rfl rfl (RAhead_ok hP1.da (by omega) m) ?_
    rintro u2 w2 ⟨hu2, hm2⟩
    have hm12 := hm1.trans hm2
    refine ⟨hd.trans hm12, ?_⟩
    rw [CG_b, if_pos rfl]
    have hal : (aheadV ls m.frm m.call).length ≤ ls.length := by
      unfold aheadV
      split
      · exact Nat.zero_le _
      · refine Nat.le_trans (List.length_filter_le _ _) (Nat.le_trans (row_len _ _) ?_)
        exact (List.takeWhile_sublist _).length_le
    refine CK_st Try.func17 rfl rfl (Same_ok (owns_mod hu1 hm2 fun _ _ => id) hu2 (by omega)) ?_
    rintro _ w3 ⟨rfl, hm3⟩
    have hm13 := hm12.trans hm3
    refine ⟨hd.trans hm13, ?_⟩
    rw [decide_eq_true rfl]
    refine HP_of ?_
    rw [if_pos rfl, HG_b, if_pos rfl]
    refine HM ?_
    rw [HG_b, if_pos rfl]
    refine HM ?_
    rw [HG_b, if_pos rfl]
    refine HM ?_
    rw [HG_b, if_pos rfl]
    refine HM ?_
    rw [HG_b, if_pos rfl]
    refine HM ?_
    rw [HG_b, if_pos rfl]
    refine HM ?_
    have hP3 := hPd.calm hm13
    rw [CG_b, if_pos rfl]
    refine CK_st Try.func27 rfl rfl (Senders_ok hP3.qa hg (by omega) k t) ?_
    rintro s1 w4 ⟨hs1, hm4⟩
    refine ⟨hd.trans (hm13.trans hm4), ?_⟩
    have hP4 := hP3.calm hm4
    rw [CG_b, if_pos rfl]
    refine CK_st Try.func28 rfl rfl (RSenders_ok hP4.da (by omega) k t) ?_
    rintro s2 w5 ⟨hs2, hm5⟩
    have hm45 := hm4.trans hm5
    refine ⟨hd.trans (hm13.trans hm45), ?_⟩
    have key3 : ∀ ρ3 : Sl, ρ3 111 = .bool true → ρ3 115 = s1 → ρ3 119 = s2 → dispatcherlaw13_QueueTells_R2_H3 (fun w' => Mod none_ w w') (K .normal) ρ3 w5 := by
     intro ρ3 g111 g115 g119
     unfold dispatcherlaw13_QueueTells_R2_H3
     rw [g111, g115, g119]
     rw [CG_b, if_pos rfl]
     have hsl : (sendersV ls k t).length ≤ 64 := upto_len ls k t 64
     refine CK_st Try.func26 rfl rfl (Ints_ok (owns_mod hs1 hm5 fun _ _ => id) hs2 (by omega)) ?_
     rintro _ w6 ⟨rfl, hm6⟩
     have hm16 := (hm13.trans hm45).trans hm6
     refine ⟨hd.trans hm16, ?_⟩
     rw [decide_eq_true rfl]
     refine HP_of ?_
     rw [if_pos rfl]
     exact hk _ w6 rfl (hd.trans hm16)
    exact key3 _ rfl rfl rfl
   exact key2 _ rfl rfl rfl rfl (by first | exact c13 | rfl) (by first | exact c14 | rfl) (by first | exact c1 | rfl) (by first | exact c3 | rfl)
  exact key1 _ rfl rfl (by first | exact e20 | rfl) (by first | exact e22 | rfl) (by first | exact e13 | rfl) (by first | exact e14 | rfl) (by first | exact e23 | rfl) (by first | exact e1 | rfl) (by first | exact e3 | rfl)
end
end Go.Proofs.Ytnaoiekpfaganaa.Que
set_option linter.unusedVariables false
set_option linter.unusedSimpArgs false
set_option maxRecDepth 8000
namespace Go.Proofs.Ytnaoiekpfaganaa.Que
open Go Go.X Go.RowKit Go.Proofs.Ytnaoiekpfaganaa.XO Go.Proofs.Ytnaoiekpfaganaa.XK
section
variable {w0 : World} {p q : Nat} {V : QV} {D : Value} {ls : List Ms}
theorem tells_R0 {w : World} {R : Value → World → Prop} {ρ : Sl} {b15 : Nat} {k : List UInt8} {f t c tag : Int} {x : Bool} {A : Ms} (h : PQ w0 w p q ls ls V D) (hL : ls.length ≤ 400000) (hg : FrmOk ls)
    (hA : A = (ls.find? (Ms.isAt f c)).getD zMs) (hx : x = (ls.find? (Ms.isAt f c)).isSome)
    (h15 : w.heap[b15]? = some (.cells A.enc.toArray tMs (0, 0)))
    (e15 : ρ 15 = .pointer (some ⟨b15, 0, none⟩)) (e16 : ρ 16 = .bool x) (e13 : ρ 13 = .pointer (some ⟨p, 0, none⟩)) (e14 : ρ 14 = .pointer (some ⟨q, 0, none⟩)) (e1 : ρ 1 = strV k) (e2 : ρ 2 = .int .i64 f) (e3 : ρ 3 = .int .i64 t) (e4 : ρ 4 = .int .i64 c) (e5 : ρ 5 = .int .i64 tag)
    (hR : ∀ w', Mod none_ w w' → R (.bool true) w') : sx fn_ Try.prog 122 dispatcherlaw13_QueueTells_R0 (retK Try.prog [ResultVar.tmp 12] R) ρ w := by
  rw [dispatcherlaw13_QueueTells_R0_eq]; unfold dispatcherlaw13_QueueTells_R0_F
  rw [e1, e2, e3, e4, e5, e13, e14]
  refine CK_st Try.func21 rfl rfl (RFind_ok h.da (by omega) f c) ?_
  rintro _ w1 ⟨rfl, hm1⟩
  rw [msb_get, ← hA, ← hx]
  rw [extract_ok (v := .agg A.enc.toArray) rfl, extract_ok (v := .bool x) rfl]
  refine slot_k fun w2 hb17 hm2 hz2 => ?_
  have hm02 := hm1.trans hm2
  refine CK_st Try.func22 rfl rfl (First_ok (h.calm hm02).qa (by omega) k f t tag) ?_
  rintro _ w3 ⟨rfl, hm3⟩
  rw [msb_get]
  generalize hfs : firstV ls (k, f, t) tag = fs
  rw [extract_ok (v := .agg (fs.getD zMs).enc.toArray) rfl, extract_ok (v := .bool fs.isSome) rfl]
  refine slot_k fun w4 hb19 hm4 hz4 => ?_
  have hm24 := hm3.trans hm4
  have hm04 := hm02.trans hm24
  refine CK_st Try.func23 rfl rfl (RFirst_ok (h.calm hm04).da (by omega) k f t tag) ?_
  rintro _ w5 ⟨rfl, hm5⟩
  rw [msb_get, hfs]
  rw [extract_ok (v := .agg (fs.getD zMs).enc.toArray) rfl, extract_ok (v := .bool fs.isSome) rfl]
  refine slot_k fun w6 hb21 hm6 hz6 => ?_
  have hm46 := hm5.trans hm6
  have hm06 := hm04.trans hm46
  have r1 : ∀ ρ1 : Sl, ρ1 15 = .pointer (some ⟨b15, 0, none⟩) → ρ1 17 = .pointer (some ⟨w1.heap.size, 0, none⟩) → ρ1 19 = .pointer (some ⟨w3.heap.size, 0, none⟩) → ρ1 21 = .pointer (some ⟨w5.heap.size, 0, none⟩) → ρ1 16 = .bool x → ρ1 18 = .bool x → ρ1 20 = .bool fs.isSome → ρ1 22 = .bool fs.isSome → ρ1 13 = .pointer (some ⟨p, 0, none⟩) → ρ1 14 = .pointer (some ⟨q, 0, none⟩) → ρ1 1 = strV k → ρ1 2 = .int .i64 f → ρ1 3 = .int .i64 t → ρ1 4 = .int .i64 c →
      sx fn_ Try.prog 122 dispatcherlaw13_QueueTells_R1 (retK Try.prog [ResultVar.tmp 12] R) ρ1 w6 := by
    intro ρ1 c15 c17 c19 c21 c16 c18 c20 c22 c13 c14 c1 c2 c3 c4
    rw [dispatcherlaw13_QueueTells_R1_eq]; unfold dispatcherlaw13_QueueTells_R1_F
    rw [c1, c2, c3, c4, build_ok (cs := (⟨k, f, t, c, 0, 0, 0, false⟩ : Ms).enc.toArray) (by kernel_rfl)]
    refine slot_k fun w7 hb23 hm7 hz7 => ?_
    have hm67 := hm46.trans hm7
    have hm07 := hm06.trans hm7
    refine tells_R2 (A := A) (A2 := fs.getD zMs) (m := ⟨k, f, t, c, 0, 0, 0, false⟩) (x := x) (y := fs.isSome) (k := k) (t := t) (h.calm hm07) hL hg (hm07.blk h15 id) ((hm24.trans hm67).blk hb17 id) (hm67.blk hb19 id) (hm7.blk hb21 id) hb23
      (by first | exact c15 | rfl) (by first | exact c17 | rfl) (by first | exact c19 | rfl) (by first | exact c21 | rfl) rfl (by first | exact c16 | rfl) (by first | exact c18 | rfl) (by first | exact c20 | rfl) (by first | exact c22 | rfl) (by first | exact c13 | rfl) (by first | exact c14 | rfl) (by first | exact c1 | rfl) (by first | exact c3 | rfl) ?_
    intro ρ2 w8 g12 hm8
    rw [sq_n, dispatcherlaw13_QueueTells_R3_eq]; unfold dispatcherlaw13_QueueTells_R3_F
    show R (ρ2 12) w8
    rw [g12]
    exact hR w8 (hm07.trans hm8)
  exact r1 _ (by first | exact e15 | rfl) rfl rfl rfl (by first | exact e16 | rfl) rfl rfl rfl (by first | exact e13 | rfl) (by first | exact e14 | rfl) (by first | exact e1 | rfl) (by first | exact e2 | rfl) (by first | exact e3 | rfl) (by first | exact e4 | rfl)
end
theorem QueueTells_ok {w : World} {v : Value} {l : List Ac} (h : Acts w v l) (k : List UInt8) (f t c tag : Int) : Rt Try.prog 4 #[v, strV k, .int .i64 f, .int .i64 t, .int .i64 c, .int .i64 tag] w fun u w' => u = .bool true ∧ Mod none_ w w' := by
  refine dispatcherlaw13_QueueTells_calls ?_
  unfold dispatcherlaw13_QueueTells_F
  refine CK_st Try.func8 rfl rfl (Great_ok h) ?_
  rintro _ w1 ⟨rfl, rfl⟩
  have hfold : (Value.string ⟨k.toArray⟩) = strV k := rfl
  have hend : ∀ w2, Mod none_ w1 w2 → (greatV l = true ∨ 100 < k.length) → IK Try.prog Builtin.len #[9] 3 [false] [strV k] w2 fun x36 w => BK Try.prog .gtr 3 (.tmp 36) (.const (.int .i64 100)) x36 (.int .i64 100) w fun x37 w => MG Try.prog x37 false v w fun x39 w => CG Try.prog x37 false (.func (.func 8) #[] #[]) [x39] w fun x40 w => PK Try.prog x37 (.bool true) x40 w fun x41 w => (x41 = .bool true ∧ Mod none_ w1 w) := by
    intro w2 hm hh
    unfold strV
    rw [len_str vS, BK_gtr]
    cases hz : decide ((100 : Int) < ((⟨k.toArray⟩ : ByteArray).size : Nat)) with
    | true =>
      try simp only [↓VG_u, ↓UG_u, ↓MG_u, ↓NG_u, ↓PG_u, ↓BG_u, ↓CG_u, ↓IG_u, ↓VGtt, ↓VGtf, ↓VGft, ↓VGff, ↓UGtt, ↓UGtf, ↓UGft, ↓UGff, ↓MGtt, ↓MGtf, ↓MGft, ↓MGff, ↓NGtt, ↓NGtf, ↓NGft, ↓NGff, ↓PGtt, ↓PGtf, ↓PGft, ↓PGff, ↓BGtt, ↓BGtf, ↓BGft, ↓BGff, ↓CGtt, ↓CGtf, ↓CGft, ↓CGff, ↓IGtt, ↓IGtf, ↓IGft, ↓IGff, ↓PKt, ↓PKf, ↓CDt, ↓CDf, ↓NOTt, ↓NOTf, ↓NK_ptr]
      exact ⟨by trivial, hm⟩
    | false =>
      have hk : ¬ 100 < k.length := by
        have := of_decide_eq_false hz
        intro hh
        exact this (by show (100 : Int) < (k.toArray.size : Nat); simp; omega)
      have hgr := hh.resolve_right hk
      try simp only [↓VG_u, ↓UG_u, ↓MG_u, ↓NG_u, ↓PG_u, ↓BG_u, ↓CG_u, ↓IG_u, ↓VGtt, ↓VGtf, ↓VGft, ↓VGff, ↓UGtt, ↓UGtf, ↓UGft, ↓UGff, ↓MGtt, ↓MGtf, ↓MGft, ↓MGff, ↓NGtt, ↓NGtf, ↓NGft, ↓NGff, ↓PGtt, ↓PGtf, ↓PGft, ↓PGff, ↓BGtt, ↓BGtf, ↓BGft, ↓BGff, ↓CGtt, ↓CGtf, ↓CGft, ↓CGff, ↓IGtt, ↓IGtf, ↓IGft, ↓IGff, ↓PKt, ↓PKf, ↓CDt, ↓CDf, ↓NOTt, ↓NOTf, ↓NK_ptr]
      refine CK_st Try.func8 rfl rfl (Great_ok (Acts.calm h hm)) ?_
      rintro _ w3 ⟨rfl, rfl⟩
      try simp only [↓VG_u, ↓UG_u, ↓MG_u, ↓NG_u, ↓PG_u, ↓BG_u, ↓CG_u, ↓IG_u, ↓VGtt, ↓VGtf, ↓VGft, ↓VGff, ↓UGtt, ↓UGtf, ↓UGft, ↓UGff, ↓MGtt, ↓MGtf, ↓MGft, ↓MGff, ↓NGtt, ↓NGtf, ↓NGft, ↓NGff, ↓PGtt, ↓PGtf, ↓PGft, ↓PGff, ↓BGtt, ↓BGtf, ↓BGft, ↓BGff, ↓CGtt, ↓CGtf, ↓CGft, ↓CGff, ↓IGtt, ↓IGtf, ↓IGft, ↓IGff, ↓PKt, ↓PKf, ↓CDt, ↓CDf, ↓NOTt, ↓NOTf, ↓NK_ptr]
      exact ⟨by first | trivial | rw [hgr] | simp [hgr], hm⟩
  cases hg : greatV l with
  | true =>
    simp only [↓VG_u, ↓UG_u, ↓MG_u, ↓NG_u, ↓PG_u, ↓BG_u, ↓CG_u, ↓IG_u, ↓VGtt, ↓VGtf, ↓VGft, ↓VGff, ↓UGtt, ↓UGtf, ↓UGft, ↓UGff, ↓MGtt, ↓MGtf, ↓MGft, ↓MGff, ↓NGtt, ↓NGtf, ↓NGft, ↓NGff, ↓PGtt, ↓PGtf, ↓PGft, ↓PGff, ↓BGtt, ↓BGtf, ↓BGft, ↓BGff, ↓CGtt, ↓CGtf, ↓CGft, ↓CGff, ↓IGtt, ↓IGtf, ↓IGft, ↓IGff, ↓PKt, ↓PKf, ↓CDt, ↓CDf, ↓NOTt, ↓NOTf, ↓NK_ptr]
    exact hend w1 (Mod.refl _ _) (.inl hg)
  | false =>
    simp only [↓VG_u, ↓UG_u, ↓MG_u, ↓NG_u, ↓PG_u, ↓BG_u, ↓CG_u, ↓IG_u, ↓VGtt, ↓VGtf, ↓VGft, ↓VGff, ↓UGtt, ↓UGtf, ↓UGft, ↓UGff, ↓MGtt, ↓MGtf, ↓MGft, ↓MGff, ↓NGtt, ↓NGtf, ↓NGft, ↓NGff, ↓PGtt, ↓PGtf, ↓PGft, ↓PGff, ↓BGtt, ↓BGtf, ↓BGft, ↓BGff, ↓CGtt, ↓CGtf, ↓CGft, ↓CGff, ↓IGtt, ↓IGtf, ↓IGft, ↓IGff, ↓PKt, ↓PKf, ↓CDt, ↓CDf, ↓NOTt, ↓NOTf, ↓NK_ptr]
    have hl : l.length ≤ 200 := by
      unfold greatV at hg
      have := (Bool.or_eq_false_iff.1 hg).1
      simpa using this
    by_cases hz : 100 < k.length
    · unfold strV
      rw [len_str vS, BK_gtr, show decide ((100 : Int) < ((⟨k.toArray⟩ : ByteArray).size : Nat)) = true from decide_eq_true (by show (100 : Int) < (k.toArray.size : Nat); simp; omega)]
      try simp only [↓VG_u, ↓UG_u, ↓MG_u, ↓NG_u, ↓PG_u, ↓BG_u, ↓CG_u, ↓IG_u, ↓VGtt, ↓VGtf, ↓VGft, ↓VGff, ↓UGtt, ↓UGtf, ↓UGft, ↓UGff, ↓MGtt, ↓MGtf, ↓MGft, ↓MGff, ↓NGtt, ↓NGtf, ↓NGft, ↓NGff, ↓PGtt, ↓PGtf, ↓PGft, ↓PGff, ↓BGtt, ↓BGtf, ↓BGft, ↓BGff, ↓CGtt, ↓CGtf, ↓CGft, ↓CGff, ↓IGtt, ↓IGtf, ↓IGft, ↓IGff, ↓PKt, ↓PKf, ↓CDt, ↓CDf, ↓NOTt, ↓NOTf, ↓NK_ptr]
      exact hend w1 (Mod.refl _ _) (.inr hz)
    · unfold strV
      rw [len_str vS, BK_gtr, show decide ((100 : Int) < ((⟨k.toArray⟩ : ByteArray).size : Nat)) = false from decide_eq_false (by show ¬ (100 : Int) < (k.toArray.size : Nat); simp; omega)]
      try simp only [↓VG_u, ↓UG_u, ↓MG_u, ↓NG_u, ↓PG_u, ↓BG_u, ↓CG_u, ↓IG_u, ↓VGtt, ↓VGtf, ↓VGft, ↓VGff, ↓UGtt, ↓UGtf, ↓UGft, ↓UGff, ↓MGtt, ↓MGtf, ↓MGft, ↓MGff, ↓NGtt, ↓NGtf, ↓NGft, ↓NGff, ↓PGtt, ↓PGtf, ↓PGft, ↓PGff, ↓BGtt, ↓BGtf, ↓BGft, ↓BGff, ↓CGtt, ↓CGtf, ↓CGft, ↓CGff, ↓IGtt, ↓IGtf, ↓IGft, ↓IGff, ↓PKt, ↓PKf, ↓CDt, ↓CDf, ↓NOTt, ↓NOTf, ↓NK_ptr]
      rw [hfold]
      refine CK_st Try.func9 rfl rfl (New_ok w1) ?_
      rintro _ w2 ⟨p0, V0, rfl, _, _, hm2⟩
      rw [BK_eqlP uQ]
      simp only [Option.isNone_some, ↓VG_u, ↓UG_u, ↓MG_u, ↓NG_u, ↓PG_u, ↓BG_u, ↓CG_u, ↓IG_u, ↓VGtt, ↓VGtf, ↓VGft, ↓VGff, ↓UGtt, ↓UGtf, ↓UGft, ↓UGff, ↓MGtt, ↓MGtf, ↓MGft, ↓MGff, ↓NGtt, ↓NGtf, ↓NGft, ↓NGff, ↓PGtt, ↓PGtf, ↓PGft, ↓PGff, ↓BGtt, ↓BGtf, ↓BGft, ↓BGff, ↓CGtt, ↓CGtf, ↓CGft, ↓CGff, ↓IGtt, ↓IGtf, ↓IGft, ↓IGff, ↓PKt, ↓PKf, ↓CDt, ↓CDf, ↓NOTt, ↓NOTf, ↓NK_ptr]
      refine CK_st Try.func19 rfl rfl (done_ok (Acts.calm h hm2) hl) ?_
      rintro _ w3 ⟨ls, p, q, V, D, rfl, hP, hls, hgd⟩
      rw [extract_ok (v := .pointer (some ⟨p, 0, none⟩)) rfl, extract_ok (v := .pointer (some ⟨q, 0, none⟩)) rfl]
      refine CK_st Try.func20 rfl rfl (Find_ok hP.qa (by omega) f c) ?_
      rintro _ w4 ⟨rfl, hm4⟩
      rw [msb_get]
      rw [extract_ok (v := .agg ((ls.find? (Ms.isAt f c)).getD zMs).enc.toArray) rfl, extract_ok (v := .bool (ls.find? (Ms.isAt f c)).isSome) rfl]
      refine slot_k fun w5 hb5 hm5 hz5 => ?_
      have hm35 := hm4.trans hm5
      refine tells_R0 (p := p) (q := q) (k := k) (f := f) (t := t) (c := c) (tag := tag) (hP.calm hm35) (by omega) hgd rfl rfl hb5 rfl rfl rfl rfl rfl rfl rfl rfl rfl ?_
      intro w6 hm6
      exact ⟨rfl, (hm2.trans hP.mod).trans (hm35.trans hm6)⟩
end Go.Proofs.Ytnaoiekpfaganaa.Que
set_option linter.unusedVariables false
set_option maxRecDepth 4000
namespace Go.Proofs.Ytnaoiekpfaganaa.Que
open Go Go.X Go.RowKit
def shM : Sh Ms := ⟨8, fun w m cs => cs = m.enc⟩
def shA : Sh Ac := ⟨9, fun w a cs => cs = a.enc⟩
theorem strV_back (b : ByteArray) : strV b.data.toList = .string b := by unfold strV; rw [Array.toArray_toList]
theorem opensM (n : Nat) : OpensAt Try.prog n shM 31 :=
  opens_as (opens_struct Try.underlying31 (by kernel_rfl) (fun m _ => fields_cons rfl (by kernel_rfl) (opens_string Try.underlying9) (fields_cons rfl (by kernel_rfl) (opens_int Try.underlying3) (fields_cons rfl (by kernel_rfl) (opens_int Try.underlying3)
    (fields_cons rfl (by kernel_rfl) (opens_int Try.underlying3) (fields_cons rfl (by kernel_rfl) (opens_int Try.underlying3) (fields_cons rfl (by kernel_rfl) (opens_int Try.underlying2) (fields_cons rfl (by kernel_rfl) (opens_int Try.underlying3) (fields_one rfl (by kernel_rfl) (opens_bool Try.underlying4))))))))))
    (fun x => (⟨x.1.data.toList, x.2.1, x.2.2.1, x.2.2.2.1, x.2.2.2.2.1, x.2.2.2.2.2.1, x.2.2.2.2.2.2.1, x.2.2.2.2.2.2.2⟩ : Ms))
    (fun w v cs h => by
      obtain ⟨c0, d0, rfl, _, ⟨rfl, h0⟩, c1, d1, rfl, _, ⟨rfl, h1⟩, c2, d2, rfl, _, ⟨rfl, h2⟩, c3, d3, rfl, _, ⟨rfl, h3⟩, c4, d4, rfl, _, ⟨rfl, h4⟩, c5, d5, rfl, _, ⟨rfl, h5⟩, c6, d6, rfl, _, ⟨rfl, h6⟩, h7⟩ := h
      subst h7
      show _ = Ms.enc _
      simp only [Ms.enc, strV_back]
      rfl)
theorem opensA (n : Nat) : OpensAt Try.prog n shA 33 :=
  opens_as (opens_struct Try.underlying33 (by kernel_rfl) (fun m _ => fields_cons rfl (by kernel_rfl) (opens_int Try.underlying5) (fields_one rfl (by kernel_rfl) (opensM m))))
    (fun x => (⟨x.1, x.2⟩ : Ac))
    (fun w v cs h => by
      obtain ⟨c0, d0, rfl, _, ⟨rfl, h0⟩, h1⟩ := h
      obtain rfl : d0 = v.2.enc := h1
      rfl)
theorem opensAs (n : Nat) : OpensAt Try.prog n (Sh.slice shA) 22 := opens_slice Try.underlying22 (by kernel_rfl) (fun m _ => opensA m)
theorem Acts_of {w : World} {x : Value × List Ac} {cs : List Value} (h : (Sh.slice shA).K w x cs) : Acts w x.1 x.2 := reads_sh h Ac.enc (fun _ => rfl) (fun _ _ hd => hd)
end Go.Proofs.Ytnaoiekpfaganaa.Que
