/- Several texts of this repo, one behind the other, without what is not used here. -/
import Derived.Test.YtmnkedgmpbcicaaUO2
set_option linter.unusedVariables false
set_option linter.unusedSimpArgs false
set_option maxRecDepth 8000
namespace Go.Proofs.Ytmnkedgmpbcicaa.Que
open Go Go.X Go.RowKit Go.Proofs.Ytmnkedgmpbcicaa.XF Go.Proofs.Ytmnkedgmpbcicaa.XG Go.Proofs.Ytmnkedgmpbcicaa.XK
def am (c t : Int) : Ms := ⟨[], 1, 0, c, t, 0, 1, false⟩
def ar (c pr tg : Int) : Rc := ⟨[], 0, c, pr, tg, -1, false, 0, 0⟩
def aR0 : Rks := fun _ => []
def aR1 : Rks := (postV aR0 (ar 0 (-1) 5)).1
def aR2 : Rks := (postV aR1 (ar 1 1 (-1))).1
def aQ : List Ms := [am 0 5, am 1 6]
def aR3 : Rks := (matchV aR2 aQ 0 0 1 0).1.1
def aQ3 : List Ms := (matchV aR2 aQ 0 0 1 0).1.2
theorem a1 : (postV aR0 (ar 0 (-1) 5)).2 = 0 := by decide
theorem a2 : (postV aR1 (ar 1 1 (-1))).2 = 0 := by decide
theorem a3 : postV aR2 (ar 1 1 1) = (aR2, 2) := by unfold postV; rw [if_pos (by decide)]
theorem a4 : sendV [] (am 0 5) = ([am 0 5], 0) := by decide
theorem a5 : sendV [am 0 5] (am 1 6) = (aQ, 0) := by decide
theorem a6 : mayV aR2 aQ 0 0 = [am 0 5] := by decide
theorem a7 : mayV aR2 aQ 0 1 = [] := by decide
theorem a8 : freeV aQ (ar 9 1 6) (rowP aR2 0) = [] := by decide
theorem a9 : matchV aR2 aQ 0 1 1 1 = ((aR2, aQ), 2) := by unfold matchV; rw [a7]; rfl
theorem a10 : (matchV aR2 aQ 0 0 1 0).2 = 0 := by decide
theorem a11 : mayV aR3 aQ3 0 1 = [am 1 6] := by decide
theorem a12 : ((rowP aR3 0).filter wt).length = 1 := by decide
theorem a14 : FrmOk aQ := by unfold X.FrmOk aQ am; simp
theorem a15 : FrmOk aQ3 := a14.take 1 0
theorem post_len {R : Rks} {n : Nat} (h : ∀ i, (R i).length ≤ n) (r : Rc) (i : Nat) : ((postV R r).1 i).length ≤ n + 1 := by
  unfold postV
  split
  · exact Nat.le_succ_of_le (h i)
  · dsimp only
    unfold putR
    split
    · rw [List.length_append, List.length_singleton]
      have := row_R h r.rank
      omega
    · exact Nat.le_succ_of_le (h i)
theorem set_len (R : Rks) (rk c f s : Int) (i : Nat) : (setV R rk c f s i).length = (R i).length := by
  by_cases hr : 0 ≤ rk ∧ rk ≤ 63
  · have e : rowP R rk = R rk.toNat := by unfold rowP; rw [if_pos hr]
    unfold setV
    rw [e]
    cases hj : (R rk.toNat).findIdx? (isC c) with
    | none => rfl
    | some j =>
      dsimp only
      cases hx : (R rk.toNat)[j]? with
      | none => rfl
      | some r =>
        dsimp only
        unfold putR
        by_cases hi : i = rk.toNat
        · rw [if_pos hi, List.length_set, hi]
        · rw [if_neg hi]
  · have e : rowP R rk = [] := by unfold rowP; rw [if_neg hr]
    unfold setV
    rw [e]
    rfl
theorem match_len (R : Rks) (ls : List Ms) (rk c f s : Int) (i : Nat) : ((matchV R ls rk c f s).1.1 i).length = (R i).length := by
  unfold matchV
  split
  · split
    · exact set_len ..
    · rfl
  · rfl
theorem match_ml (R : Rks) (ls : List Ms) (rk c f s : Int) : ((matchV R ls rk c f s).1.2).length = ls.length := by
  unfold matchV
  split
  · split
    · exact takeV_len ..
    · exact takeV_len ..
  · rfl
theorem match_frm {ls : List Ms} (h : FrmOk ls) (R : Rks) (rk c f s : Int) : FrmOk (matchV R ls rk c f s).1.2 := by
  unfold matchV
  split
  · split
    · exact FrmOk.take h f s
    · exact FrmOk.take h f s
  · exact h
theorem aL (i : Nat) : (aR2 i).length ≤ 2 := post_len (R := aR1) (fun i => post_len (R := aR0) (n := 0) (fun _ => Nat.le_refl _) _ i) _ i
theorem PP.keep {w0 w w1 : World} {q p : Nat} {ls : List Ms} {V : QV} {R : Rks} {vs : List Value} {B n : Nat} {e : TypeId} {sz : Nat} {v : Value} {xs : List Value} {x : World} (h : PP w0 x q p ls V R vs) (hB : x.heap.size ≤ B) (ho : w.ownsRow B e sz v n xs) (hm : Mod (fun b => V.F q b ∨ PF p vs b) w w1) : w1.ownsRow B e sz v n xs :=
  owns_mod ho hm fun g z y => by
    have := (owns_bd ho g z).1
    rcases y with y | y
    · have := h.qa.old g y; omega
    · have := h.pa.old g y; omega
theorem message14_ok (c t : Int) (w : World) : Rt Try.prog 26 #[.int .i64 c, .int .i64 t] w fun v w' => v = .agg (am c t).enc.toArray ∧ Mod none_ w w' := by
  refine dispatcherlaw14_message_calls ?_
  unfold dispatcherlaw14_message_F
  refine al_k (cs := zMs.enc.toArray) zMs_z rfl _ fun w1 hb1 hm1 hz1 => ?_
  rw [build_ok (cs := (am c t).enc.toArray) (by kernel_rfl)]
  refine stS (cs := (am c t).enc.toArray) (old := zMs.enc.toArray) rfl rfl (by rw [iMs]; rfl) rfl (Ms.enc_one _) hb1 fun w3 hb3 hm3 hz3 => ?_
  exact ⟨_, res_ld (run_ldB Try.underlying39 rfl (by rw [iMs]; rfl) hb3), rfl, hm1.fresh hm3 (Nat.le_refl _)⟩
theorem receive_ok (c pr tg : Int) (w : World) : Rt Try.prog 27 #[.int .i64 c, .int .i64 pr, .int .i64 tg] w fun v w' => v = .agg (ar c pr tg).enc.toArray ∧ Mod none_ w w' := by
  refine dispatcherlaw14_receive_calls ?_
  unfold dispatcherlaw14_receive_F
  refine al_k (cs := zRc.enc.toArray) zRc_z rfl _ fun w1 hb1 hm1 hz1 => ?_
  rw [build_ok (cs := (ar c pr tg).enc.toArray) (by kernel_rfl)]
  refine stS (cs := (ar c pr tg).enc.toArray) (old := zRc.enc.toArray) rfl rfl (by rw [iRc]; rfl) rfl (Rc.enc_one _) hb1 fun w3 hb3 hm3 hz3 => ?_
  exact ⟨_, res_ld (run_ldB Try.underlying24 rfl (by rw [iRc]; rfl) hb3), rfl, hm1.fresh hm3 (Nat.le_refl _)⟩
theorem begun (w : World) {K : Value → Value → World → Prop} (hk : ∀ q p V vs w', PP w w' q p [] V (fun _ => []) vs → K (.pointer (some ⟨q, 0, none⟩)) (.pointer (some ⟨p, 0, none⟩)) w') :
    CK Try.prog (.func (.func 23) #[] #[]) [] w fun x w => CK Try.prog (.func (.func 24) #[] #[]) [] w fun y w => K x y w := by
  refine CK_st Try.func23 rfl rfl (New_ok w) ?_
  rintro _ w1 ⟨q, V, rfl, hq, hqF, hm1⟩
  refine CK_st Try.func24 rfl rfl (New_ok' w1) ?_
  rintro _ w2 ⟨p, vs, rfl, hp, hpF, hm2⟩
  have s1 := hm1.size
  exact hk q p V vs w2 ⟨hq.calm hm2, hp, fun b z y => by have := hq.old b z; have := hpF b y; omega, hqF, fun b z => by have := hpF b z; omega, hm1.trans hm2⟩
theorem awake14_ok (w : World) : Rt Try.prog 10 #[] w fun v w' => v = .bool true ∧ Mod none_ w w' := by
  refine dispatcherlaw14_awake_calls ?_
  unfold dispatcherlaw14_awake_F
  refine begun w fun q p V vs w1 h1 => ?_
  have hL0 : ∀ i, ((fun _ => [] : Rks) i).length ≤ 1000000 := fun i => Nat.zero_le _
  rw [BK_eqlP uQ]
  simp only [Option.isNone_some, ↓VG_u, ↓UG_u, ↓MG_u, ↓NG_u, ↓PG_u, ↓BG_u, ↓CG_u, ↓IG_u, ↓VGtt, ↓VGtf, ↓VGft, ↓VGff, ↓UGtt, ↓UGtf, ↓UGft, ↓UGff, ↓MGtt, ↓MGtf, ↓MGft, ↓MGff, ↓NGtt, ↓NGtf, ↓NGft, ↓NGff, ↓PGtt, ↓PGtf, ↓PGft, ↓PGff, ↓BGtt, ↓BGtf, ↓BGft, ↓BGff, ↓CGtt, ↓CGtf, ↓CGft, ↓CGff, ↓IGtt, ↓IGtf, ↓IGft, ↓IGff, ↓PKt, ↓PKf, ↓CDt, ↓CDf, ↓NOTt, ↓NOTf, ↓NK_ptr]
  rw [BK_eqlP uPd]
  simp only [Option.isNone_some, ↓VG_u, ↓UG_u, ↓MG_u, ↓NG_u, ↓PG_u, ↓BG_u, ↓CG_u, ↓IG_u, ↓VGtt, ↓VGtf, ↓VGft, ↓VGff, ↓UGtt, ↓UGtf, ↓UGft, ↓UGff, ↓MGtt, ↓MGtf, ↓MGft, ↓MGff, ↓NGtt, ↓NGtf, ↓NGft, ↓NGff, ↓PGtt, ↓PGtf, ↓PGft, ↓PGff, ↓BGtt, ↓BGtf, ↓BGft, ↓BGff, ↓CGtt, ↓CGtf, ↓CGft, ↓CGff, ↓IGtt, ↓IGtf, ↓IGft, ↓IGff, ↓PKt, ↓PKf, ↓CDt, ↓CDf, ↓NOTt, ↓NOTf, ↓NK_ptr]
  refine CK_st Try.func27 rfl rfl (receive_ok 0 (-1) 5 w1) ?_
  rintro _ w2 ⟨rfl, hm2⟩
  try simp only [↓VG_u, ↓UG_u, ↓MG_u, ↓NG_u, ↓PG_u, ↓BG_u, ↓CG_u, ↓IG_u, ↓VGtt, ↓VGtf, ↓VGft, ↓VGff, ↓UGtt, ↓UGtf, ↓UGft, ↓UGff, ↓MGtt, ↓MGtf, ↓MGft, ↓MGff, ↓NGtt, ↓NGtf, ↓NGft, ↓NGff, ↓PGtt, ↓PGtf, ↓PGft, ↓PGff, ↓BGtt, ↓BGtf, ↓BGft, ↓BGff, ↓CGtt, ↓CGtf, ↓CGft, ↓CGff, ↓IGtt, ↓IGtf, ↓IGft, ↓IGff, ↓PKt, ↓PKf, ↓CDt, ↓CDf, ↓NOTt, ↓NOTf, ↓NK_ptr]
  have h2 := h1.calm hm2
  refine CK_st Try.func14 rfl rfl (Post_ok h2.pa hL0 (ar 0 (-1) 5)) ?_
  rintro _ w3 ⟨rfl, vs3, h3p, f3⟩
  have h3 : PP w w3 q p [] V aR1 vs3 := h2.onP h3p f3
  rw [show (postV (fun _ => []) (ar 0 (-1) 5)).2 = 0 from a1]
  try simp only [↓VG_u, ↓UG_u, ↓MG_u, ↓NG_u, ↓PG_u, ↓BG_u, ↓CG_u, ↓IG_u, ↓VGtt, ↓VGtf, ↓VGft, ↓VGff, ↓UGtt, ↓UGtf, ↓UGft, ↓UGff, ↓MGtt, ↓MGtf, ↓MGft, ↓MGff, ↓NGtt, ↓NGtf, ↓NGft, ↓NGff, ↓PGtt, ↓PGtf, ↓PGft, ↓PGff, ↓BGtt, ↓BGtf, ↓BGft, ↓BGff, ↓CGtt, ↓CGtf, ↓CGft, ↓CGff, ↓IGtt, ↓IGtf, ↓IGft, ↓IGff, ↓PKt, ↓PKf, ↓CDt, ↓CDf, ↓NOTt, ↓NOTf, ↓NK_ptr]
  rw [NEf rfl]
  simp only [↓VG_u, ↓UG_u, ↓MG_u, ↓NG_u, ↓PG_u, ↓BG_u, ↓CG_u, ↓IG_u, ↓VGtt, ↓VGtf, ↓VGft, ↓VGff, ↓UGtt, ↓UGtf, ↓UGft, ↓UGff, ↓MGtt, ↓MGtf, ↓MGft, ↓MGff, ↓NGtt, ↓NGtf, ↓NGft, ↓NGff, ↓PGtt, ↓PGtf, ↓PGft, ↓PGff, ↓BGtt, ↓BGtf, ↓BGft, ↓BGff, ↓CGtt, ↓CGtf, ↓CGft, ↓CGff, ↓IGtt, ↓IGtf, ↓IGft, ↓IGff, ↓PKt, ↓PKf, ↓CDt, ↓CDf, ↓NOTt, ↓NOTf, ↓NK_ptr]
  refine CK_st Try.func27 rfl rfl (receive_ok 1 1 (-1) w3) ?_
  rintro _ w4 ⟨rfl, hm4⟩
  try simp only [↓VG_u, ↓UG_u, ↓MG_u, ↓NG_u, ↓PG_u, ↓BG_u, ↓CG_u, ↓IG_u, ↓VGtt, ↓VGtf, ↓VGft, ↓VGff, ↓UGtt, ↓UGtf, ↓UGft, ↓UGff, ↓MGtt, ↓MGtf, ↓MGft, ↓MGff, ↓NGtt, ↓NGtf, ↓NGft, ↓NGff, ↓PGtt, ↓PGtf, ↓PGft, ↓PGff, ↓BGtt, ↓BGtf, ↓BGft, ↓BGff, ↓CGtt, ↓CGtf, ↓CGft, ↓CGff, ↓IGtt, ↓IGtf, ↓IGft, ↓IGff, ↓PKt, ↓PKf, ↓CDt, ↓CDf, ↓NOTt, ↓NOTf, ↓NK_ptr]
  have h4 := h3.calm hm4
  have hL1 : ∀ i, (aR1 i).length ≤ 1000000 := fun i => by
    unfold aR1 aR0 postV putR
    rw [if_neg (by decide)]
    dsimp only
    split
    · decide
    · exact Nat.zero_le _
  refine CK_st Try.func14 rfl rfl (Post_ok h4.pa hL1 (ar 1 1 (-1))) ?_
  rintro _ w5 ⟨rfl, vs5, h5p, f5⟩
  have h5 : PP w w5 q p [] V aR2 vs5 := h4.onP h5p f5
  rw [a2]
  try simp only [↓VG_u, ↓UG_u, ↓MG_u, ↓NG_u, ↓PG_u, ↓BG_u, ↓CG_u, ↓IG_u, ↓VGtt, ↓VGtf, ↓VGft, ↓VGff, ↓UGtt, ↓UGtf, ↓UGft, ↓UGff, ↓MGtt, ↓MGtf, ↓MGft, ↓MGff, ↓NGtt, ↓NGtf, ↓NGft, ↓NGff, ↓PGtt, ↓PGtf, ↓PGft, ↓PGff, ↓BGtt, ↓BGtf, ↓BGft, ↓BGff, ↓CGtt, ↓CGtf, ↓CGft, ↓CGff, ↓IGtt, ↓IGtf, ↓IGft, ↓IGff, ↓PKt, ↓PKf, ↓CDt, ↓CDf, ↓NOTt, ↓NOTf, ↓NK_ptr]
  rw [NEf rfl]
  simp only [↓VG_u, ↓UG_u, ↓MG_u, ↓NG_u, ↓PG_u, ↓BG_u, ↓CG_u, ↓IG_u, ↓VGtt, ↓VGtf, ↓VGft, ↓VGff, ↓UGtt, ↓UGtf, ↓UGft, ↓UGff, ↓MGtt, ↓MGtf, ↓MGft, ↓MGff, ↓NGtt, ↓NGtf, ↓NGft, ↓NGff, ↓PGtt, ↓PGtf, ↓PGft, ↓PGff, ↓BGtt, ↓BGtf, ↓BGft, ↓BGff, ↓CGtt, ↓CGtf, ↓CGft, ↓CGff, ↓IGtt, ↓IGtf, ↓IGft, ↓IGff, ↓PKt, ↓PKf, ↓CDt, ↓CDf, ↓NOTt, ↓NOTf, ↓NK_ptr]
  refine CK_st Try.func27 rfl rfl (receive_ok 1 1 1 w5) ?_
  rintro _ w6 ⟨rfl, hm6⟩
  try simp only [↓VG_u, ↓UG_u, ↓MG_u, ↓NG_u, ↓PG_u, ↓BG_u, ↓CG_u, ↓IG_u, ↓VGtt, ↓VGtf, ↓VGft, ↓VGff, ↓UGtt, ↓UGtf, ↓UGft, ↓UGff, ↓MGtt, ↓MGtf, ↓MGft, ↓MGff, ↓NGtt, ↓NGtf, ↓NGft, ↓NGff, ↓PGtt, ↓PGtf, ↓PGft, ↓PGff, ↓BGtt, ↓BGtf, ↓BGft, ↓BGff, ↓CGtt, ↓CGtf, ↓CGft, ↓CGff, ↓IGtt, ↓IGtf, ↓IGft, ↓IGff, ↓PKt, ↓PKf, ↓CDt, ↓CDf, ↓NOTt, ↓NOTf, ↓NK_ptr]
  have h6 := h5.calm hm6
  have hL2 : ∀ i, (aR2 i).length ≤ 1000000 := fun i => by have := aL i; omega
  refine CK_st Try.func14 rfl rfl (Post_ok h6.pa hL2 (ar 1 1 1)) ?_
  rintro _ w7 ⟨rfl, vs7, h7p, f7⟩
  have h7 := h6.onP h7p f7
  rw [a3] at h7 ⊢
  try simp only [↓VG_u, ↓UG_u, ↓MG_u, ↓NG_u, ↓PG_u, ↓BG_u, ↓CG_u, ↓IG_u, ↓VGtt, ↓VGtf, ↓VGft, ↓VGff, ↓UGtt, ↓UGtf, ↓UGft, ↓UGff, ↓MGtt, ↓MGtf, ↓MGft, ↓MGff, ↓NGtt, ↓NGtf, ↓NGft, ↓NGff, ↓PGtt, ↓PGtf, ↓PGft, ↓PGff, ↓BGtt, ↓BGtf, ↓BGft, ↓BGff, ↓CGtt, ↓CGtf, ↓CGft, ↓CGff, ↓IGtt, ↓IGtf, ↓IGft, ↓IGff, ↓PKt, ↓PKf, ↓CDt, ↓CDf, ↓NOTt, ↓NOTf, ↓NK_ptr]
  rw [NEf rfl]
  try simp only [↓VG_u, ↓UG_u, ↓MG_u, ↓NG_u, ↓PG_u, ↓BG_u, ↓CG_u, ↓IG_u, ↓VGtt, ↓VGtf, ↓VGft, ↓VGff, ↓UGtt, ↓UGtf, ↓UGft, ↓UGff, ↓MGtt, ↓MGtf, ↓MGft, ↓MGff, ↓NGtt, ↓NGtf, ↓NGft, ↓NGff, ↓PGtt, ↓PGtf, ↓PGft, ↓PGff, ↓BGtt, ↓BGtf, ↓BGft, ↓BGff, ↓CGtt, ↓CGtf, ↓CGft, ↓CGff, ↓IGtt, ↓IGtf, ↓IGft, ↓IGff, ↓PKt, ↓PKf, ↓CDt, ↓CDf, ↓NOTt, ↓NOTf, ↓NK_ptr]
  rw [dispatcherlaw14_awake_R0_eq]; unfold dispatcherlaw14_awake_R0_F
  refine condF ?_
  rw [sq_n]
  have key : ∀ ρ0 : Sl, ρ0 1 = .pointer (some ⟨q, 0, none⟩) → ρ0 2 = .pointer (some ⟨p, 0, none⟩) → sx fn_ Try.prog 106 dispatcherlaw14_awake_R1 (retK Try.prog [ResultVar.tmp 0] fun v w' => v = .bool true ∧ Mod none_ w w') ρ0 w7 := by
    intro ρ0 q1 q2
    rw [dispatcherlaw14_awake_R1_eq]; unfold dispatcherlaw14_awake_R1_F
    rw [q1, q2]
    refine CK_st Try.func26 rfl rfl (message14_ok 0 5 w7) ?_
    rintro _ x1 ⟨rfl, k1⟩
    have g1 := h7.calm k1
    refine CK_st Try.func25 rfl rfl (Send_ok g1.qa (by decide) (am 0 5)) ?_
    rintro _ x2 ⟨_, V2, h2q, f2⟩
    have g2 := g1.onQ h2q f2
    rw [a4] at g2
    refine CK_st Try.func26 rfl rfl (message14_ok 1 6 x2) ?_
    rintro _ x3 ⟨rfl, k3⟩
    have g3 := g2.calm k3
    refine CK_st Try.func25 rfl rfl (Send_ok g3.qa (by decide) (am 1 6)) ?_
    rintro _ x4 ⟨_, V4, h4q, f4⟩
    have g4 := g3.onQ h4q f4
    rw [a5] at g4
    refine CK_st Try.func16 rfl rfl (May_ok g4.pa hL2 g4.qa a14 (by decide) 0 0) ?_
    rintro ma x5 ⟨oa, k5⟩
    rw [a6] at oa
    refine CK_st Try.func16 rfl rfl (May_ok (g4.calm k5).pa hL2 (g4.calm k5).qa a14 (by decide) 0 1) ?_
    rintro mb x6 ⟨ob, k6⟩
    rw [a7] at ob
    have g6 := (g4.calm k5).calm k6
    refine CK_st Try.func27 rfl rfl (receive_ok 9 1 6 x6) ?_
    rintro _ x7 ⟨rfl, k7⟩
    have g7 := g6.calm k7
    refine CK_st Try.func13 rfl rfl (Probe_ok g7.pa hL2 g7.qa a14 (by decide) (ar 9 1 6)) ?_
    rintro mp x8 ⟨op, k8⟩
    rw [show (ar 9 1 6).rank = 0 from rfl, a8] at op
    have g8 := g7.calm k8
    refine CK_st Try.func17 rfl rfl (Match_ok g8 hL2 a14 (by decide) 0 1 1 1) ?_
    rintro _ x9 ⟨rfl, g9, k9⟩
    rw [a9] at g9 ⊢
    dsimp only at g9 ⊢
    refine CK_st Try.func17 rfl rfl (Match_ok g9 hL2 a14 (by decide) 0 0 1 0) ?_
    rintro _ x10 ⟨rfl, g10, k10⟩
    rw [a10]
    have g10 : PP w x10 q p aQ3 V4 aR3 _ := g10
    have hL3 : ∀ i, (aR3 i).length ≤ 1000000 := fun i => by
      show ((matchV aR2 aQ 0 0 1 0).1.1 i).length ≤ _
      rw [match_len]; exact hL2 i
    have k810 : Mod (fun b => V4.F q b ∨ PF p vs7 b) x8 x10 := k9.trans k10
    have oa10 : x10.ownsRow x4.heap.size tMs 8 ma [am 0 5].length ([am 0 5].flatMap Ms.enc) := PP.keep g4 (Nat.le_refl _) (owns_mod (owns_mod (owns_mod oa k6 fun _ _ => id) k7 fun _ _ => id) k8 fun _ _ => id) k810
    have ob10 : x10.ownsRow x5.heap.size tMs 8 mb ([] : List Ms).length (([] : List Ms).flatMap Ms.enc) := PP.keep g4 k5.size (owns_mod (owns_mod ob k7 fun _ _ => id) k8 fun _ _ => id) k810
    have op10 : x10.ownsRow x7.heap.size tMs 8 mp ([] : List Ms).length (([] : List Ms).flatMap Ms.enc) := PP.keep g4 (Nat.le_trans k5.size (Nat.le_trans k6.size k7.size)) op k810
    have key2 : ∀ ρ2 : Sl, ρ2 1 = .pointer (some ⟨q, 0, none⟩) → ρ2 2 = .pointer (some ⟨p, 0, none⟩) → ρ2 3 = ma → ρ2 4 = mb → ρ2 5 = mp → ρ2 6 = .int .i64 2 → ρ2 7 = .int .i64 0 → sx fn_ Try.prog 106 dispatcherlaw14_awake_R2 (retK Try.prog [ResultVar.tmp 0] fun v w' => v = .bool true ∧ Mod none_ w w') ρ2 x10 := by
      intro ρ2 e1 e2 e3 e4 e5 e6 e7
      rw [dispatcherlaw14_awake_R2_eq]; unfold dispatcherlaw14_awake_R2_F
      rw [e1, e2, e3, e4, e5, e6, e7]
      refine CK_st Try.func16 rfl rfl (May_ok g10.pa hL3 g10.qa a15 (by decide) 0 1) ?_
      rintro mc x11 ⟨oc, k11⟩
      rw [a11] at oc
      have oa11 := owns_mod oa10 k11 fun _ _ => id
      have ob11 := owns_mod ob10 k11 fun _ _ => id
      have op11 := owns_mod op10 k11 fun _ _ => id
      obtain ⟨A1, c1, es1, _⟩ := reads_cap (reads_of_owns oa11)
      rw [es1, len_sl vMsS, ← es1, show (([am 0 5].length : Nat) : Int) = 1 from rfl, EQt rfl]
      try simp only [↓VG_u, ↓UG_u, ↓MG_u, ↓NG_u, ↓PG_u, ↓BG_u, ↓CG_u, ↓IG_u, ↓VGtt, ↓VGtf, ↓VGft, ↓VGff, ↓UGtt, ↓UGtf, ↓UGft, ↓UGff, ↓MGtt, ↓MGtf, ↓MGft, ↓MGff, ↓NGtt, ↓NGtf, ↓NGft, ↓NGff, ↓PGtt, ↓PGtf, ↓PGft, ↓PGff, ↓BGtt, ↓BGtf, ↓BGft, ↓BGff, ↓CGtt, ↓CGtf, ↓CGft, ↓CGff, ↓IGtt, ↓IGtf, ↓IGft, ↓IGff, ↓PKt, ↓PKf, ↓CDt, ↓CDf, ↓NOTt, ↓NOTf, ↓NK_ptr]
      refine ixF (reads_of_owns oa11) (i := 0) (e := am 0 5) rfl rfl (show fieldOff Try.prog tMs 3 = some 3 by kernel_rfl) (ld1 vI rfl) (u := .int .i64 0) rfl fun _ _ => ?_
      try simp only [↓VG_u, ↓UG_u, ↓MG_u, ↓NG_u, ↓PG_u, ↓BG_u, ↓CG_u, ↓IG_u, ↓VGtt, ↓VGtf, ↓VGft, ↓VGff, ↓UGtt, ↓UGtf, ↓UGft, ↓UGff, ↓MGtt, ↓MGtf, ↓MGft, ↓MGff, ↓NGtt, ↓NGtf, ↓NGft, ↓NGff, ↓PGtt, ↓PGtf, ↓PGft, ↓PGff, ↓BGtt, ↓BGtf, ↓BGft, ↓BGff, ↓CGtt, ↓CGtf, ↓CGft, ↓CGff, ↓IGtt, ↓IGtf, ↓IGft, ↓IGff, ↓PKt, ↓PKf, ↓CDt, ↓CDf, ↓NOTt, ↓NOTf, ↓NK_ptr]
      rw [EQt rfl]
      try simp only [↓VG_u, ↓UG_u, ↓MG_u, ↓NG_u, ↓PG_u, ↓BG_u, ↓CG_u, ↓IG_u, ↓VGtt, ↓VGtf, ↓VGft, ↓VGff, ↓UGtt, ↓UGtf, ↓UGft, ↓UGff, ↓MGtt, ↓MGtf, ↓MGft, ↓MGff, ↓NGtt, ↓NGtf, ↓NGft, ↓NGff, ↓PGtt, ↓PGtf, ↓PGft, ↓PGff, ↓BGtt, ↓BGtf, ↓BGft, ↓BGff, ↓CGtt, ↓CGtf, ↓CGft, ↓CGff, ↓IGtt, ↓IGtf, ↓IGft, ↓IGff, ↓PKt, ↓PKf, ↓CDt, ↓CDf, ↓NOTt, ↓NOTf, ↓NK_ptr]
      obtain ⟨A2, c2, es2, _⟩ := reads_cap (reads_of_owns ob11)
      rw [es2, len_sl vMsS, ← es2, show ((([] : List Ms).length : Nat) : Int) = 0 from rfl, EQt rfl]
      try simp only [↓VG_u, ↓UG_u, ↓MG_u, ↓NG_u, ↓PG_u, ↓BG_u, ↓CG_u, ↓IG_u, ↓VGtt, ↓VGtf, ↓VGft, ↓VGff, ↓UGtt, ↓UGtf, ↓UGft, ↓UGff, ↓MGtt, ↓MGtf, ↓MGft, ↓MGff, ↓NGtt, ↓NGtf, ↓NGft, ↓NGff, ↓PGtt, ↓PGtf, ↓PGft, ↓PGff, ↓BGtt, ↓BGtf, ↓BGft, ↓BGff, ↓CGtt, ↓CGtf, ↓CGft, ↓CGff, ↓IGtt, ↓IGtf, ↓IGft, ↓IGff, ↓PKt, ↓PKf, ↓CDt, ↓CDf, ↓NOTt, ↓NOTf, ↓NK_ptr]
      obtain ⟨A3, c3, es3, _⟩ := reads_cap (reads_of_owns op11)
      rw [es3, len_sl vMsS, ← es3, show ((([] : List Ms).length : Nat) : Int) = 0 from rfl, EQt rfl]
      try simp only [↓VG_u, ↓UG_u, ↓MG_u, ↓NG_u, ↓PG_u, ↓BG_u, ↓CG_u, ↓IG_u, ↓VGtt, ↓VGtf, ↓VGft, ↓VGff, ↓UGtt, ↓UGtf, ↓UGft, ↓UGff, ↓MGtt, ↓MGtf, ↓MGft, ↓MGff, ↓NGtt, ↓NGtf, ↓NGft, ↓NGff, ↓PGtt, ↓PGtf, ↓PGft, ↓PGff, ↓BGtt, ↓BGtf, ↓BGft, ↓BGff, ↓CGtt, ↓CGtf, ↓CGft, ↓CGff, ↓IGtt, ↓IGtf, ↓IGft, ↓IGff, ↓PKt, ↓PKf, ↓CDt, ↓CDf, ↓NOTt, ↓NOTf, ↓NK_ptr]
      rw [EQt rfl]
      try simp only [↓VG_u, ↓UG_u, ↓MG_u, ↓NG_u, ↓PG_u, ↓BG_u, ↓CG_u, ↓IG_u, ↓VGtt, ↓VGtf, ↓VGft, ↓VGff, ↓UGtt, ↓UGtf, ↓UGft, ↓UGff, ↓MGtt, ↓MGtf, ↓MGft, ↓MGff, ↓NGtt, ↓NGtf, ↓NGft, ↓NGff, ↓PGtt, ↓PGtf, ↓PGft, ↓PGff, ↓BGtt, ↓BGtf, ↓BGft, ↓BGff, ↓CGtt, ↓CGtf, ↓CGft, ↓CGff, ↓IGtt, ↓IGtf, ↓IGft, ↓IGff, ↓PKt, ↓PKf, ↓CDt, ↓CDf, ↓NOTt, ↓NOTf, ↓NK_ptr]
      rw [EQt rfl]
      try simp only [↓VG_u, ↓UG_u, ↓MG_u, ↓NG_u, ↓PG_u, ↓BG_u, ↓CG_u, ↓IG_u, ↓VGtt, ↓VGtf, ↓VGft, ↓VGff, ↓UGtt, ↓UGtf, ↓UGft, ↓UGff, ↓MGtt, ↓MGtf, ↓MGft, ↓MGff, ↓NGtt, ↓NGtf, ↓NGft, ↓NGff, ↓PGtt, ↓PGtf, ↓PGft, ↓PGff, ↓BGtt, ↓BGtf, ↓BGft, ↓BGff, ↓CGtt, ↓CGtf, ↓CGft, ↓CGff, ↓IGtt, ↓IGtf, ↓IGft, ↓IGff, ↓PKt, ↓PKf, ↓CDt, ↓CDf, ↓NOTt, ↓NOTf, ↓NK_ptr]
      obtain ⟨A4, c4, es4, _⟩ := reads_cap (reads_of_owns oc)
      rw [es4, len_sl vMsS, ← es4, show (([am 1 6].length : Nat) : Int) = 1 from rfl, EQt rfl]
      try simp only [↓VG_u, ↓UG_u, ↓MG_u, ↓NG_u, ↓PG_u, ↓BG_u, ↓CG_u, ↓IG_u, ↓VGtt, ↓VGtf, ↓VGft, ↓VGff, ↓UGtt, ↓UGtf, ↓UGft, ↓UGff, ↓MGtt, ↓MGtf, ↓MGft, ↓MGff, ↓NGtt, ↓NGtf, ↓NGft, ↓NGff, ↓PGtt, ↓PGtf, ↓PGft, ↓PGff, ↓BGtt, ↓BGtf, ↓BGft, ↓BGff, ↓CGtt, ↓CGtf, ↓CGft, ↓CGff, ↓IGtt, ↓IGtf, ↓IGft, ↓IGff, ↓PKt, ↓PKf, ↓CDt, ↓CDf, ↓NOTt, ↓NOTf, ↓NK_ptr]
      refine ixF (reads_of_owns oc) (i := 0) (e := am 1 6) rfl rfl (show fieldOff Try.prog tMs 3 = some 3 by kernel_rfl) (ld1 vI rfl) (u := .int .i64 1) rfl fun _ _ => ?_
      try simp only [↓VG_u, ↓UG_u, ↓MG_u, ↓NG_u, ↓PG_u, ↓BG_u, ↓CG_u, ↓IG_u, ↓VGtt, ↓VGtf, ↓VGft, ↓VGff, ↓UGtt, ↓UGtf, ↓UGft, ↓UGff, ↓MGtt, ↓MGtf, ↓MGft, ↓MGff, ↓NGtt, ↓NGtf, ↓NGft, ↓NGff, ↓PGtt, ↓PGtf, ↓PGft, ↓PGff, ↓BGtt, ↓BGtf, ↓BGft, ↓BGff, ↓CGtt, ↓CGtf, ↓CGft, ↓CGff, ↓IGtt, ↓IGtf, ↓IGft, ↓IGff, ↓PKt, ↓PKf, ↓CDt, ↓CDf, ↓NOTt, ↓NOTf, ↓NK_ptr]
      rw [EQt rfl]
      try simp only [↓VG_u, ↓UG_u, ↓MG_u, ↓NG_u, ↓PG_u, ↓BG_u, ↓CG_u, ↓IG_u, ↓VGtt, ↓VGtf, ↓VGft, ↓VGff, ↓UGtt, ↓UGtf, ↓UGft, ↓UGff, ↓MGtt, ↓MGtf, ↓MGft, ↓MGff, ↓NGtt, ↓NGtf, ↓NGft, ↓NGff, ↓PGtt, ↓PGtf, ↓PGft, ↓PGff, ↓BGtt, ↓BGtf, ↓BGft, ↓BGff, ↓CGtt, ↓CGtf, ↓CGft, ↓CGff, ↓IGtt, ↓IGtf, ↓IGft, ↓IGff, ↓PKt, ↓PKf, ↓CDt, ↓CDf, ↓NOTt, ↓NOTf, ↓NK_ptr]
      refine CK_st Try.func18 rfl rfl (Waiting_ok (g10.calm k11).pa hL3 0) ?_
      rintro mw x12 ⟨ow, k12⟩
      obtain ⟨A5, c5, es5, _⟩ := reads_cap (reads_of_owns ow)
      try simp only [↓VG_u, ↓UG_u, ↓MG_u, ↓NG_u, ↓PG_u, ↓BG_u, ↓CG_u, ↓IG_u, ↓VGtt, ↓VGtf, ↓VGft, ↓VGff, ↓UGtt, ↓UGtf, ↓UGft, ↓UGff, ↓MGtt, ↓MGtf, ↓MGft, ↓MGff, ↓NGtt, ↓NGtf, ↓NGft, ↓NGff, ↓PGtt, ↓PGtf, ↓PGft, ↓PGff, ↓BGtt, ↓BGtf, ↓BGft, ↓BGff, ↓CGtt, ↓CGtf, ↓CGft, ↓CGff, ↓IGtt, ↓IGtf, ↓IGft, ↓IGff, ↓PKt, ↓PKf, ↓CDt, ↓CDf, ↓NOTt, ↓NOTf, ↓NK_ptr]
      rw [es5, len_sl vRcS, a12, show ((1 : Nat) : Int) = 1 from rfl, EQt rfl]
      try simp only [↓VG_u, ↓UG_u, ↓MG_u, ↓NG_u, ↓PG_u, ↓BG_u, ↓CG_u, ↓IG_u, ↓VGtt, ↓VGtf, ↓VGft, ↓VGff, ↓UGtt, ↓UGtf, ↓UGft, ↓UGff, ↓MGtt, ↓MGtf, ↓MGft, ↓MGff, ↓NGtt, ↓NGtf, ↓NGft, ↓NGff, ↓PGtt, ↓PGtf, ↓PGft, ↓PGff, ↓BGtt, ↓BGtf, ↓BGft, ↓BGff, ↓CGtt, ↓CGtf, ↓CGft, ↓CGff, ↓IGtt, ↓IGtf, ↓IGft, ↓IGff, ↓PKt, ↓PKf, ↓CDt, ↓CDf, ↓NOTt, ↓NOTf, ↓NK_ptr]
      exact ⟨rfl, (g10.mod.trans k11).trans k12⟩
    exact key2 _ (by first | exact q1 | rfl) (by first | exact q2 | rfl) rfl rfl rfl rfl rfl
  exact key _ rfl rfl
end Go.Proofs.Ytmnkedgmpbcicaa.Que
set_option linter.unusedVariables false
set_option linter.unusedSimpArgs false
set_option maxRecDepth 8000
namespace Go.X
open Go Go.RowKit
structure Bc where
  kind : Int
  m : Ms
  r : Rc
def Bc.enc (a : Bc) : List Value := .int .u8 a.kind :: (a.m.enc ++ a.r.enc)
theorem Bc.enc_len (a : Bc) : a.enc.length = 17 + 1 := rfl
def Bcts (w : World) (v : Value) (l : List Bc) : Prop := reads w (17 + 1) v l.length (l.flatMap Bc.enc)
def greatB (l : List Bc) : Bool := decide (120 < l.length) || l.any fun a => decide (100 < a.m.key.length) || decide (100 < a.r.key.length)
end Go.X
namespace Go.Proofs.Ytmnkedgmpbcicaa.Que
open Go Go.X Go.RowKit Go.Proofs.Ytmnkedgmpbcicaa.XF Go.Proofs.Ytmnkedgmpbcicaa.XG Go.Proofs.Ytmnkedgmpbcicaa.XK
abbrev tBcs : TypeId := 22
abbrev tBc : TypeId := 48
theorem vBcs : Try.prog.underlying tBcs = some (.slice tBc) := by kernel_rfl
theorem cBc : Try.prog.cellsOf tBc = 17 + 1 := by kernel_rfl
theorem ixBc {w : World} {s : Value} {l : List Bc} {i : Nat} {n : Int} {e : Bc} {K : Value → World → Prop} (h : Bcts w s l) (hi : l[i]? = some e) (hn : n = (i : Int)) (hk : ∀ a, (∀ j u, e.enc[j]? = some u → w.cell? (a.add j) = some u) → K (.pointer (some a)) w) :
    VK Try.prog (Instr.indexAt tBcs s (.int .i64 n)) w K := by
  subst hn
  have hlt : i < l.length := (List.getElem?_eq_some_iff.1 hi).1
  refine ixat vBcs cBc h (by omega) (by omega) fun a ha _ => hk a fun j u hu => ?_
  have hj : j < 17 + 1 := (List.getElem?_eq_some_iff.1 hu).1
  refine ha j u hj ?_
  rw [show ((i : Int).toNat) = i by omega, fl_get (k := 17 + 1) Bc.enc_len hi hj]
  exact hu
theorem ldBc {w : World} {s : Value} {l : List Bc} {i : Nat} {n : Int} {e : Bc} {K : Value → Value → World → Prop} (h : Bcts w s l) (hi : l[i]? = some e) (hn : n = (i : Int)) (hk : ∀ x, K x (.agg e.enc.toArray) w) :
    VK Try.prog (Instr.indexAt tBcs s (.int .i64 n)) w fun x w => VK Try.prog (Instr.loadAt tBc x) w (K x) := by
  subst hn
  have hlt : i < l.length := (List.getElem?_eq_some_iff.1 hi).1
  refine ixldA vBcs cBc Try.underlying48 rfl h (by omega) (by omega) fun x => ?_
  rw [show ((i : Int).toNat) = i by omega, fl_drop (k := 17 + 1) Bc.enc_len hi]
  exact hk x
theorem Bcts.calm {w w' : World} {s : Value} {l : List Bc} (h : Bcts w s l) (hm : Mod none_ w w') : Bcts w' s l := reads_mod h hm fun _ _ _ => id
theorem GreatB_ok {w : World} {v : Value} {l : List Bc} (h : Bcts w v l) : Rt Try.prog 11 #[v] w fun u w' => u = .bool (greatB l) ∧ w' = w := by
  refine dispatcherlaw14_Great_calls ?_
  unfold dispatcherlaw14_Great_F
  obtain ⟨A, c, es, _⟩ := reads_cap h
  rw [es, len_sl vBcs, ← es, BK_gtr]
  unfold greatB
  by_cases hl : 120 < l.length
  · rw [decide_eq_true (by omega), decide_eq_true hl]
    exact condT ⟨rfl, rfl⟩
  · rw [decide_eq_false (by omega), decide_eq_false hl]
    refine condF ?_
    refine W_loop dispatcherlaw14_Great_L0_ok (fun ρ w' => ∃ i : Nat, i ≤ l.length ∧ ρ 3 = .int .i64 i ∧ ρ 0 = v ∧ (∀ a ∈ l.take i, ¬ 100 < a.m.key.length ∧ ¬ 100 < a.r.key.length) ∧ w' = w) (fun ρ _ => l.length - (intOf (ρ 3)).toNat)
      ⟨0, Nat.zero_le _, rfl, rfl, by simp, rfl⟩ ?_
    rintro ρ w1 ⟨i, hi, e3, e0, hno, rfl⟩
    rw [dispatcherlaw14_Great_L0_eq]; unfold dispatcherlaw14_Great_L0_F
    rw [e3, e0, es, len_sl vBcs, ← es, BK_lss]
    by_cases hlt : i < l.length
    · rw [decide_eq_true (by omega)]
      refine condT ?_
      have hx : l[i]? = some l[i] := List.getElem?_eq_getElem hlt
      have hmem : l[i] ∈ l := List.getElem_mem hlt
      have etk : l.take (i + 1) = l.take i ++ [l[i]] := by rw [List.take_add_one, hx]; rfl
      generalize l[i] = x at *
      refine ixBc h hx rfl fun a ha => ?_
      rw [fo (show fieldOff Try.prog tBc 1 = some 1 by kernel_rfl), fo (show fieldOff Try.prog tMs 0 = some 0 by kernel_rfl), add_add]
      refine ld1 vS rfl (ha 1 (strV x.m.key) rfl) ?_
      unfold strV
      rw [len_str vS, BK_gtr]
      have hsz : (⟨x.m.key.toArray⟩ : ByteArray).size = x.m.key.length := by simp [ByteArray.size]
      have hsz2 : (⟨x.r.key.toArray⟩ : ByteArray).size = x.r.key.length := by simp [ByteArray.size]
      rw [hsz]
      by_cases hk : 100 < x.m.key.length
      · rw [decide_eq_true (show (100 : Int) < (x.m.key.length : Nat) by omega)]
        try simp only [↓VG_u, ↓UG_u, ↓MG_u, ↓NG_u, ↓PG_u, ↓BG_u, ↓CG_u, ↓IG_u, ↓VGtt, ↓VGtf, ↓VGft, ↓VGff, ↓UGtt, ↓UGtf, ↓UGft, ↓UGff, ↓MGtt, ↓MGtf, ↓MGft, ↓MGff, ↓NGtt, ↓NGtf, ↓NGft, ↓NGff, ↓PGtt, ↓PGtf, ↓PGft, ↓PGff, ↓BGtt, ↓BGtf, ↓BGft, ↓BGff, ↓CGtt, ↓CGtf, ↓CGft, ↓CGff, ↓IGtt, ↓IGtf, ↓IGft, ↓IGff, ↓PKt, ↓PKf, ↓CDt, ↓CDf, ↓NOTt, ↓NOTf, ↓NK_ptr]
        refine ⟨?_, by trivial⟩
        rw [List.any_eq_true.2 ⟨x, hmem, by rw [decide_eq_true hk]; rfl⟩]
        first | rfl | simp
      · rw [decide_eq_false (show ¬ (100 : Int) < (x.m.key.length : Nat) by omega)]
        try simp only [↓VG_u, ↓UG_u, ↓MG_u, ↓NG_u, ↓PG_u, ↓BG_u, ↓CG_u, ↓IG_u, ↓VGtt, ↓VGtf, ↓VGft, ↓VGff, ↓UGtt, ↓UGtf, ↓UGft, ↓UGff, ↓MGtt, ↓MGtf, ↓MGft, ↓MGff, ↓NGtt, ↓NGtf, ↓NGft, ↓NGff, ↓PGtt, ↓PGtf, ↓PGft, ↓PGff, ↓BGtt, ↓BGtf, ↓BGft, ↓BGff, ↓CGtt, ↓CGtf, ↓CGft, ↓CGff, ↓IGtt, ↓IGtf, ↓IGft, ↓IGff, ↓PKt, ↓PKf, ↓CDt, ↓CDf, ↓NOTt, ↓NOTf, ↓NK_ptr]
        refine ixBc h hx rfl fun a2 ha2 => ?_
        try simp only [↓VG_u, ↓UG_u, ↓MG_u, ↓NG_u, ↓PG_u, ↓BG_u, ↓CG_u, ↓IG_u, ↓VGtt, ↓VGtf, ↓VGft, ↓VGff, ↓UGtt, ↓UGtf, ↓UGft, ↓UGff, ↓MGtt, ↓MGtf, ↓MGft, ↓MGff, ↓NGtt, ↓NGtf, ↓NGft, ↓NGff, ↓PGtt, ↓PGtf, ↓PGft, ↓PGff, ↓BGtt, ↓BGtf, ↓BGft, ↓BGff, ↓CGtt, ↓CGtf, ↓CGft, ↓CGff, ↓IGtt, ↓IGtf, ↓IGft, ↓IGff, ↓PKt, ↓PKf, ↓CDt, ↓CDf, ↓NOTt, ↓NOTf, ↓NK_ptr]
        rw [fo (show fieldOff Try.prog tBc 2 = some 9 by kernel_rfl)]
        try simp only [↓VG_u, ↓UG_u, ↓MG_u, ↓NG_u, ↓PG_u, ↓BG_u, ↓CG_u, ↓IG_u, ↓VGtt, ↓VGtf, ↓VGft, ↓VGff, ↓UGtt, ↓UGtf, ↓UGft, ↓UGff, ↓MGtt, ↓MGtf, ↓MGft, ↓MGff, ↓NGtt, ↓NGtf, ↓NGft, ↓NGff, ↓PGtt, ↓PGtf, ↓PGft, ↓PGff, ↓BGtt, ↓BGtf, ↓BGft, ↓BGff, ↓CGtt, ↓CGtf, ↓CGft, ↓CGff, ↓IGtt, ↓IGtf, ↓IGft, ↓IGff, ↓PKt, ↓PKf, ↓CDt, ↓CDf, ↓NOTt, ↓NOTf, ↓NK_ptr]
        rw [fo (show fieldOff Try.prog tRc 0 = some 0 by kernel_rfl), add_add]
        try simp only [↓VG_u, ↓UG_u, ↓MG_u, ↓NG_u, ↓PG_u, ↓BG_u, ↓CG_u, ↓IG_u, ↓VGtt, ↓VGtf, ↓VGft, ↓VGff, ↓UGtt, ↓UGtf, ↓UGft, ↓UGff, ↓MGtt, ↓MGtf, ↓MGft, ↓MGff, ↓NGtt, ↓NGtf, ↓NGft, ↓NGff, ↓PGtt, ↓PGtf, ↓PGft, ↓PGff, ↓BGtt, ↓BGtf, ↓BGft, ↓BGff, ↓CGtt, ↓CGtf, ↓CGft, ↓CGff, ↓IGtt, ↓IGtf, ↓IGft, ↓IGff, ↓PKt, ↓PKf, ↓CDt, ↓CDf, ↓NOTt, ↓NOTf, ↓NK_ptr]
        refine ld1 vS rfl (ha2 9 (strV x.r.key) rfl) ?_
        unfold strV
        try simp only [↓VG_u, ↓UG_u, ↓MG_u, ↓NG_u, ↓PG_u, ↓BG_u, ↓CG_u, ↓IG_u, ↓VGtt, ↓VGtf, ↓VGft, ↓VGff, ↓UGtt, ↓UGtf, ↓UGft, ↓UGff, ↓MGtt, ↓MGtf, ↓MGft, ↓MGff, ↓NGtt, ↓NGtf, ↓NGft, ↓NGff, ↓PGtt, ↓PGtf, ↓PGft, ↓PGff, ↓BGtt, ↓BGtf, ↓BGft, ↓BGff, ↓CGtt, ↓CGtf, ↓CGft, ↓CGff, ↓IGtt, ↓IGtf, ↓IGft, ↓IGff, ↓PKt, ↓PKf, ↓CDt, ↓CDf, ↓NOTt, ↓NOTf, ↓NK_ptr]
        rw [len_str vS]
        try simp only [↓VG_u, ↓UG_u, ↓MG_u, ↓NG_u, ↓PG_u, ↓BG_u, ↓CG_u, ↓IG_u, ↓VGtt, ↓VGtf, ↓VGft, ↓VGff, ↓UGtt, ↓UGtf, ↓UGft, ↓UGff, ↓MGtt, ↓MGtf, ↓MGft, ↓MGff, ↓NGtt, ↓NGtf, ↓NGft, ↓NGff, ↓PGtt, ↓PGtf, ↓PGft, ↓PGff, ↓BGtt, ↓BGtf, ↓BGft, ↓BGff, ↓CGtt, ↓CGtf, ↓CGft, ↓CGff, ↓IGtt, ↓IGtf, ↓IGft, ↓IGff, ↓PKt, ↓PKf, ↓CDt, ↓CDf, ↓NOTt, ↓NOTf, ↓NK_ptr]
        rw [BK_gtr, hsz2]
        try simp only [↓VG_u, ↓UG_u, ↓MG_u, ↓NG_u, ↓PG_u, ↓BG_u, ↓CG_u, ↓IG_u, ↓VGtt, ↓VGtf, ↓VGft, ↓VGff, ↓UGtt, ↓UGtf, ↓UGft, ↓UGff, ↓MGtt, ↓MGtf, ↓MGft, ↓MGff, ↓NGtt, ↓NGtf, ↓NGft, ↓NGff, ↓PGtt, ↓PGtf, ↓PGft, ↓PGff, ↓BGtt, ↓BGtf, ↓BGft, ↓BGff, ↓CGtt, ↓CGtf, ↓CGft, ↓CGff, ↓IGtt, ↓IGtf, ↓IGft, ↓IGff, ↓PKt, ↓PKf, ↓CDt, ↓CDf, ↓NOTt, ↓NOTf, ↓NK_ptr]
        by_cases hk2 : 100 < x.r.key.length
        · rw [decide_eq_true (show (100 : Int) < (x.r.key.length : Nat) by omega)]
          refine condT ⟨?_, rfl⟩
          rw [List.any_eq_true.2 ⟨x, hmem, by rw [decide_eq_true hk2, Bool.or_true]⟩]; rfl
        · rw [decide_eq_false (show ¬ (100 : Int) < (x.r.key.length : Nat) by omega)]
          refine condF ?_
          rw [BK_add, wrap_i (by omega) (by omega)]
          refine ⟨⟨i + 1, hlt, rfl, by first | rfl | exact e0, ?_, rfl⟩, ?_⟩
          · rw [etk]
            intro a q
            rcases List.mem_append.1 q with q | q
            · exact hno a q
            · rw [List.mem_singleton.1 q]; exact ⟨hk, hk2⟩
          · simp only [sq_n, sq_x, sq_r, bk_n, bk_r, bk_x, rt_r, rt_n, rs_0, rs_t, pk_1, pk_2, up_at, reduceIte, Nat.reduceEqDiff, intOf]; omega
    · obtain rfl : i = l.length := by omega
      rw [decide_eq_false (by omega)]
      refine condF ?_
      rw [sq_x, bk_x, sq_n, dispatcherlaw14_Great_R1_eq]; unfold dispatcherlaw14_Great_R1_F
      refine ⟨?_, rfl⟩
      rw [List.take_length] at hno
      have : (l.any fun a => decide (100 < a.m.key.length) || decide (100 < a.r.key.length)) = false := List.any_eq_false.2 fun a ha => by have := hno a ha; simp only [Bool.or_eq_true, decide_eq_true_eq, not_or]; exact this
      rw [this]; rfl
inductive StepQ (R : Rks) (ls : List Ms) : Rks → List Ms → Prop
  | none : StepQ R ls R ls
  | send (m : Ms) : StepQ R ls R (sendV ls m).1
  | post (r : Rc) : StepQ R ls (postV R r).1 ls
  | mtch (rk c f s : Int) : StepQ R ls (matchV R ls rk c f s).1.1 (matchV R ls rk c f s).1.2
structure MFr (q p : Nat) (w : World) (V : QV) (vs : List Value) (w' : World) (V' : QV) (vs' : List Value) : Prop where
  mod : Mod (fun b => V.F q b ∨ PF p vs b) w w'
  f : ∀ b, V'.F q b ∨ PF p vs' b → (V.F q b ∨ PF p vs b) ∨ w.heap.size ≤ b
theorem MFr.calm {q p : Nat} {w w' : World} {V : QV} {vs : List Value} (h : Mod none_ w w') : MFr q p w V vs w' V vs := ⟨h.mono fun _ _ q => q.elim, fun _ q => .inl q⟩
theorem MFr.trans {q p : Nat} {w w1 w2 : World} {V V1 V2 : QV} {vs vs1 vs2 : List Value} (h : MFr q p w V vs w1 V1 vs1) (k : MFr q p w1 V1 vs1 w2 V2 vs2) : MFr q p w V vs w2 V2 vs2 := by
  have hs := h.mod.size
  refine ⟨h.mod.then k.mod fun i hi z => ?_, fun b z => ?_⟩
  · rcases h.f i z with y | y
    · exact y
    · omega
  · rcases k.f b z with y | y
    · exact h.f b y
    · right; omega
theorem MFr.q {q p : Nat} {w w1 : World} {V V1 : QV} {vs : List Value} (h : QFr q w V w1 V1) : MFr q p w V vs w1 V1 vs := ⟨h.mod.mono fun b _ z => .inl z, fun b z => by
  rcases z with z | z
  · rcases h.f b z with y | y
    · exact .inl (.inl y)
    · exact .inr y
  · exact .inl (.inr z)⟩
theorem MFr.p {q p : Nat} {w w1 : World} {V : QV} {vs vs1 : List Value} (h : PFr p w vs w1 vs1) : MFr q p w V vs w1 V vs1 := ⟨h.mod.mono fun b _ z => .inr z, fun b z => by
  rcases z with z | z
  · exact .inl (.inl z)
  · rcases h.f b z with y | y
    · exact .inl (.inr y)
    · exact .inr y⟩
theorem MFr.m {q p : Nat} {w w1 : World} {V : QV} {vs : List Value} (h : Mod (fun b => V.F q b ∨ PF p vs b) w w1) : MFr q p w V vs w1 V vs := ⟨h, fun b z => .inl z⟩
structure Beside (q p : Nat) (V : QV) (vs : List Value) (w : World) (o : Value) : Prop where
  ap : ∀ g, sb o g → ¬ (V.F q g ∨ PF p vs g)
  old : ∀ g, sb o g → g < w.heap.size
theorem Beside.on {q p : Nat} {w w1 : World} {V V1 : QV} {vs vs1 : List Value} {o : Value} (h : Beside q p V vs w o) (k : MFr q p w V vs w1 V1 vs1) : Beside q p V1 vs1 w1 o := by
  have hs := k.mod.size
  refine ⟨fun g z y => ?_, fun g z => by have := h.old g z; omega⟩
  rcases k.f g y with u | u
  · exact h.ap g z u
  · have := h.old g z; omega
theorem Beside.keep {q p : Nat} {w w1 : World} {V V1 : QV} {vs vs1 : List Value} {o : Value} {B n sz : Nat} {e : TypeId} {xs : List Value} (h : Beside q p V vs w o) (k : MFr q p w V vs w1 V1 vs1) (ho : w.ownsRow B e sz o n xs) : w1.ownsRow B e sz o n xs :=
  owns_mod ho k.mod fun g z y => h.ap g z y
theorem Beside.new {w0 w w1 : World} {q p : Nat} {V : QV} {vs : List Value} {ls : List Ms} {R : Rks} {o : Value} {n sz : Nat} {e : TypeId} {xs : List Value} (h : PP w0 w q p ls V R vs) (ho : w1.ownsRow w.heap.size e sz o n xs) : Beside q p V vs w1 o := by
  refine ⟨fun g z y => ?_, fun g z => (owns_bd ho g z).2⟩
  have := (owns_bd ho g z).1
  rcases y with y | y
  · have := h.qa.old g y; omega
  · have := h.pa.old g y; omega
end Go.Proofs.Ytmnkedgmpbcicaa.Que
set_option linter.unusedVariables false
set_option linter.unusedSimpArgs false
set_option maxRecDepth 8000
namespace Go.Proofs.Ytmnkedgmpbcicaa.Que
open Go Go.X Go.RowKit Go.Proofs.Ytmnkedgmpbcicaa.XF Go.Proofs.Ytmnkedgmpbcicaa.XG Go.Proofs.Ytmnkedgmpbcicaa.XK
theorem vU8 : Try.prog.underlying 5 = some (.int .u8) := by kernel_rfl
abbrev ActP (w0 w : World) (q p : Nat) (ls : List Ms) (V : QV) (R : Rks) (vs : List Value) : Value → World → Prop := fun v w' => ∃ R' ls' V' vs', StepQ R ls R' ls' ∧ PP w0 w' q p ls' V' R' vs' ∧ MFr q p w V vs w' V' vs'
theorem pick_ix (c : Int) {L : Nat} (h0 : 0 < L) (h1 : L ≤ 64) : ∃ k : Nat, k < L ∧ IntKind.i64.wrap ((IntKind.u64.wrap c).tmod (IntKind.u64.wrap (L : Int))) = (k : Int) := by
  have e1 : IntKind.u64.wrap (L : Int) = (L : Int) := by rw [IntKind.wrap_u64]; omega
  have e2 : 0 ≤ IntKind.u64.wrap c := by rw [IntKind.wrap_u64]; omega
  rw [e1, Int.tmod_eq_emod_of_nonneg e2]
  generalize IntKind.u64.wrap c = u at *
  have h3 : 0 ≤ u % (L : Int) := Int.emod_nonneg _ (by omega)
  have h4 : u % (L : Int) < L := Int.emod_lt_of_pos _ (by omega)
  refine ⟨(u % (L : Int)).toNat, by omega, ?_⟩
  rw [wrap_i (by omega) (by omega)]
  omega
section
variable {w0 w : World} {q p : Nat} {ls : List Ms} {V : QV} {R : Rks} {vs : List Value}
theorem act_R2 {K : Exit → Sl → World → Prop} {ρ : Sl} {b5 b8 : Nat} {a : Bc} {m : Ms} (h : PP w0 w q p ls V R vs) (hlen : ∀ i, (R i).length ≤ 900000) (hg : FrmOk ls) (hL : ls.length ≤ 400000)
    (h5 : w.heap[b5]? = some (.cells a.enc.toArray tBc (0, 0))) (h8 : w.heap[b8]? = some (.cells m.enc.toArray tMs (0, 0))) (n5 : ¬ (V.F q b5 ∨ PF p vs b5))
    (e5 : ρ 5 = .pointer (some ⟨b5, 0, none⟩)) (e8 : ρ 8 = .pointer (some ⟨b8, 0, none⟩)) (e0 : ρ 0 = .pointer (some ⟨q, 0, none⟩)) (e1 : ρ 1 = .pointer (some ⟨p, 0, none⟩))
    (hk : ∀ (e : Exit) (ρ' : Sl) (w' : World), (e = .normal ∨ e = .ret) → ActP w0 w q p ls V R vs undef w' → K e ρ' w') : sx fn_ Try.prog 66 dispatcherlaw14_act_R2 K ρ w := by
  rw [dispatcherlaw14_act_R2_eq]; unfold dispatcherlaw14_act_R2_F
  rw [e5, e8, e0, e1, fo (show fieldOff Try.prog tBc 2 = some 9 by kernel_rfl), fo (show fieldOff Try.prog tRc 1 = some 1 by kernel_rfl), add_pl, add_pl]
  refine ld1 vI rfl (v := .int .i64 a.r.rank) (by rw [cell_blk h5]; rfl) ?_
  rw [fo (show fieldOff Try.prog tBc 2 = some 9 by kernel_rfl), fo (show fieldOff Try.prog tRc 2 = some 2 by kernel_rfl), add_pl, add_pl]
  refine ld1 vI rfl (v := .int .i64 a.r.call) (by rw [cell_blk h5]; rfl) ?_
  rw [fo (show fieldOff Try.prog tMs 1 = some 1 by kernel_rfl), add_pl]
  refine ld1 vI rfl (v := .int .i64 m.frm) (by rw [cell_blk h8]; rfl) ?_
  rw [fo (show fieldOff Try.prog tMs 3 = some 3 by kernel_rfl), add_pl]
  refine ld1 vI rfl (v := .int .i64 m.call) (by rw [cell_blk h8]; rfl) ?_
  refine CK_st Try.func17 rfl rfl (Match_ok h (fun i => by have := hlen i; omega) hg (by omega) a.r.rank a.r.call m.frm m.call) ?_
  rintro _ w1 ⟨rfl, h1, hm1⟩
  have hA : ActP w0 w q p ls V R vs undef w1 := ⟨_, _, V, vs, .mtch a.r.rank a.r.call m.frm m.call, h1, MFr.m hm1⟩
  rw [BK_eql]
  refine caseC (fun z => ?_) (fun z => ?_)
  · have h5' := hm1.blk h5 n5
    rw [fo (show fieldOff Try.prog tBc 2 = some 9 by kernel_rfl), fo (show fieldOff Try.prog tRc 2 = some 2 by kernel_rfl), add_pl, add_pl]
    refine ld1 vI rfl (v := .int .i64 a.r.call) (by rw [cell_blk h5']; rfl) ?_
    exact hk _ _ w1 (.inr rfl) hA
  · exact hk _ _ w1 (.inl rfl) hA
theorem act_R1 {K : Exit → Sl → World → Prop} {ρ : Sl} {b5 : Nat} {a : Bc} {b : Bool} {kd : Int} (h : PP w0 w q p ls V R vs) (hlen : ∀ i, (R i).length ≤ 900000) (hg : FrmOk ls) (hL : ls.length ≤ 400000)
    (h5 : w.heap[b5]? = some (.cells a.enc.toArray tBc (0, 0))) (n5 : ¬ (V.F q b5 ∨ PF p vs b5)) (e53 : ρ 53 = .bool b) (e11 : ρ 11 = .int .u8 kd)
    (e5 : ρ 5 = .pointer (some ⟨b5, 0, none⟩)) (e0 : ρ 0 = .pointer (some ⟨q, 0, none⟩)) (e1 : ρ 1 = .pointer (some ⟨p, 0, none⟩))
    (hk : ∀ (e : Exit) (ρ' : Sl) (w' : World), (e = .normal ∨ e = .ret) → ActP w0 w q p ls V R vs undef w' → K e ρ' w') : sx fn_ Try.prog 66 dispatcherlaw14_act_R1 K ρ w := by
  rw [dispatcherlaw14_act_R1_eq]; unfold dispatcherlaw14_act_R1_F
  rw [e53, e11, e5, e0, e1]
  have hcell : ∀ (o : Nat) (cs : List Value) (t : TypeId), (∀ j u, cs[j]? = some u → a.enc[o + j]? = some u) → ∀ j u, cs[j]? = some u → w.cell? (Addr.add ⟨b5, o, none⟩ j) = some u := fun o cs t hc j u hu => by
    rw [add_pl, cell_blk h5]
    have := hc j u hu
    simpa using this
  refine caseC (fun z => ?_) (fun z => ?_)
  · rw [fo (show fieldOff Try.prog tBc 1 = some 1 by kernel_rfl), add_pl]
    refine ldA (cs := a.m.enc) Try.underlying39 rfl (by rw [iMs]; rfl) (hcell _ _ tMs fun j u hu => ?_) ?_
    · show a.enc[0 + 1 + j]? = some u
      unfold Bc.enc
      rw [show 0 + 1 + j = j + 1 by omega, List.getElem?_cons_succ, List.getElem?_append_left (List.getElem?_eq_some_iff.1 hu).1]
      exact hu
    refine CK_st Try.func25 rfl rfl (Send_ok h.qa (by omega) a.m) ?_
    rintro _ w1 ⟨_, V1, h1, f1⟩
    exact hk _ _ w1 (.inl rfl) ⟨_, _, V1, vs, .send a.m, h.onQ h1 f1, MFr.q f1⟩
  · rw [BK_eql]
    refine caseC (fun z2 => ?_) (fun z2 => ?_)
    · rw [fo (show fieldOff Try.prog tBc 2 = some 9 by kernel_rfl), add_pl]
      refine ldA (cs := a.r.enc) Try.underlying24 rfl (by rw [iRc]; rfl) (hcell _ _ tRc fun j u hu => ?_) ?_
      · show a.enc[0 + 9 + j]? = some u
        unfold Bc.enc
        rw [show 0 + 9 + j = (8 + j) + 1 by omega, List.getElem?_cons_succ, List.getElem?_append_right (by rw [Ms.enc_len]; omega), Ms.enc_len, show 8 + j - 8 = j by omega]
        exact hu
      refine CK_st Try.func14 rfl rfl (Post_ok h.pa (fun i => by have := hlen i; omega) a.r) ?_
      rintro _ w1 ⟨_, vs1, h1, f1⟩
      exact hk _ _ w1 (.inl rfl) ⟨_, _, V, vs1, .post a.r, h.onP h1 f1, MFr.p f1⟩
    · rw [fo (show fieldOff Try.prog tBc 2 = some 9 by kernel_rfl), fo (show fieldOff Try.prog tRc 1 = some 1 by kernel_rfl), add_pl, add_pl]
      refine ld1 vI rfl (v := .int .i64 a.r.rank) (by rw [cell_blk h5]; rfl) ?_
      rw [fo (show fieldOff Try.prog tBc 2 = some 9 by kernel_rfl), fo (show fieldOff Try.prog tRc 2 = some 2 by kernel_rfl), add_pl, add_pl]
      refine ld1 vI rfl (v := .int .i64 a.r.call) (by rw [cell_blk h5]; rfl) ?_
      refine CK_st Try.func16 rfl rfl (May_ok h.pa (fun i => by have := hlen i; omega) h.qa hg (by omega) a.r.rank a.r.call) ?_
      rintro vm w1 ⟨ho, hm1⟩
      have hml := may_len R ls a.r.rank a.r.call
      have hnone : ActP w0 w q p ls V R vs undef w1 := ⟨R, ls, V, vs, .none, h.calm hm1, MFr.calm hm1⟩
      generalize mayV R ls a.r.rank a.r.call = L at *
      obtain ⟨A, c, es, _⟩ := reads_cap (reads_of_owns ho)
      rw [es, len_sl vMsS, ← es, BK_gtr]
      have h51 := hm1.blk h5 id
      by_cases hpos : 0 < L.length
      · rw [decide_eq_true (by omega)]
        refine condT ?_
        rw [fo (show fieldOff Try.prog tBc 1 = some 1 by kernel_rfl), fo (show fieldOff Try.prog tMs 3 = some 3 by kernel_rfl), add_pl, add_pl]
        refine ld1 vI rfl (v := .int .i64 a.m.call) (by rw [cell_blk h51]; rfl) ?_
        rw [conv_k (k := .u64) (by kernel_rfl) (by kernel_rfl), es, len_sl vMsS, ← es, conv_k (k := .u64) (by kernel_rfl) (by kernel_rfl), BK_rem (by rw [IntKind.wrap_u64]; omega), conv_k (k := .i64) (by kernel_rfl) (by kernel_rfl)]
        obtain ⟨k, hkl, ek⟩ := pick_ix a.m.call hpos hml
        rw [ek]
        have hx : L[k]? = some L[k] := List.getElem?_eq_getElem hkl
        refine ixMs (reads_of_owns ho) hx rfl fun _ => ?_
        refine slot_k fun w2 hb2 hm2 hz2 => ?_
        have hm02 := hm1.trans hm2
        refine act_R2 (a := a) (m := L[k]) (h.calm hm02) hlen hg hL (hm02.blk h5 id) hb2 n5 (by first | exact e5 | rfl) rfl (by first | exact e0 | rfl) (by first | exact e1 | rfl) ?_
        rintro e ρ' w' he ⟨R', ls', V', vs', hst, hP, hM⟩
        exact hk e ρ' w' he ⟨R', ls', V', vs', hst, hP, (MFr.calm hm02).trans hM⟩
      · rw [decide_eq_false (by omega)]
        refine condF ?_
        exact hk _ _ w1 (.inl rfl) hnone
theorem act_ok (h : PP w0 w q p ls V R vs) (hlen : ∀ i, (R i).length ≤ 900000) (hg : FrmOk ls) (hL : ls.length ≤ 400000) (a : Bc) : Rt Try.prog 20 #[.pointer (some ⟨q, 0, none⟩), .pointer (some ⟨p, 0, none⟩), .agg a.enc.toArray] w (ActP w0 w q p ls V R vs) := by
  refine dispatcherlaw14_act_calls ?_
  unfold dispatcherlaw14_act_F
  refine box_k (cs := a.enc.toArray) rfl fun w1 hb1 hm1 hz1 => ?_
  have h1 := h.calm hm1
  have n1 : ¬ (V.F q w.heap.size ∨ PF p vs w.heap.size) := by
    rintro (z | z)
    · have := h.qa.old _ z; omega
    · have := h.pa.old _ z; omega
  have g0 : FO Try.prog w1 tBc 0 0 ⟨w.heap.size, 0, none⟩ 5 (.int .u8 a.kind) := FO.blk hb1 (by kernel_rfl) vU8 rfl rfl
  rw [g0.e, BK_rem (by decide), BK_eql]
  have fin : ∀ (e : Exit) (ρ' : Sl) (w' : World), (e = .normal ∨ e = .ret) → ActP w0 w1 q p ls V R vs undef w' → blkK 0 (seqK (sx fn_ Try.prog 66 dispatcherlaw14_act_R0 (retK Try.prog [ResultVar.tmp 6] (ActP w0 w q p ls V R vs))) (retK Try.prog [ResultVar.tmp 6] (ActP w0 w q p ls V R vs))) e ρ' w' := by
    rintro e ρ' w' he ⟨R', ls', V', vs', hst, hP, hM⟩
    have hfin : ∀ u, ActP w0 w q p ls V R vs u w' := fun u => ⟨R', ls', V', vs', hst, hP, (MFr.calm hm1).trans hM⟩
    rcases he with rfl | rfl
    · rw [bk_n, sq_n, dispatcherlaw14_act_R0_eq]; unfold dispatcherlaw14_act_R0_F
      exact hfin undef
    · exact hfin undef
  refine caseC (fun z => ?_) (fun z => ?_)
  · exact act_R1 (a := a) h1 hlen hg hL hb1 n1 (by first | rfl | exact congrArg Value.bool z) rfl rfl rfl rfl fin
  · rw [BK_eql]
    exact act_R1 (a := a) h1 hlen hg hL hb1 n1 rfl rfl rfl rfl rfl fin
end
end Go.Proofs.Ytmnkedgmpbcicaa.Que
set_option linter.unusedVariables false
set_option linter.unusedSimpArgs false
set_option maxRecDepth 8000
namespace Go.Proofs.Ytmnkedgmpbcicaa.Que
open Go Go.X Go.RowKit Go.Proofs.Ytmnkedgmpbcicaa.XF Go.Proofs.Ytmnkedgmpbcicaa.XG Go.Proofs.Ytmnkedgmpbcicaa.XK
structure OkQ (R : Rks) (ls : List Ms) : Prop where
  frm : FrmOk ls
  asc : ∀ i, (R i).Pairwise fun a b => a.call < b.call
  rk : ∀ i r, r ∈ R i → r.rank = (i : Int)
theorem OkQ.nil : OkQ (fun _ => []) [] := ⟨FrmOk.nil, fun _ => List.Pairwise.nil, fun _ _ h => by cases h⟩
theorem bad_no {r : Rc} {l : List Rc} (h : badR r l = false) : (0 ≤ r.rank ∧ r.rank ≤ 63) ∧ ∀ x, l.getLast? = some x → x.call < r.call := by
  unfold badR at h
  simp only [Bool.or_eq_false_iff, Bool.not_eq_false', Bool.and_eq_true, decide_eq_true_eq] at h
  refine ⟨h.1.1.1.1.1, fun x hx => ?_⟩
  have := h.2
  rw [hx] at this
  have := of_decide_eq_false this
  omega
theorem asc_snoc {l : List Rc} (h : l.Pairwise fun a b => a.call < b.call) {r : Rc} (hl : ∀ x, l.getLast? = some x → x.call < r.call) : (l ++ [r]).Pairwise fun a b => a.call < b.call := by
  rw [List.pairwise_append]
  refine ⟨h, List.pairwise_singleton _ _, fun a ha b hb => ?_⟩
  rw [List.mem_singleton.1 hb]
  have hne : l ≠ [] := by intro z; subst z; cases ha
  have hlast := hl _ (List.getLast?_eq_some_getLast hne)
  rcases (List.pairwise_iff_getElem.1 h) with hp
  obtain ⟨i, hi, rfl⟩ := List.mem_iff_getElem.1 ha
  rw [List.getLast_eq_getElem] at hlast
  by_cases e : i = l.length - 1
  · subst e; exact hlast
  · have := hp i (l.length - 1) hi (by omega) (by omega)
    omega
theorem asc_set {l : List Rc} (h : l.Pairwise fun a b => a.call < b.call) {j : Nat} {r : Rc} (hj : l[j]? = some r) (f s : Int) : (l.set j (r.got f s)).Pairwise fun a b => a.call < b.call := by
  have hjl := (List.getElem?_eq_some_iff.1 hj).1
  have hjr := (List.getElem?_eq_some_iff.1 hj).2
  rw [List.pairwise_iff_getElem] at h ⊢
  have key : ∀ i (hi : i < (l.set j (r.got f s)).length), (l.set j (r.got f s))[i].call = (l[i]'(by simpa using hi)).call := fun i hi => by
    rw [List.getElem_set]
    split
    · rename_i e; subst e; rw [hjr]; rfl
    · rfl
  intro a b ha hb hab
  rw [key, key]
  exact h a b _ _ hab
theorem OkQ.step {R R' : Rks} {ls ls' : List Ms} (h : OkQ R ls) (hs : StepQ R ls R' ls') : OkQ R' ls' := by
  cases hs with
  | none => exact h
  | send m => exact ⟨h.frm.send m, h.asc, h.rk⟩
  | post r =>
    refine ⟨h.frm, fun i => ?_, fun i x hx => ?_⟩
    · unfold postV
      split
      · exact h.asc i
      · rename_i hb
        have hb := bad_no (Bool.eq_false_iff.2 hb)
        dsimp only
        unfold putR
        split
        · rename_i e
          have er : rowP R r.rank = R r.rank.toNat := by unfold rowP; rw [if_pos hb.1]
          rw [er] at hb ⊢
          exact asc_snoc (h.asc _) hb.2
        · exact h.asc i
    · unfold postV at hx
      split at hx
      · exact h.rk i x hx
      · rename_i hb
        have hb := bad_no (Bool.eq_false_iff.2 hb)
        dsimp only at hx
        unfold putR at hx
        split at hx
        · rename_i e
          have er : rowP R r.rank = R r.rank.toNat := by unfold rowP; rw [if_pos hb.1]
          rw [er, ← e] at hx
          rcases List.mem_append.1 hx with z | z
          · exact h.rk i x z
          · rw [List.mem_singleton.1 z]
            show r.rank = _
            omega
        · exact h.rk i x hx
  | mtch rk c f s =>
    have hset : (∀ i, (setV R rk c f s i).Pairwise fun a b => a.call < b.call) ∧ ∀ i r, r ∈ setV R rk c f s i → r.rank = (i : Int) := by
      by_cases hr : 0 ≤ rk ∧ rk ≤ 63
      · have er : rowP R rk = R rk.toNat := by unfold rowP; rw [if_pos hr]
        unfold setV
        rw [er]
        cases hj : (R rk.toNat).findIdx? (isC c) with
        | none => exact ⟨h.asc, h.rk⟩
        | some j =>
          dsimp only
          cases hx : (R rk.toNat)[j]? with
          | none => exact ⟨h.asc, h.rk⟩
          | some r =>
            dsimp only
            unfold putR
            refine ⟨fun i => ?_, fun i x hxm => ?_⟩
            · split
              · exact asc_set (h.asc _) hx f s
              · exact h.asc i
            · split at hxm
              · rename_i e
                rcases List.mem_or_eq_of_mem_set hxm with z | z
                · rw [e]; exact h.rk _ x z
                · rw [z, e]; exact h.rk _ r (List.mem_of_getElem? hx)
              · exact h.rk i x hxm
      · have er : rowP R rk = [] := by unfold rowP; rw [if_neg hr]
        unfold setV
        rw [er]
        exact ⟨h.asc, h.rk⟩
    refine ⟨match_frm h.frm R rk c f s, fun i => ?_, fun i x hx => ?_⟩
    · unfold matchV
      split
      · split
        · exact hset.1 i
        · exact h.asc i
      · exact h.asc i
    · unfold matchV at hx
      split at hx
      · split at hx
        · exact hset.2 i x hx
        · exact h.rk i x hx
      · exact h.rk i x hx
theorem step_len {R R' : Rks} {ls ls' : List Ms} {n : Nat} (hs : StepQ R ls R' ls') (h1 : ∀ i, (R i).length ≤ n) (h2 : ls.length ≤ n) : (∀ i, (R' i).length ≤ n + 1) ∧ ls'.length ≤ n + 1 := by
  cases hs with
  | none => exact ⟨fun i => Nat.le_succ_of_le (h1 i), Nat.le_succ_of_le h2⟩
  | send m => exact ⟨fun i => Nat.le_succ_of_le (h1 i), by have := sendV_len ls m; omega⟩
  | post r => exact ⟨fun i => post_len h1 r i, Nat.le_succ_of_le h2⟩
  | mtch rk c f s => exact ⟨fun i => by rw [match_len]; exact Nat.le_succ_of_le (h1 i), by rw [match_ml]; exact Nat.le_succ_of_le h2⟩
abbrev MadeP (w0 : World) (n : Nat) : Value → World → Prop := fun u w' => ∃ q p ls V R vs, u = .tuple #[.pointer (some ⟨q, 0, none⟩), .pointer (some ⟨p, 0, none⟩)] ∧ PP w0 w' q p ls V R vs ∧ OkQ R ls ∧ (∀ i, (R i).length ≤ n) ∧ ls.length ≤ n
theorem made_ok {w : World} {v : Value} {l : List Bc} (h : Bcts w v l) (hl : l.length ≤ 200) : Rt Try.prog 12 #[v] w (MadeP w l.length) := by
  refine dispatcherlaw14_made_calls ?_
  unfold dispatcherlaw14_made_F
  refine begun w fun q0 p0 V0 vs0 w1 h1 => ?_
  obtain ⟨A, c, es, _⟩ := reads_cap h
  refine W_loop dispatcherlaw14_made_L0_ok (fun ρ w' => ∃ (i : Nat) (q p : Nat) (ls : List Ms) (V : QV) (R : Rks) (vs : List Value), i ≤ l.length ∧ ρ 6 = .int .i64 i ∧ ρ 0 = v ∧ ρ 4 = .pointer (some ⟨q, 0, none⟩) ∧ ρ 5 = .pointer (some ⟨p, 0, none⟩) ∧ PP w w' q p ls V R vs ∧ OkQ R ls ∧ (∀ j, (R j).length ≤ i) ∧ ls.length ≤ i) (fun ρ _ => l.length - (intOf (ρ 6)).toNat)
    ⟨0, q0, p0, [], V0, fun _ => [], vs0, Nat.zero_le _, rfl, rfl, rfl, rfl, h1, OkQ.nil, fun _ => Nat.le_refl _, Nat.le_refl _⟩ ?_
  rintro ρ w2 ⟨i, q, p, ls, V, R, vs, hi, e6, e0, e4, e5, hP, hok, hR, hls⟩
  rw [dispatcherlaw14_made_L0_eq]; unfold dispatcherlaw14_made_L0_F
  rw [e6, e0, e4, e5, es, len_sl vBcs, ← es, BK_lss]
  by_cases hlt : i < l.length
  · rw [decide_eq_true (by omega)]
    refine condT ?_
    have hx : l[i]? = some l[i] := List.getElem?_eq_getElem hlt
    refine ldBc (Bcts.calm h hP.mod) hx rfl fun _ => ?_
    refine CK_st Try.func20 rfl rfl (act_ok hP (fun j => by have := hR j; omega) hok.frm (by omega) l[i]) ?_
    rintro _ w3 ⟨R', ls', V', vs', hst, hP', hM⟩
    rw [BK_add, wrap_i (by omega) (by omega)]
    have := step_len hst hR hls
    refine ⟨⟨i + 1, q, p, ls', V', R', vs', hlt, rfl, by first | exact e0 | rfl, by first | exact e4 | rfl, by first | exact e5 | rfl, hP', hok.step hst, this.1, this.2⟩, ?_⟩
    simp only [sq_n, sq_x, sq_r, bk_n, bk_r, bk_x, rt_r, rt_n, rs_0, rs_t, pk_1, pk_2, up_at, reduceIte, Nat.reduceEqDiff, intOf]; omega
  · obtain rfl : i = l.length := by omega
    rw [decide_eq_false (by omega)]
    refine condF ?_
    rw [sq_x, bk_x, sq_n, dispatcherlaw14_made_R1_eq]; unfold dispatcherlaw14_made_R1_F
    have key : ∀ ρ0 : Sl, ρ0 4 = .pointer (some ⟨q, 0, none⟩) → ρ0 5 = .pointer (some ⟨p, 0, none⟩) → retK Try.prog [ResultVar.tmp 2, ResultVar.tmp 3] (MadeP w l.length) .ret (up (up (up (up ρ0 22 (ρ0 4)) 23 (ρ0 5)) 2 (ρ0 4)) 3 (ρ0 5)) w2 := by
      intro ρ0 q4 q5
      show MadeP w l.length (.tuple #[ρ0 4, ρ0 5]) w2
      rw [q4, q5]
      exact ⟨q, p, ls, V, R, vs, rfl, hP, hok, hR, hls⟩
    exact key _ (by first | exact e4 | rfl) (by first | exact e5 | rfl)
end Go.Proofs.Ytmnkedgmpbcicaa.Que
set_option linter.unusedVariables false
set_option linter.unusedSimpArgs false
set_option maxRecDepth 8000
namespace Go.Proofs.Ytmnkedgmpbcicaa.Que
open Go Go.X Go.RowKit
theorem first_mem {ls : List Ms} {c : Ch} {tag : Int} {m : Ms} (h : firstV ls c tag = some m) : m ∈ ls ∧ m.ch = c ∧ m.taken = false ∧ (tag = -1 ∨ tag = m.tag) := by
  unfold firstV at h
  have hm := List.mem_of_find?_eq_some h
  have hf := List.find?_some h
  have hr := mem_row.1 hm
  refine ⟨hr.1, hr.2, ?_, ?_⟩
  · unfold fits at hf
    simp only [Bool.and_eq_true, Bool.not_eq_true'] at hf
    exact hf.1
  · unfold fits at hf
    simp only [Bool.and_eq_true, Bool.or_eq_true, decide_eq_true_eq] at hf
    exact hf.2
theorem one_some {ls : List Ms} {r : Rc} {wait : List Rc} {f : Int} {m : Ms} (h : oneV ls r wait f = some m) : skipV r f = false ∧ firstV ls (r.key, f, r.rank) r.tag = some m ∧ (∀ x ∈ wait, fitsV x m = false) ∧ m.frm = f := by
  unfold oneV at h
  cases hs : skipV r f with
  | true => rw [hs] at h; cases h
  | false =>
    rw [hs] at h
    rw [if_neg (by decide)] at h
    cases hf : firstV ls (r.key, f, r.rank) r.tag with
    | none => rw [hf] at h; cases h
    | some x =>
      rw [hf] at h
      dsimp only at h
      split at h
      · cases h
      · rename_i hw
        cases h
        refine ⟨rfl, rfl, fun y hy => ?_, ?_⟩
        · have := List.any_eq_false.1 (Bool.eq_false_iff.2 hw) y hy
          simpa using this
        · have := (first_mem hf).2.1
          exact congrArg (fun c : Ch => c.2.1) this
structure FreeM (ls : List Ms) (r : Rc) (ahead : List Rc) (m : Ms) : Prop where
  mem : m ∈ ls
  frm : m.frm ∈ sendersV ls r.key r.rank
  one : oneV ls r (ahead.filter wt) m.frm = some m
  first : firstV ls (r.key, m.frm, r.rank) r.tag = some m
  un : m.taken = false
  fit : fitsV r m = true
  no : ∀ x ∈ ahead, x.done = false → fitsV x m = false
theorem free_mem {ls : List Ms} {r : Rc} {ahead : List Rc} {m : Ms} (h : m ∈ freeV ls r ahead) : FreeM ls r ahead m := by
  unfold freeV at h
  obtain ⟨f, hf, ho⟩ := List.mem_filterMap.1 h
  obtain ⟨hs, h1, hw, hfr⟩ := one_some ho
  subst hfr
  obtain ⟨hm, hc, ht, hg⟩ := first_mem h1
  refine ⟨hm, hf, ho, h1, ht, ?_, fun x hx hd => hw x (List.mem_filter.2 ⟨hx, by unfold wt; rw [hd]; rfl⟩)⟩
  have hk : m.key = r.key := congrArg (fun c : Ch => c.1) hc
  have ht' : m.to = r.rank := congrArg (fun c : Ch => c.2.2) hc
  unfold fitsV
  rw [hk, ht', decide_eq_true rfl, decide_eq_true rfl]
  have hp : (decide (r.peer = -1) || decide (r.peer = m.frm)) = true := by
    unfold skipV at hs
    revert hs
    cases decide (r.peer = -1) <;> cases decide (r.peer = m.frm) <;> simp
  have hg' : (decide (r.tag = -1) || decide (r.tag = m.tag)) = true := by
    rcases hg with z | z
    · rw [decide_eq_true z]; rfl
    · rw [decide_eq_true z, Bool.or_true]
  rw [hp, hg']
  rfl
theorem senders_asc (ls : List Ms) (k : List UInt8) (t : Int) : (sendersV ls k t).Pairwise fun a b => a < b := by
  unfold sendersV
  refine List.Pairwise.filter _ ?_
  rw [List.pairwise_map]
  exact List.pairwise_lt_range.imp fun h => by omega
theorem free_asc (ls : List Ms) (r : Rc) (ahead : List Rc) : (freeV ls r ahead).Pairwise fun a b => a.frm < b.frm := by
  unfold freeV
  refine List.Pairwise.filterMap _ (fun a b hab x hx y hy => ?_) (senders_asc ls r.key r.rank)
  rw [(one_some hx).2.2.2, (one_some hy).2.2.2]
  exact hab
theorem asc_idx {l : List Rc} (h : l.Pairwise fun a b => a.call < b.call) {j : Nat} {r : Rc} (hj : l[j]? = some r) : l.findIdx? (isC r.call) = some j := by
  have hjl := (List.getElem?_eq_some_iff.1 hj).1
  have hjr := (List.getElem?_eq_some_iff.1 hj).2
  rw [List.findIdx?_eq_some_iff_getElem]
  refine ⟨hjl, by unfold isC; rw [hjr]; simp, fun i hi => ?_⟩
  have := List.pairwise_iff_getElem.1 h i j (by omega) hjl hi
  rw [hjr] at this
  unfold isC
  simp
  omega
end Go.Proofs.Ytmnkedgmpbcicaa.Que
set_option linter.unusedVariables false
set_option linter.unusedSimpArgs false
set_option maxRecDepth 8000
namespace Go.Proofs.Ytmnkedgmpbcicaa.Que
open Go Go.X Go.RowKit Go.Proofs.Ytmnkedgmpbcicaa.XF Go.Proofs.Ytmnkedgmpbcicaa.XG Go.Proofs.Ytmnkedgmpbcicaa.XK
theorem own_any {w : World} {v : Value} {l : List Ms} {B i : Nat} {m : Ms} (h : w.ownsRow B tMs 8 v l.length (l.flatMap Ms.enc)) (hi : l[i]? = some m) : ∃ a, (∀ w', (Instr.indexAt tMsS v (.int .i64 (i : Int))).run Try.prog w' = .ok (.pointer (some a)) w') ∧ ∀ w', Mod none_ w w' → ∀ k u, m.enc[k]? = some u → w'.cell? (a.add k) = some u := by
  have hil := (List.getElem?_eq_some_iff.1 hi).1
  obtain ⟨g, cap, ev, _⟩ := owns_some h (by omega)
  subst ev
  refine ⟨⟨g, i * 8, none⟩, fun w' => ?_, fun w' hw k u hu => ?_⟩
  · rw [run_ixa vMsS cMs (by omega) (by omega) w', add_pl]
    congr 4
    omega
  · have hk : k < 7 + 1 := (List.getElem?_eq_some_iff.1 hu).1
    obtain ⟨_, A, c, es, _, hr⟩ := reads_mod (reads_of_owns h) hw (fun _ _ _ => id)
    cases es
    obtain ⟨a, ha, hc⟩ := hr (i * (7 + 1) + k) u (by rw [fl_get (k := 7 + 1) Ms.enc_len hi hk]; exact hu)
    cases ha
    rw [add_pl] at hc ⊢
    rw [Nat.zero_add] at hc
    exact hc
theorem PP.base {w0 w1 w : World} {q p : Nat} {ls : List Ms} {V : QV} {R : Rks} {vs : List Value} (h : PP w1 w q p ls V R vs) (hm : Mod none_ w0 w1) : PP w0 w q p ls V R vs :=
  ⟨h.qa, h.pa, h.dj, fun b z => Nat.le_trans hm.size (h.fq b z), fun b z => Nat.le_trans hm.size (h.fp b z), hm.trans h.mod⟩
section
variable {w0 w : World} {q p b3 : Nat} {ls : List Ms} {V : QV} {R : Rks} {vs : List Value} {r : Rc} {L : List Ms} {vm : Value}
structure PrI (w0 w' : World) (q p b3 : Nat) (ls : List Ms) (V : QV) (R : Rks) (vs : List Value) (r : Rc) (L : List Ms) (vm : Value) : Prop where
  pp : PP w0 w' q p ls V R vs
  b : w'.heap[b3]? = some (.cells r.enc.toArray tRc (0, 0))
  nb : ¬ (V.F q b3 ∨ PF p vs b3)
  bs : Beside q p V vs w' vm
  own : w'.ownsRow w0.heap.size tMs 8 vm L.length (L.flatMap Ms.enc)
theorem PrI.on {w' w'' : World} (h : PrI w0 w' q p b3 ls V R vs r L vm) (hp : PP w0 w'' q p ls V R vs) (hm : Mod (fun b => V.F q b ∨ PF p vs b) w' w'') : PrI w0 w'' q p b3 ls V R vs r L vm :=
  ⟨hp, hm.blk h.b h.nb, h.nb, h.bs.on (MFr.m hm), h.bs.keep (MFr.m hm) h.own⟩
theorem PrI.calm {w' w'' : World} (h : PrI w0 w' q p b3 ls V R vs r L vm) (hm : Mod none_ w' w'') : PrI w0 w'' q p b3 ls V R vs r L vm := h.on (h.pp.calm hm) (hm.mono fun _ _ z => z.elim)
end
end Go.Proofs.Ytmnkedgmpbcicaa.Que
set_option linter.unusedVariables false
set_option linter.unusedSimpArgs false
set_option maxRecDepth 8000
namespace Go.Proofs.Ytmnkedgmpbcicaa.Que
open Go Go.X Go.RowKit Go.Proofs.Ytmnkedgmpbcicaa.XF Go.Proofs.Ytmnkedgmpbcicaa.XG Go.Proofs.Ytmnkedgmpbcicaa.XK
theorem up_nq {ρ : Sl} {d : Nat} {v : Value} {k : Nat} (hk : k ≠ d) : up ρ d v k = ρ k := by rw [up_at, if_neg hk]
theorem Fits_ok (w : World) (r : Rc) (m : Ms) : Rt Try.prog 19 #[.agg r.enc.toArray, .agg m.enc.toArray] w fun v w' => v = .bool (fitsV r m) ∧ Mod none_ w w' := by
  refine posted_Fits_calls ?_
  unfold posted_Fits_F
  refine box_k (cs := r.enc.toArray) rfl fun w1 hb1 hm1 hz1 => ?_
  refine box_k (cs := m.enc.toArray) rfl fun w2 hb2 hm2 hz2 => ?_
  refine ldS rfl Try.underlying24 rfl (by rw [iRc]; rfl) (hm2.blk hb1 id) ?_
  refine ldS rfl Try.underlying39 rfl (by rw [iMs]; rfl) hb2 ?_
  refine CK_st Try.func48 rfl rfl (fits_ok w2 r m) ?_
  rintro _ w3 ⟨rfl, hm3⟩
  exact ⟨rfl, (hm1.trans hm2).trans hm3⟩
theorem rc_any {w : World} {v : Value} {l : List Rc} {i : Nat} {r : Rc} (h : RcRow w v l) (hi : l[i]? = some r) : ∃ a, (∀ w', (Instr.indexAt tRcS v (.int .i64 (i : Int))).run Try.prog w' = .ok (.pointer (some a)) w') ∧ (∀ w', Mod none_ w w' → ∀ k u, r.enc[k]? = some u → w'.cell? (a.add k) = some u) ∧ ∀ w', Mod none_ w w' → (Instr.loadAt tRc (.pointer (some a))).run Try.prog w' = .ok (.agg r.enc.toArray) w' := by
  have hil := (List.getElem?_eq_some_iff.1 hi).1
  obtain ⟨A, c, es, _⟩ := reads_cap h
  subst es
  have hlt0 : (l.flatMap Rc.enc)[i * (8 + 1) + 0]? = some (strV r.key) := by rw [fl_get (k := 8 + 1) Rc.enc_len hi (by decide)]; rfl
  have hA : ∃ a, A = some a := by
    obtain ⟨_, A', c', es', _, hr⟩ := h
    cases es'
    obtain ⟨a, ha, _⟩ := hr _ _ hlt0
    exact ⟨a, ha⟩
  obtain ⟨a, rfl⟩ := hA
  have hc : ∀ w', Mod none_ w w' → ∀ k u, r.enc[k]? = some u → w'.cell? ((a.add (i * (8 + 1))).add k) = some u := fun w' hw k u hu => by
    have hk : k < 8 + 1 := (List.getElem?_eq_some_iff.1 hu).1
    obtain ⟨_, A2, c2, es2, _, hr2⟩ := RcRow.calm h hw
    cases es2
    obtain ⟨a2, ha2, hc2⟩ := hr2 (i * (8 + 1) + k) u (by rw [fl_get (k := 8 + 1) Rc.enc_len hi hk]; exact hu)
    cases ha2
    rw [add_add]
    exact hc2
  refine ⟨a.add (i * (8 + 1)), fun w' => ?_, hc, fun w' hw => run_ldA Try.underlying24 rfl (by rw [iRc]; rfl) (hc w' hw)⟩
  rw [run_ixa vRcS cRc (by omega) (by omega) w', show ((i : Int)).toNat = i by omega]
theorem own_ld {w : World} {v : Value} {l : List Ms} {B i : Nat} {m : Ms} (h : w.ownsRow B tMs 8 v l.length (l.flatMap Ms.enc)) (hi : l[i]? = some m) : ∃ a, (∀ w', (Instr.indexAt tMsS v (.int .i64 (i : Int))).run Try.prog w' = .ok (.pointer (some a)) w') ∧ (∀ w', Mod none_ w w' → ∀ k u, m.enc[k]? = some u → w'.cell? (a.add k) = some u) ∧ ∀ w', Mod none_ w w' → (Instr.loadAt tMs (.pointer (some a))).run Try.prog w' = .ok (.agg m.enc.toArray) w' := by
  obtain ⟨a, ha, hc⟩ := own_any h hi
  exact ⟨a, ha, hc, fun w' hw => run_ldA Try.underlying39 rfl (by rw [iMs]; rfl) (hc w' hw)⟩
section
variable {w : World} {vw vm : Value} {Ws : List Rc} {L : List Ms} {B i : Nat} {r : Rc}
theorem one_R11 {K : Exit → Sl → World → Prop} {ρ : Sl} {k : Nat} {m : Ms} (hW : RcRow w vw Ws) (hi : Ws[i]? = some r) (ho : w.ownsRow B tMs 8 vm L.length (L.flatMap Ms.enc)) (hL : L.length ≤ 64) (hm : L[k]? = some m) (hasc : L.Pairwise fun a b => a.frm < b.frm) (hun : m.taken = false) (hfit : fitsV r m = true)
    (e8 : ρ 8 = vw) (e9 : ρ 9 = .int .i64 i) (e10 : ρ 10 = vm) (e11 : ρ 11 = .int .i64 k)
    (hk : ∀ (ρ' : Sl) (w' : World), ρ' 87 = .bool false → (∀ k, k < 53 → ρ' k = ρ k) → Mod none_ w w' → K .normal ρ' w') : W fn_ Try.prog 126 dispatcherlaw14_PostedOne_R11 K ρ w := by
  have hkl := (List.getElem?_eq_some_iff.1 hm).1
  have hil := (List.getElem?_eq_some_iff.1 hi).1
  refine dispatcherlaw14_PostedOne_R11_tail (D := []) ?_
  have hmd : Mod none_ w { w with drawn := w.drawn + 1 } := (Mod.refl _ w).drawn _
  generalize ({ w with drawn := w.drawn + 1 } : World) = wd at *
  unfold dispatcherlaw14_PostedOne_R11_T
  rw [e8, e9, e10, e11]
  obtain ⟨a, ha, hac, hal⟩ := own_ld ho hm
  obtain ⟨b, hb, hbc, hbl⟩ := rc_any hW hi
  intro C
  have hC : ∀ w', C w' → Mod none_ w w' := fun w' hw => by cases (show w' = wd from hw); exact hmd
  refine Qgtr ?_
  by_cases h0 : k = 0
  subst h0
  rw [show decide ((0 : Int) < ((0 : Nat) : Int)) = false from rfl]
  repeat rw [QG_b, if_neg (by decide)]
  refine QP_of ?_
  rw [if_neg (by decide)]
  rotate_left
  rw [decide_eq_true (show (0 : Int) < (k : Int) by omega)]
  have hx : L[k - 1]? = some L[k - 1] := List.getElem?_eq_getElem (by omega)
  have hlt : L[k - 1].frm < m.frm := by
    have := List.pairwise_iff_getElem.1 hasc (k - 1) k (by omega) hkl (by omega)
    rw [(List.getElem?_eq_some_iff.1 hm).2] at this
    exact this
  generalize L[k - 1] = y at *
  obtain ⟨a2, ha2, hac2, _⟩ := own_ld ho hx
  rw [QG_b, if_pos rfl]
  refine QM ?_
  rw [QG_b, if_pos rfl]
  refine QM ?_
  rw [QG_b, if_pos rfl]
  refine QV_of (fun w' _ => ha w') ?_
  rw [QG_b, if_pos rfl]
  refine Qfo (show fieldOff Try.prog tMs 1 = some 1 by kernel_rfl) ?_
  rw [QG_b, if_pos rfl]
  refine Qld vI rfl (fun w' hw => hac w' (hC w' hw) 1 (.int .i64 m.frm) rfl) ?_
  rw [QG_b, if_pos rfl]
  refine QM ?_
  rw [QG_b, if_pos rfl]
  refine QM ?_
  rw [QG_b, if_pos rfl]
  refine Qsub ?_
  rw [wrap_i (by omega) (by omega), QG_b, if_pos rfl, show ((k : Int) - 1) = ((k - 1 : Nat) : Int) by omega]
  refine QV_of (fun w' _ => ha2 w') ?_
  rw [QG_b, if_pos rfl]
  refine Qfo (show fieldOff Try.prog tMs 1 = some 1 by kernel_rfl) ?_
  rw [QG_b, if_pos rfl]
  refine Qld vI rfl (fun w' hw => hac2 w' (hC w' hw) 1 (.int .i64 y.frm) rfl) ?_
  rw [QG_b, if_pos rfl]
  refine Qleq ?_
  rw [decide_eq_false (show ¬ m.frm ≤ y.frm by omega)]
  refine QP_of ?_
  rw [if_pos rfl]
  all_goals
    rw [QG_b, if_pos rfl]
    refine QM ?_
    rw [QG_b, if_pos rfl]
    refine QM ?_
    rw [QG_b, if_pos rfl]
    refine QV_of (fun w' _ => ha w') ?_
    rw [QG_b, if_pos rfl]
    refine Qfo (show fieldOff Try.prog tMs 7 = some 7 by kernel_rfl) ?_
    rw [QG_b, if_pos rfl]
    refine Qld vB rfl (fun w' hw => hac w' (hC w' hw) 7 (.bool false) (by rw [← hun]; rfl)) ?_
    refine QP_of ?_
    rw [if_neg (by decide), QG_b, if_pos rfl]
    refine QM ?_
    rw [QG_b, if_pos rfl]
    refine QM ?_
    rw [QG_b, if_pos rfl]
    refine QV_of (fun w' _ => hb w') ?_
    rw [QG_b, if_pos rfl]
    refine QV_of (fun w' hw => hbl w' (hC w' hw)) ?_
    rw [QG_b, if_pos rfl]
    refine QM ?_
    rw [QG_b, if_pos rfl]
    refine QM ?_
    rw [QG_b, if_pos rfl]
    refine QV_of (fun w' _ => ha w') ?_
    rw [QG_b, if_pos rfl]
    refine QV_of (fun w' hw => hal w' (hC w' hw)) ?_
    try simp only [↓VG_u, ↓UG_u, ↓MG_u, ↓NG_u, ↓PG_u, ↓BG_u, ↓CG_u, ↓IG_u, ↓VGtt, ↓VGtf, ↓VGft, ↓VGff, ↓UGtt, ↓UGtf, ↓UGft, ↓UGff, ↓MGtt, ↓MGtf, ↓MGft, ↓MGff, ↓NGtt, ↓NGtf, ↓NGft, ↓NGff, ↓PGtt, ↓PGtf, ↓PGft, ↓PGff, ↓BGtt, ↓BGtf, ↓BGft, ↓BGff, ↓CGtt, ↓CGtf, ↓CGft, ↓CGff, ↓IGtt, ↓IGtf, ↓IGft, ↓IGff, ↓PKt, ↓PKf, ↓CDt, ↓CDf, ↓NOTt, ↓NOTf, ↓NK_ptr]
    refine CK_st Try.func19 rfl rfl (Fits_ok wd r m) ?_
    rintro _ w1 ⟨rfl, hm1⟩
    rw [hfit]
    try simp only [↓VG_u, ↓UG_u, ↓MG_u, ↓NG_u, ↓PG_u, ↓BG_u, ↓CG_u, ↓IG_u, ↓VGtt, ↓VGtf, ↓VGft, ↓VGff, ↓UGtt, ↓UGtf, ↓UGft, ↓UGff, ↓MGtt, ↓MGtf, ↓MGft, ↓MGff, ↓NGtt, ↓NGtf, ↓NGft, ↓NGff, ↓PGtt, ↓PGtf, ↓PGft, ↓PGff, ↓BGtt, ↓BGtf, ↓BGft, ↓BGff, ↓CGtt, ↓CGtf, ↓CGft, ↓CGff, ↓IGtt, ↓IGtf, ↓IGft, ↓IGff, ↓PKt, ↓PKf, ↓CDt, ↓CDf, ↓NOTt, ↓NOTf, ↓NK_ptr]
    refine hk _ w1 rfl (fun k hk => ?_) (hmd.trans hm1)
    repeat rw [up_lo hk (by decide)]
theorem one_L7 {K : Exit → Sl → World → Prop} {ρ : Sl} (hW : RcRow w vw Ws) (hi : Ws[i]? = some r) (ho : w.ownsRow B tMs 8 vm L.length (L.flatMap Ms.enc)) (hL : L.length ≤ 64) (hasc : L.Pairwise fun a b => a.frm < b.frm) (hun : ∀ m ∈ L, m.taken = false) (hfit : ∀ m ∈ L, fitsV r m = true)
    (e8 : ρ 8 = vw) (e9 : ρ 9 = .int .i64 i) (e10 : ρ 10 = vm) (e11 : ρ 11 = .int .i64 0)
    (hk : ∀ (ρ' : Sl) (w' : World), (∀ k, k < 47 → k ≠ 11 → ρ' k = ρ k) → Mod none_ w w' → K (.exit 2) ρ' w') : W fn_ Try.prog 126 (Code.loop dispatcherlaw14_PostedOne_L7) K ρ w := by
  obtain ⟨A, c, es, _⟩ := reads_cap (reads_of_owns ho)
  refine W_loop dispatcherlaw14_PostedOne_L7_ok (fun ρ' w' => ∃ k : Nat, k ≤ L.length ∧ ρ' 11 = .int .i64 k ∧ (∀ j, j < 47 → j ≠ 11 → ρ' j = ρ j) ∧ Mod none_ w w') (fun ρ' _ => L.length - (intOf (ρ' 11)).toNat)
    ⟨0, Nat.zero_le _, e11, fun _ _ _ => rfl, Mod.refl _ _⟩ ?_
  rintro ρ1 w1 ⟨k, hkl, c11, hlo, hm1⟩
  have c8 : ρ1 8 = vw := (hlo 8 (by decide) (by decide)).trans e8
  have c9 : ρ1 9 = .int .i64 i := (hlo 9 (by decide) (by decide)).trans e9
  have c10 : ρ1 10 = vm := (hlo 10 (by decide) (by decide)).trans e10
  rw [dispatcherlaw14_PostedOne_L7_eq]; unfold dispatcherlaw14_PostedOne_L7_F
  rw [c11, c10, es, len_sl vMsS, ← es, BK_lss]
  by_cases hlt : k < L.length
  · rw [decide_eq_true (by omega)]
    refine condT ?_
    have hx : L[k]? = some L[k] := List.getElem?_eq_getElem hlt
    have hmem : L[k] ∈ L := List.getElem_mem hlt
    refine one_R11 (k := k) (hW.calm hm1) hi (owns_mod ho hm1 fun _ _ => id) hL hx hasc (hun _ hmem) (hfit _ hmem) (by first | exact c8 | rfl) (by first | exact c9 | rfl) (by first | exact c10 | rfl) (by first | exact c11 | rfl) ?_
    intro ρ2 w2 d87 hlo2 hm2
    have d11 : ρ2 11 = .int .i64 (k : Int) := (hlo2 11 (by decide)).trans (by first | exact c11 | rfl)
    rw [sq_n, dispatcherlaw14_PostedOne_R12_eq]; unfold dispatcherlaw14_PostedOne_R12_F
    rw [d87]
    refine condF ?_
    rw [bk_n, sq_n, dispatcherlaw14_PostedOne_R13_eq]; unfold dispatcherlaw14_PostedOne_R13_F
    rw [d11, BK_add, wrap_i (by omega) (by omega)]
    refine ⟨⟨k + 1, hlt, rfl, fun j hj hne => ?_, hm1.trans hm2⟩, ?_⟩
    · rw [up_nq hne, up_lo hj (by decide), up_lo hj (by decide), hlo2 j (by omega), up_lo hj (by decide), up_lo hj (by decide), up_lo hj (by decide), up_lo hj (by decide)]
      exact hlo j hj hne
    · simp only [sq_n, sq_x, sq_r, bk_n, bk_r, bk_x, rt_r, rt_n, rs_0, rs_t, pk_1, pk_2, up_at, reduceIte, Nat.reduceEqDiff, intOf]; omega
  · obtain rfl : k = L.length := by omega
    rw [decide_eq_false (by omega)]
    refine condF ?_
    refine hk _ w1 (fun j hj hne => ?_) hm1
    rw [up_lo hj (by decide), up_lo hj (by decide), up_lo hj (by decide), up_lo hj (by decide)]
    exact hlo j hj hne
end
section
variable {w : World} {vl : Value} {L : List Ms} {B : Nat}
theorem one_R14 {K : Exit → Sl → World → Prop} {ρ : Sl} {i k : Nat} {m y : Ms} (ho : w.ownsRow B tMs 8 vl L.length (L.flatMap Ms.enc)) (hi : L[i]? = some m) (hk' : L[k]? = some y) (hne : ¬ (m.frm = y.frm ∧ m.call = y.call))
    (e7 : ρ 7 = vl) (e12 : ρ 12 = .int .i64 i) (e13 : ρ 13 = .int .i64 k)
    (hk : ∀ (ρ' : Sl) (w' : World), ρ' 125 = .bool false → (∀ k, k < 102 → ρ' k = ρ k) → Mod none_ w w' → K .normal ρ' w') : W fn_ Try.prog 126 dispatcherlaw14_PostedOne_R14 K ρ w := by
  refine dispatcherlaw14_PostedOne_R14_tail (D := []) ?_
  have hmd : Mod none_ w { w with drawn := w.drawn + 1 } := (Mod.refl _ w).drawn _
  generalize ({ w with drawn := w.drawn + 1 } : World) = wd at *
  unfold dispatcherlaw14_PostedOne_R14_T
  rw [e7, e12, e13]
  obtain ⟨a, ha, hac⟩ := own_any ho hi
  obtain ⟨b, hb, hbc⟩ := own_any ho hk'
  intro C
  have hC : ∀ w', C w' → Mod none_ w w' := fun w' hw => by cases (show w' = wd from hw); exact hmd
  refine QV_of (fun w' _ => ha w') ?_
  refine Qfo (show fieldOff Try.prog tMs 1 = some 1 by kernel_rfl) ?_
  refine Qld vI rfl (fun w' hw => hac w' (hC w' hw) 1 (.int .i64 m.frm) rfl) ?_
  refine QV_of (fun w' _ => hb w') ?_
  refine Qfo (show fieldOff Try.prog tMs 1 = some 1 by kernel_rfl) ?_
  refine Qld vI rfl (fun w' hw => hbc w' (hC w' hw) 1 (.int .i64 y.frm) rfl) ?_
  refine Qeql ?_
  by_cases hf : m.frm = y.frm
  · have hcn : m.call ≠ y.call := fun z => hne ⟨hf, z⟩
    rw [show (m.frm == y.frm) = true by rw [hf]; simp]
    rw [QG_b, if_pos rfl]
    refine QM ?_
    rw [QG_b, if_pos rfl]
    refine QM ?_
    rw [QG_b, if_pos rfl]
    refine QV_of (fun w' _ => ha w') ?_
    rw [QG_b, if_pos rfl]
    refine Qfo (show fieldOff Try.prog tMs 3 = some 3 by kernel_rfl) ?_
    rw [QG_b, if_pos rfl]
    refine Qld vI rfl (fun w' hw => hac w' (hC w' hw) 3 (.int .i64 m.call) rfl) ?_
    rw [QG_b, if_pos rfl]
    refine QM ?_
    rw [QG_b, if_pos rfl]
    refine QM ?_
    rw [QG_b, if_pos rfl]
    refine QV_of (fun w' _ => hb w') ?_
    rw [QG_b, if_pos rfl]
    refine Qfo (show fieldOff Try.prog tMs 3 = some 3 by kernel_rfl) ?_
    rw [QG_b, if_pos rfl]
    refine Qld vI rfl (fun w' hw => hbc w' (hC w' hw) 3 (.int .i64 y.call) rfl) ?_
    try simp only [↓VG_u, ↓UG_u, ↓MG_u, ↓NG_u, ↓PG_u, ↓BG_u, ↓CG_u, ↓IG_u, ↓VGtt, ↓VGtf, ↓VGft, ↓VGff, ↓UGtt, ↓UGtf, ↓UGft, ↓UGff, ↓MGtt, ↓MGtf, ↓MGft, ↓MGff, ↓NGtt, ↓NGtf, ↓NGft, ↓NGff, ↓PGtt, ↓PGtf, ↓PGft, ↓PGff, ↓BGtt, ↓BGtf, ↓BGft, ↓BGff, ↓CGtt, ↓CGtf, ↓CGft, ↓CGff, ↓IGtt, ↓IGtf, ↓IGft, ↓IGff, ↓PKt, ↓PKf, ↓CDt, ↓CDf, ↓NOTt, ↓NOTf, ↓NK_ptr]
    rw [EQf hcn]
    try simp only [↓VG_u, ↓UG_u, ↓MG_u, ↓NG_u, ↓PG_u, ↓BG_u, ↓CG_u, ↓IG_u, ↓VGtt, ↓VGtf, ↓VGft, ↓VGff, ↓UGtt, ↓UGtf, ↓UGft, ↓UGff, ↓MGtt, ↓MGtf, ↓MGft, ↓MGff, ↓NGtt, ↓NGtf, ↓NGft, ↓NGff, ↓PGtt, ↓PGtf, ↓PGft, ↓PGff, ↓BGtt, ↓BGtf, ↓BGft, ↓BGff, ↓CGtt, ↓CGtf, ↓CGft, ↓CGff, ↓IGtt, ↓IGtf, ↓IGft, ↓IGff, ↓PKt, ↓PKf, ↓CDt, ↓CDf, ↓NOTt, ↓NOTf, ↓NK_ptr]
    refine hk _ wd rfl (fun k hk => ?_) hmd
    repeat rw [up_lo hk (by decide)]
  · rw [show (m.frm == y.frm) = false by simpa using hf]
    repeat rw [QG_b, if_neg (by decide)]
    try simp only [↓VG_u, ↓UG_u, ↓MG_u, ↓NG_u, ↓PG_u, ↓BG_u, ↓CG_u, ↓IG_u, ↓VGtt, ↓VGtf, ↓VGft, ↓VGff, ↓UGtt, ↓UGtf, ↓UGft, ↓UGff, ↓MGtt, ↓MGtf, ↓MGft, ↓MGff, ↓NGtt, ↓NGtf, ↓NGft, ↓NGff, ↓PGtt, ↓PGtf, ↓PGft, ↓PGff, ↓BGtt, ↓BGtf, ↓BGft, ↓BGff, ↓CGtt, ↓CGtf, ↓CGft, ↓CGff, ↓IGtt, ↓IGtf, ↓IGft, ↓IGff, ↓PKt, ↓PKf, ↓CDt, ↓CDf, ↓NOTt, ↓NOTf, ↓NK_ptr]
    refine hk _ wd rfl (fun k hk => ?_) hmd
    repeat rw [up_lo hk (by decide)]
theorem one_L9 {K : Exit → Sl → World → Prop} {ρ : Sl} {i : Nat} (ho : w.ownsRow B tMs 8 vl L.length (L.flatMap Ms.enc)) (hL : L.length ≤ 1000000) (hil : i < L.length) (hd : L.Pairwise fun a b => ¬ (a.frm = b.frm ∧ a.call = b.call))
    (e7 : ρ 7 = vl) (e12 : ρ 12 = .int .i64 i) (e13 : ρ 13 = .int .i64 0)
    (hk : ∀ (ρ' : Sl) (w' : World), (∀ k, k < 97 → k ≠ 13 → ρ' k = ρ k) → Mod none_ w w' → K (.exit 6) ρ' w') : W fn_ Try.prog 126 (Code.loop dispatcherlaw14_PostedOne_L9) K ρ w := by
  refine W_loop dispatcherlaw14_PostedOne_L9_ok (fun ρ' w' => ∃ k : Nat, k ≤ i ∧ ρ' 13 = .int .i64 k ∧ (∀ j, j < 97 → j ≠ 13 → ρ' j = ρ j) ∧ Mod none_ w w') (fun ρ' _ => i - (intOf (ρ' 13)).toNat)
    ⟨0, Nat.zero_le _, e13, fun _ _ _ => rfl, Mod.refl _ _⟩ ?_
  rintro ρ1 w1 ⟨k, hki, c13, hlo, hm1⟩
  have c7 : ρ1 7 = vl := (hlo 7 (by decide) (by decide)).trans e7
  have c12 : ρ1 12 = .int .i64 i := (hlo 12 (by decide) (by decide)).trans e12
  rw [dispatcherlaw14_PostedOne_L9_eq]; unfold dispatcherlaw14_PostedOne_L9_F
  rw [c13, c12, BK_lss]
  by_cases hlt : k < i
  · rw [decide_eq_true (by omega)]
    refine condT ?_
    have hp := List.pairwise_iff_getElem.1 hd k i (by omega) hil hlt
    refine one_R14 (i := i) (k := k) (m := L[i]) (y := L[k]) (owns_mod ho hm1 fun _ _ => id) (List.getElem?_eq_getElem hil) (List.getElem?_eq_getElem (by omega)) (fun z => hp ⟨z.1.symm, z.2.symm⟩) (by first | exact c7 | rfl) (by first | exact c12 | rfl) (by first | exact c13 | rfl) ?_
    intro ρ2 w2 d125 hlo2 hm2
    have d13 : ρ2 13 = .int .i64 (k : Int) := (hlo2 13 (by decide)).trans (by first | exact c13 | rfl)
    rw [sq_n, dispatcherlaw14_PostedOne_R15_eq]; unfold dispatcherlaw14_PostedOne_R15_F
    rw [d125]
    refine condF ?_
    rw [bk_n, sq_n, dispatcherlaw14_PostedOne_R16_eq]; unfold dispatcherlaw14_PostedOne_R16_F
    rw [d13, BK_add, wrap_i (by omega) (by omega)]
    refine ⟨⟨k + 1, hlt, rfl, fun j hj hne => ?_, hm1.trans hm2⟩, ?_⟩
    · rw [up_nq hne, up_lo hj (by decide), up_lo hj (by decide), hlo2 j (by omega), up_lo hj (by decide), up_lo hj (by decide), up_lo hj (by decide)]
      exact hlo j hj hne
    · simp only [sq_n, sq_x, sq_r, bk_n, bk_r, bk_x, rt_r, rt_n, rs_0, rs_t, pk_1, pk_2, up_at, reduceIte, Nat.reduceEqDiff, intOf]; omega
  · obtain rfl : k = i := by omega
    rw [decide_eq_false (by omega)]
    refine condF ?_
    refine hk _ w1 (fun j hj hne => ?_) hm1
    rw [up_lo hj (by decide), up_lo hj (by decide), up_lo hj (by decide)]
    exact hlo j hj hne
end
end Go.Proofs.Ytmnkedgmpbcicaa.Que
set_option linter.unusedVariables false
set_option linter.unusedSimpArgs false
set_option maxRecDepth 8000
namespace Go.Proofs.Ytmnkedgmpbcicaa.Que
open Go Go.X Go.RowKit Go.Proofs.Ytmnkedgmpbcicaa.XF Go.Proofs.Ytmnkedgmpbcicaa.XG Go.Proofs.Ytmnkedgmpbcicaa.XK
theorem mod64 {g : Int} (h : 0 ≤ g) : 0 ≤ g.tmod 64 ∧ g.tmod 64 ≤ 63 := by
  rw [Int.tmod_eq_emod_of_nonneg h]
  omega
def allV (R : Rks) (ls : List Ms) (Ws : List Rc) : List Ms := Ws.flatMap fun r => mayV R ls r.rank r.call
theorem wait_may {R : Rks} {ls : List Ms} (hok : OkQ R ls) {rk : Int} (hr : 0 ≤ rk ∧ rk ≤ 63) {r : Rc} (hm : r ∈ R rk.toNat) (hd : r.done = false) : ∃ j, (R rk.toNat)[j]? = some r ∧ mayV R ls r.rank r.call = freeV ls r ((R rk.toNat).take j) := by
  obtain ⟨j, hj⟩ := List.getElem?_of_mem hm
  refine ⟨j, hj, ?_⟩
  have e : r.rank = rk := by rw [hok.rk _ r hm]; omega
  have er : rowP R rk = R rk.toNat := by unfold rowP; rw [if_pos hr]
  unfold mayV
  rw [e, er, asc_idx (hok.asc _) hj]
  dsimp only
  rw [hj]
  dsimp only
  rw [hd]
  rfl
theorem one_disj {R : Rks} {ls : List Ms} (hok : OkQ R ls) (hu : ls.Pairwise fun a b => ¬ (a.frm = b.frm ∧ a.call = b.call)) {rk : Int} (hr : 0 ≤ rk ∧ rk ≤ 63) {r1 r2 : Rc} (h1 : r1 ∈ R rk.toNat) (h2 : r2 ∈ R rk.toNat) (d1 : r1.done = false) (d2 : r2.done = false) (hlt : r1.call < r2.call)
    {a b : Ms} (ha : a ∈ mayV R ls r1.rank r1.call) (hb : b ∈ mayV R ls r2.rank r2.call) : ¬ (a.frm = b.frm ∧ a.call = b.call) := by
  rintro ⟨hf, hc⟩
  obtain ⟨j1, hj1, e1⟩ := wait_may hok hr h1 d1
  obtain ⟨j2, hj2, e2⟩ := wait_may hok hr h2 d2
  rw [e1] at ha
  rw [e2] at hb
  have A := free_mem ha
  have B := free_mem hb
  have e := uniq_mem hu A.mem B.mem hf hc
  subst e
  have hjl1 := (List.getElem?_eq_some_iff.1 hj1)
  have hjl2 := (List.getElem?_eq_some_iff.1 hj2)
  have hjj : j1 < j2 := by
    rcases Nat.lt_trichotomy j1 j2 with q | q | q
    · exact q
    · subst q; rw [hj1] at hj2; cases hj2; omega
    · have := List.pairwise_iff_getElem.1 (hok.asc rk.toNat) j2 j1 hjl2.1 hjl1.1 q
      rw [hjl1.2, hjl2.2] at this
      omega
  have hin : r1 ∈ (R rk.toNat).take j2 := by
    have hl1 := hjl1.1
    rw [← hjl1.2]
    exact List.mem_take_iff_getElem.2 ⟨j1, by omega, rfl⟩
  have := B.no r1 hin d1
  rw [A.fit] at this
  cases this
theorem all_disj {R : Rks} {ls : List Ms} (hok : OkQ R ls) (hu : ls.Pairwise fun a b => ¬ (a.frm = b.frm ∧ a.call = b.call)) {rk : Int} (hr : 0 ≤ rk ∧ rk ≤ 63) : (allV R ls ((R rk.toNat).filter wt)).Pairwise fun a b => ¬ (a.frm = b.frm ∧ a.call = b.call) := by
  have hw : ∀ r, r ∈ (R rk.toNat).filter wt → r ∈ R rk.toNat ∧ r.done = false := fun r h => by
    have := List.mem_filter.1 h
    refine ⟨this.1, ?_⟩
    have := this.2
    unfold wt at this
    simpa using this
  unfold allV
  rw [List.pairwise_flatMap]
  refine ⟨fun r hm => ?_, ?_⟩
  · obtain ⟨h1, h2⟩ := hw r hm
    obtain ⟨j, _, e⟩ := wait_may hok hr h1 h2
    rw [e]
    exact (free_asc ls r _).imp fun z q => by omega
  · refine List.Pairwise.imp_of_mem (R := fun a b : Rc => a.call < b.call) (fun {a b} ha hb hab => ?_) ((hok.asc rk.toNat).sublist List.filter_sublist)
    intro x hx y hy
    obtain ⟨p1, p2⟩ := hw a ha
    obtain ⟨q1, q2⟩ := hw b hb
    exact one_disj hok hu hr p1 q1 p2 q2 hab hx hy
theorem all_succ {R : Rks} {ls : List Ms} {Ws : List Rc} {i : Nat} {r : Rc} (h : Ws[i]? = some r) : allV R ls (Ws.take (i + 1)) = allV R ls (Ws.take i) ++ mayV R ls r.rank r.call := by
  unfold allV
  rw [List.take_add_one, h, Option.toList_some, List.flatMap_append]
  simp
theorem all_len (R : Rks) (ls : List Ms) : ∀ Ws : List Rc, (allV R ls Ws).length ≤ 64 * Ws.length
  | [] => Nat.le_refl _
  | r :: Ws => by
    have h1 := all_len R ls Ws
    have h2 := may_len R ls r.rank r.call
    unfold allV at h1 ⊢
    rw [List.flatMap_cons, List.length_append, List.length_cons]
    omega
section
variable {w : World} {q p : Nat} {ls : List Ms} {V : QV} {R : Rks} {vs : List Value} {rk : Int} {vw : Value} {R1 : Value → World → Prop}
def OnI (wB : World) (q p : Nat) (ls : List Ms) (R : Rks) (Ws : List Rc) (vw : Value) (i : Nat) (ρ : Sl) (w' : World) : Prop :=
  ∃ o : Value, ρ 9 = .int .i64 i ∧ ρ 8 = vw ∧ ρ 7 = o ∧ ρ 5 = .pointer (some ⟨q, 0, none⟩) ∧ ρ 6 = .pointer (some ⟨p, 0, none⟩) ∧ w'.ownsRow wB.heap.size tMs 8 o (allV R ls (Ws.take i)).length ((allV R ls (Ws.take i)).flatMap Ms.enc) ∧ Mod none_ wB w'
theorem one_R2 {w0 : World} {K : Exit → Sl → World → Prop} {ρ : Sl} {Ws : List Rc} {i : Nat} {r : Rc} (hP : PP w0 w q p ls V R vs) (hok : OkQ R ls) (hlen : ∀ i, (R i).length ≤ 200) (hL : ls.length ≤ 200) (hW : RcRow w vw Ws) (hi : Ws[i]? = some r)
    (e9 : ρ 9 = .int .i64 i) (e8 : ρ 8 = vw) (e5 : ρ 5 = .pointer (some ⟨q, 0, none⟩)) (e6 : ρ 6 = .pointer (some ⟨p, 0, none⟩))
    (hk : ∀ (ρ' : Sl) (w' : World) (vm : Value), ρ' 10 = vm → (∀ k, k < 34 → k ≠ 10 → ρ' k = ρ k) → w'.ownsRow w.heap.size tMs 8 vm (mayV R ls r.rank r.call).length ((mayV R ls r.rank r.call).flatMap Ms.enc) → Mod none_ w w' → K .normal ρ' w') : W fn_ Try.prog 126 dispatcherlaw14_PostedOne_R2 K ρ w := by
  refine dispatcherlaw14_PostedOne_R2_tail (D := []) ?_
  have hmd : Mod none_ w { w with drawn := w.drawn + 1 } := (Mod.refl _ w).drawn _
  generalize ({ w with drawn := w.drawn + 1 } : World) = wd at *
  unfold dispatcherlaw14_PostedOne_R2_T
  rw [e9, e8, e5, e6]
  obtain ⟨b, hb, hbc, hbl⟩ := rc_any hW hi
  intro C
  have hC : ∀ w', C w' → Mod none_ w w' := fun w' hw => by cases (show w' = wd from hw); exact hmd
  refine QV_of (fun w' _ => hb w') ?_
  refine Qfo (show fieldOff Try.prog tRc 1 = some 1 by kernel_rfl) ?_
  refine Qld vI rfl (fun w' hw => hbc w' (hC w' hw) 1 (.int .i64 r.rank) rfl) ?_
  refine QV_of (fun w' _ => hb w') ?_
  refine Qfo (show fieldOff Try.prog tRc 2 = some 2 by kernel_rfl) ?_
  refine Qld vI rfl (fun w' hw => hbc w' (hC w' hw) 2 (.int .i64 r.call) rfl) ?_
  refine CK_st Try.func16 rfl rfl (May_ok (hP.calm hmd).pa (fun i => by have := hlen i; omega) (hP.calm hmd).qa hok.frm (by omega) r.rank r.call) ?_
  rintro vm w1 ⟨ho, hm1⟩
  refine hk _ w1 vm rfl (fun k hk hne => ?_) (owns_base ho hmd.size) (hmd.trans hm1)
  rw [up_nq hne]
  repeat rw [up_lo hk (by decide)]
end
theorem PostedOne_ok {w : World} {v : Value} {l : List Bc} (h : Bcts w v l) {a : Int} (ha : 0 ≤ a) : Rt Try.prog 4 #[v, .int .u8 a] w fun u w' => u = .bool true ∧ Mod none_ w w' := by
  refine dispatcherlaw14_PostedOne_calls ?_
  unfold dispatcherlaw14_PostedOne_F
  refine CK_st Try.func10 rfl rfl (awake14_ok w) ?_
  rintro _ w1 ⟨rfl, hm1⟩
  rw [not_ok]
  refine condF ?_
  refine CK_st Try.func11 rfl rfl (GreatB_ok (Bcts.calm h hm1)) ?_
  rintro _ w1 ⟨rfl, rfl⟩
  refine caseC (fun hgr => ⟨by trivial, hm1⟩) (fun hgr => ?_)
  have hl : l.length ≤ 120 := by
    unfold greatB at hgr
    have := (Bool.or_eq_false_iff.1 hgr).1
    simpa using this
  refine CK_st Try.func12 rfl rfl (made_ok (Bcts.calm h hm1) (by omega)) ?_
  rintro _ w2 ⟨q, p, ls, V, R, vs, rfl, hP, hok, hR, hls⟩
  have hR2 : ∀ i, (R i).length ≤ 200 := fun i => by have := hR i; omega
  have hr := mod64 ha
  rw [extract_ok (v := .pointer (some ⟨q, 0, none⟩)) rfl, extract_ok (v := .pointer (some ⟨p, 0, none⟩)) rfl, BK_rem (by decide), conv_k (k := .i64) (by kernel_rfl) (by kernel_rfl), wrap_i (n := a.tmod 64) (by omega) (by omega)]
  generalize a.tmod 64 = rk at *
  refine CK_st Try.func18 rfl rfl (Waiting_ok hP.pa (fun i => by have := hR i; omega) rk) ?_
  rintro vw wB ⟨hoW, hm2⟩
  have er : rowP R rk = R rk.toNat := by unfold rowP; rw [if_pos hr]
  rw [er] at hoW
  have hWr : RcRow wB vw ((R rk.toNat).filter wt) := reads_of_owns hoW
  have hPB := hP.calm hm2
  have hdis := all_disj hok hPB.qa.inv.uniq hr
  have hWl : ((R rk.toNat).filter wt).length ≤ 200 := Nat.le_trans (List.length_filter_le _ _) (hR2 _)
  have hwt : ∀ r, r ∈ (R rk.toNat).filter wt → r ∈ R rk.toNat ∧ r.done = false := fun r h => by
    have := List.mem_filter.1 h
    refine ⟨this.1, ?_⟩
    have := this.2
    unfold X.wt at this
    simpa using this
  generalize hWs : (R rk.toNat).filter wt = Ws at *
  obtain ⟨A, c, es, _⟩ := reads_cap hWr
  refine W_loop dispatcherlaw14_PostedOne_L0_ok (fun ρ w' => ∃ i : Nat, i ≤ Ws.length ∧ OnI wB q p ls R Ws vw i ρ w') (fun ρ _ => Ws.length - (intOf (ρ 9)).toNat)
    ⟨0, Nat.zero_le _, .slice none 0 0, rfl, rfl, rfl, rfl, rfl, World.ownsRow_nil _ _ _ _, Mod.refl _ _⟩ ?_
  rintro ρ w3 ⟨i, hi, o, e9, e8, e7, e5, e6, hO, hm3⟩
  rw [dispatcherlaw14_PostedOne_L0_eq]; unfold dispatcherlaw14_PostedOne_L0_F
  rw [e9, e8, es, len_sl vRcS, ← es, BK_lss]
  by_cases hlt : i < Ws.length
  · rw [decide_eq_true (by omega)]
    refine condT ?_
    have hx : Ws[i]? = some Ws[i] := List.getElem?_eq_getElem hlt
    have hmem : Ws[i] ∈ Ws := List.getElem_mem hlt
    generalize Ws[i] = r at *
    obtain ⟨hr1, hd1⟩ := hwt r hmem
    obtain ⟨j, _, hmay⟩ := wait_may hok hr hr1 hd1
    refine one_R2 (i := i) (r := r) (hPB.calm hm3) hok hR2 (by omega) (hWr.calm hm3) hx (by first | exact e9 | rfl) (by first | exact e8 | rfl) (by first | exact e5 | rfl) (by first | exact e6 | rfl) ?_
    intro ρ4 w4 vm c10 hlo4 hO4 hm4
    have c9 : ρ4 9 = .int .i64 (i : Int) := (hlo4 9 (by decide) (by decide)).trans (by first | exact e9 | rfl)
    have c8 : ρ4 8 = vw := (hlo4 8 (by decide) (by decide)).trans (by first | exact e8 | rfl)
    have c7 : ρ4 7 = o := (hlo4 7 (by decide) (by decide)).trans (by first | exact e7 | rfl)
    have c5 := (hlo4 5 (by decide) (by decide)).trans (by first | exact e5 | rfl)
    have c6 := (hlo4 6 (by decide) (by decide)).trans (by first | exact e6 | rfl)
    have hm34 := hm3.trans hm4
    have hml := may_len R ls r.rank r.call
    have hunf : ∀ m ∈ mayV R ls r.rank r.call, m.taken = false ∧ fitsV r m = true := fun m hm => by
      rw [hmay] at hm
      exact ⟨(free_mem hm).un, (free_mem hm).fit⟩
    have hasc : (mayV R ls r.rank r.call).Pairwise fun a b => a.frm < b.frm := by rw [hmay]; exact free_asc ls r _
    rw [sq_n, dispatcherlaw14_PostedOne_R3_eq]; unfold dispatcherlaw14_PostedOne_R3_F
    refine one_L7 (i := i) (hWr.calm hm34) hx hO4 hml hasc (fun m hm => (hunf m hm).1) (fun m hm => (hunf m hm).2) (by first | exact c8 | rfl) (by first | exact c9 | rfl) (by first | exact c10 | rfl) rfl ?_
    intro ρ5 w5 hlo5 hm5
    have d10 : ρ5 10 = vm := (hlo5 10 (by decide) (by decide)).trans (by first | exact c10 | rfl)
    have d9 : ρ5 9 = .int .i64 (i : Int) := (hlo5 9 (by decide) (by decide)).trans (by first | exact c9 | rfl)
    have d8 : ρ5 8 = vw := (hlo5 8 (by decide) (by decide)).trans (by first | exact c8 | rfl)
    have d7 : ρ5 7 = o := (hlo5 7 (by decide) (by decide)).trans (by first | exact c7 | rfl)
    have d5 := (hlo5 5 (by decide) (by decide)).trans (by first | exact c5 | rfl)
    have d6 := (hlo5 6 (by decide) (by decide)).trans (by first | exact c6 | rfl)
    rw [bk_x, sq_n, dispatcherlaw14_PostedOne_R8_eq]; unfold dispatcherlaw14_PostedOne_R8_F
    rw [d7, d10]
    have hm45 := hm4.trans hm5
    have hO5 := owns_mod hO hm45 fun _ _ => id
    have hV5 := owns_mod hO4 hm5 fun _ _ => id
    have hal := all_len R ls (Ws.take i)
    have htk : (Ws.take i).length ≤ 200 := by rw [List.length_take]; omega
    refine ap_any eMsS hO5 (reads_of_owns hV5) (Ms.enc_mem _) (by unfold maxLen; omega) (by omega) (Nat.le_trans hm3.size hm45.size) fun o' w6 hO6 hm6 _ => ?_
    have hm36 : Mod none_ wB w6 := (hm3.trans hm45).then hm6 fun i hi z => by have := (owns_bd hO5 i z.symm).1; omega
    rw [← List.length_append, ← List.flatMap_append, ← all_succ hx] at hO6
    rw [bk_n, sq_n, dispatcherlaw14_PostedOne_R4_eq]; unfold dispatcherlaw14_PostedOne_R4_F
    have key : ∀ ρ6 : Sl, ρ6 9 = .int .i64 (i : Int) → ρ6 8 = vw → ρ6 7 = o' → ρ6 5 = .pointer (some ⟨q, 0, none⟩) → ρ6 6 = .pointer (some ⟨p, 0, none⟩) → BK Try.prog .add 3 (.tmp 32) (.const (.int .i64 1)) (ρ6 9) (.int .i64 1) w6 fun x33 w => ((∃ i : Nat, i ≤ Ws.length ∧ OnI wB q p ls R Ws vw i (up (up (up ρ6 32 (ρ6 9)) 33 x33) 9 x33) w) ∧ Ws.length - (intOf ((up (up (up ρ6 32 (ρ6 9)) 33 x33) 9 x33) 9)).toNat < Ws.length - (intOf (.int .i64 (i : Int))).toNat) := by
      intro ρ6 q9 q8 q7 q5 q6
      rw [q9, BK_add, wrap_i (by omega) (by omega)]
      refine ⟨⟨i + 1, hlt, o', rfl, q8, q7, q5, q6, hO6, hm36⟩, ?_⟩
      simp only [sq_n, sq_x, sq_r, bk_n, bk_r, bk_x, rt_r, rt_n, rs_0, rs_t, pk_1, pk_2, up_at, reduceIte, Nat.reduceEqDiff, intOf]; omega
    exact key _ (by first | exact d9 | rfl) (by first | exact d8 | rfl) rfl (by first | exact d5 | rfl) (by first | exact d6 | rfl)
  · obtain rfl : i = Ws.length := by omega
    rw [decide_eq_false (by omega)]
    refine condF ?_
    rw [List.take_length] at hO
    rw [sq_x, bk_x, sq_n, dispatcherlaw14_PostedOne_R1_eq]; unfold dispatcherlaw14_PostedOne_R1_F
    have hal := all_len R ls Ws
    generalize allV R ls Ws = L at *
    obtain ⟨A2, c2, es2, _⟩ := reads_cap (reads_of_owns hO)
    refine W_loop dispatcherlaw14_PostedOne_L5_ok (fun ρ w' => ∃ i : Nat, i ≤ L.length ∧ ρ 12 = .int .i64 i ∧ ρ 7 = o ∧ Mod none_ w3 w') (fun ρ _ => L.length - (intOf (ρ 12)).toNat)
      ⟨0, Nat.zero_le _, rfl, by first | exact e7 | rfl, Mod.refl _ _⟩ ?_
    rintro ρ4 w4 ⟨i, hi, c12, c7, hm4⟩
    rw [dispatcherlaw14_PostedOne_L5_eq]; unfold dispatcherlaw14_PostedOne_L5_F
    rw [c12, c7, es2, len_sl vMsS, ← es2, BK_lss]
    by_cases hlt : i < L.length
    · rw [decide_eq_true (by omega)]
      refine condT ?_
      refine one_L9 (i := i) (owns_mod hO hm4 fun _ _ => id) (by omega) hlt hdis (by first | exact c7 | rfl) (by first | exact c12 | rfl) rfl ?_
      intro ρ5 w5 hlo5 hm5
      have d12 : ρ5 12 = .int .i64 (i : Int) := (hlo5 12 (by decide) (by decide)).trans (by first | exact c12 | rfl)
      have d7 : ρ5 7 = o := (hlo5 7 (by decide) (by decide)).trans (by first | exact c7 | rfl)
      rw [bk_x, bk_n, sq_n, dispatcherlaw14_PostedOne_R10_eq]; unfold dispatcherlaw14_PostedOne_R10_F
      rw [d12, BK_add, wrap_i (by omega) (by omega)]
      refine ⟨⟨i + 1, hlt, rfl, d7, hm4.trans hm5⟩, ?_⟩
      simp only [sq_n, sq_x, sq_r, bk_n, bk_r, bk_x, rt_r, rt_n, rs_0, rs_t, pk_1, pk_2, up_at, reduceIte, Nat.reduceEqDiff, intOf]; omega
    · obtain rfl : i = L.length := by omega
      rw [decide_eq_false (by omega)]
      refine condF ?_
      rw [sq_x, bk_x, sq_n, dispatcherlaw14_PostedOne_R6_eq]; unfold dispatcherlaw14_PostedOne_R6_F
      exact ⟨rfl, ((hm1.trans hP.mod).trans hm2).trans (hm3.trans hm4)⟩
end Go.Proofs.Ytmnkedgmpbcicaa.Que
set_option linter.unusedVariables false
set_option maxRecDepth 4000
namespace Go.Proofs.Ytmnkedgmpbcicaa.Que
open Go Go.X Go.RowKit
def shM : Sh Ms := ⟨8, fun w m cs => cs = m.enc⟩
def shR : Sh Rc := ⟨9, fun w r cs => cs = r.enc⟩
def shB : Sh Bc := ⟨18, fun w a cs => cs = a.enc⟩
theorem strV_back (b : ByteArray) : strV b.data.toList = .string b := by unfold strV; rw [Array.toArray_toList]
theorem opensM (n : Nat) : OpensAt Try.prog n shM 39 :=
  opens_as (opens_struct Try.underlying39 (by kernel_rfl) (fun m _ => fields_cons rfl (by kernel_rfl) (opens_string Try.underlying9) (fields_cons rfl (by kernel_rfl) (opens_int Try.underlying3) (fields_cons rfl (by kernel_rfl) (opens_int Try.underlying3)
    (fields_cons rfl (by kernel_rfl) (opens_int Try.underlying3) (fields_cons rfl (by kernel_rfl) (opens_int Try.underlying3) (fields_cons rfl (by kernel_rfl) (opens_int Try.underlying2) (fields_cons rfl (by kernel_rfl) (opens_int Try.underlying3) (fields_one rfl (by kernel_rfl) (opens_bool Try.underlying4))))))))))
    (fun x => (⟨x.1.data.toList, x.2.1, x.2.2.1, x.2.2.2.1, x.2.2.2.2.1, x.2.2.2.2.2.1, x.2.2.2.2.2.2.1, x.2.2.2.2.2.2.2⟩ : Ms))
    (fun w v cs h => by
      obtain ⟨c0, d0, rfl, _, ⟨rfl, h0⟩, c1, d1, rfl, _, ⟨rfl, h1⟩, c2, d2, rfl, _, ⟨rfl, h2⟩, c3, d3, rfl, _, ⟨rfl, h3⟩, c4, d4, rfl, _, ⟨rfl, h4⟩, c5, d5, rfl, _, ⟨rfl, h5⟩, c6, d6, rfl, _, ⟨rfl, h6⟩, h7⟩ := h
      subst h7
      show _ = Ms.enc _
      simp only [Ms.enc, strV_back]
      rfl)
theorem opensR (n : Nat) : OpensAt Try.prog n shR 24 :=
  opens_as (opens_struct Try.underlying24 (by kernel_rfl) (fun m _ => fields_cons rfl (by kernel_rfl) (opens_string Try.underlying9) (fields_cons rfl (by kernel_rfl) (opens_int Try.underlying3) (fields_cons rfl (by kernel_rfl) (opens_int Try.underlying3)
    (fields_cons rfl (by kernel_rfl) (opens_int Try.underlying3) (fields_cons rfl (by kernel_rfl) (opens_int Try.underlying3) (fields_cons rfl (by kernel_rfl) (opens_int Try.underlying3) (fields_cons rfl (by kernel_rfl) (opens_bool Try.underlying4) (fields_cons rfl (by kernel_rfl) (opens_int Try.underlying3) (fields_one rfl (by kernel_rfl) (opens_int Try.underlying3)))))))))))
    (fun x => (⟨x.1.data.toList, x.2.1, x.2.2.1, x.2.2.2.1, x.2.2.2.2.1, x.2.2.2.2.2.1, x.2.2.2.2.2.2.1, x.2.2.2.2.2.2.2.1, x.2.2.2.2.2.2.2.2⟩ : Rc))
    (fun w v cs h => by
      obtain ⟨c0, d0, rfl, _, ⟨rfl, h0⟩, c1, d1, rfl, _, ⟨rfl, h1⟩, c2, d2, rfl, _, ⟨rfl, h2⟩, c3, d3, rfl, _, ⟨rfl, h3⟩, c4, d4, rfl, _, ⟨rfl, h4⟩, c5, d5, rfl, _, ⟨rfl, h5⟩, c6, d6, rfl, _, rfl, c7, d7, rfl, _, ⟨rfl, h7⟩, ⟨h8, h9⟩⟩ := h
      subst h8
      show _ = Rc.enc _
      simp only [Rc.enc, strV_back]
      rfl)
theorem opensB (n : Nat) : OpensAt Try.prog n shB 48 :=
  opens_as (opens_struct Try.underlying48 (by kernel_rfl) (fun m _ => fields_cons rfl (by kernel_rfl) (opens_int Try.underlying5) (fields_cons rfl (by kernel_rfl) (opensM m) (fields_one rfl (by kernel_rfl) (opensR m)))))
    (fun x => (⟨x.1, x.2.1, x.2.2⟩ : Bc))
    (fun w v cs h => by
      obtain ⟨c0, d0, rfl, _, ⟨rfl, h0⟩, c1, d1, rfl, _, h1, h2⟩ := h
      obtain rfl : c1 = v.2.1.enc := h1
      obtain rfl : d1 = v.2.2.enc := h2
      rfl)
theorem opensBs (n : Nat) : OpensAt Try.prog n (Sh.slice shB) 22 := opens_slice Try.underlying22 (by kernel_rfl) (fun m _ => opensB m)
theorem Bcts_of {w : World} {x : Value × List Bc} {cs : List Value} (h : (Sh.slice shB).K w x cs) : Bcts w x.1 x.2 := reads_sh h Bc.enc (fun _ => rfl) (fun _ _ hd => hd)
end Go.Proofs.Ytmnkedgmpbcicaa.Que
