/- Several texts of this repo, one behind the other, without what is not used here. -/
import Derived.Test.YtmnkedgmpbcicaaUG2
set_option linter.unusedVariables false
set_option linter.unusedSimpArgs false
set_option maxRecDepth 8000
namespace Go.Proofs.Ytmnkedgmpbcicaa.Que
open Go Go.X Go.RowKit Go.Proofs.Ytmnkedgmpbcicaa.XF Go.Proofs.Ytmnkedgmpbcicaa.XG Go.Proofs.Ytmnkedgmpbcicaa.XK
def am (c t : Int) : Ms := ⟨[], 1, 0, c, t, 0, 1, false⟩
def ar (c pr tg : Int) : Rc := ⟨[], 0, c, pr, tg, -1, false, 0, 0⟩
def aR0 : Rks := fun _ => []
def aR1 : Rks := (postV aR0 (ar 0 (-1) 5)).1
def aR2 : Rks := (postV aR1 (ar 1 1 (-1))).1
def aQ : List Ms := [am 0 5, am 1 6]
def aR3 : Rks := (matchV aR2 aQ 0 0 1 0).1.1
def aQ3 : List Ms := (matchV aR2 aQ 0 0 1 0).1.2
theorem a1 : (postV aR0 (ar 0 (-1) 5)).2 = 0 := by decide
theorem a2 : (postV aR1 (ar 1 1 (-1))).2 = 0 := by decide
theorem a3 : postV aR2 (ar 1 1 1) = (aR2, 2) := by unfold postV; rw [if_pos (by decide)]
theorem a4 : sendV [] (am 0 5) = ([am 0 5], 0) := by decide
theorem a5 : sendV [am 0 5] (am 1 6) = (aQ, 0) := by decide
theorem a6 : mayV aR2 aQ 0 0 = [am 0 5] := by decide
theorem a7 : mayV aR2 aQ 0 1 = [] := by decide
theorem a8 : freeV aQ (ar 9 1 6) (rowP aR2 0) = [] := by decide
theorem a9 : matchV aR2 aQ 0 1 1 1 = ((aR2, aQ), 2) := by unfold matchV; rw [a7]; rfl
theorem a10 : (matchV aR2 aQ 0 0 1 0).2 = 0 := by decide
theorem a11 : mayV aR3 aQ3 0 1 = [am 1 6] := by decide
theorem a12 : ((rowP aR3 0).filter wt).length = 1 := by decide
theorem a14 : FrmOk aQ := by unfold X.FrmOk aQ am; simp
theorem a15 : FrmOk aQ3 := a14.take 1 0
theorem post_len {R : Rks} {n : Nat} (h : ∀ i, (R i).length ≤ n) (r : Rc) (i : Nat) : ((postV R r).1 i).length ≤ n + 1 := by
  unfold postV
  split
  · exact Nat.le_succ_of_le (h i)
  · dsimp only
    unfold putR
    split
    · rw [List.length_append, List.length_singleton]
      have := row_R h r.rank
      omega
    · exact Nat.le_succ_of_le (h i)
theorem set_len (R : Rks) (rk c f s : Int) (i : Nat) : (setV R rk c f s i).length = (R i).length := by
  by_cases hr : 0 ≤ rk ∧ rk ≤ 63
  · have e : rowP R rk = R rk.toNat := by unfold rowP; rw [if_pos hr]
    unfold setV
    rw [e]
    cases hj : (R rk.toNat).findIdx? (isC c) with
    | none => rfl
    | some j =>
      dsimp only
      cases hx : (R rk.toNat)[j]? with
      | none => rfl
      | some r =>
        dsimp only
        unfold putR
        by_cases hi : i = rk.toNat
        · rw [if_pos hi, List.length_set, hi]
        · rw [if_neg hi]
  · have e : rowP R rk = [] := by unfold rowP; rw [if_neg hr]
    unfold setV
    rw [e]
    rfl
theorem match_len (R : Rks) (ls : List Ms) (rk c f s : Int) (i : Nat) : ((matchV R ls rk c f s).1.1 i).length = (R i).length := by
  unfold matchV
  split
  · split
    · exact set_len ..
    · rfl
  · rfl
theorem match_ml (R : Rks) (ls : List Ms) (rk c f s : Int) : ((matchV R ls rk c f s).1.2).length = ls.length := by
  unfold matchV
  split
  · split
    · exact takeV_len ..
    · exact takeV_len ..
  · rfl
theorem match_frm {ls : List Ms} (h : FrmOk ls) (R : Rks) (rk c f s : Int) : FrmOk (matchV R ls rk c f s).1.2 := by
  unfold matchV
  split
  · split
    · exact FrmOk.take h f s
    · exact FrmOk.take h f s
  · exact h
theorem aL (i : Nat) : (aR2 i).length ≤ 2 := post_len (R := aR1) (fun i => post_len (R := aR0) (n := 0) (fun _ => Nat.le_refl _) _ i) _ i
theorem PP.keep {w0 w w1 : World} {q p : Nat} {ls : List Ms} {V : QV} {R : Rks} {vs : List Value} {B n : Nat} {e : TypeId} {sz : Nat} {v : Value} {xs : List Value} {x : World} (h : PP w0 x q p ls V R vs) (hB : x.heap.size ≤ B) (ho : w.ownsRow B e sz v n xs) (hm : Mod (fun b => V.F q b ∨ PF p vs b) w w1) : w1.ownsRow B e sz v n xs :=
  owns_mod ho hm fun g z y => by
    have := (owns_bd ho g z).1
    rcases y with y | y
    · have := h.qa.old g y; omega
    · have := h.pa.old g y; omega
theorem message14_ok (c t : Int) (w : World) : Rt Try.prog 26 #[.int .i64 c, .int .i64 t] w fun v w' => v = .agg (am c t).enc.toArray ∧ Mod none_ w w' := by
  refine dispatcherlaw14_message_calls ?_
  unfold dispatcherlaw14_message_F
  refine al_k (cs := zMs.enc.toArray) zMs_z rfl _ fun w1 hb1 hm1 hz1 => ?_
  rw [build_ok (cs := (am c t).enc.toArray) (by kernel_rfl)]
  refine stS (cs := (am c t).enc.toArray) (old := zMs.enc.toArray) rfl rfl (by rw [iMs]; rfl) rfl (Ms.enc_one _) hb1 fun w3 hb3 hm3 hz3 => ?_
  exact ⟨_, res_ld (run_ldB Try.underlying39 rfl (by rw [iMs]; rfl) hb3), rfl, hm1.fresh hm3 (Nat.le_refl _)⟩
theorem receive_ok (c pr tg : Int) (w : World) : Rt Try.prog 27 #[.int .i64 c, .int .i64 pr, .int .i64 tg] w fun v w' => v = .agg (ar c pr tg).enc.toArray ∧ Mod none_ w w' := by
  refine dispatcherlaw14_receive_calls ?_
  unfold dispatcherlaw14_receive_F
  refine al_k (cs := zRc.enc.toArray) zRc_z rfl _ fun w1 hb1 hm1 hz1 => ?_
  rw [build_ok (cs := (ar c pr tg).enc.toArray) (by kernel_rfl)]
  refine stS (cs := (ar c pr tg).enc.toArray) (old := zRc.enc.toArray) rfl rfl (by rw [iRc]; rfl) rfl (Rc.enc_one _) hb1 fun w3 hb3 hm3 hz3 => ?_
  exact ⟨_, res_ld (run_ldB Try.underlying24 rfl (by rw [iRc]; rfl) hb3), rfl, hm1.fresh hm3 (Nat.le_refl _)⟩
theorem begun (w : World) {K : Value → Value → World → Prop} (hk : ∀ q p V vs w', PP w w' q p [] V (fun _ => []) vs → K (.pointer (some ⟨q, 0, none⟩)) (.pointer (some ⟨p, 0, none⟩)) w') :
    CK Try.prog (.func (.func 23) #[] #[]) [] w fun x w => CK Try.prog (.func (.func 24) #[] #[]) [] w fun y w => K x y w := by
  refine CK_st Try.func23 rfl rfl (New_ok w) ?_
  rintro _ w1 ⟨q, V, rfl, hq, hqF, hm1⟩
  refine CK_st Try.func24 rfl rfl (New_ok' w1) ?_
  rintro _ w2 ⟨p, vs, rfl, hp, hpF, hm2⟩
  have s1 := hm1.size
  exact hk q p V vs w2 ⟨hq.calm hm2, hp, fun b z y => by have := hq.old b z; have := hpF b y; omega, hqF, fun b z => by have := hpF b z; omega, hm1.trans hm2⟩
theorem awake14_ok (w : World) : Rt Try.prog 10 #[] w fun v w' => v = .bool true ∧ Mod none_ w w' := by
  refine dispatcherlaw14_awake_calls ?_
  unfold dispatcherlaw14_awake_F
  refine begun w fun q p V vs w1 h1 => ?_
  have hL0 : ∀ i, ((fun _ => [] : Rks) i).length ≤ 1000000 := fun i => Nat.zero_le _
  rw [BK_eqlP uQ]
  simp only [Option.isNone_some, ↓VG_u, ↓UG_u, ↓MG_u, ↓NG_u, ↓PG_u, ↓BG_u, ↓CG_u, ↓IG_u, ↓VGtt, ↓VGtf, ↓VGft, ↓VGff, ↓UGtt, ↓UGtf, ↓UGft, ↓UGff, ↓MGtt, ↓MGtf, ↓MGft, ↓MGff, ↓NGtt, ↓NGtf, ↓NGft, ↓NGff, ↓PGtt, ↓PGtf, ↓PGft, ↓PGff, ↓BGtt, ↓BGtf, ↓BGft, ↓BGff, ↓CGtt, ↓CGtf, ↓CGft, ↓CGff, ↓IGtt, ↓IGtf, ↓IGft, ↓IGff, ↓PKt, ↓PKf, ↓CDt, ↓CDf, ↓NOTt, ↓NOTf, ↓NK_ptr]
  rw [BK_eqlP uPd]
  simp only [Option.isNone_some, ↓VG_u, ↓UG_u, ↓MG_u, ↓NG_u, ↓PG_u, ↓BG_u, ↓CG_u, ↓IG_u, ↓VGtt, ↓VGtf, ↓VGft, ↓VGff, ↓UGtt, ↓UGtf, ↓UGft, ↓UGff, ↓MGtt, ↓MGtf, ↓MGft, ↓MGff, ↓NGtt, ↓NGtf, ↓NGft, ↓NGff, ↓PGtt, ↓PGtf, ↓PGft, ↓PGff, ↓BGtt, ↓BGtf, ↓BGft, ↓BGff, ↓CGtt, ↓CGtf, ↓CGft, ↓CGff, ↓IGtt, ↓IGtf, ↓IGft, ↓IGff, ↓PKt, ↓PKf, ↓CDt, ↓CDf, ↓NOTt, ↓NOTf, ↓NK_ptr]
  refine CK_st Try.func27 rfl rfl (receive_ok 0 (-1) 5 w1) ?_
  rintro _ w2 ⟨rfl, hm2⟩
  try simp only [↓VG_u, ↓UG_u, ↓MG_u, ↓NG_u, ↓PG_u, ↓BG_u, ↓CG_u, ↓IG_u, ↓VGtt, ↓VGtf, ↓VGft, ↓VGff, ↓UGtt, ↓UGtf, ↓UGft, ↓UGff, ↓MGtt, ↓MGtf, ↓MGft, ↓MGff, ↓NGtt, ↓NGtf, ↓NGft, ↓NGff, ↓PGtt, ↓PGtf, ↓PGft, ↓PGff, ↓BGtt, ↓BGtf, ↓BGft, ↓BGff, ↓CGtt, ↓CGtf, ↓CGft, ↓CGff, ↓IGtt, ↓IGtf, ↓IGft, ↓IGff, ↓PKt, ↓PKf, ↓CDt, ↓CDf, ↓NOTt, ↓NOTf, ↓NK_ptr]
  have h2 := h1.calm hm2
  refine CK_st Try.func14 rfl rfl (Post_ok h2.pa hL0 (ar 0 (-1) 5)) ?_
  rintro _ w3 ⟨rfl, vs3, h3p, f3⟩
  have h3 : PP w w3 q p [] V aR1 vs3 := h2.onP h3p f3
  rw [show (postV (fun _ => []) (ar 0 (-1) 5)).2 = 0 from a1]
  try simp only [↓VG_u, ↓UG_u, ↓MG_u, ↓NG_u, ↓PG_u, ↓BG_u, ↓CG_u, ↓IG_u, ↓VGtt, ↓VGtf, ↓VGft, ↓VGff, ↓UGtt, ↓UGtf, ↓UGft, ↓UGff, ↓MGtt, ↓MGtf, ↓MGft, ↓MGff, ↓NGtt, ↓NGtf, ↓NGft, ↓NGff, ↓PGtt, ↓PGtf, ↓PGft, ↓PGff, ↓BGtt, ↓BGtf, ↓BGft, ↓BGff, ↓CGtt, ↓CGtf, ↓CGft, ↓CGff, ↓IGtt, ↓IGtf, ↓IGft, ↓IGff, ↓PKt, ↓PKf, ↓CDt, ↓CDf, ↓NOTt, ↓NOTf, ↓NK_ptr]
  rw [NEf rfl]
  simp only [↓VG_u, ↓UG_u, ↓MG_u, ↓NG_u, ↓PG_u, ↓BG_u, ↓CG_u, ↓IG_u, ↓VGtt, ↓VGtf, ↓VGft, ↓VGff, ↓UGtt, ↓UGtf, ↓UGft, ↓UGff, ↓MGtt, ↓MGtf, ↓MGft, ↓MGff, ↓NGtt, ↓NGtf, ↓NGft, ↓NGff, ↓PGtt, ↓PGtf, ↓PGft, ↓PGff, ↓BGtt, ↓BGtf, ↓BGft, ↓BGff, ↓CGtt, ↓CGtf, ↓CGft, ↓CGff, ↓IGtt, ↓IGtf, ↓IGft, ↓IGff, ↓PKt, ↓PKf, ↓CDt, ↓CDf, ↓NOTt, ↓NOTf, ↓NK_ptr]
  refine CK_st Try.func27 rfl rfl (receive_ok 1 1 (-1) w3) ?_
  rintro _ w4 ⟨rfl, hm4⟩
  try simp only [↓VG_u, ↓UG_u, ↓MG_u, ↓NG_u, ↓PG_u, ↓BG_u, ↓CG_u, ↓IG_u, ↓VGtt, ↓VGtf, ↓VGft, ↓VGff, ↓UGtt, ↓UGtf, ↓UGft, ↓UGff, ↓MGtt, ↓MGtf, ↓MGft, ↓MGff, ↓NGtt, ↓NGtf, ↓NGft, ↓NGff, ↓PGtt, ↓PGtf, ↓PGft, ↓PGff, ↓BGtt, ↓BGtf, ↓BGft, ↓BGff, ↓CGtt, ↓CGtf, ↓CGft, ↓CGff, ↓IGtt, ↓IGtf, ↓IGft, ↓IGff, ↓PKt, ↓PKf, ↓CDt, ↓CDf, ↓NOTt, ↓NOTf, ↓NK_ptr]
  have h4 := h3.calm hm4
  have hL1 : ∀ i, (aR1 i).length ≤ 1000000 := fun i => by
    unfold aR1 aR0 postV putR
    rw [if_neg (by decide)]
    dsimp only
    split
    · decide
    · exact Nat.zero_le _
  refine CK_st Try.func14 rfl rfl (Post_ok h4.pa hL1 (ar 1 1 (-1))) ?_
  rintro _ w5 ⟨rfl, vs5, h5p, f5⟩
  have h5 : PP w w5 q p [] V aR2 vs5 := h4.onP h5p f5
  rw [a2]
  try simp only [↓VG_u, ↓UG_u, ↓MG_u, ↓NG_u, ↓PG_u, ↓BG_u, ↓CG_u, ↓IG_u, ↓VGtt, ↓VGtf, ↓VGft, ↓VGff, ↓UGtt, ↓UGtf, ↓UGft, ↓UGff, ↓MGtt, ↓MGtf, ↓MGft, ↓MGff, ↓NGtt, ↓NGtf, ↓NGft, ↓NGff, ↓PGtt, ↓PGtf, ↓PGft, ↓PGff, ↓BGtt, ↓BGtf, ↓BGft, ↓BGff, ↓CGtt, ↓CGtf, ↓CGft, ↓CGff, ↓IGtt, ↓IGtf, ↓IGft, ↓IGff, ↓PKt, ↓PKf, ↓CDt, ↓CDf, ↓NOTt, ↓NOTf, ↓NK_ptr]
  rw [NEf rfl]
  simp only [↓VG_u, ↓UG_u, ↓MG_u, ↓NG_u, ↓PG_u, ↓BG_u, ↓CG_u, ↓IG_u, ↓VGtt, ↓VGtf, ↓VGft, ↓VGff, ↓UGtt, ↓UGtf, ↓UGft, ↓UGff, ↓MGtt, ↓MGtf, ↓MGft, ↓MGff, ↓NGtt, ↓NGtf, ↓NGft, ↓NGff, ↓PGtt, ↓PGtf, ↓PGft, ↓PGff, ↓BGtt, ↓BGtf, ↓BGft, ↓BGff, ↓CGtt, ↓CGtf, ↓CGft, ↓CGff, ↓IGtt, ↓IGtf, ↓IGft, ↓IGff, ↓PKt, ↓PKf, ↓CDt, ↓CDf, ↓NOTt, ↓NOTf, ↓NK_ptr]
  refine CK_st Try.func27 rfl rfl (receive_ok 1 1 1 w5) ?_
  rintro _ w6 ⟨rfl, hm6⟩
  try simp only [↓VG_u, ↓UG_u, ↓MG_u, ↓NG_u, ↓PG_u, ↓BG_u, ↓CG_u, ↓IG_u, ↓VGtt, ↓VGtf, ↓VGft, ↓VGff, ↓UGtt, ↓UGtf, ↓UGft, ↓UGff, ↓MGtt, ↓MGtf, ↓MGft, ↓MGff, ↓NGtt, ↓NGtf, ↓NGft, ↓NGff, ↓PGtt, ↓PGtf, ↓PGft, ↓PGff, ↓BGtt, ↓BGtf, ↓BGft, ↓BGff, ↓CGtt, ↓CGtf, ↓CGft, ↓CGff, ↓IGtt, ↓IGtf, ↓IGft, ↓IGff, ↓PKt, ↓PKf, ↓CDt, ↓CDf, ↓NOTt, ↓NOTf, ↓NK_ptr]
  have h6 := h5.calm hm6
  have hL2 : ∀ i, (aR2 i).length ≤ 1000000 := fun i => by have := aL i; omega
  refine CK_st Try.func14 rfl rfl (Post_ok h6.pa hL2 (ar 1 1 1)) ?_
  rintro _ w7 ⟨rfl, vs7, h7p, f7⟩
  have h7 := h6.onP h7p f7
  rw [a3] at h7 ⊢
  try simp only [↓VG_u, ↓UG_u, ↓MG_u, ↓NG_u, ↓PG_u, ↓BG_u, ↓CG_u, ↓IG_u, ↓VGtt, ↓VGtf, ↓VGft, ↓VGff, ↓UGtt, ↓UGtf, ↓UGft, ↓UGff, ↓MGtt, ↓MGtf, ↓MGft, ↓MGff, ↓NGtt, ↓NGtf, ↓NGft, ↓NGff, ↓PGtt, ↓PGtf, ↓PGft, ↓PGff, ↓BGtt, ↓BGtf, ↓BGft, ↓BGff, ↓CGtt, ↓CGtf, ↓CGft, ↓CGff, ↓IGtt, ↓IGtf, ↓IGft, ↓IGff, ↓PKt, ↓PKf, ↓CDt, ↓CDf, ↓NOTt, ↓NOTf, ↓NK_ptr]
  rw [NEf rfl]
  try simp only [↓VG_u, ↓UG_u, ↓MG_u, ↓NG_u, ↓PG_u, ↓BG_u, ↓CG_u, ↓IG_u, ↓VGtt, ↓VGtf, ↓VGft, ↓VGff, ↓UGtt, ↓UGtf, ↓UGft, ↓UGff, ↓MGtt, ↓MGtf, ↓MGft, ↓MGff, ↓NGtt, ↓NGtf, ↓NGft, ↓NGff, ↓PGtt, ↓PGtf, ↓PGft, ↓PGff, ↓BGtt, ↓BGtf, ↓BGft, ↓BGff, ↓CGtt, ↓CGtf, ↓CGft, ↓CGff, ↓IGtt, ↓IGtf, ↓IGft, ↓IGff, ↓PKt, ↓PKf, ↓CDt, ↓CDf, ↓NOTt, ↓NOTf, ↓NK_ptr]
  rw [dispatcherlaw14_awake_R0_eq]; unfold dispatcherlaw14_awake_R0_F
  refine condF ?_
  rw [sq_n]
  have key : ∀ ρ0 : Sl, ρ0 1 = .pointer (some ⟨q, 0, none⟩) → ρ0 2 = .pointer (some ⟨p, 0, none⟩) → sx fn_ Try.prog 106 dispatcherlaw14_awake_R1 (retK Try.prog [ResultVar.tmp 0] fun v w' => v = .bool true ∧ Mod none_ w w') ρ0 w7 := by
    intro ρ0 q1 q2
    rw [dispatcherlaw14_awake_R1_eq]; unfold dispatcherlaw14_awake_R1_F
    rw [q1, q2]
    refine CK_st Try.func26 rfl rfl (message14_ok 0 5 w7) ?_
    rintro _ x1 ⟨rfl, k1⟩
    have g1 := h7.calm k1
    refine CK_st Try.func25 rfl rfl (Send_ok g1.qa (by decide) (am 0 5)) ?_
    rintro _ x2 ⟨_, V2, h2q, f2⟩
    have g2 := g1.onQ h2q f2
    rw [a4] at g2
    refine CK_st Try.func26 rfl rfl (message14_ok 1 6 x2) ?_
    rintro _ x3 ⟨rfl, k3⟩
    have g3 := g2.calm k3
    refine CK_st Try.func25 rfl rfl (Send_ok g3.qa (by decide) (am 1 6)) ?_
    rintro _ x4 ⟨_, V4, h4q, f4⟩
    have g4 := g3.onQ h4q f4
    rw [a5] at g4
    refine CK_st Try.func16 rfl rfl (May_ok g4.pa hL2 g4.qa a14 (by decide) 0 0) ?_
    rintro ma x5 ⟨oa, k5⟩
    rw [a6] at oa
    refine CK_st Try.func16 rfl rfl (May_ok (g4.calm k5).pa hL2 (g4.calm k5).qa a14 (by decide) 0 1) ?_
    rintro mb x6 ⟨ob, k6⟩
    rw [a7] at ob
    have g6 := (g4.calm k5).calm k6
    refine CK_st Try.func27 rfl rfl (receive_ok 9 1 6 x6) ?_
    rintro _ x7 ⟨rfl, k7⟩
    have g7 := g6.calm k7
    refine CK_st Try.func13 rfl rfl (Probe_ok g7.pa hL2 g7.qa a14 (by decide) (ar 9 1 6)) ?_
    rintro mp x8 ⟨op, k8⟩
    rw [show (ar 9 1 6).rank = 0 from rfl, a8] at op
    have g8 := g7.calm k8
    refine CK_st Try.func17 rfl rfl (Match_ok g8 hL2 a14 (by decide) 0 1 1 1) ?_
    rintro _ x9 ⟨rfl, g9, k9⟩
    rw [a9] at g9 ⊢
    dsimp only at g9 ⊢
    refine CK_st Try.func17 rfl rfl (Match_ok g9 hL2 a14 (by decide) 0 0 1 0) ?_
    rintro _ x10 ⟨rfl, g10, k10⟩
    rw [a10]
    have g10 : PP w x10 q p aQ3 V4 aR3 _ := g10
    have hL3 : ∀ i, (aR3 i).length ≤ 1000000 := fun i => by
      show ((matchV aR2 aQ 0 0 1 0).1.1 i).length ≤ _
      rw [match_len]; exact hL2 i
    have k810 : Mod (fun b => V4.F q b ∨ PF p vs7 b) x8 x10 := k9.trans k10
    have oa10 : x10.ownsRow x4.heap.size tMs 8 ma [am 0 5].length ([am 0 5].flatMap Ms.enc) := PP.keep g4 (Nat.le_refl _) (owns_mod (owns_mod (owns_mod oa k6 fun _ _ => id) k7 fun _ _ => id) k8 fun _ _ => id) k810
    have ob10 : x10.ownsRow x5.heap.size tMs 8 mb ([] : List Ms).length (([] : List Ms).flatMap Ms.enc) := PP.keep g4 k5.size (owns_mod (owns_mod ob k7 fun _ _ => id) k8 fun _ _ => id) k810
    have op10 : x10.ownsRow x7.heap.size tMs 8 mp ([] : List Ms).length (([] : List Ms).flatMap Ms.enc) := PP.keep g4 (Nat.le_trans k5.size (Nat.le_trans k6.size k7.size)) op k810
    have key2 : ∀ ρ2 : Sl, ρ2 1 = .pointer (some ⟨q, 0, none⟩) → ρ2 2 = .pointer (some ⟨p, 0, none⟩) → ρ2 3 = ma → ρ2 4 = mb → ρ2 5 = mp → ρ2 6 = .int .i64 2 → ρ2 7 = .int .i64 0 → sx fn_ Try.prog 106 dispatcherlaw14_awake_R2 (retK Try.prog [ResultVar.tmp 0] fun v w' => v = .bool true ∧ Mod none_ w w') ρ2 x10 := by
      intro ρ2 e1 e2 e3 e4 e5 e6 e7
      rw [dispatcherlaw14_awake_R2_eq]; unfold dispatcherlaw14_awake_R2_F
      rw [e1, e2, e3, e4, e5, e6, e7]
      refine CK_st Try.func16 rfl rfl (May_ok g10.pa hL3 g10.qa a15 (by decide) 0 1) ?_
      rintro mc x11 ⟨oc, k11⟩
      rw [a11] at oc
      have oa11 := owns_mod oa10 k11 fun _ _ => id
      have ob11 := owns_mod ob10 k11 fun _ _ => id
      have op11 := owns_mod op10 k11 fun _ _ => id
      obtain ⟨A1, c1, es1, _⟩ := reads_cap (reads_of_owns oa11)
      rw [es1, len_sl vMsS, ← es1, show (([am 0 5].length : Nat) : Int) = 1 from rfl, EQt rfl]
      try simp only [↓VG_u, ↓UG_u, ↓MG_u, ↓NG_u, ↓PG_u, ↓BG_u, ↓CG_u, ↓IG_u, ↓VGtt, ↓VGtf, ↓VGft, ↓VGff, ↓UGtt, ↓UGtf, ↓UGft, ↓UGff, ↓MGtt, ↓MGtf, ↓MGft, ↓MGff, ↓NGtt, ↓NGtf, ↓NGft, ↓NGff, ↓PGtt, ↓PGtf, ↓PGft, ↓PGff, ↓BGtt, ↓BGtf, ↓BGft, ↓BGff, ↓CGtt, ↓CGtf, ↓CGft, ↓CGff, ↓IGtt, ↓IGtf, ↓IGft, ↓IGff, ↓PKt, ↓PKf, ↓CDt, ↓CDf, ↓NOTt, ↓NOTf, ↓NK_ptr]
      refine ixF (reads_of_owns oa11) (i := 0) (e := am 0 5) rfl rfl (show fieldOff Try.prog tMs 3 = some 3 by kernel_rfl) (ld1 vI rfl) (u := .int .i64 0) rfl fun _ _ => ?_
      try simp only [↓VG_u, ↓UG_u, ↓MG_u, ↓NG_u, ↓PG_u, ↓BG_u, ↓CG_u, ↓IG_u, ↓VGtt, ↓VGtf, ↓VGft, ↓VGff, ↓UGtt, ↓UGtf, ↓UGft, ↓UGff, ↓MGtt, ↓MGtf, ↓MGft, ↓MGff, ↓NGtt, ↓NGtf, ↓NGft, ↓NGff, ↓PGtt, ↓PGtf, ↓PGft, ↓PGff, ↓BGtt, ↓BGtf, ↓BGft, ↓BGff, ↓CGtt, ↓CGtf, ↓CGft, ↓CGff, ↓IGtt, ↓IGtf, ↓IGft, ↓IGff, ↓PKt, ↓PKf, ↓CDt, ↓CDf, ↓NOTt, ↓NOTf, ↓NK_ptr]
      rw [EQt rfl]
      try simp only [↓VG_u, ↓UG_u, ↓MG_u, ↓NG_u, ↓PG_u, ↓BG_u, ↓CG_u, ↓IG_u, ↓VGtt, ↓VGtf, ↓VGft, ↓VGff, ↓UGtt, ↓UGtf, ↓UGft, ↓UGff, ↓MGtt, ↓MGtf, ↓MGft, ↓MGff, ↓NGtt, ↓NGtf, ↓NGft, ↓NGff, ↓PGtt, ↓PGtf, ↓PGft, ↓PGff, ↓BGtt, ↓BGtf, ↓BGft, ↓BGff, ↓CGtt, ↓CGtf, ↓CGft, ↓CGff, ↓IGtt, ↓IGtf, ↓IGft, ↓IGff, ↓PKt, ↓PKf, ↓CDt, ↓CDf, ↓NOTt, ↓NOTf, ↓NK_ptr]
      obtain ⟨A2, c2, es2, _⟩ := reads_cap (reads_of_owns ob11)
      rw [es2, len_sl vMsS, ← es2, show ((([] : List Ms).length : Nat) : Int) = 0 from rfl, EQt rfl]
      try simp only [↓VG_u, ↓UG_u, ↓MG_u, ↓NG_u, ↓PG_u, ↓BG_u, ↓CG_u, ↓IG_u, ↓VGtt, ↓VGtf, ↓VGft, ↓VGff, ↓UGtt, ↓UGtf, ↓UGft, ↓UGff, ↓MGtt, ↓MGtf, ↓MGft, ↓MGff, ↓NGtt, ↓NGtf, ↓NGft, ↓NGff, ↓PGtt, ↓PGtf, ↓PGft, ↓PGff, ↓BGtt, ↓BGtf, ↓BGft, ↓BGff, ↓CGtt, ↓CGtf, ↓CGft, ↓CGff, ↓IGtt, ↓IGtf, ↓IGft, ↓IGff, ↓PKt, ↓PKf, ↓CDt, ↓CDf, ↓NOTt, ↓NOTf, ↓NK_ptr]
      obtain ⟨A3, c3, es3, _⟩ := reads_cap (reads_of_owns op11)
      rw [es3, len_sl vMsS, ← es3, show ((([] : List Ms).length : Nat) : Int) = 0 from rfl, EQt rfl]
      try simp only [↓VG_u, ↓UG_u, ↓MG_u, ↓NG_u, ↓PG_u, ↓BG_u, ↓CG_u, ↓IG_u, ↓VGtt, ↓VGtf, ↓VGft, ↓VGff, ↓UGtt, ↓UGtf, ↓UGft, ↓UGff, ↓MGtt, ↓MGtf, ↓MGft, ↓MGff, ↓NGtt, ↓NGtf, ↓NGft, ↓NGff, ↓PGtt, ↓PGtf, ↓PGft, ↓PGff, ↓BGtt, ↓BGtf, ↓BGft, ↓BGff, ↓CGtt, ↓CGtf, ↓CGft, ↓CGff, ↓IGtt, ↓IGtf, ↓IGft, ↓IGff, ↓PKt, ↓PKf, ↓CDt, ↓CDf, ↓NOTt, ↓NOTf, ↓NK_ptr]
      rw [EQt rfl]
      try simp only [↓VG_u, ↓UG_u, ↓MG_u, ↓NG_u, ↓PG_u, ↓BG_u, ↓CG_u, ↓IG_u, ↓VGtt, ↓VGtf, ↓VGft, ↓VGff, ↓UGtt, ↓UGtf, ↓UGft, ↓UGff, ↓MGtt, ↓MGtf, ↓MGft, ↓MGff, ↓NGtt, ↓NGtf, ↓NGft, ↓NGff, ↓PGtt, ↓PGtf, ↓PGft, ↓PGff, ↓BGtt, ↓BGtf, ↓BGft, ↓BGff, ↓CGtt, ↓CGtf, ↓CGft, ↓CGff, ↓IGtt, ↓IGtf, ↓IGft, ↓IGff, ↓PKt, ↓PKf, ↓CDt, ↓CDf, ↓NOTt, ↓NOTf, ↓NK_ptr]
      rw [EQt rfl]
      try simp only [↓VG_u, ↓UG_u, ↓MG_u, ↓NG_u, ↓PG_u, ↓BG_u, ↓CG_u, ↓IG_u, ↓VGtt, ↓VGtf, ↓VGft, ↓VGff, ↓UGtt, ↓UGtf, ↓UGft, ↓UGff, ↓MGtt, ↓MGtf, ↓MGft, ↓MGff, ↓NGtt, ↓NGtf, ↓NGft, ↓NGff, ↓PGtt, ↓PGtf, ↓PGft, ↓PGff, ↓BGtt, ↓BGtf, ↓BGft, ↓BGff, ↓CGtt, ↓CGtf, ↓CGft, ↓CGff, ↓IGtt, ↓IGtf, ↓IGft, ↓IGff, ↓PKt, ↓PKf, ↓CDt, ↓CDf, ↓NOTt, ↓NOTf, ↓NK_ptr]
      obtain ⟨A4, c4, es4, _⟩ := reads_cap (reads_of_owns oc)
      rw [es4, len_sl vMsS, ← es4, show (([am 1 6].length : Nat) : Int) = 1 from rfl, EQt rfl]
      try simp only [↓VG_u, ↓UG_u, ↓MG_u, ↓NG_u, ↓PG_u, ↓BG_u, ↓CG_u, ↓IG_u, ↓VGtt, ↓VGtf, ↓VGft, ↓VGff, ↓UGtt, ↓UGtf, ↓UGft, ↓UGff, ↓MGtt, ↓MGtf, ↓MGft, ↓MGff, ↓NGtt, ↓NGtf, ↓NGft, ↓NGff, ↓PGtt, ↓PGtf, ↓PGft, ↓PGff, ↓BGtt, ↓BGtf, ↓BGft, ↓BGff, ↓CGtt, ↓CGtf, ↓CGft, ↓CGff, ↓IGtt, ↓IGtf, ↓IGft, ↓IGff, ↓PKt, ↓PKf, ↓CDt, ↓CDf, ↓NOTt, ↓NOTf, ↓NK_ptr]
      refine ixF (reads_of_owns oc) (i := 0) (e := am 1 6) rfl rfl (show fieldOff Try.prog tMs 3 = some 3 by kernel_rfl) (ld1 vI rfl) (u := .int .i64 1) rfl fun _ _ => ?_
      try simp only [↓VG_u, ↓UG_u, ↓MG_u, ↓NG_u, ↓PG_u, ↓BG_u, ↓CG_u, ↓IG_u, ↓VGtt, ↓VGtf, ↓VGft, ↓VGff, ↓UGtt, ↓UGtf, ↓UGft, ↓UGff, ↓MGtt, ↓MGtf, ↓MGft, ↓MGff, ↓NGtt, ↓NGtf, ↓NGft, ↓NGff, ↓PGtt, ↓PGtf, ↓PGft, ↓PGff, ↓BGtt, ↓BGtf, ↓BGft, ↓BGff, ↓CGtt, ↓CGtf, ↓CGft, ↓CGff, ↓IGtt, ↓IGtf, ↓IGft, ↓IGff, ↓PKt, ↓PKf, ↓CDt, ↓CDf, ↓NOTt, ↓NOTf, ↓NK_ptr]
      rw [EQt rfl]
      try simp only [↓VG_u, ↓UG_u, ↓MG_u, ↓NG_u, ↓PG_u, ↓BG_u, ↓CG_u, ↓IG_u, ↓VGtt, ↓VGtf, ↓VGft, ↓VGff, ↓UGtt, ↓UGtf, ↓UGft, ↓UGff, ↓MGtt, ↓MGtf, ↓MGft, ↓MGff, ↓NGtt, ↓NGtf, ↓NGft, ↓NGff, ↓PGtt, ↓PGtf, ↓PGft, ↓PGff, ↓BGtt, ↓BGtf, ↓BGft, ↓BGff, ↓CGtt, ↓CGtf, ↓CGft, ↓CGff, ↓IGtt, ↓IGtf, ↓IGft, ↓IGff, ↓PKt, ↓PKf, ↓CDt, ↓CDf, ↓NOTt, ↓NOTf, ↓NK_ptr]
      refine CK_st Try.func18 rfl rfl (Waiting_ok (g10.calm k11).pa hL3 0) ?_
      rintro mw x12 ⟨ow, k12⟩
      obtain ⟨A5, c5, es5, _⟩ := reads_cap (reads_of_owns ow)
      try simp only [↓VG_u, ↓UG_u, ↓MG_u, ↓NG_u, ↓PG_u, ↓BG_u, ↓CG_u, ↓IG_u, ↓VGtt, ↓VGtf, ↓VGft, ↓VGff, ↓UGtt, ↓UGtf, ↓UGft, ↓UGff, ↓MGtt, ↓MGtf, ↓MGft, ↓MGff, ↓NGtt, ↓NGtf, ↓NGft, ↓NGff, ↓PGtt, ↓PGtf, ↓PGft, ↓PGff, ↓BGtt, ↓BGtf, ↓BGft, ↓BGff, ↓CGtt, ↓CGtf, ↓CGft, ↓CGff, ↓IGtt, ↓IGtf, ↓IGft, ↓IGff, ↓PKt, ↓PKf, ↓CDt, ↓CDf, ↓NOTt, ↓NOTf, ↓NK_ptr]
      rw [es5, len_sl vRcS, a12, show ((1 : Nat) : Int) = 1 from rfl, EQt rfl]
      try simp only [↓VG_u, ↓UG_u, ↓MG_u, ↓NG_u, ↓PG_u, ↓BG_u, ↓CG_u, ↓IG_u, ↓VGtt, ↓VGtf, ↓VGft, ↓VGff, ↓UGtt, ↓UGtf, ↓UGft, ↓UGff, ↓MGtt, ↓MGtf, ↓MGft, ↓MGff, ↓NGtt, ↓NGtf, ↓NGft, ↓NGff, ↓PGtt, ↓PGtf, ↓PGft, ↓PGff, ↓BGtt, ↓BGtf, ↓BGft, ↓BGff, ↓CGtt, ↓CGtf, ↓CGft, ↓CGff, ↓IGtt, ↓IGtf, ↓IGft, ↓IGff, ↓PKt, ↓PKf, ↓CDt, ↓CDf, ↓NOTt, ↓NOTf, ↓NK_ptr]
      exact ⟨rfl, (g10.mod.trans k11).trans k12⟩
    exact key2 _ (by first | exact q1 | rfl) (by first | exact q2 | rfl) rfl rfl rfl rfl rfl
  exact key _ rfl rfl
end Go.Proofs.Ytmnkedgmpbcicaa.Que
set_option linter.unusedVariables false
set_option linter.unusedSimpArgs false
set_option maxRecDepth 8000
namespace Go.X
open Go Go.RowKit
structure Bc where
  kind : Int
  m : Ms
  r : Rc
def Bc.enc (a : Bc) : List Value := .int .u8 a.kind :: (a.m.enc ++ a.r.enc)
theorem Bc.enc_len (a : Bc) : a.enc.length = 17 + 1 := rfl
def Bcts (w : World) (v : Value) (l : List Bc) : Prop := reads w (17 + 1) v l.length (l.flatMap Bc.enc)
def greatB (l : List Bc) : Bool := decide (120 < l.length) || l.any fun a => decide (100 < a.m.key.length) || decide (100 < a.r.key.length)
end Go.X
namespace Go.Proofs.Ytmnkedgmpbcicaa.Que
open Go Go.X Go.RowKit Go.Proofs.Ytmnkedgmpbcicaa.XF Go.Proofs.Ytmnkedgmpbcicaa.XG Go.Proofs.Ytmnkedgmpbcicaa.XK
abbrev tBcs : TypeId := 22
abbrev tBc : TypeId := 48
theorem vBcs : Try.prog.underlying tBcs = some (.slice tBc) := by kernel_rfl
theorem cBc : Try.prog.cellsOf tBc = 17 + 1 := by kernel_rfl
theorem ixBc {w : World} {s : Value} {l : List Bc} {i : Nat} {n : Int} {e : Bc} {K : Value → World → Prop} (h : Bcts w s l) (hi : l[i]? = some e) (hn : n = (i : Int)) (hk : ∀ a, (∀ j u, e.enc[j]? = some u → w.cell? (a.add j) = some u) → K (.pointer (some a)) w) :
    VK Try.prog (Instr.indexAt tBcs s (.int .i64 n)) w K := by
  subst hn
  have hlt : i < l.length := (List.getElem?_eq_some_iff.1 hi).1
  refine ixat vBcs cBc h (by omega) (by omega) fun a ha _ => hk a fun j u hu => ?_
  have hj : j < 17 + 1 := (List.getElem?_eq_some_iff.1 hu).1
  refine ha j u hj ?_
  rw [show ((i : Int).toNat) = i by omega, fl_get (k := 17 + 1) Bc.enc_len hi hj]
  exact hu
theorem ldBc {w : World} {s : Value} {l : List Bc} {i : Nat} {n : Int} {e : Bc} {K : Value → Value → World → Prop} (h : Bcts w s l) (hi : l[i]? = some e) (hn : n = (i : Int)) (hk : ∀ x, K x (.agg e.enc.toArray) w) :
    VK Try.prog (Instr.indexAt tBcs s (.int .i64 n)) w fun x w => VK Try.prog (Instr.loadAt tBc x) w (K x) := by
  subst hn
  have hlt : i < l.length := (List.getElem?_eq_some_iff.1 hi).1
  refine ixldA vBcs cBc Try.underlying48 rfl h (by omega) (by omega) fun x => ?_
  rw [show ((i : Int).toNat) = i by omega, fl_drop (k := 17 + 1) Bc.enc_len hi]
  exact hk x
theorem Bcts.calm {w w' : World} {s : Value} {l : List Bc} (h : Bcts w s l) (hm : Mod none_ w w') : Bcts w' s l := reads_mod h hm fun _ _ _ => id
theorem GreatB_ok {w : World} {v : Value} {l : List Bc} (h : Bcts w v l) : Rt Try.prog 11 #[v] w fun u w' => u = .bool (greatB l) ∧ w' = w := by
  refine dispatcherlaw14_Great_calls ?_
  unfold dispatcherlaw14_Great_F
  obtain ⟨A, c, es, _⟩ := reads_cap h
  rw [es, len_sl vBcs, ← es, BK_gtr]
  unfold greatB
  by_cases hl : 120 < l.length
  · rw [decide_eq_true (by omega), decide_eq_true hl]
    exact condT ⟨rfl, rfl⟩
  · rw [decide_eq_false (by omega), decide_eq_false hl]
    refine condF ?_
    refine W_loop dispatcherlaw14_Great_L0_ok (fun ρ w' => ∃ i : Nat, i ≤ l.length ∧ ρ 3 = .int .i64 i ∧ ρ 0 = v ∧ (∀ a ∈ l.take i, ¬ 100 < a.m.key.length ∧ ¬ 100 < a.r.key.length) ∧ w' = w) (fun ρ _ => l.length - (intOf (ρ 3)).toNat)
      ⟨0, Nat.zero_le _, rfl, rfl, by simp, rfl⟩ ?_
    rintro ρ w1 ⟨i, hi, e3, e0, hno, rfl⟩
    rw [dispatcherlaw14_Great_L0_eq]; unfold dispatcherlaw14_Great_L0_F
    rw [e3, e0, es, len_sl vBcs, ← es, BK_lss]
    by_cases hlt : i < l.length
    · rw [decide_eq_true (by omega)]
      refine condT ?_
      have hx : l[i]? = some l[i] := List.getElem?_eq_getElem hlt
      have hmem : l[i] ∈ l := List.getElem_mem hlt
      have etk : l.take (i + 1) = l.take i ++ [l[i]] := by rw [List.take_add_one, hx]; rfl
      generalize l[i] = x at *
      refine ixBc h hx rfl fun a ha => ?_
      rw [fo (show fieldOff Try.prog tBc 1 = some 1 by kernel_rfl), fo (show fieldOff Try.prog tMs 0 = some 0 by kernel_rfl), add_add]
      refine ld1 vS rfl (ha 1 (strV x.m.key) rfl) ?_
      unfold strV
      rw [len_str vS, BK_gtr]
      have hsz : (⟨x.m.key.toArray⟩ : ByteArray).size = x.m.key.length := by simp [ByteArray.size]
      have hsz2 : (⟨x.r.key.toArray⟩ : ByteArray).size = x.r.key.length := by simp [ByteArray.size]
      rw [hsz]
      by_cases hk : 100 < x.m.key.length
      · rw [decide_eq_true (show (100 : Int) < (x.m.key.length : Nat) by omega)]
        try simp only [↓VG_u, ↓UG_u, ↓MG_u, ↓NG_u, ↓PG_u, ↓BG_u, ↓CG_u, ↓IG_u, ↓VGtt, ↓VGtf, ↓VGft, ↓VGff, ↓UGtt, ↓UGtf, ↓UGft, ↓UGff, ↓MGtt, ↓MGtf, ↓MGft, ↓MGff, ↓NGtt, ↓NGtf, ↓NGft, ↓NGff, ↓PGtt, ↓PGtf, ↓PGft, ↓PGff, ↓BGtt, ↓BGtf, ↓BGft, ↓BGff, ↓CGtt, ↓CGtf, ↓CGft, ↓CGff, ↓IGtt, ↓IGtf, ↓IGft, ↓IGff, ↓PKt, ↓PKf, ↓CDt, ↓CDf, ↓NOTt, ↓NOTf, ↓NK_ptr]
        refine ⟨?_, by trivial⟩
        rw [List.any_eq_true.2 ⟨x, hmem, by rw [decide_eq_true hk]; rfl⟩]
        first | rfl | simp
      · rw [decide_eq_false (show ¬ (100 : Int) < (x.m.key.length : Nat) by omega)]
        try simp only [↓VG_u, ↓UG_u, ↓MG_u, ↓NG_u, ↓PG_u, ↓BG_u, ↓CG_u, ↓IG_u, ↓VGtt, ↓VGtf, ↓VGft, ↓VGff, ↓UGtt, ↓UGtf, ↓UGft, ↓UGff, ↓MGtt, ↓MGtf, ↓MGft, ↓MGff, ↓NGtt, ↓NGtf, ↓NGft, ↓NGff, ↓PGtt, ↓PGtf, ↓PGft, ↓PGff, ↓BGtt, ↓BGtf, ↓BGft, ↓BGff, ↓CGtt, ↓CGtf, ↓CGft, ↓CGff, ↓IGtt, ↓IGtf, ↓IGft, ↓IGff, ↓PKt, ↓PKf, ↓CDt, ↓CDf, ↓NOTt, ↓NOTf, ↓NK_ptr]
        refine ixBc h hx rfl fun a2 ha2 => ?_
        try simp only [↓VG_u, ↓UG_u, ↓MG_u, ↓NG_u, ↓PG_u, ↓BG_u, ↓CG_u, ↓IG_u, ↓VGtt, ↓VGtf, ↓VGft, ↓VGff, ↓UGtt, ↓UGtf, ↓UGft, ↓UGff, ↓MGtt, ↓MGtf, ↓MGft, ↓MGff, ↓NGtt, ↓NGtf, ↓NGft, ↓NGff, ↓PGtt, ↓PGtf, ↓PGft, ↓PGff, ↓BGtt, ↓BGtf, ↓BGft, ↓BGff, ↓CGtt, ↓CGtf, ↓CGft, ↓CGff, ↓IGtt, ↓IGtf, ↓IGft, ↓IGff, ↓PKt, ↓PKf, ↓CDt, ↓CDf, ↓NOTt, ↓NOTf, ↓NK_ptr]
        rw [fo (show fieldOff Try.prog tBc 2 = some 9 by kernel_rfl)]
        try simp only [↓VG_u, ↓UG_u, ↓MG_u, ↓NG_u, ↓PG_u, ↓BG_u, ↓CG_u, ↓IG_u, ↓VGtt, ↓VGtf, ↓VGft, ↓VGff, ↓UGtt, ↓UGtf, ↓UGft, ↓UGff, ↓MGtt, ↓MGtf, ↓MGft, ↓MGff, ↓NGtt, ↓NGtf, ↓NGft, ↓NGff, ↓PGtt, ↓PGtf, ↓PGft, ↓PGff, ↓BGtt, ↓BGtf, ↓BGft, ↓BGff, ↓CGtt, ↓CGtf, ↓CGft, ↓CGff, ↓IGtt, ↓IGtf, ↓IGft, ↓IGff, ↓PKt, ↓PKf, ↓CDt, ↓CDf, ↓NOTt, ↓NOTf, ↓NK_ptr]
        rw [fo (show fieldOff Try.prog tRc 0 = some 0 by kernel_rfl), add_add]
        try simp only [↓VG_u, ↓UG_u, ↓MG_u, ↓NG_u, ↓PG_u, ↓BG_u, ↓CG_u, ↓IG_u, ↓VGtt, ↓VGtf, ↓VGft, ↓VGff, ↓UGtt, ↓UGtf, ↓UGft, ↓UGff, ↓MGtt, ↓MGtf, ↓MGft, ↓MGff, ↓NGtt, ↓NGtf, ↓NGft, ↓NGff, ↓PGtt, ↓PGtf, ↓PGft, ↓PGff, ↓BGtt, ↓BGtf, ↓BGft, ↓BGff, ↓CGtt, ↓CGtf, ↓CGft, ↓CGff, ↓IGtt, ↓IGtf, ↓IGft, ↓IGff, ↓PKt, ↓PKf, ↓CDt, ↓CDf, ↓NOTt, ↓NOTf, ↓NK_ptr]
        refine ld1 vS rfl (ha2 9 (strV x.r.key) rfl) ?_
        unfold strV
        try simp only [↓VG_u, ↓UG_u, ↓MG_u, ↓NG_u, ↓PG_u, ↓BG_u, ↓CG_u, ↓IG_u, ↓VGtt, ↓VGtf, ↓VGft, ↓VGff, ↓UGtt, ↓UGtf, ↓UGft, ↓UGff, ↓MGtt, ↓MGtf, ↓MGft, ↓MGff, ↓NGtt, ↓NGtf, ↓NGft, ↓NGff, ↓PGtt, ↓PGtf, ↓PGft, ↓PGff, ↓BGtt, ↓BGtf, ↓BGft, ↓BGff, ↓CGtt, ↓CGtf, ↓CGft, ↓CGff, ↓IGtt, ↓IGtf, ↓IGft, ↓IGff, ↓PKt, ↓PKf, ↓CDt, ↓CDf, ↓NOTt, ↓NOTf, ↓NK_ptr]
        rw [len_str vS]
        try simp only [↓VG_u, ↓UG_u, ↓MG_u, ↓NG_u, ↓PG_u, ↓BG_u, ↓CG_u, ↓IG_u, ↓VGtt, ↓VGtf, ↓VGft, ↓VGff, ↓UGtt, ↓UGtf, ↓UGft, ↓UGff, ↓MGtt, ↓MGtf, ↓MGft, ↓MGff, ↓NGtt, ↓NGtf, ↓NGft, ↓NGff, ↓PGtt, ↓PGtf, ↓PGft, ↓PGff, ↓BGtt, ↓BGtf, ↓BGft, ↓BGff, ↓CGtt, ↓CGtf, ↓CGft, ↓CGff, ↓IGtt, ↓IGtf, ↓IGft, ↓IGff, ↓PKt, ↓PKf, ↓CDt, ↓CDf, ↓NOTt, ↓NOTf, ↓NK_ptr]
        rw [BK_gtr, hsz2]
        try simp only [↓VG_u, ↓UG_u, ↓MG_u, ↓NG_u, ↓PG_u, ↓BG_u, ↓CG_u, ↓IG_u, ↓VGtt, ↓VGtf, ↓VGft, ↓VGff, ↓UGtt, ↓UGtf, ↓UGft, ↓UGff, ↓MGtt, ↓MGtf, ↓MGft, ↓MGff, ↓NGtt, ↓NGtf, ↓NGft, ↓NGff, ↓PGtt, ↓PGtf, ↓PGft, ↓PGff, ↓BGtt, ↓BGtf, ↓BGft, ↓BGff, ↓CGtt, ↓CGtf, ↓CGft, ↓CGff, ↓IGtt, ↓IGtf, ↓IGft, ↓IGff, ↓PKt, ↓PKf, ↓CDt, ↓CDf, ↓NOTt, ↓NOTf, ↓NK_ptr]
        by_cases hk2 : 100 < x.r.key.length
        · rw [decide_eq_true (show (100 : Int) < (x.r.key.length : Nat) by omega)]
          refine condT ⟨?_, rfl⟩
          rw [List.any_eq_true.2 ⟨x, hmem, by rw [decide_eq_true hk2, Bool.or_true]⟩]; rfl
        · rw [decide_eq_false (show ¬ (100 : Int) < (x.r.key.length : Nat) by omega)]
          refine condF ?_
          rw [BK_add, wrap_i (by omega) (by omega)]
          refine ⟨⟨i + 1, hlt, rfl, by first | rfl | exact e0, ?_, rfl⟩, ?_⟩
          · rw [etk]
            intro a q
            rcases List.mem_append.1 q with q | q
            · exact hno a q
            · rw [List.mem_singleton.1 q]; exact ⟨hk, hk2⟩
          · simp only [sq_n, sq_x, sq_r, bk_n, bk_r, bk_x, rt_r, rt_n, rs_0, rs_t, pk_1, pk_2, up_at, reduceIte, Nat.reduceEqDiff, intOf]; omega
    · obtain rfl : i = l.length := by omega
      rw [decide_eq_false (by omega)]
      refine condF ?_
      rw [sq_x, bk_x, sq_n, dispatcherlaw14_Great_R1_eq]; unfold dispatcherlaw14_Great_R1_F
      refine ⟨?_, rfl⟩
      rw [List.take_length] at hno
      have : (l.any fun a => decide (100 < a.m.key.length) || decide (100 < a.r.key.length)) = false := List.any_eq_false.2 fun a ha => by have := hno a ha; simp only [Bool.or_eq_true, decide_eq_true_eq, not_or]; exact this
      rw [this]; rfl
inductive StepQ (R : Rks) (ls : List Ms) : Rks → List Ms → Prop
  | none : StepQ R ls R ls
  | send (m : Ms) : StepQ R ls R (sendV ls m).1
  | post (r : Rc) : StepQ R ls (postV R r).1 ls
  | mtch (rk c f s : Int) : StepQ R ls (matchV R ls rk c f s).1.1 (matchV R ls rk c f s).1.2
structure MFr (q p : Nat) (w : World) (V : QV) (vs : List Value) (w' : World) (V' : QV) (vs' : List Value) : Prop where
  mod : Mod (fun b => V.F q b ∨ PF p vs b) w w'
  f : ∀ b, V'.F q b ∨ PF p vs' b → (V.F q b ∨ PF p vs b) ∨ w.heap.size ≤ b
theorem MFr.calm {q p : Nat} {w w' : World} {V : QV} {vs : List Value} (h : Mod none_ w w') : MFr q p w V vs w' V vs := ⟨h.mono fun _ _ q => q.elim, fun _ q => .inl q⟩
theorem MFr.trans {q p : Nat} {w w1 w2 : World} {V V1 V2 : QV} {vs vs1 vs2 : List Value} (h : MFr q p w V vs w1 V1 vs1) (k : MFr q p w1 V1 vs1 w2 V2 vs2) : MFr q p w V vs w2 V2 vs2 := by
  have hs := h.mod.size
  refine ⟨h.mod.then k.mod fun i hi z => ?_, fun b z => ?_⟩
  · rcases h.f i z with y | y
    · exact y
    · omega
  · rcases k.f b z with y | y
    · exact h.f b y
    · right; omega
theorem MFr.q {q p : Nat} {w w1 : World} {V V1 : QV} {vs : List Value} (h : QFr q w V w1 V1) : MFr q p w V vs w1 V1 vs := ⟨h.mod.mono fun b _ z => .inl z, fun b z => by
  rcases z with z | z
  · rcases h.f b z with y | y
    · exact .inl (.inl y)
    · exact .inr y
  · exact .inl (.inr z)⟩
theorem MFr.p {q p : Nat} {w w1 : World} {V : QV} {vs vs1 : List Value} (h : PFr p w vs w1 vs1) : MFr q p w V vs w1 V vs1 := ⟨h.mod.mono fun b _ z => .inr z, fun b z => by
  rcases z with z | z
  · exact .inl (.inl z)
  · rcases h.f b z with y | y
    · exact .inl (.inr y)
    · exact .inr y⟩
theorem MFr.m {q p : Nat} {w w1 : World} {V : QV} {vs : List Value} (h : Mod (fun b => V.F q b ∨ PF p vs b) w w1) : MFr q p w V vs w1 V vs := ⟨h, fun b z => .inl z⟩
structure Beside (q p : Nat) (V : QV) (vs : List Value) (w : World) (o : Value) : Prop where
  ap : ∀ g, sb o g → ¬ (V.F q g ∨ PF p vs g)
  old : ∀ g, sb o g → g < w.heap.size
theorem Beside.on {q p : Nat} {w w1 : World} {V V1 : QV} {vs vs1 : List Value} {o : Value} (h : Beside q p V vs w o) (k : MFr q p w V vs w1 V1 vs1) : Beside q p V1 vs1 w1 o := by
  have hs := k.mod.size
  refine ⟨fun g z y => ?_, fun g z => by have := h.old g z; omega⟩
  rcases k.f g y with u | u
  · exact h.ap g z u
  · have := h.old g z; omega
theorem Beside.keep {q p : Nat} {w w1 : World} {V V1 : QV} {vs vs1 : List Value} {o : Value} {B n sz : Nat} {e : TypeId} {xs : List Value} (h : Beside q p V vs w o) (k : MFr q p w V vs w1 V1 vs1) (ho : w.ownsRow B e sz o n xs) : w1.ownsRow B e sz o n xs :=
  owns_mod ho k.mod fun g z y => h.ap g z y
theorem Beside.new {w0 w w1 : World} {q p : Nat} {V : QV} {vs : List Value} {ls : List Ms} {R : Rks} {o : Value} {n sz : Nat} {e : TypeId} {xs : List Value} (h : PP w0 w q p ls V R vs) (ho : w1.ownsRow w.heap.size e sz o n xs) : Beside q p V vs w1 o := by
  refine ⟨fun g z y => ?_, fun g z => (owns_bd ho g z).2⟩
  have := (owns_bd ho g z).1
  rcases y with y | y
  · have := h.qa.old g y; omega
  · have := h.pa.old g y; omega
end Go.Proofs.Ytmnkedgmpbcicaa.Que
set_option linter.unusedVariables false
set_option linter.unusedSimpArgs false
set_option maxRecDepth 8000
namespace Go.Proofs.Ytmnkedgmpbcicaa.Que
open Go Go.X Go.RowKit Go.Proofs.Ytmnkedgmpbcicaa.XF Go.Proofs.Ytmnkedgmpbcicaa.XG Go.Proofs.Ytmnkedgmpbcicaa.XK
theorem vU8 : Try.prog.underlying 5 = some (.int .u8) := by kernel_rfl
abbrev ActP (w0 w : World) (q p : Nat) (ls : List Ms) (V : QV) (R : Rks) (vs : List Value) : Value → World → Prop := fun v w' => ∃ R' ls' V' vs', StepQ R ls R' ls' ∧ PP w0 w' q p ls' V' R' vs' ∧ MFr q p w V vs w' V' vs'
theorem pick_ix (c : Int) {L : Nat} (h0 : 0 < L) (h1 : L ≤ 64) : ∃ k : Nat, k < L ∧ IntKind.i64.wrap ((IntKind.u64.wrap c).tmod (IntKind.u64.wrap (L : Int))) = (k : Int) := by
  have e1 : IntKind.u64.wrap (L : Int) = (L : Int) := by rw [IntKind.wrap_u64]; omega
  have e2 : 0 ≤ IntKind.u64.wrap c := by rw [IntKind.wrap_u64]; omega
  rw [e1, Int.tmod_eq_emod_of_nonneg e2]
  generalize IntKind.u64.wrap c = u at *
  have h3 : 0 ≤ u % (L : Int) := Int.emod_nonneg _ (by omega)
  have h4 : u % (L : Int) < L := Int.emod_lt_of_pos _ (by omega)
  refine ⟨(u % (L : Int)).toNat, by omega, ?_⟩
  rw [wrap_i (by omega) (by omega)]
  omega
section
variable {w0 w : World} {q p : Nat} {ls : List Ms} {V : QV} {R : Rks} {vs : List Value}
theorem act_R2 {K : Exit → Sl → World → Prop} {ρ : Sl} {b5 b8 : Nat} {a : Bc} {m : Ms} (h : PP w0 w q p ls V R vs) (hlen : ∀ i, (R i).length ≤ 900000) (hg : FrmOk ls) (hL : ls.length ≤ 400000)
    (h5 : w.heap[b5]? = some (.cells a.enc.toArray tBc (0, 0))) (h8 : w.heap[b8]? = some (.cells m.enc.toArray tMs (0, 0))) (n5 : ¬ (V.F q b5 ∨ PF p vs b5))
    (e5 : ρ 5 = .pointer (some ⟨b5, 0, none⟩)) (e8 : ρ 8 = .pointer (some ⟨b8, 0, none⟩)) (e0 : ρ 0 = .pointer (some ⟨q, 0, none⟩)) (e1 : ρ 1 = .pointer (some ⟨p, 0, none⟩))
    (hk : ∀ (e : Exit) (ρ' : Sl) (w' : World), (e = .normal ∨ e = .ret) → ActP w0 w q p ls V R vs undef w' → K e ρ' w') : sx fn_ Try.prog 66 dispatcherlaw14_act_R2 K ρ w := by
  rw [dispatcherlaw14_act_R2_eq]; unfold dispatcherlaw14_act_R2_F
  rw [e5, e8, e0, e1, fo (show fieldOff Try.prog tBc 2 = some 9 by kernel_rfl), fo (show fieldOff Try.prog tRc 1 = some 1 by kernel_rfl), add_pl, add_pl]
  refine ld1 vI rfl (v := .int .i64 a.r.rank) (by rw [cell_blk h5]; rfl) ?_
  rw [fo (show fieldOff Try.prog tBc 2 = some 9 by kernel_rfl), fo (show fieldOff Try.prog tRc 2 = some 2 by kernel_rfl), add_pl, add_pl]
  refine ld1 vI rfl (v := .int .i64 a.r.call) (by rw [cell_blk h5]; rfl) ?_
  rw [fo (show fieldOff Try.prog tMs 1 = some 1 by kernel_rfl), add_pl]
  refine ld1 vI rfl (v := .int .i64 m.frm) (by rw [cell_blk h8]; rfl) ?_
  rw [fo (show fieldOff Try.prog tMs 3 = some 3 by kernel_rfl), add_pl]
  refine ld1 vI rfl (v := .int .i64 m.call) (by rw [cell_blk h8]; rfl) ?_
  refine CK_st Try.func17 rfl rfl (Match_ok h (fun i => by have := hlen i; omega) hg (by omega) a.r.rank a.r.call m.frm m.call) ?_
  rintro _ w1 ⟨rfl, h1, hm1⟩
  have hA : ActP w0 w q p ls V R vs undef w1 := ⟨_, _, V, vs, .mtch a.r.rank a.r.call m.frm m.call, h1, MFr.m hm1⟩
  rw [BK_eql]
  refine caseC (fun z => ?_) (fun z => ?_)
  · have h5' := hm1.blk h5 n5
    rw [fo (show fieldOff Try.prog tBc 2 = some 9 by kernel_rfl), fo (show fieldOff Try.prog tRc 2 = some 2 by kernel_rfl), add_pl, add_pl]
    refine ld1 vI rfl (v := .int .i64 a.r.call) (by rw [cell_blk h5']; rfl) ?_
    exact hk _ _ w1 (.inr rfl) hA
  · exact hk _ _ w1 (.inl rfl) hA
theorem act_R1 {K : Exit → Sl → World → Prop} {ρ : Sl} {b5 : Nat} {a : Bc} {b : Bool} {kd : Int} (h : PP w0 w q p ls V R vs) (hlen : ∀ i, (R i).length ≤ 900000) (hg : FrmOk ls) (hL : ls.length ≤ 400000)
    (h5 : w.heap[b5]? = some (.cells a.enc.toArray tBc (0, 0))) (n5 : ¬ (V.F q b5 ∨ PF p vs b5)) (e53 : ρ 53 = .bool b) (e11 : ρ 11 = .int .u8 kd)
    (e5 : ρ 5 = .pointer (some ⟨b5, 0, none⟩)) (e0 : ρ 0 = .pointer (some ⟨q, 0, none⟩)) (e1 : ρ 1 = .pointer (some ⟨p, 0, none⟩))
    (hk : ∀ (e : Exit) (ρ' : Sl) (w' : World), (e = .normal ∨ e = .ret) → ActP w0 w q p ls V R vs undef w' → K e ρ' w') : sx fn_ Try.prog 66 dispatcherlaw14_act_R1 K ρ w := by
  rw [dispatcherlaw14_act_R1_eq]; unfold dispatcherlaw14_act_R1_F
  rw [e53, e11, e5, e0, e1]
  have hcell : ∀ (o : Nat) (cs : List Value) (t : TypeId), (∀ j u, cs[j]? = some u → a.enc[o + j]? = some u) → ∀ j u, cs[j]? = some u → w.cell? (Addr.add ⟨b5, o, none⟩ j) = some u := fun o cs t hc j u hu => by
    rw [add_pl, cell_blk h5]
    have := hc j u hu
    simpa using this
  refine caseC (fun z => ?_) (fun z => ?_)
  · rw [fo (show fieldOff Try.prog tBc 1 = some 1 by kernel_rfl), add_pl]
    refine ldA (cs := a.m.enc) Try.underlying39 rfl (by rw [iMs]; rfl) (hcell _ _ tMs fun j u hu => ?_) ?_
    · show a.enc[0 + 1 + j]? = some u
      unfold Bc.enc
      rw [show 0 + 1 + j = j + 1 by omega, List.getElem?_cons_succ, List.getElem?_append_left (List.getElem?_eq_some_iff.1 hu).1]
      exact hu
    refine CK_st Try.func25 rfl rfl (Send_ok h.qa (by omega) a.m) ?_
    rintro _ w1 ⟨_, V1, h1, f1⟩
    exact hk _ _ w1 (.inl rfl) ⟨_, _, V1, vs, .send a.m, h.onQ h1 f1, MFr.q f1⟩
  · rw [BK_eql]
    refine caseC (fun z2 => ?_) (fun z2 => ?_)
    · rw [fo (show fieldOff Try.prog tBc 2 = some 9 by kernel_rfl), add_pl]
      refine ldA (cs := a.r.enc) Try.underlying24 rfl (by rw [iRc]; rfl) (hcell _ _ tRc fun j u hu => ?_) ?_
      · show a.enc[0 + 9 + j]? = some u
        unfold Bc.enc
        rw [show 0 + 9 + j = (8 + j) + 1 by omega, List.getElem?_cons_succ, List.getElem?_append_right (by rw [Ms.enc_len]; omega), Ms.enc_len, show 8 + j - 8 = j by omega]
        exact hu
      refine CK_st Try.func14 rfl rfl (Post_ok h.pa (fun i => by have := hlen i; omega) a.r) ?_
      rintro _ w1 ⟨_, vs1, h1, f1⟩
      exact hk _ _ w1 (.inl rfl) ⟨_, _, V, vs1, .post a.r, h.onP h1 f1, MFr.p f1⟩
    · rw [fo (show fieldOff Try.prog tBc 2 = some 9 by kernel_rfl), fo (show fieldOff Try.prog tRc 1 = some 1 by kernel_rfl), add_pl, add_pl]
      refine ld1 vI rfl (v := .int .i64 a.r.rank) (by rw [cell_blk h5]; rfl) ?_
      rw [fo (show fieldOff Try.prog tBc 2 = some 9 by kernel_rfl), fo (show fieldOff Try.prog tRc 2 = some 2 by kernel_rfl), add_pl, add_pl]
      refine ld1 vI rfl (v := .int .i64 a.r.call) (by rw [cell_blk h5]; rfl) ?_
      refine CK_st Try.func16 rfl rfl (May_ok h.pa (fun i => by have := hlen i; omega) h.qa hg (by omega) a.r.rank a.r.call) ?_
      rintro vm w1 ⟨ho, hm1⟩
      have hml := may_len R ls a.r.rank a.r.call
      have hnone : ActP w0 w q p ls V R vs undef w1 := ⟨R, ls, V, vs, .none, h.calm hm1, MFr.calm hm1⟩
      generalize mayV R ls a.r.rank a.r.call = L at *
      obtain ⟨A, c, es, _⟩ := reads_cap (reads_of_owns ho)
      rw [es, len_sl vMsS, ← es, BK_gtr]
      have h51 := hm1.blk h5 id
      by_cases hpos : 0 < L.length
      · rw [decide_eq_true (by omega)]
        refine condT ?_
        rw [fo (show fieldOff Try.prog tBc 1 = some 1 by kernel_rfl), fo (show fieldOff Try.prog tMs 3 = some 3 by kernel_rfl), add_pl, add_pl]
        refine ld1 vI rfl (v := .int .i64 a.m.call) (by rw [cell_blk h51]; rfl) ?_
        rw [conv_k (k := .u64) (by kernel_rfl) (by kernel_rfl), es, len_sl vMsS, ← es, conv_k (k := .u64) (by kernel_rfl) (by kernel_rfl), BK_rem (by rw [IntKind.wrap_u64]; omega), conv_k (k := .i64) (by kernel_rfl) (by kernel_rfl)]
        obtain ⟨k, hkl, ek⟩ := pick_ix a.m.call hpos hml
        rw [ek]
        have hx : L[k]? = some L[k] := List.getElem?_eq_getElem hkl
        refine ixMs (reads_of_owns ho) hx rfl fun _ => ?_
        refine slot_k fun w2 hb2 hm2 hz2 => ?_
        have hm02 := hm1.trans hm2
        refine act_R2 (a := a) (m := L[k]) (h.calm hm02) hlen hg hL (hm02.blk h5 id) hb2 n5 (by first | exact e5 | rfl) rfl (by first | exact e0 | rfl) (by first | exact e1 | rfl) ?_
        rintro e ρ' w' he ⟨R', ls', V', vs', hst, hP, hM⟩
        exact hk e ρ' w' he ⟨R', ls', V', vs', hst, hP, (MFr.calm hm02).trans hM⟩
      · rw [decide_eq_false (by omega)]
        refine condF ?_
        exact hk _ _ w1 (.inl rfl) hnone
theorem act_ok (h : PP w0 w q p ls V R vs) (hlen : ∀ i, (R i).length ≤ 900000) (hg : FrmOk ls) (hL : ls.length ≤ 400000) (a : Bc) : Rt Try.prog 20 #[.pointer (some ⟨q, 0, none⟩), .pointer (some ⟨p, 0, none⟩), .agg a.enc.toArray] w (ActP w0 w q p ls V R vs) := by
  refine dispatcherlaw14_act_calls ?_
  unfold dispatcherlaw14_act_F
  refine box_k (cs := a.enc.toArray) rfl fun w1 hb1 hm1 hz1 => ?_
  have h1 := h.calm hm1
  have n1 : ¬ (V.F q w.heap.size ∨ PF p vs w.heap.size) := by
    rintro (z | z)
    · have := h.qa.old _ z; omega
    · have := h.pa.old _ z; omega
  have g0 : FO Try.prog w1 tBc 0 0 ⟨w.heap.size, 0, none⟩ 5 (.int .u8 a.kind) := FO.blk hb1 (by kernel_rfl) vU8 rfl rfl
  rw [g0.e, BK_rem (by decide), BK_eql]
  have fin : ∀ (e : Exit) (ρ' : Sl) (w' : World), (e = .normal ∨ e = .ret) → ActP w0 w1 q p ls V R vs undef w' → blkK 0 (seqK (sx fn_ Try.prog 66 dispatcherlaw14_act_R0 (retK Try.prog [ResultVar.tmp 6] (ActP w0 w q p ls V R vs))) (retK Try.prog [ResultVar.tmp 6] (ActP w0 w q p ls V R vs))) e ρ' w' := by
    rintro e ρ' w' he ⟨R', ls', V', vs', hst, hP, hM⟩
    have hfin : ∀ u, ActP w0 w q p ls V R vs u w' := fun u => ⟨R', ls', V', vs', hst, hP, (MFr.calm hm1).trans hM⟩
    rcases he with rfl | rfl
    · rw [bk_n, sq_n, dispatcherlaw14_act_R0_eq]; unfold dispatcherlaw14_act_R0_F
      exact hfin undef
    · exact hfin undef
  refine caseC (fun z => ?_) (fun z => ?_)
  · exact act_R1 (a := a) h1 hlen hg hL hb1 n1 (by first | rfl | exact congrArg Value.bool z) rfl rfl rfl rfl fin
  · rw [BK_eql]
    exact act_R1 (a := a) h1 hlen hg hL hb1 n1 rfl rfl rfl rfl rfl fin
end
end Go.Proofs.Ytmnkedgmpbcicaa.Que
set_option linter.unusedVariables false
set_option linter.unusedSimpArgs false
set_option maxRecDepth 8000
namespace Go.Proofs.Ytmnkedgmpbcicaa.Que
open Go Go.X Go.RowKit Go.Proofs.Ytmnkedgmpbcicaa.XF Go.Proofs.Ytmnkedgmpbcicaa.XG Go.Proofs.Ytmnkedgmpbcicaa.XK
structure OkQ (R : Rks) (ls : List Ms) : Prop where
  frm : FrmOk ls
  asc : ∀ i, (R i).Pairwise fun a b => a.call < b.call
  rk : ∀ i r, r ∈ R i → r.rank = (i : Int)
theorem OkQ.nil : OkQ (fun _ => []) [] := ⟨FrmOk.nil, fun _ => List.Pairwise.nil, fun _ _ h => by cases h⟩
theorem bad_no {r : Rc} {l : List Rc} (h : badR r l = false) : (0 ≤ r.rank ∧ r.rank ≤ 63) ∧ ∀ x, l.getLast? = some x → x.call < r.call := by
  unfold badR at h
  simp only [Bool.or_eq_false_iff, Bool.not_eq_false', Bool.and_eq_true, decide_eq_true_eq] at h
  refine ⟨h.1.1.1.1.1, fun x hx => ?_⟩
  have := h.2
  rw [hx] at this
  have := of_decide_eq_false this
  omega
theorem asc_snoc {l : List Rc} (h : l.Pairwise fun a b => a.call < b.call) {r : Rc} (hl : ∀ x, l.getLast? = some x → x.call < r.call) : (l ++ [r]).Pairwise fun a b => a.call < b.call := by
  rw [List.pairwise_append]
  refine ⟨h, List.pairwise_singleton _ _, fun a ha b hb => ?_⟩
  rw [List.mem_singleton.1 hb]
  have hne : l ≠ [] := by intro z; subst z; cases ha
  have hlast := hl _ (List.getLast?_eq_some_getLast hne)
  rcases (List.pairwise_iff_getElem.1 h) with hp
  obtain ⟨i, hi, rfl⟩ := List.mem_iff_getElem.1 ha
  rw [List.getLast_eq_getElem] at hlast
  by_cases e : i = l.length - 1
  · subst e; exact hlast
  · have := hp i (l.length - 1) hi (by omega) (by omega)
    omega
theorem asc_set {l : List Rc} (h : l.Pairwise fun a b => a.call < b.call) {j : Nat} {r : Rc} (hj : l[j]? = some r) (f s : Int) : (l.set j (r.got f s)).Pairwise fun a b => a.call < b.call := by
  have hjl := (List.getElem?_eq_some_iff.1 hj).1
  have hjr := (List.getElem?_eq_some_iff.1 hj).2
  rw [List.pairwise_iff_getElem] at h ⊢
  have key : ∀ i (hi : i < (l.set j (r.got f s)).length), (l.set j (r.got f s))[i].call = (l[i]'(by simpa using hi)).call := fun i hi => by
    rw [List.getElem_set]
    split
    · rename_i e; subst e; rw [hjr]; rfl
    · rfl
  intro a b ha hb hab
  rw [key, key]
  exact h a b _ _ hab
theorem OkQ.step {R R' : Rks} {ls ls' : List Ms} (h : OkQ R ls) (hs : StepQ R ls R' ls') : OkQ R' ls' := by
  cases hs with
  | none => exact h
  | send m => exact ⟨h.frm.send m, h.asc, h.rk⟩
  | post r =>
    refine ⟨h.frm, fun i => ?_, fun i x hx => ?_⟩
    · unfold postV
      split
      · exact h.asc i
      · rename_i hb
        have hb := bad_no (Bool.eq_false_iff.2 hb)
        dsimp only
        unfold putR
        split
        · rename_i e
          have er : rowP R r.rank = R r.rank.toNat := by unfold rowP; rw [if_pos hb.1]
          rw [er] at hb ⊢
          exact asc_snoc (h.asc _) hb.2
        · exact h.asc i
    · unfold postV at hx
      split at hx
      · exact h.rk i x hx
      · rename_i hb
        have hb := bad_no (Bool.eq_false_iff.2 hb)
        dsimp only at hx
        unfold putR at hx
        split at hx
        · rename_i e
          have er : rowP R r.rank = R r.rank.toNat := by unfold rowP; rw [if_pos hb.1]
          rw [er, ← e] at hx
          rcases List.mem_append.1 hx with z | z
          · exact h.rk i x z
          · rw [List.mem_singleton.1 z]
            show r.rank = _
            omega
        · exact h.rk i x hx
  | mtch rk c f s =>
    have hset : (∀ i, (setV R rk c f s i).Pairwise fun a b => a.call < b.call) ∧ ∀ i r, r ∈ setV R rk c f s i → r.rank = (i : Int) := by
      by_cases hr : 0 ≤ rk ∧ rk ≤ 63
      · have er : rowP R rk = R rk.toNat := by unfold rowP; rw [if_pos hr]
        unfold setV
        rw [er]
        cases hj : (R rk.toNat).findIdx? (isC c) with
        | none => exact ⟨h.asc, h.rk⟩
        | some j =>
          dsimp only
          cases hx : (R rk.toNat)[j]? with
          | none => exact ⟨h.asc, h.rk⟩
          | some r =>
            dsimp only
            unfold putR
            refine ⟨fun i => ?_, fun i x hxm => ?_⟩
            · split
              · exact asc_set (h.asc _) hx f s
              · exact h.asc i
            · split at hxm
              · rename_i e
                rcases List.mem_or_eq_of_mem_set hxm with z | z
                · rw [e]; exact h.rk _ x z
                · rw [z, e]; exact h.rk _ r (List.mem_of_getElem? hx)
              · exact h.rk i x hxm
      · have er : rowP R rk = [] := by unfold rowP; rw [if_neg hr]
        unfold setV
        rw [er]
        exact ⟨h.asc, h.rk⟩
    refine ⟨match_frm h.frm R rk c f s, fun i => ?_, fun i x hx => ?_⟩
    · unfold matchV
      split
      · split
        · exact hset.1 i
        · exact h.asc i
      · exact h.asc i
    · unfold matchV at hx
      split at hx
      · split at hx
        · exact hset.2 i x hx
        · exact h.rk i x hx
      · exact h.rk i x hx
theorem step_len {R R' : Rks} {ls ls' : List Ms} {n : Nat} (hs : StepQ R ls R' ls') (h1 : ∀ i, (R i).length ≤ n) (h2 : ls.length ≤ n) : (∀ i, (R' i).length ≤ n + 1) ∧ ls'.length ≤ n + 1 := by
  cases hs with
  | none => exact ⟨fun i => Nat.le_succ_of_le (h1 i), Nat.le_succ_of_le h2⟩
  | send m => exact ⟨fun i => Nat.le_succ_of_le (h1 i), by have := sendV_len ls m; omega⟩
  | post r => exact ⟨fun i => post_len h1 r i, Nat.le_succ_of_le h2⟩
  | mtch rk c f s => exact ⟨fun i => by rw [match_len]; exact Nat.le_succ_of_le (h1 i), by rw [match_ml]; exact Nat.le_succ_of_le h2⟩
abbrev MadeP (w0 : World) (n : Nat) : Value → World → Prop := fun u w' => ∃ q p ls V R vs, u = .tuple #[.pointer (some ⟨q, 0, none⟩), .pointer (some ⟨p, 0, none⟩)] ∧ PP w0 w' q p ls V R vs ∧ OkQ R ls ∧ (∀ i, (R i).length ≤ n) ∧ ls.length ≤ n
theorem made_ok {w : World} {v : Value} {l : List Bc} (h : Bcts w v l) (hl : l.length ≤ 200) : Rt Try.prog 12 #[v] w (MadeP w l.length) := by
  refine dispatcherlaw14_made_calls ?_
  unfold dispatcherlaw14_made_F
  refine begun w fun q0 p0 V0 vs0 w1 h1 => ?_
  obtain ⟨A, c, es, _⟩ := reads_cap h
  refine W_loop dispatcherlaw14_made_L0_ok (fun ρ w' => ∃ (i : Nat) (q p : Nat) (ls : List Ms) (V : QV) (R : Rks) (vs : List Value), i ≤ l.length ∧ ρ 6 = .int .i64 i ∧ ρ 0 = v ∧ ρ 4 = .pointer (some ⟨q, 0, none⟩) ∧ ρ 5 = .pointer (some ⟨p, 0, none⟩) ∧ PP w w' q p ls V R vs ∧ OkQ R ls ∧ (∀ j, (R j).length ≤ i) ∧ ls.length ≤ i) (fun ρ _ => l.length - (intOf (ρ 6)).toNat)
    ⟨0, q0, p0, [], V0, fun _ => [], vs0, Nat.zero_le _, rfl, rfl, rfl, rfl, h1, OkQ.nil, fun _ => Nat.le_refl _, Nat.le_refl _⟩ ?_
  rintro ρ w2 ⟨i, q, p, ls, V, R, vs, hi, e6, e0, e4, e5, hP, hok, hR, hls⟩
  rw [dispatcherlaw14_made_L0_eq]; unfold dispatcherlaw14_made_L0_F
  rw [e6, e0, e4, e5, es, len_sl vBcs, ← es, BK_lss]
  by_cases hlt : i < l.length
  · rw [decide_eq_true (by omega)]
    refine condT ?_
    have hx : l[i]? = some l[i] := List.getElem?_eq_getElem hlt
    refine ldBc (Bcts.calm h hP.mod) hx rfl fun _ => ?_
    refine CK_st Try.func20 rfl rfl (act_ok hP (fun j => by have := hR j; omega) hok.frm (by omega) l[i]) ?_
    rintro _ w3 ⟨R', ls', V', vs', hst, hP', hM⟩
    rw [BK_add, wrap_i (by omega) (by omega)]
    have := step_len hst hR hls
    refine ⟨⟨i + 1, q, p, ls', V', R', vs', hlt, rfl, by first | exact e0 | rfl, by first | exact e4 | rfl, by first | exact e5 | rfl, hP', hok.step hst, this.1, this.2⟩, ?_⟩
    simp only [sq_n, sq_x, sq_r, bk_n, bk_r, bk_x, rt_r, rt_n, rs_0, rs_t, pk_1, pk_2, up_at, reduceIte, Nat.reduceEqDiff, intOf]; omega
  · obtain rfl : i = l.length := by omega
    rw [decide_eq_false (by omega)]
    refine condF ?_
    rw [sq_x, bk_x, sq_n, dispatcherlaw14_made_R1_eq]; unfold dispatcherlaw14_made_R1_F
    have key : ∀ ρ0 : Sl, ρ0 4 = .pointer (some ⟨q, 0, none⟩) → ρ0 5 = .pointer (some ⟨p, 0, none⟩) → retK Try.prog [ResultVar.tmp 2, ResultVar.tmp 3] (MadeP w l.length) .ret (up (up (up (up ρ0 22 (ρ0 4)) 23 (ρ0 5)) 2 (ρ0 4)) 3 (ρ0 5)) w2 := by
      intro ρ0 q4 q5
      show MadeP w l.length (.tuple #[ρ0 4, ρ0 5]) w2
      rw [q4, q5]
      exact ⟨q, p, ls, V, R, vs, rfl, hP, hok, hR, hls⟩
    exact key _ (by first | exact e4 | rfl) (by first | exact e5 | rfl)
end Go.Proofs.Ytmnkedgmpbcicaa.Que
set_option linter.unusedVariables false
set_option linter.unusedSimpArgs false
set_option maxRecDepth 8000
namespace Go.Proofs.Ytmnkedgmpbcicaa.Que
open Go Go.X Go.RowKit
theorem first_mem {ls : List Ms} {c : Ch} {tag : Int} {m : Ms} (h : firstV ls c tag = some m) : m ∈ ls ∧ m.ch = c ∧ m.taken = false ∧ (tag = -1 ∨ tag = m.tag) := by
  unfold firstV at h
  have hm := List.mem_of_find?_eq_some h
  have hf := List.find?_some h
  have hr := mem_row.1 hm
  refine ⟨hr.1, hr.2, ?_, ?_⟩
  · unfold fits at hf
    simp only [Bool.and_eq_true, Bool.not_eq_true'] at hf
    exact hf.1
  · unfold fits at hf
    simp only [Bool.and_eq_true, Bool.or_eq_true, decide_eq_true_eq] at hf
    exact hf.2
theorem one_some {ls : List Ms} {r : Rc} {wait : List Rc} {f : Int} {m : Ms} (h : oneV ls r wait f = some m) : skipV r f = false ∧ firstV ls (r.key, f, r.rank) r.tag = some m ∧ (∀ x ∈ wait, fitsV x m = false) ∧ m.frm = f := by
  unfold oneV at h
  cases hs : skipV r f with
  | true => rw [hs] at h; cases h
  | false =>
    rw [hs] at h
    rw [if_neg (by decide)] at h
    cases hf : firstV ls (r.key, f, r.rank) r.tag with
    | none => rw [hf] at h; cases h
    | some x =>
      rw [hf] at h
      dsimp only at h
      split at h
      · cases h
      · rename_i hw
        cases h
        refine ⟨rfl, rfl, fun y hy => ?_, ?_⟩
        · have := List.any_eq_false.1 (Bool.eq_false_iff.2 hw) y hy
          simpa using this
        · have := (first_mem hf).2.1
          exact congrArg (fun c : Ch => c.2.1) this
structure FreeM (ls : List Ms) (r : Rc) (ahead : List Rc) (m : Ms) : Prop where
  mem : m ∈ ls
  frm : m.frm ∈ sendersV ls r.key r.rank
  one : oneV ls r (ahead.filter wt) m.frm = some m
  first : firstV ls (r.key, m.frm, r.rank) r.tag = some m
  un : m.taken = false
  fit : fitsV r m = true
  no : ∀ x ∈ ahead, x.done = false → fitsV x m = false
theorem free_mem {ls : List Ms} {r : Rc} {ahead : List Rc} {m : Ms} (h : m ∈ freeV ls r ahead) : FreeM ls r ahead m := by
  unfold freeV at h
  obtain ⟨f, hf, ho⟩ := List.mem_filterMap.1 h
  obtain ⟨hs, h1, hw, hfr⟩ := one_some ho
  subst hfr
  obtain ⟨hm, hc, ht, hg⟩ := first_mem h1
  refine ⟨hm, hf, ho, h1, ht, ?_, fun x hx hd => hw x (List.mem_filter.2 ⟨hx, by unfold wt; rw [hd]; rfl⟩)⟩
  have hk : m.key = r.key := congrArg (fun c : Ch => c.1) hc
  have ht' : m.to = r.rank := congrArg (fun c : Ch => c.2.2) hc
  unfold fitsV
  rw [hk, ht', decide_eq_true rfl, decide_eq_true rfl]
  have hp : (decide (r.peer = -1) || decide (r.peer = m.frm)) = true := by
    unfold skipV at hs
    revert hs
    cases decide (r.peer = -1) <;> cases decide (r.peer = m.frm) <;> simp
  have hg' : (decide (r.tag = -1) || decide (r.tag = m.tag)) = true := by
    rcases hg with z | z
    · rw [decide_eq_true z]; rfl
    · rw [decide_eq_true z, Bool.or_true]
  rw [hp, hg']
  rfl
theorem take_of {ls : List Ms} (hu : ls.Pairwise fun a b => ¬ (a.frm = b.frm ∧ a.call = b.call)) {m : Ms} (hm : m ∈ ls) (ht : m.taken = false) : takeV ls m.frm m.call = (ls.map (tk m.frm m.call), 0) := by
  have hf : ls.find? (Ms.isAt m.frm m.call) = some m := by
    cases hq : ls.find? (Ms.isAt m.frm m.call) with
    | none =>
      have := List.find?_eq_none.1 hq m hm
      exact absurd (isAt_iff.2 ⟨rfl, rfl⟩) this
    | some x =>
      have hx := List.mem_of_find?_eq_some hq
      have hp := isAt_iff.1 (List.find?_some hq)
      rw [uniq_mem hu hx hm hp.1 hp.2]
  unfold takeV
  rw [hf]
  simp [ht]
theorem may_match {R : Rks} {ls : List Ms} (hu : ls.Pairwise fun a b => ¬ (a.frm = b.frm ∧ a.call = b.call)) {rk c : Int} {m : Ms} (h : m ∈ mayV R ls rk c) : matchV R ls rk c m.frm m.call = ((setV R rk c m.frm m.call, ls.map (tk m.frm m.call)), 0) := by
  obtain ⟨hr, j, r, hj, hx, hd, hf⟩ := may_some h
  have hM := free_mem hf
  unfold matchV
  rw [if_pos (List.any_eq_true.2 ⟨m, h, isAt_iff.2 ⟨rfl, rfl⟩⟩), take_of hu hM.mem hM.un]
  rfl
theorem asc_idx {l : List Rc} (h : l.Pairwise fun a b => a.call < b.call) {j : Nat} {r : Rc} (hj : l[j]? = some r) : l.findIdx? (isC r.call) = some j := by
  have hjl := (List.getElem?_eq_some_iff.1 hj).1
  have hjr := (List.getElem?_eq_some_iff.1 hj).2
  rw [List.findIdx?_eq_some_iff_getElem]
  refine ⟨hjl, by unfold isC; rw [hjr]; simp, fun i hi => ?_⟩
  have := List.pairwise_iff_getElem.1 h i j (by omega) hjl hi
  rw [hjr] at this
  unfold isC
  simp
  omega
end Go.Proofs.Ytmnkedgmpbcicaa.Que
set_option linter.unusedVariables false
set_option linter.unusedSimpArgs false
set_option maxRecDepth 8000
namespace Go.Proofs.Ytmnkedgmpbcicaa.Que
open Go Go.X Go.RowKit Go.Proofs.Ytmnkedgmpbcicaa.XF Go.Proofs.Ytmnkedgmpbcicaa.XG Go.Proofs.Ytmnkedgmpbcicaa.XK
theorem own_any {w : World} {v : Value} {l : List Ms} {B i : Nat} {m : Ms} (h : w.ownsRow B tMs 8 v l.length (l.flatMap Ms.enc)) (hi : l[i]? = some m) : ∃ a, (∀ w', (Instr.indexAt tMsS v (.int .i64 (i : Int))).run Try.prog w' = .ok (.pointer (some a)) w') ∧ ∀ w', Mod none_ w w' → ∀ k u, m.enc[k]? = some u → w'.cell? (a.add k) = some u := by
  have hil := (List.getElem?_eq_some_iff.1 hi).1
  obtain ⟨g, cap, ev, _⟩ := owns_some h (by omega)
  subst ev
  refine ⟨⟨g, i * 8, none⟩, fun w' => ?_, fun w' hw k u hu => ?_⟩
  · rw [run_ixa vMsS cMs (by omega) (by omega) w', add_pl]
    congr 4
    omega
  · have hk : k < 7 + 1 := (List.getElem?_eq_some_iff.1 hu).1
    obtain ⟨_, A, c, es, _, hr⟩ := reads_mod (reads_of_owns h) hw (fun _ _ _ => id)
    cases es
    obtain ⟨a, ha, hc⟩ := hr (i * (7 + 1) + k) u (by rw [fl_get (k := 7 + 1) Ms.enc_len hi hk]; exact hu)
    cases ha
    rw [add_pl] at hc ⊢
    rw [Nat.zero_add] at hc
    exact hc
theorem PP.base {w0 w1 w : World} {q p : Nat} {ls : List Ms} {V : QV} {R : Rks} {vs : List Value} (h : PP w1 w q p ls V R vs) (hm : Mod none_ w0 w1) : PP w0 w q p ls V R vs :=
  ⟨h.qa, h.pa, h.dj, fun b z => Nat.le_trans hm.size (h.fq b z), fun b z => Nat.le_trans hm.size (h.fp b z), hm.trans h.mod⟩
section
variable {w0 w : World} {q p b3 : Nat} {ls : List Ms} {V : QV} {R : Rks} {vs : List Value} {r : Rc} {L : List Ms} {vm : Value}
structure PrI (w0 w' : World) (q p b3 : Nat) (ls : List Ms) (V : QV) (R : Rks) (vs : List Value) (r : Rc) (L : List Ms) (vm : Value) : Prop where
  pp : PP w0 w' q p ls V R vs
  b : w'.heap[b3]? = some (.cells r.enc.toArray tRc (0, 0))
  nb : ¬ (V.F q b3 ∨ PF p vs b3)
  bs : Beside q p V vs w' vm
  own : w'.ownsRow w0.heap.size tMs 8 vm L.length (L.flatMap Ms.enc)
theorem PrI.on {w' w'' : World} (h : PrI w0 w' q p b3 ls V R vs r L vm) (hp : PP w0 w'' q p ls V R vs) (hm : Mod (fun b => V.F q b ∨ PF p vs b) w' w'') : PrI w0 w'' q p b3 ls V R vs r L vm :=
  ⟨hp, hm.blk h.b h.nb, h.nb, h.bs.on (MFr.m hm), h.bs.keep (MFr.m hm) h.own⟩
theorem PrI.calm {w' w'' : World} (h : PrI w0 w' q p b3 ls V R vs r L vm) (hm : Mod none_ w' w'') : PrI w0 w'' q p b3 ls V R vs r L vm := h.on (h.pp.calm hm) (hm.mono fun _ _ z => z.elim)
end
end Go.Proofs.Ytmnkedgmpbcicaa.Que
set_option linter.unusedVariables false
set_option linter.unusedSimpArgs false
set_option maxRecDepth 8000
namespace Go.Proofs.Ytmnkedgmpbcicaa.Que
open Go Go.X Go.RowKit Go.Proofs.Ytmnkedgmpbcicaa.XF Go.Proofs.Ytmnkedgmpbcicaa.XG Go.Proofs.Ytmnkedgmpbcicaa.XK
theorem up_nq {ρ : Sl} {d : Nat} {v : Value} {k : Nat} (hk : k ≠ d) : up ρ d v k = ρ k := by rw [up_at, if_neg hk]
theorem rc_any {w : World} {v : Value} {l : List Rc} {i : Nat} {r : Rc} (h : RcRow w v l) (hi : l[i]? = some r) : ∃ a, (∀ w', (Instr.indexAt tRcS v (.int .i64 (i : Int))).run Try.prog w' = .ok (.pointer (some a)) w') ∧ (∀ w', Mod none_ w w' → ∀ k u, r.enc[k]? = some u → w'.cell? (a.add k) = some u) ∧ ∀ w', Mod none_ w w' → (Instr.loadAt tRc (.pointer (some a))).run Try.prog w' = .ok (.agg r.enc.toArray) w' := by
  have hil := (List.getElem?_eq_some_iff.1 hi).1
  obtain ⟨A, c, es, _⟩ := reads_cap h
  subst es
  have hlt0 : (l.flatMap Rc.enc)[i * (8 + 1) + 0]? = some (strV r.key) := by rw [fl_get (k := 8 + 1) Rc.enc_len hi (by decide)]; rfl
  have hA : ∃ a, A = some a := by
    obtain ⟨_, A', c', es', _, hr⟩ := h
    cases es'
    obtain ⟨a, ha, _⟩ := hr _ _ hlt0
    exact ⟨a, ha⟩
  obtain ⟨a, rfl⟩ := hA
  have hc : ∀ w', Mod none_ w w' → ∀ k u, r.enc[k]? = some u → w'.cell? ((a.add (i * (8 + 1))).add k) = some u := fun w' hw k u hu => by
    have hk : k < 8 + 1 := (List.getElem?_eq_some_iff.1 hu).1
    obtain ⟨_, A2, c2, es2, _, hr2⟩ := RcRow.calm h hw
    cases es2
    obtain ⟨a2, ha2, hc2⟩ := hr2 (i * (8 + 1) + k) u (by rw [fl_get (k := 8 + 1) Rc.enc_len hi hk]; exact hu)
    cases ha2
    rw [add_add]
    exact hc2
  refine ⟨a.add (i * (8 + 1)), fun w' => ?_, hc, fun w' hw => run_ldA Try.underlying24 rfl (by rw [iRc]; rfl) (hc w' hw)⟩
  rw [run_ixa vRcS cRc (by omega) (by omega) w', show ((i : Int)).toNat = i by omega]
theorem own_ld {w : World} {v : Value} {l : List Ms} {B i : Nat} {m : Ms} (h : w.ownsRow B tMs 8 v l.length (l.flatMap Ms.enc)) (hi : l[i]? = some m) : ∃ a, (∀ w', (Instr.indexAt tMsS v (.int .i64 (i : Int))).run Try.prog w' = .ok (.pointer (some a)) w') ∧ (∀ w', Mod none_ w w' → ∀ k u, m.enc[k]? = some u → w'.cell? (a.add k) = some u) ∧ ∀ w', Mod none_ w w' → (Instr.loadAt tMs (.pointer (some a))).run Try.prog w' = .ok (.agg m.enc.toArray) w' := by
  obtain ⟨a, ha, hc⟩ := own_any h hi
  exact ⟨a, ha, hc, fun w' hw => run_ldA Try.underlying39 rfl (by rw [iMs]; rfl) (hc w' hw)⟩
section
variable {w : World} {vw vm : Value} {Ws : List Rc} {L : List Ms} {B i : Nat} {r : Rc}
end
section
variable {w : World} {vl : Value} {L : List Ms} {B : Nat}
end
end Go.Proofs.Ytmnkedgmpbcicaa.Que
set_option linter.unusedVariables false
set_option linter.unusedSimpArgs false
set_option maxRecDepth 8000
namespace Go.Proofs.Ytmnkedgmpbcicaa.Que
open Go Go.X Go.RowKit Go.Proofs.Ytmnkedgmpbcicaa.XF Go.Proofs.Ytmnkedgmpbcicaa.XG Go.Proofs.Ytmnkedgmpbcicaa.XK
theorem mod64 {g : Int} (h : 0 ≤ g) : 0 ≤ g.tmod 64 ∧ g.tmod 64 ≤ 63 := by
  rw [Int.tmod_eq_emod_of_nonneg h]
  omega
theorem wait_may {R : Rks} {ls : List Ms} (hok : OkQ R ls) {rk : Int} (hr : 0 ≤ rk ∧ rk ≤ 63) {r : Rc} (hm : r ∈ R rk.toNat) (hd : r.done = false) : ∃ j, (R rk.toNat)[j]? = some r ∧ mayV R ls r.rank r.call = freeV ls r ((R rk.toNat).take j) := by
  obtain ⟨j, hj⟩ := List.getElem?_of_mem hm
  refine ⟨j, hj, ?_⟩
  have e : r.rank = rk := by rw [hok.rk _ r hm]; omega
  have er : rowP R rk = R rk.toNat := by unfold rowP; rw [if_pos hr]
  unfold mayV
  rw [e, er, asc_idx (hok.asc _) hj]
  dsimp only
  rw [hj]
  dsimp only
  rw [hd]
  rfl
theorem one_disj {R : Rks} {ls : List Ms} (hok : OkQ R ls) (hu : ls.Pairwise fun a b => ¬ (a.frm = b.frm ∧ a.call = b.call)) {rk : Int} (hr : 0 ≤ rk ∧ rk ≤ 63) {r1 r2 : Rc} (h1 : r1 ∈ R rk.toNat) (h2 : r2 ∈ R rk.toNat) (d1 : r1.done = false) (d2 : r2.done = false) (hlt : r1.call < r2.call)
    {a b : Ms} (ha : a ∈ mayV R ls r1.rank r1.call) (hb : b ∈ mayV R ls r2.rank r2.call) : ¬ (a.frm = b.frm ∧ a.call = b.call) := by
  rintro ⟨hf, hc⟩
  obtain ⟨j1, hj1, e1⟩ := wait_may hok hr h1 d1
  obtain ⟨j2, hj2, e2⟩ := wait_may hok hr h2 d2
  rw [e1] at ha
  rw [e2] at hb
  have A := free_mem ha
  have B := free_mem hb
  have e := uniq_mem hu A.mem B.mem hf hc
  subst e
  have hjl1 := (List.getElem?_eq_some_iff.1 hj1)
  have hjl2 := (List.getElem?_eq_some_iff.1 hj2)
  have hjj : j1 < j2 := by
    rcases Nat.lt_trichotomy j1 j2 with q | q | q
    · exact q
    · subst q; rw [hj1] at hj2; cases hj2; omega
    · have := List.pairwise_iff_getElem.1 (hok.asc rk.toNat) j2 j1 hjl2.1 hjl1.1 q
      rw [hjl1.2, hjl2.2] at this
      omega
  have hin : r1 ∈ (R rk.toNat).take j2 := by
    have hl1 := hjl1.1
    rw [← hjl1.2]
    exact List.mem_take_iff_getElem.2 ⟨j1, by omega, rfl⟩
  have := B.no r1 hin d1
  rw [A.fit] at this
  cases this
section
variable {w : World} {q p : Nat} {ls : List Ms} {V : QV} {R : Rks} {vs : List Value} {rk : Int} {vw : Value} {R1 : Value → World → Prop}
end
end Go.Proofs.Ytmnkedgmpbcicaa.Que
set_option linter.unusedVariables false
set_option linter.unusedSimpArgs false
set_option maxRecDepth 8000
namespace Go.Proofs.Ytmnkedgmpbcicaa.Que
open Go Go.X Go.RowKit
theorem free_in {ls : List Ms} {r : Rc} {a : List Rc} {m : Ms} (hf : m.frm ∈ sendersV ls r.key r.rank) (hs : skipV r m.frm = false) (h1 : firstV ls (r.key, m.frm, r.rank) r.tag = some m) (hn : ∀ x ∈ a, x.done = false → fitsV x m = false) : m ∈ freeV ls r a := by
  unfold freeV
  refine List.mem_filterMap.2 ⟨m.frm, hf, ?_⟩
  unfold oneV
  rw [hs, if_neg (by decide), h1]
  dsimp only
  rw [if_neg ?_]
  intro hany
  obtain ⟨x, hx, hxf⟩ := List.any_eq_true.1 hany
  have := List.mem_filter.1 hx
  have hd : x.done = false := by
    have := this.2
    unfold wt at this
    simpa using this
  rw [hn x this.1 hd] at hxf
  cases hxf
theorem find_imp {l : List Ms} {p p' : Ms → Bool} {m : Ms} (h : l.find? p = some m) (hi : ∀ x, p' x = true → p x = true) (hm : p' m = true) : l.find? p' = some m := by
  rw [List.find?_eq_some_iff_getElem] at h ⊢
  obtain ⟨_, i, hi', he, hlt⟩ := h
  refine ⟨hm, i, hi', he, fun j hj => ?_⟩
  have := hlt j hj
  cases hq : p' l[j] with
  | false => rfl
  | true =>
    rw [hi _ hq] at this
    cases this
theorem sent_mem {ls : List Ms} {k : List UInt8} {t f : Int} : f ∈ sendersV ls k t ↔ (∃ n : Nat, n < 64 ∧ f = n) ∧ sentBy ls k t f = true := by
  unfold sendersV
  rw [List.mem_filter, List.mem_map]
  constructor
  · rintro ⟨⟨n, hn, rfl⟩, h⟩
    exact ⟨⟨n, List.mem_range.1 hn, rfl⟩, h⟩
  · rintro ⟨⟨n, hn, rfl⟩, h⟩
    exact ⟨⟨n, List.mem_range.2 hn, rfl⟩, h⟩
theorem sent_of {ls : List Ms} {k : List UInt8} {t f : Int} {m : Ms} (hf : f ∈ sendersV ls k t) {ls' : List Ms} (hm : m ∈ ls') (hu : m.taken = false) (hc : m.ch = (k, f, t)) : f ∈ sendersV ls' k t := by
  rw [sent_mem] at hf ⊢
  refine ⟨hf.1, ?_⟩
  unfold sentBy
  refine List.any_eq_true.2 ⟨m, hm, ?_⟩
  unfold nt
  rw [hu, decide_eq_true hc]
  rfl
theorem idx_app {l : List Rc} {r : Rc} {c : Int} {j : Nat} (h : l.findIdx? (isC c) = some j) : (l ++ [r]).findIdx? (isC c) = some j := by
  rw [List.findIdx?_append, h]; rfl
theorem may_r {R : Rks} {ls : List Ms} {rk c : Int} {j : Nat} {r : Rc} (hr : 0 ≤ rk ∧ rk ≤ 63) (hj : (R rk.toNat).findIdx? (isC c) = some j) (hx : (R rk.toNat)[j]? = some r) (hd : r.done = false) : mayV R ls rk c = freeV ls r ((R rk.toNat).take j) := by
  have er : rowP R rk = R rk.toNat := by unfold rowP; rw [if_pos hr]
  unfold mayV
  rw [er, hj]
  dsimp only
  rw [hx]
  dsimp only
  rw [hd]
  rfl
theorem grows {R R' : Rks} {ls ls' : List Ms} (hok : OkQ R ls) (hu : ls.Pairwise fun a b => ¬ (a.frm = b.frm ∧ a.call = b.call)) (hs : StepQ R ls R' ls') {rk c : Int} {x : Rc} (hx : atV R' rk c = some x) (hxd : x.done = false) {m : Ms} (hm : m ∈ mayV R ls rk c) : m ∈ mayV R' ls' rk c := by
  obtain ⟨hr, j, r, hj, hrj, hd, hfr⟩ := may_some hm
  have M := free_mem hfr
  have hsk := (one_some M.one).1
  have hch := (first_mem M.first).2.1
  have hrc : r.call = c := by
    rw [List.findIdx?_eq_some_iff_getElem] at hj
    obtain ⟨h1, h2, _⟩ := hj
    rw [(List.getElem?_eq_some_iff.1 hrj).2] at h2
    unfold isC at h2
    simpa using h2
  cases hs with
  | none => exact hm
  | send mm =>
    rw [may_r hr hj hrj hd]
    rcases send_cases ls mm with e | ⟨e, _⟩
    · rw [e]; exact hfr
    · rw [e]
      refine free_in (sent_of M.frm (List.mem_append_left _ M.mem) M.un hch) hsk ?_ M.no
      unfold firstV
      rw [row_app, List.find?_append]
      have := M.first
      unfold firstV at this
      rw [this]; rfl
  | post r2 =>
    have hsame : ∀ (l : List Rc), (postV R r2).1 rk.toNat = l → (l = R rk.toNat ∨ ∃ z, l = R rk.toNat ++ [z]) := fun l hl => by
      unfold postV at hl
      split at hl
      · exact .inl hl.symm
      · rename_i hb
        have hb := bad_no (Bool.eq_false_iff.2 hb)
        have er : rowP R r2.rank = R r2.rank.toNat := by unfold rowP; rw [if_pos hb.1]
        dsimp only at hl
        unfold putR at hl
        split at hl
        · rename_i e
          rw [er, ← e] at hl
          exact .inr ⟨_, hl.symm⟩
        · exact .inl hl.symm
    rcases hsame _ rfl with e | ⟨z, e⟩
    · rw [may_r (R := (postV R r2).1) hr (by rw [e]; exact hj) (by rw [e]; exact hrj) hd, e]
      exact hfr
    · have hjl := (List.getElem?_eq_some_iff.1 hrj).1
      rw [may_r (R := (postV R r2).1) hr (by rw [e]; exact idx_app hj) (by rw [e, List.getElem?_append_left hjl]; exact hrj) hd, e, List.take_append_of_le_length (by omega)]
      exact hfr
  | mtch rk2 c2 f s =>
    by_cases ha : (mayV R ls rk2 c2).any (Ms.isAt f s) = true
    · obtain ⟨m2, hm2, hat⟩ := List.any_eq_true.1 ha
      obtain ⟨e1, e2⟩ := isAt_iff.1 hat
      subst e1; subst e2
      rw [may_match hu hm2] at hx ⊢
      dsimp only at hx ⊢
      obtain ⟨hr2, j2, r2, hj2, hrj2, hd2, hfr2⟩ := may_some hm2
      have M2 := free_mem hfr2
      rw [setV_eq hr2 hj2 hrj2] at hx ⊢
      have hjl := (List.getElem?_eq_some_iff.1 hrj).1
      have hjl2 := (List.getElem?_eq_some_iff.1 hrj2).1
      have hrc2 : r2.call = c2 := by
        rw [List.findIdx?_eq_some_iff_getElem] at hj2
        obtain ⟨h1, h2, _⟩ := hj2
        rw [(List.getElem?_eq_some_iff.1 hrj2).2] at h2
        unfold isC at h2
        simpa using h2
      have hrank : r.rank = rk := by rw [hok.rk _ r (List.mem_of_getElem? hrj)]; omega
      have hrank2 : r2.rank = rk2 := by rw [hok.rk _ r2 (List.mem_of_getElem? hrj2)]; omega
      -- it is another receive
      have hne : ¬ (rk2 = rk ∧ j2 = j) := by
        rintro ⟨e1, e2⟩
        subst e1; subst e2
        have er : rowP (putR R rk2.toNat ((R rk2.toNat).set j2 (r2.got m2.frm m2.call))) rk2 = (R rk2.toNat).set j2 (r2.got m2.frm m2.call) := by
          unfold rowP putR
          rw [if_pos hr, if_pos rfl]
        unfold atV at hx
        rw [er] at hx
        have hasc := asc_set (hok.asc rk2.toNat) hrj2 m2.frm m2.call
        have hg : ((R rk2.toNat).set j2 (r2.got m2.frm m2.call))[j2]? = some (r2.got m2.frm m2.call) := List.getElem?_set_self hjl2
        have hix := asc_idx hasc hg
        rw [show (r2.got m2.frm m2.call).call = c by
          have : r2 = r := by rw [hrj] at hrj2; exact (Option.some.inj hrj2).symm
          show r2.call = c
          rw [this]; exact hrc] at hix
        rcases idxR_find (l := (R rk2.toNat).set j2 (r2.got m2.frm m2.call)) (q := isC c) with ⟨hn, _⟩ | ⟨j', x', _, hjx, hfx, hfi⟩
        · unfold idxR at hn
          rw [hix] at hn
          dsimp only at hn
          omega
        · rw [hix] at hfi
          cases hfi
          rw [hfx] at hx
          rw [hg] at hjx
          cases hjx
          cases hx
          cases hxd
      -- it is another message
      have hmm : m ≠ m2 := by
        intro e
        subst e
        by_cases hrr : rk2 = rk
        · subst hrr
          have hjj : j2 ≠ j := fun z => hne ⟨rfl, z⟩
          have hcall : r.call ≠ r2.call := by
            have hp := List.pairwise_iff_getElem.1 (hok.asc rk2.toNat)
            rcases Nat.lt_or_gt_of_ne hjj with q | q
            · have := hp j2 j hjl2 hjl q
              rw [(List.getElem?_eq_some_iff.1 hrj).2, (List.getElem?_eq_some_iff.1 hrj2).2] at this
              omega
            · have := hp j j2 hjl hjl2 q
              rw [(List.getElem?_eq_some_iff.1 hrj).2, (List.getElem?_eq_some_iff.1 hrj2).2] at this
              omega
          have hma : m ∈ mayV R ls r.rank r.call := by rw [hrank, hrc]; exact hm
          have hmb : m ∈ mayV R ls r2.rank r2.call := by rw [hrank2, hrc2]; exact hm2
          rcases Int.lt_or_gt_of_ne hcall with q | q
          · exact one_disj hok hu hr (List.mem_of_getElem? hrj) (List.mem_of_getElem? hrj2) hd hd2 q hma hmb ⟨rfl, rfl⟩
          · exact one_disj hok hu hr (List.mem_of_getElem? hrj2) (List.mem_of_getElem? hrj) hd2 hd q hmb hma ⟨rfl, rfl⟩
        · have h1 : m.to = r.rank := congrArg (fun c : Ch => c.2.2) hch
          have h2 : m.to = r2.rank := congrArg (fun c : Ch => c.2.2) (first_mem M2.first).2.1
          exact hrr (by rw [← hrank, ← hrank2, ← h1, ← h2])
      have hnat : m.isAt m2.frm m2.call = false := by
        cases hq : m.isAt m2.frm m2.call with
        | false => rfl
        | true =>
          obtain ⟨q1, q2⟩ := isAt_iff.1 hq
          exact absurd (uniq_mem hu M.mem M2.mem q1 q2) hmm
      have htk : tk m2.frm m2.call m = m := by unfold tk; rw [hnat]; rfl
      have hmem : m ∈ ls.map (tk m2.frm m2.call) := List.mem_map.2 ⟨m, M.mem, htk⟩
      have hfst : firstV (ls.map (tk m2.frm m2.call)) (r.key, m.frm, r.rank) r.tag = some m := by
        have := M.first
        unfold firstV at this ⊢
        have hfi := find_imp this (p' := fits r.tag ∘ tk m2.frm m2.call) (fun y hy => by
          have hy : fits r.tag (tk m2.frm m2.call y) = true := hy
          unfold tk at hy
          split at hy
          · unfold fits at hy
            simp at hy
          · exact hy) (by
          show fits r.tag (tk m2.frm m2.call m) = true
          rw [htk]
          exact List.find?_some this)
        rw [row_map, List.find?_map, hfi]
        show some (tk m2.frm m2.call m) = _
        rw [htk]
      -- the row
      by_cases hrr : rk2.toNat = rk.toNat
      · have hrk : rk2 = rk := by omega
        subst hrk
        have hjj : j2 ≠ j := fun z => hne ⟨rfl, z⟩
        have e0 : putR R rk2.toNat ((R rk2.toNat).set j2 (r2.got m2.frm m2.call)) rk2.toNat = (R rk2.toNat).set j2 (r2.got m2.frm m2.call) := by unfold putR; rw [if_pos rfl]
        have hg : ((R rk2.toNat).set j2 (r2.got m2.frm m2.call))[j]? = some r := by rw [List.getElem?_set_ne hjj]; exact hrj
        have hix := asc_idx (asc_set (hok.asc rk2.toNat) hrj2 m2.frm m2.call) hg
        rw [hrc] at hix
        rw [may_r (R := putR R rk2.toNat ((R rk2.toNat).set j2 (r2.got m2.frm m2.call))) hr (by rw [e0]; exact hix) (by rw [e0]; exact hg) hd, e0]
        refine free_in (sent_of M.frm hmem M.un hch) hsk hfst fun y hy hyd => ?_
        rw [List.take_set] at hy
        rcases List.mem_or_eq_of_mem_set hy with q | q
        · exact M.no y q hyd
        · rw [q] at hyd; cases hyd
      · have e0 : putR R rk2.toNat ((R rk2.toNat).set j2 (r2.got m2.frm m2.call)) rk.toNat = R rk.toNat := by unfold putR; rw [if_neg (fun z => hrr z.symm)]
        rw [may_r (R := putR R rk2.toNat ((R rk2.toNat).set j2 (r2.got m2.frm m2.call))) hr (by rw [e0]; exact hj) (by rw [e0]; exact hrj) hd, e0]
        exact free_in (sent_of M.frm hmem M.un hch) hsk hfst M.no
    · have e : matchV R ls rk2 c2 f s = ((R, ls), 2) := by unfold matchV; rw [if_neg ha]
      rw [e]
      exact hm
theorem at_stays {R R' : Rks} {ls ls' : List Ms} (hok : OkQ R ls) (hs : StepQ R ls R' ls') {rk c : Int} (hr : 0 ≤ rk ∧ rk ≤ 63) (h : (atV R rk c).isSome = true) : (atV R' rk c).isSome = true := by
  have key : ∀ (R : Rks), (atV R rk c).isSome = true ↔ ∃ y ∈ R rk.toNat, y.call = c := fun R => by
    unfold atV
    have er : rowP R rk = R rk.toNat := by unfold rowP; rw [if_pos hr]
    rw [er, List.find?_isSome]
    unfold isC
    simp
  rw [key] at h ⊢
  obtain ⟨y, hy, hc⟩ := h
  cases hs with
  | none => exact ⟨y, hy, hc⟩
  | send mm => exact ⟨y, hy, hc⟩
  | post r2 =>
    unfold postV
    split
    · exact ⟨y, hy, hc⟩
    · rename_i hb
      have hb := bad_no (Bool.eq_false_iff.2 hb)
      have er : rowP R r2.rank = R r2.rank.toNat := by unfold rowP; rw [if_pos hb.1]
      dsimp only
      unfold putR
      split
      · rename_i e
        rw [er, ← e]
        exact ⟨y, List.mem_append_left _ hy, hc⟩
      · exact ⟨y, hy, hc⟩
  | mtch rk2 c2 f s =>
    have hset : ∃ y ∈ setV R rk2 c2 f s rk.toNat, y.call = c := by
      by_cases hr2 : 0 ≤ rk2 ∧ rk2 ≤ 63
      · cases hj : (R rk2.toNat).findIdx? (isC c2) with
        | none =>
          have er : rowP R rk2 = R rk2.toNat := by unfold rowP; rw [if_pos hr2]
          unfold setV
          rw [er, hj]
          exact ⟨y, hy, hc⟩
        | some j =>
          have hjl : j < (R rk2.toNat).length := by
            rw [List.findIdx?_eq_some_iff_getElem] at hj
            exact hj.1
          have hx : (R rk2.toNat)[j]? = some (R rk2.toNat)[j] := List.getElem?_eq_getElem hjl
          rw [setV_eq hr2 hj hx]
          unfold putR
          split
          · rename_i e
            rw [e] at hy
            obtain ⟨i, hi⟩ := List.getElem?_of_mem hy
            by_cases hij : i = j
            · subst hij
              rw [hx] at hi
              refine ⟨_, List.mem_of_getElem? (List.getElem?_set_self hjl), ?_⟩
              show ((R rk2.toNat)[i]).call = c
              rw [Option.some.inj hi]
              exact hc
            · exact ⟨y, List.mem_of_getElem? (by rw [List.getElem?_set_ne (fun z => hij z.symm)]; exact hi), hc⟩
          · exact ⟨y, hy, hc⟩
      · have er : rowP R rk2 = [] := by unfold rowP; rw [if_neg hr2]
        unfold setV
        rw [er]
        exact ⟨y, hy, hc⟩
    unfold matchV
    split
    · split
      · exact hset
      · exact ⟨y, hy, hc⟩
    · exact ⟨y, hy, hc⟩
end Go.Proofs.Ytmnkedgmpbcicaa.Que
set_option linter.unusedVariables false
set_option linter.unusedSimpArgs false
set_option maxRecDepth 8000
namespace Go.Proofs.Ytmnkedgmpbcicaa.Que
open Go Go.X Go.RowKit Go.Proofs.Ytmnkedgmpbcicaa.XF Go.Proofs.Ytmnkedgmpbcicaa.XG Go.Proofs.Ytmnkedgmpbcicaa.XK
section
variable {w : World} {va vb : Value} {La Lb : List Ms} {B B' : Nat}
theorem within_R5 {K : Exit → Sl → World → Prop} {ρ : Sl} {i k : Nat} {x y : Ms} {f : Bool} (ha : w.ownsRow B tMs 8 va La.length (La.flatMap Ms.enc)) (hb : w.ownsRow B' tMs 8 vb Lb.length (Lb.flatMap Ms.enc)) (hx : La[i]? = some x) (hy : Lb[k]? = some y)
    (e0 : ρ 0 = va) (e1 : ρ 1 = vb) (e5 : ρ 5 = .int .i64 i) (e7 : ρ 7 = .int .i64 k) (e6 : ρ 6 = .bool f)
    (hk : ∀ (ρ' : Sl) (w' : World), ρ' 6 = .bool (f || decide (x = y)) → (∀ j, j < 20 → j ≠ 6 → ρ' j = ρ j) → Mod none_ w w' → K .normal ρ' w') : W fn_ Try.prog 34 dispatcherlaw14_within_R5 K ρ w := by
  refine dispatcherlaw14_within_R5_tail (D := []) ?_
  have hmd : Mod none_ w { w with drawn := w.drawn + 1 } := (Mod.refl _ w).drawn _
  generalize ({ w with drawn := w.drawn + 1 } : World) = wd at *
  unfold dispatcherlaw14_within_R5_T
  rw [e0, e1, e5, e7, e6]
  obtain ⟨a, ha1, _, ha2⟩ := own_ld ha hx
  obtain ⟨b, hb1, _, hb2⟩ := own_ld hb hy
  intro C
  have hC : ∀ w', C w' → Mod none_ w w' := fun w' hw => by cases (show w' = wd from hw); exact hmd
  cases f with
  | true =>
    repeat rw [QG_b, if_neg (by decide)]
    try simp only [↓VG_u, ↓UG_u, ↓MG_u, ↓NG_u, ↓PG_u, ↓BG_u, ↓CG_u, ↓IG_u, ↓VGtt, ↓VGtf, ↓VGft, ↓VGff, ↓UGtt, ↓UGtf, ↓UGft, ↓UGff, ↓MGtt, ↓MGtf, ↓MGft, ↓MGff, ↓NGtt, ↓NGtf, ↓NGft, ↓NGff, ↓PGtt, ↓PGtf, ↓PGft, ↓PGff, ↓BGtt, ↓BGtf, ↓BGft, ↓BGff, ↓CGtt, ↓CGtf, ↓CGft, ↓CGff, ↓IGtt, ↓IGtf, ↓IGft, ↓IGff, ↓PKt, ↓PKf, ↓CDt, ↓CDf, ↓NOTt, ↓NOTf, ↓NK_ptr]
    refine hk _ wd rfl (fun j hj hne => ?_) hmd
    rw [up_nq hne]
    repeat rw [up_lo hj (by decide)]
  | false =>
    rw [QG_b, if_pos rfl]
    refine QM ?_
    rw [QG_b, if_pos rfl]
    refine QM ?_
    rw [QG_b, if_pos rfl]
    refine QV_of (fun w' _ => ha1 w') ?_
    rw [QG_b, if_pos rfl]
    refine QV_of (fun w' hw => ha2 w' (hC w' hw)) ?_
    rw [QG_b, if_pos rfl]
    refine QM ?_
    rw [QG_b, if_pos rfl]
    refine QM ?_
    rw [QG_b, if_pos rfl]
    refine QV_of (fun w' _ => hb1 w') ?_
    rw [QG_b, if_pos rfl]
    refine QV_of (fun w' hw => hb2 w' (hC w' hw)) ?_
    try simp only [↓VG_u, ↓UG_u, ↓MG_u, ↓NG_u, ↓PG_u, ↓BG_u, ↓CG_u, ↓IG_u, ↓VGtt, ↓VGtf, ↓VGft, ↓VGff, ↓UGtt, ↓UGtf, ↓UGft, ↓UGff, ↓MGtt, ↓MGtf, ↓MGft, ↓MGff, ↓NGtt, ↓NGtf, ↓NGft, ↓NGff, ↓PGtt, ↓PGtf, ↓PGft, ↓PGff, ↓BGtt, ↓BGtf, ↓BGft, ↓BGff, ↓CGtt, ↓CGtf, ↓CGft, ↓CGff, ↓IGtt, ↓IGtf, ↓IGft, ↓IGff, ↓PKt, ↓PKf, ↓CDt, ↓CDf, ↓NOTt, ↓NOTf, ↓NK_ptr]
    rw [BK_MsE]
    try simp only [↓VG_u, ↓UG_u, ↓MG_u, ↓NG_u, ↓PG_u, ↓BG_u, ↓CG_u, ↓IG_u, ↓VGtt, ↓VGtf, ↓VGft, ↓VGff, ↓UGtt, ↓UGtf, ↓UGft, ↓UGff, ↓MGtt, ↓MGtf, ↓MGft, ↓MGff, ↓NGtt, ↓NGtf, ↓NGft, ↓NGff, ↓PGtt, ↓PGtf, ↓PGft, ↓PGff, ↓BGtt, ↓BGtf, ↓BGft, ↓BGff, ↓CGtt, ↓CGtf, ↓CGft, ↓CGff, ↓IGtt, ↓IGtf, ↓IGft, ↓IGff, ↓PKt, ↓PKf, ↓CDt, ↓CDf, ↓NOTt, ↓NOTf, ↓NK_ptr]
    refine hk _ wd rfl (fun j hj hne => ?_) hmd
    rw [up_nq hne]
    repeat rw [up_lo hj (by decide)]
theorem within_L2 {K : Exit → Sl → World → Prop} {ρ : Sl} {i : Nat} {x : Ms} (ha : w.ownsRow B tMs 8 va La.length (La.flatMap Ms.enc)) (hb : w.ownsRow B' tMs 8 vb Lb.length (Lb.flatMap Ms.enc)) (hbl : Lb.length ≤ 64) (hx : La[i]? = some x)
    (e0 : ρ 0 = va) (e1 : ρ 1 = vb) (e5 : ρ 5 = .int .i64 i) (e7 : ρ 7 = .int .i64 0) (e6 : ρ 6 = .bool false)
    (hk : ∀ (ρ' : Sl) (w' : World), ρ' 6 = .bool (Lb.any fun y => decide (x = y)) → (∀ j, j < 14 → j ≠ 6 → j ≠ 7 → ρ' j = ρ j) → Mod none_ w w' → K (.exit 2) ρ' w') : W fn_ Try.prog 34 (Code.loop dispatcherlaw14_within_L2) K ρ w := by
  obtain ⟨A, c, es, _⟩ := reads_cap (reads_of_owns hb)
  refine W_loop dispatcherlaw14_within_L2_ok (fun ρ' w' => ∃ k : Nat, k ≤ Lb.length ∧ ρ' 7 = .int .i64 k ∧ ρ' 6 = .bool ((Lb.take k).any fun y => decide (x = y)) ∧ (∀ j, j < 14 → j ≠ 6 → j ≠ 7 → ρ' j = ρ j) ∧ Mod none_ w w') (fun ρ' _ => Lb.length - (intOf (ρ' 7)).toNat)
    ⟨0, Nat.zero_le _, e7, e6, fun _ _ _ _ => rfl, Mod.refl _ _⟩ ?_
  rintro ρ1 w1 ⟨k, hkl, c7, c6, hlo, hm1⟩
  have c0 : ρ1 0 = va := (hlo 0 (by decide) (by decide) (by decide)).trans e0
  have c1 : ρ1 1 = vb := (hlo 1 (by decide) (by decide) (by decide)).trans e1
  have c5 : ρ1 5 = .int .i64 i := (hlo 5 (by decide) (by decide) (by decide)).trans e5
  rw [dispatcherlaw14_within_L2_eq]; unfold dispatcherlaw14_within_L2_F
  rw [c7, c1, es, len_sl vMsS, ← es, BK_lss]
  by_cases hlt : k < Lb.length
  · rw [decide_eq_true (by omega)]
    refine condT ?_
    have hy : Lb[k]? = some Lb[k] := List.getElem?_eq_getElem hlt
    refine within_R5 (k := k) (i := i) (owns_mod ha hm1 fun _ _ => id) (owns_mod hb hm1 fun _ _ => id) hx hy (by first | exact c0 | rfl) (by first | exact c1 | rfl) (by first | exact c5 | rfl) (by first | exact c7 | rfl) (by first | exact c6 | rfl) ?_
    intro ρ2 w2 d6 hlo2 hm2
    have d7 : ρ2 7 = .int .i64 (k : Int) := (hlo2 7 (by decide) (by decide)).trans (by first | exact c7 | rfl)
    rw [bk_n, sq_n, dispatcherlaw14_within_R6_eq]; unfold dispatcherlaw14_within_R6_F
    rw [d7, BK_add, wrap_i (by omega) (by omega)]
    refine ⟨⟨k + 1, hlt, rfl, ?_, fun j hj h6 h7 => ?_, hm1.trans hm2⟩, ?_⟩
    · show ρ2 6 = _
      rw [d6, List.take_add_one, hy, Option.toList_some, List.any_append]
      simp
    · rw [up_nq h7, up_lo (n := 18) (by omega) (by decide), up_lo (n := 18) (by omega) (by decide), hlo2 j (by omega) h6, up_lo hj (by decide), up_lo hj (by decide), up_lo hj (by decide), up_lo hj (by decide)]
      exact hlo j hj h6 h7
    · simp only [sq_n, sq_x, sq_r, bk_n, bk_r, bk_x, rt_r, rt_n, rs_0, rs_t, pk_1, pk_2, up_at, reduceIte, Nat.reduceEqDiff, intOf]; omega
  · obtain rfl : k = Lb.length := by omega
    rw [decide_eq_false (by omega)]
    refine condF ?_
    rw [List.take_length] at c6
    refine hk _ w1 (by first | exact c6 | rfl) (fun j hj h6 h7 => ?_) hm1
    rw [up_lo hj (by decide), up_lo hj (by decide), up_lo hj (by decide), up_lo hj (by decide)]
    exact hlo j hj h6 h7
theorem within_ok (ha : w.ownsRow B tMs 8 va La.length (La.flatMap Ms.enc)) (hb : w.ownsRow B' tMs 8 vb Lb.length (Lb.flatMap Ms.enc)) (hal : La.length ≤ 64) (hbl : Lb.length ≤ 64) (hsub : ∀ m ∈ La, m ∈ Lb) : Rt Try.prog 22 #[va, vb] w fun v w' => v = .bool true ∧ Mod none_ w w' := by
  refine dispatcherlaw14_within_calls ?_
  unfold dispatcherlaw14_within_F
  obtain ⟨A, c, es, _⟩ := reads_cap (reads_of_owns ha)
  refine W_loop dispatcherlaw14_within_L0_ok (fun ρ w' => ∃ i : Nat, i ≤ La.length ∧ ρ 5 = .int .i64 i ∧ ρ 0 = va ∧ ρ 1 = vb ∧ Mod none_ w w') (fun ρ _ => La.length - (intOf (ρ 5)).toNat)
    ⟨0, Nat.zero_le _, rfl, rfl, rfl, Mod.refl _ _⟩ ?_
  rintro ρ1 w1 ⟨i, hi, c5, c0, c1, hm1⟩
  rw [dispatcherlaw14_within_L0_eq]; unfold dispatcherlaw14_within_L0_F
  rw [c5, c0, es, len_sl vMsS, ← es, BK_lss]
  by_cases hlt : i < La.length
  · rw [decide_eq_true (by omega)]
    refine condT ?_
    have hx : La[i]? = some La[i] := List.getElem?_eq_getElem hlt
    have hmem := hsub _ (List.getElem_mem hlt)
    generalize La[i] = x at *
    refine within_L2 (i := i) (owns_mod ha hm1 fun _ _ => id) (owns_mod hb hm1 fun _ _ => id) hbl hx (by first | exact c0 | rfl) (by first | exact c1 | rfl) (by first | exact c5 | rfl) rfl rfl ?_
    intro ρ2 w2 d6 hlo hm2
    have d5 : ρ2 5 = .int .i64 (i : Int) := (hlo 5 (by decide) (by decide) (by decide)).trans (by first | exact c5 | rfl)
    have d0 : ρ2 0 = va := (hlo 0 (by decide) (by decide) (by decide)).trans (by first | exact c0 | rfl)
    have d1 : ρ2 1 = vb := (hlo 1 (by decide) (by decide) (by decide)).trans (by first | exact c1 | rfl)
    rw [bk_x, sq_n, dispatcherlaw14_within_R3_eq]; unfold dispatcherlaw14_within_R3_F
    rw [d6, show (Lb.any fun y => decide (x = y)) = true from List.any_eq_true.2 ⟨x, hmem, by simp⟩, not_ok]
    refine condF ?_
    rw [bk_n, sq_n, dispatcherlaw14_within_R4_eq]; unfold dispatcherlaw14_within_R4_F
    have key : ∀ ρ3 : Sl, ρ3 5 = .int .i64 (i : Int) → ρ3 0 = va → ρ3 1 = vb → BK Try.prog .add 3 (.tmp 12) (.const (.int .i64 1)) (ρ3 5) (.int .i64 1) w2 fun x13 w' => ((∃ i : Nat, i ≤ La.length ∧ (up (up (up ρ3 12 (ρ3 5)) 13 x13) 5 x13) 5 = .int .i64 i ∧ (up (up (up ρ3 12 (ρ3 5)) 13 x13) 5 x13) 0 = va ∧ (up (up (up ρ3 12 (ρ3 5)) 13 x13) 5 x13) 1 = vb ∧ Mod none_ w w') ∧ La.length - (intOf ((up (up (up ρ3 12 (ρ3 5)) 13 x13) 5 x13) 5)).toNat < La.length - (intOf (.int .i64 (i : Int))).toNat) := by
      intro ρ3 q5 q0 q1
      rw [q5, BK_add, wrap_i (by omega) (by omega)]
      refine ⟨⟨i + 1, hlt, rfl, q0, q1, hm1.trans hm2⟩, ?_⟩
      simp only [sq_n, sq_x, sq_r, bk_n, bk_r, bk_x, rt_r, rt_n, rs_0, rs_t, pk_1, pk_2, up_at, reduceIte, Nat.reduceEqDiff, intOf]; omega
    exact key _ (by first | exact d5 | rfl) (by first | exact d0 | rfl) (by first | exact d1 | rfl)
  · obtain rfl : i = La.length := by omega
    rw [decide_eq_false (by omega)]
    refine condF ?_
    rw [sq_x, bk_x, sq_n, dispatcherlaw14_within_R1_eq]; unfold dispatcherlaw14_within_R1_F
    exact ⟨rfl, hm1⟩
end
end Go.Proofs.Ytmnkedgmpbcicaa.Que
set_option linter.unusedVariables false
set_option linter.unusedSimpArgs false
set_option maxRecDepth 8000
namespace Go.Proofs.Ytmnkedgmpbcicaa.Que
open Go Go.X Go.RowKit Go.Proofs.Ytmnkedgmpbcicaa.XF Go.Proofs.Ytmnkedgmpbcicaa.XG Go.Proofs.Ytmnkedgmpbcicaa.XK
abbrev tWs : TypeId := 45
theorem vWs : Try.prog.underlying tWs = some (.slice tMsS) := by kernel_rfl
theorem cWs : Try.prog.cellsOf tMsS = 0 + 1 := by kernel_rfl
theorem eWs : elemOk Try.prog tWs tMsS 1 24 = true := by kernel_rfl
theorem may_done {R : Rks} {ls : List Ms} {rk c : Int} {x : Rc} (hx : atV R rk c = some x) (hd : x.done = true) : mayV R ls rk c = [] := by
  unfold atV at hx
  unfold mayV
  rcases idxR_find (l := rowP R rk) (q := isC c) with ⟨_, hf⟩ | ⟨j, r, _, hjr, hf, hfi⟩
  · rw [hf] at hx; cases hx
  · rw [hf] at hx
    cases hx
    rw [hfi]
    dsimp only
    rw [hjr]
    dsimp only
    rw [hd]
    rfl
theorem Beside.grow {q p : Nat} {V : QV} {vs : List Value} {w w' : World} {o : Value} (h : Beside q p V vs w o) (hs : w.heap.size ≤ w'.heap.size) : Beside q p V vs w' o := ⟨h.ap, fun g z => Nat.lt_of_lt_of_le (h.old g z) hs⟩
theorem own_cell {w : World} {B n : Nat} {e : TypeId} {sz : Nat} {v : Value} {xs : List Value} (h : w.ownsRow B e sz v n xs) : v.oneCell' = true := by
  rcases h.2 with ⟨rfl, _⟩ | ⟨g, cap, cur, rfl, _⟩ <;> rfl
structure GrI (w0 w : World) (q p : Nat) (ls : List Ms) (V : QV) (R : Rks) (vs : List Value) (Ws : List Rc) (vw o : Value) (vals : List Value) (f : Nat → List Ms) : Prop where
  pp : PP w0 w q p ls V R vs
  wo : w.ownsRow w0.heap.size tRc 9 vw Ws.length (Ws.flatMap Rc.enc)
  wb : Beside q p V vs w vw
  oo : w.ownsRow w0.heap.size tMsS 1 o vals.length vals
  ob : Beside q p V vs w o
  rows : ∀ (i : Nat) val, vals[i]? = some val → w.ownsRow w0.heap.size tMs 8 val (f i).length ((f i).flatMap Ms.enc)
  rb : ∀ (i : Nat) val, vals[i]? = some val → Beside q p V vs w val
section
variable {w0 w w' : World} {q p : Nat} {ls ls' : List Ms} {V V' : QV} {R R' : Rks} {vs vs' : List Value} {Ws : List Rc} {vw o : Value} {vals : List Value} {f : Nat → List Ms}
theorem GrI.act (h : GrI w0 w q p ls V R vs Ws vw o vals f) (hP : PP w0 w' q p ls' V' R' vs') (hM : MFr q p w V vs w' V' vs') : GrI w0 w' q p ls' V' R' vs' Ws vw o vals f :=
  ⟨hP, h.wb.keep hM h.wo, h.wb.on hM, h.ob.keep hM h.oo, h.ob.on hM, fun i val hv => (h.rb i val hv).keep hM (h.rows i val hv), fun i val hv => (h.rb i val hv).on hM⟩
theorem GrI.calm (h : GrI w0 w q p ls V R vs Ws vw o vals f) (hm : Mod none_ w w') : GrI w0 w' q p ls V R vs Ws vw o vals f := h.act (h.pp.calm hm) (MFr.calm hm)
theorem GrI.wr (h : GrI w0 w q p ls V R vs Ws vw o vals f) (hm : Mod (fun b => sb o b) w w') : PP w0 w' q p ls V R vs ∧ w'.ownsRow w0.heap.size tRc 9 vw Ws.length (Ws.flatMap Rc.enc) ∧ Beside q p V vs w' vw ∧ ∀ {B n : Nat} {val : Value} {xs : List Value}, w.ownsRow B tMs 8 val n xs → w'.ownsRow B tMs 8 val n xs :=
  ⟨h.pp.move hm fun b z => ⟨fun y => h.ob.ap b z (.inl y), fun y => h.ob.ap b z (.inr y), (owns_bd h.oo b z).1⟩,
   owns_mod h.wo hm fun k z y => owns_ne h.wo h.oo (by decide) k z y.symm,
   h.wb.grow hm.size,
   fun ho => owns_mod ho hm fun k z y => owns_ne ho h.oo (by decide) k z y.symm⟩
theorem GrI.put {K : Value → World → Prop} {i : Nat} {val : Value} {L : List Ms} (h : GrI w0 w q p ls V R vs Ws vw o vals f) (hi : i < vals.length) (hv : w.ownsRow w0.heap.size tMs 8 val L.length (L.flatMap Ms.enc)) (hb : Beside q p V vs w val)
    (hk : ∀ x w', GrI w0 w' q p ls V R vs Ws vw o (vals.set i val) (fun j => if j = i then L else f j) → K x w') : VK Try.prog (Instr.indexAt tWs o (.int .i64 (i : Int))) w fun x w => UK Try.prog (Instr.storeAt tMsS x val) w fun _ w => K x w := by
  obtain ⟨g, cap, eo, _⟩ := owns_some h.oo (by omega)
  have hgo : sb o g := by rw [eo]; rfl
  have hoo := h.oo
  rw [eo] at hoo ⊢
  rw [VK_eq_of (run_ixa vWs cWs (by omega) (by omega) w), add_pl, show 0 + (i : Int).toNat * (0 + 1) = i by omega]
  refine st_row (by kernel_rfl) (own_cell hv) hoo (by omega) fun w' ho' hm' => ?_
  have hm : Mod (fun b => sb o b) w w' := hm'.mono fun b _ z => z ▸ hgo
  obtain ⟨h1, h2, h3, h4⟩ := h.wr hm
  refine hk _ w' ⟨h1, h2, h3, ?_, h.ob.grow hm.size, fun j u hu => ?_, fun j u hu => ?_⟩
  · rw [List.length_set, eo]
    exact ho'
  · by_cases hj : j = i
    · subst hj
      rw [if_pos rfl]
      rw [List.getElem?_set_self hi] at hu
      cases hu
      exact h4 hv
    · rw [if_neg hj]
      rw [List.getElem?_set_ne (fun z => hj z.symm)] at hu
      exact h4 (h.rows j u hu)
  · by_cases hj : j = i
    · subst hj
      rw [List.getElem?_set_self hi] at hu
      cases hu
      exact hb.grow hm.size
    · rw [List.getElem?_set_ne (fun z => hj z.symm)] at hu
      exact (h.rb j u hu).grow hm.size
theorem GrI.get (h : GrI w0 w q p ls V R vs Ws vw o vals f) {i : Nat} {val : Value} (hi : vals[i]? = some val) {K : Value → Value → World → Prop} (hk : ∀ x, K x val w) : VK Try.prog (Instr.indexAt tWs o (.int .i64 (i : Int))) w fun x w => VK Try.prog (Instr.loadAt tMsS x) w (K x) :=
  ixld vWs (by kernel_rfl) vMsS rfl (reads_of_owns h.oo) (by omega) (u := val) (by simpa using hi) hk
theorem GrI.app {K : Value → Value → World → Prop} {val : Value} {L : List Ms} (h : GrI w0 w q p ls V R vs Ws vw o vals f) (hl : vals.length ≤ 1000000) (hv : w.ownsRow w0.heap.size tMs 8 val L.length (L.flatMap Ms.enc)) (hb : Beside q p V vs w val)
    (hk : ∀ x o' w', GrI w0 w' q p ls V R vs Ws vw o' (vals ++ [val]) (fun j => if j = vals.length then L else f j) → K x o' w') : VK Try.prog (Instr.buildSlice tWs 1 [(0, val)].toArray) w fun x w => IK Try.prog .append #[tWs, tWs] tWs [false, false] [o, x] w (K x) := by
  have hs0 := h.pp.mod.size
  refine snoc eWs h.oo (cs := #[val]) ?_ rfl (fun u hu => by rw [List.mem_singleton.1 hu]; exact own_cell hv) (by unfold maxLen; omega) (by omega) hs0 fun x o' w' ho' hm' hv' => ?_
  · rcases hv.2 with ⟨rfl, _⟩ | ⟨g, cap, cur, rfl, _⟩ <;> kernel_rfl
  have hm : Mod (fun b => sb o b) w w' := hm'.mono fun b _ z => z.symm
  obtain ⟨h1, h2, h3, h4⟩ := h.wr hm
  refine hk x o' w' ⟨h1, h2, h3, ?_, ⟨fun g z => ?_, fun g z => (owns_bd ho' g z).2⟩, fun j u hu => ?_, fun j u hu => ?_⟩
  · rw [List.length_append, List.length_singleton]
    exact ho'
  · rcases hv' with e | ⟨g', e, hg⟩
    · exact h.ob.ap g (by unfold sb at z ⊢; rw [← e]; exact z)
    · unfold sb at z
      rw [e] at z
      cases z
      rintro (y | y)
      · have := h.pp.qa.old _ y; omega
      · have := h.pp.pa.old _ y; omega
  · by_cases hj : j = vals.length
    · subst hj
      rw [if_pos rfl]
      rw [List.getElem?_append_right (Nat.le_refl _)] at hu
      simp at hu
      rw [← hu]
      exact h4 hv
    · rw [if_neg hj]
      have hlt : j < vals.length := by
        have := (List.getElem?_eq_some_iff.1 hu).1
        rw [List.length_append, List.length_singleton] at this
        omega
      rw [List.getElem?_append_left hlt] at hu
      exact h4 (h.rows j u hu)
  · by_cases hj : j = vals.length
    · subst hj
      rw [List.getElem?_append_right (Nat.le_refl _)] at hu
      simp at hu
      rw [← hu]
      exact hb.grow hm.size
    · have hlt : j < vals.length := by
        have := (List.getElem?_eq_some_iff.1 hu).1
        rw [List.length_append, List.length_singleton] at this
        omega
      rw [List.getElem?_append_left hlt] at hu
      exact (h.rb j u hu).grow hm.size
end
end Go.Proofs.Ytmnkedgmpbcicaa.Que
set_option linter.unusedVariables false
set_option linter.unusedSimpArgs false
set_option maxRecDepth 8000
namespace Go.Proofs.Ytmnkedgmpbcicaa.Que
open Go Go.X Go.RowKit Go.Proofs.Ytmnkedgmpbcicaa.XF Go.Proofs.Ytmnkedgmpbcicaa.XG Go.Proofs.Ytmnkedgmpbcicaa.XK
def fM (Ws : List Rc) (rk : Int) (R : Rks) (ls : List Ms) (i : Nat) : List Ms := match Ws[i]? with | some r => mayV R ls rk r.call | none => []
structure GrR (q p : Nat) (rk : Int) (vw o mv : Value) (n : Nat) (ρ : Sl) : Prop where
  s7 : ρ 7 = .pointer (some ⟨q, 0, none⟩)
  s8 : ρ 8 = .pointer (some ⟨p, 0, none⟩)
  s9 : ρ 9 = .int .i64 rk
  s10 : ρ 10 = vw
  s11 : ρ 11 = o
  s1 : ρ 1 = mv
  s13 : ρ 13 = .int .i64 n
theorem nilBeside {q p : Nat} {V : QV} {vs : List Value} {w : World} : Beside q p V vs w (.slice none 0 0) := ⟨fun g z => (by cases z), fun g z => (by cases z)⟩
section
variable {w0 w : World} {q p : Nat} {ls ls' : List Ms} {V' : QV} {R R' : Rks} {vs' : List Value} {Ws : List Rc} {vw o mv : Value} {vals : List Value} {rk : Int} {n : Nat}
theorem grows_R7 {K : Exit → Sl → World → Prop} {ρ : Sl} {k : Nat} (hk : k ≤ 1000) (hr : GrR q p rk vw o mv n ρ) (e14 : ρ 14 = .int .i64 k) (hK : ∀ ρ' : Sl, GrR q p rk vw o mv n ρ' → ρ' 14 = .int .i64 (k + 1 : Nat) → K .normal ρ' w) : sx fn_ Try.prog 112 dispatcherlaw14_PostedGrows_R7 K ρ w := by
  rw [dispatcherlaw14_PostedGrows_R7_eq]; unfold dispatcherlaw14_PostedGrows_R7_F
  rw [e14, BK_add, wrap_i (by omega) (by omega)]
  exact hK _ ⟨hr.s7, hr.s8, hr.s9, hr.s10, hr.s11, hr.s1, hr.s13⟩ rfl
theorem grows_L5 {K : Exit → Sl → World → Prop} {ρ : Sl} (hok : OkQ R ls) (hok' : OkQ R' ls') (hst : StepQ R ls R' ls') (hu : ls.Pairwise fun a b => ¬ (a.frm = b.frm ∧ a.call = b.call)) (hat : ∀ (i : Nat) r, Ws[i]? = some r → (atV R' rk r.call).isSome = true)
    (hlen : ∀ i, (R' i).length ≤ 500) (hls : ls'.length ≤ 500) (hWl : Ws.length ≤ 200) (h : GrI w0 w q p ls' V' R' vs' Ws vw o vals (fM Ws rk R ls)) (hvl : vals.length = Ws.length) (hr : GrR q p rk vw o mv n ρ) (e14 : ρ 14 = .int .i64 0)
    (hK : ∀ (ρ' : Sl) (w' : World) (vals' : List Value), GrR q p rk vw o mv n ρ' → vals'.length = Ws.length → GrI w0 w' q p ls' V' R' vs' Ws vw o vals' (fM Ws rk R' ls') → K (.exit 4) ρ' w') : W fn_ Try.prog 112 (Code.loop dispatcherlaw14_PostedGrows_L5) K ρ w := by
  refine W_loop dispatcherlaw14_PostedGrows_L5_ok (fun ρ' w' => ∃ (k : Nat) (vals' : List Value) (f : Nat → List Ms), k ≤ Ws.length ∧ ρ' 14 = .int .i64 k ∧ GrR q p rk vw o mv n ρ' ∧ vals'.length = Ws.length ∧ (∀ i, i < k → f i = fM Ws rk R' ls' i) ∧ (∀ i, k ≤ i → f i = fM Ws rk R ls i) ∧ GrI w0 w' q p ls' V' R' vs' Ws vw o vals' f) (fun ρ' _ => Ws.length - (intOf (ρ' 14)).toNat)
    ⟨0, vals, fM Ws rk R ls, Nat.zero_le _, e14, hr, hvl, fun i hi => by omega, fun i _ => rfl, h⟩ ?_
  rintro ρ1 w1 ⟨k, vals1, f, hkl, c14, hr1, hv1, hf1, hf2, h1⟩
  rw [dispatcherlaw14_PostedGrows_L5_eq]; unfold dispatcherlaw14_PostedGrows_L5_F
  obtain ⟨A, c, es, _⟩ := reads_cap (reads_of_owns h1.wo)
  rw [c14, hr1.s10, hr1.s7, hr1.s8, hr1.s9, hr1.s11, es, len_sl vRcS, ← es, BK_lss]
  by_cases hlt : k < Ws.length
  · rw [decide_eq_true (by omega)]
    refine condT ?_
    have hx : Ws[k]? = some Ws[k] := List.getElem?_eq_getElem hlt
    generalize Ws[k] = r at *
    obtain ⟨a, ha, hc, _⟩ := rc_any (reads_of_owns h1.wo) hx
    rw [VK_eq_of (ha w1), fo (show fieldOff Try.prog tRc 2 = some 2 by kernel_rfl)]
    refine ld1 vI rfl (hc w1 (Mod.refl _ _) 2 (.int .i64 r.call) rfl) ?_
    refine CK_st Try.func21 rfl rfl (At_ok h1.pp.pa (fun i => by have := hlen i; omega) rk r.call) ?_
    rintro _ w2 ⟨rfl, hm2⟩
    obtain ⟨x, hax⟩ := Option.isSome_iff_exists.1 (hat k r hx)
    rw [hax]
    unfold rcb
    rw [extract_ok (v := .agg x.enc.toArray) rfl, extract_ok (v := .bool true) rfl]
    refine rcSlot_k fun w3 hb3 hm3 hz3 => ?_
    rw [not_ok]
    refine condF ?_
    have hm13 := hm2.trans hm3
    have h3 := h1.calm hm13
    have g6 : FO Try.prog w3 tRc 6 6 ⟨w2.heap.size, 0, none⟩ 4 (.bool x.done) := FO.blk hb3 (by kernel_rfl) vB rfl rfl
    rw [g6.e]
    have e1 : fM Ws rk R' ls' k = mayV R' ls' rk r.call := by unfold fM; rw [hx]
    have e2 : fM Ws rk R ls k = mayV R ls rk r.call := by unfold fM; rw [hx]
    have fin : ∀ (ρ2 : Sl) (w' : World) (val : Value) (L : List Ms), L = mayV R' ls' rk r.call → GrR q p rk vw o mv n ρ2 → ρ2 14 = .int .i64 (k + 1 : Nat) → GrI w0 w' q p ls' V' R' vs' Ws vw o (vals1.set k val) (fun j => if j = k then L else f j) →
        (∃ (k : Nat) (vals' : List Value) (f : Nat → List Ms), k ≤ Ws.length ∧ ρ2 14 = .int .i64 k ∧ GrR q p rk vw o mv n ρ2 ∧ vals'.length = Ws.length ∧ (∀ i, i < k → f i = fM Ws rk R' ls' i) ∧ (∀ i, k ≤ i → f i = fM Ws rk R ls i) ∧ GrI w0 w' q p ls' V' R' vs' Ws vw o vals' f) ∧ Ws.length - (intOf (ρ2 14)).toNat < Ws.length - (intOf (.int .i64 (k : Int))).toNat := by
      intro ρ2 w' val L hL hr2 q14 h2
      refine ⟨⟨k + 1, _, _, hlt, q14, hr2, by rw [List.length_set]; exact hv1, fun i hi => ?_, fun i hi => ?_, h2⟩, ?_⟩
      · by_cases hik : i = k
        · rw [if_pos hik, hik, e1]; exact hL
        · rw [if_neg hik]; exact hf1 i (by omega)
      · rw [if_neg (by omega)]; exact hf2 i (by omega)
      · rw [q14]
        simp only [intOf]; omega
    have hlo : ∀ ρ2 : Sl, (∀ j, j < 15 → ρ2 j = ρ1 j) → GrR q p rk vw o mv n ρ2 := fun ρ2 hl => ⟨(hl 7 (by decide)).trans hr1.s7, (hl 8 (by decide)).trans hr1.s8, (hl 9 (by decide)).trans hr1.s9, (hl 10 (by decide)).trans hr1.s10, (hl 11 (by decide)).trans hr1.s11, (hl 1 (by decide)).trans hr1.s1, (hl 13 (by decide)).trans hr1.s13⟩
    cases hd : x.done with
    | true =>
      refine condT ?_
      refine GrI.put (L := []) h3 (by omega) (World.ownsRow_nil _ _ _ _) nilBeside fun _ w4 h4 => ?_
      refine grows_R7 (q := q) (p := p) (rk := rk) (vw := vw) (o := o) (mv := mv) (n := n) (k := k) (by omega) (hlo _ fun j hj => ?_) (by first | exact c14 | rfl) ?_
      · repeat rw [up_lo hj (by decide)]
      intro ρ2 hr2 q14
      exact fin ρ2 w4 _ [] (may_done hax hd).symm hr2 q14 h4
    | false =>
      refine condF ?_
      obtain ⟨a2, ha2, hc2, _⟩ := rc_any (reads_of_owns h3.wo) hx
      rw [VK_eq_of (ha2 w3), fo (show fieldOff Try.prog tRc 2 = some 2 by kernel_rfl)]
      refine ld1 vI rfl (hc2 w3 (Mod.refl _ _) 2 (.int .i64 r.call) rfl) ?_
      refine CK_st Try.func16 rfl rfl (May_ok h3.pp.pa (fun i => by have := hlen i; omega) h3.pp.qa hok'.frm (by omega) rk r.call) ?_
      rintro vn w4 ⟨ho4, hm4⟩
      have h4 := h3.calm hm4
      have hbn : Beside q p V' vs' w4 vn := Beside.new h3.pp ho4
      have ho4' := owns_base ho4 h3.pp.mod.size
      have hkv : k < vals1.length := by omega
      have hvk : vals1[k]? = some vals1[k] := List.getElem?_eq_getElem hkv
      have hrow := h4.rows k _ hvk
      rw [hf2 k (Nat.le_refl _), e2] at hrow
      have hsub : ∀ m ∈ mayV R ls rk r.call, m ∈ mayV R' ls' rk r.call := fun m hm => grows hok hu hst hax hd hm
      have key : ∀ ρ2 : Sl, ρ2 11 = o → ρ2 14 = .int .i64 k → ρ2 17 = vn → GrR q p rk vw o mv n ρ2 → ∀ (K2 : Exit → Sl → World → Prop), (∀ (ρ3 : Sl) (w' : World), GrR q p rk vw o mv n ρ3 → ρ3 14 = .int .i64 (k : Nat) → GrI w0 w' q p ls' V' R' vs' Ws vw o (vals1.set k vn) (fun j => if j = k then mayV R' ls' rk r.call else f j) → K2 .normal ρ3 w') → sx fn_ Try.prog 112 dispatcherlaw14_PostedGrows_R8 K2 ρ2 w4 := by
        intro ρ2 q11 q14 q17 hr2 K2 hK2
        rw [dispatcherlaw14_PostedGrows_R8_eq]; unfold dispatcherlaw14_PostedGrows_R8_F
        rw [q11, q14, q17]
        refine GrI.get h4 hvk fun _ => ?_
        refine CK_st Try.func22 rfl rfl (within_ok hrow ho4' (may_len ..) (may_len ..) hsub) ?_
        rintro _ w5 ⟨rfl, hm5⟩
        have h5 := h4.calm hm5
        rw [not_ok]
        refine condF ?_
        refine GrI.put h5 hkv (owns_mod ho4' hm5 fun _ _ => id) (hbn.on (MFr.calm hm5)) fun _ w6 h6 => ?_
        exact hK2 _ w6 ⟨hr2.s7, hr2.s8, hr2.s9, hr2.s10, by first | exact hr2.s11 | exact q11, hr2.s1, hr2.s13⟩ (by first | exact q14 | rfl) h6
      refine key _ (by first | exact hr1.s11 | rfl) (by first | exact c14 | rfl) rfl (hlo _ fun j hj => ?_) _ ?_
      · rw [up_nq (by omega)]
        repeat rw [up_lo hj (by decide)]
      intro ρ3 w6 hr3 q14 h6
      rw [bk_n, sq_n]
      refine grows_R7 (q := q) (p := p) (rk := rk) (vw := vw) (o := o) (mv := mv) (n := n) (k := k) (by omega) hr3 q14 ?_
      intro ρ4 hr4 q14'
      exact fin ρ4 w6 _ _ rfl hr4 q14' h6
  · obtain rfl : k = Ws.length := by omega
    rw [decide_eq_false (by omega)]
    refine condF ?_
    have hfe : f = fM Ws rk R' ls' := by
      funext i
      by_cases hi : i < Ws.length
      · exact hf1 i hi
      · rw [hf2 i (by omega)]
        unfold fM
        rw [List.getElem?_eq_none (by omega)]
    subst hfe
    refine hK _ w1 vals1 ⟨by first | exact hr1.s7 | rfl, by first | exact hr1.s8 | rfl, by first | exact hr1.s9 | rfl, by first | exact hr1.s10 | rfl, by first | exact hr1.s11 | rfl, by first | exact hr1.s1 | rfl, by first | exact hr1.s13 | rfl⟩ hv1 h1
end
theorem grows_R2 {w0 w : World} {q p : Nat} {ls : List Ms} {V : QV} {R : Rks} {vs : List Value} {Ws : List Rc} {vw o mv : Value} {vals : List Value} {rk : Int} {R1 : Value → World → Prop} {ρ : Sl} {more : List Bc} (hmv : Bcts w0 mv more) (hml : more.length ≤ 120) (hrk : 0 ≤ rk ∧ rk ≤ 63) (hok : OkQ R ls) (hat : ∀ (i : Nat) r, Ws[i]? = some r → (atV R rk r.call).isSome = true)
    (hlen : ∀ i, (R i).length ≤ 120) (hls : ls.length ≤ 120) (hWl : Ws.length ≤ 120) (h : GrI w0 w q p ls V R vs Ws vw o vals (fM Ws rk R ls)) (hvl : vals.length = Ws.length) (s7 : ρ 7 = .pointer (some ⟨q, 0, none⟩)) (s8 : ρ 8 = .pointer (some ⟨p, 0, none⟩)) (s9 : ρ 9 = .int .i64 rk) (s10 : ρ 10 = vw) (s11 : ρ 11 = o) (s1 : ρ 1 = mv)
    (hR : ∀ w', Mod none_ w0 w' → R1 (.bool true) w') : sx fn_ Try.prog 112 dispatcherlaw14_PostedGrows_R2 (retK Try.prog [ResultVar.tmp 6] R1) ρ w := by
  rw [dispatcherlaw14_PostedGrows_R2_eq]; unfold dispatcherlaw14_PostedGrows_R2_F
  obtain ⟨A, c, es, _⟩ := reads_cap hmv
  refine W_loop dispatcherlaw14_PostedGrows_L3_ok (fun ρ' w' => ∃ (n : Nat) (ls : List Ms) (V : QV) (R : Rks) (vs vals : List Value), n ≤ more.length ∧ GrR q p rk vw o mv n ρ' ∧ OkQ R ls ∧ (∀ (i : Nat) r, Ws[i]? = some r → (atV R rk r.call).isSome = true) ∧ (∀ i, (R i).length ≤ 120 + n) ∧ ls.length ≤ 120 + n ∧ vals.length = Ws.length ∧ GrI w0 w' q p ls V R vs Ws vw o vals (fM Ws rk R ls)) (fun ρ' _ => more.length - (intOf (ρ' 13)).toNat)
    ⟨0, ls, V, R, vs, vals, Nat.zero_le _, ⟨by first | exact s7 | rfl, by first | exact s8 | rfl, by first | exact s9 | rfl, by first | exact s10 | rfl, by first | exact s11 | rfl, by first | exact s1 | rfl, rfl⟩, hok, hat, hlen, hls, hvl, h⟩ ?_
  clear h hvl hat hlen hls hok
  rintro ρ1 w1 ⟨n, ls, V, R, vs, vals, hn, hr1, hok, hat, hlen, hls, hvl, h⟩
  rw [dispatcherlaw14_PostedGrows_L3_eq]; unfold dispatcherlaw14_PostedGrows_L3_F
  rw [hr1.s13, hr1.s1, hr1.s7, hr1.s8, es, len_sl vBcs, ← es, BK_lss]
  by_cases hlt : n < more.length
  · rw [decide_eq_true (by omega)]
    refine condT ?_
    refine ldBc (Bcts.calm hmv h.pp.mod) (List.getElem?_eq_getElem hlt) rfl fun _ => ?_
    refine CK_st Try.func20 rfl rfl (act_ok h.pp (fun j => by have := hlen j; omega) hok.frm (by omega) more[n]) ?_
    rintro _ w2 ⟨R', ls', V', vs', hst, hP, hM⟩
    have h2 := h.act hP hM
    have hl := step_len hst hlen hls
    have hok' := hok.step hst
    have hat' : ∀ (i : Nat) r, Ws[i]? = some r → (atV R' rk r.call).isSome = true := fun i r hi => at_stays hok hst hrk (hat i r hi)
    refine grows_L5 (rk := rk) (n := n) (mv := mv) (R := R) (ls := ls) hok hok' hst h.pp.qa.inv.uniq hat' (fun i => by have := hl.1 i; omega) (by have := hl.2; omega) (by omega) h2 hvl ⟨by first | exact hr1.s7 | rfl, by first | exact hr1.s8 | rfl, by first | exact hr1.s9 | rfl, by first | exact hr1.s10 | rfl, by first | exact hr1.s11 | rfl, by first | exact hr1.s1 | rfl, by first | exact hr1.s13 | rfl⟩ rfl ?_
    intro ρ3 w3 vals3 hr3 hv3 h3
    rw [bk_x, bk_n, sq_n, dispatcherlaw14_PostedGrows_R6_eq]; unfold dispatcherlaw14_PostedGrows_R6_F
    rw [hr3.s13, BK_add, wrap_i (by omega) (by omega)]
    refine ⟨⟨n + 1, ls', V', R', vs', vals3, hlt, ⟨hr3.s7, hr3.s8, hr3.s9, hr3.s10, hr3.s11, hr3.s1, rfl⟩, hok', hat', hl.1, hl.2, hv3, h3⟩, ?_⟩
    simp only [sq_n, sq_x, sq_r, bk_n, bk_r, bk_x, rt_r, rt_n, rs_0, rs_t, pk_1, pk_2, up_at, reduceIte, Nat.reduceEqDiff, intOf]; omega
  · obtain rfl : n = more.length := by omega
    rw [decide_eq_false (by omega)]
    refine condF ?_
    rw [sq_x, bk_x, sq_n, dispatcherlaw14_PostedGrows_R4_eq]; unfold dispatcherlaw14_PostedGrows_R4_F
    show R1 (.bool true) w1
    exact hR w1 h.pp.mod
theorem PostedGrows_ok {w : World} {v mv : Value} {l more : List Bc} (h : Bcts w v l) (hmv : Bcts w mv more) {a : Int} (ha : 0 ≤ a) : Rt Try.prog 5 #[v, mv, .int .u8 a] w fun u w' => u = .bool true ∧ Mod none_ w w' := by
  refine dispatcherlaw14_PostedGrows_calls ?_
  unfold dispatcherlaw14_PostedGrows_F
  refine CK_st Try.func10 rfl rfl (awake14_ok w) ?_
  rintro _ w1 ⟨rfl, hm1⟩
  rw [not_ok]
  refine condF ?_
  refine CK_st Try.func11 rfl rfl (GreatB_ok (Bcts.calm h hm1)) ?_
  rintro _ w1 ⟨rfl, rfl⟩
  cases hgr : greatB l with
  | true =>
    simp only [↓VG_u, ↓UG_u, ↓MG_u, ↓NG_u, ↓PG_u, ↓BG_u, ↓CG_u, ↓IG_u, ↓VGtt, ↓VGtf, ↓VGft, ↓VGff, ↓UGtt, ↓UGtf, ↓UGft, ↓UGff, ↓MGtt, ↓MGtf, ↓MGft, ↓MGff, ↓NGtt, ↓NGtf, ↓NGft, ↓NGff, ↓PGtt, ↓PGtf, ↓PGft, ↓PGff, ↓BGtt, ↓BGtf, ↓BGft, ↓BGff, ↓CGtt, ↓CGtf, ↓CGft, ↓CGff, ↓IGtt, ↓IGtf, ↓IGft, ↓IGff, ↓PKt, ↓PKf, ↓CDt, ↓CDf, ↓NOTt, ↓NOTf, ↓NK_ptr]
    exact ⟨by trivial, hm1⟩
  | false =>
  simp only [↓VG_u, ↓UG_u, ↓MG_u, ↓NG_u, ↓PG_u, ↓BG_u, ↓CG_u, ↓IG_u, ↓VGtt, ↓VGtf, ↓VGft, ↓VGff, ↓UGtt, ↓UGtf, ↓UGft, ↓UGff, ↓MGtt, ↓MGtf, ↓MGft, ↓MGff, ↓NGtt, ↓NGtf, ↓NGft, ↓NGff, ↓PGtt, ↓PGtf, ↓PGft, ↓PGff, ↓BGtt, ↓BGtf, ↓BGft, ↓BGff, ↓CGtt, ↓CGtf, ↓CGft, ↓CGff, ↓IGtt, ↓IGtf, ↓IGft, ↓IGff, ↓PKt, ↓PKf, ↓CDt, ↓CDf, ↓NOTt, ↓NOTf, ↓NK_ptr]
  refine CK_st Try.func11 rfl rfl (GreatB_ok (Bcts.calm hmv hm1)) ?_
  rintro _ w1 ⟨rfl, rfl⟩
  try simp only [↓VG_u, ↓UG_u, ↓MG_u, ↓NG_u, ↓PG_u, ↓BG_u, ↓CG_u, ↓IG_u, ↓VGtt, ↓VGtf, ↓VGft, ↓VGff, ↓UGtt, ↓UGtf, ↓UGft, ↓UGff, ↓MGtt, ↓MGtf, ↓MGft, ↓MGff, ↓NGtt, ↓NGtf, ↓NGft, ↓NGff, ↓PGtt, ↓PGtf, ↓PGft, ↓PGff, ↓BGtt, ↓BGtf, ↓BGft, ↓BGff, ↓CGtt, ↓CGtf, ↓CGft, ↓CGff, ↓IGtt, ↓IGtf, ↓IGft, ↓IGff, ↓PKt, ↓PKf, ↓CDt, ↓CDf, ↓NOTt, ↓NOTf, ↓NK_ptr]
  refine caseC (fun hgm => ⟨by trivial, hm1⟩) (fun hgm => ?_)
  have hl : l.length ≤ 120 := by
    unfold greatB at hgr
    have := (Bool.or_eq_false_iff.1 hgr).1
    simpa using this
  have hml : more.length ≤ 120 := by
    unfold greatB at hgm
    have := (Bool.or_eq_false_iff.1 hgm).1
    simpa using this
  refine CK_st Try.func12 rfl rfl (made_ok (Bcts.calm h hm1) (by omega)) ?_
  rintro _ w2 ⟨q, p, ls, V, R, vs, rfl, hP, hok, hR, hls⟩
  have hPw := hP.base hm1
  have hr := mod64 ha
  rw [extract_ok (v := .pointer (some ⟨q, 0, none⟩)) rfl, extract_ok (v := .pointer (some ⟨p, 0, none⟩)) rfl, BK_rem (by decide), conv_k (k := .i64) (by kernel_rfl) (by kernel_rfl), wrap_i (n := a.tmod 64) (by omega) (by omega)]
  generalize a.tmod 64 = rk at *
  refine CK_st Try.func18 rfl rfl (Waiting_ok hPw.pa (fun i => by have := hR i; omega) rk) ?_
  rintro vw w3 ⟨hoW, hm3⟩
  have er : rowP R rk = R rk.toNat := by unfold rowP; rw [if_pos hr]
  rw [er] at hoW
  have hWl : ((R rk.toNat).filter wt).length ≤ 120 := Nat.le_trans (List.length_filter_le _ _) (by have := hR rk.toNat; omega)
  have hat : ∀ (i : Nat) r, ((R rk.toNat).filter wt)[i]? = some r → (atV R rk r.call).isSome = true := fun i r hi => by
    have hm := (List.mem_filter.1 (List.mem_of_getElem? hi)).1
    unfold atV
    rw [er, List.find?_isSome]
    exact ⟨r, hm, by unfold isC; simp⟩
  have hwb : Beside q p V vs w3 vw := Beside.new hPw hoW
  have hI0 : GrI w w3 q p ls V R vs ((R rk.toNat).filter wt) vw (.slice none 0 0) [] (fun _ => []) := ⟨hPw.calm hm3, owns_base hoW hPw.mod.size, hwb, World.ownsRow_nil _ _ _ _, nilBeside, fun i val hv => (by cases hv), fun i val hv => (by cases hv)⟩
  generalize (R rk.toNat).filter wt = Ws at *
  rw [dispatcherlaw14_PostedGrows_R0_eq]; unfold dispatcherlaw14_PostedGrows_R0_F
  refine W_loop dispatcherlaw14_PostedGrows_L1_ok (fun ρ' w' => ∃ (k : Nat) (o : Value) (vals : List Value) (f : Nat → List Ms), k ≤ Ws.length ∧ ρ' 12 = .int .i64 k ∧ ρ' 7 = .pointer (some ⟨q, 0, none⟩) ∧ ρ' 8 = .pointer (some ⟨p, 0, none⟩) ∧ ρ' 9 = .int .i64 rk ∧ ρ' 10 = vw ∧ ρ' 11 = o ∧ ρ' 1 = mv ∧ vals.length = k ∧ (∀ i, i < k → f i = fM Ws rk R ls i) ∧ GrI w w' q p ls V R vs Ws vw o vals f) (fun ρ' _ => Ws.length - (intOf (ρ' 12)).toNat)
    ⟨0, _, [], fun _ => [], Nat.zero_le _, rfl, rfl, rfl, rfl, rfl, rfl, rfl, rfl, fun i hi => by omega, hI0⟩ ?_
  rintro ρ4 w4 ⟨k, o, vals, f, hkl, c12, c7, c8, c9, c10, c11, c1, hvl, hf, h4⟩
  rw [dispatcherlaw14_PostedGrows_L1_eq]; unfold dispatcherlaw14_PostedGrows_L1_F
  obtain ⟨A, c, es, _⟩ := reads_cap (reads_of_owns h4.wo)
  rw [c12, c10, c7, c8, c9, c11, es, len_sl vRcS, ← es, BK_lss]
  by_cases hlt : k < Ws.length
  · rw [decide_eq_true (by omega)]
    refine condT ?_
    have hx : Ws[k]? = some Ws[k] := List.getElem?_eq_getElem hlt
    generalize Ws[k] = r at *
    obtain ⟨b, hb, hc, _⟩ := rc_any (reads_of_owns h4.wo) hx
    rw [VK_eq_of (hb w4), fo (show fieldOff Try.prog tRc 2 = some 2 by kernel_rfl)]
    refine ld1 vI rfl (hc w4 (Mod.refl _ _) 2 (.int .i64 r.call) rfl) ?_
    refine CK_st Try.func16 rfl rfl (May_ok h4.pp.pa (fun i => by have := hR i; omega) h4.pp.qa hok.frm (by omega) rk r.call) ?_
    rintro vn w5 ⟨ho5, hm5⟩
    refine GrI.app (L := mayV R ls rk r.call) (h4.calm hm5) (by omega) (owns_base ho5 h4.pp.mod.size) (Beside.new h4.pp ho5) fun _ o' w6 h6 => ?_
    rw [BK_add, wrap_i (by omega) (by omega)]
    refine ⟨⟨k + 1, o', vals ++ [vn], _, hlt, rfl, by first | exact c7 | rfl, by first | exact c8 | rfl, by first | exact c9 | rfl, by first | exact c10 | rfl, rfl, by first | exact c1 | rfl, by rw [List.length_append, List.length_singleton, hvl], fun i hi => ?_, h6⟩, ?_⟩
    · rw [hvl]
      by_cases hik : i = k
      · rw [if_pos hik, hik]
        unfold fM
        rw [hx]
      · rw [if_neg hik]; exact hf i (by omega)
    · simp only [sq_n, sq_x, sq_r, bk_n, bk_r, bk_x, rt_r, rt_n, rs_0, rs_t, pk_1, pk_2, up_at, reduceIte, Nat.reduceEqDiff, intOf]; omega
  · obtain rfl : k = Ws.length := by omega
    rw [decide_eq_false (by omega)]
    refine condF ?_
    rw [sq_x, bk_x, sq_n]
    have h4' : GrI w w4 q p ls V R vs Ws vw o vals (fM Ws rk R ls) := by
      refine ⟨h4.pp, h4.wo, h4.wb, h4.oo, h4.ob, fun i val hv => ?_, h4.rb⟩
      have hi : i < Ws.length := by have := (List.getElem?_eq_some_iff.1 hv).1; omega
      rw [← hf i hi]
      exact h4.rows i val hv
    refine grows_R2 (w0 := w) hmv hml hr hok hat (fun i => by have := hR i; omega) (by omega) hWl h4' hvl (by first | exact c7 | rfl) (by first | exact c8 | rfl) (by first | exact c9 | rfl) (by first | exact c10 | rfl) (by first | exact c11 | rfl) (by first | exact c1 | rfl) ?_
    intro w' hm'
    exact ⟨rfl, hm'⟩
end Go.Proofs.Ytmnkedgmpbcicaa.Que
set_option linter.unusedVariables false
set_option maxRecDepth 4000
namespace Go.Proofs.Ytmnkedgmpbcicaa.Que
open Go Go.X Go.RowKit
def shM : Sh Ms := ⟨8, fun w m cs => cs = m.enc⟩
def shR : Sh Rc := ⟨9, fun w r cs => cs = r.enc⟩
def shB : Sh Bc := ⟨18, fun w a cs => cs = a.enc⟩
theorem strV_back (b : ByteArray) : strV b.data.toList = .string b := by unfold strV; rw [Array.toArray_toList]
theorem opensM (n : Nat) : OpensAt Try.prog n shM 39 :=
  opens_as (opens_struct Try.underlying39 (by kernel_rfl) (fun m _ => fields_cons rfl (by kernel_rfl) (opens_string Try.underlying9) (fields_cons rfl (by kernel_rfl) (opens_int Try.underlying3) (fields_cons rfl (by kernel_rfl) (opens_int Try.underlying3)
    (fields_cons rfl (by kernel_rfl) (opens_int Try.underlying3) (fields_cons rfl (by kernel_rfl) (opens_int Try.underlying3) (fields_cons rfl (by kernel_rfl) (opens_int Try.underlying2) (fields_cons rfl (by kernel_rfl) (opens_int Try.underlying3) (fields_one rfl (by kernel_rfl) (opens_bool Try.underlying4))))))))))
    (fun x => (⟨x.1.data.toList, x.2.1, x.2.2.1, x.2.2.2.1, x.2.2.2.2.1, x.2.2.2.2.2.1, x.2.2.2.2.2.2.1, x.2.2.2.2.2.2.2⟩ : Ms))
    (fun w v cs h => by
      obtain ⟨c0, d0, rfl, _, ⟨rfl, h0⟩, c1, d1, rfl, _, ⟨rfl, h1⟩, c2, d2, rfl, _, ⟨rfl, h2⟩, c3, d3, rfl, _, ⟨rfl, h3⟩, c4, d4, rfl, _, ⟨rfl, h4⟩, c5, d5, rfl, _, ⟨rfl, h5⟩, c6, d6, rfl, _, ⟨rfl, h6⟩, h7⟩ := h
      subst h7
      show _ = Ms.enc _
      simp only [Ms.enc, strV_back]
      rfl)
theorem opensR (n : Nat) : OpensAt Try.prog n shR 24 :=
  opens_as (opens_struct Try.underlying24 (by kernel_rfl) (fun m _ => fields_cons rfl (by kernel_rfl) (opens_string Try.underlying9) (fields_cons rfl (by kernel_rfl) (opens_int Try.underlying3) (fields_cons rfl (by kernel_rfl) (opens_int Try.underlying3)
    (fields_cons rfl (by kernel_rfl) (opens_int Try.underlying3) (fields_cons rfl (by kernel_rfl) (opens_int Try.underlying3) (fields_cons rfl (by kernel_rfl) (opens_int Try.underlying3) (fields_cons rfl (by kernel_rfl) (opens_bool Try.underlying4) (fields_cons rfl (by kernel_rfl) (opens_int Try.underlying3) (fields_one rfl (by kernel_rfl) (opens_int Try.underlying3)))))))))))
    (fun x => (⟨x.1.data.toList, x.2.1, x.2.2.1, x.2.2.2.1, x.2.2.2.2.1, x.2.2.2.2.2.1, x.2.2.2.2.2.2.1, x.2.2.2.2.2.2.2.1, x.2.2.2.2.2.2.2.2⟩ : Rc))
    (fun w v cs h => by
      obtain ⟨c0, d0, rfl, _, ⟨rfl, h0⟩, c1, d1, rfl, _, ⟨rfl, h1⟩, c2, d2, rfl, _, ⟨rfl, h2⟩, c3, d3, rfl, _, ⟨rfl, h3⟩, c4, d4, rfl, _, ⟨rfl, h4⟩, c5, d5, rfl, _, ⟨rfl, h5⟩, c6, d6, rfl, _, rfl, c7, d7, rfl, _, ⟨rfl, h7⟩, ⟨h8, h9⟩⟩ := h
      subst h8
      show _ = Rc.enc _
      simp only [Rc.enc, strV_back]
      rfl)
theorem opensB (n : Nat) : OpensAt Try.prog n shB 48 :=
  opens_as (opens_struct Try.underlying48 (by kernel_rfl) (fun m _ => fields_cons rfl (by kernel_rfl) (opens_int Try.underlying5) (fields_cons rfl (by kernel_rfl) (opensM m) (fields_one rfl (by kernel_rfl) (opensR m)))))
    (fun x => (⟨x.1, x.2.1, x.2.2⟩ : Bc))
    (fun w v cs h => by
      obtain ⟨c0, d0, rfl, _, ⟨rfl, h0⟩, c1, d1, rfl, _, h1, h2⟩ := h
      obtain rfl : c1 = v.2.1.enc := h1
      obtain rfl : d1 = v.2.2.enc := h2
      rfl)
theorem opensBs (n : Nat) : OpensAt Try.prog n (Sh.slice shB) 22 := opens_slice Try.underlying22 (by kernel_rfl) (fun m _ => opensB m)
theorem Bcts_of {w : World} {x : Value × List Bc} {cs : List Value} (h : (Sh.slice shB).K w x cs) : Bcts w x.1 x.2 := reads_sh h Bc.enc (fun _ => rfl) (fun _ _ hd => hd)
end Go.Proofs.Ytmnkedgmpbcicaa.Que
