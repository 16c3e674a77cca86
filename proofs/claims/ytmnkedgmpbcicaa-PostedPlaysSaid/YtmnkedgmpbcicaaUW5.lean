/- Several texts of this repo, one behind the other, without what is not used here. -/
import Derived.Test.YtmnkedgmpbcicaaUW4
set_option linter.unusedVariables false
set_option linter.unusedSimpArgs false
set_option maxRecDepth 8000
namespace Go.Proofs.Ytmnkedgmpbcicaa.Que
open Go Go.X Go.RowKit Go.Proofs.Ytmnkedgmpbcicaa.XF Go.Proofs.Ytmnkedgmpbcicaa.XG Go.Proofs.Ytmnkedgmpbcicaa.XK
section
variable {w : World} {p : Nat} {R : Rks} {vs : List Value}
theorem row_R {R : Rks} {n : Nat} (hlen : ∀ i, (R i).length ≤ n) (rk : Int) : (rowP R rk).length ≤ n := by
  unfold rowP
  split
  · exact hlen _
  · exact Nat.zero_le _
theorem Post_ok (h : PAt w p R vs) (hlen : ∀ i, (R i).length ≤ 1000000) (r : Rc) : Rt Try.prog 14 #[.pointer (some ⟨p, 0, none⟩), .agg r.enc.toArray] w fun v w' => v = .int .i64 (postV R r).2 ∧ ∃ vs', PAt w' p (postV R r).1 vs' ∧ PFr p w vs w' vs' := by
  refine posted_Posted_Post_calls ?_
  unfold posted_Posted_Post_F
  refine box_k (cs := r.enc.toArray) rfl fun w1 hb1 hm1 hz1 => ?_
  have h1 := h.calm hm1
  rw [BK_eqlP uPd]
  simp only [Option.isNone_some, ↓VG_u, ↓UG_u, ↓MG_u, ↓NG_u, ↓PG_u, ↓BG_u, ↓CG_u, ↓IG_u, ↓VGtt, ↓VGtf, ↓VGft, ↓VGff, ↓UGtt, ↓UGtf, ↓UGft, ↓UGff, ↓MGtt, ↓MGtf, ↓MGft, ↓MGff, ↓NGtt, ↓NGtf, ↓NGft, ↓NGff, ↓PGtt, ↓PGtf, ↓PGft, ↓PGff, ↓BGtt, ↓BGtf, ↓BGft, ↓BGff, ↓CGtt, ↓CGtf, ↓CGft, ↓CGff, ↓IGtt, ↓IGtf, ↓IGft, ↓IGff, ↓PKt, ↓PKf, ↓CDt, ↓CDf, ↓NOTt, ↓NOTf, ↓NK_ptr]
  rw [(f_made h1).e]
  try simp only [↓VG_u, ↓UG_u, ↓MG_u, ↓NG_u, ↓PG_u, ↓BG_u, ↓CG_u, ↓IG_u, ↓VGtt, ↓VGtf, ↓VGft, ↓VGff, ↓UGtt, ↓UGtf, ↓UGft, ↓UGff, ↓MGtt, ↓MGtf, ↓MGft, ↓MGff, ↓NGtt, ↓NGtf, ↓NGft, ↓NGff, ↓PGtt, ↓PGtf, ↓PGft, ↓PGff, ↓BGtt, ↓BGtf, ↓BGft, ↓BGff, ↓CGtt, ↓CGtf, ↓CGft, ↓CGff, ↓IGtt, ↓IGtf, ↓IGft, ↓IGff, ↓PKt, ↓PKf, ↓CDt, ↓CDf, ↓NOTt, ↓NOTf, ↓NK_ptr]
  have g1 : FO Try.prog w1 tRc 1 1 ⟨w.heap.size, 0, none⟩ 3 (.int .i64 r.rank) := FO.blk hb1 (by kernel_rfl) vI rfl rfl
  rw [g1.e]
  refine CK_st Try.func40 rfl rfl (of_ok' h1 r.rank) ?_
  rintro v w2 ⟨rfl, hrow, hv⟩
  have hbp : ¬ PF p vs w.heap.size := fun z => by have := h.old _ z; omega
  refine post_R0 hb1 hrow (row_R hlen _) rfl rfl ?_
  intro ρ3 w3 q61 hlo hm3
  have e3 : ρ3 3 = .pointer (some ⟨w.heap.size, 0, none⟩) := hlo 3 (by decide)
  have e5 : ρ3 5 = v := hlo 5 (by decide)
  have e0 : ρ3 0 = .pointer (some ⟨p, 0, none⟩) := hlo 0 (by decide)
  rw [sq_n, posted_Posted_Post_R1_eq]; unfold posted_Posted_Post_R1_F
  rw [q61]
  have h3 := h1.calm hm3
  unfold postV
  refine caseC (fun q => ?_) (fun q => ?_)
  · rw [q]
    exact ⟨rfl, vs, h3, PFr.calm (hm1.trans hm3)⟩
  · rw [q, sq_n]
    have hr : 0 ≤ r.rank ∧ r.rank ≤ 63 := by
      unfold badR at q
      simp only [Bool.or_eq_false_iff, Bool.not_eq_false', Bool.and_eq_true, decide_eq_true_eq] at q
      exact q.1.1.1.1.1
    have hrw : rowP R r.rank = R r.rank.toNat := by unfold rowP; rw [if_pos hr]
    refine post_R2 (r := r) h3 hr.1 hr.2 (hm3.blk hb1 id) hbp (hv hr) (hlen _) e3 e5 e0 fun w4 vs' h4 hm4 hf4 => ?_
    have s1 := hm1.size
    have s3 := hm3.size
    refine ⟨rfl, vs', ?_, ?_, ?_⟩
    · simp only [Bool.false_eq_true, if_false]
      rw [hrw]
      exact h4
    · refine (Mod.mono (hm1.trans hm3) fun b _ z => z.elim).then hm4 fun i hi z => ?_
      rcases z with z | z
      · exact z
      · omega
    · intro b z
      rcases hf4 b z with u | u
      · exact .inl u
      · right; omega
theorem place1_ok {w : World} {cb : Nat} {c : Int} (hb : w.heap[cb]? = some (.cells #[.int .i64 c] 3 (0, 0))) (r : Rc) : Rt Try.prog 67 #[.agg r.enc.toArray, .pointer (some ⟨cb, 0, none⟩)] w fun v w' => v = .bool (decide (r.call = c)) ∧ Mod none_ w w' := by
  refine posted_Posted_place_1_calls ?_
  unfold posted_Posted_place_1_F
  refine box_k (cs := r.enc.toArray) rfl fun w1 hb1 hm1 hz1 => ?_
  have g : FO Try.prog w1 tRc 2 2 ⟨w.heap.size, 0, none⟩ 3 (.int .i64 r.call) := FO.blk hb1 (by kernel_rfl) vI rfl rfl
  rw [g.e]
  refine ldOne rfl vI rfl (hm1.blk hb id) ?_
  rw [BK_eql]
  exact ⟨by by_cases e : r.call = c <;> simp [e], hm1⟩
def isC (c : Int) (r : Rc) : Bool := decide (r.call = c)
theorem place_ok' (h : PAt w p R vs) (hlen : ∀ i, (R i).length ≤ 1000000) (rk c : Int) : Rt Try.prog 42 #[.pointer (some ⟨p, 0, none⟩), .int .i64 rk, .int .i64 c] w fun v w' => v = .int .i64 (idxR (isC c) (rowP R rk)) ∧ Mod none_ w w' := by
  refine posted_Posted_place_calls ?_
  unfold posted_Posted_place_F
  refine box_k (cs := #[.int .i64 c]) rfl fun w1 hb1 hm1 hz1 => ?_
  refine CK_st Try.func40 rfl rfl (of_ok' (h.calm hm1) rk) ?_
  rintro v w2 ⟨rfl, hrow, hv⟩
  rw [mkFunc]
  have := row_R hlen rk
  refine CK_st Try.func66 rfl rfl (IndexFuncRc_ok (p := isC c) hrow (by omega) ?_) ?_
  · intro a _ w' hm K hK
    refine CK_fn Try.func67 rfl rfl (place1_ok (hm.blk hb1 id) a) ?_
    rintro _ w'' ⟨rfl, hm'⟩
    exact hK w'' hm'
  · rintro _ w3 ⟨rfl, hm3⟩
    exact ⟨rfl, hm1.trans hm3⟩
def atV (R : Rks) (rk c : Int) : Option Rc := (rowP R rk).find? (isC c)
def rcb (o : Option Rc) : Value := match o with | some r => .tuple #[.agg r.enc.toArray, .bool true] | none => .tuple #[.agg zRc.enc.toArray, .bool false]
theorem idxR_find {l : List Rc} {q : Rc → Bool} : (idxR q l < 0 ∧ l.find? q = none) ∨ ∃ (j : Nat) (r : Rc), idxR q l = (j : Int) ∧ l[j]? = some r ∧ l.find? q = some r ∧ l.findIdx? q = some j := by
  unfold idxR
  cases hq : l.findIdx? q with
  | none =>
    left
    rw [List.findIdx?_eq_none_iff] at hq
    exact ⟨by decide, List.find?_eq_none.2 fun x hx => by rw [hq x hx]; decide⟩
  | some j =>
    right
    have hq' := hq
    rw [List.findIdx?_eq_some_iff_getElem] at hq
    obtain ⟨hj, hp, hlt⟩ := hq
    refine ⟨j, l[j], rfl, List.getElem?_eq_getElem hj, ?_, rfl⟩
    rw [List.find?_eq_some_iff_getElem]
    exact ⟨hp, j, hj, rfl, fun i hi => by have := hlt i hi; simpa using this⟩
theorem At_ok (h : PAt w p R vs) (hlen : ∀ i, (R i).length ≤ 1000000) (rk c : Int) : Rt Try.prog 21 #[.pointer (some ⟨p, 0, none⟩), .int .i64 rk, .int .i64 c] w fun v w' => v = rcb (atV R rk c) ∧ Mod none_ w w' := by
  refine posted_Posted_At_calls ?_
  unfold posted_Posted_At_F
  refine al_k (cs := zRc.enc.toArray) zRc_z rfl _ fun w1 hb1 hm1 hz1 => ?_
  have h1 := h.calm hm1
  refine CK_st Try.func42 rfl rfl (place_ok' h1 hlen rk c) ?_
  rintro _ w2 ⟨rfl, hm2⟩
  rw [BK_lss]
  have hb2 := hm2.blk hb1 id
  unfold atV
  rcases idxR_find (l := rowP R rk) (q := isC c) with ⟨hn, hf⟩ | ⟨j, r, hj, hjr, hf, _⟩
  · rw [decide_eq_true hn, hf]
    refine condT ?_
    rw [build_ok (cs := zRc.enc.toArray) (by kernel_rfl)]
    refine stS (cs := zRc.enc.toArray) (old := zRc.enc.toArray) rfl rfl (by rw [iRc]; rfl) rfl (Rc.enc_one _) hb2 fun w3 hb3 hm3 hz3 => ?_
    exact ⟨_, res_ld (run_ldB Try.underlying24 rfl (by rw [iRc]; rfl) hb3), rfl, (hm1.trans hm2).fresh hm3 (Nat.le_refl _)⟩
  · rw [hj, decide_eq_false (by omega), hf]
    refine condF ?_
    refine CK_st Try.func40 rfl rfl (of_ok' (h1.calm hm2) rk) ?_
    rintro v w4 ⟨rfl, hrow, hv⟩
    refine ixRc hrow hjr rfl fun x => ?_
    refine stS (cs := r.enc.toArray) (old := zRc.enc.toArray) rfl rfl (by rw [iRc]; rfl) rfl (Rc.enc_one _) hb2 fun w3 hb3 hm3 hz3 => ?_
    exact ⟨_, res_ld (run_ldB Try.underlying24 rfl (by rw [iRc]; rfl) hb3), rfl, (hm1.trans hm2).fresh hm3 (Nat.le_refl _)⟩
theorem Waiting_ok (h : PAt w p R vs) (hlen : ∀ i, (R i).length ≤ 1000000) (rk : Int) : Rt Try.prog 18 #[.pointer (some ⟨p, 0, none⟩), .int .i64 rk] w (RowR w ((rowP R rk).filter wt)) := by
  refine posted_Posted_Waiting_calls ?_
  unfold posted_Posted_Waiting_F
  refine CK_st Try.func40 rfl rfl (of_ok' h rk) ?_
  rintro v w2 ⟨rfl, hrow, hv⟩
  refine CK_st Try.func46 rfl rfl (kept_ok hrow (row_R hlen rk)) ?_
  rintro u w3 hr
  exact hr
end
end Go.Proofs.Ytmnkedgmpbcicaa.Que
set_option linter.unusedVariables false
set_option linter.unusedSimpArgs false
set_option maxRecDepth 8000
namespace Go.Proofs.Ytmnkedgmpbcicaa.Que
open Go Go.X Go.RowKit Go.Proofs.Ytmnkedgmpbcicaa.XF Go.Proofs.Ytmnkedgmpbcicaa.XG Go.Proofs.Ytmnkedgmpbcicaa.XK
def skipV (r : Rc) (f : Int) : Bool := !decide (r.peer = -1) && !decide (r.peer = f)
def oneV (ls : List Ms) (r : Rc) (wait : List Rc) (f : Int) : Option Ms :=
  if skipV r f then none else match firstV ls (r.key, f, r.rank) r.tag with
    | none => none
    | some m => if wait.any (fun x => fitsV x m) then none else some m
def freeV (ls : List Ms) (r : Rc) (ahead : List Rc) : List Ms := (sendersV ls r.key r.rank).filterMap (oneV ls r (ahead.filter wt))
theorem free1_ok {w : World} {mb : Nat} {m : Ms} (hb : w.heap[mb]? = some (.cells m.enc.toArray tMs (0, 0))) (r : Rc) : Rt Try.prog 65 #[.agg r.enc.toArray, .pointer (some ⟨mb, 0, none⟩)] w fun v w' => v = .bool (fitsV r m) ∧ Mod none_ w w' := by
  refine posted_free_1_calls ?_
  unfold posted_free_1_F
  refine box_k (cs := r.enc.toArray) rfl fun w1 hb1 hm1 hz1 => ?_
  refine ldS rfl Try.underlying24 rfl (by rw [iRc]; rfl) hb1 ?_
  refine ldS rfl Try.underlying39 rfl (by rw [iMs]; rfl) (hm1.blk hb id) ?_
  refine CK_st Try.func48 rfl rfl (fits_ok w1 r m) ?_
  rintro _ w2 ⟨rfl, hm2⟩
  exact ⟨rfl, hm1.trans hm2⟩
section
variable {w wB : World} {q b4 : Nat} {ls : List Ms} {V : QV} {r : Rc} {wait : List Rc} {S : List Int} {vw vS : Value}
structure FIn (wB : World) (q b4 : Nat) (ls : List Ms) (V : QV) (r : Rc) (wait : List Rc) (S : List Int) (vw vS : Value) : Prop where
  q : QAt wB q ls V
  len : ls.length ≤ 1000000
  b : wB.heap[b4]? = some (.cells r.enc.toArray tRc (0, 0))
  wt : RcRow wB vw wait
  wl : wait.length ≤ 1000000
  s : wB.ownsRow 0 tI 1 vS S.length (ints S)
  sl : S.length ≤ 64
def FInv (wB : World) (q b4 : Nat) (ls : List Ms) (r : Rc) (wait : List Rc) (S : List Int) (vw vS : Value) (i : Nat) (ρ : Sl) (w' : World) : Prop :=
  ∃ o : Value, ρ 23 = .int .i64 i ∧ ρ 22 = .int .i64 S.length ∧ ρ 21 = vS ∧ ρ 4 = .pointer (some ⟨b4, 0, none⟩) ∧ ρ 0 = .pointer (some ⟨q, 0, none⟩) ∧ ρ 8 = vw ∧ ρ 7 = o ∧
    w'.ownsRow wB.heap.size tMs 8 o ((S.take i).filterMap (oneV ls r wait)).length (((S.take i).filterMap (oneV ls r wait)).flatMap Ms.enc) ∧ Mod none_ wB w'
theorem free_R2 {K : Exit → Sl → World → Prop} {ρ : Sl} {i : Nat} {x : Int} {o : Value} (hi : i < 64) (e23 : ρ 23 = .int .i64 i) (e22 : ρ 22 = .int .i64 S.length) (e21 : ρ 21 = vS) (e4 : ρ 4 = .pointer (some ⟨b4, 0, none⟩)) (e0 : ρ 0 = .pointer (some ⟨q, 0, none⟩)) (e8 : ρ 8 = vw) (e7 : ρ 7 = o)
    (hO : w.ownsRow wB.heap.size tMs 8 o ((S.take (i + 1)).filterMap (oneV ls r wait)).length (((S.take (i + 1)).filterMap (oneV ls r wait)).flatMap Ms.enc)) (hm : Mod none_ wB w)
    (hk : ∀ ρ', FInv wB q b4 ls r wait S vw vS (i + 1) ρ' w → K .normal ρ' w) : sx fn_ Try.prog 62 posted_free_R2 K ρ w := by
  rw [posted_free_R2_eq]; unfold posted_free_R2_F
  rw [e23, BK_add, wrap_i (by omega) (by omega)]
  exact hk _ ⟨o, rfl, e22, e21, e4, e0, e8, e7, hO, hm⟩
theorem take_one {S : List Int} {i : Nat} {x : Int} (h : S[i]? = some x) (g : Int → Option Ms) : (S.take (i + 1)).filterMap g = (S.take i).filterMap g ++ (match g x with | none => [] | some m => [m]) := by
  rw [List.take_add_one, h, Option.toList_some, List.filterMap_append]
  congr 1
  cases hg : g x <;> simp [hg]
theorem free_R3 {K : Exit → Sl → World → Prop} {ρ : Sl} {i mb : Nat} {x : Int} {o : Value} {fs : Option Ms} (h : FIn wB q b4 ls V r wait S vw vS) (hx : S[i]? = some x) (hsk : skipV r x = false) (hfs : firstV ls (r.key, x, r.rank) r.tag = fs)
    (hb : w.heap[mb]? = some (.cells (fs.getD zMs).enc.toArray tMs (0, 0))) (hbn : mb < w.heap.size)
    (hO : w.ownsRow wB.heap.size tMs 8 o ((S.take i).filterMap (oneV ls r wait)).length (((S.take i).filterMap (oneV ls r wait)).flatMap Ms.enc)) (hm : Mod none_ wB w) (hmo : ¬ sb o mb)
    (e11 : ρ 11 = .pointer (some ⟨mb, 0, none⟩)) (e12 : ρ 12 = .bool fs.isSome)
    (e23 : ρ 23 = .int .i64 i) (e22 : ρ 22 = .int .i64 S.length) (e21 : ρ 21 = vS) (e4 : ρ 4 = .pointer (some ⟨b4, 0, none⟩)) (e0 : ρ 0 = .pointer (some ⟨q, 0, none⟩)) (e8 : ρ 8 = vw) (e7 : ρ 7 = o)
    (hk : ∀ ρ' w', FInv wB q b4 ls r wait S vw vS (i + 1) ρ' w' → K .normal ρ' w') : sx fn_ Try.prog 62 posted_free_R3 (blkK 1 (seqK (sx fn_ Try.prog 62 posted_free_R2 K) K)) ρ w := by
  have hil := (List.getElem?_eq_some_iff.1 hx).1
  have hsl := h.sl
  rw [posted_free_R3_eq]; unfold posted_free_R3_F
  rw [e11, e12, e8, e7, mkFunc]
  have htk := take_one hx (oneV ls r wait)
  have hlen : ((S.take i).filterMap (oneV ls r wait)).length ≤ 64 := Nat.le_trans (List.length_filterMap_le _ _) (by rw [List.length_take]; omega)
  refine CK_st Try.func64 rfl rfl (ContainsFuncRc_ok (p := fun y => fitsV y (fs.getD zMs)) (h.wt.calm hm) (by have := h.wl; omega) ?_) ?_
  · intro a _ w' hm' K hK
    refine CK_fn Try.func65 rfl rfl (free1_ok (hm'.blk hb id) a) ?_
    rintro _ w'' ⟨rfl, hm''⟩
    exact hK w'' hm''
  rintro _ w1 ⟨rfl, hm1⟩
  have hO1 := owns_mod hO hm1 fun _ _ => id
  have hm01 := hm.trans hm1
  cases fs with
  | none =>
    have hone : oneV ls r wait x = none := by unfold oneV; rw [hsk, hfs]; rfl
    simp only [Option.isSome_none, ↓VG_u, ↓UG_u, ↓MG_u, ↓NG_u, ↓PG_u, ↓BG_u, ↓CG_u, ↓IG_u, ↓VGtt, ↓VGtf, ↓VGft, ↓VGff, ↓UGtt, ↓UGtf, ↓UGft, ↓UGff, ↓MGtt, ↓MGtf, ↓MGft, ↓MGff, ↓NGtt, ↓NGtf, ↓NGft, ↓NGff, ↓PGtt, ↓PGtf, ↓PGft, ↓PGff, ↓BGtt, ↓BGtf, ↓BGft, ↓BGff, ↓CGtt, ↓CGtf, ↓CGft, ↓CGff, ↓IGtt, ↓IGtf, ↓IGft, ↓IGff, ↓PKt, ↓PKf, ↓CDt, ↓CDf, ↓NOTt, ↓NOTf, ↓NK_ptr]
    rw [bk_n, sq_n]
    have : (S.take (i + 1)).filterMap (oneV ls r wait) = (S.take i).filterMap (oneV ls r wait) := by rw [htk, hone]; exact List.append_nil _
    rw [← this] at hO1
    exact free_R2 (x := x) (by omega) (by first | exact e23 | rfl) (by first | exact e22 | rfl) (by first | exact e21 | rfl) (by first | exact e4 | rfl) (by first | exact e0 | rfl) (by first | exact e8 | rfl) (by first | exact e7 | rfl) hO1 hm01 fun ρ' hF => hk ρ' w1 hF
  | some m =>
    have hone : oneV ls r wait x = if wait.any (fun y => fitsV y m) then none else some m := by unfold oneV; rw [hsk, hfs]; rfl
    simp only [Option.isSome_some, Option.getD_some, ↓VG_u, ↓UG_u, ↓MG_u, ↓NG_u, ↓PG_u, ↓BG_u, ↓CG_u, ↓IG_u, ↓VGtt, ↓VGtf, ↓VGft, ↓VGff, ↓UGtt, ↓UGtf, ↓UGft, ↓UGff, ↓MGtt, ↓MGtf, ↓MGft, ↓MGff, ↓NGtt, ↓NGtf, ↓NGft, ↓NGff, ↓PGtt, ↓PGtf, ↓PGft, ↓PGff, ↓BGtt, ↓BGtf, ↓BGft, ↓BGff, ↓CGtt, ↓CGtf, ↓CGft, ↓CGff, ↓IGtt, ↓IGtf, ↓IGft, ↓IGff, ↓PKt, ↓PKf, ↓CDt, ↓CDf, ↓NOTt, ↓NOTf, ↓NK_ptr] at hb ⊢
    cases hcl : wait.any (fun y => fitsV y m) with
    | true =>
      try simp only [↓VG_u, ↓UG_u, ↓MG_u, ↓NG_u, ↓PG_u, ↓BG_u, ↓CG_u, ↓IG_u, ↓VGtt, ↓VGtf, ↓VGft, ↓VGff, ↓UGtt, ↓UGtf, ↓UGft, ↓UGff, ↓MGtt, ↓MGtf, ↓MGft, ↓MGff, ↓NGtt, ↓NGtf, ↓NGft, ↓NGff, ↓PGtt, ↓PGtf, ↓PGft, ↓PGff, ↓BGtt, ↓BGtf, ↓BGft, ↓BGff, ↓CGtt, ↓CGtf, ↓CGft, ↓CGff, ↓IGtt, ↓IGtf, ↓IGft, ↓IGff, ↓PKt, ↓PKf, ↓CDt, ↓CDf, ↓NOTt, ↓NOTf, ↓NK_ptr]
      rw [bk_n, sq_n]
      have : (S.take (i + 1)).filterMap (oneV ls r wait) = (S.take i).filterMap (oneV ls r wait) := by rw [htk, hone, hcl]; exact List.append_nil _
      rw [← this] at hO1
      exact free_R2 (x := x) (by omega) (by first | exact e23 | rfl) (by first | exact e22 | rfl) (by first | exact e21 | rfl) (by first | exact e4 | rfl) (by first | exact e0 | rfl) (by first | exact e8 | rfl) (by first | exact e7 | rfl) hO1 hm01 fun ρ' hF => hk ρ' w1 hF
    | false =>
      try simp only [↓VG_u, ↓UG_u, ↓MG_u, ↓NG_u, ↓PG_u, ↓BG_u, ↓CG_u, ↓IG_u, ↓VGtt, ↓VGtf, ↓VGft, ↓VGff, ↓UGtt, ↓UGtf, ↓UGft, ↓UGff, ↓MGtt, ↓MGtf, ↓MGft, ↓MGff, ↓NGtt, ↓NGtf, ↓NGft, ↓NGff, ↓PGtt, ↓PGtf, ↓PGft, ↓PGff, ↓BGtt, ↓BGtf, ↓BGft, ↓BGff, ↓CGtt, ↓CGtf, ↓CGft, ↓CGff, ↓IGtt, ↓IGtf, ↓IGft, ↓IGff, ↓PKt, ↓PKf, ↓CDt, ↓CDf, ↓NOTt, ↓NOTf, ↓NK_ptr]
      have hb1 := hm1.blk hb id
      refine ldS rfl Try.underlying39 rfl (by rw [iMs]; rfl) hb1 ?_
      refine app1 hO1 hm01.size (by omega) fun _ o' w2 hO2 hm2 => ?_
      have : (S.take (i + 1)).filterMap (oneV ls r wait) = (S.take i).filterMap (oneV ls r wait) ++ [m] := by rw [htk, hone, hcl]; rfl
      rw [← this] at hO2
      rw [bk_n, sq_n]
      exact free_R2 (x := x) (by omega) (by first | exact e23 | rfl) (by first | exact e22 | rfl) (by first | exact e21 | rfl) (by first | exact e4 | rfl) (by first | exact e0 | rfl) (by first | exact e8 | rfl) rfl hO2 (hm01.then hm2 fun i hi z => by omega) fun ρ' hF => hk ρ' w2 hF
end
end Go.Proofs.Ytmnkedgmpbcicaa.Que
set_option linter.unusedVariables false
set_option linter.unusedSimpArgs false
set_option maxRecDepth 8000
namespace Go.Proofs.Ytmnkedgmpbcicaa.Que
open Go Go.X Go.RowKit Go.Proofs.Ytmnkedgmpbcicaa.XF Go.Proofs.Ytmnkedgmpbcicaa.XG Go.Proofs.Ytmnkedgmpbcicaa.XK
theorem free_ok {w : World} {q : Nat} {ls : List Ms} {V : QV} {ahead : List Rc} {va : Value} (hq : QAt w q ls V) (hg : FrmOk ls) (hL : ls.length ≤ 500000) (r : Rc) (ha : RcRow w va ahead) (hal : ahead.length ≤ 1000000) : Rt Try.prog 39 #[.pointer (some ⟨q, 0, none⟩), .agg r.enc.toArray, va] w (RowP w (freeV ls r ahead)) := by
  refine posted_free_calls ?_
  unfold posted_free_F
  refine box_k (cs := r.enc.toArray) rfl fun w1 hb1 hm1 hz1 => ?_
  refine CK_st Try.func46 rfl rfl (kept_ok (ha.calm hm1) hal) ?_
  rintro vw w2 ⟨hO2, hm2⟩
  have hb2 := hm2.blk hb1 id
  have g0 : FO Try.prog w2 tRc 0 0 ⟨w.heap.size, 0, none⟩ 9 (strV r.key) := FO.blk hb2 (by kernel_rfl) vS rfl rfl
  have g1 : FO Try.prog w2 tRc 1 1 ⟨w.heap.size, 0, none⟩ 3 (.int .i64 r.rank) := FO.blk hb2 (by kernel_rfl) vI rfl rfl
  rw [g0.e, g1.e]
  have hm12 := hm1.trans hm2
  refine CK_st Try.func62 rfl rfl (Senders_ok (hq.calm hm12) hg hL r.key r.rank) ?_
  rintro vZ w3 ⟨hO3, hm3⟩
  obtain ⟨A, c, es, _⟩ := reads_cap (reads_of_owns hO3)
  rw [es, len_sl vIs, ← es]
  have hm13 := hm12.trans hm3
  have hwl : (ahead.filter wt).length ≤ 1000000 := Nat.le_trans (List.length_filter_le _ _) hal
  have hin : FIn w3 q w.heap.size ls V r (ahead.filter wt) (sendersV ls r.key r.rank) vw vZ := ⟨hq.calm hm13, by omega, hm3.blk hb2 id, RcRow.calm (reads_of_owns hO2) hm3, hwl, owns_base hO3 (Nat.zero_le _), upto_len ls r.key r.rank 64⟩
  have s3 := hm13.size
  unfold freeV
  generalize sendersV ls r.key r.rank = S at *
  generalize ahead.filter wt = wait at *
  refine W_loop posted_free_L0_ok (fun ρ w' => ∃ i : Nat, i ≤ S.length ∧ FInv w3 q w.heap.size ls r wait S vw vZ i ρ w') (fun ρ _ => S.length - (intOf (ρ 23)).toNat)
    ⟨0, Nat.zero_le _, .slice none 0 0, rfl, rfl, rfl, rfl, rfl, rfl, rfl, World.ownsRow_nil _ _ _ _, Mod.refl _ _⟩ ?_
  rintro ρ w4 ⟨i, hi, o, e23, e22, e21, e4, e0, e8, e7, hO, hm⟩
  rw [posted_free_L0_eq]; unfold posted_free_L0_F
  rw [e23, e22, e21, e4, e0, BK_lss]
  have hsl := hin.sl
  by_cases hlt : i < S.length
  · rw [decide_eq_true (by omega)]
    refine condT ?_
    have hx : S[i]? = some S[i] := List.getElem?_eq_getElem hlt
    generalize S[i] = x at *
    obtain ⟨a, ha1, hl1⟩ := ixI hin.s hx
    rw [VK_eq_of (ha1 w4), VK_eq_of (hl1 w4 hm)]
    have hb4 := hm.blk hin.b id
    have k3 : FO Try.prog w4 tRc 3 3 ⟨w.heap.size, 0, none⟩ 3 (.int .i64 r.peer) := FO.blk hb4 (by kernel_rfl) vI rfl rfl
    have fin : ∀ (ρ' : Sl) (w' : World), FInv w3 q w.heap.size ls r wait S vw vZ (i + 1) ρ' w' → (∃ i : Nat, i ≤ S.length ∧ FInv w3 q w.heap.size ls r wait S vw vZ i ρ' w') ∧ S.length - (intOf (ρ' 23)).toNat < S.length - (intOf (.int .i64 (i : Int))).toNat := by
      intro ρ' w' hI
      refine ⟨⟨i + 1, hlt, hI⟩, ?_⟩
      obtain ⟨_, q23, _⟩ := hI
      rw [q23]
      simp only [intOf]; omega
    rw [k3.e]
    have k0 : FO Try.prog w4 tRc 0 0 ⟨w.heap.size, 0, none⟩ 9 (strV r.key) := FO.blk hb4 (by kernel_rfl) vS rfl rfl
    have k1 : FO Try.prog w4 tRc 1 1 ⟨w.heap.size, 0, none⟩ 3 (.int .i64 r.rank) := FO.blk hb4 (by kernel_rfl) vI rfl rfl
    have k4 : FO Try.prog w4 tRc 4 4 ⟨w.heap.size, 0, none⟩ 3 (.int .i64 r.tag) := FO.blk hb4 (by kernel_rfl) vI rfl rfl
    have hq4 := (hin.q).calm hm
    by_cases c1 : r.peer = -1
    · have hsk : skipV r x = false := by unfold skipV; rw [decide_eq_true c1]; rfl
      rw [NEf c1]
      try simp only [↓VG_u, ↓UG_u, ↓MG_u, ↓NG_u, ↓PG_u, ↓BG_u, ↓CG_u, ↓IG_u, ↓VGtt, ↓VGtf, ↓VGft, ↓VGff, ↓UGtt, ↓UGtf, ↓UGft, ↓UGff, ↓MGtt, ↓MGtf, ↓MGft, ↓MGff, ↓NGtt, ↓NGtf, ↓NGft, ↓NGff, ↓PGtt, ↓PGtf, ↓PGft, ↓PGff, ↓BGtt, ↓BGtf, ↓BGft, ↓BGff, ↓CGtt, ↓CGtf, ↓CGft, ↓CGff, ↓IGtt, ↓IGtf, ↓IGft, ↓IGff, ↓PKt, ↓PKf, ↓CDt, ↓CDf, ↓NOTt, ↓NOTf, ↓NK_ptr]
      rw [k0.e]
      try simp only [↓VG_u, ↓UG_u, ↓MG_u, ↓NG_u, ↓PG_u, ↓BG_u, ↓CG_u, ↓IG_u, ↓VGtt, ↓VGtf, ↓VGft, ↓VGff, ↓UGtt, ↓UGtf, ↓UGft, ↓UGff, ↓MGtt, ↓MGtf, ↓MGft, ↓MGff, ↓NGtt, ↓NGtf, ↓NGft, ↓NGff, ↓PGtt, ↓PGtf, ↓PGft, ↓PGff, ↓BGtt, ↓BGtf, ↓BGft, ↓BGff, ↓CGtt, ↓CGtf, ↓CGft, ↓CGff, ↓IGtt, ↓IGtf, ↓IGft, ↓IGff, ↓PKt, ↓PKf, ↓CDt, ↓CDf, ↓NOTt, ↓NOTf, ↓NK_ptr]
      rw [k1.e]
      try simp only [↓VG_u, ↓UG_u, ↓MG_u, ↓NG_u, ↓PG_u, ↓BG_u, ↓CG_u, ↓IG_u, ↓VGtt, ↓VGtf, ↓VGft, ↓VGff, ↓UGtt, ↓UGtf, ↓UGft, ↓UGff, ↓MGtt, ↓MGtf, ↓MGft, ↓MGff, ↓NGtt, ↓NGtf, ↓NGft, ↓NGff, ↓PGtt, ↓PGtf, ↓PGft, ↓PGff, ↓BGtt, ↓BGtf, ↓BGft, ↓BGff, ↓CGtt, ↓CGtf, ↓CGft, ↓CGff, ↓IGtt, ↓IGtf, ↓IGft, ↓IGff, ↓PKt, ↓PKf, ↓CDt, ↓CDf, ↓NOTt, ↓NOTf, ↓NK_ptr]
      rw [k4.e]
      refine CK_st Try.func63 rfl rfl (First_ok hq4 (by omega) r.key x r.rank r.tag) ?_
      rintro _ w5 ⟨rfl, hm5⟩
      rw [msb_get]
      generalize hfs : firstV ls (r.key, x, r.rank) r.tag = fs
      rw [extract_ok (v := .agg (fs.getD zMs).enc.toArray) rfl, extract_ok (v := .bool fs.isSome) rfl]
      refine slot_k fun w6 hb6 hm6 hz6 => ?_
      have hm46 := hm5.trans hm6
      refine free_R3 hin hx hsk hfs hb6 (by omega) (owns_mod hO hm46 fun _ _ => id) (hm.trans hm46) (fun z => by have := (owns_bd hO _ z).2; have := hm5.size; omega) rfl rfl (by first | exact e23 | rfl) (by first | exact e22 | rfl) (by first | exact e21 | rfl) (by first | exact e4 | rfl) (by first | exact e0 | rfl) (by first | exact e8 | rfl) (by first | exact e7 | rfl) ?_
      intro ρ' w' hI
      exact fin ρ' w' hI
    · rw [NEt c1]
      try simp only [↓VG_u, ↓UG_u, ↓MG_u, ↓NG_u, ↓PG_u, ↓BG_u, ↓CG_u, ↓IG_u, ↓VGtt, ↓VGtf, ↓VGft, ↓VGff, ↓UGtt, ↓UGtf, ↓UGft, ↓UGff, ↓MGtt, ↓MGtf, ↓MGft, ↓MGff, ↓NGtt, ↓NGtf, ↓NGft, ↓NGff, ↓PGtt, ↓PGtf, ↓PGft, ↓PGff, ↓BGtt, ↓BGtf, ↓BGft, ↓BGff, ↓CGtt, ↓CGtf, ↓CGft, ↓CGff, ↓IGtt, ↓IGtf, ↓IGft, ↓IGff, ↓PKt, ↓PKf, ↓CDt, ↓CDf, ↓NOTt, ↓NOTf, ↓NK_ptr]
      rw [k3.e]
      try simp only [↓VG_u, ↓UG_u, ↓MG_u, ↓NG_u, ↓PG_u, ↓BG_u, ↓CG_u, ↓IG_u, ↓VGtt, ↓VGtf, ↓VGft, ↓VGff, ↓UGtt, ↓UGtf, ↓UGft, ↓UGff, ↓MGtt, ↓MGtf, ↓MGft, ↓MGff, ↓NGtt, ↓NGtf, ↓NGft, ↓NGff, ↓PGtt, ↓PGtf, ↓PGft, ↓PGff, ↓BGtt, ↓BGtf, ↓BGft, ↓BGff, ↓CGtt, ↓CGtf, ↓CGft, ↓CGff, ↓IGtt, ↓IGtf, ↓IGft, ↓IGff, ↓PKt, ↓PKf, ↓CDt, ↓CDf, ↓NOTt, ↓NOTf, ↓NK_ptr]
      by_cases c2 : r.peer = x
      · have hsk : skipV r x = false := by unfold skipV; rw [decide_eq_true c2, Bool.not_true, Bool.and_false]
        rw [NEf c2]
        try simp only [↓VG_u, ↓UG_u, ↓MG_u, ↓NG_u, ↓PG_u, ↓BG_u, ↓CG_u, ↓IG_u, ↓VGtt, ↓VGtf, ↓VGft, ↓VGff, ↓UGtt, ↓UGtf, ↓UGft, ↓UGff, ↓MGtt, ↓MGtf, ↓MGft, ↓MGff, ↓NGtt, ↓NGtf, ↓NGft, ↓NGff, ↓PGtt, ↓PGtf, ↓PGft, ↓PGff, ↓BGtt, ↓BGtf, ↓BGft, ↓BGff, ↓CGtt, ↓CGtf, ↓CGft, ↓CGff, ↓IGtt, ↓IGtf, ↓IGft, ↓IGff, ↓PKt, ↓PKf, ↓CDt, ↓CDf, ↓NOTt, ↓NOTf, ↓NK_ptr]
        rw [k0.e]
        try simp only [↓VG_u, ↓UG_u, ↓MG_u, ↓NG_u, ↓PG_u, ↓BG_u, ↓CG_u, ↓IG_u, ↓VGtt, ↓VGtf, ↓VGft, ↓VGff, ↓UGtt, ↓UGtf, ↓UGft, ↓UGff, ↓MGtt, ↓MGtf, ↓MGft, ↓MGff, ↓NGtt, ↓NGtf, ↓NGft, ↓NGff, ↓PGtt, ↓PGtf, ↓PGft, ↓PGff, ↓BGtt, ↓BGtf, ↓BGft, ↓BGff, ↓CGtt, ↓CGtf, ↓CGft, ↓CGff, ↓IGtt, ↓IGtf, ↓IGft, ↓IGff, ↓PKt, ↓PKf, ↓CDt, ↓CDf, ↓NOTt, ↓NOTf, ↓NK_ptr]
        rw [k1.e]
        try simp only [↓VG_u, ↓UG_u, ↓MG_u, ↓NG_u, ↓PG_u, ↓BG_u, ↓CG_u, ↓IG_u, ↓VGtt, ↓VGtf, ↓VGft, ↓VGff, ↓UGtt, ↓UGtf, ↓UGft, ↓UGff, ↓MGtt, ↓MGtf, ↓MGft, ↓MGff, ↓NGtt, ↓NGtf, ↓NGft, ↓NGff, ↓PGtt, ↓PGtf, ↓PGft, ↓PGff, ↓BGtt, ↓BGtf, ↓BGft, ↓BGff, ↓CGtt, ↓CGtf, ↓CGft, ↓CGff, ↓IGtt, ↓IGtf, ↓IGft, ↓IGff, ↓PKt, ↓PKf, ↓CDt, ↓CDf, ↓NOTt, ↓NOTf, ↓NK_ptr]
        rw [k4.e]
        refine CK_st Try.func63 rfl rfl (First_ok hq4 (by omega) r.key x r.rank r.tag) ?_
        rintro _ w5 ⟨rfl, hm5⟩
        rw [msb_get]
        generalize hfs : firstV ls (r.key, x, r.rank) r.tag = fs
        rw [extract_ok (v := .agg (fs.getD zMs).enc.toArray) rfl, extract_ok (v := .bool fs.isSome) rfl]
        refine slot_k fun w6 hb6 hm6 hz6 => ?_
        have hm46 := hm5.trans hm6
        refine free_R3 hin hx hsk hfs hb6 (by omega) (owns_mod hO hm46 fun _ _ => id) (hm.trans hm46) (fun z => by have := (owns_bd hO _ z).2; have := hm5.size; omega) rfl rfl (by first | exact e23 | rfl) (by first | exact e22 | rfl) (by first | exact e21 | rfl) (by first | exact e4 | rfl) (by first | exact e0 | rfl) (by first | exact e8 | rfl) (by first | exact e7 | rfl) ?_
        intro ρ' w' hI
        exact fin ρ' w' hI
      · have hsk : skipV r x = true := by unfold skipV; rw [decide_eq_false c1, decide_eq_false c2]; rfl
        rw [NEt c2]
        try simp only [↓VG_u, ↓UG_u, ↓MG_u, ↓NG_u, ↓PG_u, ↓BG_u, ↓CG_u, ↓IG_u, ↓VGtt, ↓VGtf, ↓VGft, ↓VGff, ↓UGtt, ↓UGtf, ↓UGft, ↓UGff, ↓MGtt, ↓MGtf, ↓MGft, ↓MGff, ↓NGtt, ↓NGtf, ↓NGft, ↓NGff, ↓PGtt, ↓PGtf, ↓PGft, ↓PGff, ↓BGtt, ↓BGtf, ↓BGft, ↓BGff, ↓CGtt, ↓CGtf, ↓CGft, ↓CGff, ↓IGtt, ↓IGtf, ↓IGft, ↓IGff, ↓PKt, ↓PKf, ↓CDt, ↓CDf, ↓NOTt, ↓NOTf, ↓NK_ptr]
        have hone : oneV ls r wait x = none := by unfold oneV; rw [hsk]; rfl
        have : (S.take (i + 1)).filterMap (oneV ls r wait) = (S.take i).filterMap (oneV ls r wait) := by rw [take_one hx, hone]; exact List.append_nil _
        rw [← this] at hO
        exact free_R2 (x := x) (by omega) (by first | exact e23 | rfl) (by first | exact e22 | rfl) (by first | exact e21 | rfl) (by first | exact e4 | rfl) (by first | exact e0 | rfl) (by first | exact e8 | rfl) (by first | exact e7 | rfl) hO hm fun ρ' hF => fin ρ' w4 hF
  · obtain rfl : i = S.length := by omega
    rw [decide_eq_false (by omega)]
    refine condF ?_
    rw [List.take_length] at hO
    rw [sq_x, bk_x, sq_n, posted_free_R1_eq]; unfold posted_free_R1_F
    have key : ∀ ρ0 : Sl, ρ0 7 = o → retK Try.prog [ResultVar.tmp 6] (RowP w (S.filterMap (oneV ls r wait))) .ret (up (up ρ0 61 (ρ0 7)) 6 (ρ0 7)) w4 := by
      intro ρ0 z
      show RowP w _ (ρ0 7) w4
      rw [z]
      exact ⟨owns_base hO s3, hm13.trans hm⟩
    exact key _ (by first | exact e7 | rfl)
section
variable {w : World} {p q : Nat} {R : Rks} {vs : List Value} {ls : List Ms} {V : QV}
def mayV (R : Rks) (ls : List Ms) (rk c : Int) : List Ms := match (rowP R rk).findIdx? (isC c) with
  | none => []
  | some i => match (rowP R rk)[i]? with
    | none => []
    | some r => if r.done then [] else freeV ls r ((rowP R rk).take i)
theorem May_ok (h : PAt w p R vs) (hlen : ∀ i, (R i).length ≤ 1000000) (hq : QAt w q ls V) (hg : FrmOk ls) (hL : ls.length ≤ 500000) (rk c : Int) : Rt Try.prog 16 #[.pointer (some ⟨p, 0, none⟩), .pointer (some ⟨q, 0, none⟩), .int .i64 rk, .int .i64 c] w (RowP w (mayV R ls rk c)) := by
  refine posted_Posted_May_calls ?_
  unfold posted_Posted_May_F
  refine CK_st Try.func42 rfl rfl (place_ok' h hlen rk c) ?_
  rintro _ w1 ⟨rfl, hm1⟩
  rw [BK_lss]
  have h1 := h.calm hm1
  have hnil : RowP w [] (.slice none 0 0) w1 := ⟨World.ownsRow_nil _ _ _ _, hm1⟩
  unfold mayV
  rcases idxR_find (l := rowP R rk) (q := isC c) with ⟨hn, hf⟩ | ⟨j, r, hj, hjr, hf, hfi⟩
  · rw [decide_eq_true hn]
    refine condT ?_
    have : (rowP R rk).findIdx? (isC c) = none := by
      rw [List.findIdx?_eq_none_iff]
      intro x hx
      have := List.find?_eq_none.1 hf x hx
      simpa using this
    rw [this]
    exact hnil
  · rw [hj, decide_eq_false (by omega), hfi]
    refine condF ?_
    refine CK_st Try.func40 rfl rfl (of_ok' h1 rk) ?_
    rintro v w1 ⟨rfl, hrow, hv⟩
    have hrl := row_R hlen rk
    have hjl := (List.getElem?_eq_some_iff.1 hjr).1
    dsimp only
    rw [hjr]
    dsimp only
    generalize hL0 : rowP R rk = row at *
    refine ixRcA hrow hjr rfl fun a ha => ?_
    rw [fo (show fieldOff Try.prog tRc 6 = some 6 by kernel_rfl)]
    refine ld1 vB rfl (ha 6 (.bool r.done) rfl) ?_
    cases hd : r.done with
    | true =>
      refine condT ?_
      exact hnil
    | false =>
      refine condF ?_
      refine posted_Posted_May_R0_tail (D := []) ?_
      have hmd : Mod none_ w1 { w1 with drawn := w1.drawn + 1 } := (Mod.refl _ w1).drawn _
      generalize ({ w1 with drawn := w1.drawn + 1 } : World) = wd at *
      have hrd := hrow.calm hmd
      have key : ∀ (ρ0 : Sl) (K : Exit → Sl → World → Prop), ρ0 10 = v → ρ0 9 = .int .i64 (j : Int) → ρ0 1 = .pointer (some ⟨q, 0, none⟩) → (∀ (ρ' : Sl) (u : Value) (w' : World), ρ' 8 = u → RowP wd (freeV ls r (row.take j)) u w' → K .normal ρ' w') → posted_Posted_May_R0_T K ρ0 wd := by
        intro ρ0 K q10 q9 q1 hK
        unfold posted_Posted_May_R0_T
        rw [q10, q9, q1]
        obtain ⟨A, c, es, hnc⟩ := reads_cap hrd
        intro C
        have hat : ∃ a, A = some a ∧ ∀ k u, r.enc[k]? = some u → wd.cell? ((a.add (j * (8 + 1))).add k) = some u := by
          obtain ⟨_, A', c', es', _, hr⟩ := hrd
          rw [es] at es'
          cases es'
          have h0 : (row.flatMap Rc.enc)[j * (8 + 1) + 0]? = some (strV r.key) := by rw [fl_get (k := 8 + 1) Rc.enc_len hjr (by decide)]; rfl
          obtain ⟨a, ha', _⟩ := hr _ _ h0
          refine ⟨a, ha', fun k u hu => ?_⟩
          have hk : k < 8 + 1 := (List.getElem?_eq_some_iff.1 hu).1
          obtain ⟨a2, ha2, hc2⟩ := hr (j * (8 + 1) + k) u (by rw [fl_get (k := 8 + 1) Rc.enc_len hjr hk]; exact hu)
          rw [ha'] at ha2
          cases ha2
          rw [add_add]
          exact hc2
        obtain ⟨a, rfl, hcl⟩ := hat
        rw [es]
        refine QV_of (fun w' _ => run_ixa vRcS cRc (by omega) (by omega) w') ?_
        refine QV_of (v := .agg r.enc.toArray) (fun w' hw => ?_) ?_
        · cases (show w' = wd from hw)
          rw [show ((j : Int)).toNat = j by omega]
          exact run_ldA Try.underlying24 rfl (by rw [iRc]; rfl) hcl
        refine QV_of (fun w' _ => run_cut vRcS cRc (by omega) (by omega) (by omega) w') ?_
        have hcut : RcRow wd (sliced (some a) 0 (j : Int).toNat c (8 + 1)) (row.take j) := by
          have hlj : (row.take j).length = j := by rw [List.length_take]; omega
          unfold RcRow
          rw [hlj, show ((j : Int)).toNat = j by omega]
          have := reads_cut (m := j) (es ▸ hrd) (by omega) (8 + 1)
          rw [fl_take (k := 8 + 1) Rc.enc_len] at this
          exact this
        refine CK_st Try.func39 rfl rfl (free_ok ((hq.calm hm1).calm hmd) hg hL r hcut (by rw [List.length_take]; omega)) ?_
        rintro u w3 hr3
        exact hK _ u w3 rfl hr3
      refine key _ _ rfl rfl rfl ?_
      intro ρ' u w' q8 hr
      rw [sq_n, posted_Posted_May_R1_eq]; unfold posted_Posted_May_R1_F
      show RowP w _ (ρ' 8) w'
      rw [q8]
      have s1 := hm1.size
      have sd := hmd.size
      exact ⟨owns_base hr.1 (by omega), (hm1.trans hmd).trans hr.2⟩
end
end Go.Proofs.Ytmnkedgmpbcicaa.Que
set_option linter.unusedVariables false
set_option linter.unusedSimpArgs false
set_option maxRecDepth 8000
namespace Go.X
open Go Go.RowKit
def Rc.got (f s : Int) (r : Rc) : Rc := { r with done := true, frm := f, seq := s }
end Go.X
namespace Go.Proofs.Ytmnkedgmpbcicaa.Que
open Go Go.X Go.RowKit Go.Proofs.Ytmnkedgmpbcicaa.XF Go.Proofs.Ytmnkedgmpbcicaa.XG Go.Proofs.Ytmnkedgmpbcicaa.XK
def setV (R : Rks) (rk c f s : Int) : Rks := match (rowP R rk).findIdx? (isC c) with
  | none => R
  | some j => match (rowP R rk)[j]? with
    | none => R
    | some r => putR R rk.toNat ((rowP R rk).set j (r.got f s))
def matchV (R : Rks) (ls : List Ms) (rk c f s : Int) : (Rks × List Ms) × Int :=
  if (mayV R ls rk c).any (Ms.isAt f s) then (if (takeV ls f s).2 = 0 then ((setV R rk c f s, (takeV ls f s).1), 0) else ((R, (takeV ls f s).1), 2)) else ((R, ls), 2)
structure PP (w0 w : World) (q p : Nat) (ls : List Ms) (V : QV) (R : Rks) (vs : List Value) : Prop where
  qa : QAt w q ls V
  pa : PAt w p R vs
  dj : ∀ b, V.F q b → ¬ PF p vs b
  fq : ∀ b, V.F q b → w0.heap.size ≤ b
  fp : ∀ b, PF p vs b → w0.heap.size ≤ b
  mod : Mod none_ w0 w
section
variable {w0 w w1 : World} {q p : Nat} {ls ls' : List Ms} {V V1 : QV} {R R' : Rks} {vs vs' : List Value}
theorem PP.move {S : Nat → Prop} (h : PP w0 w q p ls V R vs) (hm : Mod S w w1) (hS : ∀ b, S b → ¬ V.F q b ∧ ¬ PF p vs b ∧ w0.heap.size ≤ b) : PP w0 w1 q p ls V R vs :=
  ⟨h.qa.mod hm fun b z y => (hS b y).1 z, h.pa.mod hm fun b z y => (hS b y).2.1 z, h.dj, h.fq, h.fp, h.mod.then hm fun i hi z => by have := (hS i z).2.2; omega⟩
theorem PP.calm (h : PP w0 w q p ls V R vs) (hm : Mod none_ w w1) : PP w0 w1 q p ls V R vs := h.move hm fun _ z => z.elim
theorem PP.onQ (h : PP w0 w q p ls V R vs) (h1 : QAt w1 q ls' V1) (f : QFr q w V w1 V1) : PP w0 w1 q p ls' V1 R vs := by
  have hs := h.mod.size
  refine ⟨h1, h.pa.mod f.mod fun b z y => h.dj b y z, fun b z y => ?_, fun b z => ?_, h.fp, h.mod.then f.mod fun i hi z => by have := h.fq i z; omega⟩
  · rcases f.f b z with u | u
    · exact h.dj b u y
    · have := h.pa.old b y; omega
  · rcases f.f b z with u | u
    · exact h.fq b u
    · omega
theorem PP.onP (h : PP w0 w q p ls V R vs) (h1 : PAt w1 p R' vs') (f : PFr p w vs w1 vs') : PP w0 w1 q p ls V R' vs' := by
  have hs := h.mod.size
  refine ⟨h.qa.mod f.mod fun b z y => h.dj b z y, h1, fun b z y => ?_, h.fq, fun b z => ?_, h.mod.then f.mod fun i hi z => by have := h.fp i z; omega⟩
  · rcases f.f b y with u | u
    · exact h.dj b z u
    · have := h.qa.old b z; omega
  · rcases f.f b z with u | u
    · exact h.fp b u
    · omega
theorem match1_ok {w : World} {fb cb : Nat} {f c : Int} (hf : w.heap[fb]? = some (.cells #[.int .i64 f] 3 (0, 0))) (hb : w.heap[cb]? = some (.cells #[.int .i64 c] 3 (0, 0))) (m : Ms) : Rt Try.prog 43 #[.agg m.enc.toArray, .pointer (some ⟨fb, 0, none⟩), .pointer (some ⟨cb, 0, none⟩)] w fun v w' => v = .bool (m.isAt f c) ∧ Mod none_ w w' := by
  refine posted_Posted_Match_1_calls ?_
  unfold posted_Posted_Match_1_F
  refine box_k (cs := m.enc.toArray) rfl fun w1 hb1 hm1 hz1 => ?_
  have g1 : FO Try.prog w1 tMs 1 1 ⟨w.heap.size, 0, none⟩ 3 (.int .i64 m.frm) := FO.blk hb1 (by kernel_rfl) vI rfl rfl
  have g3 : FO Try.prog w1 tMs 3 3 ⟨w.heap.size, 0, none⟩ 3 (.int .i64 m.call) := FO.blk hb1 (by kernel_rfl) vI rfl rfl
  rw [g1.e]
  refine ldOne rfl vI rfl (hm1.blk hf id) ?_
  unfold Ms.isAt
  by_cases c1 : m.frm = f
  · rw [EQt c1, decide_eq_true c1]
    try simp only [↓VG_u, ↓UG_u, ↓MG_u, ↓NG_u, ↓PG_u, ↓BG_u, ↓CG_u, ↓IG_u, ↓VGtt, ↓VGtf, ↓VGft, ↓VGff, ↓UGtt, ↓UGtf, ↓UGft, ↓UGff, ↓MGtt, ↓MGtf, ↓MGft, ↓MGff, ↓NGtt, ↓NGtf, ↓NGft, ↓NGff, ↓PGtt, ↓PGtf, ↓PGft, ↓PGff, ↓BGtt, ↓BGtf, ↓BGft, ↓BGff, ↓CGtt, ↓CGtf, ↓CGft, ↓CGff, ↓IGtt, ↓IGtf, ↓IGft, ↓IGff, ↓PKt, ↓PKf, ↓CDt, ↓CDf, ↓NOTt, ↓NOTf, ↓NK_ptr]
    rw [g3.e]
    try simp only [↓VG_u, ↓UG_u, ↓MG_u, ↓NG_u, ↓PG_u, ↓BG_u, ↓CG_u, ↓IG_u, ↓VGtt, ↓VGtf, ↓VGft, ↓VGff, ↓UGtt, ↓UGtf, ↓UGft, ↓UGff, ↓MGtt, ↓MGtf, ↓MGft, ↓MGff, ↓NGtt, ↓NGtf, ↓NGft, ↓NGff, ↓PGtt, ↓PGtf, ↓PGft, ↓PGff, ↓BGtt, ↓BGtf, ↓BGft, ↓BGff, ↓CGtt, ↓CGtf, ↓CGft, ↓CGff, ↓IGtt, ↓IGtf, ↓IGft, ↓IGff, ↓PKt, ↓PKf, ↓CDt, ↓CDf, ↓NOTt, ↓NOTf, ↓NK_ptr]
    refine ldOne rfl vI rfl (hm1.blk hb id) ?_
    rw [BK_eql]
    try simp only [↓VG_u, ↓UG_u, ↓MG_u, ↓NG_u, ↓PG_u, ↓BG_u, ↓CG_u, ↓IG_u, ↓VGtt, ↓VGtf, ↓VGft, ↓VGff, ↓UGtt, ↓UGtf, ↓UGft, ↓UGff, ↓MGtt, ↓MGtf, ↓MGft, ↓MGff, ↓NGtt, ↓NGtf, ↓NGft, ↓NGff, ↓PGtt, ↓PGtf, ↓PGft, ↓PGff, ↓BGtt, ↓BGtf, ↓BGft, ↓BGff, ↓CGtt, ↓CGtf, ↓CGft, ↓CGff, ↓IGtt, ↓IGtf, ↓IGft, ↓IGff, ↓PKt, ↓PKf, ↓CDt, ↓CDf, ↓NOTt, ↓NOTf, ↓NK_ptr]
    exact ⟨by by_cases e : m.call = c <;> simp [e], hm1⟩
  · rw [EQf c1, decide_eq_false c1]
    try simp only [↓VG_u, ↓UG_u, ↓MG_u, ↓NG_u, ↓PG_u, ↓BG_u, ↓CG_u, ↓IG_u, ↓VGtt, ↓VGtf, ↓VGft, ↓VGff, ↓UGtt, ↓UGtf, ↓UGft, ↓UGff, ↓MGtt, ↓MGtf, ↓MGft, ↓MGff, ↓NGtt, ↓NGtf, ↓NGft, ↓NGff, ↓PGtt, ↓PGtf, ↓PGft, ↓PGff, ↓BGtt, ↓BGtf, ↓BGft, ↓BGff, ↓CGtt, ↓CGtf, ↓CGft, ↓CGff, ↓IGtt, ↓IGtf, ↓IGft, ↓IGff, ↓PKt, ↓PKf, ↓CDt, ↓CDf, ↓NOTt, ↓NOTf, ↓NK_ptr]
    exact ⟨by first | rfl | simp, hm1⟩
theorem match_R1 {K : Value → World → Prop} {ρ : Sl} {rk c f s : Int} {j b10 b11 : Nat} {r : Rc} (h : PAt w p R vs) (hlen : ∀ i, (R i).length ≤ 1000000) (h0 : 0 ≤ rk) (h1 : rk ≤ 63) (hj : (R rk.toNat).findIdx? (isC c) = some j) (hr : (R rk.toNat)[j]? = some r)
    (hb10 : w.heap[b10]? = some (.cells #[.int .i64 f] 3 (0, 0))) (hb11 : w.heap[b11]? = some (.cells #[.int .i64 s] 3 (0, 0)))
    (hp10 : ¬ PF p vs b10) (hp11 : ¬ PF p vs b11)
    (e0 : ρ 0 = .pointer (some ⟨p, 0, none⟩)) (e2 : ρ 2 = .int .i64 rk) (e3 : ρ 3 = .int .i64 c) (e10 : ρ 10 = .pointer (some ⟨b10, 0, none⟩)) (e11 : ρ 11 = .pointer (some ⟨b11, 0, none⟩))
    (hk : ∀ w', PAt w' p (putR R rk.toNat ((R rk.toNat).set j (r.got f s))) vs → Mod (PF p vs) w w' → K (.int .i64 0) w') : sx fn_ Try.prog 62 posted_Posted_Match_R1 (retK Try.prog [ResultVar.tmp 12] K) ρ w := by
  rw [posted_Posted_Match_R1_eq]; unfold posted_Posted_Match_R1_F
  have hmd : Mod none_ w { w with drawn := w.drawn + 1 } := (Mod.refl _ w).drawn _
  refine posted_Posted_Match_R2_held (D := []) (fun w' => Mod none_ w w') hmd ?_
  generalize ({ w with drawn := w.drawn + 1 } : World) = wd at *
  have hrow : rowP R rk = R rk.toNat := by unfold rowP; rw [if_pos ⟨h0, h1⟩]
  have hjl := (List.getElem?_eq_some_iff.1 hr).1
  obtain ⟨v, hv, _, _⟩ := h.at h0 h1
  have hO := h.rows _ _ hv
  obtain ⟨g, cap, ev, _⟩ := owns_some hO (by omega)
  have hvm := List.mem_of_getElem? hv
  have hgv : sb v g := by rw [ev]; rfl
  unfold posted_Posted_Match_R2_H
  rw [e0, e2, e3]
  refine HN_ptr ?_
  refine HV_of (fun w _ => run_fo (show fieldOff Try.prog tPd 1 = some 1 by kernel_rfl) _ w) ?_
  rw [add_pl]
  refine HV_of (fun w _ => run_arr h0 h1 w) ?_
  refine HV_of (v := v) (fun w' hw => run_ld1 vRcS rfl ?_) ?_
  · obtain ⟨v', hv', hc', _⟩ := (h.calm hw).at h0 h1
    rw [hv] at hv'
    cases hv'
    rw [Nat.zero_add]
    exact hc'
  refine CK_st Try.func42 rfl rfl (place_ok' (h.calm hmd) hlen rk c) ?_
  rintro _ w2 ⟨rfl, hm2⟩
  have hw2 := hmd.trans hm2
  refine ⟨hw2, ?_⟩
  rw [hrow, show idxR (isC c) (R rk.toNat) = (j : Int) by unfold idxR; rw [hj], ev]
  refine HV_of (fun w _ => run_ixa vRcS cRc (by omega) (by omega) w) ?_
  rw [sq_n, posted_Posted_Match_R3_eq]; unfold posted_Posted_Match_R3_F
  have hb10' := hw2.blk hb10 id
  have hb11' := hw2.blk hb11 id
  have h2 := h.calm hw2
  have key : ∀ (ρ1 : Sl), ρ1 14 = .pointer (some ⟨g, j * 9, none⟩) → ρ1 10 = .pointer (some ⟨b10, 0, none⟩) → ρ1 11 = .pointer (some ⟨b11, 0, none⟩) → W fn_ Try.prog 62 posted_Posted_Match_R4 (seqK (sx fn_ Try.prog 62 posted_Posted_Match_R5 (retK Try.prog [ResultVar.tmp 12] K)) (retK Try.prog [ResultVar.tmp 12] K)) ρ1 w2 := by
    intro ρ1 q14 q10 q11
    have hmd2 : Mod none_ w2 { w2 with drawn := w2.drawn + 1 } := (Mod.refl _ w2).drawn _
    refine posted_Posted_Match_R4_held (D := []) (fun w' => w'.heap[b10]? = some (.cells #[.int .i64 f] 3 (0, 0)) ∧ w'.heap[b11]? = some (.cells #[.int .i64 s] 3 (0, 0))) ⟨hmd2.blk hb10' id, hmd2.blk hb11' id⟩ ?_
    have hb10'' := hmd2.blk hb10' id
    have hb11'' := hmd2.blk hb11' id
    have h3 := h2.calm hmd2
    have hw3 := hw2.trans hmd2
    generalize ({ w2 with drawn := w2.drawn + 1 } : World) = w3 at *
    unfold posted_Posted_Match_R4_H posted_Posted_Match_R4_H0
    rw [q14, q10, q11]
    refine HV_of (v := .int .i64 f) (fun w hw => run_ld1 vI rfl (by rw [cell_blk hw.1]; rfl)) ?_
    refine HV_of (v := .int .i64 s) (fun w hw => run_ld1 vI rfl (by rw [cell_blk hw.2]; rfl)) ?_
    refine HN_ptr ?_
    refine HV_of (fun w _ => run_fo (show fieldOff Try.prog tRc 6 = some 6 by kernel_rfl) _ w) ?_
    rw [add_pl]
    have hO3 := h3.rows _ _ hv
    rw [ev] at hO3
    have hn10 : ¬ b10 = g := fun z => hp10 (.inr ⟨v, hvm, z ▸ hgv⟩)
    have hn11 : ¬ b11 = g := fun z => hp11 (.inr ⟨v, hvm, z ▸ hgv⟩)
    have s1 : ((R rk.toNat).flatMap Rc.enc).set (j * 9 + 6) (.bool true) = ((R rk.toNat).set j { r with done := true }).flatMap Rc.enc := fl_set (k := 8 + 1) Rc.enc_len hr (by decide) rfl
    have s2 : (((R rk.toNat).set j { r with done := true }).flatMap Rc.enc).set (j * 9 + 7) (.int .i64 f) = (((R rk.toNat).set j { r with done := true }).set j { r with done := true, frm := f }).flatMap Rc.enc := fl_set (k := 8 + 1) Rc.enc_len (List.getElem?_set_self hjl) (by decide) rfl
    have s3 : (((R rk.toNat).set j { r with done := true, frm := f }).flatMap Rc.enc).set (j * 9 + 8) (.int .i64 s) = (((R rk.toNat).set j { r with done := true, frm := f }).set j (r.got f s)).flatMap Rc.enc := fl_set (k := 8 + 1) Rc.enc_len (List.getElem?_set_self hjl) (by decide) rfl
    rw [List.set_set] at s2 s3
    refine st_row (by kernel_rfl) rfl hO3 (by omega) fun w4 hO4 hm4 => ?_
    rw [s1] at hO4
    have hb4 := hm4.blk hb10'' hn10
    have hc4 := hm4.blk hb11'' hn11
    refine ⟨⟨hb4, hc4⟩, ?_⟩
    refine HN_ptr ?_
    refine HV_of (fun w _ => run_fo (show fieldOff Try.prog tRc 7 = some 7 by kernel_rfl) _ w) ?_
    rw [add_pl]
    refine st_row (by kernel_rfl) rfl hO4 (by omega) fun w5 hO5 hm5 => ?_
    rw [s2] at hO5
    have hb5 := hm5.blk hb4 hn10
    have hc5 := hm5.blk hc4 hn11
    refine ⟨⟨hb5, hc5⟩, ?_⟩
    refine HN_ptr ?_
    have key2 : ∀ ρ2 : Sl, ρ2 60 = .pointer (some ⟨g, j * 9, none⟩) → ρ2 55 = .int .i64 s → posted_Posted_Match_R4_H1 (fun w' => w'.heap[b10]? = some (.cells #[.int .i64 f] 3 (0, 0)) ∧ w'.heap[b11]? = some (.cells #[.int .i64 s] 3 (0, 0))) (seqK (sx fn_ Try.prog 62 posted_Posted_Match_R5 (retK Try.prog [ResultVar.tmp 12] K)) (retK Try.prog [ResultVar.tmp 12] K) .normal) ρ2 w5 := by
      intro ρ2 q60 q55
      unfold posted_Posted_Match_R4_H1
      rw [q60, q55]
      refine HV_of (fun w _ => run_fo (show fieldOff Try.prog tRc 8 = some 8 by kernel_rfl) _ w) ?_
      rw [add_pl]
      refine st_row (by kernel_rfl) rfl hO5 (by omega) fun w6 hO6 hm6 => ?_
      rw [s3] at hO6
      refine ⟨⟨hm6.blk hb5 hn10, hm6.blk hc5 hn11⟩, ?_⟩
      rw [sq_n, posted_Posted_Match_R5_eq]; unfold posted_Posted_Match_R5_F
      show K (.int .i64 0) w6
      have hm36 : Mod (fun b => b = g) w3 w6 := (hm4.trans hm5).trans hm6
      refine hk w6 ⟨hm36.blk h3.blk fun z => h3.ne v hvm (z ▸ hgv), h3.len, fun i u hu => ?_, h3.ne, h3.dist⟩ ((hw3.mono fun b _ z => z.elim).then hm36 fun i hi z => .inr ⟨v, hvm, z ▸ hgv⟩)
      unfold putR
      by_cases hi : i = rk.toNat
      · subst hi
        rw [if_pos rfl]
        rw [hv] at hu
        cases hu
        rw [List.length_set, ev]
        exact hO6
      · rw [if_neg hi]
        exact owns_mod (h3.rows i u hu) hm36 fun k z y => h3.dist i _ u v hu hv hi k z (y ▸ hgv)
    exact key2 _ rfl rfl
  exact key _ (by show Value.pointer (some (Addr.add ⟨g, 0, none⟩ _)) = _; rw [add_pl]; simp) (by first | exact e10 | rfl) (by first | exact e11 | rfl)
end
end Go.Proofs.Ytmnkedgmpbcicaa.Que
set_option linter.unusedVariables false
set_option linter.unusedSimpArgs false
set_option maxRecDepth 8000
namespace Go.Proofs.Ytmnkedgmpbcicaa.Que
open Go Go.X Go.RowKit Go.Proofs.Ytmnkedgmpbcicaa.XF Go.Proofs.Ytmnkedgmpbcicaa.XG Go.Proofs.Ytmnkedgmpbcicaa.XK
theorem may_some {R : Rks} {ls : List Ms} {rk c : Int} {m : Ms} (h : m ∈ mayV R ls rk c) : (0 ≤ rk ∧ rk ≤ 63) ∧ ∃ j r, (R rk.toNat).findIdx? (isC c) = some j ∧ (R rk.toNat)[j]? = some r ∧ r.done = false ∧ m ∈ freeV ls r ((R rk.toNat).take j) := by
  unfold mayV at h
  by_cases hr : 0 ≤ rk ∧ rk ≤ 63
  · have e : rowP R rk = R rk.toNat := by unfold rowP; rw [if_pos hr]
    rw [e] at h
    refine ⟨hr, ?_⟩
    cases hj : (R rk.toNat).findIdx? (isC c) with
    | none => rw [hj] at h; cases h
    | some j =>
      rw [hj] at h
      dsimp only at h
      cases hx : (R rk.toNat)[j]? with
      | none => rw [hx] at h; cases h
      | some r =>
        rw [hx] at h
        dsimp only at h
        cases hd : r.done with
        | true => rw [hd] at h; cases h
        | false =>
          rw [hd] at h
          exact ⟨j, r, rfl, hx, hd, h⟩
  · have e : rowP R rk = [] := by unfold rowP; rw [if_neg hr]
    rw [e] at h
    cases h
theorem setV_eq {R : Rks} {rk c f s : Int} {j : Nat} {r : Rc} (hr : 0 ≤ rk ∧ rk ≤ 63) (hj : (R rk.toNat).findIdx? (isC c) = some j) (hx : (R rk.toNat)[j]? = some r) : setV R rk c f s = putR R rk.toNat ((R rk.toNat).set j (r.got f s)) := by
  unfold setV
  have e : rowP R rk = R rk.toNat := by unfold rowP; rw [if_pos hr]
  rw [e, hj]
  dsimp only
  rw [hx]
theorem may_len (R : Rks) (ls : List Ms) (rk c : Int) : (mayV R ls rk c).length ≤ 64 := by
  have hf : ∀ (r : Rc) (a : List Rc), (freeV ls r a).length ≤ 64 := fun r a => Nat.le_trans (List.length_filterMap_le _ _) (upto_len ls r.key r.rank 64)
  unfold mayV
  split
  · exact Nat.zero_le _
  · split
    · exact Nat.zero_le _
    · split
      · exact Nat.zero_le _
      · exact hf _ _
section
variable {w0 w : World} {q p : Nat} {ls : List Ms} {V : QV} {R : Rks} {vs : List Value}
theorem Match_ok (h : PP w0 w q p ls V R vs) (hlen : ∀ i, (R i).length ≤ 1000000) (hg : FrmOk ls) (hL : ls.length ≤ 500000) (rk c f s : Int) :
    Rt Try.prog 17 #[.pointer (some ⟨p, 0, none⟩), .pointer (some ⟨q, 0, none⟩), .int .i64 rk, .int .i64 c, .int .i64 f, .int .i64 s] w fun v w' => v = .int .i64 (matchV R ls rk c f s).2 ∧ PP w0 w' q p (matchV R ls rk c f s).1.2 V (matchV R ls rk c f s).1.1 vs ∧ Mod (fun b => V.F q b ∨ PF p vs b) w w' := by
  refine posted_Posted_Match_calls ?_
  unfold posted_Posted_Match_F
  refine box_k (cs := #[.int .i64 f]) rfl fun w1 hb1 hm1 hz1 => ?_
  refine box_k (cs := #[.int .i64 s]) rfl fun w2 hb2 hm2 hz2 => ?_
  have hb1' := hm2.blk hb1 id
  have h2 := (h.calm hm1).calm hm2
  have hm12 := hm1.trans hm2
  rw [BK_eqlP uPd]
  simp only [Option.isNone_some, ↓VG_u, ↓UG_u, ↓MG_u, ↓NG_u, ↓PG_u, ↓BG_u, ↓CG_u, ↓IG_u, ↓VGtt, ↓VGtf, ↓VGft, ↓VGff, ↓UGtt, ↓UGtf, ↓UGft, ↓UGff, ↓MGtt, ↓MGtf, ↓MGft, ↓MGff, ↓NGtt, ↓NGtf, ↓NGft, ↓NGff, ↓PGtt, ↓PGtf, ↓PGft, ↓PGff, ↓BGtt, ↓BGtf, ↓BGft, ↓BGff, ↓CGtt, ↓CGtf, ↓CGft, ↓CGff, ↓IGtt, ↓IGtf, ↓IGft, ↓IGff, ↓PKt, ↓PKf, ↓CDt, ↓CDf, ↓NOTt, ↓NOTf, ↓NK_ptr]
  rw [(f_made h2.pa).e]
  try simp only [↓VG_u, ↓UG_u, ↓MG_u, ↓NG_u, ↓PG_u, ↓BG_u, ↓CG_u, ↓IG_u, ↓VGtt, ↓VGtf, ↓VGft, ↓VGff, ↓UGtt, ↓UGtf, ↓UGft, ↓UGff, ↓MGtt, ↓MGtf, ↓MGft, ↓MGff, ↓NGtt, ↓NGtf, ↓NGft, ↓NGff, ↓PGtt, ↓PGtf, ↓PGft, ↓PGff, ↓BGtt, ↓BGtf, ↓BGft, ↓BGff, ↓CGtt, ↓CGtf, ↓CGft, ↓CGff, ↓IGtt, ↓IGtf, ↓IGft, ↓IGff, ↓PKt, ↓PKf, ↓CDt, ↓CDf, ↓NOTt, ↓NOTf, ↓NK_ptr]
  rw [mkFunc]
  refine CK_st Try.func16 rfl rfl (May_ok h2.pa hlen h2.qa hg hL rk c) ?_
  rintro vm w3 ⟨hO, hm3⟩
  have hml := may_len R ls rk c
  refine CK_st Try.func44 rfl rfl (ContainsFuncMs_ok (p := Ms.isAt f s) (reads_of_owns hO) (by omega) ?_) ?_
  · intro a _ w' hm' K hK
    refine CK_fn Try.func43 rfl rfl (match1_ok (hm'.blk (hm3.blk hb1' id) id) (hm'.blk (hm3.blk hb2 id) id) a) ?_
    rintro _ w'' ⟨rfl, hm''⟩
    exact hK w'' hm''
  rintro _ w4 ⟨rfl, hm4⟩
  have hm24 := hm3.trans hm4
  have h4 := h2.calm hm24
  have hm04 := hm12.trans hm24
  unfold matchV
  cases ha : (mayV R ls rk c).any (Ms.isAt f s) with
  | false =>
    simp only [↓VG_u, ↓UG_u, ↓MG_u, ↓NG_u, ↓PG_u, ↓BG_u, ↓CG_u, ↓IG_u, ↓VGtt, ↓VGtf, ↓VGft, ↓VGff, ↓UGtt, ↓UGtf, ↓UGft, ↓UGff, ↓MGtt, ↓MGtf, ↓MGft, ↓MGff, ↓NGtt, ↓NGtf, ↓NGft, ↓NGff, ↓PGtt, ↓PGtf, ↓PGft, ↓PGff, ↓BGtt, ↓BGtf, ↓BGft, ↓BGff, ↓CGtt, ↓CGtf, ↓CGft, ↓CGff, ↓IGtt, ↓IGtf, ↓IGft, ↓IGff, ↓PKt, ↓PKf, ↓CDt, ↓CDf, ↓NOTt, ↓NOTf, ↓NK_ptr]
    rw [posted_Posted_Match_R0_eq]; unfold posted_Posted_Match_R0_F
    refine caseC (fun z => ?_) (fun z => ?_)
    · exact ⟨rfl, h4, hm04.mono fun b _ z => z.elim⟩
    · cases z
  | true =>
    simp only [↓VG_u, ↓UG_u, ↓MG_u, ↓NG_u, ↓PG_u, ↓BG_u, ↓CG_u, ↓IG_u, ↓VGtt, ↓VGtf, ↓VGft, ↓VGff, ↓UGtt, ↓UGtf, ↓UGft, ↓UGff, ↓MGtt, ↓MGtf, ↓MGft, ↓MGff, ↓NGtt, ↓NGtf, ↓NGft, ↓NGff, ↓PGtt, ↓PGtf, ↓PGft, ↓PGff, ↓BGtt, ↓BGtf, ↓BGft, ↓BGff, ↓CGtt, ↓CGtf, ↓CGft, ↓CGff, ↓IGtt, ↓IGtf, ↓IGft, ↓IGff, ↓PKt, ↓PKf, ↓CDt, ↓CDf, ↓NOTt, ↓NOTf, ↓NK_ptr]
    have hb1'' := hm24.blk hb1' id
    have hb2'' := hm24.blk hb2 id
    refine ldOne rfl vI rfl hb1'' ?_
    try simp only [↓VG_u, ↓UG_u, ↓MG_u, ↓NG_u, ↓PG_u, ↓BG_u, ↓CG_u, ↓IG_u, ↓VGtt, ↓VGtf, ↓VGft, ↓VGff, ↓UGtt, ↓UGtf, ↓UGft, ↓UGff, ↓MGtt, ↓MGtf, ↓MGft, ↓MGff, ↓NGtt, ↓NGtf, ↓NGft, ↓NGff, ↓PGtt, ↓PGtf, ↓PGft, ↓PGff, ↓BGtt, ↓BGtf, ↓BGft, ↓BGff, ↓CGtt, ↓CGtf, ↓CGft, ↓CGff, ↓IGtt, ↓IGtf, ↓IGft, ↓IGff, ↓PKt, ↓PKf, ↓CDt, ↓CDf, ↓NOTt, ↓NOTf, ↓NK_ptr]
    refine ldOne rfl vI rfl hb2'' ?_
    try simp only [↓VG_u, ↓UG_u, ↓MG_u, ↓NG_u, ↓PG_u, ↓BG_u, ↓CG_u, ↓IG_u, ↓VGtt, ↓VGtf, ↓VGft, ↓VGff, ↓UGtt, ↓UGtf, ↓UGft, ↓UGff, ↓MGtt, ↓MGtf, ↓MGft, ↓MGff, ↓NGtt, ↓NGtf, ↓NGft, ↓NGff, ↓PGtt, ↓PGtf, ↓PGft, ↓PGff, ↓BGtt, ↓BGtf, ↓BGft, ↓BGff, ↓CGtt, ↓CGtf, ↓CGft, ↓CGff, ↓IGtt, ↓IGtf, ↓IGft, ↓IGff, ↓PKt, ↓PKf, ↓CDt, ↓CDf, ↓NOTt, ↓NOTf, ↓NK_ptr]
    refine CK_st Try.func45 rfl rfl (Take_ok h4.qa (by omega) f s) ?_
    rintro _ w5 ⟨rfl, h5, f5⟩
    have hP5 := h4.onQ h5 f5
    have fin : ∀ (ρ0 : Sl), ρ0 39 = .bool (!decide ((takeV ls f s).2 = 0)) → ρ0 0 = .pointer (some ⟨p, 0, none⟩) → ρ0 2 = .int .i64 rk → ρ0 3 = .int .i64 c → ρ0 10 = .pointer (some ⟨w.heap.size, 0, none⟩) → ρ0 11 = .pointer (some ⟨w1.heap.size, 0, none⟩) →
        ∀ (rt : Value → World → Prop), (∀ u w', (u = .int .i64 (if (takeV ls f s).2 = 0 then ((setV R rk c f s, (takeV ls f s).1), (0 : Int)) else ((R, (takeV ls f s).1), 2)).2 ∧ PP w0 w' q p (if (takeV ls f s).2 = 0 then ((setV R rk c f s, (takeV ls f s).1), (0 : Int)) else ((R, (takeV ls f s).1), 2)).1.2 V (if (takeV ls f s).2 = 0 then ((setV R rk c f s, (takeV ls f s).1), (0 : Int)) else ((R, (takeV ls f s).1), 2)).1.1 vs ∧ Mod (fun b => V.F q b ∨ PF p vs b) w w') → rt u w') →
        sx fn_ Try.prog 62 posted_Posted_Match_R0 (seqK (sx fn_ Try.prog 62 posted_Posted_Match_R1 (retK Try.prog [ResultVar.tmp 12] rt)) (retK Try.prog [ResultVar.tmp 12] rt)) ρ0 w5 := by
      intro ρ0 q39 q0 q2 q3 q10 q11 rt hrt
      rw [posted_Posted_Match_R0_eq]; unfold posted_Posted_Match_R0_F
      rw [q39]
      have hm05 : Mod (fun b => V.F q b ∨ PF p vs b) w w5 := (hm04.mono fun b _ z => z.elim).then f5.mod fun i hi z => .inl z
      by_cases ht : (takeV ls f s).2 = 0
      · rw [decide_eq_true ht]
        refine condF ?_
        rw [sq_n]
        obtain ⟨m, hmm, _⟩ := List.any_eq_true.1 ha
        obtain ⟨hr, j, r, hj, hx, hd, _⟩ := may_some hmm
        have nF : ∀ b, w.heap.size ≤ b → ¬ PF p vs b := fun b hb z => by have := h.pa.old b z; omega
        have nV : ∀ b, w.heap.size ≤ b → ¬ V.F q b := fun b hb z => by have := h.qa.old b z; omega
        have s1 := hm1.size
        refine match_R1 (r := r) hP5.pa hlen hr.1 hr.2 hj hx (f5.mod.blk hb1'' (nV _ (Nat.le_refl _))) (f5.mod.blk hb2'' (nV _ s1)) (nF _ (Nat.le_refl _)) (nF _ s1) q0 q2 q3 q10 q11 fun w6 h6 hm6 => ?_
        refine hrt _ _ ?_
        rw [if_pos ht, setV_eq hr hj hx]
        exact ⟨rfl, hP5.onP h6 ⟨hm6, fun b z => .inl z⟩, hm05.then hm6 fun i hi z => .inr z⟩
      · rw [decide_eq_false ht]
        refine condT ?_
        refine hrt _ _ ?_
        rw [if_neg ht]
        exact ⟨rfl, hP5, hm05⟩
    by_cases ht : (takeV ls f s).2 = 0
    · rw [NEf ht]
      try simp only [↓VG_u, ↓UG_u, ↓MG_u, ↓NG_u, ↓PG_u, ↓BG_u, ↓CG_u, ↓IG_u, ↓VGtt, ↓VGtf, ↓VGft, ↓VGff, ↓UGtt, ↓UGtf, ↓UGft, ↓UGff, ↓MGtt, ↓MGtf, ↓MGft, ↓MGff, ↓NGtt, ↓NGtf, ↓NGft, ↓NGff, ↓PGtt, ↓PGtf, ↓PGft, ↓PGff, ↓BGtt, ↓BGtf, ↓BGft, ↓BGff, ↓CGtt, ↓CGtf, ↓CGft, ↓CGff, ↓IGtt, ↓IGtf, ↓IGft, ↓IGff, ↓PKt, ↓PKf, ↓CDt, ↓CDf, ↓NOTt, ↓NOTf, ↓NK_ptr]
      exact fin _ (by rw [decide_eq_true ht]; rfl) rfl rfl rfl rfl rfl _ (fun u w' z => by simpa using z)
    · rw [NEt ht]
      try simp only [↓VG_u, ↓UG_u, ↓MG_u, ↓NG_u, ↓PG_u, ↓BG_u, ↓CG_u, ↓IG_u, ↓VGtt, ↓VGtf, ↓VGft, ↓VGff, ↓UGtt, ↓UGtf, ↓UGft, ↓UGff, ↓MGtt, ↓MGtf, ↓MGft, ↓MGff, ↓NGtt, ↓NGtf, ↓NGft, ↓NGff, ↓PGtt, ↓PGtf, ↓PGft, ↓PGff, ↓BGtt, ↓BGtf, ↓BGft, ↓BGff, ↓CGtt, ↓CGtf, ↓CGft, ↓CGff, ↓IGtt, ↓IGtf, ↓IGft, ↓IGff, ↓PKt, ↓PKf, ↓CDt, ↓CDf, ↓NOTt, ↓NOTf, ↓NK_ptr]
      exact fin _ (by rw [decide_eq_false ht]; rfl) rfl rfl rfl rfl rfl _ (fun u w' z => by simpa using z)
end
end Go.Proofs.Ytmnkedgmpbcicaa.Que
set_option linter.unusedVariables false
set_option linter.unusedSimpArgs false
set_option maxRecDepth 8000
namespace Go.Proofs.Ytmnkedgmpbcicaa.Que
open Go Go.X Go.RowKit Go.Proofs.Ytmnkedgmpbcicaa.XF Go.Proofs.Ytmnkedgmpbcicaa.XG Go.Proofs.Ytmnkedgmpbcicaa.XK
def am (c t : Int) : Ms := ⟨[], 1, 0, c, t, 0, 1, false⟩
def ar (c pr tg : Int) : Rc := ⟨[], 0, c, pr, tg, -1, false, 0, 0⟩
def aR0 : Rks := fun _ => []
def aR1 : Rks := (postV aR0 (ar 0 (-1) 5)).1
def aR2 : Rks := (postV aR1 (ar 1 1 (-1))).1
def aQ : List Ms := [am 0 5, am 1 6]
theorem a1 : (postV aR0 (ar 0 (-1) 5)).2 = 0 := by decide
theorem a2 : (postV aR1 (ar 1 1 (-1))).2 = 0 := by decide
theorem a3 : postV aR2 (ar 1 1 1) = (aR2, 2) := by unfold postV; rw [if_pos (by decide)]
theorem a4 : sendV [] (am 0 5) = ([am 0 5], 0) := by decide
theorem a5 : sendV [am 0 5] (am 1 6) = (aQ, 0) := by decide
theorem a6 : mayV aR2 aQ 0 0 = [am 0 5] := by decide
theorem a7 : mayV aR2 aQ 0 1 = [] := by decide
theorem a8 : freeV aQ (ar 9 1 6) (rowP aR2 0) = [] := by decide
theorem a9 : matchV aR2 aQ 0 1 1 1 = ((aR2, aQ), 2) := by unfold matchV; rw [a7]; rfl
theorem a10 : (matchV aR2 aQ 0 0 1 0).2 = 0 := by decide
theorem a14 : FrmOk aQ := by unfold X.FrmOk aQ am; simp
theorem post_len {R : Rks} {n : Nat} (h : ∀ i, (R i).length ≤ n) (r : Rc) (i : Nat) : ((postV R r).1 i).length ≤ n + 1 := by
  unfold postV
  split
  · exact Nat.le_succ_of_le (h i)
  · dsimp only
    unfold putR
    split
    · rw [List.length_append, List.length_singleton]
      have := row_R h r.rank
      omega
    · exact Nat.le_succ_of_le (h i)
theorem set_len (R : Rks) (rk c f s : Int) (i : Nat) : (setV R rk c f s i).length = (R i).length := by
  by_cases hr : 0 ≤ rk ∧ rk ≤ 63
  · have e : rowP R rk = R rk.toNat := by unfold rowP; rw [if_pos hr]
    unfold setV
    rw [e]
    cases hj : (R rk.toNat).findIdx? (isC c) with
    | none => rfl
    | some j =>
      dsimp only
      cases hx : (R rk.toNat)[j]? with
      | none => rfl
      | some r =>
        dsimp only
        unfold putR
        by_cases hi : i = rk.toNat
        · rw [if_pos hi, List.length_set, hi]
        · rw [if_neg hi]
  · have e : rowP R rk = [] := by unfold rowP; rw [if_neg hr]
    unfold setV
    rw [e]
    rfl
theorem match_len (R : Rks) (ls : List Ms) (rk c f s : Int) (i : Nat) : ((matchV R ls rk c f s).1.1 i).length = (R i).length := by
  unfold matchV
  split
  · split
    · exact set_len ..
    · rfl
  · rfl
theorem match_ml (R : Rks) (ls : List Ms) (rk c f s : Int) : ((matchV R ls rk c f s).1.2).length = ls.length := by
  unfold matchV
  split
  · split
    · exact takeV_len ..
    · exact takeV_len ..
  · rfl
theorem match_frm {ls : List Ms} (h : FrmOk ls) (R : Rks) (rk c f s : Int) : FrmOk (matchV R ls rk c f s).1.2 := by
  unfold matchV
  split
  · split
    · exact FrmOk.take h f s
    · exact FrmOk.take h f s
  · exact h
theorem PP.keep {w0 w w1 : World} {q p : Nat} {ls : List Ms} {V : QV} {R : Rks} {vs : List Value} {B n : Nat} {e : TypeId} {sz : Nat} {v : Value} {xs : List Value} {x : World} (h : PP w0 x q p ls V R vs) (hB : x.heap.size ≤ B) (ho : w.ownsRow B e sz v n xs) (hm : Mod (fun b => V.F q b ∨ PF p vs b) w w1) : w1.ownsRow B e sz v n xs :=
  owns_mod ho hm fun g z y => by
    have := (owns_bd ho g z).1
    rcases y with y | y
    · have := h.qa.old g y; omega
    · have := h.pa.old g y; omega
theorem begun (w : World) {K : Value → Value → World → Prop} (hk : ∀ q p V vs w', PP w w' q p [] V (fun _ => []) vs → K (.pointer (some ⟨q, 0, none⟩)) (.pointer (some ⟨p, 0, none⟩)) w') :
    CK Try.prog (.func (.func 23) #[] #[]) [] w fun x w => CK Try.prog (.func (.func 24) #[] #[]) [] w fun y w => K x y w := by
  refine CK_st Try.func23 rfl rfl (New_ok w) ?_
  rintro _ w1 ⟨q, V, rfl, hq, hqF, hm1⟩
  refine CK_st Try.func24 rfl rfl (New_ok' w1) ?_
  rintro _ w2 ⟨p, vs, rfl, hp, hpF, hm2⟩
  have s1 := hm1.size
  exact hk q p V vs w2 ⟨hq.calm hm2, hp, fun b z y => by have := hq.old b z; have := hpF b y; omega, hqF, fun b z => by have := hpF b z; omega, hm1.trans hm2⟩
end Go.Proofs.Ytmnkedgmpbcicaa.Que
set_option linter.unusedVariables false
set_option linter.unusedSimpArgs false
set_option maxRecDepth 8000
namespace Go.X
open Go Go.RowKit
structure Bc where
  kind : Int
  m : Ms
  r : Rc
def Bc.enc (a : Bc) : List Value := .int .u8 a.kind :: (a.m.enc ++ a.r.enc)
theorem Bc.enc_len (a : Bc) : a.enc.length = 17 + 1 := rfl
def Bcts (w : World) (v : Value) (l : List Bc) : Prop := reads w (17 + 1) v l.length (l.flatMap Bc.enc)
def greatB (l : List Bc) : Bool := decide (120 < l.length) || l.any fun a => decide (100 < a.m.key.length) || decide (100 < a.r.key.length)
end Go.X
namespace Go.Proofs.Ytmnkedgmpbcicaa.Que
open Go Go.X Go.RowKit Go.Proofs.Ytmnkedgmpbcicaa.XF Go.Proofs.Ytmnkedgmpbcicaa.XG Go.Proofs.Ytmnkedgmpbcicaa.XK
abbrev tBcs : TypeId := 22
abbrev tBc : TypeId := 48
theorem vBcs : Try.prog.underlying tBcs = some (.slice tBc) := by kernel_rfl
theorem cBc : Try.prog.cellsOf tBc = 17 + 1 := by kernel_rfl
theorem ixBc {w : World} {s : Value} {l : List Bc} {i : Nat} {n : Int} {e : Bc} {K : Value → World → Prop} (h : Bcts w s l) (hi : l[i]? = some e) (hn : n = (i : Int)) (hk : ∀ a, (∀ j u, e.enc[j]? = some u → w.cell? (a.add j) = some u) → K (.pointer (some a)) w) :
    VK Try.prog (Instr.indexAt tBcs s (.int .i64 n)) w K := by
  subst hn
  have hlt : i < l.length := (List.getElem?_eq_some_iff.1 hi).1
  refine ixat vBcs cBc h (by omega) (by omega) fun a ha _ => hk a fun j u hu => ?_
  have hj : j < 17 + 1 := (List.getElem?_eq_some_iff.1 hu).1
  refine ha j u hj ?_
  rw [show ((i : Int).toNat) = i by omega, fl_get (k := 17 + 1) Bc.enc_len hi hj]
  exact hu
theorem ldBc {w : World} {s : Value} {l : List Bc} {i : Nat} {n : Int} {e : Bc} {K : Value → Value → World → Prop} (h : Bcts w s l) (hi : l[i]? = some e) (hn : n = (i : Int)) (hk : ∀ x, K x (.agg e.enc.toArray) w) :
    VK Try.prog (Instr.indexAt tBcs s (.int .i64 n)) w fun x w => VK Try.prog (Instr.loadAt tBc x) w (K x) := by
  subst hn
  have hlt : i < l.length := (List.getElem?_eq_some_iff.1 hi).1
  refine ixldA vBcs cBc Try.underlying48 rfl h (by omega) (by omega) fun x => ?_
  rw [show ((i : Int).toNat) = i by omega, fl_drop (k := 17 + 1) Bc.enc_len hi]
  exact hk x
theorem Bcts.calm {w w' : World} {s : Value} {l : List Bc} (h : Bcts w s l) (hm : Mod none_ w w') : Bcts w' s l := reads_mod h hm fun _ _ _ => id
theorem GreatB_ok {w : World} {v : Value} {l : List Bc} (h : Bcts w v l) : Rt Try.prog 11 #[v] w fun u w' => u = .bool (greatB l) ∧ w' = w := by
  refine dispatcherlaw14_Great_calls ?_
  unfold dispatcherlaw14_Great_F
  obtain ⟨A, c, es, _⟩ := reads_cap h
  rw [es, len_sl vBcs, ← es, BK_gtr]
  unfold greatB
  by_cases hl : 120 < l.length
  · rw [decide_eq_true (by omega), decide_eq_true hl]
    exact condT ⟨rfl, rfl⟩
  · rw [decide_eq_false (by omega), decide_eq_false hl]
    refine condF ?_
    refine W_loop dispatcherlaw14_Great_L0_ok (fun ρ w' => ∃ i : Nat, i ≤ l.length ∧ ρ 3 = .int .i64 i ∧ ρ 0 = v ∧ (∀ a ∈ l.take i, ¬ 100 < a.m.key.length ∧ ¬ 100 < a.r.key.length) ∧ w' = w) (fun ρ _ => l.length - (intOf (ρ 3)).toNat)
      ⟨0, Nat.zero_le _, rfl, rfl, by simp, rfl⟩ ?_
    rintro ρ w1 ⟨i, hi, e3, e0, hno, rfl⟩
    rw [dispatcherlaw14_Great_L0_eq]; unfold dispatcherlaw14_Great_L0_F
    rw [e3, e0, es, len_sl vBcs, ← es, BK_lss]
    by_cases hlt : i < l.length
    · rw [decide_eq_true (by omega)]
      refine condT ?_
      have hx : l[i]? = some l[i] := List.getElem?_eq_getElem hlt
      have hmem : l[i] ∈ l := List.getElem_mem hlt
      have etk : l.take (i + 1) = l.take i ++ [l[i]] := by rw [List.take_add_one, hx]; rfl
      generalize l[i] = x at *
      refine ixBc h hx rfl fun a ha => ?_
      rw [fo (show fieldOff Try.prog tBc 1 = some 1 by kernel_rfl), fo (show fieldOff Try.prog tMs 0 = some 0 by kernel_rfl), add_add]
      refine ld1 vS rfl (ha 1 (strV x.m.key) rfl) ?_
      unfold strV
      rw [len_str vS, BK_gtr]
      have hsz : (⟨x.m.key.toArray⟩ : ByteArray).size = x.m.key.length := by simp [ByteArray.size]
      have hsz2 : (⟨x.r.key.toArray⟩ : ByteArray).size = x.r.key.length := by simp [ByteArray.size]
      rw [hsz]
      by_cases hk : 100 < x.m.key.length
      · rw [decide_eq_true (show (100 : Int) < (x.m.key.length : Nat) by omega)]
        try simp only [↓VG_u, ↓UG_u, ↓MG_u, ↓NG_u, ↓PG_u, ↓BG_u, ↓CG_u, ↓IG_u, ↓VGtt, ↓VGtf, ↓VGft, ↓VGff, ↓UGtt, ↓UGtf, ↓UGft, ↓UGff, ↓MGtt, ↓MGtf, ↓MGft, ↓MGff, ↓NGtt, ↓NGtf, ↓NGft, ↓NGff, ↓PGtt, ↓PGtf, ↓PGft, ↓PGff, ↓BGtt, ↓BGtf, ↓BGft, ↓BGff, ↓CGtt, ↓CGtf, ↓CGft, ↓CGff, ↓IGtt, ↓IGtf, ↓IGft, ↓IGff, ↓PKt, ↓PKf, ↓CDt, ↓CDf, ↓NOTt, ↓NOTf, ↓NK_ptr]
        refine ⟨?_, by trivial⟩
        rw [List.any_eq_true.2 ⟨x, hmem, by rw [decide_eq_true hk]; rfl⟩]
        first | rfl | simp
      · rw [decide_eq_false (show ¬ (100 : Int) < (x.m.key.length : Nat) by omega)]
        try simp only [↓VG_u, ↓UG_u, ↓MG_u, ↓NG_u, ↓PG_u, ↓BG_u, ↓CG_u, ↓IG_u, ↓VGtt, ↓VGtf, ↓VGft, ↓VGff, ↓UGtt, ↓UGtf, ↓UGft, ↓UGff, ↓MGtt, ↓MGtf, ↓MGft, ↓MGff, ↓NGtt, ↓NGtf, ↓NGft, ↓NGff, ↓PGtt, ↓PGtf, ↓PGft, ↓PGff, ↓BGtt, ↓BGtf, ↓BGft, ↓BGff, ↓CGtt, ↓CGtf, ↓CGft, ↓CGff, ↓IGtt, ↓IGtf, ↓IGft, ↓IGff, ↓PKt, ↓PKf, ↓CDt, ↓CDf, ↓NOTt, ↓NOTf, ↓NK_ptr]
        refine ixBc h hx rfl fun a2 ha2 => ?_
        try simp only [↓VG_u, ↓UG_u, ↓MG_u, ↓NG_u, ↓PG_u, ↓BG_u, ↓CG_u, ↓IG_u, ↓VGtt, ↓VGtf, ↓VGft, ↓VGff, ↓UGtt, ↓UGtf, ↓UGft, ↓UGff, ↓MGtt, ↓MGtf, ↓MGft, ↓MGff, ↓NGtt, ↓NGtf, ↓NGft, ↓NGff, ↓PGtt, ↓PGtf, ↓PGft, ↓PGff, ↓BGtt, ↓BGtf, ↓BGft, ↓BGff, ↓CGtt, ↓CGtf, ↓CGft, ↓CGff, ↓IGtt, ↓IGtf, ↓IGft, ↓IGff, ↓PKt, ↓PKf, ↓CDt, ↓CDf, ↓NOTt, ↓NOTf, ↓NK_ptr]
        rw [fo (show fieldOff Try.prog tBc 2 = some 9 by kernel_rfl)]
        try simp only [↓VG_u, ↓UG_u, ↓MG_u, ↓NG_u, ↓PG_u, ↓BG_u, ↓CG_u, ↓IG_u, ↓VGtt, ↓VGtf, ↓VGft, ↓VGff, ↓UGtt, ↓UGtf, ↓UGft, ↓UGff, ↓MGtt, ↓MGtf, ↓MGft, ↓MGff, ↓NGtt, ↓NGtf, ↓NGft, ↓NGff, ↓PGtt, ↓PGtf, ↓PGft, ↓PGff, ↓BGtt, ↓BGtf, ↓BGft, ↓BGff, ↓CGtt, ↓CGtf, ↓CGft, ↓CGff, ↓IGtt, ↓IGtf, ↓IGft, ↓IGff, ↓PKt, ↓PKf, ↓CDt, ↓CDf, ↓NOTt, ↓NOTf, ↓NK_ptr]
        rw [fo (show fieldOff Try.prog tRc 0 = some 0 by kernel_rfl), add_add]
        try simp only [↓VG_u, ↓UG_u, ↓MG_u, ↓NG_u, ↓PG_u, ↓BG_u, ↓CG_u, ↓IG_u, ↓VGtt, ↓VGtf, ↓VGft, ↓VGff, ↓UGtt, ↓UGtf, ↓UGft, ↓UGff, ↓MGtt, ↓MGtf, ↓MGft, ↓MGff, ↓NGtt, ↓NGtf, ↓NGft, ↓NGff, ↓PGtt, ↓PGtf, ↓PGft, ↓PGff, ↓BGtt, ↓BGtf, ↓BGft, ↓BGff, ↓CGtt, ↓CGtf, ↓CGft, ↓CGff, ↓IGtt, ↓IGtf, ↓IGft, ↓IGff, ↓PKt, ↓PKf, ↓CDt, ↓CDf, ↓NOTt, ↓NOTf, ↓NK_ptr]
        refine ld1 vS rfl (ha2 9 (strV x.r.key) rfl) ?_
        unfold strV
        try simp only [↓VG_u, ↓UG_u, ↓MG_u, ↓NG_u, ↓PG_u, ↓BG_u, ↓CG_u, ↓IG_u, ↓VGtt, ↓VGtf, ↓VGft, ↓VGff, ↓UGtt, ↓UGtf, ↓UGft, ↓UGff, ↓MGtt, ↓MGtf, ↓MGft, ↓MGff, ↓NGtt, ↓NGtf, ↓NGft, ↓NGff, ↓PGtt, ↓PGtf, ↓PGft, ↓PGff, ↓BGtt, ↓BGtf, ↓BGft, ↓BGff, ↓CGtt, ↓CGtf, ↓CGft, ↓CGff, ↓IGtt, ↓IGtf, ↓IGft, ↓IGff, ↓PKt, ↓PKf, ↓CDt, ↓CDf, ↓NOTt, ↓NOTf, ↓NK_ptr]
        rw [len_str vS]
        try simp only [↓VG_u, ↓UG_u, ↓MG_u, ↓NG_u, ↓PG_u, ↓BG_u, ↓CG_u, ↓IG_u, ↓VGtt, ↓VGtf, ↓VGft, ↓VGff, ↓UGtt, ↓UGtf, ↓UGft, ↓UGff, ↓MGtt, ↓MGtf, ↓MGft, ↓MGff, ↓NGtt, ↓NGtf, ↓NGft, ↓NGff, ↓PGtt, ↓PGtf, ↓PGft, ↓PGff, ↓BGtt, ↓BGtf, ↓BGft, ↓BGff, ↓CGtt, ↓CGtf, ↓CGft, ↓CGff, ↓IGtt, ↓IGtf, ↓IGft, ↓IGff, ↓PKt, ↓PKf, ↓CDt, ↓CDf, ↓NOTt, ↓NOTf, ↓NK_ptr]
        rw [BK_gtr, hsz2]
        try simp only [↓VG_u, ↓UG_u, ↓MG_u, ↓NG_u, ↓PG_u, ↓BG_u, ↓CG_u, ↓IG_u, ↓VGtt, ↓VGtf, ↓VGft, ↓VGff, ↓UGtt, ↓UGtf, ↓UGft, ↓UGff, ↓MGtt, ↓MGtf, ↓MGft, ↓MGff, ↓NGtt, ↓NGtf, ↓NGft, ↓NGff, ↓PGtt, ↓PGtf, ↓PGft, ↓PGff, ↓BGtt, ↓BGtf, ↓BGft, ↓BGff, ↓CGtt, ↓CGtf, ↓CGft, ↓CGff, ↓IGtt, ↓IGtf, ↓IGft, ↓IGff, ↓PKt, ↓PKf, ↓CDt, ↓CDf, ↓NOTt, ↓NOTf, ↓NK_ptr]
        by_cases hk2 : 100 < x.r.key.length
        · rw [decide_eq_true (show (100 : Int) < (x.r.key.length : Nat) by omega)]
          refine condT ⟨?_, rfl⟩
          rw [List.any_eq_true.2 ⟨x, hmem, by rw [decide_eq_true hk2, Bool.or_true]⟩]; rfl
        · rw [decide_eq_false (show ¬ (100 : Int) < (x.r.key.length : Nat) by omega)]
          refine condF ?_
          rw [BK_add, wrap_i (by omega) (by omega)]
          refine ⟨⟨i + 1, hlt, rfl, by first | rfl | exact e0, ?_, rfl⟩, ?_⟩
          · rw [etk]
            intro a q
            rcases List.mem_append.1 q with q | q
            · exact hno a q
            · rw [List.mem_singleton.1 q]; exact ⟨hk, hk2⟩
          · simp only [sq_n, sq_x, sq_r, bk_n, bk_r, bk_x, rt_r, rt_n, rs_0, rs_t, pk_1, pk_2, up_at, reduceIte, Nat.reduceEqDiff, intOf]; omega
    · obtain rfl : i = l.length := by omega
      rw [decide_eq_false (by omega)]
      refine condF ?_
      rw [sq_x, bk_x, sq_n, dispatcherlaw14_Great_R1_eq]; unfold dispatcherlaw14_Great_R1_F
      refine ⟨?_, rfl⟩
      rw [List.take_length] at hno
      have : (l.any fun a => decide (100 < a.m.key.length) || decide (100 < a.r.key.length)) = false := List.any_eq_false.2 fun a ha => by have := hno a ha; simp only [Bool.or_eq_true, decide_eq_true_eq, not_or]; exact this
      rw [this]; rfl
inductive StepQ (R : Rks) (ls : List Ms) : Rks → List Ms → Prop
  | none : StepQ R ls R ls
  | send (m : Ms) : StepQ R ls R (sendV ls m).1
  | post (r : Rc) : StepQ R ls (postV R r).1 ls
  | mtch (rk c f s : Int) : StepQ R ls (matchV R ls rk c f s).1.1 (matchV R ls rk c f s).1.2
structure MFr (q p : Nat) (w : World) (V : QV) (vs : List Value) (w' : World) (V' : QV) (vs' : List Value) : Prop where
  mod : Mod (fun b => V.F q b ∨ PF p vs b) w w'
  f : ∀ b, V'.F q b ∨ PF p vs' b → (V.F q b ∨ PF p vs b) ∨ w.heap.size ≤ b
theorem MFr.calm {q p : Nat} {w w' : World} {V : QV} {vs : List Value} (h : Mod none_ w w') : MFr q p w V vs w' V vs := ⟨h.mono fun _ _ q => q.elim, fun _ q => .inl q⟩
theorem MFr.trans {q p : Nat} {w w1 w2 : World} {V V1 V2 : QV} {vs vs1 vs2 : List Value} (h : MFr q p w V vs w1 V1 vs1) (k : MFr q p w1 V1 vs1 w2 V2 vs2) : MFr q p w V vs w2 V2 vs2 := by
  have hs := h.mod.size
  refine ⟨h.mod.then k.mod fun i hi z => ?_, fun b z => ?_⟩
  · rcases h.f i z with y | y
    · exact y
    · omega
  · rcases k.f b z with y | y
    · exact h.f b y
    · right; omega
theorem MFr.q {q p : Nat} {w w1 : World} {V V1 : QV} {vs : List Value} (h : QFr q w V w1 V1) : MFr q p w V vs w1 V1 vs := ⟨h.mod.mono fun b _ z => .inl z, fun b z => by
  rcases z with z | z
  · rcases h.f b z with y | y
    · exact .inl (.inl y)
    · exact .inr y
  · exact .inl (.inr z)⟩
theorem MFr.p {q p : Nat} {w w1 : World} {V : QV} {vs vs1 : List Value} (h : PFr p w vs w1 vs1) : MFr q p w V vs w1 V vs1 := ⟨h.mod.mono fun b _ z => .inr z, fun b z => by
  rcases z with z | z
  · exact .inl (.inl z)
  · rcases h.f b z with y | y
    · exact .inl (.inr y)
    · exact .inr y⟩
theorem MFr.m {q p : Nat} {w w1 : World} {V : QV} {vs : List Value} (h : Mod (fun b => V.F q b ∨ PF p vs b) w w1) : MFr q p w V vs w1 V vs := ⟨h, fun b z => .inl z⟩
structure Beside (q p : Nat) (V : QV) (vs : List Value) (w : World) (o : Value) : Prop where
  ap : ∀ g, sb o g → ¬ (V.F q g ∨ PF p vs g)
  old : ∀ g, sb o g → g < w.heap.size
theorem Beside.on {q p : Nat} {w w1 : World} {V V1 : QV} {vs vs1 : List Value} {o : Value} (h : Beside q p V vs w o) (k : MFr q p w V vs w1 V1 vs1) : Beside q p V1 vs1 w1 o := by
  have hs := k.mod.size
  refine ⟨fun g z y => ?_, fun g z => by have := h.old g z; omega⟩
  rcases k.f g y with u | u
  · exact h.ap g z u
  · have := h.old g z; omega
theorem Beside.keep {q p : Nat} {w w1 : World} {V V1 : QV} {vs vs1 : List Value} {o : Value} {B n sz : Nat} {e : TypeId} {xs : List Value} (h : Beside q p V vs w o) (k : MFr q p w V vs w1 V1 vs1) (ho : w.ownsRow B e sz o n xs) : w1.ownsRow B e sz o n xs :=
  owns_mod ho k.mod fun g z y => h.ap g z y
theorem Beside.new {w0 w w1 : World} {q p : Nat} {V : QV} {vs : List Value} {ls : List Ms} {R : Rks} {o : Value} {n sz : Nat} {e : TypeId} {xs : List Value} (h : PP w0 w q p ls V R vs) (ho : w1.ownsRow w.heap.size e sz o n xs) : Beside q p V vs w1 o := by
  refine ⟨fun g z y => ?_, fun g z => (owns_bd ho g z).2⟩
  have := (owns_bd ho g z).1
  rcases y with y | y
  · have := h.qa.old g y; omega
  · have := h.pa.old g y; omega
end Go.Proofs.Ytmnkedgmpbcicaa.Que
set_option linter.unusedVariables false
set_option linter.unusedSimpArgs false
set_option maxRecDepth 8000
namespace Go.Proofs.Ytmnkedgmpbcicaa.Que
open Go Go.X Go.RowKit Go.Proofs.Ytmnkedgmpbcicaa.XF Go.Proofs.Ytmnkedgmpbcicaa.XG Go.Proofs.Ytmnkedgmpbcicaa.XK
theorem vU8 : Try.prog.underlying 5 = some (.int .u8) := by kernel_rfl
section
variable {w0 w : World} {q p : Nat} {ls : List Ms} {V : QV} {R : Rks} {vs : List Value}
end
end Go.Proofs.Ytmnkedgmpbcicaa.Que
set_option linter.unusedVariables false
set_option linter.unusedSimpArgs false
set_option maxRecDepth 8000
namespace Go.Proofs.Ytmnkedgmpbcicaa.Que
open Go Go.X Go.RowKit Go.Proofs.Ytmnkedgmpbcicaa.XF Go.Proofs.Ytmnkedgmpbcicaa.XG Go.Proofs.Ytmnkedgmpbcicaa.XK
structure OkQ (R : Rks) (ls : List Ms) : Prop where
  frm : FrmOk ls
  asc : ∀ i, (R i).Pairwise fun a b => a.call < b.call
  rk : ∀ i r, r ∈ R i → r.rank = (i : Int)
theorem OkQ.nil : OkQ (fun _ => []) [] := ⟨FrmOk.nil, fun _ => List.Pairwise.nil, fun _ _ h => by cases h⟩
theorem bad_no {r : Rc} {l : List Rc} (h : badR r l = false) : (0 ≤ r.rank ∧ r.rank ≤ 63) ∧ ∀ x, l.getLast? = some x → x.call < r.call := by
  unfold badR at h
  simp only [Bool.or_eq_false_iff, Bool.not_eq_false', Bool.and_eq_true, decide_eq_true_eq] at h
  refine ⟨h.1.1.1.1.1, fun x hx => ?_⟩
  have := h.2
  rw [hx] at this
  have := of_decide_eq_false this
  omega
theorem asc_snoc {l : List Rc} (h : l.Pairwise fun a b => a.call < b.call) {r : Rc} (hl : ∀ x, l.getLast? = some x → x.call < r.call) : (l ++ [r]).Pairwise fun a b => a.call < b.call := by
  rw [List.pairwise_append]
  refine ⟨h, List.pairwise_singleton _ _, fun a ha b hb => ?_⟩
  rw [List.mem_singleton.1 hb]
  have hne : l ≠ [] := by intro z; subst z; cases ha
  have hlast := hl _ (List.getLast?_eq_some_getLast hne)
  rcases (List.pairwise_iff_getElem.1 h) with hp
  obtain ⟨i, hi, rfl⟩ := List.mem_iff_getElem.1 ha
  rw [List.getLast_eq_getElem] at hlast
  by_cases e : i = l.length - 1
  · subst e; exact hlast
  · have := hp i (l.length - 1) hi (by omega) (by omega)
    omega
theorem asc_set {l : List Rc} (h : l.Pairwise fun a b => a.call < b.call) {j : Nat} {r : Rc} (hj : l[j]? = some r) (f s : Int) : (l.set j (r.got f s)).Pairwise fun a b => a.call < b.call := by
  have hjl := (List.getElem?_eq_some_iff.1 hj).1
  have hjr := (List.getElem?_eq_some_iff.1 hj).2
  rw [List.pairwise_iff_getElem] at h ⊢
  have key : ∀ i (hi : i < (l.set j (r.got f s)).length), (l.set j (r.got f s))[i].call = (l[i]'(by simpa using hi)).call := fun i hi => by
    rw [List.getElem_set]
    split
    · rename_i e; subst e; rw [hjr]; rfl
    · rfl
  intro a b ha hb hab
  rw [key, key]
  exact h a b _ _ hab
theorem OkQ.step {R R' : Rks} {ls ls' : List Ms} (h : OkQ R ls) (hs : StepQ R ls R' ls') : OkQ R' ls' := by
  cases hs with
  | none => exact h
  | send m => exact ⟨h.frm.send m, h.asc, h.rk⟩
  | post r =>
    refine ⟨h.frm, fun i => ?_, fun i x hx => ?_⟩
    · unfold postV
      split
      · exact h.asc i
      · rename_i hb
        have hb := bad_no (Bool.eq_false_iff.2 hb)
        dsimp only
        unfold putR
        split
        · rename_i e
          have er : rowP R r.rank = R r.rank.toNat := by unfold rowP; rw [if_pos hb.1]
          rw [er] at hb ⊢
          exact asc_snoc (h.asc _) hb.2
        · exact h.asc i
    · unfold postV at hx
      split at hx
      · exact h.rk i x hx
      · rename_i hb
        have hb := bad_no (Bool.eq_false_iff.2 hb)
        dsimp only at hx
        unfold putR at hx
        split at hx
        · rename_i e
          have er : rowP R r.rank = R r.rank.toNat := by unfold rowP; rw [if_pos hb.1]
          rw [er, ← e] at hx
          rcases List.mem_append.1 hx with z | z
          · exact h.rk i x z
          · rw [List.mem_singleton.1 z]
            show r.rank = _
            omega
        · exact h.rk i x hx
  | mtch rk c f s =>
    have hset : (∀ i, (setV R rk c f s i).Pairwise fun a b => a.call < b.call) ∧ ∀ i r, r ∈ setV R rk c f s i → r.rank = (i : Int) := by
      by_cases hr : 0 ≤ rk ∧ rk ≤ 63
      · have er : rowP R rk = R rk.toNat := by unfold rowP; rw [if_pos hr]
        unfold setV
        rw [er]
        cases hj : (R rk.toNat).findIdx? (isC c) with
        | none => exact ⟨h.asc, h.rk⟩
        | some j =>
          dsimp only
          cases hx : (R rk.toNat)[j]? with
          | none => exact ⟨h.asc, h.rk⟩
          | some r =>
            dsimp only
            unfold putR
            refine ⟨fun i => ?_, fun i x hxm => ?_⟩
            · split
              · exact asc_set (h.asc _) hx f s
              · exact h.asc i
            · split at hxm
              · rename_i e
                rcases List.mem_or_eq_of_mem_set hxm with z | z
                · rw [e]; exact h.rk _ x z
                · rw [z, e]; exact h.rk _ r (List.mem_of_getElem? hx)
              · exact h.rk i x hxm
      · have er : rowP R rk = [] := by unfold rowP; rw [if_neg hr]
        unfold setV
        rw [er]
        exact ⟨h.asc, h.rk⟩
    refine ⟨match_frm h.frm R rk c f s, fun i => ?_, fun i x hx => ?_⟩
    · unfold matchV
      split
      · split
        · exact hset.1 i
        · exact h.asc i
      · exact h.asc i
    · unfold matchV at hx
      split at hx
      · split at hx
        · exact hset.2 i x hx
        · exact h.rk i x hx
      · exact h.rk i x hx
end Go.Proofs.Ytmnkedgmpbcicaa.Que
set_option linter.unusedVariables false
set_option linter.unusedSimpArgs false
set_option maxRecDepth 8000
namespace Go.Proofs.Ytmnkedgmpbcicaa.Que
open Go Go.X Go.RowKit
theorem first_mem {ls : List Ms} {c : Ch} {tag : Int} {m : Ms} (h : firstV ls c tag = some m) : m ∈ ls ∧ m.ch = c ∧ m.taken = false ∧ (tag = -1 ∨ tag = m.tag) := by
  unfold firstV at h
  have hm := List.mem_of_find?_eq_some h
  have hf := List.find?_some h
  have hr := mem_row.1 hm
  refine ⟨hr.1, hr.2, ?_, ?_⟩
  · unfold fits at hf
    simp only [Bool.and_eq_true, Bool.not_eq_true'] at hf
    exact hf.1
  · unfold fits at hf
    simp only [Bool.and_eq_true, Bool.or_eq_true, decide_eq_true_eq] at hf
    exact hf.2
theorem one_some {ls : List Ms} {r : Rc} {wait : List Rc} {f : Int} {m : Ms} (h : oneV ls r wait f = some m) : skipV r f = false ∧ firstV ls (r.key, f, r.rank) r.tag = some m ∧ (∀ x ∈ wait, fitsV x m = false) ∧ m.frm = f := by
  unfold oneV at h
  cases hs : skipV r f with
  | true => rw [hs] at h; cases h
  | false =>
    rw [hs] at h
    rw [if_neg (by decide)] at h
    cases hf : firstV ls (r.key, f, r.rank) r.tag with
    | none => rw [hf] at h; cases h
    | some x =>
      rw [hf] at h
      dsimp only at h
      split at h
      · cases h
      · rename_i hw
        cases h
        refine ⟨rfl, rfl, fun y hy => ?_, ?_⟩
        · have := List.any_eq_false.1 (Bool.eq_false_iff.2 hw) y hy
          simpa using this
        · have := (first_mem hf).2.1
          exact congrArg (fun c : Ch => c.2.1) this
structure FreeM (ls : List Ms) (r : Rc) (ahead : List Rc) (m : Ms) : Prop where
  mem : m ∈ ls
  frm : m.frm ∈ sendersV ls r.key r.rank
  one : oneV ls r (ahead.filter wt) m.frm = some m
  first : firstV ls (r.key, m.frm, r.rank) r.tag = some m
  un : m.taken = false
  fit : fitsV r m = true
  no : ∀ x ∈ ahead, x.done = false → fitsV x m = false
theorem free_mem {ls : List Ms} {r : Rc} {ahead : List Rc} {m : Ms} (h : m ∈ freeV ls r ahead) : FreeM ls r ahead m := by
  unfold freeV at h
  obtain ⟨f, hf, ho⟩ := List.mem_filterMap.1 h
  obtain ⟨hs, h1, hw, hfr⟩ := one_some ho
  subst hfr
  obtain ⟨hm, hc, ht, hg⟩ := first_mem h1
  refine ⟨hm, hf, ho, h1, ht, ?_, fun x hx hd => hw x (List.mem_filter.2 ⟨hx, by unfold wt; rw [hd]; rfl⟩)⟩
  have hk : m.key = r.key := congrArg (fun c : Ch => c.1) hc
  have ht' : m.to = r.rank := congrArg (fun c : Ch => c.2.2) hc
  unfold fitsV
  rw [hk, ht', decide_eq_true rfl, decide_eq_true rfl]
  have hp : (decide (r.peer = -1) || decide (r.peer = m.frm)) = true := by
    unfold skipV at hs
    revert hs
    cases decide (r.peer = -1) <;> cases decide (r.peer = m.frm) <;> simp
  have hg' : (decide (r.tag = -1) || decide (r.tag = m.tag)) = true := by
    rcases hg with z | z
    · rw [decide_eq_true z]; rfl
    · rw [decide_eq_true z, Bool.or_true]
  rw [hp, hg']
  rfl
theorem take_of {ls : List Ms} (hu : ls.Pairwise fun a b => ¬ (a.frm = b.frm ∧ a.call = b.call)) {m : Ms} (hm : m ∈ ls) (ht : m.taken = false) : takeV ls m.frm m.call = (ls.map (tk m.frm m.call), 0) := by
  have hf : ls.find? (Ms.isAt m.frm m.call) = some m := by
    cases hq : ls.find? (Ms.isAt m.frm m.call) with
    | none =>
      have := List.find?_eq_none.1 hq m hm
      exact absurd (isAt_iff.2 ⟨rfl, rfl⟩) this
    | some x =>
      have hx := List.mem_of_find?_eq_some hq
      have hp := isAt_iff.1 (List.find?_some hq)
      rw [uniq_mem hu hx hm hp.1 hp.2]
  unfold takeV
  rw [hf]
  simp [ht]
theorem may_match {R : Rks} {ls : List Ms} (hu : ls.Pairwise fun a b => ¬ (a.frm = b.frm ∧ a.call = b.call)) {rk c : Int} {m : Ms} (h : m ∈ mayV R ls rk c) : matchV R ls rk c m.frm m.call = ((setV R rk c m.frm m.call, ls.map (tk m.frm m.call)), 0) := by
  obtain ⟨hr, j, r, hj, hx, hd, hf⟩ := may_some h
  have hM := free_mem hf
  unfold matchV
  rw [if_pos (List.any_eq_true.2 ⟨m, h, isAt_iff.2 ⟨rfl, rfl⟩⟩), take_of hu hM.mem hM.un]
  rfl
end Go.Proofs.Ytmnkedgmpbcicaa.Que
set_option linter.unusedVariables false
set_option linter.unusedSimpArgs false
set_option maxRecDepth 8000
namespace Go.Proofs.Ytmnkedgmpbcicaa.Que
open Go Go.X Go.RowKit Go.Proofs.Ytmnkedgmpbcicaa.XF Go.Proofs.Ytmnkedgmpbcicaa.XG Go.Proofs.Ytmnkedgmpbcicaa.XK
theorem own_any {w : World} {v : Value} {l : List Ms} {B i : Nat} {m : Ms} (h : w.ownsRow B tMs 8 v l.length (l.flatMap Ms.enc)) (hi : l[i]? = some m) : ∃ a, (∀ w', (Instr.indexAt tMsS v (.int .i64 (i : Int))).run Try.prog w' = .ok (.pointer (some a)) w') ∧ ∀ w', Mod none_ w w' → ∀ k u, m.enc[k]? = some u → w'.cell? (a.add k) = some u := by
  have hil := (List.getElem?_eq_some_iff.1 hi).1
  obtain ⟨g, cap, ev, _⟩ := owns_some h (by omega)
  subst ev
  refine ⟨⟨g, i * 8, none⟩, fun w' => ?_, fun w' hw k u hu => ?_⟩
  · rw [run_ixa vMsS cMs (by omega) (by omega) w', add_pl]
    congr 4
    omega
  · have hk : k < 7 + 1 := (List.getElem?_eq_some_iff.1 hu).1
    obtain ⟨_, A, c, es, _, hr⟩ := reads_mod (reads_of_owns h) hw (fun _ _ _ => id)
    cases es
    obtain ⟨a, ha, hc⟩ := hr (i * (7 + 1) + k) u (by rw [fl_get (k := 7 + 1) Ms.enc_len hi hk]; exact hu)
    cases ha
    rw [add_pl] at hc ⊢
    rw [Nat.zero_add] at hc
    exact hc
theorem PP.base {w0 w1 w : World} {q p : Nat} {ls : List Ms} {V : QV} {R : Rks} {vs : List Value} (h : PP w1 w q p ls V R vs) (hm : Mod none_ w0 w1) : PP w0 w q p ls V R vs :=
  ⟨h.qa, h.pa, h.dj, fun b z => Nat.le_trans hm.size (h.fq b z), fun b z => Nat.le_trans hm.size (h.fp b z), hm.trans h.mod⟩
section
variable {w0 w : World} {q p b3 : Nat} {ls : List Ms} {V : QV} {R : Rks} {vs : List Value} {r : Rc} {L : List Ms} {vm : Value}
structure PrI (w0 w' : World) (q p b3 : Nat) (ls : List Ms) (V : QV) (R : Rks) (vs : List Value) (r : Rc) (L : List Ms) (vm : Value) : Prop where
  pp : PP w0 w' q p ls V R vs
  b : w'.heap[b3]? = some (.cells r.enc.toArray tRc (0, 0))
  nb : ¬ (V.F q b3 ∨ PF p vs b3)
  bs : Beside q p V vs w' vm
  own : w'.ownsRow w0.heap.size tMs 8 vm L.length (L.flatMap Ms.enc)
theorem PrI.on {w' w'' : World} (h : PrI w0 w' q p b3 ls V R vs r L vm) (hp : PP w0 w'' q p ls V R vs) (hm : Mod (fun b => V.F q b ∨ PF p vs b) w' w'') : PrI w0 w'' q p b3 ls V R vs r L vm :=
  ⟨hp, hm.blk h.b h.nb, h.nb, h.bs.on (MFr.m hm), h.bs.keep (MFr.m hm) h.own⟩
theorem PrI.calm {w' w'' : World} (h : PrI w0 w' q p b3 ls V R vs r L vm) (hm : Mod none_ w' w'') : PrI w0 w'' q p b3 ls V R vs r L vm := h.on (h.pp.calm hm) (hm.mono fun _ _ z => z.elim)
end
end Go.Proofs.Ytmnkedgmpbcicaa.Que
set_option linter.unusedVariables false
set_option linter.unusedSimpArgs false
set_option maxRecDepth 8000
namespace Go.Proofs.Ytmnkedgmpbcicaa.Que
open Go Go.X Go.RowKit Go.Proofs.Ytmnkedgmpbcicaa.XF Go.Proofs.Ytmnkedgmpbcicaa.XG Go.Proofs.Ytmnkedgmpbcicaa.XK
theorem up_nq {ρ : Sl} {d : Nat} {v : Value} {k : Nat} (hk : k ≠ d) : up ρ d v k = ρ k := by rw [up_at, if_neg hk]
theorem Fits_ok (w : World) (r : Rc) (m : Ms) : Rt Try.prog 19 #[.agg r.enc.toArray, .agg m.enc.toArray] w fun v w' => v = .bool (fitsV r m) ∧ Mod none_ w w' := by
  refine posted_Fits_calls ?_
  unfold posted_Fits_F
  refine box_k (cs := r.enc.toArray) rfl fun w1 hb1 hm1 hz1 => ?_
  refine box_k (cs := m.enc.toArray) rfl fun w2 hb2 hm2 hz2 => ?_
  refine ldS rfl Try.underlying24 rfl (by rw [iRc]; rfl) (hm2.blk hb1 id) ?_
  refine ldS rfl Try.underlying39 rfl (by rw [iMs]; rfl) hb2 ?_
  refine CK_st Try.func48 rfl rfl (fits_ok w2 r m) ?_
  rintro _ w3 ⟨rfl, hm3⟩
  exact ⟨rfl, (hm1.trans hm2).trans hm3⟩
theorem rc_any {w : World} {v : Value} {l : List Rc} {i : Nat} {r : Rc} (h : RcRow w v l) (hi : l[i]? = some r) : ∃ a, (∀ w', (Instr.indexAt tRcS v (.int .i64 (i : Int))).run Try.prog w' = .ok (.pointer (some a)) w') ∧ (∀ w', Mod none_ w w' → ∀ k u, r.enc[k]? = some u → w'.cell? (a.add k) = some u) ∧ ∀ w', Mod none_ w w' → (Instr.loadAt tRc (.pointer (some a))).run Try.prog w' = .ok (.agg r.enc.toArray) w' := by
  have hil := (List.getElem?_eq_some_iff.1 hi).1
  obtain ⟨A, c, es, _⟩ := reads_cap h
  subst es
  have hlt0 : (l.flatMap Rc.enc)[i * (8 + 1) + 0]? = some (strV r.key) := by rw [fl_get (k := 8 + 1) Rc.enc_len hi (by decide)]; rfl
  have hA : ∃ a, A = some a := by
    obtain ⟨_, A', c', es', _, hr⟩ := h
    cases es'
    obtain ⟨a, ha, _⟩ := hr _ _ hlt0
    exact ⟨a, ha⟩
  obtain ⟨a, rfl⟩ := hA
  have hc : ∀ w', Mod none_ w w' → ∀ k u, r.enc[k]? = some u → w'.cell? ((a.add (i * (8 + 1))).add k) = some u := fun w' hw k u hu => by
    have hk : k < 8 + 1 := (List.getElem?_eq_some_iff.1 hu).1
    obtain ⟨_, A2, c2, es2, _, hr2⟩ := RcRow.calm h hw
    cases es2
    obtain ⟨a2, ha2, hc2⟩ := hr2 (i * (8 + 1) + k) u (by rw [fl_get (k := 8 + 1) Rc.enc_len hi hk]; exact hu)
    cases ha2
    rw [add_add]
    exact hc2
  refine ⟨a.add (i * (8 + 1)), fun w' => ?_, hc, fun w' hw => run_ldA Try.underlying24 rfl (by rw [iRc]; rfl) (hc w' hw)⟩
  rw [run_ixa vRcS cRc (by omega) (by omega) w', show ((i : Int)).toNat = i by omega]
theorem own_ld {w : World} {v : Value} {l : List Ms} {B i : Nat} {m : Ms} (h : w.ownsRow B tMs 8 v l.length (l.flatMap Ms.enc)) (hi : l[i]? = some m) : ∃ a, (∀ w', (Instr.indexAt tMsS v (.int .i64 (i : Int))).run Try.prog w' = .ok (.pointer (some a)) w') ∧ (∀ w', Mod none_ w w' → ∀ k u, m.enc[k]? = some u → w'.cell? (a.add k) = some u) ∧ ∀ w', Mod none_ w w' → (Instr.loadAt tMs (.pointer (some a))).run Try.prog w' = .ok (.agg m.enc.toArray) w' := by
  obtain ⟨a, ha, hc⟩ := own_any h hi
  exact ⟨a, ha, hc, fun w' hw => run_ldA Try.underlying39 rfl (by rw [iMs]; rfl) (hc w' hw)⟩
section
variable {w : World} {vw vm : Value} {Ws : List Rc} {L : List Ms} {B i : Nat} {r : Rc}
end
section
variable {w : World} {vl : Value} {L : List Ms} {B : Nat}
end
end Go.Proofs.Ytmnkedgmpbcicaa.Que
set_option linter.unusedVariables false
set_option linter.unusedSimpArgs false
set_option maxRecDepth 8000
namespace Go.X
open Go Go.RowKit
def isRC (rk c : Int) (r : Rc) : Bool := decide (r.rank = rk) && decide (r.call = c)
def EF (d : Nat) (v : Value) (b : Nat) : Prop := b = d ∨ sb v b
end Go.X
namespace Go.Proofs.Ytmnkedgmpbcicaa.Que
open Go Go.X Go.RowKit Go.Proofs.Ytmnkedgmpbcicaa.XF Go.Proofs.Ytmnkedgmpbcicaa.XG Go.Proofs.Ytmnkedgmpbcicaa.XK
abbrev tEd : TypeId := 71
structure EAt (w : World) (d : Nat) (A : List Rc) (v : Value) : Prop where
  blk : w.heap[d]? = some (.cells #[v] tEd (0, 0))
  own : w.ownsRow 0 tRc 9 v A.length (A.flatMap Rc.enc)
structure EFr (d : Nat) (w : World) (v : Value) (w' : World) (v' : Value) : Prop where
  mod : Mod (EF d v) w w'
  f : ∀ b, EF d v' b → EF d v b ∨ w.heap.size ≤ b
theorem EFr.calm {d : Nat} {w w' : World} {v : Value} (h : Mod none_ w w') : EFr d w v w' v := ⟨h.mono fun _ _ q => q.elim, fun _ q => .inl q⟩
theorem EAt.mod {w w' : World} {d : Nat} {A : List Rc} {v : Value} {S : Nat → Prop} (h : EAt w d A v) (hm : Mod S w w') (hS : ∀ b, EF d v b → ¬ S b) : EAt w' d A v :=
  ⟨hm.blk h.blk (hS _ (.inl rfl)), owns_mod h.own hm fun k q => hS k (.inr q)⟩
theorem EAt.calm {w w' : World} {d : Nat} {A : List Rc} {v : Value} (h : EAt w d A v) (hm : Mod none_ w w') : EAt w' d A v := h.mod hm fun _ _ q => q
theorem EAt.old {w : World} {d : Nat} {A : List Rc} {v : Value} (h : EAt w d A v) : ∀ b, EF d v b → b < w.heap.size := by
  rintro b (rfl | hb)
  · exact X.blk_lt h.blk
  · exact (owns_bd h.own b hb).2
section
variable {w : World} {d : Nat} {A : List Rc} {v : Value}
theorem f_A (h : EAt w d A v) : FO Try.prog w tEd 0 0 ⟨d, 0, none⟩ tRcS v := FO.blk h.blk (by kernel_rfl) vRcS rfl rfl
theorem e_row (h : EAt w d A v) : RcRow w v A := reads_of_owns h.own
theorem RFits_ok (w : World) (r : Rc) (m : Ms) : Rt Try.prog 38 #[.agg r.enc.toArray, .agg m.enc.toArray] w fun v w' => v = .bool (fitsV r m) ∧ Mod none_ w w' := by
  refine dispatcherref14_Fits_calls ?_
  unfold dispatcherref14_Fits_F
  refine box_k (cs := r.enc.toArray) rfl fun w1 hb1 hm1 hz1 => ?_
  refine box_k (cs := m.enc.toArray) rfl fun w2 hb2 hm2 hz2 => ?_
  have hb1' := hm2.blk hb1 id
  have hmm := hm1.trans hm2
  have k0 : FO Try.prog w2 tRc 0 0 ⟨w.heap.size, 0, none⟩ 9 (strV r.key) := FO.blk hb1' (by kernel_rfl) vS rfl rfl
  have k1 : FO Try.prog w2 tRc 1 1 ⟨w.heap.size, 0, none⟩ 3 (.int .i64 r.rank) := FO.blk hb1' (by kernel_rfl) vI rfl rfl
  have k3 : FO Try.prog w2 tRc 3 3 ⟨w.heap.size, 0, none⟩ 3 (.int .i64 r.peer) := FO.blk hb1' (by kernel_rfl) vI rfl rfl
  have k4 : FO Try.prog w2 tRc 4 4 ⟨w.heap.size, 0, none⟩ 3 (.int .i64 r.tag) := FO.blk hb1' (by kernel_rfl) vI rfl rfl
  have g0 : FO Try.prog w2 tMs 0 0 ⟨w1.heap.size, 0, none⟩ 9 (strV m.key) := FO.blk hb2 (by kernel_rfl) vS rfl rfl
  have g1 : FO Try.prog w2 tMs 1 1 ⟨w1.heap.size, 0, none⟩ 3 (.int .i64 m.frm) := FO.blk hb2 (by kernel_rfl) vI rfl rfl
  have g2 : FO Try.prog w2 tMs 2 2 ⟨w1.heap.size, 0, none⟩ 3 (.int .i64 m.to) := FO.blk hb2 (by kernel_rfl) vI rfl rfl
  have g4 : FO Try.prog w2 tMs 4 4 ⟨w1.heap.size, 0, none⟩ 3 (.int .i64 m.tag) := FO.blk hb2 (by kernel_rfl) vI rfl rfl
  have fin : ∀ b, fitsV r m = b → (Value.bool b = .bool (fitsV r m) ∧ Mod none_ w w2) := fun b hb => ⟨by rw [hb], hmm⟩
  rw [k0.e, g0.e, BK_neqL]
  by_cases c0 : r.key = m.key
  · rw [decide_eq_false (show ¬ r.key ≠ m.key from fun z => z c0)]
    try simp only [↓VG_u, ↓UG_u, ↓MG_u, ↓NG_u, ↓PG_u, ↓BG_u, ↓CG_u, ↓IG_u, ↓VGtt, ↓VGtf, ↓VGft, ↓VGff, ↓UGtt, ↓UGtf, ↓UGft, ↓UGff, ↓MGtt, ↓MGtf, ↓MGft, ↓MGff, ↓NGtt, ↓NGtf, ↓NGft, ↓NGff, ↓PGtt, ↓PGtf, ↓PGft, ↓PGff, ↓BGtt, ↓BGtf, ↓BGft, ↓BGff, ↓CGtt, ↓CGtf, ↓CGft, ↓CGff, ↓IGtt, ↓IGtf, ↓IGft, ↓IGff, ↓PKt, ↓PKf, ↓CDt, ↓CDf, ↓NOTt, ↓NOTf, ↓NK_ptr]
    rw [k1.e]
    try simp only [↓VG_u, ↓UG_u, ↓MG_u, ↓NG_u, ↓PG_u, ↓BG_u, ↓CG_u, ↓IG_u, ↓VGtt, ↓VGtf, ↓VGft, ↓VGff, ↓UGtt, ↓UGtf, ↓UGft, ↓UGff, ↓MGtt, ↓MGtf, ↓MGft, ↓MGff, ↓NGtt, ↓NGtf, ↓NGft, ↓NGff, ↓PGtt, ↓PGtf, ↓PGft, ↓PGff, ↓BGtt, ↓BGtf, ↓BGft, ↓BGff, ↓CGtt, ↓CGtf, ↓CGft, ↓CGff, ↓IGtt, ↓IGtf, ↓IGft, ↓IGff, ↓PKt, ↓PKf, ↓CDt, ↓CDf, ↓NOTt, ↓NOTf, ↓NK_ptr]
    rw [g2.e]
    try simp only [↓VG_u, ↓UG_u, ↓MG_u, ↓NG_u, ↓PG_u, ↓BG_u, ↓CG_u, ↓IG_u, ↓VGtt, ↓VGtf, ↓VGft, ↓VGff, ↓UGtt, ↓UGtf, ↓UGft, ↓UGff, ↓MGtt, ↓MGtf, ↓MGft, ↓MGff, ↓NGtt, ↓NGtf, ↓NGft, ↓NGff, ↓PGtt, ↓PGtf, ↓PGft, ↓PGff, ↓BGtt, ↓BGtf, ↓BGft, ↓BGff, ↓CGtt, ↓CGtf, ↓CGft, ↓CGff, ↓IGtt, ↓IGtf, ↓IGft, ↓IGff, ↓PKt, ↓PKf, ↓CDt, ↓CDf, ↓NOTt, ↓NOTf, ↓NK_ptr]
    by_cases c1 : r.rank = m.to
    · rw [NEf c1]
      try simp only [↓VG_u, ↓UG_u, ↓MG_u, ↓NG_u, ↓PG_u, ↓BG_u, ↓CG_u, ↓IG_u, ↓VGtt, ↓VGtf, ↓VGft, ↓VGff, ↓UGtt, ↓UGtf, ↓UGft, ↓UGff, ↓MGtt, ↓MGtf, ↓MGft, ↓MGff, ↓NGtt, ↓NGtf, ↓NGft, ↓NGff, ↓PGtt, ↓PGtf, ↓PGft, ↓PGff, ↓BGtt, ↓BGtf, ↓BGft, ↓BGff, ↓CGtt, ↓CGtf, ↓CGft, ↓CGff, ↓IGtt, ↓IGtf, ↓IGft, ↓IGff, ↓PKt, ↓PKf, ↓CDt, ↓CDf, ↓NOTt, ↓NOTf, ↓NK_ptr]
      have last : fitsV r m = ((decide (r.peer = -1) || decide (r.peer = m.frm)) && (decide (r.tag = -1) || decide (r.tag = m.tag))) := by unfold fitsV; rw [decide_eq_true c0, decide_eq_true c1]; rfl
      rw [k3.e]
      try simp only [↓VG_u, ↓UG_u, ↓MG_u, ↓NG_u, ↓PG_u, ↓BG_u, ↓CG_u, ↓IG_u, ↓VGtt, ↓VGtf, ↓VGft, ↓VGff, ↓UGtt, ↓UGtf, ↓UGft, ↓UGff, ↓MGtt, ↓MGtf, ↓MGft, ↓MGff, ↓NGtt, ↓NGtf, ↓NGft, ↓NGff, ↓PGtt, ↓PGtf, ↓PGft, ↓PGff, ↓BGtt, ↓BGtf, ↓BGft, ↓BGff, ↓CGtt, ↓CGtf, ↓CGft, ↓CGff, ↓IGtt, ↓IGtf, ↓IGft, ↓IGff, ↓PKt, ↓PKf, ↓CDt, ↓CDf, ↓NOTt, ↓NOTf, ↓NK_ptr]
      have tagp : (decide (r.peer = -1) || decide (r.peer = m.frm)) = true → fitsV r m = (decide (r.tag = -1) || decide (r.tag = m.tag)) := fun z => by rw [last, z]; rfl
      by_cases c2 : r.peer = -1
      · rw [EQt c2]
        try simp only [↓VG_u, ↓UG_u, ↓MG_u, ↓NG_u, ↓PG_u, ↓BG_u, ↓CG_u, ↓IG_u, ↓VGtt, ↓VGtf, ↓VGft, ↓VGff, ↓UGtt, ↓UGtf, ↓UGft, ↓UGff, ↓MGtt, ↓MGtf, ↓MGft, ↓MGff, ↓NGtt, ↓NGtf, ↓NGft, ↓NGff, ↓PGtt, ↓PGtf, ↓PGft, ↓PGff, ↓BGtt, ↓BGtf, ↓BGft, ↓BGff, ↓CGtt, ↓CGtf, ↓CGft, ↓CGff, ↓IGtt, ↓IGtf, ↓IGft, ↓IGff, ↓PKt, ↓PKf, ↓CDt, ↓CDf, ↓NOTt, ↓NOTf, ↓NK_ptr]
        rw [k4.e]
        try simp only [↓VG_u, ↓UG_u, ↓MG_u, ↓NG_u, ↓PG_u, ↓BG_u, ↓CG_u, ↓IG_u, ↓VGtt, ↓VGtf, ↓VGft, ↓VGff, ↓UGtt, ↓UGtf, ↓UGft, ↓UGff, ↓MGtt, ↓MGtf, ↓MGft, ↓MGff, ↓NGtt, ↓NGtf, ↓NGft, ↓NGff, ↓PGtt, ↓PGtf, ↓PGft, ↓PGff, ↓BGtt, ↓BGtf, ↓BGft, ↓BGff, ↓CGtt, ↓CGtf, ↓CGft, ↓CGff, ↓IGtt, ↓IGtf, ↓IGft, ↓IGff, ↓PKt, ↓PKf, ↓CDt, ↓CDf, ↓NOTt, ↓NOTf, ↓NK_ptr]
        by_cases c3 : r.tag = -1
        · rw [EQt c3]
          try simp only [↓VG_u, ↓UG_u, ↓MG_u, ↓NG_u, ↓PG_u, ↓BG_u, ↓CG_u, ↓IG_u, ↓VGtt, ↓VGtf, ↓VGft, ↓VGff, ↓UGtt, ↓UGtf, ↓UGft, ↓UGff, ↓MGtt, ↓MGtf, ↓MGft, ↓MGff, ↓NGtt, ↓NGtf, ↓NGft, ↓NGff, ↓PGtt, ↓PGtf, ↓PGft, ↓PGff, ↓BGtt, ↓BGtf, ↓BGft, ↓BGff, ↓CGtt, ↓CGtf, ↓CGft, ↓CGff, ↓IGtt, ↓IGtf, ↓IGft, ↓IGff, ↓PKt, ↓PKf, ↓CDt, ↓CDf, ↓NOTt, ↓NOTf, ↓NK_ptr]
          exact fin true (by rw [tagp (by rw [decide_eq_true c2]; rfl), decide_eq_true c3]; rfl)
        · rw [EQf c3]
          try simp only [↓VG_u, ↓UG_u, ↓MG_u, ↓NG_u, ↓PG_u, ↓BG_u, ↓CG_u, ↓IG_u, ↓VGtt, ↓VGtf, ↓VGft, ↓VGff, ↓UGtt, ↓UGtf, ↓UGft, ↓UGff, ↓MGtt, ↓MGtf, ↓MGft, ↓MGff, ↓NGtt, ↓NGtf, ↓NGft, ↓NGff, ↓PGtt, ↓PGtf, ↓PGft, ↓PGff, ↓BGtt, ↓BGtf, ↓BGft, ↓BGff, ↓CGtt, ↓CGtf, ↓CGft, ↓CGff, ↓IGtt, ↓IGtf, ↓IGft, ↓IGff, ↓PKt, ↓PKf, ↓CDt, ↓CDf, ↓NOTt, ↓NOTf, ↓NK_ptr]
          rw [k4.e]
          try simp only [↓VG_u, ↓UG_u, ↓MG_u, ↓NG_u, ↓PG_u, ↓BG_u, ↓CG_u, ↓IG_u, ↓VGtt, ↓VGtf, ↓VGft, ↓VGff, ↓UGtt, ↓UGtf, ↓UGft, ↓UGff, ↓MGtt, ↓MGtf, ↓MGft, ↓MGff, ↓NGtt, ↓NGtf, ↓NGft, ↓NGff, ↓PGtt, ↓PGtf, ↓PGft, ↓PGff, ↓BGtt, ↓BGtf, ↓BGft, ↓BGff, ↓CGtt, ↓CGtf, ↓CGft, ↓CGff, ↓IGtt, ↓IGtf, ↓IGft, ↓IGff, ↓PKt, ↓PKf, ↓CDt, ↓CDf, ↓NOTt, ↓NOTf, ↓NK_ptr]
          rw [g4.e]
          try simp only [↓VG_u, ↓UG_u, ↓MG_u, ↓NG_u, ↓PG_u, ↓BG_u, ↓CG_u, ↓IG_u, ↓VGtt, ↓VGtf, ↓VGft, ↓VGff, ↓UGtt, ↓UGtf, ↓UGft, ↓UGff, ↓MGtt, ↓MGtf, ↓MGft, ↓MGff, ↓NGtt, ↓NGtf, ↓NGft, ↓NGff, ↓PGtt, ↓PGtf, ↓PGft, ↓PGff, ↓BGtt, ↓BGtf, ↓BGft, ↓BGff, ↓CGtt, ↓CGtf, ↓CGft, ↓CGff, ↓IGtt, ↓IGtf, ↓IGft, ↓IGff, ↓PKt, ↓PKf, ↓CDt, ↓CDf, ↓NOTt, ↓NOTf, ↓NK_ptr]
          rw [BK_eql]
          try simp only [↓VG_u, ↓UG_u, ↓MG_u, ↓NG_u, ↓PG_u, ↓BG_u, ↓CG_u, ↓IG_u, ↓VGtt, ↓VGtf, ↓VGft, ↓VGff, ↓UGtt, ↓UGtf, ↓UGft, ↓UGff, ↓MGtt, ↓MGtf, ↓MGft, ↓MGff, ↓NGtt, ↓NGtf, ↓NGft, ↓NGff, ↓PGtt, ↓PGtf, ↓PGft, ↓PGff, ↓BGtt, ↓BGtf, ↓BGft, ↓BGff, ↓CGtt, ↓CGtf, ↓CGft, ↓CGff, ↓IGtt, ↓IGtf, ↓IGft, ↓IGff, ↓PKt, ↓PKf, ↓CDt, ↓CDf, ↓NOTt, ↓NOTf, ↓NK_ptr]
          exact fin _ (by rw [tagp (by rw [decide_eq_true c2]; rfl), decide_eq_false c3]; rfl)
      · rw [EQf c2]
        try simp only [↓VG_u, ↓UG_u, ↓MG_u, ↓NG_u, ↓PG_u, ↓BG_u, ↓CG_u, ↓IG_u, ↓VGtt, ↓VGtf, ↓VGft, ↓VGff, ↓UGtt, ↓UGtf, ↓UGft, ↓UGff, ↓MGtt, ↓MGtf, ↓MGft, ↓MGff, ↓NGtt, ↓NGtf, ↓NGft, ↓NGff, ↓PGtt, ↓PGtf, ↓PGft, ↓PGff, ↓BGtt, ↓BGtf, ↓BGft, ↓BGff, ↓CGtt, ↓CGtf, ↓CGft, ↓CGff, ↓IGtt, ↓IGtf, ↓IGft, ↓IGff, ↓PKt, ↓PKf, ↓CDt, ↓CDf, ↓NOTt, ↓NOTf, ↓NK_ptr]
        rw [k3.e]
        try simp only [↓VG_u, ↓UG_u, ↓MG_u, ↓NG_u, ↓PG_u, ↓BG_u, ↓CG_u, ↓IG_u, ↓VGtt, ↓VGtf, ↓VGft, ↓VGff, ↓UGtt, ↓UGtf, ↓UGft, ↓UGff, ↓MGtt, ↓MGtf, ↓MGft, ↓MGff, ↓NGtt, ↓NGtf, ↓NGft, ↓NGff, ↓PGtt, ↓PGtf, ↓PGft, ↓PGff, ↓BGtt, ↓BGtf, ↓BGft, ↓BGff, ↓CGtt, ↓CGtf, ↓CGft, ↓CGff, ↓IGtt, ↓IGtf, ↓IGft, ↓IGff, ↓PKt, ↓PKf, ↓CDt, ↓CDf, ↓NOTt, ↓NOTf, ↓NK_ptr]
        rw [g1.e]
        try simp only [↓VG_u, ↓UG_u, ↓MG_u, ↓NG_u, ↓PG_u, ↓BG_u, ↓CG_u, ↓IG_u, ↓VGtt, ↓VGtf, ↓VGft, ↓VGff, ↓UGtt, ↓UGtf, ↓UGft, ↓UGff, ↓MGtt, ↓MGtf, ↓MGft, ↓MGff, ↓NGtt, ↓NGtf, ↓NGft, ↓NGff, ↓PGtt, ↓PGtf, ↓PGft, ↓PGff, ↓BGtt, ↓BGtf, ↓BGft, ↓BGff, ↓CGtt, ↓CGtf, ↓CGft, ↓CGff, ↓IGtt, ↓IGtf, ↓IGft, ↓IGff, ↓PKt, ↓PKf, ↓CDt, ↓CDf, ↓NOTt, ↓NOTf, ↓NK_ptr]
        by_cases c4 : r.peer = m.frm
        · rw [EQt c4]
          try simp only [↓VG_u, ↓UG_u, ↓MG_u, ↓NG_u, ↓PG_u, ↓BG_u, ↓CG_u, ↓IG_u, ↓VGtt, ↓VGtf, ↓VGft, ↓VGff, ↓UGtt, ↓UGtf, ↓UGft, ↓UGff, ↓MGtt, ↓MGtf, ↓MGft, ↓MGff, ↓NGtt, ↓NGtf, ↓NGft, ↓NGff, ↓PGtt, ↓PGtf, ↓PGft, ↓PGff, ↓BGtt, ↓BGtf, ↓BGft, ↓BGff, ↓CGtt, ↓CGtf, ↓CGft, ↓CGff, ↓IGtt, ↓IGtf, ↓IGft, ↓IGff, ↓PKt, ↓PKf, ↓CDt, ↓CDf, ↓NOTt, ↓NOTf, ↓NK_ptr]
          rw [k4.e]
          try simp only [↓VG_u, ↓UG_u, ↓MG_u, ↓NG_u, ↓PG_u, ↓BG_u, ↓CG_u, ↓IG_u, ↓VGtt, ↓VGtf, ↓VGft, ↓VGff, ↓UGtt, ↓UGtf, ↓UGft, ↓UGff, ↓MGtt, ↓MGtf, ↓MGft, ↓MGff, ↓NGtt, ↓NGtf, ↓NGft, ↓NGff, ↓PGtt, ↓PGtf, ↓PGft, ↓PGff, ↓BGtt, ↓BGtf, ↓BGft, ↓BGff, ↓CGtt, ↓CGtf, ↓CGft, ↓CGff, ↓IGtt, ↓IGtf, ↓IGft, ↓IGff, ↓PKt, ↓PKf, ↓CDt, ↓CDf, ↓NOTt, ↓NOTf, ↓NK_ptr]
          by_cases c3 : r.tag = -1
          · rw [EQt c3]
            try simp only [↓VG_u, ↓UG_u, ↓MG_u, ↓NG_u, ↓PG_u, ↓BG_u, ↓CG_u, ↓IG_u, ↓VGtt, ↓VGtf, ↓VGft, ↓VGff, ↓UGtt, ↓UGtf, ↓UGft, ↓UGff, ↓MGtt, ↓MGtf, ↓MGft, ↓MGff, ↓NGtt, ↓NGtf, ↓NGft, ↓NGff, ↓PGtt, ↓PGtf, ↓PGft, ↓PGff, ↓BGtt, ↓BGtf, ↓BGft, ↓BGff, ↓CGtt, ↓CGtf, ↓CGft, ↓CGff, ↓IGtt, ↓IGtf, ↓IGft, ↓IGff, ↓PKt, ↓PKf, ↓CDt, ↓CDf, ↓NOTt, ↓NOTf, ↓NK_ptr]
            exact fin true (by rw [tagp (by rw [decide_eq_true c4, Bool.or_true]), decide_eq_true c3]; rfl)
          · rw [EQf c3]
            try simp only [↓VG_u, ↓UG_u, ↓MG_u, ↓NG_u, ↓PG_u, ↓BG_u, ↓CG_u, ↓IG_u, ↓VGtt, ↓VGtf, ↓VGft, ↓VGff, ↓UGtt, ↓UGtf, ↓UGft, ↓UGff, ↓MGtt, ↓MGtf, ↓MGft, ↓MGff, ↓NGtt, ↓NGtf, ↓NGft, ↓NGff, ↓PGtt, ↓PGtf, ↓PGft, ↓PGff, ↓BGtt, ↓BGtf, ↓BGft, ↓BGff, ↓CGtt, ↓CGtf, ↓CGft, ↓CGff, ↓IGtt, ↓IGtf, ↓IGft, ↓IGff, ↓PKt, ↓PKf, ↓CDt, ↓CDf, ↓NOTt, ↓NOTf, ↓NK_ptr]
            rw [k4.e]
            try simp only [↓VG_u, ↓UG_u, ↓MG_u, ↓NG_u, ↓PG_u, ↓BG_u, ↓CG_u, ↓IG_u, ↓VGtt, ↓VGtf, ↓VGft, ↓VGff, ↓UGtt, ↓UGtf, ↓UGft, ↓UGff, ↓MGtt, ↓MGtf, ↓MGft, ↓MGff, ↓NGtt, ↓NGtf, ↓NGft, ↓NGff, ↓PGtt, ↓PGtf, ↓PGft, ↓PGff, ↓BGtt, ↓BGtf, ↓BGft, ↓BGff, ↓CGtt, ↓CGtf, ↓CGft, ↓CGff, ↓IGtt, ↓IGtf, ↓IGft, ↓IGff, ↓PKt, ↓PKf, ↓CDt, ↓CDf, ↓NOTt, ↓NOTf, ↓NK_ptr]
            rw [g4.e]
            try simp only [↓VG_u, ↓UG_u, ↓MG_u, ↓NG_u, ↓PG_u, ↓BG_u, ↓CG_u, ↓IG_u, ↓VGtt, ↓VGtf, ↓VGft, ↓VGff, ↓UGtt, ↓UGtf, ↓UGft, ↓UGff, ↓MGtt, ↓MGtf, ↓MGft, ↓MGff, ↓NGtt, ↓NGtf, ↓NGft, ↓NGff, ↓PGtt, ↓PGtf, ↓PGft, ↓PGff, ↓BGtt, ↓BGtf, ↓BGft, ↓BGff, ↓CGtt, ↓CGtf, ↓CGft, ↓CGff, ↓IGtt, ↓IGtf, ↓IGft, ↓IGff, ↓PKt, ↓PKf, ↓CDt, ↓CDf, ↓NOTt, ↓NOTf, ↓NK_ptr]
            rw [BK_eql]
            try simp only [↓VG_u, ↓UG_u, ↓MG_u, ↓NG_u, ↓PG_u, ↓BG_u, ↓CG_u, ↓IG_u, ↓VGtt, ↓VGtf, ↓VGft, ↓VGff, ↓UGtt, ↓UGtf, ↓UGft, ↓UGff, ↓MGtt, ↓MGtf, ↓MGft, ↓MGff, ↓NGtt, ↓NGtf, ↓NGft, ↓NGff, ↓PGtt, ↓PGtf, ↓PGft, ↓PGff, ↓BGtt, ↓BGtf, ↓BGft, ↓BGff, ↓CGtt, ↓CGtf, ↓CGft, ↓CGff, ↓IGtt, ↓IGtf, ↓IGft, ↓IGff, ↓PKt, ↓PKf, ↓CDt, ↓CDf, ↓NOTt, ↓NOTf, ↓NK_ptr]
            exact fin _ (by rw [tagp (by rw [decide_eq_true c4, Bool.or_true]), decide_eq_false c3]; rfl)
        · rw [EQf c4]
          try simp only [↓VG_u, ↓UG_u, ↓MG_u, ↓NG_u, ↓PG_u, ↓BG_u, ↓CG_u, ↓IG_u, ↓VGtt, ↓VGtf, ↓VGft, ↓VGff, ↓UGtt, ↓UGtf, ↓UGft, ↓UGff, ↓MGtt, ↓MGtf, ↓MGft, ↓MGff, ↓NGtt, ↓NGtf, ↓NGft, ↓NGff, ↓PGtt, ↓PGtf, ↓PGft, ↓PGff, ↓BGtt, ↓BGtf, ↓BGft, ↓BGff, ↓CGtt, ↓CGtf, ↓CGft, ↓CGff, ↓IGtt, ↓IGtf, ↓IGft, ↓IGff, ↓PKt, ↓PKf, ↓CDt, ↓CDf, ↓NOTt, ↓NOTf, ↓NK_ptr]
          exact fin false (by rw [last, decide_eq_false c2, decide_eq_false c4]; rfl)
    · rw [NEt c1]
      try simp only [↓VG_u, ↓UG_u, ↓MG_u, ↓NG_u, ↓PG_u, ↓BG_u, ↓CG_u, ↓IG_u, ↓VGtt, ↓VGtf, ↓VGft, ↓VGff, ↓UGtt, ↓UGtf, ↓UGft, ↓UGff, ↓MGtt, ↓MGtf, ↓MGft, ↓MGff, ↓NGtt, ↓NGtf, ↓NGft, ↓NGff, ↓PGtt, ↓PGtf, ↓PGft, ↓PGff, ↓BGtt, ↓BGtf, ↓BGft, ↓BGff, ↓CGtt, ↓CGtf, ↓CGft, ↓CGff, ↓IGtt, ↓IGtf, ↓IGft, ↓IGff, ↓PKt, ↓PKf, ↓CDt, ↓CDf, ↓NOTt, ↓NOTf, ↓NK_ptr]
      exact fin false (by unfold fitsV; rw [decide_eq_true c0, decide_eq_false c1]; rfl)
  · rw [decide_eq_true (show r.key ≠ m.key from c0)]
    try simp only [↓VG_u, ↓UG_u, ↓MG_u, ↓NG_u, ↓PG_u, ↓BG_u, ↓CG_u, ↓IG_u, ↓VGtt, ↓VGtf, ↓VGft, ↓VGff, ↓UGtt, ↓UGtf, ↓UGft, ↓UGff, ↓MGtt, ↓MGtf, ↓MGft, ↓MGff, ↓NGtt, ↓NGtf, ↓NGft, ↓NGff, ↓PGtt, ↓PGtf, ↓PGft, ↓PGff, ↓BGtt, ↓BGtf, ↓BGft, ↓BGff, ↓CGtt, ↓CGtf, ↓CGft, ↓CGff, ↓IGtt, ↓IGtf, ↓IGft, ↓IGff, ↓PKt, ↓PKf, ↓CDt, ↓CDf, ↓NOTt, ↓NOTf, ↓NK_ptr]
    exact fin false (by unfold fitsV; rw [decide_eq_false c0]; rfl)
theorem RAt_ok (h : EAt w d A v) (hL : A.length ≤ 1000000) (rk c : Int) : Rt Try.prog 33 #[.pointer (some ⟨d, 0, none⟩), .int .i64 rk, .int .i64 c] w fun u w' => u = rcb (A.find? (isRC rk c)) ∧ Mod none_ w w' := by
  refine dispatcherref14_Posted_At_calls ?_
  unfold dispatcherref14_Posted_At_F
  refine al_k (cs := zRc.enc.toArray) zRc_z rfl _ fun w1 hb1 hm1 hz1 => ?_
  have h1 := h.calm hm1
  refine W_loop dispatcherref14_Posted_At_L0_ok (fun ρ w' => ∃ n : Nat, n ≤ A.length ∧ ρ 8 = .int .i64 n ∧ ρ 0 = .pointer (some ⟨d, 0, none⟩) ∧ ρ 1 = .int .i64 rk ∧ ρ 2 = .int .i64 c ∧ ρ 6 = .pointer (some ⟨w.heap.size, 0, none⟩) ∧ (∀ a ∈ A.take n, isRC rk c a = false) ∧ w' = w1) (fun ρ _ => A.length - (intOf (ρ 8)).toNat)
    ⟨0, Nat.zero_le _, rfl, rfl, rfl, rfl, rfl, by simp, rfl⟩ ?_
  rintro ρ w1 ⟨n, hn, e8, e0, e1, e2, e6, hno, rfl⟩
  obtain ⟨A0, cc, es, _⟩ := reads_cap (e_row h1)
  rw [dispatcherref14_Posted_At_L0_eq]; unfold dispatcherref14_Posted_At_L0_F
  rw [e8, e0, e1, e2, NK_ptr, (f_A h1).e, es, len_sl vRcS, ← es, BK_lss]
  by_cases hlt : n < A.length
  · rw [decide_eq_true (by omega)]
    refine condT ?_
    have hx : A[n]? = some A[n] := List.getElem?_eq_getElem hlt
    have hmem : A[n] ∈ A := List.getElem_mem hlt
    have etk : A.take (n + 1) = A.take n ++ [A[n]] := by rw [List.take_add_one, hx]; rfl
    have hidx : ∀ z, z = true → isRC rk c A[n] = z → A.find? (isRC rk c) = some A[n] := fun z hz hp => by
      rw [List.find?_eq_some_iff_getElem]
      refine ⟨by rw [hp, hz], n, hlt, rfl, fun j hj => ?_⟩
      have := hno A[j] (List.mem_take_iff_getElem.2 ⟨j, by omega, rfl⟩)
      simp [this]
    generalize A[n] = x at *
    obtain ⟨a, ha, hc, hl⟩ := rc_any (e_row h1) hx
    have cont : ∀ ρ2 : Sl, isRC rk c x = false → ρ2 39 = .bool false → ρ2 8 = .int .i64 n → ρ2 0 = .pointer (some ⟨d, 0, none⟩) → ρ2 1 = .int .i64 rk → ρ2 2 = .int .i64 c → ρ2 6 = .pointer (some ⟨w.heap.size, 0, none⟩) → ∀ (K : Exit → Sl → World → Prop), (∀ ρ3 : Sl, ρ3 8 = .int .i64 (n + 1 : Nat) → ρ3 0 = .pointer (some ⟨d, 0, none⟩) → ρ3 1 = .int .i64 rk → ρ3 2 = .int .i64 c → ρ3 6 = .pointer (some ⟨w.heap.size, 0, none⟩) → K .normal ρ3 w1) → sx fn_ Try.prog 48 dispatcherref14_Posted_At_R2 (blkK 1 (seqK (sx fn_ Try.prog 48 dispatcherref14_Posted_At_R3 K) K)) ρ2 w1 := by
      intro ρ2 hp q39 q8 q0 q1 q2 q6 K hK
      rw [dispatcherref14_Posted_At_R2_eq]; unfold dispatcherref14_Posted_At_R2_F
      rw [q39]
      refine condF ?_
      rw [bk_n, sq_n, dispatcherref14_Posted_At_R3_eq]; unfold dispatcherref14_Posted_At_R3_F
      rw [q8, BK_add, wrap_i (by omega) (by omega)]
      exact hK _ rfl q0 q1 q2 q6
    have fin : isRC rk c x = false → ∀ ρ3 : Sl, ρ3 8 = .int .i64 (n + 1 : Nat) → ρ3 0 = .pointer (some ⟨d, 0, none⟩) → ρ3 1 = .int .i64 rk → ρ3 2 = .int .i64 c → ρ3 6 = .pointer (some ⟨w.heap.size, 0, none⟩) → (∃ n : Nat, n ≤ A.length ∧ ρ3 8 = .int .i64 n ∧ ρ3 0 = .pointer (some ⟨d, 0, none⟩) ∧ ρ3 1 = .int .i64 rk ∧ ρ3 2 = .int .i64 c ∧ ρ3 6 = .pointer (some ⟨w.heap.size, 0, none⟩) ∧ (∀ a ∈ A.take n, isRC rk c a = false) ∧ w1 = w1) ∧ A.length - (intOf (ρ3 8)).toNat < A.length - (intOf (.int .i64 (n : Int))).toNat := by
      intro hp ρ3 q8 q0 q1 q2 q6
      refine ⟨⟨n + 1, hlt, q8, q0, q1, q2, q6, fun a ha => ?_, rfl⟩, ?_⟩
      · rw [etk] at ha
        rcases List.mem_append.1 ha with z | z
        · exact hno a z
        · rw [List.mem_singleton.1 z]; exact hp
      · rw [q8]; simp only [intOf]; omega
    rw [NK_ptr, (f_A h1).e, VK_eq_of (ha w1), fo (show fieldOff Try.prog tRc 1 = some 1 by kernel_rfl)]
    refine ld1 vI rfl (hc w1 (Mod.refl _ _) 1 (.int .i64 x.rank) rfl) ?_
    by_cases c1 : x.rank = rk
    · rw [EQt c1]
      try simp only [↓VG_u, ↓UG_u, ↓MG_u, ↓NG_u, ↓PG_u, ↓BG_u, ↓CG_u, ↓IG_u, ↓VGtt, ↓VGtf, ↓VGft, ↓VGff, ↓UGtt, ↓UGtf, ↓UGft, ↓UGff, ↓MGtt, ↓MGtf, ↓MGft, ↓MGff, ↓NGtt, ↓NGtf, ↓NGft, ↓NGff, ↓PGtt, ↓PGtf, ↓PGft, ↓PGff, ↓BGtt, ↓BGtf, ↓BGft, ↓BGff, ↓CGtt, ↓CGtf, ↓CGft, ↓CGff, ↓IGtt, ↓IGtf, ↓IGft, ↓IGff, ↓PKt, ↓PKf, ↓CDt, ↓CDf, ↓NOTt, ↓NOTf, ↓NK_ptr]
      rw [(f_A h1).e]
      try simp only [↓VG_u, ↓UG_u, ↓MG_u, ↓NG_u, ↓PG_u, ↓BG_u, ↓CG_u, ↓IG_u, ↓VGtt, ↓VGtf, ↓VGft, ↓VGff, ↓UGtt, ↓UGtf, ↓UGft, ↓UGff, ↓MGtt, ↓MGtf, ↓MGft, ↓MGff, ↓NGtt, ↓NGtf, ↓NGft, ↓NGff, ↓PGtt, ↓PGtf, ↓PGft, ↓PGff, ↓BGtt, ↓BGtf, ↓BGft, ↓BGff, ↓CGtt, ↓CGtf, ↓CGft, ↓CGff, ↓IGtt, ↓IGtf, ↓IGft, ↓IGff, ↓PKt, ↓PKf, ↓CDt, ↓CDf, ↓NOTt, ↓NOTf, ↓NK_ptr]
      rw [VK_eq_of (ha w1)]
      try simp only [↓VG_u, ↓UG_u, ↓MG_u, ↓NG_u, ↓PG_u, ↓BG_u, ↓CG_u, ↓IG_u, ↓VGtt, ↓VGtf, ↓VGft, ↓VGff, ↓UGtt, ↓UGtf, ↓UGft, ↓UGff, ↓MGtt, ↓MGtf, ↓MGft, ↓MGff, ↓NGtt, ↓NGtf, ↓NGft, ↓NGff, ↓PGtt, ↓PGtf, ↓PGft, ↓PGff, ↓BGtt, ↓BGtf, ↓BGft, ↓BGff, ↓CGtt, ↓CGtf, ↓CGft, ↓CGff, ↓IGtt, ↓IGtf, ↓IGft, ↓IGff, ↓PKt, ↓PKf, ↓CDt, ↓CDf, ↓NOTt, ↓NOTf, ↓NK_ptr]
      rw [fo (show fieldOff Try.prog tRc 2 = some 2 by kernel_rfl)]
      try simp only [↓VG_u, ↓UG_u, ↓MG_u, ↓NG_u, ↓PG_u, ↓BG_u, ↓CG_u, ↓IG_u, ↓VGtt, ↓VGtf, ↓VGft, ↓VGff, ↓UGtt, ↓UGtf, ↓UGft, ↓UGff, ↓MGtt, ↓MGtf, ↓MGft, ↓MGff, ↓NGtt, ↓NGtf, ↓NGft, ↓NGff, ↓PGtt, ↓PGtf, ↓PGft, ↓PGff, ↓BGtt, ↓BGtf, ↓BGft, ↓BGff, ↓CGtt, ↓CGtf, ↓CGft, ↓CGff, ↓IGtt, ↓IGtf, ↓IGft, ↓IGff, ↓PKt, ↓PKf, ↓CDt, ↓CDf, ↓NOTt, ↓NOTf, ↓NK_ptr]
      refine ld1 vI rfl (hc w1 (Mod.refl _ _) 2 (.int .i64 x.call) rfl) ?_
      try simp only [↓VG_u, ↓UG_u, ↓MG_u, ↓NG_u, ↓PG_u, ↓BG_u, ↓CG_u, ↓IG_u, ↓VGtt, ↓VGtf, ↓VGft, ↓VGff, ↓UGtt, ↓UGtf, ↓UGft, ↓UGff, ↓MGtt, ↓MGtf, ↓MGft, ↓MGff, ↓NGtt, ↓NGtf, ↓NGft, ↓NGff, ↓PGtt, ↓PGtf, ↓PGft, ↓PGff, ↓BGtt, ↓BGtf, ↓BGft, ↓BGff, ↓CGtt, ↓CGtf, ↓CGft, ↓CGff, ↓IGtt, ↓IGtf, ↓IGft, ↓IGff, ↓PKt, ↓PKf, ↓CDt, ↓CDf, ↓NOTt, ↓NOTf, ↓NK_ptr]
      by_cases c2 : x.call = c
      · rw [EQt c2]
        try simp only [↓VG_u, ↓UG_u, ↓MG_u, ↓NG_u, ↓PG_u, ↓BG_u, ↓CG_u, ↓IG_u, ↓VGtt, ↓VGtf, ↓VGft, ↓VGff, ↓UGtt, ↓UGtf, ↓UGft, ↓UGff, ↓MGtt, ↓MGtf, ↓MGft, ↓MGff, ↓NGtt, ↓NGtf, ↓NGft, ↓NGff, ↓PGtt, ↓PGtf, ↓PGft, ↓PGff, ↓BGtt, ↓BGtf, ↓BGft, ↓BGff, ↓CGtt, ↓CGtf, ↓CGft, ↓CGff, ↓IGtt, ↓IGtf, ↓IGft, ↓IGff, ↓PKt, ↓PKf, ↓CDt, ↓CDf, ↓NOTt, ↓NOTf, ↓NK_ptr]
        have hp : isRC rk c x = true := by unfold isRC; rw [decide_eq_true c1, decide_eq_true c2]; rfl
        rw [hidx true rfl hp]
        have key : ∀ (ρ2 : Sl) (K : Exit → Sl → World → Prop), ρ2 39 = .bool true → ρ2 8 = .int .i64 n → ρ2 0 = .pointer (some ⟨d, 0, none⟩) → ρ2 6 = .pointer (some ⟨w.heap.size, 0, none⟩) → (∀ (ρ3 : Sl) (w' : World), ρ3 6 = .pointer (some ⟨w.heap.size, 0, none⟩) → ρ3 7 = .bool true → w'.heap[w.heap.size]? = some (.cells x.enc.toArray tRc (0, 0)) → Mod none_ w w' → K .ret ρ3 w') → sx fn_ Try.prog 48 dispatcherref14_Posted_At_R2 K ρ2 w1 := by
          intro ρ2 K q39 q8 q0 q6 hK
          rw [dispatcherref14_Posted_At_R2_eq]; unfold dispatcherref14_Posted_At_R2_F
          rw [q39, q0, q8, q6]
          refine condT ?_
          rw [NK_ptr, (f_A h1).e]
          refine ixRc (e_row h1) hx rfl fun y => ?_
          refine stS (cs := x.enc.toArray) (old := zRc.enc.toArray) rfl rfl (by rw [iRc]; rfl) rfl (Rc.enc_one _) hb1 fun w3 hb3 hm3 hz3 => ?_
          exact hK _ w3 (by first | exact q6 | rfl) rfl hb3 (hm1.fresh hm3 (Nat.le_refl _))
        refine key _ _ rfl (by first | exact e8 | rfl) (by first | exact e0 | rfl) (by first | exact e6 | rfl) ?_
        intro ρ3 w' q6 q7 hb' hm'
        show retK Try.prog [ResultVar.cell 6 tRc, ResultVar.tmp 7] (fun u w' => u = rcb (some x) ∧ Mod none_ w w') .ret ρ3 w'
        refine rtCT q6 Try.underlying24 rfl (by rw [iRc]; rfl) hb' ⟨?_, hm'⟩
        rw [q7]; rfl
      · rw [EQf c2]
        try simp only [↓VG_u, ↓UG_u, ↓MG_u, ↓NG_u, ↓PG_u, ↓BG_u, ↓CG_u, ↓IG_u, ↓VGtt, ↓VGtf, ↓VGft, ↓VGff, ↓UGtt, ↓UGtf, ↓UGft, ↓UGff, ↓MGtt, ↓MGtf, ↓MGft, ↓MGff, ↓NGtt, ↓NGtf, ↓NGft, ↓NGff, ↓PGtt, ↓PGtf, ↓PGft, ↓PGff, ↓BGtt, ↓BGtf, ↓BGft, ↓BGff, ↓CGtt, ↓CGtf, ↓CGft, ↓CGff, ↓IGtt, ↓IGtf, ↓IGft, ↓IGff, ↓PKt, ↓PKf, ↓CDt, ↓CDf, ↓NOTt, ↓NOTf, ↓NK_ptr]
        have hp : isRC rk c x = false := by unfold isRC; rw [decide_eq_false c2, Bool.and_false]
        exact cont _ hp rfl (by first | exact e8 | rfl) (by first | exact e0 | rfl) (by first | exact e1 | rfl) (by first | exact e2 | rfl) (by first | exact e6 | rfl) _ (fin hp)
    · rw [EQf c1]
      try simp only [↓VG_u, ↓UG_u, ↓MG_u, ↓NG_u, ↓PG_u, ↓BG_u, ↓CG_u, ↓IG_u, ↓VGtt, ↓VGtf, ↓VGft, ↓VGff, ↓UGtt, ↓UGtf, ↓UGft, ↓UGff, ↓MGtt, ↓MGtf, ↓MGft, ↓MGff, ↓NGtt, ↓NGtf, ↓NGft, ↓NGff, ↓PGtt, ↓PGtf, ↓PGft, ↓PGff, ↓BGtt, ↓BGtf, ↓BGft, ↓BGff, ↓CGtt, ↓CGtf, ↓CGft, ↓CGff, ↓IGtt, ↓IGtf, ↓IGft, ↓IGff, ↓PKt, ↓PKf, ↓CDt, ↓CDf, ↓NOTt, ↓NOTf, ↓NK_ptr]
      have hp : isRC rk c x = false := by unfold isRC; rw [decide_eq_false c1]; rfl
      exact cont _ hp rfl (by first | exact e8 | rfl) (by first | exact e0 | rfl) (by first | exact e1 | rfl) (by first | exact e2 | rfl) (by first | exact e6 | rfl) _ (fin hp)
  · obtain rfl : n = A.length := by omega
    rw [decide_eq_false (by omega)]
    refine condF ?_
    rw [sq_x, bk_x, sq_n, dispatcherref14_Posted_At_R1_eq]; unfold dispatcherref14_Posted_At_R1_F
    have hnone : A.find? (isRC rk c) = none := by
      rw [List.take_length] at hno
      exact List.find?_eq_none.2 fun a ha => by rw [hno a ha]; decide
    rw [hnone]
    have key : ∀ ρ' : Sl, ρ' 6 = .pointer (some ⟨w.heap.size, 0, none⟩) → UK Try.prog (Instr.storeAt tRc (ρ' 6) (.agg zRc.enc.toArray)) w1 fun _ w' => retK Try.prog [ResultVar.cell 6 tRc, ResultVar.tmp 7] (fun u w' => u = rcb none ∧ Mod none_ w w') .ret (up (up ρ' 47 (.agg zRc.enc.toArray)) 7 (.bool false)) w' := by
      intro ρ' q6
      rw [q6]
      refine stS (cs := zRc.enc.toArray) (old := zRc.enc.toArray) rfl rfl (by rw [iRc]; rfl) rfl (Rc.enc_one _) hb1 fun w3 hb3 hm3 hz3 => ?_
      exact rtCT q6 Try.underlying24 rfl (by rw [iRc]; rfl) hb3 ⟨rfl, hm1.fresh hm3 (Nat.le_refl _)⟩
    rw [build_ok (cs := zRc.enc.toArray) (by kernel_rfl)]
    exact key _ (by first | exact e6 | rfl)
end
end Go.Proofs.Ytmnkedgmpbcicaa.Que
set_option linter.unusedVariables false
set_option linter.unusedSimpArgs false
set_option maxRecDepth 8000
namespace Go.Proofs.Ytmnkedgmpbcicaa.Que
open Go Go.X Go.RowKit Go.Proofs.Ytmnkedgmpbcicaa.XF Go.Proofs.Ytmnkedgmpbcicaa.XG Go.Proofs.Ytmnkedgmpbcicaa.XK
section
variable {w : World} {d : Nat} {A : List Rc} {v : Value}
def wq (rk : Int) (r : Rc) : Bool := decide (r.rank = rk) && !r.done
theorem RWaiting_ok (h : EAt w d A v) (hL : A.length ≤ 1000000) (rk : Int) : Rt Try.prog 35 #[.pointer (some ⟨d, 0, none⟩), .int .i64 rk] w (RowR w (A.filter (wq rk))) := by
  refine dispatcherref14_Posted_Waiting_calls ?_
  unfold dispatcherref14_Posted_Waiting_F
  refine W_loop dispatcherref14_Posted_Waiting_L0_ok (fun ρ w' => ∃ (n : Nat) (o : Value), n ≤ A.length ∧ ρ 6 = .int .i64 n ∧ ρ 0 = .pointer (some ⟨d, 0, none⟩) ∧ ρ 1 = .int .i64 rk ∧ ρ 5 = o ∧ w'.ownsRow w.heap.size tRc 9 o ((A.take n).filter (wq rk)).length (((A.take n).filter (wq rk)).flatMap Rc.enc) ∧ Mod none_ w w') (fun ρ _ => A.length - (intOf (ρ 6)).toNat)
    ⟨0, .slice none 0 0, Nat.zero_le _, rfl, rfl, rfl, rfl, World.ownsRow_nil _ _ _ _, Mod.refl _ _⟩ ?_
  rintro ρ w1 ⟨n, o, hn, e6, e0, e1, e5, hO, hm⟩
  have h1 := h.calm hm
  obtain ⟨A0, cc, es, _⟩ := reads_cap (e_row h1)
  rw [dispatcherref14_Posted_Waiting_L0_eq]; unfold dispatcherref14_Posted_Waiting_L0_F
  rw [e6, e0, e1, NK_ptr, (f_A h1).e, es, len_sl vRcS, ← es, BK_lss]
  by_cases hlt : n < A.length
  · rw [decide_eq_true (by omega)]
    refine condT ?_
    have hx : A[n]? = some A[n] := List.getElem?_eq_getElem hlt
    have etk : A.take (n + 1) = A.take n ++ [A[n]] := by rw [List.take_add_one, hx]; rfl
    have hlen : ((A.take n).filter (wq rk)).length ≤ n := Nat.le_trans (List.length_filter_le _ _) (by rw [List.length_take]; omega)
    generalize A[n] = x at *
    obtain ⟨a, ha, hc, hl⟩ := rc_any (e_row h1) hx
    have go : ∀ (ρ2 : Sl) (K : Exit → Sl → World → Prop), ρ2 36 = .bool (wq rk x) → ρ2 6 = .int .i64 n → ρ2 0 = .pointer (some ⟨d, 0, none⟩) → ρ2 1 = .int .i64 rk → ρ2 5 = o → (∀ (ρ3 : Sl) (w' : World) (o' : Value), ρ3 6 = .int .i64 (n + 1 : Nat) → ρ3 0 = .pointer (some ⟨d, 0, none⟩) → ρ3 1 = .int .i64 rk → ρ3 5 = o' → w'.ownsRow w.heap.size tRc 9 o' ((A.take (n + 1)).filter (wq rk)).length (((A.take (n + 1)).filter (wq rk)).flatMap Rc.enc) → Mod none_ w w' → K .normal ρ3 w') → sx fn_ Try.prog 48 dispatcherref14_Posted_Waiting_R3 (blkK 1 (seqK (sx fn_ Try.prog 48 dispatcherref14_Posted_Waiting_R2 K) K)) ρ2 w1 := by
      intro ρ2 K q36 q6 q0 q1 q5 hK
      have r2 : ∀ (ρ3 : Sl) (w' : World) (o' : Value), ρ3 6 = .int .i64 n → ρ3 0 = .pointer (some ⟨d, 0, none⟩) → ρ3 1 = .int .i64 rk → ρ3 5 = o' → w'.ownsRow w.heap.size tRc 9 o' ((A.take (n + 1)).filter (wq rk)).length (((A.take (n + 1)).filter (wq rk)).flatMap Rc.enc) → Mod none_ w w' → sx fn_ Try.prog 48 dispatcherref14_Posted_Waiting_R2 K ρ3 w' := by
        intro ρ3 w' o' t6 t0 t1 t5 ho hm'
        rw [dispatcherref14_Posted_Waiting_R2_eq]; unfold dispatcherref14_Posted_Waiting_R2_F
        rw [t6, BK_add, wrap_i (by omega) (by omega)]
        exact hK _ w' o' rfl t0 t1 t5 ho hm'
      rw [dispatcherref14_Posted_Waiting_R3_eq]; unfold dispatcherref14_Posted_Waiting_R3_F
      rw [q36, q0, q6, q5]
      refine caseC (fun z => ?_) (fun z => ?_)
      · rw [NK_ptr, (f_A h1).e]
        refine ixRc (e_row h1) hx rfl fun y => ?_
        refine appR hO hm.size (by omega) fun _ o' w2 hO2 hm2 => ?_
        have ef : (A.take (n + 1)).filter (wq rk) = (A.take n).filter (wq rk) ++ [x] := by rw [etk, List.filter_append, List.filter_cons_of_pos z, List.filter_nil]
        rw [← ef] at hO2
        rw [bk_n, sq_n]
        exact r2 _ w2 o' (by first | exact q6 | rfl) (by first | exact q0 | rfl) (by first | exact q1 | rfl) rfl hO2 (hm.then hm2 fun i hi z => by omega)
      · have ef : (A.take (n + 1)).filter (wq rk) = (A.take n).filter (wq rk) := by rw [etk, List.filter_append, List.filter_cons_of_neg (by rw [z]; decide), List.filter_nil, List.append_nil]
        rw [← ef] at hO
        rw [bk_n, sq_n]
        exact r2 _ w1 o q6 q0 q1 q5 hO hm
    have fin : ∀ (ρ3 : Sl) (w' : World) (o' : Value), ρ3 6 = .int .i64 (n + 1 : Nat) → ρ3 0 = .pointer (some ⟨d, 0, none⟩) → ρ3 1 = .int .i64 rk → ρ3 5 = o' → w'.ownsRow w.heap.size tRc 9 o' ((A.take (n + 1)).filter (wq rk)).length (((A.take (n + 1)).filter (wq rk)).flatMap Rc.enc) → Mod none_ w w' → (∃ (n : Nat) (o : Value), n ≤ A.length ∧ ρ3 6 = .int .i64 n ∧ ρ3 0 = .pointer (some ⟨d, 0, none⟩) ∧ ρ3 1 = .int .i64 rk ∧ ρ3 5 = o ∧ w'.ownsRow w.heap.size tRc 9 o ((A.take n).filter (wq rk)).length (((A.take n).filter (wq rk)).flatMap Rc.enc) ∧ Mod none_ w w') ∧ A.length - (intOf (ρ3 6)).toNat < A.length - (intOf (.int .i64 (n : Int))).toNat := by
      intro ρ3 w' o' q6 q0 q1 q5 ho hm'
      refine ⟨⟨n + 1, o', hlt, q6, q0, q1, q5, ho, hm'⟩, ?_⟩
      rw [q6]; simp only [intOf]; omega
    rw [NK_ptr, (f_A h1).e, VK_eq_of (ha w1), fo (show fieldOff Try.prog tRc 1 = some 1 by kernel_rfl)]
    refine ld1 vI rfl (hc w1 (Mod.refl _ _) 1 (.int .i64 x.rank) rfl) ?_
    by_cases c1 : x.rank = rk
    · rw [EQt c1]
      try simp only [↓VG_u, ↓UG_u, ↓MG_u, ↓NG_u, ↓PG_u, ↓BG_u, ↓CG_u, ↓IG_u, ↓VGtt, ↓VGtf, ↓VGft, ↓VGff, ↓UGtt, ↓UGtf, ↓UGft, ↓UGff, ↓MGtt, ↓MGtf, ↓MGft, ↓MGff, ↓NGtt, ↓NGtf, ↓NGft, ↓NGff, ↓PGtt, ↓PGtf, ↓PGft, ↓PGff, ↓BGtt, ↓BGtf, ↓BGft, ↓BGff, ↓CGtt, ↓CGtf, ↓CGft, ↓CGff, ↓IGtt, ↓IGtf, ↓IGft, ↓IGff, ↓PKt, ↓PKf, ↓CDt, ↓CDf, ↓NOTt, ↓NOTf, ↓NK_ptr]
      rw [(f_A h1).e]
      try simp only [↓VG_u, ↓UG_u, ↓MG_u, ↓NG_u, ↓PG_u, ↓BG_u, ↓CG_u, ↓IG_u, ↓VGtt, ↓VGtf, ↓VGft, ↓VGff, ↓UGtt, ↓UGtf, ↓UGft, ↓UGff, ↓MGtt, ↓MGtf, ↓MGft, ↓MGff, ↓NGtt, ↓NGtf, ↓NGft, ↓NGff, ↓PGtt, ↓PGtf, ↓PGft, ↓PGff, ↓BGtt, ↓BGtf, ↓BGft, ↓BGff, ↓CGtt, ↓CGtf, ↓CGft, ↓CGff, ↓IGtt, ↓IGtf, ↓IGft, ↓IGff, ↓PKt, ↓PKf, ↓CDt, ↓CDf, ↓NOTt, ↓NOTf, ↓NK_ptr]
      rw [VK_eq_of (ha w1)]
      try simp only [↓VG_u, ↓UG_u, ↓MG_u, ↓NG_u, ↓PG_u, ↓BG_u, ↓CG_u, ↓IG_u, ↓VGtt, ↓VGtf, ↓VGft, ↓VGff, ↓UGtt, ↓UGtf, ↓UGft, ↓UGff, ↓MGtt, ↓MGtf, ↓MGft, ↓MGff, ↓NGtt, ↓NGtf, ↓NGft, ↓NGff, ↓PGtt, ↓PGtf, ↓PGft, ↓PGff, ↓BGtt, ↓BGtf, ↓BGft, ↓BGff, ↓CGtt, ↓CGtf, ↓CGft, ↓CGff, ↓IGtt, ↓IGtf, ↓IGft, ↓IGff, ↓PKt, ↓PKf, ↓CDt, ↓CDf, ↓NOTt, ↓NOTf, ↓NK_ptr]
      rw [fo (show fieldOff Try.prog tRc 6 = some 6 by kernel_rfl)]
      try simp only [↓VG_u, ↓UG_u, ↓MG_u, ↓NG_u, ↓PG_u, ↓BG_u, ↓CG_u, ↓IG_u, ↓VGtt, ↓VGtf, ↓VGft, ↓VGff, ↓UGtt, ↓UGtf, ↓UGft, ↓UGff, ↓MGtt, ↓MGtf, ↓MGft, ↓MGff, ↓NGtt, ↓NGtf, ↓NGft, ↓NGff, ↓PGtt, ↓PGtf, ↓PGft, ↓PGff, ↓BGtt, ↓BGtf, ↓BGft, ↓BGff, ↓CGtt, ↓CGtf, ↓CGft, ↓CGff, ↓IGtt, ↓IGtf, ↓IGft, ↓IGff, ↓PKt, ↓PKf, ↓CDt, ↓CDf, ↓NOTt, ↓NOTf, ↓NK_ptr]
      refine ld1 vB rfl (hc w1 (Mod.refl _ _) 6 (.bool x.done) rfl) ?_
      try simp only [↓VG_u, ↓UG_u, ↓MG_u, ↓NG_u, ↓PG_u, ↓BG_u, ↓CG_u, ↓IG_u, ↓VGtt, ↓VGtf, ↓VGft, ↓VGff, ↓UGtt, ↓UGtf, ↓UGft, ↓UGff, ↓MGtt, ↓MGtf, ↓MGft, ↓MGff, ↓NGtt, ↓NGtf, ↓NGft, ↓NGff, ↓PGtt, ↓PGtf, ↓PGft, ↓PGff, ↓BGtt, ↓BGtf, ↓BGft, ↓BGff, ↓CGtt, ↓CGtf, ↓CGft, ↓CGff, ↓IGtt, ↓IGtf, ↓IGft, ↓IGff, ↓PKt, ↓PKf, ↓CDt, ↓CDf, ↓NOTt, ↓NOTf, ↓NK_ptr]
      have hq : wq rk x = !x.done := by unfold wq; rw [decide_eq_true c1]; rfl
      cases hd : x.done with
      | true =>
        rw [hd] at hq
        try simp only [↓VG_u, ↓UG_u, ↓MG_u, ↓NG_u, ↓PG_u, ↓BG_u, ↓CG_u, ↓IG_u, ↓VGtt, ↓VGtf, ↓VGft, ↓VGff, ↓UGtt, ↓UGtf, ↓UGft, ↓UGff, ↓MGtt, ↓MGtf, ↓MGft, ↓MGff, ↓NGtt, ↓NGtf, ↓NGft, ↓NGff, ↓PGtt, ↓PGtf, ↓PGft, ↓PGff, ↓BGtt, ↓BGtf, ↓BGft, ↓BGff, ↓CGtt, ↓CGtf, ↓CGft, ↓CGff, ↓IGtt, ↓IGtf, ↓IGft, ↓IGff, ↓PKt, ↓PKf, ↓CDt, ↓CDf, ↓NOTt, ↓NOTf, ↓NK_ptr]
        exact go _ _ (by rw [hq]; rfl) (by first | exact e6 | rfl) (by first | exact e0 | rfl) (by first | exact e1 | rfl) (by first | exact e5 | rfl) fin
      | false =>
        rw [hd] at hq
        try simp only [↓VG_u, ↓UG_u, ↓MG_u, ↓NG_u, ↓PG_u, ↓BG_u, ↓CG_u, ↓IG_u, ↓VGtt, ↓VGtf, ↓VGft, ↓VGff, ↓UGtt, ↓UGtf, ↓UGft, ↓UGff, ↓MGtt, ↓MGtf, ↓MGft, ↓MGff, ↓NGtt, ↓NGtf, ↓NGft, ↓NGff, ↓PGtt, ↓PGtf, ↓PGft, ↓PGff, ↓BGtt, ↓BGtf, ↓BGft, ↓BGff, ↓CGtt, ↓CGtf, ↓CGft, ↓CGff, ↓IGtt, ↓IGtf, ↓IGft, ↓IGff, ↓PKt, ↓PKf, ↓CDt, ↓CDf, ↓NOTt, ↓NOTf, ↓NK_ptr]
        exact go _ _ (by rw [hq]; rfl) (by first | exact e6 | rfl) (by first | exact e0 | rfl) (by first | exact e1 | rfl) (by first | exact e5 | rfl) fin
    · rw [EQf c1]
      try simp only [↓VG_u, ↓UG_u, ↓MG_u, ↓NG_u, ↓PG_u, ↓BG_u, ↓CG_u, ↓IG_u, ↓VGtt, ↓VGtf, ↓VGft, ↓VGff, ↓UGtt, ↓UGtf, ↓UGft, ↓UGff, ↓MGtt, ↓MGtf, ↓MGft, ↓MGff, ↓NGtt, ↓NGtf, ↓NGft, ↓NGff, ↓PGtt, ↓PGtf, ↓PGft, ↓PGff, ↓BGtt, ↓BGtf, ↓BGft, ↓BGff, ↓CGtt, ↓CGtf, ↓CGft, ↓CGff, ↓IGtt, ↓IGtf, ↓IGft, ↓IGff, ↓PKt, ↓PKf, ↓CDt, ↓CDf, ↓NOTt, ↓NOTf, ↓NK_ptr]
      have hq : wq rk x = false := by unfold wq; rw [decide_eq_false c1]; rfl
      exact go _ _ (by rw [hq]; rfl) (by first | exact e6 | rfl) (by first | exact e0 | rfl) (by first | exact e1 | rfl) (by first | exact e5 | rfl) fin
  · obtain rfl : n = A.length := by omega
    rw [decide_eq_false (by omega)]
    refine condF ?_
    rw [List.take_length] at hO
    rw [sq_x, bk_x, sq_n, dispatcherref14_Posted_Waiting_R1_eq]; unfold dispatcherref14_Posted_Waiting_R1_F
    have key : ∀ ρ0 : Sl, ρ0 5 = o → retK Try.prog [ResultVar.tmp 4] (RowR w (A.filter (wq rk))) .ret (up (up ρ0 47 (ρ0 5)) 4 (ρ0 5)) w1 := by
      intro ρ0 q
      show RowR w (A.filter (wq rk)) (ρ0 5) w1
      rw [q]
      exact ⟨hO, hm⟩
    exact key _ (by first | exact e5 | rfl)
end
def itsA (A : List Rc) (ls : List Ms) (r : Rc) (m : Ms) (pb : Bool) : Bool :=
  !m.taken && fitsV r m && !((aheadV ls m.frm m.call).any (fitsV r)) && !((A.filter (wq r.rank)).any fun x => (pb || decide (x.call < r.call)) && fitsV x m)
section
variable {w w0 : World} {va vw : Value} {L : List Ms} {Ws : List Rc} {B b7 b8 : Nat} {r : Rc} {m : Ms} {pb : Bool}
theorem its_R2 {K : Exit → Sl → World → Prop} {ρ : Sl} {i : Nat} {x : Ms} (ho : w.ownsRow B tMs 8 va L.length (L.flatMap Ms.enc)) (hx : L[i]? = some x) (hb7 : w.heap[b7]? = some (.cells r.enc.toArray tRc (0, 0)))
    (e7 : ρ 7 = .pointer (some ⟨b7, 0, none⟩)) (e11 : ρ 11 = va) (e12 : ρ 12 = .int .i64 i)
    (hk : ∀ (ρ' : Sl) (w' : World), ρ' 37 = .bool (fitsV r x) → (∀ j, j < 32 → ρ' j = ρ j) → Mod none_ w w' → K .normal ρ' w') : W fn_ Try.prog 67 dispatcherref14_Posted_its_R2 K ρ w := by
  refine dispatcherref14_Posted_its_R2_tail (D := []) ?_
  have hmd : Mod none_ w { w with drawn := w.drawn + 1 } := (Mod.refl _ w).drawn _
  generalize ({ w with drawn := w.drawn + 1 } : World) = wd at *
  unfold dispatcherref14_Posted_its_R2_T
  rw [e7, e11, e12]
  obtain ⟨a, ha, _, hl⟩ := own_ld ho hx
  intro C
  have hC : ∀ w', C w' → Mod none_ w w' := fun w' hw => by cases (show w' = wd from hw); exact hmd
  refine QV_of (fun w' hw => run_ldB Try.underlying24 rfl (by rw [iRc]; rfl) ((hC w' hw).blk hb7 id)) ?_
  refine QV_of (fun w' _ => ha w') ?_
  refine QV_of (fun w' hw => hl w' (hC w' hw)) ?_
  refine CK_st Try.func38 rfl rfl (RFits_ok wd r x) ?_
  rintro _ w1 ⟨rfl, hm1⟩
  refine hk _ w1 rfl (fun j hj => ?_) (hmd.trans hm1)
  repeat rw [up_lo hj (by decide)]
theorem its_R7 {K : Exit → Sl → World → Prop} {ρ : Sl} {i : Nat} {x : Rc} (hW : RcRow w vw Ws) (hx : Ws[i]? = some x) (hb7 : w.heap[b7]? = some (.cells r.enc.toArray tRc (0, 0))) (hb8 : w.heap[b8]? = some (.cells m.enc.toArray tMs (0, 0)))
    (e4 : ρ 4 = .bool pb) (e7 : ρ 7 = .pointer (some ⟨b7, 0, none⟩)) (e8 : ρ 8 = .pointer (some ⟨b8, 0, none⟩)) (e13 : ρ 13 = vw) (e14 : ρ 14 = .int .i64 i)
    (hk : ∀ (ρ' : Sl) (w' : World), ρ' 66 = .bool ((pb || decide (x.call < r.call)) && fitsV x m) → (∀ j, j < 48 → ρ' j = ρ j) → Mod none_ w w' → K .normal ρ' w') : W fn_ Try.prog 67 dispatcherref14_Posted_its_R7 K ρ w := by
  refine dispatcherref14_Posted_its_R7_tail (D := []) ?_
  have hmd : Mod none_ w { w with drawn := w.drawn + 1 } := (Mod.refl _ w).drawn _
  generalize ({ w with drawn := w.drawn + 1 } : World) = wd at *
  unfold dispatcherref14_Posted_its_R7_T
  rw [e4, e7, e8, e13, e14]
  obtain ⟨a, ha, hc, hl⟩ := rc_any hW hx
  intro C
  have hC : ∀ w', C w' → Mod none_ w w' := fun w' hw => by cases (show w' = wd from hw); exact hmd
  have last : ∀ (b : Bool) (x50 x51 x52 x53 x54 x55 x56 x57 : Value), (pb || decide (x.call < r.call)) = b → QG Try.prog C (.bool b) true (pure (Next.value vw)) fun x60 => QG Try.prog C (.bool b) true (pure (Next.value (.int .i64 i))) fun x61 => True := fun b _ _ _ _ _ _ _ _ _ => by
    rw [QG_b]
    split
    · refine QM ?_
      rw [QG_b]
      split
      · exact QM trivial
      · trivial
    · rw [QG_b]
      split
      · exact QM trivial
      · trivial
  clear last
  cases hpb : pb with
  | true =>
    repeat rw [QG_b, if_neg (by decide)]
    refine QP_of ?_
    rw [if_pos rfl]
    rw [QG_b, if_pos rfl]
    refine QM ?_
    rw [QG_b, if_pos rfl]
    refine QM ?_
    rw [QG_b, if_pos rfl]
    refine QV_of (fun w' _ => ha w') ?_
    rw [QG_b, if_pos rfl]
    refine QV_of (fun w' hw => hl w' (hC w' hw)) ?_
    rw [QG_b, if_pos rfl]
    refine QV_of (fun w' hw => run_ldB Try.underlying39 rfl (by rw [iMs]; rfl) ((hC w' hw).blk hb8 id)) ?_
    try simp only [↓VG_u, ↓UG_u, ↓MG_u, ↓NG_u, ↓PG_u, ↓BG_u, ↓CG_u, ↓IG_u, ↓VGtt, ↓VGtf, ↓VGft, ↓VGff, ↓UGtt, ↓UGtf, ↓UGft, ↓UGff, ↓MGtt, ↓MGtf, ↓MGft, ↓MGff, ↓NGtt, ↓NGtf, ↓NGft, ↓NGff, ↓PGtt, ↓PGtf, ↓PGft, ↓PGff, ↓BGtt, ↓BGtf, ↓BGft, ↓BGff, ↓CGtt, ↓CGtf, ↓CGft, ↓CGff, ↓IGtt, ↓IGtf, ↓IGft, ↓IGff, ↓PKt, ↓PKf, ↓CDt, ↓CDf, ↓NOTt, ↓NOTf, ↓NK_ptr]
    refine CK_st Try.func38 rfl rfl (RFits_ok wd x m) ?_
    rintro _ w1 ⟨rfl, hm1⟩
    try simp only [↓VG_u, ↓UG_u, ↓MG_u, ↓NG_u, ↓PG_u, ↓BG_u, ↓CG_u, ↓IG_u, ↓VGtt, ↓VGtf, ↓VGft, ↓VGff, ↓UGtt, ↓UGtf, ↓UGft, ↓UGff, ↓MGtt, ↓MGtf, ↓MGft, ↓MGff, ↓NGtt, ↓NGtf, ↓NGft, ↓NGff, ↓PGtt, ↓PGtf, ↓PGft, ↓PGff, ↓BGtt, ↓BGtf, ↓BGft, ↓BGff, ↓CGtt, ↓CGtf, ↓CGft, ↓CGff, ↓IGtt, ↓IGtf, ↓IGft, ↓IGff, ↓PKt, ↓PKf, ↓CDt, ↓CDf, ↓NOTt, ↓NOTf, ↓NK_ptr]
    refine hk _ w1 (by rw [hpb]; rfl) (fun j hj => ?_) (hmd.trans hm1)
    repeat rw [up_lo hj (by decide)]
  | false =>
    rw [QG_b, if_pos rfl]
    refine QM ?_
    rw [QG_b, if_pos rfl]
    refine QM ?_
    rw [QG_b, if_pos rfl]
    refine QV_of (fun w' _ => ha w') ?_
    rw [QG_b, if_pos rfl]
    refine Qfo (show fieldOff Try.prog tRc 2 = some 2 by kernel_rfl) ?_
    rw [QG_b, if_pos rfl]
    refine Qld vI rfl (fun w' hw => hc w' (hC w' hw) 2 (.int .i64 x.call) rfl) ?_
    rw [QG_b, if_pos rfl]
    refine Qfo (show fieldOff Try.prog tRc 2 = some 2 by kernel_rfl) ?_
    rw [QG_b, if_pos rfl]
    refine Qld vI rfl (v := .int .i64 r.call) (fun w' hw => by rw [add_pl, Nat.zero_add, cell_blk ((hC w' hw).blk hb7 id)]; rfl) ?_
    rw [QG_b, if_pos rfl]
    refine Qlss ?_
    refine QP_of ?_
    rw [if_neg (by decide)]
    cases hlt : decide (x.call < r.call) with
    | true =>
      rw [QG_b, if_pos rfl]
      refine QM ?_
      rw [QG_b, if_pos rfl]
      refine QM ?_
      rw [QG_b, if_pos rfl]
      refine QV_of (fun w' _ => ha w') ?_
      rw [QG_b, if_pos rfl]
      refine QV_of (fun w' hw => hl w' (hC w' hw)) ?_
      rw [QG_b, if_pos rfl]
      refine QV_of (fun w' hw => run_ldB Try.underlying39 rfl (by rw [iMs]; rfl) ((hC w' hw).blk hb8 id)) ?_
      try simp only [↓VG_u, ↓UG_u, ↓MG_u, ↓NG_u, ↓PG_u, ↓BG_u, ↓CG_u, ↓IG_u, ↓VGtt, ↓VGtf, ↓VGft, ↓VGff, ↓UGtt, ↓UGtf, ↓UGft, ↓UGff, ↓MGtt, ↓MGtf, ↓MGft, ↓MGff, ↓NGtt, ↓NGtf, ↓NGft, ↓NGff, ↓PGtt, ↓PGtf, ↓PGft, ↓PGff, ↓BGtt, ↓BGtf, ↓BGft, ↓BGff, ↓CGtt, ↓CGtf, ↓CGft, ↓CGff, ↓IGtt, ↓IGtf, ↓IGft, ↓IGff, ↓PKt, ↓PKf, ↓CDt, ↓CDf, ↓NOTt, ↓NOTf, ↓NK_ptr]
      refine CK_st Try.func38 rfl rfl (RFits_ok wd x m) ?_
      rintro _ w1 ⟨rfl, hm1⟩
      try simp only [↓VG_u, ↓UG_u, ↓MG_u, ↓NG_u, ↓PG_u, ↓BG_u, ↓CG_u, ↓IG_u, ↓VGtt, ↓VGtf, ↓VGft, ↓VGff, ↓UGtt, ↓UGtf, ↓UGft, ↓UGff, ↓MGtt, ↓MGtf, ↓MGft, ↓MGff, ↓NGtt, ↓NGtf, ↓NGft, ↓NGff, ↓PGtt, ↓PGtf, ↓PGft, ↓PGff, ↓BGtt, ↓BGtf, ↓BGft, ↓BGff, ↓CGtt, ↓CGtf, ↓CGft, ↓CGff, ↓IGtt, ↓IGtf, ↓IGft, ↓IGff, ↓PKt, ↓PKf, ↓CDt, ↓CDf, ↓NOTt, ↓NOTf, ↓NK_ptr]
      refine hk _ w1 (by rw [hpb, hlt]; rfl) (fun j hj => ?_) (hmd.trans hm1)
      repeat rw [up_lo hj (by decide)]
    | false =>
      repeat rw [QG_b, if_neg (by decide)]
      try simp only [↓VG_u, ↓UG_u, ↓MG_u, ↓NG_u, ↓PG_u, ↓BG_u, ↓CG_u, ↓IG_u, ↓VGtt, ↓VGtf, ↓VGft, ↓VGff, ↓UGtt, ↓UGtf, ↓UGft, ↓UGff, ↓MGtt, ↓MGtf, ↓MGft, ↓MGff, ↓NGtt, ↓NGtf, ↓NGft, ↓NGff, ↓PGtt, ↓PGtf, ↓PGft, ↓PGff, ↓BGtt, ↓BGtf, ↓BGft, ↓BGff, ↓CGtt, ↓CGtf, ↓CGft, ↓CGff, ↓IGtt, ↓IGtf, ↓IGft, ↓IGff, ↓PKt, ↓PKf, ↓CDt, ↓CDf, ↓NOTt, ↓NOTf, ↓NK_ptr]
      refine hk _ wd (by rw [hpb, hlt]; rfl) (fun j hj => ?_) hmd
      repeat rw [up_lo hj (by decide)]
end
end Go.Proofs.Ytmnkedgmpbcicaa.Que
set_option linter.unusedVariables false
set_option linter.unusedSimpArgs false
set_option maxRecDepth 8000
namespace Go.Proofs.Ytmnkedgmpbcicaa.Que
open Go Go.X Go.RowKit Go.Proofs.Ytmnkedgmpbcicaa.XF Go.Proofs.Ytmnkedgmpbcicaa.XG Go.Proofs.Ytmnkedgmpbcicaa.XK
section
variable {w w0 : World} {va vw : Value} {L : List Ms} {Ws : List Rc} {B b7 b8 d : Nat} {r : Rc} {m : Ms} {pb : Bool}
theorem its_L5 {K : Exit → Sl → World → Prop} {ρ : Sl} {a : Bool} (hW : RcRow w vw Ws) (hWl : Ws.length ≤ 1000000) (hb7 : w.heap[b7]? = some (.cells r.enc.toArray tRc (0, 0))) (hb8 : w.heap[b8]? = some (.cells m.enc.toArray tMs (0, 0)))
    (e4 : ρ 4 = .bool pb) (e7 : ρ 7 = .pointer (some ⟨b7, 0, none⟩)) (e8 : ρ 8 = .pointer (some ⟨b8, 0, none⟩)) (e13 : ρ 13 = vw) (e14 : ρ 14 = .int .i64 0)
    (hk : ∀ (e : Exit) (ρ' : Sl) (w' : World), Mod none_ w w' → ((e = .exit 2 ∧ (Ws.any fun x => (pb || decide (x.call < r.call)) && fitsV x m) = false) ∨ (e = .ret ∧ ρ' 10 = .bool false ∧ (Ws.any fun x => (pb || decide (x.call < r.call)) && fitsV x m) = true)) → K e ρ' w') : W fn_ Try.prog 67 (Code.loop dispatcherref14_Posted_its_L5) K ρ w := by
  obtain ⟨A, c, es, _⟩ := reads_cap hW
  refine W_loop dispatcherref14_Posted_its_L5_ok (fun ρ' w' => ∃ k : Nat, k ≤ Ws.length ∧ ρ' 14 = .int .i64 k ∧ ρ' 4 = .bool pb ∧ ρ' 7 = .pointer (some ⟨b7, 0, none⟩) ∧ ρ' 8 = .pointer (some ⟨b8, 0, none⟩) ∧ ρ' 13 = vw ∧ (∀ x ∈ Ws.take k, ((pb || decide (x.call < r.call)) && fitsV x m) = false) ∧ Mod none_ w w') (fun ρ' _ => Ws.length - (intOf (ρ' 14)).toNat)
    ⟨0, Nat.zero_le _, e14, e4, e7, e8, e13, by simp, Mod.refl _ _⟩ ?_
  rintro ρ1 w1 ⟨k, hkl, c14, c4, c7, c8, c13, hno, hm1⟩
  rw [dispatcherref14_Posted_its_L5_eq]; unfold dispatcherref14_Posted_its_L5_F
  rw [c14, c13, es, len_sl vRcS, ← es, BK_lss]
  by_cases hlt : k < Ws.length
  · rw [decide_eq_true (by omega)]
    refine condT ?_
    have hx : Ws[k]? = some Ws[k] := List.getElem?_eq_getElem hlt
    have hmem : Ws[k] ∈ Ws := List.getElem_mem hlt
    have etk : Ws.take (k + 1) = Ws.take k ++ [Ws[k]] := by rw [List.take_add_one, hx]; rfl
    generalize Ws[k] = x at *
    refine its_R7 (i := k) (hW.calm hm1) hx (hm1.blk hb7 id) (hm1.blk hb8 id) (by first | exact c4 | rfl) (by first | exact c7 | rfl) (by first | exact c8 | rfl) (by first | exact c13 | rfl) (by first | exact c14 | rfl) ?_
    intro ρ2 w2 d66 hlo hm2
    rw [sq_n, dispatcherref14_Posted_its_R8_eq]; unfold dispatcherref14_Posted_its_R8_F
    rw [d66]
    refine caseC (fun z => ?_) (fun z => ?_)
    · exact hk _ _ w2 (hm1.trans hm2) (.inr ⟨rfl, rfl, List.any_eq_true.2 ⟨x, hmem, z⟩⟩)
    · have q14 : ρ2 14 = .int .i64 (k : Int) := (hlo 14 (by decide)).trans (by first | exact c14 | rfl)
      rw [bk_n, sq_n, dispatcherref14_Posted_its_R9_eq]; unfold dispatcherref14_Posted_its_R9_F
      rw [q14, BK_add, wrap_i (by omega) (by omega)]
      refine ⟨⟨k + 1, hlt, rfl, (hlo 4 (by decide)).trans (by first | exact c4 | rfl), (hlo 7 (by decide)).trans (by first | exact c7 | rfl), (hlo 8 (by decide)).trans (by first | exact c8 | rfl), (hlo 13 (by decide)).trans (by first | exact c13 | rfl), fun y hy => ?_, hm1.trans hm2⟩, ?_⟩
      · rw [etk] at hy
        rcases List.mem_append.1 hy with q | q
        · exact hno y q
        · rw [List.mem_singleton.1 q]; exact z
      · simp only [sq_n, sq_x, sq_r, bk_n, bk_r, bk_x, rt_r, rt_n, rs_0, rs_t, pk_1, pk_2, up_at, reduceIte, Nat.reduceEqDiff, intOf]; omega
  · obtain rfl : k = Ws.length := by omega
    rw [decide_eq_false (by omega)]
    refine condF ?_
    rw [List.take_length] at hno
    exact hk _ _ w1 hm1 (.inl ⟨rfl, List.any_eq_false.2 fun y hy => by rw [hno y hy]; decide⟩)
theorem its_L0 {K : Exit → Sl → World → Prop} {ρ : Sl} (ho : w.ownsRow B tMs 8 va L.length (L.flatMap Ms.enc)) (hL : L.length ≤ 1000000) (hb7 : w.heap[b7]? = some (.cells r.enc.toArray tRc (0, 0)))
    (e7 : ρ 7 = .pointer (some ⟨b7, 0, none⟩)) (e11 : ρ 11 = va) (e12 : ρ 12 = .int .i64 0)
    (hk : ∀ (e : Exit) (ρ' : Sl) (w' : World), Mod none_ w w' → ((e = .exit 0 ∧ L.any (fitsV r) = false ∧ ∀ j, j < 26 → j ≠ 12 → ρ' j = ρ j) ∨ (e = .ret ∧ ρ' 10 = .bool false ∧ L.any (fitsV r) = true)) → K e ρ' w') : W fn_ Try.prog 67 (Code.loop dispatcherref14_Posted_its_L0) K ρ w := by
  obtain ⟨A, c, es, _⟩ := reads_cap (reads_of_owns ho)
  refine W_loop dispatcherref14_Posted_its_L0_ok (fun ρ' w' => ∃ k : Nat, k ≤ L.length ∧ ρ' 12 = .int .i64 k ∧ (∀ j, j < 26 → j ≠ 12 → ρ' j = ρ j) ∧ (∀ x ∈ L.take k, fitsV r x = false) ∧ Mod none_ w w') (fun ρ' _ => L.length - (intOf (ρ' 12)).toNat)
    ⟨0, Nat.zero_le _, e12, fun _ _ _ => rfl, by simp, Mod.refl _ _⟩ ?_
  rintro ρ1 w1 ⟨k, hkl, c12, hlo1, hno, hm1⟩
  have c7 : ρ1 7 = .pointer (some ⟨b7, 0, none⟩) := (hlo1 7 (by decide) (by decide)).trans e7
  have c11 : ρ1 11 = va := (hlo1 11 (by decide) (by decide)).trans e11
  rw [dispatcherref14_Posted_its_L0_eq]; unfold dispatcherref14_Posted_its_L0_F
  rw [c12, c11, es, len_sl vMsS, ← es, BK_lss]
  by_cases hlt : k < L.length
  · rw [decide_eq_true (by omega)]
    refine condT ?_
    have hx : L[k]? = some L[k] := List.getElem?_eq_getElem hlt
    have hmem : L[k] ∈ L := List.getElem_mem hlt
    have etk : L.take (k + 1) = L.take k ++ [L[k]] := by rw [List.take_add_one, hx]; rfl
    generalize L[k] = x at *
    refine its_R2 (i := k) (owns_mod ho hm1 fun _ _ => id) hx (hm1.blk hb7 id) (by first | exact c7 | rfl) (by first | exact c11 | rfl) (by first | exact c12 | rfl) ?_
    intro ρ2 w2 d37 hlo hm2
    rw [sq_n, dispatcherref14_Posted_its_R3_eq]; unfold dispatcherref14_Posted_its_R3_F
    rw [d37]
    refine caseC (fun z => ?_) (fun z => ?_)
    · exact hk _ _ w2 (hm1.trans hm2) (.inr ⟨rfl, rfl, List.any_eq_true.2 ⟨x, hmem, z⟩⟩)
    · have q12 : ρ2 12 = .int .i64 (k : Int) := (hlo 12 (by decide)).trans (by first | exact c12 | rfl)
      rw [bk_n, sq_n, dispatcherref14_Posted_its_R4_eq]; unfold dispatcherref14_Posted_its_R4_F
      rw [q12, BK_add, wrap_i (by omega) (by omega)]
      refine ⟨⟨k + 1, hlt, rfl, fun j hj hne => ?_, fun y hy => ?_, hm1.trans hm2⟩, ?_⟩
      · rw [up_nq hne, up_lo (n := 26) hj (by decide), up_lo (n := 26) hj (by decide), hlo j (by omega), up_lo hj (by decide), up_lo hj (by decide), up_lo hj (by decide), up_lo hj (by decide)]
        exact hlo1 j hj hne
      · rw [etk] at hy
        rcases List.mem_append.1 hy with q | q
        · exact hno y q
        · rw [List.mem_singleton.1 q]; exact z
      · simp only [sq_n, sq_x, sq_r, bk_n, bk_r, bk_x, rt_r, rt_n, rs_0, rs_t, pk_1, pk_2, up_at, reduceIte, Nat.reduceEqDiff, intOf]; omega
  · obtain rfl : k = L.length := by omega
    rw [decide_eq_false (by omega)]
    refine condF ?_
    rw [List.take_length] at hno
    refine hk _ _ w1 hm1 (.inl ⟨rfl, List.any_eq_false.2 fun y hy => by rw [hno y hy]; decide, fun j hj hne => ?_⟩)
    rw [up_lo hj (by decide), up_lo hj (by decide), up_lo hj (by decide), up_lo hj (by decide)]
    exact hlo1 j hj hne
end
theorem ahead_len (ls : List Ms) (f c : Int) : (aheadV ls f c).length ≤ ls.length := by
  unfold aheadV
  split
  · exact Nat.zero_le _
  · refine Nat.le_trans (List.length_filter_le _ _) (Nat.le_trans (row_len _ _) ?_)
    exact (List.takeWhile_sublist _).length_le
theorem its_ok {w : World} {d q : Nat} {A : List Rc} {v D : Value} {ls : List Ms} (hE : EAt w d A v) (hA : A.length ≤ 1000000) (hq : DAt w q ls D) (hL : ls.length ≤ 1000000) (r : Rc) (m : Ms) (pb : Bool) :
    Rt Try.prog 73 #[.pointer (some ⟨d, 0, none⟩), .pointer (some ⟨q, 0, none⟩), .agg r.enc.toArray, .agg m.enc.toArray, .bool pb] w fun u w' => u = .bool (itsA A ls r m pb) ∧ Mod none_ w w' := by
  refine dispatcherref14_Posted_its_calls ?_
  unfold dispatcherref14_Posted_its_F
  refine box_k (cs := r.enc.toArray) rfl fun w1 hb1 hm1 hz1 => ?_
  refine box_k (cs := m.enc.toArray) rfl fun w2 hb2 hm2 hz2 => ?_
  have hb1' := hm2.blk hb1 id
  have hm12 := hm1.trans hm2
  have g7 : FO Try.prog w2 tMs 7 7 ⟨w1.heap.size, 0, none⟩ 4 (.bool m.taken) := FO.blk hb2 (by kernel_rfl) vB rfl rfl
  rw [g7.e]
  unfold itsA
  cases ht : m.taken with
  | true =>
    try simp only [↓VG_u, ↓UG_u, ↓MG_u, ↓NG_u, ↓PG_u, ↓BG_u, ↓CG_u, ↓IG_u, ↓VGtt, ↓VGtf, ↓VGft, ↓VGff, ↓UGtt, ↓UGtf, ↓UGft, ↓UGff, ↓MGtt, ↓MGtf, ↓MGft, ↓MGff, ↓NGtt, ↓NGtf, ↓NGft, ↓NGff, ↓PGtt, ↓PGtf, ↓PGft, ↓PGff, ↓BGtt, ↓BGtf, ↓BGft, ↓BGff, ↓CGtt, ↓CGtf, ↓CGft, ↓CGff, ↓IGtt, ↓IGtf, ↓IGft, ↓IGff, ↓PKt, ↓PKf, ↓CDt, ↓CDf, ↓NOTt, ↓NOTf, ↓NK_ptr]
    exact ⟨by rfl, hm12⟩
  | false =>
    try simp only [↓VG_u, ↓UG_u, ↓MG_u, ↓NG_u, ↓PG_u, ↓BG_u, ↓CG_u, ↓IG_u, ↓VGtt, ↓VGtf, ↓VGft, ↓VGff, ↓UGtt, ↓UGtf, ↓UGft, ↓UGff, ↓MGtt, ↓MGtf, ↓MGft, ↓MGff, ↓NGtt, ↓NGtf, ↓NGft, ↓NGff, ↓PGtt, ↓PGtf, ↓PGft, ↓PGff, ↓BGtt, ↓BGtf, ↓BGft, ↓BGff, ↓CGtt, ↓CGtf, ↓CGft, ↓CGff, ↓IGtt, ↓IGtf, ↓IGft, ↓IGff, ↓PKt, ↓PKf, ↓CDt, ↓CDf, ↓NOTt, ↓NOTf, ↓NK_ptr]
    refine ldS rfl Try.underlying24 rfl (by rw [iRc]; rfl) hb1' ?_
    try simp only [↓VG_u, ↓UG_u, ↓MG_u, ↓NG_u, ↓PG_u, ↓BG_u, ↓CG_u, ↓IG_u, ↓VGtt, ↓VGtf, ↓VGft, ↓VGff, ↓UGtt, ↓UGtf, ↓UGft, ↓UGff, ↓MGtt, ↓MGtf, ↓MGft, ↓MGff, ↓NGtt, ↓NGtf, ↓NGft, ↓NGff, ↓PGtt, ↓PGtf, ↓PGft, ↓PGff, ↓BGtt, ↓BGtf, ↓BGft, ↓BGff, ↓CGtt, ↓CGtf, ↓CGft, ↓CGff, ↓IGtt, ↓IGtf, ↓IGft, ↓IGff, ↓PKt, ↓PKf, ↓CDt, ↓CDf, ↓NOTt, ↓NOTf, ↓NK_ptr]
    refine ldS rfl Try.underlying39 rfl (by rw [iMs]; rfl) hb2 ?_
    try simp only [↓VG_u, ↓UG_u, ↓MG_u, ↓NG_u, ↓PG_u, ↓BG_u, ↓CG_u, ↓IG_u, ↓VGtt, ↓VGtf, ↓VGft, ↓VGff, ↓UGtt, ↓UGtf, ↓UGft, ↓UGff, ↓MGtt, ↓MGtf, ↓MGft, ↓MGff, ↓NGtt, ↓NGtf, ↓NGft, ↓NGff, ↓PGtt, ↓PGtf, ↓PGft, ↓PGff, ↓BGtt, ↓BGtf, ↓BGft, ↓BGff, ↓CGtt, ↓CGtf, ↓CGft, ↓CGff, ↓IGtt, ↓IGtf, ↓IGft, ↓IGff, ↓PKt, ↓PKf, ↓CDt, ↓CDf, ↓NOTt, ↓NOTf, ↓NK_ptr]
    refine CK_st Try.func38 rfl rfl (RFits_ok w2 r m) ?_
    rintro _ w3 ⟨rfl, hm3⟩
    have hm13 := hm12.trans hm3
    cases hf : fitsV r m with
    | false =>
      try simp only [↓VG_u, ↓UG_u, ↓MG_u, ↓NG_u, ↓PG_u, ↓BG_u, ↓CG_u, ↓IG_u, ↓VGtt, ↓VGtf, ↓VGft, ↓VGff, ↓UGtt, ↓UGtf, ↓UGft, ↓UGff, ↓MGtt, ↓MGtf, ↓MGft, ↓MGff, ↓NGtt, ↓NGtf, ↓NGft, ↓NGff, ↓PGtt, ↓PGtf, ↓PGft, ↓PGff, ↓BGtt, ↓BGtf, ↓BGft, ↓BGff, ↓CGtt, ↓CGtf, ↓CGft, ↓CGff, ↓IGtt, ↓IGtf, ↓IGft, ↓IGff, ↓PKt, ↓PKf, ↓CDt, ↓CDf, ↓NOTt, ↓NOTf, ↓NK_ptr]
      exact ⟨by rfl, hm13⟩
    | true =>
      try simp only [↓VG_u, ↓UG_u, ↓MG_u, ↓NG_u, ↓PG_u, ↓BG_u, ↓CG_u, ↓IG_u, ↓VGtt, ↓VGtf, ↓VGft, ↓VGff, ↓UGtt, ↓UGtf, ↓UGft, ↓UGff, ↓MGtt, ↓MGtf, ↓MGft, ↓MGff, ↓NGtt, ↓NGtf, ↓NGft, ↓NGff, ↓PGtt, ↓PGtf, ↓PGft, ↓PGff, ↓BGtt, ↓BGtf, ↓BGft, ↓BGff, ↓CGtt, ↓CGtf, ↓CGft, ↓CGff, ↓IGtt, ↓IGtf, ↓IGft, ↓IGff, ↓PKt, ↓PKf, ↓CDt, ↓CDf, ↓NOTt, ↓NOTf, ↓NK_ptr]
      have hb13 := hm3.blk hb1' id
      have hb23 := hm3.blk hb2 id
      refine ldS rfl Try.underlying39 rfl (by rw [iMs]; rfl) hb23 ?_
      refine CK_st Try.func81 rfl rfl (RAhead_ok (hq.calm hm13) hL m) ?_
      rintro va w4 ⟨ho4, hm4⟩
      have hal := ahead_len ls m.frm m.call
      have hm14 := hm13.trans hm4
      refine its_L0 ho4 (by omega) (hm4.blk hb13 id) rfl rfl rfl ?_
      intro e ρ1 w5 hm5 hcase
      rcases hcase with ⟨rfl, hany, hlo⟩ | ⟨rfl, q10, hany⟩
      · rw [bk_x, sq_n, dispatcherref14_Posted_its_R1_eq]; unfold dispatcherref14_Posted_its_R1_F
        have c0 : ρ1 0 = .pointer (some ⟨d, 0, none⟩) := (hlo 0 (by decide) (by decide)).trans rfl
        have c7 : ρ1 7 = .pointer (some ⟨w.heap.size, 0, none⟩) := (hlo 7 (by decide) (by decide)).trans rfl
        have c8 : ρ1 8 = .pointer (some ⟨w1.heap.size, 0, none⟩) := (hlo 8 (by decide) (by decide)).trans rfl
        have c4 : ρ1 4 = .bool pb := (hlo 4 (by decide) (by decide)).trans rfl
        have hm15 := hm14.trans hm5
        have hb15 := (hm4.trans hm5).blk hb13 id
        have hb25 := (hm4.trans hm5).blk hb23 id
        have g1 : FO Try.prog w5 tRc 1 1 ⟨w.heap.size, 0, none⟩ 3 (.int .i64 r.rank) := FO.blk hb15 (by kernel_rfl) vI rfl rfl
        rw [c7, c0, g1.e]
        refine CK_st Try.func35 rfl rfl (RWaiting_ok (hE.calm hm15) hA r.rank) ?_
        rintro vw w6 ⟨ho6, hm6⟩
        have hWl : (A.filter (wq r.rank)).length ≤ 1000000 := Nat.le_trans (List.length_filter_le _ _) hA
        refine its_L5 (pb := pb) (a := true) (reads_of_owns ho6) hWl (hm6.blk hb15 id) (hm6.blk hb25 id) (by first | exact c4 | rfl) (by first | exact c7 | rfl) (by first | exact c8 | rfl) rfl rfl ?_
        intro e ρ2 w7 hm7 hcase2
        have hm17 := hm15.trans (hm6.trans hm7)
        rcases hcase2 with ⟨rfl, hany2⟩ | ⟨rfl, q10, hany2⟩
        · rw [bk_x, sq_n, dispatcherref14_Posted_its_R6_eq]; unfold dispatcherref14_Posted_its_R6_F
          refine ⟨?_, hm17⟩
          show Value.bool true = _
          rw [hany, hany2]; rfl
        · show ρ2 10 = _ ∧ _
          refine ⟨?_, hm17⟩
          rw [q10, hany, hany2]; rfl
      · show ρ1 10 = _ ∧ _
        refine ⟨?_, hm14.trans hm5⟩
        rw [q10, hany]; rfl
end Go.Proofs.Ytmnkedgmpbcicaa.Que
set_option linter.unusedVariables false
set_option linter.unusedSimpArgs false
set_option maxRecDepth 8000
namespace Go.Proofs.Ytmnkedgmpbcicaa.Que
open Go Go.X Go.RowKit Go.Proofs.Ytmnkedgmpbcicaa.XF Go.Proofs.Ytmnkedgmpbcicaa.XG Go.Proofs.Ytmnkedgmpbcicaa.XK
def pA (A : List Rc) (ls : List Ms) (r : Rc) (pb : Bool) (n : Int) (m : Ms) : Bool := decide (m.frm = n) && itsA A ls r m pb
def allN (A : List Rc) (ls S : List Ms) (r : Rc) (pb : Bool) : Nat → List Ms
  | 0 => []
  | n + 1 => allN A ls S r pb n ++ S.filter (pA A ls r pb n)
theorem allN_len (A : List Rc) (ls S : List Ms) (r : Rc) (pb : Bool) : ∀ n, (allN A ls S r pb n).length ≤ n * S.length
  | 0 => Nat.zero_le _
  | n + 1 => by
    have h1 := allN_len A ls S r pb n
    have h2 : (S.filter (pA A ls r pb n)).length ≤ S.length := List.length_filter_le _ _
    unfold allN
    rw [List.length_append, Nat.succ_mul]
    omega
section
variable {w wB : World} {d q b6 : Nat} {A : List Rc} {v D : Value} {ls S : List Ms} {r : Rc} {pb : Bool} {vl : Value}
structure AlI (wB : World) (d q b6 : Nat) (A : List Rc) (v D : Value) (ls S : List Ms) (r : Rc) (vl : Value) : Prop where
  e : EAt wB d A v
  a : A.length ≤ 500
  q : DAt wB q ls D
  l : ls.length ≤ 500
  b : wB.heap[b6]? = some (.cells r.enc.toArray tRc (0, 0))
  s : wB.ownsRow 0 tMs 8 vl S.length (S.flatMap Ms.enc)
  sl : S.length ≤ 500
structure AlR (d q b6 : Nat) (pb : Bool) (vl : Value) (n : Nat) (ρ : Sl) : Prop where
  s0 : ρ 0 = .pointer (some ⟨d, 0, none⟩)
  s1 : ρ 1 = .pointer (some ⟨q, 0, none⟩)
  s3 : ρ 3 = .bool pb
  s6 : ρ 6 = .pointer (some ⟨b6, 0, none⟩)
  s10 : ρ 10 = vl
  s11 : ρ 11 = .int .i64 n
theorem all_R5 {K : Exit → Sl → World → Prop} {ρ : Sl} {i n : Nat} {x : Ms} (h : AlI wB d q b6 A v D ls S r vl) (hm : Mod none_ wB w) (hx : S[i]? = some x) (hr : AlR d q b6 pb vl n ρ) (e12 : ρ 12 = .int .i64 i)
    (hk : ∀ (ρ' : Sl) (w' : World), ρ' 42 = .bool (pA A ls r pb n x) → (∀ j, j < 25 → ρ' j = ρ j) → Mod none_ w w' → K .normal ρ' w') : W fn_ Try.prog 51 dispatcherref14_Posted_all_R5 K ρ w := by
  refine dispatcherref14_Posted_all_R5_tail (D := []) ?_
  have hmd : Mod none_ w { w with drawn := w.drawn + 1 } := (Mod.refl _ w).drawn _
  generalize ({ w with drawn := w.drawn + 1 } : World) = wd at *
  unfold dispatcherref14_Posted_all_R5_T
  rw [hr.s0, hr.s1, hr.s3, hr.s6, hr.s10, hr.s11, e12]
  have hmB := hm.trans hmd
  obtain ⟨a, ha, hac, hal⟩ := own_ld h.s hx
  intro C
  have hC : ∀ w', C w' → Mod none_ wB w' := fun w' hw => by cases (show w' = wd from hw); exact hmB
  refine QV_of (fun w' _ => ha w') ?_
  refine Qfo (show fieldOff Try.prog tMs 1 = some 1 by kernel_rfl) ?_
  refine Qld vI rfl (fun w' hw => hac w' (hC w' hw) 1 (.int .i64 x.frm) rfl) ?_
  refine Qeql ?_
  by_cases hf : x.frm = (n : Int)
  · rw [show (x.frm == (n : Int)) = true by simpa using hf]
    rw [QG_b, if_pos rfl]
    refine QM ?_
    rw [QG_b, if_pos rfl]
    refine QM ?_
    rw [QG_b, if_pos rfl]
    refine QV_of (fun w' hw => run_ldB Try.underlying24 rfl (by rw [iRc]; rfl) ((hC w' hw).blk h.b id)) ?_
    rw [QG_b, if_pos rfl]
    refine QM ?_
    rw [QG_b, if_pos rfl]
    refine QM ?_
    rw [QG_b, if_pos rfl]
    refine QV_of (fun w' _ => ha w') ?_
    rw [QG_b, if_pos rfl]
    refine QV_of (fun w' hw => hal w' (hC w' hw)) ?_
    rw [QG_b, if_pos rfl]
    refine QM ?_
    try simp only [↓VG_u, ↓UG_u, ↓MG_u, ↓NG_u, ↓PG_u, ↓BG_u, ↓CG_u, ↓IG_u, ↓VGtt, ↓VGtf, ↓VGft, ↓VGff, ↓UGtt, ↓UGtf, ↓UGft, ↓UGff, ↓MGtt, ↓MGtf, ↓MGft, ↓MGff, ↓NGtt, ↓NGtf, ↓NGft, ↓NGff, ↓PGtt, ↓PGtf, ↓PGft, ↓PGff, ↓BGtt, ↓BGtf, ↓BGft, ↓BGff, ↓CGtt, ↓CGtf, ↓CGft, ↓CGff, ↓IGtt, ↓IGtf, ↓IGft, ↓IGff, ↓PKt, ↓PKf, ↓CDt, ↓CDf, ↓NOTt, ↓NOTf, ↓NK_ptr]
    refine CK_st Try.func73 rfl rfl (its_ok (h.e.calm hmB) (by have := h.a; omega) (h.q.calm hmB) (by have := h.l; omega) r x pb) ?_
    rintro _ w1 ⟨rfl, hm1⟩
    try simp only [↓VG_u, ↓UG_u, ↓MG_u, ↓NG_u, ↓PG_u, ↓BG_u, ↓CG_u, ↓IG_u, ↓VGtt, ↓VGtf, ↓VGft, ↓VGff, ↓UGtt, ↓UGtf, ↓UGft, ↓UGff, ↓MGtt, ↓MGtf, ↓MGft, ↓MGff, ↓NGtt, ↓NGtf, ↓NGft, ↓NGff, ↓PGtt, ↓PGtf, ↓PGft, ↓PGff, ↓BGtt, ↓BGtf, ↓BGft, ↓BGff, ↓CGtt, ↓CGtf, ↓CGft, ↓CGff, ↓IGtt, ↓IGtf, ↓IGft, ↓IGff, ↓PKt, ↓PKf, ↓CDt, ↓CDf, ↓NOTt, ↓NOTf, ↓NK_ptr]
    refine hk _ w1 (by unfold pA; rw [decide_eq_true hf]; rfl) (fun j hj => ?_) (hmd.trans hm1)
    repeat rw [up_lo hj (by decide)]
  · rw [show (x.frm == (n : Int)) = false by simpa using hf]
    repeat rw [QG_b, if_neg (by decide)]
    try simp only [↓VG_u, ↓UG_u, ↓MG_u, ↓NG_u, ↓PG_u, ↓BG_u, ↓CG_u, ↓IG_u, ↓VGtt, ↓VGtf, ↓VGft, ↓VGff, ↓UGtt, ↓UGtf, ↓UGft, ↓UGff, ↓MGtt, ↓MGtf, ↓MGft, ↓MGff, ↓NGtt, ↓NGtf, ↓NGft, ↓NGff, ↓PGtt, ↓PGtf, ↓PGft, ↓PGff, ↓BGtt, ↓BGtf, ↓BGft, ↓BGff, ↓CGtt, ↓CGtf, ↓CGft, ↓CGff, ↓IGtt, ↓IGtf, ↓IGft, ↓IGff, ↓PKt, ↓PKf, ↓CDt, ↓CDf, ↓NOTt, ↓NOTf, ↓NK_ptr]
    refine hk _ wd (by unfold pA; rw [decide_eq_false hf]; rfl) (fun j hj => ?_) hmd
    repeat rw [up_lo hj (by decide)]
theorem all_L2 {K : Exit → Sl → World → Prop} {ρ : Sl} {n : Nat} {o : Value} {cur : List Ms} (hcl : cur.length ≤ 100000) (h : AlI wB d q b6 A v D ls S r vl) (hm : Mod none_ wB w) (hr : AlR d q b6 pb vl n ρ) (e12 : ρ 12 = .int .i64 0) (e9 : ρ 9 = o)
    (ho : w.ownsRow wB.heap.size tMs 8 o cur.length (cur.flatMap Ms.enc))
    (hk : ∀ (ρ' : Sl) (w' : World) (o' : Value), AlR d q b6 pb vl n ρ' → ρ' 9 = o' → w'.ownsRow wB.heap.size tMs 8 o' (cur ++ S.filter (pA A ls r pb n)).length ((cur ++ S.filter (pA A ls r pb n)).flatMap Ms.enc) → Mod none_ wB w' → K (.exit 2) ρ' w') : W fn_ Try.prog 51 (Code.loop dispatcherref14_Posted_all_L2) K ρ w := by
  obtain ⟨A0, c, es, _⟩ := reads_cap (reads_of_owns h.s)
  have hsl := h.sl
  refine W_loop dispatcherref14_Posted_all_L2_ok (fun ρ' w' => ∃ (i : Nat) (o : Value), i ≤ S.length ∧ ρ' 12 = .int .i64 i ∧ AlR d q b6 pb vl n ρ' ∧ ρ' 9 = o ∧ w'.ownsRow wB.heap.size tMs 8 o (cur ++ (S.take i).filter (pA A ls r pb n)).length ((cur ++ (S.take i).filter (pA A ls r pb n)).flatMap Ms.enc) ∧ Mod none_ wB w') (fun ρ' _ => S.length - (intOf (ρ' 12)).toNat)
    ⟨0, o, Nat.zero_le _, e12, hr, e9, by simpa using ho, hm⟩ ?_
  rintro ρ1 w1 ⟨i, o1, hi, c12, hr1, c9, ho1, hm1⟩
  rw [dispatcherref14_Posted_all_L2_eq]; unfold dispatcherref14_Posted_all_L2_F
  rw [c12, hr1.s10, es, len_sl vMsS, ← es, BK_lss]
  by_cases hlt : i < S.length
  · rw [decide_eq_true (by omega)]
    refine condT ?_
    have hx : S[i]? = some S[i] := List.getElem?_eq_getElem hlt
    have etk : S.take (i + 1) = S.take i ++ [S[i]] := by rw [List.take_add_one, hx]; rfl
    have hlen : ((S.take i).filter (pA A ls r pb n)).length ≤ i := Nat.le_trans (List.length_filter_le _ _) (by rw [List.length_take]; omega)
    generalize S[i] = x at *
    refine all_R5 (i := i) (n := n) h hm1 hx ⟨by first | exact hr1.s0 | rfl, by first | exact hr1.s1 | rfl, by first | exact hr1.s3 | rfl, by first | exact hr1.s6 | rfl, by first | exact hr1.s10 | rfl, by first | exact hr1.s11 | rfl⟩ (by first | exact c12 | rfl) ?_
    intro ρ2 w2 d42 hlo hm2
    have q12 : ρ2 12 = .int .i64 (i : Int) := (hlo 12 (by decide)).trans (by first | exact c12 | rfl)
    have q9 : ρ2 9 = o1 := (hlo 9 (by decide)).trans (by first | exact c9 | rfl)
    have hr2 : AlR d q b6 pb vl n ρ2 := ⟨(hlo 0 (by decide)).trans (by first | exact hr1.s0 | rfl), (hlo 1 (by decide)).trans (by first | exact hr1.s1 | rfl), (hlo 3 (by decide)).trans (by first | exact hr1.s3 | rfl), (hlo 6 (by decide)).trans (by first | exact hr1.s6 | rfl), (hlo 10 (by decide)).trans (by first | exact hr1.s10 | rfl), (hlo 11 (by decide)).trans (by first | exact hr1.s11 | rfl)⟩
    have ho2 := owns_mod ho1 hm2 fun _ _ => id
    have hm12 := hm1.trans hm2
    rw [sq_n, dispatcherref14_Posted_all_R6_eq]; unfold dispatcherref14_Posted_all_R6_F
    rw [d42, hr2.s10, q12, q9]
    have fin : ∀ (ρ3 : Sl) (w' : World) (o' : Value), ρ3 12 = .int .i64 i → AlR d q b6 pb vl n ρ3 → ρ3 9 = o' → w'.ownsRow wB.heap.size tMs 8 o' (cur ++ (S.take (i + 1)).filter (pA A ls r pb n)).length ((cur ++ (S.take (i + 1)).filter (pA A ls r pb n)).flatMap Ms.enc) → Mod none_ wB w' → BK Try.prog .add 3 (.tmp 23) (.const (.int .i64 1)) (ρ3 12) (.int .i64 1) w' fun x24 w'' => ((∃ (i : Nat) (o : Value), i ≤ S.length ∧ (up (up (up ρ3 23 (ρ3 12)) 24 x24) 12 x24) 12 = .int .i64 i ∧ AlR d q b6 pb vl n (up (up (up ρ3 23 (ρ3 12)) 24 x24) 12 x24) ∧ (up (up (up ρ3 23 (ρ3 12)) 24 x24) 12 x24) 9 = o ∧ w''.ownsRow wB.heap.size tMs 8 o (cur ++ (S.take i).filter (pA A ls r pb n)).length ((cur ++ (S.take i).filter (pA A ls r pb n)).flatMap Ms.enc) ∧ Mod none_ wB w'') ∧ S.length - (intOf ((up (up (up ρ3 23 (ρ3 12)) 24 x24) 12 x24) 12)).toNat < S.length - (intOf (.int .i64 (i : Int))).toNat) := by
      intro ρ3 w' o' t12 hr3 t9 ho' hm'
      rw [t12, BK_add, wrap_i (by omega) (by omega)]
      refine ⟨⟨i + 1, o', hlt, rfl, ⟨hr3.s0, hr3.s1, hr3.s3, hr3.s6, hr3.s10, hr3.s11⟩, t9, ho', hm'⟩, ?_⟩
      simp only [sq_n, sq_x, sq_r, bk_n, bk_r, bk_x, rt_r, rt_n, rs_0, rs_t, pk_1, pk_2, up_at, reduceIte, Nat.reduceEqDiff, intOf]; omega
    refine caseC (fun z => ?_) (fun z => ?_)
    · obtain ⟨a, ha, hac, hal⟩ := own_ld h.s hx
      rw [VK_eq_of (ha w2), VK_eq_of (hal w2 hm12)]
      refine app1 ho2 hm12.size (by rw [List.length_append]; omega) fun _ o' w3 ho3 hm3 => ?_
      have ef : cur ++ (S.take (i + 1)).filter (pA A ls r pb n) = (cur ++ (S.take i).filter (pA A ls r pb n)) ++ [x] := by rw [etk, List.filter_append, List.filter_cons_of_pos z, List.filter_nil, List.append_assoc]
      rw [← ef] at ho3
      rw [bk_n, sq_n, dispatcherref14_Posted_all_R4_eq]; unfold dispatcherref14_Posted_all_R4_F
      exact fin _ w3 o' (by first | exact q12 | rfl) ⟨by first | exact hr2.s0 | rfl, by first | exact hr2.s1 | rfl, by first | exact hr2.s3 | rfl, by first | exact hr2.s6 | rfl, by first | exact hr2.s10 | rfl, by first | exact hr2.s11 | rfl⟩ rfl ho3 (hm12.then hm3 fun i hi z => by omega)
    · have ef : cur ++ (S.take (i + 1)).filter (pA A ls r pb n) = cur ++ (S.take i).filter (pA A ls r pb n) := by rw [etk, List.filter_append, List.filter_cons_of_neg (by rw [z]; decide), List.filter_nil, List.append_nil]
      rw [← ef] at ho2
      rw [bk_n, sq_n, dispatcherref14_Posted_all_R4_eq]; unfold dispatcherref14_Posted_all_R4_F
      exact fin _ w2 o1 q12 hr2 q9 ho2 hm12
  · obtain rfl : i = S.length := by omega
    rw [decide_eq_false (by omega)]
    refine condF ?_
    rw [List.take_length] at ho1
    exact hk _ w1 o1 ⟨by first | exact hr1.s0 | rfl, by first | exact hr1.s1 | rfl, by first | exact hr1.s3 | rfl, by first | exact hr1.s6 | rfl, by first | exact hr1.s10 | rfl, by first | exact hr1.s11 | rfl⟩ (by first | exact c9 | rfl) ho1 hm1
end
section
variable {w : World} {d q : Nat} {A : List Rc} {v D : Value} {ls : List Ms}
abbrev AllP (w0 : World) (A : List Rc) (ls : List Ms) (r : Rc) (pb : Bool) : Value → World → Prop := fun u w' => ∃ S, Stab ltM (ls.filter nt) S ∧ RowP w0 (allN A ls S r pb 64) u w'
theorem all_ok (hE : EAt w d A v) (hA : A.length ≤ 500) (hq : DAt w q ls D) (hL : ls.length ≤ 500) (r : Rc) (pb : Bool) :
    Rt Try.prog 58 #[.pointer (some ⟨d, 0, none⟩), .pointer (some ⟨q, 0, none⟩), .agg r.enc.toArray, .bool pb] w (AllP w A ls r pb) := by
  refine dispatcherref14_Posted_all_calls ?_
  unfold dispatcherref14_Posted_all_F
  refine box_k (cs := r.enc.toArray) rfl fun w1 hb1 hm1 hz1 => ?_
  refine CK_st Try.func37 rfl rfl (RLeft_ok (hq.calm hm1) (by omega)) ?_
  rintro vl w2 ⟨S, hS, hO, hm2⟩
  have hm12 := hm1.trans hm2
  have lS : S.length = (ls.filter nt).length := Stab.len ltM_wo hS.eq
  have hSl : S.length ≤ 500 := by rw [lS]; exact Nat.le_trans (List.length_filter_le _ _) hL
  have hI : AlI w2 d q w.heap.size A v D ls S r vl := ⟨hE.calm hm12, hA, hq.calm hm12, hL, hm2.blk hb1 id, owns_base hO (Nat.zero_le _), hSl⟩
  refine W_loop dispatcherref14_Posted_all_L0_ok (fun ρ' w' => ∃ (n : Nat) (o : Value), n ≤ 64 ∧ AlR d q w.heap.size pb vl n ρ' ∧ ρ' 9 = o ∧ w'.ownsRow w2.heap.size tMs 8 o (allN A ls S r pb n).length ((allN A ls S r pb n).flatMap Ms.enc) ∧ Mod none_ w2 w') (fun ρ' _ => 64 - (intOf (ρ' 11)).toNat)
    ⟨0, .slice none 0 0, Nat.zero_le _, ⟨rfl, rfl, rfl, rfl, rfl, rfl⟩, rfl, World.ownsRow_nil _ _ _ _, Mod.refl _ _⟩ ?_
  rintro ρ w3 ⟨n, o, hn, hr, e9, ho, hm3⟩
  rw [dispatcherref14_Posted_all_L0_eq]; unfold dispatcherref14_Posted_all_L0_F
  rw [hr.s11, BK_lss]
  by_cases hlt : n < 64
  · rw [decide_eq_true (by omega)]
    refine condT ?_
    have hnl := allN_len A ls S r pb n
    have hnl2 : (allN A ls S r pb n).length ≤ 100000 := Nat.le_trans hnl (Nat.le_trans (Nat.mul_le_mul hn hSl) (by decide))
    refine all_L2 (n := n) hnl2 hI hm3 ⟨by first | exact hr.s0 | rfl, by first | exact hr.s1 | rfl, by first | exact hr.s3 | rfl, by first | exact hr.s6 | rfl, by first | exact hr.s10 | rfl, by first | exact hr.s11 | rfl⟩ rfl (by first | exact e9 | rfl) ho ?_
    intro ρ2 w4 o' hr2 q9 ho4 hm4
    rw [bk_x, bk_n, sq_n, dispatcherref14_Posted_all_R3_eq]; unfold dispatcherref14_Posted_all_R3_F
    rw [hr2.s11, BK_add, wrap_i (by omega) (by omega)]
    refine ⟨⟨n + 1, o', hlt, ⟨hr2.s0, hr2.s1, hr2.s3, hr2.s6, hr2.s10, rfl⟩, q9, ho4, hm4⟩, ?_⟩
    simp only [sq_n, sq_x, sq_r, bk_n, bk_r, bk_x, rt_r, rt_n, rs_0, rs_t, pk_1, pk_2, up_at, reduceIte, Nat.reduceEqDiff, intOf]; omega
  · obtain rfl : n = 64 := by omega
    rw [show decide (((64 : Nat) : Int) < 64) = false from rfl]
    refine condF ?_
    rw [sq_x, bk_x, sq_n, dispatcherref14_Posted_all_R1_eq]; unfold dispatcherref14_Posted_all_R1_F
    have key : ∀ ρ0 : Sl, ρ0 9 = o → retK Try.prog [ResultVar.tmp 8] (AllP w A ls r pb) .ret (up (up ρ0 50 (ρ0 9)) 8 (ρ0 9)) w3 := by
      intro ρ0 z
      show AllP w A ls r pb (ρ0 9) w3
      rw [z]
      exact ⟨S, hS, owns_base ho hm12.size, hm12.trans hm3⟩
    exact key _ (by first | exact e9 | rfl)
abbrev MayA (w0 : World) (A : List Rc) (ls : List Ms) (rk c : Int) : Value → World → Prop := fun u w' => ∃ S, Stab ltM (ls.filter nt) S ∧ RowP w0 (match A.find? (isRC rk c) with | none => [] | some r => if r.done then [] else allN A ls S r false 64) u w'
theorem RMay_ok (hE : EAt w d A v) (hA : A.length ≤ 500) (hq : DAt w q ls D) (hL : ls.length ≤ 500) (hS0 : ∃ S, Stab ltM (ls.filter nt) S) (rk c : Int) :
    Rt Try.prog 31 #[.pointer (some ⟨d, 0, none⟩), .pointer (some ⟨q, 0, none⟩), .int .i64 rk, .int .i64 c] w (MayA w A ls rk c) := by
  obtain ⟨S0, hS0⟩ := hS0
  refine dispatcherref14_Posted_May_calls ?_
  unfold dispatcherref14_Posted_May_F
  refine CK_st Try.func33 rfl rfl (RAt_ok hE (by omega) rk c) ?_
  rintro _ w1 ⟨rfl, hm1⟩
  cases hf : A.find? (isRC rk c) with
  | none =>
    unfold rcb
    rw [extract_ok (v := .agg zRc.enc.toArray) rfl, extract_ok (v := .bool false) rfl]
    refine rcSlot_k fun w2 hb2 hm2 hz2 => ?_
    rw [not_ok]
    try simp only [Bool.not_false, ↓VG_u, ↓UG_u, ↓MG_u, ↓NG_u, ↓PG_u, ↓BG_u, ↓CG_u, ↓IG_u, ↓VGtt, ↓VGtf, ↓VGft, ↓VGff, ↓UGtt, ↓UGtf, ↓UGft, ↓UGff, ↓MGtt, ↓MGtf, ↓MGft, ↓MGff, ↓NGtt, ↓NGtf, ↓NGft, ↓NGff, ↓PGtt, ↓PGtf, ↓PGft, ↓PGff, ↓BGtt, ↓BGtf, ↓BGft, ↓BGff, ↓CGtt, ↓CGtf, ↓CGft, ↓CGff, ↓IGtt, ↓IGtf, ↓IGft, ↓IGff, ↓PKt, ↓PKf, ↓CDt, ↓CDf, ↓NOTt, ↓NOTf, ↓NK_ptr]
    refine ⟨S0, hS0, ?_⟩
    rw [hf]
    exact ⟨World.ownsRow_nil _ _ _ _, hm1.trans hm2⟩
  | some x =>
    unfold rcb
    rw [extract_ok (v := .agg x.enc.toArray) rfl, extract_ok (v := .bool true) rfl]
    refine rcSlot_k fun w2 hb2 hm2 hz2 => ?_
    have hm12 := hm1.trans hm2
    rw [not_ok]
    try simp only [Bool.not_true, ↓VG_u, ↓UG_u, ↓MG_u, ↓NG_u, ↓PG_u, ↓BG_u, ↓CG_u, ↓IG_u, ↓VGtt, ↓VGtf, ↓VGft, ↓VGff, ↓UGtt, ↓UGtf, ↓UGft, ↓UGff, ↓MGtt, ↓MGtf, ↓MGft, ↓MGff, ↓NGtt, ↓NGtf, ↓NGft, ↓NGff, ↓PGtt, ↓PGtf, ↓PGft, ↓PGff, ↓BGtt, ↓BGtf, ↓BGft, ↓BGff, ↓CGtt, ↓CGtf, ↓CGft, ↓CGff, ↓IGtt, ↓IGtf, ↓IGft, ↓IGff, ↓PKt, ↓PKf, ↓CDt, ↓CDf, ↓NOTt, ↓NOTf, ↓NK_ptr]
    have g6 : FO Try.prog w2 tRc 6 6 ⟨w1.heap.size, 0, none⟩ 4 (.bool x.done) := FO.blk hb2 (by kernel_rfl) vB rfl rfl
    rw [g6.e]
    try simp only [↓VG_u, ↓UG_u, ↓MG_u, ↓NG_u, ↓PG_u, ↓BG_u, ↓CG_u, ↓IG_u, ↓VGtt, ↓VGtf, ↓VGft, ↓VGff, ↓UGtt, ↓UGtf, ↓UGft, ↓UGff, ↓MGtt, ↓MGtf, ↓MGft, ↓MGff, ↓NGtt, ↓NGtf, ↓NGft, ↓NGff, ↓PGtt, ↓PGtf, ↓PGft, ↓PGff, ↓BGtt, ↓BGtf, ↓BGft, ↓BGff, ↓CGtt, ↓CGtf, ↓CGft, ↓CGff, ↓IGtt, ↓IGtf, ↓IGft, ↓IGff, ↓PKt, ↓PKf, ↓CDt, ↓CDf, ↓NOTt, ↓NOTf, ↓NK_ptr]
    cases hd : x.done with
    | true =>
      try simp only [↓VG_u, ↓UG_u, ↓MG_u, ↓NG_u, ↓PG_u, ↓BG_u, ↓CG_u, ↓IG_u, ↓VGtt, ↓VGtf, ↓VGft, ↓VGff, ↓UGtt, ↓UGtf, ↓UGft, ↓UGff, ↓MGtt, ↓MGtf, ↓MGft, ↓MGff, ↓NGtt, ↓NGtf, ↓NGft, ↓NGff, ↓PGtt, ↓PGtf, ↓PGft, ↓PGff, ↓BGtt, ↓BGtf, ↓BGft, ↓BGff, ↓CGtt, ↓CGtf, ↓CGft, ↓CGff, ↓IGtt, ↓IGtf, ↓IGft, ↓IGff, ↓PKt, ↓PKf, ↓CDt, ↓CDf, ↓NOTt, ↓NOTf, ↓NK_ptr]
      refine ⟨S0, hS0, ?_⟩
      rw [hf]
      dsimp only
      rw [hd]
      exact ⟨World.ownsRow_nil _ _ _ _, hm12⟩
    | false =>
      try simp only [↓VG_u, ↓UG_u, ↓MG_u, ↓NG_u, ↓PG_u, ↓BG_u, ↓CG_u, ↓IG_u, ↓VGtt, ↓VGtf, ↓VGft, ↓VGff, ↓UGtt, ↓UGtf, ↓UGft, ↓UGff, ↓MGtt, ↓MGtf, ↓MGft, ↓MGff, ↓NGtt, ↓NGtf, ↓NGft, ↓NGff, ↓PGtt, ↓PGtf, ↓PGft, ↓PGff, ↓BGtt, ↓BGtf, ↓BGft, ↓BGff, ↓CGtt, ↓CGtf, ↓CGft, ↓CGff, ↓IGtt, ↓IGtf, ↓IGft, ↓IGff, ↓PKt, ↓PKf, ↓CDt, ↓CDf, ↓NOTt, ↓NOTf, ↓NK_ptr]
      refine ldS rfl Try.underlying24 rfl (by rw [iRc]; rfl) hb2 ?_
      refine CK_st Try.func58 rfl rfl (all_ok (hE.calm hm12) hA (hq.calm hm12) hL x false) ?_
      rintro u w3 ⟨S, hS, ho, hm3⟩
      refine ⟨S, hS, ?_⟩
      rw [hf]
      dsimp only
      rw [hd]
      exact ⟨owns_base ho hm12.size, hm12.trans hm3⟩
end
end Go.Proofs.Ytmnkedgmpbcicaa.Que
set_option linter.unusedVariables false
set_option linter.unusedSimpArgs false
set_option maxRecDepth 8000
namespace Go.X
open Go Go.RowKit
def badF (r : Rc) : Bool := decide (r.rank < 0) || decide (63 < r.rank) || decide (r.peer < -1) || decide (63 < r.peer) || decide (r.tag < -1) || decide (32767 < r.tag) || decide (r.req < -1) || decide (r.call < 0)
def sameA (A : List Rc) (r : Rc) : Bool := A.any fun x => decide (x.rank = r.rank) && decide (r.call ≤ x.call)
def postA (A : List Rc) (r : Rc) : List Rc × Int := if badF r || sameA A r then (A, 2) else (A ++ [r.new], 0)
end Go.X
namespace Go.Proofs.Ytmnkedgmpbcicaa.Que
open Go Go.X Go.RowKit Go.Proofs.Ytmnkedgmpbcicaa.XF Go.Proofs.Ytmnkedgmpbcicaa.XG Go.Proofs.Ytmnkedgmpbcicaa.XK
section
variable {w : World} {d b3 : Nat} {A : List Rc} {v : Value} {r : Rc}
theorem rpost_R4 {K : Exit → Sl → World → Prop} {ρ : Sl} {i : Nat} {x : Rc} (h : EAt w d A v) (hb : w.heap[b3]? = some (.cells r.enc.toArray tRc (0, 0))) (hx : A[i]? = some x)
    (e0 : ρ 0 = .pointer (some ⟨d, 0, none⟩)) (e3 : ρ 3 = .pointer (some ⟨b3, 0, none⟩)) (e5 : ρ 5 = .int .i64 i)
    (hk : ∀ (ρ' : Sl) (w' : World), ρ' 76 = .bool (decide (x.rank = r.rank) && decide (r.call ≤ x.call)) → (∀ j, j < 53 → ρ' j = ρ j) → Mod none_ w w' → K .normal ρ' w') : W fn_ Try.prog 99 dispatcherref14_Posted_Post_R4 K ρ w := by
  refine dispatcherref14_Posted_Post_R4_tail (D := []) ?_
  have hmd : Mod none_ w { w with drawn := w.drawn + 1 } := (Mod.refl _ w).drawn _
  generalize ({ w with drawn := w.drawn + 1 } : World) = wd at *
  unfold dispatcherref14_Posted_Post_R4_T
  rw [e0, e3, e5]
  obtain ⟨a, ha, hc, _⟩ := rc_any (e_row h) hx
  intro C
  have hC : ∀ w', C w' → Mod none_ w w' := fun w' hw => by cases (show w' = wd from hw); exact hmd
  have hld : ∀ w', C w' → (Instr.loadAt tRcS (.pointer (some (Addr.add ⟨d, 0, none⟩ 0)))).run Try.prog w' = .ok v w' := fun w' hw => run_ld1 vRcS rfl (by rw [add_pl, cell_blk ((hC w' hw).blk h.blk id)]; rfl)
  have hcb : ∀ (k : Nat) (u : Value), r.enc.toArray[k]? = some u → ∀ w', C w' → w'.cell? (Addr.add ⟨b3, 0, none⟩ k) = some u := fun k u hu w' hw => by
    rw [add_pl, Nat.zero_add, cell_blk ((hC w' hw).blk hb id)]; exact hu
  refine QN_ptr ?_
  refine Qfo (show fieldOff Try.prog tEd 0 = some 0 by kernel_rfl) ?_
  refine QV_of hld ?_
  refine QV_of (fun w' _ => ha w') ?_
  refine Qfo (show fieldOff Try.prog tRc 1 = some 1 by kernel_rfl) ?_
  refine Qld vI rfl (fun w' hw => hc w' (hC w' hw) 1 (.int .i64 x.rank) rfl) ?_
  refine Qfo (show fieldOff Try.prog tRc 1 = some 1 by kernel_rfl) ?_
  refine Qld vI rfl (hcb 1 (.int .i64 r.rank) rfl) ?_
  refine Qeql ?_
  by_cases hf : x.rank = r.rank
  · rw [show (x.rank == r.rank) = true by simpa using hf]
    rw [QG_b, if_pos rfl]
    refine QM ?_
    rw [QG_b, if_pos rfl]
    refine QN_ptr ?_
    rw [QG_b, if_pos rfl]
    refine Qfo (show fieldOff Try.prog tEd 0 = some 0 by kernel_rfl) ?_
    rw [QG_b, if_pos rfl]
    refine QV_of hld ?_
    rw [QG_b, if_pos rfl]
    refine QM ?_
    rw [QG_b, if_pos rfl]
    refine QV_of (fun w' _ => ha w') ?_
    rw [QG_b, if_pos rfl]
    refine Qfo (show fieldOff Try.prog tRc 2 = some 2 by kernel_rfl) ?_
    rw [QG_b, if_pos rfl]
    refine Qld vI rfl (fun w' hw => hc w' (hC w' hw) 2 (.int .i64 x.call) rfl) ?_
    rw [QG_b, if_pos rfl]
    refine Qfo (show fieldOff Try.prog tRc 2 = some 2 by kernel_rfl) ?_
    rw [QG_b, if_pos rfl]
    refine Qld vI rfl (hcb 2 (.int .i64 r.call) rfl) ?_
    try simp only [↓VG_u, ↓UG_u, ↓MG_u, ↓NG_u, ↓PG_u, ↓BG_u, ↓CG_u, ↓IG_u, ↓VGtt, ↓VGtf, ↓VGft, ↓VGff, ↓UGtt, ↓UGtf, ↓UGft, ↓UGff, ↓MGtt, ↓MGtf, ↓MGft, ↓MGff, ↓NGtt, ↓NGtf, ↓NGft, ↓NGff, ↓PGtt, ↓PGtf, ↓PGft, ↓PGff, ↓BGtt, ↓BGtf, ↓BGft, ↓BGff, ↓CGtt, ↓CGtf, ↓CGft, ↓CGff, ↓IGtt, ↓IGtf, ↓IGft, ↓IGff, ↓PKt, ↓PKf, ↓CDt, ↓CDf, ↓NOTt, ↓NOTf, ↓NK_ptr]
    rw [BK_geq]
    try simp only [↓VG_u, ↓UG_u, ↓MG_u, ↓NG_u, ↓PG_u, ↓BG_u, ↓CG_u, ↓IG_u, ↓VGtt, ↓VGtf, ↓VGft, ↓VGff, ↓UGtt, ↓UGtf, ↓UGft, ↓UGff, ↓MGtt, ↓MGtf, ↓MGft, ↓MGff, ↓NGtt, ↓NGtf, ↓NGft, ↓NGff, ↓PGtt, ↓PGtf, ↓PGft, ↓PGff, ↓BGtt, ↓BGtf, ↓BGft, ↓BGff, ↓CGtt, ↓CGtf, ↓CGft, ↓CGff, ↓IGtt, ↓IGtf, ↓IGft, ↓IGff, ↓PKt, ↓PKf, ↓CDt, ↓CDf, ↓NOTt, ↓NOTf, ↓NK_ptr]
    refine hk _ wd (by rw [decide_eq_true hf]; rfl) (fun j hj => ?_) hmd
    repeat rw [up_lo hj (by decide)]
  · rw [show (x.rank == r.rank) = false by simpa using hf]
    repeat (first | rw [QG_b, if_neg (by decide)] | rw [QG_u])
    try simp only [↓VG_u, ↓UG_u, ↓MG_u, ↓NG_u, ↓PG_u, ↓BG_u, ↓CG_u, ↓IG_u, ↓VGtt, ↓VGtf, ↓VGft, ↓VGff, ↓UGtt, ↓UGtf, ↓UGft, ↓UGff, ↓MGtt, ↓MGtf, ↓MGft, ↓MGff, ↓NGtt, ↓NGtf, ↓NGft, ↓NGff, ↓PGtt, ↓PGtf, ↓PGft, ↓PGff, ↓BGtt, ↓BGtf, ↓BGft, ↓BGff, ↓CGtt, ↓CGtf, ↓CGft, ↓CGff, ↓IGtt, ↓IGtf, ↓IGft, ↓IGff, ↓PKt, ↓PKf, ↓CDt, ↓CDf, ↓NOTt, ↓NOTf, ↓NK_ptr]
    refine hk _ wd (by rw [decide_eq_false hf]; rfl) (fun j hj => ?_) hmd
    repeat rw [up_lo hj (by decide)]
theorem rpost_R7 {K : Exit → Sl → World → Prop} {ρ : Sl} (h : EAt w d A v) (hA : A.length ≤ 1000000) (hb : w.heap[b3]? = some (.cells r.enc.toArray tRc (0, 0))) (hnb : ¬ EF d v b3)
    (e0 : ρ 0 = .pointer (some ⟨d, 0, none⟩)) (e3 : ρ 3 = .pointer (some ⟨b3, 0, none⟩))
    (hk : ∀ (ρ' : Sl) (w' : World) (v' : Value), EAt w' d (A ++ [r.new]) v' → EFr d w v w' v' → K .normal ρ' w') : W fn_ Try.prog 99 dispatcherref14_Posted_Post_R7 K ρ w := by
  have hmd : Mod none_ w { w with drawn := w.drawn + 1 } := (Mod.refl _ w).drawn _
  refine dispatcherref14_Posted_Post_R7_held (D := []) (fun w' => w'.heap[b3]? = some (.cells r.enc.toArray tRc (0, 0))) (hmd.blk hb id) ?_
  have hbd := hmd.blk hb id
  have hd := h.calm hmd
  generalize ({ w with drawn := w.drawn + 1 } : World) = wd at *
  unfold dispatcherref14_Posted_Post_R7_H
  rw [e0, e3]
  have hcb : ∀ (k : Nat) (u : Value), r.enc.toArray[k]? = some u → ∀ w' : World, w'.heap[b3]? = some (.cells r.enc.toArray tRc (0, 0)) → w'.cell? (Addr.add ⟨b3, 0, none⟩ k) = some u := fun k u hu w' hw => by
    rw [add_pl, Nat.zero_add, cell_blk hw]; exact hu
  refine HN_ptr ?_
  refine HV_of (fun w _ => run_fo (show fieldOff Try.prog tEd 0 = some 0 by kernel_rfl) _ w) ?_
  refine HV_of (fun w _ => run_fo (show fieldOff Try.prog tRc 0 = some 0 by kernel_rfl) _ w) ?_
  refine HV_of (v := strV r.key) (fun w hw => run_ld1 vS rfl (hcb 0 _ rfl w hw)) ?_
  refine HV_of (fun w _ => run_fo (show fieldOff Try.prog tRc 1 = some 1 by kernel_rfl) _ w) ?_
  refine HV_of (v := .int .i64 r.rank) (fun w hw => run_ld1 vI rfl (hcb 1 _ rfl w hw)) ?_
  refine HV_of (fun w _ => run_fo (show fieldOff Try.prog tRc 2 = some 2 by kernel_rfl) _ w) ?_
  refine HV_of (v := .int .i64 r.call) (fun w hw => run_ld1 vI rfl (hcb 2 _ rfl w hw)) ?_
  refine HV_of (fun w _ => run_fo (show fieldOff Try.prog tRc 3 = some 3 by kernel_rfl) _ w) ?_
  refine HV_of (v := .int .i64 r.peer) (fun w hw => run_ld1 vI rfl (hcb 3 _ rfl w hw)) ?_
  refine HV_of (fun w _ => run_fo (show fieldOff Try.prog tRc 4 = some 4 by kernel_rfl) _ w) ?_
  refine HV_of (v := .int .i64 r.tag) (fun w hw => run_ld1 vI rfl (hcb 4 _ rfl w hw)) ?_
  refine HV_of (fun w _ => run_fo (show fieldOff Try.prog tRc 5 = some 5 by kernel_rfl) _ w) ?_
  refine HV_of (v := .int .i64 r.req) (fun w hw => run_ld1 vI rfl (hcb 5 _ rfl w hw)) ?_
  refine HV_of (v := .agg r.new.enc.toArray) (fun w _ => by kernel_rfl) ?_
  have hvb : ∀ g, sb v g → ¬ g = b3 := fun g z y => hnb (.inr (y ▸ z))
  -- what comes behind both
  have tail : ∀ (w1 : World) (x : Value) (K2 : Value → World → Prop), Mod none_ wd w1 → reads w1 9 x 1 r.new.enc → (∀ (v' : Value) (w2 : World), w2.heap[b3]? = some (.cells r.enc.toArray tRc (0, 0)) → w2.ownsRow 0 tRc 9 v' (A ++ [r.new]).length ((A ++ [r.new]).flatMap Rc.enc) → w2.heap[d]? = some (.cells #[v] tEd (0, 0)) → ¬ sb v' d → (∀ g, sb v' g → sb v g ∨ w.heap.size ≤ g) → Mod (fun b => sb v b) w w2 → K2 v' w2) → IK Try.prog .append #[tRcS, tRcS] tRcS [false, false] [v, x] w1 K2 := by
    intro w1 x K2 hm1 hrd hK2
    have h1 := hd.calm hm1
    have hs : w.heap.size ≤ w1.heap.size := Nat.le_trans hmd.size hm1.size
    have hvd : ¬ sb v d := fun z => owns_ne_blk h1.own h1.blk (by decide) z
    refine ap_any eRcS h1.own hrd (fun u hu => Rc.enc_mem [r.new] u (by simpa using hu)) (by unfold maxLen; omega) (by omega) (Nat.zero_le _) fun v' w2 ho2 hm2 hv2 => ?_
    have hm2' : Mod (fun b => sb v b) w1 w2 := hm2.mono fun b _ z => z.symm
    have hnv : ∀ g, sb v' g → sb v g ∨ w.heap.size ≤ g := fun g z => by
      unfold sb at z ⊢
      rcases hv2 with e | e
      · exact .inl (e ▸ z)
      · rw [e] at z; cases z; exact .inr hs
    refine hK2 v' w2 (hm2'.blk (hm1.blk hbd id) fun z => hvb b3 z rfl) ?_ (hm2'.blk h1.blk hvd) (fun z => ?_) hnv ((Mod.mono (hmd.trans hm1) fun b _ z => z.elim).then hm2' fun i hi z => z)
    · rw [List.length_append, List.flatMap_append]
      simpa using ho2
    · unfold sb at z
      rcases hv2 with e | e
      · exact hvd (by unfold sb; rw [← e]; exact z)
      · rw [e] at z; cases z
        have := X.blk_lt h1.blk
        omega
  have last : ∀ (w2 : World) (v' : Value) (K2 : World → Prop), w2.heap[b3]? = some (.cells r.enc.toArray tRc (0, 0)) → w2.ownsRow 0 tRc 9 v' (A ++ [r.new]).length ((A ++ [r.new]).flatMap Rc.enc) → w2.heap[d]? = some (.cells #[v] tEd (0, 0)) → ¬ sb v' d → (∀ g, sb v' g → sb v g ∨ w.heap.size ≤ g) → Mod (fun b => sb v b) w w2 → (∀ w3, w3.heap[b3]? = some (.cells r.enc.toArray tRc (0, 0)) → EAt w3 d (A ++ [r.new]) v' → EFr d w v w3 v' → K2 w3) → UK Try.prog (Instr.storeAt tRcS (.pointer (some (Addr.add ⟨d, 0, none⟩ 0))) v') w2 fun _ w3 => K2 w3 := by
    intro w2 v' K2 hb2 ho2 hd2 hnd hnv hm2 hK2
    rw [add_pl]
    refine stC rfl (by kernel_rfl) (by rcases ho2.2 with ⟨rfl, _⟩ | ⟨g, cap, cur, rfl, _⟩ <;> rfl) hd2 (by simp) fun w3 hb3 hm3 hz3 => ?_
    refine hK2 w3 (hm3.blk hb2 fun z => hnb (.inl z)) ⟨by simpa using hb3, owns_mod ho2 hm3 fun k z y => hnd (y ▸ z)⟩ ⟨(hm2.mono fun b _ z => .inr z).then hm3 fun i hi z => .inl z, fun b z => ?_⟩
    rcases z with z | z
    · exact .inl (.inl z)
    · rcases hnv b z with y | y
      · exact .inl (.inr y)
      · exact .inr y
  refine ⟨?_, ?_⟩
  · rw [add_pl]
    refine ld1 vRcS rfl (v := v) (by rw [cell_blk hd.blk]; rfl) ?_
    refine ⟨hbd, ?_⟩
    refine bs_k (cs := r.new.enc.toArray) (by kernel_rfl) fun w1 hb1 hm1 hz1 => ?_
    refine ⟨hm1.blk hbd id, ?_⟩
    refine tail w1 _ _ hm1 (reads_blk (size := 9) (n := 1) hb1 rfl) fun v' w2 hb2 ho2 hd2 hnd hnv hm2 => ?_
    refine ⟨hb2, ?_⟩
    refine HN_ptr ?_
    refine HV_of (fun w _ => run_fo (show fieldOff Try.prog tEd 0 = some 0 by kernel_rfl) _ w) ?_
    refine last w2 v' _ hb2 ho2 hd2 hnd hnv hm2 fun w3 hb3 h3 f3 => ?_
    exact ⟨hb3, hk _ w3 v' h3 f3⟩
  · refine bs_k (cs := r.new.enc.toArray) (by kernel_rfl) fun w1 hb1 hm1 hz1 => ?_
    refine ⟨hm1.blk hbd id, ?_⟩
    rw [add_pl]
    refine ld1 vRcS rfl (v := v) (by rw [cell_blk (hd.calm hm1).blk]; rfl) ?_
    refine ⟨hm1.blk hbd id, ?_⟩
    refine tail w1 _ _ hm1 (reads_blk (size := 9) (n := 1) hb1 rfl) fun v' w2 hb2 ho2 hd2 hnd hnv hm2 => ?_
    refine ⟨hb2, ?_⟩
    refine HN_ptr ?_
    refine HV_of (fun w _ => run_fo (show fieldOff Try.prog tEd 0 = some 0 by kernel_rfl) _ w) ?_
    refine last w2 v' _ hb2 ho2 hd2 hnd hnv hm2 fun w3 hb3 h3 f3 => ?_
    exact ⟨hb3, hk _ w3 v' h3 f3⟩
end
end Go.Proofs.Ytmnkedgmpbcicaa.Que
set_option linter.unusedVariables false
set_option linter.unusedSimpArgs false
set_option maxRecDepth 8000
namespace Go.Proofs.Ytmnkedgmpbcicaa.Que
open Go Go.X Go.RowKit Go.Proofs.Ytmnkedgmpbcicaa.XF Go.Proofs.Ytmnkedgmpbcicaa.XG Go.Proofs.Ytmnkedgmpbcicaa.XK
section
variable {w : World} {d : Nat} {A : List Rc} {v : Value}
theorem RPost_ok (h : EAt w d A v) (hA : A.length ≤ 1000000) (r : Rc) : Rt Try.prog 53 #[.pointer (some ⟨d, 0, none⟩), .agg r.enc.toArray] w fun u w' => u = .int .i64 (postA A r).2 ∧ ∃ v', EAt w' d (postA A r).1 v' ∧ EFr d w v w' v' := by
  refine dispatcherref14_Posted_Post_calls ?_
  unfold dispatcherref14_Posted_Post_F
  refine box_k (cs := r.enc.toArray) rfl fun w1 hb1 hm1 hz1 => ?_
  have h1 := h.calm hm1
  have g1 : FO Try.prog w1 tRc 1 1 ⟨w.heap.size, 0, none⟩ 3 (.int .i64 r.rank) := FO.blk hb1 (by kernel_rfl) vI rfl rfl
  have g2 : FO Try.prog w1 tRc 2 2 ⟨w.heap.size, 0, none⟩ 3 (.int .i64 r.call) := FO.blk hb1 (by kernel_rfl) vI rfl rfl
  have g3 : FO Try.prog w1 tRc 3 3 ⟨w.heap.size, 0, none⟩ 3 (.int .i64 r.peer) := FO.blk hb1 (by kernel_rfl) vI rfl rfl
  have g4 : FO Try.prog w1 tRc 4 4 ⟨w.heap.size, 0, none⟩ 3 (.int .i64 r.tag) := FO.blk hb1 (by kernel_rfl) vI rfl rfl
  have g5 : FO Try.prog w1 tRc 5 5 ⟨w.heap.size, 0, none⟩ 3 (.int .i64 r.req) := FO.blk hb1 (by kernel_rfl) vI rfl rfl
  have bad : ∀ ρ0 : Sl, ρ0 43 = .bool true → badF r = true → sx fn_ Try.prog 99 dispatcherref14_Posted_Post_R0 (seqK (sx fn_ Try.prog 99 dispatcherref14_Posted_Post_R1 (retK Try.prog [ResultVar.tmp 4] fun u w' => u = .int .i64 (postA A r).2 ∧ ∃ v', EAt w' d (postA A r).1 v' ∧ EFr d w v w' v')) (retK Try.prog [ResultVar.tmp 4] fun u w' => u = .int .i64 (postA A r).2 ∧ ∃ v', EAt w' d (postA A r).1 v' ∧ EFr d w v w' v')) ρ0 w1 := by
    intro ρ0 q43 hbad
    rw [dispatcherref14_Posted_Post_R0_eq]; unfold dispatcherref14_Posted_Post_R0_F
    rw [q43]
    refine condT ?_
    show (Value.int .i64 2) = _ ∧ _
    unfold postA
    rw [hbad]
    exact ⟨rfl, v, h1, EFr.calm hm1⟩
  rw [g1.e]
  try simp only [↓VG_u, ↓UG_u, ↓MG_u, ↓NG_u, ↓PG_u, ↓BG_u, ↓CG_u, ↓IG_u, ↓VGtt, ↓VGtf, ↓VGft, ↓VGff, ↓UGtt, ↓UGtf, ↓UGft, ↓UGff, ↓MGtt, ↓MGtf, ↓MGft, ↓MGff, ↓NGtt, ↓NGtf, ↓NGft, ↓NGff, ↓PGtt, ↓PGtf, ↓PGft, ↓PGff, ↓BGtt, ↓BGtf, ↓BGft, ↓BGff, ↓CGtt, ↓CGtf, ↓CGft, ↓CGff, ↓IGtt, ↓IGtf, ↓IGft, ↓IGff, ↓PKt, ↓PKf, ↓CDt, ↓CDf, ↓NOTt, ↓NOTf, ↓NK_ptr]
  by_cases c0 : r.rank < 0
  · rw [LTt c0]
    try simp only [↓VG_u, ↓UG_u, ↓MG_u, ↓NG_u, ↓PG_u, ↓BG_u, ↓CG_u, ↓IG_u, ↓VGtt, ↓VGtf, ↓VGft, ↓VGff, ↓UGtt, ↓UGtf, ↓UGft, ↓UGff, ↓MGtt, ↓MGtf, ↓MGft, ↓MGff, ↓NGtt, ↓NGtf, ↓NGft, ↓NGff, ↓PGtt, ↓PGtf, ↓PGft, ↓PGff, ↓BGtt, ↓BGtf, ↓BGft, ↓BGff, ↓CGtt, ↓CGtf, ↓CGft, ↓CGff, ↓IGtt, ↓IGtf, ↓IGft, ↓IGff, ↓PKt, ↓PKf, ↓CDt, ↓CDf, ↓NOTt, ↓NOTf, ↓NK_ptr]
    exact bad _ rfl (by unfold badF; rw [decide_eq_true c0]; simp)
  rw [LTf (by omega)]
  try simp only [↓VG_u, ↓UG_u, ↓MG_u, ↓NG_u, ↓PG_u, ↓BG_u, ↓CG_u, ↓IG_u, ↓VGtt, ↓VGtf, ↓VGft, ↓VGff, ↓UGtt, ↓UGtf, ↓UGft, ↓UGff, ↓MGtt, ↓MGtf, ↓MGft, ↓MGff, ↓NGtt, ↓NGtf, ↓NGft, ↓NGff, ↓PGtt, ↓PGtf, ↓PGft, ↓PGff, ↓BGtt, ↓BGtf, ↓BGft, ↓BGff, ↓CGtt, ↓CGtf, ↓CGft, ↓CGff, ↓IGtt, ↓IGtf, ↓IGft, ↓IGff, ↓PKt, ↓PKf, ↓CDt, ↓CDf, ↓NOTt, ↓NOTf, ↓NK_ptr]
  rw [g1.e]
  try simp only [↓VG_u, ↓UG_u, ↓MG_u, ↓NG_u, ↓PG_u, ↓BG_u, ↓CG_u, ↓IG_u, ↓VGtt, ↓VGtf, ↓VGft, ↓VGff, ↓UGtt, ↓UGtf, ↓UGft, ↓UGff, ↓MGtt, ↓MGtf, ↓MGft, ↓MGff, ↓NGtt, ↓NGtf, ↓NGft, ↓NGff, ↓PGtt, ↓PGtf, ↓PGft, ↓PGff, ↓BGtt, ↓BGtf, ↓BGft, ↓BGff, ↓CGtt, ↓CGtf, ↓CGft, ↓CGff, ↓IGtt, ↓IGtf, ↓IGft, ↓IGff, ↓PKt, ↓PKf, ↓CDt, ↓CDf, ↓NOTt, ↓NOTf, ↓NK_ptr]
  by_cases c1 : 63 < r.rank
  · rw [GTt c1]
    try simp only [↓VG_u, ↓UG_u, ↓MG_u, ↓NG_u, ↓PG_u, ↓BG_u, ↓CG_u, ↓IG_u, ↓VGtt, ↓VGtf, ↓VGft, ↓VGff, ↓UGtt, ↓UGtf, ↓UGft, ↓UGff, ↓MGtt, ↓MGtf, ↓MGft, ↓MGff, ↓NGtt, ↓NGtf, ↓NGft, ↓NGff, ↓PGtt, ↓PGtf, ↓PGft, ↓PGff, ↓BGtt, ↓BGtf, ↓BGft, ↓BGff, ↓CGtt, ↓CGtf, ↓CGft, ↓CGff, ↓IGtt, ↓IGtf, ↓IGft, ↓IGff, ↓PKt, ↓PKf, ↓CDt, ↓CDf, ↓NOTt, ↓NOTf, ↓NK_ptr]
    exact bad _ rfl (by unfold badF; rw [decide_eq_true c1]; simp)
  rw [GTf (by omega)]
  try simp only [↓VG_u, ↓UG_u, ↓MG_u, ↓NG_u, ↓PG_u, ↓BG_u, ↓CG_u, ↓IG_u, ↓VGtt, ↓VGtf, ↓VGft, ↓VGff, ↓UGtt, ↓UGtf, ↓UGft, ↓UGff, ↓MGtt, ↓MGtf, ↓MGft, ↓MGff, ↓NGtt, ↓NGtf, ↓NGft, ↓NGff, ↓PGtt, ↓PGtf, ↓PGft, ↓PGff, ↓BGtt, ↓BGtf, ↓BGft, ↓BGff, ↓CGtt, ↓CGtf, ↓CGft, ↓CGff, ↓IGtt, ↓IGtf, ↓IGft, ↓IGff, ↓PKt, ↓PKf, ↓CDt, ↓CDf, ↓NOTt, ↓NOTf, ↓NK_ptr]
  rw [g3.e]
  try simp only [↓VG_u, ↓UG_u, ↓MG_u, ↓NG_u, ↓PG_u, ↓BG_u, ↓CG_u, ↓IG_u, ↓VGtt, ↓VGtf, ↓VGft, ↓VGff, ↓UGtt, ↓UGtf, ↓UGft, ↓UGff, ↓MGtt, ↓MGtf, ↓MGft, ↓MGff, ↓NGtt, ↓NGtf, ↓NGft, ↓NGff, ↓PGtt, ↓PGtf, ↓PGft, ↓PGff, ↓BGtt, ↓BGtf, ↓BGft, ↓BGff, ↓CGtt, ↓CGtf, ↓CGft, ↓CGff, ↓IGtt, ↓IGtf, ↓IGft, ↓IGff, ↓PKt, ↓PKf, ↓CDt, ↓CDf, ↓NOTt, ↓NOTf, ↓NK_ptr]
  by_cases c2 : r.peer < -1
  · rw [LTt c2]
    try simp only [↓VG_u, ↓UG_u, ↓MG_u, ↓NG_u, ↓PG_u, ↓BG_u, ↓CG_u, ↓IG_u, ↓VGtt, ↓VGtf, ↓VGft, ↓VGff, ↓UGtt, ↓UGtf, ↓UGft, ↓UGff, ↓MGtt, ↓MGtf, ↓MGft, ↓MGff, ↓NGtt, ↓NGtf, ↓NGft, ↓NGff, ↓PGtt, ↓PGtf, ↓PGft, ↓PGff, ↓BGtt, ↓BGtf, ↓BGft, ↓BGff, ↓CGtt, ↓CGtf, ↓CGft, ↓CGff, ↓IGtt, ↓IGtf, ↓IGft, ↓IGff, ↓PKt, ↓PKf, ↓CDt, ↓CDf, ↓NOTt, ↓NOTf, ↓NK_ptr]
    exact bad _ rfl (by unfold badF; rw [decide_eq_true c2]; simp)
  rw [LTf (by omega)]
  try simp only [↓VG_u, ↓UG_u, ↓MG_u, ↓NG_u, ↓PG_u, ↓BG_u, ↓CG_u, ↓IG_u, ↓VGtt, ↓VGtf, ↓VGft, ↓VGff, ↓UGtt, ↓UGtf, ↓UGft, ↓UGff, ↓MGtt, ↓MGtf, ↓MGft, ↓MGff, ↓NGtt, ↓NGtf, ↓NGft, ↓NGff, ↓PGtt, ↓PGtf, ↓PGft, ↓PGff, ↓BGtt, ↓BGtf, ↓BGft, ↓BGff, ↓CGtt, ↓CGtf, ↓CGft, ↓CGff, ↓IGtt, ↓IGtf, ↓IGft, ↓IGff, ↓PKt, ↓PKf, ↓CDt, ↓CDf, ↓NOTt, ↓NOTf, ↓NK_ptr]
  rw [g3.e]
  try simp only [↓VG_u, ↓UG_u, ↓MG_u, ↓NG_u, ↓PG_u, ↓BG_u, ↓CG_u, ↓IG_u, ↓VGtt, ↓VGtf, ↓VGft, ↓VGff, ↓UGtt, ↓UGtf, ↓UGft, ↓UGff, ↓MGtt, ↓MGtf, ↓MGft, ↓MGff, ↓NGtt, ↓NGtf, ↓NGft, ↓NGff, ↓PGtt, ↓PGtf, ↓PGft, ↓PGff, ↓BGtt, ↓BGtf, ↓BGft, ↓BGff, ↓CGtt, ↓CGtf, ↓CGft, ↓CGff, ↓IGtt, ↓IGtf, ↓IGft, ↓IGff, ↓PKt, ↓PKf, ↓CDt, ↓CDf, ↓NOTt, ↓NOTf, ↓NK_ptr]
  by_cases c3 : 63 < r.peer
  · rw [GTt c3]
    try simp only [↓VG_u, ↓UG_u, ↓MG_u, ↓NG_u, ↓PG_u, ↓BG_u, ↓CG_u, ↓IG_u, ↓VGtt, ↓VGtf, ↓VGft, ↓VGff, ↓UGtt, ↓UGtf, ↓UGft, ↓UGff, ↓MGtt, ↓MGtf, ↓MGft, ↓MGff, ↓NGtt, ↓NGtf, ↓NGft, ↓NGff, ↓PGtt, ↓PGtf, ↓PGft, ↓PGff, ↓BGtt, ↓BGtf, ↓BGft, ↓BGff, ↓CGtt, ↓CGtf, ↓CGft, ↓CGff, ↓IGtt, ↓IGtf, ↓IGft, ↓IGff, ↓PKt, ↓PKf, ↓CDt, ↓CDf, ↓NOTt, ↓NOTf, ↓NK_ptr]
    exact bad _ rfl (by unfold badF; rw [decide_eq_true c3]; simp)
  rw [GTf (by omega)]
  try simp only [↓VG_u, ↓UG_u, ↓MG_u, ↓NG_u, ↓PG_u, ↓BG_u, ↓CG_u, ↓IG_u, ↓VGtt, ↓VGtf, ↓VGft, ↓VGff, ↓UGtt, ↓UGtf, ↓UGft, ↓UGff, ↓MGtt, ↓MGtf, ↓MGft, ↓MGff, ↓NGtt, ↓NGtf, ↓NGft, ↓NGff, ↓PGtt, ↓PGtf, ↓PGft, ↓PGff, ↓BGtt, ↓BGtf, ↓BGft, ↓BGff, ↓CGtt, ↓CGtf, ↓CGft, ↓CGff, ↓IGtt, ↓IGtf, ↓IGft, ↓IGff, ↓PKt, ↓PKf, ↓CDt, ↓CDf, ↓NOTt, ↓NOTf, ↓NK_ptr]
  rw [g4.e]
  try simp only [↓VG_u, ↓UG_u, ↓MG_u, ↓NG_u, ↓PG_u, ↓BG_u, ↓CG_u, ↓IG_u, ↓VGtt, ↓VGtf, ↓VGft, ↓VGff, ↓UGtt, ↓UGtf, ↓UGft, ↓UGff, ↓MGtt, ↓MGtf, ↓MGft, ↓MGff, ↓NGtt, ↓NGtf, ↓NGft, ↓NGff, ↓PGtt, ↓PGtf, ↓PGft, ↓PGff, ↓BGtt, ↓BGtf, ↓BGft, ↓BGff, ↓CGtt, ↓CGtf, ↓CGft, ↓CGff, ↓IGtt, ↓IGtf, ↓IGft, ↓IGff, ↓PKt, ↓PKf, ↓CDt, ↓CDf, ↓NOTt, ↓NOTf, ↓NK_ptr]
  by_cases c4 : r.tag < -1
  · rw [LTt c4]
    try simp only [↓VG_u, ↓UG_u, ↓MG_u, ↓NG_u, ↓PG_u, ↓BG_u, ↓CG_u, ↓IG_u, ↓VGtt, ↓VGtf, ↓VGft, ↓VGff, ↓UGtt, ↓UGtf, ↓UGft, ↓UGff, ↓MGtt, ↓MGtf, ↓MGft, ↓MGff, ↓NGtt, ↓NGtf, ↓NGft, ↓NGff, ↓PGtt, ↓PGtf, ↓PGft, ↓PGff, ↓BGtt, ↓BGtf, ↓BGft, ↓BGff, ↓CGtt, ↓CGtf, ↓CGft, ↓CGff, ↓IGtt, ↓IGtf, ↓IGft, ↓IGff, ↓PKt, ↓PKf, ↓CDt, ↓CDf, ↓NOTt, ↓NOTf, ↓NK_ptr]
    exact bad _ rfl (by unfold badF; rw [decide_eq_true c4]; simp)
  rw [LTf (by omega)]
  try simp only [↓VG_u, ↓UG_u, ↓MG_u, ↓NG_u, ↓PG_u, ↓BG_u, ↓CG_u, ↓IG_u, ↓VGtt, ↓VGtf, ↓VGft, ↓VGff, ↓UGtt, ↓UGtf, ↓UGft, ↓UGff, ↓MGtt, ↓MGtf, ↓MGft, ↓MGff, ↓NGtt, ↓NGtf, ↓NGft, ↓NGff, ↓PGtt, ↓PGtf, ↓PGft, ↓PGff, ↓BGtt, ↓BGtf, ↓BGft, ↓BGff, ↓CGtt, ↓CGtf, ↓CGft, ↓CGff, ↓IGtt, ↓IGtf, ↓IGft, ↓IGff, ↓PKt, ↓PKf, ↓CDt, ↓CDf, ↓NOTt, ↓NOTf, ↓NK_ptr]
  rw [g4.e]
  try simp only [↓VG_u, ↓UG_u, ↓MG_u, ↓NG_u, ↓PG_u, ↓BG_u, ↓CG_u, ↓IG_u, ↓VGtt, ↓VGtf, ↓VGft, ↓VGff, ↓UGtt, ↓UGtf, ↓UGft, ↓UGff, ↓MGtt, ↓MGtf, ↓MGft, ↓MGff, ↓NGtt, ↓NGtf, ↓NGft, ↓NGff, ↓PGtt, ↓PGtf, ↓PGft, ↓PGff, ↓BGtt, ↓BGtf, ↓BGft, ↓BGff, ↓CGtt, ↓CGtf, ↓CGft, ↓CGff, ↓IGtt, ↓IGtf, ↓IGft, ↓IGff, ↓PKt, ↓PKf, ↓CDt, ↓CDf, ↓NOTt, ↓NOTf, ↓NK_ptr]
  by_cases c5 : 32767 < r.tag
  · rw [GTt c5]
    try simp only [↓VG_u, ↓UG_u, ↓MG_u, ↓NG_u, ↓PG_u, ↓BG_u, ↓CG_u, ↓IG_u, ↓VGtt, ↓VGtf, ↓VGft, ↓VGff, ↓UGtt, ↓UGtf, ↓UGft, ↓UGff, ↓MGtt, ↓MGtf, ↓MGft, ↓MGff, ↓NGtt, ↓NGtf, ↓NGft, ↓NGff, ↓PGtt, ↓PGtf, ↓PGft, ↓PGff, ↓BGtt, ↓BGtf, ↓BGft, ↓BGff, ↓CGtt, ↓CGtf, ↓CGft, ↓CGff, ↓IGtt, ↓IGtf, ↓IGft, ↓IGff, ↓PKt, ↓PKf, ↓CDt, ↓CDf, ↓NOTt, ↓NOTf, ↓NK_ptr]
    exact bad _ rfl (by unfold badF; rw [decide_eq_true c5]; simp)
  rw [GTf (by omega)]
  try simp only [↓VG_u, ↓UG_u, ↓MG_u, ↓NG_u, ↓PG_u, ↓BG_u, ↓CG_u, ↓IG_u, ↓VGtt, ↓VGtf, ↓VGft, ↓VGff, ↓UGtt, ↓UGtf, ↓UGft, ↓UGff, ↓MGtt, ↓MGtf, ↓MGft, ↓MGff, ↓NGtt, ↓NGtf, ↓NGft, ↓NGff, ↓PGtt, ↓PGtf, ↓PGft, ↓PGff, ↓BGtt, ↓BGtf, ↓BGft, ↓BGff, ↓CGtt, ↓CGtf, ↓CGft, ↓CGff, ↓IGtt, ↓IGtf, ↓IGft, ↓IGff, ↓PKt, ↓PKf, ↓CDt, ↓CDf, ↓NOTt, ↓NOTf, ↓NK_ptr]
  rw [g5.e]
  try simp only [↓VG_u, ↓UG_u, ↓MG_u, ↓NG_u, ↓PG_u, ↓BG_u, ↓CG_u, ↓IG_u, ↓VGtt, ↓VGtf, ↓VGft, ↓VGff, ↓UGtt, ↓UGtf, ↓UGft, ↓UGff, ↓MGtt, ↓MGtf, ↓MGft, ↓MGff, ↓NGtt, ↓NGtf, ↓NGft, ↓NGff, ↓PGtt, ↓PGtf, ↓PGft, ↓PGff, ↓BGtt, ↓BGtf, ↓BGft, ↓BGff, ↓CGtt, ↓CGtf, ↓CGft, ↓CGff, ↓IGtt, ↓IGtf, ↓IGft, ↓IGff, ↓PKt, ↓PKf, ↓CDt, ↓CDf, ↓NOTt, ↓NOTf, ↓NK_ptr]
  by_cases c6 : r.req < -1
  · rw [LTt c6]
    try simp only [↓VG_u, ↓UG_u, ↓MG_u, ↓NG_u, ↓PG_u, ↓BG_u, ↓CG_u, ↓IG_u, ↓VGtt, ↓VGtf, ↓VGft, ↓VGff, ↓UGtt, ↓UGtf, ↓UGft, ↓UGff, ↓MGtt, ↓MGtf, ↓MGft, ↓MGff, ↓NGtt, ↓NGtf, ↓NGft, ↓NGff, ↓PGtt, ↓PGtf, ↓PGft, ↓PGff, ↓BGtt, ↓BGtf, ↓BGft, ↓BGff, ↓CGtt, ↓CGtf, ↓CGft, ↓CGff, ↓IGtt, ↓IGtf, ↓IGft, ↓IGff, ↓PKt, ↓PKf, ↓CDt, ↓CDf, ↓NOTt, ↓NOTf, ↓NK_ptr]
    exact bad _ rfl (by unfold badF; rw [decide_eq_true c6]; simp)
  rw [LTf (by omega)]
  try simp only [↓VG_u, ↓UG_u, ↓MG_u, ↓NG_u, ↓PG_u, ↓BG_u, ↓CG_u, ↓IG_u, ↓VGtt, ↓VGtf, ↓VGft, ↓VGff, ↓UGtt, ↓UGtf, ↓UGft, ↓UGff, ↓MGtt, ↓MGtf, ↓MGft, ↓MGff, ↓NGtt, ↓NGtf, ↓NGft, ↓NGff, ↓PGtt, ↓PGtf, ↓PGft, ↓PGff, ↓BGtt, ↓BGtf, ↓BGft, ↓BGff, ↓CGtt, ↓CGtf, ↓CGft, ↓CGff, ↓IGtt, ↓IGtf, ↓IGft, ↓IGff, ↓PKt, ↓PKf, ↓CDt, ↓CDf, ↓NOTt, ↓NOTf, ↓NK_ptr]
  rw [g2.e]
  try simp only [↓VG_u, ↓UG_u, ↓MG_u, ↓NG_u, ↓PG_u, ↓BG_u, ↓CG_u, ↓IG_u, ↓VGtt, ↓VGtf, ↓VGft, ↓VGff, ↓UGtt, ↓UGtf, ↓UGft, ↓UGff, ↓MGtt, ↓MGtf, ↓MGft, ↓MGff, ↓NGtt, ↓NGtf, ↓NGft, ↓NGff, ↓PGtt, ↓PGtf, ↓PGft, ↓PGff, ↓BGtt, ↓BGtf, ↓BGft, ↓BGff, ↓CGtt, ↓CGtf, ↓CGft, ↓CGff, ↓IGtt, ↓IGtf, ↓IGft, ↓IGff, ↓PKt, ↓PKf, ↓CDt, ↓CDf, ↓NOTt, ↓NOTf, ↓NK_ptr]
  by_cases c7 : r.call < 0
  · rw [LTt c7]
    try simp only [↓VG_u, ↓UG_u, ↓MG_u, ↓NG_u, ↓PG_u, ↓BG_u, ↓CG_u, ↓IG_u, ↓VGtt, ↓VGtf, ↓VGft, ↓VGff, ↓UGtt, ↓UGtf, ↓UGft, ↓UGff, ↓MGtt, ↓MGtf, ↓MGft, ↓MGff, ↓NGtt, ↓NGtf, ↓NGft, ↓NGff, ↓PGtt, ↓PGtf, ↓PGft, ↓PGff, ↓BGtt, ↓BGtf, ↓BGft, ↓BGff, ↓CGtt, ↓CGtf, ↓CGft, ↓CGff, ↓IGtt, ↓IGtf, ↓IGft, ↓IGff, ↓PKt, ↓PKf, ↓CDt, ↓CDf, ↓NOTt, ↓NOTf, ↓NK_ptr]
    exact bad _ rfl (by unfold badF; rw [decide_eq_true c7]; simp)
  rw [LTf (by omega)]
  try simp only [↓VG_u, ↓UG_u, ↓MG_u, ↓NG_u, ↓PG_u, ↓BG_u, ↓CG_u, ↓IG_u, ↓VGtt, ↓VGtf, ↓VGft, ↓VGff, ↓UGtt, ↓UGtf, ↓UGft, ↓UGff, ↓MGtt, ↓MGtf, ↓MGft, ↓MGff, ↓NGtt, ↓NGtf, ↓NGft, ↓NGff, ↓PGtt, ↓PGtf, ↓PGft, ↓PGff, ↓BGtt, ↓BGtf, ↓BGft, ↓BGff, ↓CGtt, ↓CGtf, ↓CGft, ↓CGff, ↓IGtt, ↓IGtf, ↓IGft, ↓IGff, ↓PKt, ↓PKf, ↓CDt, ↓CDf, ↓NOTt, ↓NOTf, ↓NK_ptr]
  have hgood : badF r = false := by
    unfold badF
    rw [decide_eq_false c0, decide_eq_false c1, decide_eq_false c2, decide_eq_false c3, decide_eq_false c4, decide_eq_false c5, decide_eq_false c6, decide_eq_false c7]
    rfl
  rw [dispatcherref14_Posted_Post_R0_eq]; unfold dispatcherref14_Posted_Post_R0_F
  refine condF ?_
  rw [sq_n, dispatcherref14_Posted_Post_R1_eq]; unfold dispatcherref14_Posted_Post_R1_F
  have hnb : ¬ EF d v w.heap.size := fun z => by have := h.old _ z; omega
  obtain ⟨A0, cc, es, _⟩ := reads_cap (e_row h1)
  refine W_loop dispatcherref14_Posted_Post_L2_ok (fun ρ w' => ∃ n : Nat, n ≤ A.length ∧ ρ 5 = .int .i64 n ∧ ρ 0 = .pointer (some ⟨d, 0, none⟩) ∧ ρ 3 = .pointer (some ⟨w.heap.size, 0, none⟩) ∧ (∀ x ∈ A.take n, (decide (x.rank = r.rank) && decide (r.call ≤ x.call)) = false) ∧ Mod none_ w1 w') (fun ρ _ => A.length - (intOf (ρ 5)).toNat)
    ⟨0, Nat.zero_le _, rfl, rfl, rfl, by simp, Mod.refl _ _⟩ ?_
  rintro ρ w2 ⟨n, hn, e5, e0, e3, hno, hm2⟩
  have h2 := h1.calm hm2
  have hb2 := hm2.blk hb1 id
  rw [dispatcherref14_Posted_Post_L2_eq]; unfold dispatcherref14_Posted_Post_L2_F
  rw [e5, e0, NK_ptr, (f_A h2).e, es, len_sl vRcS, ← es, BK_lss]
  by_cases hlt : n < A.length
  · rw [decide_eq_true (by omega)]
    refine condT ?_
    have hx : A[n]? = some A[n] := List.getElem?_eq_getElem hlt
    have hmem : A[n] ∈ A := List.getElem_mem hlt
    have etk : A.take (n + 1) = A.take n ++ [A[n]] := by rw [List.take_add_one, hx]; rfl
    generalize A[n] = x at *
    refine rpost_R4 (r := r) (i := n) h2 hb2 hx (by first | exact e0 | rfl) (by first | exact e3 | rfl) (by first | exact e5 | rfl) ?_
    intro ρ2 w3 d76 hlo hm3
    rw [sq_n, dispatcherref14_Posted_Post_R5_eq]; unfold dispatcherref14_Posted_Post_R5_F
    rw [d76]
    refine caseC (fun z => ?_) (fun z => ?_)
    · show (Value.int .i64 2) = _ ∧ _
      have hs : sameA A r = true := List.any_eq_true.2 ⟨x, hmem, z⟩
      unfold postA
      rw [hgood, hs]
      exact ⟨rfl, v, h2.calm hm3, EFr.calm ((hm1.trans hm2).trans hm3)⟩
    · have q5 : ρ2 5 = .int .i64 (n : Int) := (hlo 5 (by decide)).trans (by first | exact e5 | rfl)
      rw [bk_n, sq_n, dispatcherref14_Posted_Post_R6_eq]; unfold dispatcherref14_Posted_Post_R6_F
      rw [q5, BK_add, wrap_i (by omega) (by omega)]
      refine ⟨⟨n + 1, hlt, rfl, (hlo 0 (by decide)).trans (by first | exact e0 | rfl), (hlo 3 (by decide)).trans (by first | exact e3 | rfl), fun y hy => ?_, hm2.trans hm3⟩, ?_⟩
      · rw [etk] at hy
        rcases List.mem_append.1 hy with q | q
        · exact hno y q
        · rw [List.mem_singleton.1 q]; exact z
      · simp only [sq_n, sq_x, sq_r, bk_n, bk_r, bk_x, rt_r, rt_n, rs_0, rs_t, pk_1, pk_2, up_at, reduceIte, Nat.reduceEqDiff, intOf]; omega
  · obtain rfl : n = A.length := by omega
    rw [decide_eq_false (by omega)]
    refine condF ?_
    rw [List.take_length] at hno
    rw [sq_x, bk_x, sq_n, dispatcherref14_Posted_Post_R3_eq]; unfold dispatcherref14_Posted_Post_R3_F
    refine rpost_R7 (r := r) h2 hA hb2 hnb (by first | exact e0 | rfl) (by first | exact e3 | rfl) ?_
    intro ρ2 w3 v' h3 f3
    rw [sq_n, dispatcherref14_Posted_Post_R8_eq]; unfold dispatcherref14_Posted_Post_R8_F
    show (Value.int .i64 0) = _ ∧ _
    have hs : sameA A r = false := List.any_eq_false.2 fun y hy => by rw [hno y hy]; decide
    unfold postA
    rw [hgood, hs]
    have s1 := hm1.size
    have s2 := hm2.size
    refine ⟨rfl, v', h3, (Mod.mono (hm1.trans hm2) fun b _ z => z.elim).then f3.mod fun i hi z => z, fun b z => ?_⟩
    rcases f3.f b z with y | y
    · exact .inl y
    · right; omega
end
end Go.Proofs.Ytmnkedgmpbcicaa.Que
set_option linter.unusedVariables false
set_option linter.unusedSimpArgs false
set_option maxRecDepth 8000
namespace Go.X
open Go Go.RowKit
def gotA (rk c f s : Int) (r : Rc) : Rc := if isRC rk c r then r.got f s else r
theorem got_step {A : List Rc} {k : Nat} {x : Rc} (hx : A[k]? = some x) (g : Rc → Rc) : ((A.take k).map g ++ A.drop k).set k (g x) = (A.take (k + 1)).map g ++ A.drop (k + 1) := by
  have hk := (List.getElem?_eq_some_iff.1 hx).1
  have hxe := (List.getElem?_eq_some_iff.1 hx).2
  have hl : ((A.take k).map g).length = k := by rw [List.length_map, List.length_take]; omega
  rw [List.drop_eq_getElem_cons hk, hxe, List.set_append_right _ _ (by omega), hl, Nat.sub_self, List.set_cons_zero, List.take_add_one, hx, Option.toList_some, List.map_append, List.append_assoc]
  rfl
theorem got_at {A : List Rc} {k : Nat} {x : Rc} (hx : A[k]? = some x) (g : Rc → Rc) : ((A.take k).map g ++ A.drop k)[k]? = some x := by
  have hk := (List.getElem?_eq_some_iff.1 hx).1
  have hl : ((A.take k).map g).length = k := by rw [List.length_map, List.length_take]; omega
  rw [List.getElem?_append_right (by omega), hl, Nat.sub_self, List.getElem?_drop]
  exact hx
end Go.X
namespace Go.Proofs.Ytmnkedgmpbcicaa.Que
open Go Go.X Go.RowKit Go.Proofs.Ytmnkedgmpbcicaa.XF Go.Proofs.Ytmnkedgmpbcicaa.XG Go.Proofs.Ytmnkedgmpbcicaa.XK
section
variable {w : World} {d : Nat} {A : List Rc} {v : Value} {rk c f s : Int}
theorem rmatch_R7 {K : Exit → Sl → World → Prop} {ρ : Sl} {k : Nat} {x : Rc} {B : List Rc} (h : EAt w d B v) (hx : B[k]? = some x) (e77 : ρ 77 = .bool true) (e0 : ρ 0 = .pointer (some ⟨d, 0, none⟩)) (e15 : ρ 15 = .int .i64 k) (e4 : ρ 4 = .int .i64 f) (e5 : ρ 5 = .int .i64 s)
    (hk : ∀ (ρ' : Sl) (w' : World), (∀ j, j < 47 → ρ' j = ρ j) → EAt w' d (B.set k (x.got f s)) v → Mod (fun b => sb v b) w w' → K .normal ρ' w') : sx fn_ Try.prog 101 dispatcherref14_Posted_Match_R7 K ρ w := by
  have hkl := (List.getElem?_eq_some_iff.1 hx).1
  obtain ⟨g, cap, ev, _⟩ := owns_some h.own (by omega)
  have hgv : sb v g := by rw [ev]; rfl
  have hvd : ¬ sb v d := fun z => owns_ne_blk h.own h.blk (by decide) z
  have hgd : ¬ d = g := fun z => hvd (z ▸ hgv)
  rw [dispatcherref14_Posted_Match_R7_eq]; unfold dispatcherref14_Posted_Match_R7_F
  rw [e77, e0, e15]
  refine condT ?_
  rw [NK_ptr, (f_A h).e, ev, VK_eq_of (run_ixa vRcS cRc (by omega) (by omega) w), fo (show fieldOff Try.prog tRc 6 = some 6 by kernel_rfl), add_pl, add_pl, show 0 + (k : Int).toNat * (8 + 1) + 6 = k * 9 + 6 by omega]
  have hO := h.own
  rw [ev] at hO
  have s1 : (B.flatMap Rc.enc).set (k * 9 + 6) (.bool true) = (B.set k { x with done := true }).flatMap Rc.enc := fl_set (k := 8 + 1) Rc.enc_len hx (by decide) rfl
  have s2 : ((B.set k { x with done := true }).flatMap Rc.enc).set (k * 9 + 7) (.int .i64 f) = ((B.set k { x with done := true }).set k { x with done := true, frm := f }).flatMap Rc.enc := fl_set (k := 8 + 1) Rc.enc_len (List.getElem?_set_self hkl) (by decide) rfl
  have s3 : ((B.set k { x with done := true, frm := f }).flatMap Rc.enc).set (k * 9 + 8) (.int .i64 s) = ((B.set k { x with done := true, frm := f }).set k (x.got f s)).flatMap Rc.enc := fl_set (k := 8 + 1) Rc.enc_len (List.getElem?_set_self hkl) (by decide) rfl
  rw [List.set_set] at s2 s3
  refine st_row (by kernel_rfl) rfl hO (by omega) fun w1 hO1 hm1 => ?_
  rw [s1] at hO1
  have hd1 := hm1.blk h.blk hgd
  have key : ∀ ρ1 : Sl, ρ1 0 = .pointer (some ⟨d, 0, none⟩) → ρ1 15 = .int .i64 k → ρ1 4 = .int .i64 f → ρ1 5 = .int .i64 s → (∀ j, j < 47 → ρ1 j = ρ j) → W fn_ Try.prog 101 dispatcherref14_Posted_Match_R8 K ρ1 w1 := by
    intro ρ1 q0 q15 q4 q5 hlo
    have hmd : Mod none_ w1 { w1 with drawn := w1.drawn + 1 } := (Mod.refl _ w1).drawn _
    refine dispatcherref14_Posted_Match_R8_held (D := []) (fun w' => w'.heap[d]? = some (.cells #[v] tEd (0, 0))) (hmd.blk hd1 id) ?_
    have hd2 := hmd.blk hd1 id
    have hO2 := owns_mod hO1 hmd fun _ _ => id
    have hm02 : Mod (fun b => sb v b) w { w1 with drawn := w1.drawn + 1 } := (hm1.mono fun b _ z => z ▸ hgv).then hmd fun i hi z => z.elim
    generalize ({ w1 with drawn := w1.drawn + 1 } : World) = wd at *
    unfold dispatcherref14_Posted_Match_R8_H dispatcherref14_Posted_Match_R8_H0
    rw [q0, q15, q4, q5]
    have hld : ∀ w' : World, w'.heap[d]? = some (.cells #[v] tEd (0, 0)) → (Instr.loadAt tRcS (.pointer (some (Addr.add ⟨d, 0, none⟩ 0)))).run Try.prog w' = .ok v w' := fun w' hw => run_ld1 vRcS rfl (by rw [add_pl, cell_blk hw]; rfl)
    refine HN_ptr ?_
    refine HV_of (fun w _ => run_fo (show fieldOff Try.prog tEd 0 = some 0 by kernel_rfl) _ w) ?_
    refine HV_of hld ?_
    refine HN_ptr ?_
    refine HV_of (fun w _ => run_fo (show fieldOff Try.prog tEd 0 = some 0 by kernel_rfl) _ w) ?_
    refine HV_of hld ?_
    have key2 : ∀ ρ2 : Sl, ρ2 88 = v → ρ2 89 = .int .i64 k → ρ2 93 = v → ρ2 94 = .int .i64 k → ρ2 95 = .int .i64 f → ρ2 96 = .int .i64 s → (∀ j, j < 47 → ρ2 j = ρ j) → dispatcherref14_Posted_Match_R8_H1 (fun w' => w'.heap[d]? = some (.cells #[v] tEd (0, 0))) (K .normal) ρ2 wd := by
      intro ρ2 t88 t89 t93 t94 t95 t96 hlo2
      unfold dispatcherref14_Posted_Match_R8_H1
      rw [t88, t89, t93, t94, t95, t96, ev]
      refine HV_of (fun w _ => run_ixa vRcS cRc (by omega) (by omega) w) ?_
      refine HV_of (fun w _ => run_fo (show fieldOff Try.prog tRc 7 = some 7 by kernel_rfl) _ w) ?_
      rw [add_pl, add_pl, show 0 + (k : Int).toNat * (8 + 1) + 7 = k * 9 + 7 by omega]
      refine st_row (by kernel_rfl) rfl hO2 (by omega) fun w3 hO3 hm3 => ?_
      rw [s2] at hO3
      have hd3 := hm3.blk hd2 hgd
      refine ⟨by rw [← ev]; exact hd3, ?_⟩
      refine HV_of (fun w _ => run_ixa vRcS cRc (by omega) (by omega) w) ?_
      refine HV_of (fun w _ => run_fo (show fieldOff Try.prog tRc 8 = some 8 by kernel_rfl) _ w) ?_
      rw [add_pl, add_pl, show 0 + (k : Int).toNat * (8 + 1) + 8 = k * 9 + 8 by omega]
      refine st_row (by kernel_rfl) rfl hO3 (by omega) fun w4 hO4 hm4 => ?_
      rw [s3] at hO4
      have hd4 := hm4.blk hd3 hgd
      refine ⟨by rw [← ev]; exact hd4, ?_⟩
      refine hk _ w4 (fun j hj => ?_) ⟨hd4, by rw [List.length_set, ev]; exact hO4⟩ ((hm02.then hm3 fun i hi z => z ▸ hgv).then hm4 fun i hi z => z ▸ hgv)
      repeat rw [up_lo hj (by decide)]
      exact hlo2 j hj
    refine key2 _ rfl rfl rfl rfl rfl rfl (fun j hj => ?_)
    repeat rw [up_lo hj (by decide)]
    exact hlo j hj
  refine key _ (by first | exact e0 | rfl) (by first | exact e15 | rfl) (by first | exact e4 | rfl) (by first | exact e5 | rfl) (fun j hj => ?_)
  repeat rw [up_lo hj (by decide)]
theorem rmatch_L4 {K : Exit → Sl → World → Prop} {ρ : Sl} (h : EAt w d A v) (hA : A.length ≤ 1000000) (e0 : ρ 0 = .pointer (some ⟨d, 0, none⟩)) (e2 : ρ 2 = .int .i64 rk) (e3 : ρ 3 = .int .i64 c) (e15 : ρ 15 = .int .i64 0) (e4 : ρ 4 = .int .i64 f) (e5 : ρ 5 = .int .i64 s)
    (hk : ∀ (ρ' : Sl) (w' : World), EAt w' d (A.map (gotA rk c f s)) v → Mod (fun b => sb v b) w w' → K (.exit 2) ρ' w') : W fn_ Try.prog 101 (Code.loop dispatcherref14_Posted_Match_L4) K ρ w := by
  refine W_loop dispatcherref14_Posted_Match_L4_ok (fun ρ' w' => ∃ k : Nat, k ≤ A.length ∧ ρ' 15 = .int .i64 k ∧ ρ' 0 = .pointer (some ⟨d, 0, none⟩) ∧ ρ' 2 = .int .i64 rk ∧ ρ' 3 = .int .i64 c ∧ ρ' 4 = .int .i64 f ∧ ρ' 5 = .int .i64 s ∧ EAt w' d ((A.take k).map (gotA rk c f s) ++ A.drop k) v ∧ Mod (fun b => sb v b) w w') (fun ρ' _ => A.length - (intOf (ρ' 15)).toNat)
    ⟨0, Nat.zero_le _, e15, e0, e2, e3, e4, e5, by simpa using h, Mod.refl _ _⟩ ?_
  rintro ρ1 w1 ⟨k, hkl, c15, c0, c2, c3, c4, c5, h1, hm1⟩
  have hBl : ((A.take k).map (gotA rk c f s) ++ A.drop k).length = A.length := by rw [List.length_append, List.length_map, List.length_take, List.length_drop]; omega
  obtain ⟨A0, cc, es, _⟩ := reads_cap (e_row h1)
  rw [dispatcherref14_Posted_Match_L4_eq]; unfold dispatcherref14_Posted_Match_L4_F
  rw [c15, c0, c2, c3, NK_ptr, (f_A h1).e, es, len_sl vRcS, ← es, BK_lss, hBl]
  by_cases hlt : k < A.length
  · rw [decide_eq_true (by omega)]
    refine condT ?_
    have hx : A[k]? = some A[k] := List.getElem?_eq_getElem hlt
    have hst := got_step hx (gotA rk c f s)
    have hat := got_at hx (gotA rk c f s)
    generalize A[k] = x at *
    obtain ⟨a, ha, hc, _⟩ := rc_any (e_row h1) hat
    have fin : ∀ (ρ3 : Sl) (w' : World), ρ3 15 = .int .i64 k → ρ3 0 = .pointer (some ⟨d, 0, none⟩) → ρ3 2 = .int .i64 rk → ρ3 3 = .int .i64 c → ρ3 4 = .int .i64 f → ρ3 5 = .int .i64 s → EAt w' d ((A.take (k + 1)).map (gotA rk c f s) ++ A.drop (k + 1)) v → Mod (fun b => sb v b) w w' → BK Try.prog .add 3 (.tmp 54) (.const (.int .i64 1)) (ρ3 15) (.int .i64 1) w' fun x55 w'' => ((∃ k : Nat, k ≤ A.length ∧ (up (up (up ρ3 54 (ρ3 15)) 55 x55) 15 x55) 15 = .int .i64 k ∧ (up (up (up ρ3 54 (ρ3 15)) 55 x55) 15 x55) 0 = .pointer (some ⟨d, 0, none⟩) ∧ (up (up (up ρ3 54 (ρ3 15)) 55 x55) 15 x55) 2 = .int .i64 rk ∧ (up (up (up ρ3 54 (ρ3 15)) 55 x55) 15 x55) 3 = .int .i64 c ∧ (up (up (up ρ3 54 (ρ3 15)) 55 x55) 15 x55) 4 = .int .i64 f ∧ (up (up (up ρ3 54 (ρ3 15)) 55 x55) 15 x55) 5 = .int .i64 s ∧ EAt w'' d ((A.take k).map (gotA rk c f s) ++ A.drop k) v ∧ Mod (fun b => sb v b) w w'') ∧ A.length - (intOf ((up (up (up ρ3 54 (ρ3 15)) 55 x55) 15 x55) 15)).toNat < A.length - (intOf (.int .i64 (k : Int))).toNat) := by
      intro ρ3 w' t15 t0 t2 t3 t4 t5 h' hm'
      rw [t15, BK_add, wrap_i (by omega) (by omega)]
      refine ⟨⟨k + 1, hlt, rfl, t0, t2, t3, t4, t5, h', hm'⟩, ?_⟩
      simp only [sq_n, sq_x, sq_r, bk_n, bk_r, bk_x, rt_r, rt_n, rs_0, rs_t, pk_1, pk_2, up_at, reduceIte, Nat.reduceEqDiff, intOf]; omega
    have no : gotA rk c f s x = x → ∀ (ρ2 : Sl), ρ2 77 = .bool false → (∀ j, j < 47 → ρ2 j = ρ1 j) → ∀ K2 : Exit → Sl → World → Prop, (∀ ρ3, (∀ j, j < 47 → ρ3 j = ρ1 j) → K2 .normal ρ3 w1) → sx fn_ Try.prog 101 dispatcherref14_Posted_Match_R7 K2 ρ2 w1 := by
      intro hg ρ2 q77 hlo K2 hK2
      rw [dispatcherref14_Posted_Match_R7_eq]; unfold dispatcherref14_Posted_Match_R7_F
      rw [q77]
      exact condF (hK2 ρ2 hlo)
    have same : gotA rk c f s x = x → EAt w1 d ((A.take (k + 1)).map (gotA rk c f s) ++ A.drop (k + 1)) v := fun hg => by
      rw [← hst, hg]
      have : ((A.take k).map (gotA rk c f s) ++ A.drop k).set k x = (A.take k).map (gotA rk c f s) ++ A.drop k := by
        refine List.ext_getElem? fun i => ?_
        by_cases e : i = k
        · subst e
          rw [List.getElem?_set_self (by omega), hat]
        · rw [List.getElem?_set_ne (fun z => e z.symm)]
      rw [this]
      exact h1
    rw [NK_ptr, (f_A h1).e, VK_eq_of (ha w1), fo (show fieldOff Try.prog tRc 1 = some 1 by kernel_rfl)]
    refine ld1 vI rfl (hc w1 (Mod.refl _ _) 1 (.int .i64 x.rank) rfl) ?_
    by_cases c1 : x.rank = rk
    · rw [EQt c1]
      try simp only [↓VG_u, ↓UG_u, ↓MG_u, ↓NG_u, ↓PG_u, ↓BG_u, ↓CG_u, ↓IG_u, ↓VGtt, ↓VGtf, ↓VGft, ↓VGff, ↓UGtt, ↓UGtf, ↓UGft, ↓UGff, ↓MGtt, ↓MGtf, ↓MGft, ↓MGff, ↓NGtt, ↓NGtf, ↓NGft, ↓NGff, ↓PGtt, ↓PGtf, ↓PGft, ↓PGff, ↓BGtt, ↓BGtf, ↓BGft, ↓BGff, ↓CGtt, ↓CGtf, ↓CGft, ↓CGff, ↓IGtt, ↓IGtf, ↓IGft, ↓IGff, ↓PKt, ↓PKf, ↓CDt, ↓CDf, ↓NOTt, ↓NOTf, ↓NK_ptr]
      rw [(f_A h1).e]
      try simp only [↓VG_u, ↓UG_u, ↓MG_u, ↓NG_u, ↓PG_u, ↓BG_u, ↓CG_u, ↓IG_u, ↓VGtt, ↓VGtf, ↓VGft, ↓VGff, ↓UGtt, ↓UGtf, ↓UGft, ↓UGff, ↓MGtt, ↓MGtf, ↓MGft, ↓MGff, ↓NGtt, ↓NGtf, ↓NGft, ↓NGff, ↓PGtt, ↓PGtf, ↓PGft, ↓PGff, ↓BGtt, ↓BGtf, ↓BGft, ↓BGff, ↓CGtt, ↓CGtf, ↓CGft, ↓CGff, ↓IGtt, ↓IGtf, ↓IGft, ↓IGff, ↓PKt, ↓PKf, ↓CDt, ↓CDf, ↓NOTt, ↓NOTf, ↓NK_ptr]
      rw [VK_eq_of (ha w1)]
      try simp only [↓VG_u, ↓UG_u, ↓MG_u, ↓NG_u, ↓PG_u, ↓BG_u, ↓CG_u, ↓IG_u, ↓VGtt, ↓VGtf, ↓VGft, ↓VGff, ↓UGtt, ↓UGtf, ↓UGft, ↓UGff, ↓MGtt, ↓MGtf, ↓MGft, ↓MGff, ↓NGtt, ↓NGtf, ↓NGft, ↓NGff, ↓PGtt, ↓PGtf, ↓PGft, ↓PGff, ↓BGtt, ↓BGtf, ↓BGft, ↓BGff, ↓CGtt, ↓CGtf, ↓CGft, ↓CGff, ↓IGtt, ↓IGtf, ↓IGft, ↓IGff, ↓PKt, ↓PKf, ↓CDt, ↓CDf, ↓NOTt, ↓NOTf, ↓NK_ptr]
      rw [fo (show fieldOff Try.prog tRc 2 = some 2 by kernel_rfl)]
      try simp only [↓VG_u, ↓UG_u, ↓MG_u, ↓NG_u, ↓PG_u, ↓BG_u, ↓CG_u, ↓IG_u, ↓VGtt, ↓VGtf, ↓VGft, ↓VGff, ↓UGtt, ↓UGtf, ↓UGft, ↓UGff, ↓MGtt, ↓MGtf, ↓MGft, ↓MGff, ↓NGtt, ↓NGtf, ↓NGft, ↓NGff, ↓PGtt, ↓PGtf, ↓PGft, ↓PGff, ↓BGtt, ↓BGtf, ↓BGft, ↓BGff, ↓CGtt, ↓CGtf, ↓CGft, ↓CGff, ↓IGtt, ↓IGtf, ↓IGft, ↓IGff, ↓PKt, ↓PKf, ↓CDt, ↓CDf, ↓NOTt, ↓NOTf, ↓NK_ptr]
      refine ld1 vI rfl (hc w1 (Mod.refl _ _) 2 (.int .i64 x.call) rfl) ?_
      try simp only [↓VG_u, ↓UG_u, ↓MG_u, ↓NG_u, ↓PG_u, ↓BG_u, ↓CG_u, ↓IG_u, ↓VGtt, ↓VGtf, ↓VGft, ↓VGff, ↓UGtt, ↓UGtf, ↓UGft, ↓UGff, ↓MGtt, ↓MGtf, ↓MGft, ↓MGff, ↓NGtt, ↓NGtf, ↓NGft, ↓NGff, ↓PGtt, ↓PGtf, ↓PGft, ↓PGff, ↓BGtt, ↓BGtf, ↓BGft, ↓BGff, ↓CGtt, ↓CGtf, ↓CGft, ↓CGff, ↓IGtt, ↓IGtf, ↓IGft, ↓IGff, ↓PKt, ↓PKf, ↓CDt, ↓CDf, ↓NOTt, ↓NOTf, ↓NK_ptr]
      by_cases c2' : x.call = c
      · rw [EQt c2']
        try simp only [↓VG_u, ↓UG_u, ↓MG_u, ↓NG_u, ↓PG_u, ↓BG_u, ↓CG_u, ↓IG_u, ↓VGtt, ↓VGtf, ↓VGft, ↓VGff, ↓UGtt, ↓UGtf, ↓UGft, ↓UGff, ↓MGtt, ↓MGtf, ↓MGft, ↓MGff, ↓NGtt, ↓NGtf, ↓NGft, ↓NGff, ↓PGtt, ↓PGtf, ↓PGft, ↓PGff, ↓BGtt, ↓BGtf, ↓BGft, ↓BGff, ↓CGtt, ↓CGtf, ↓CGft, ↓CGff, ↓IGtt, ↓IGtf, ↓IGft, ↓IGff, ↓PKt, ↓PKf, ↓CDt, ↓CDf, ↓NOTt, ↓NOTf, ↓NK_ptr]
        have hg : gotA rk c f s x = x.got f s := by unfold gotA isRC; rw [decide_eq_true c1, decide_eq_true c2']; rfl
        refine rmatch_R7 (f := f) (s := s) (k := k) h1 hat rfl (by first | exact c0 | rfl) (by first | exact c15 | rfl) (by first | exact c4 | rfl) (by first | exact c5 | rfl) ?_
        intro ρ2 w2 hlo h2 hm2
        rw [← hg, hst] at h2
        rw [bk_n, sq_n, dispatcherref14_Posted_Match_R6_eq]; unfold dispatcherref14_Posted_Match_R6_F
        exact fin ρ2 w2 ((hlo 15 (by decide)).trans (by first | exact c15 | rfl)) ((hlo 0 (by decide)).trans (by first | exact c0 | rfl)) ((hlo 2 (by decide)).trans (by first | exact c2 | rfl)) ((hlo 3 (by decide)).trans (by first | exact c3 | rfl)) ((hlo 4 (by decide)).trans (by first | exact c4 | rfl)) ((hlo 5 (by decide)).trans (by first | exact c5 | rfl)) h2 (hm1.trans hm2)
      · rw [EQf c2']
        try simp only [↓VG_u, ↓UG_u, ↓MG_u, ↓NG_u, ↓PG_u, ↓BG_u, ↓CG_u, ↓IG_u, ↓VGtt, ↓VGtf, ↓VGft, ↓VGff, ↓UGtt, ↓UGtf, ↓UGft, ↓UGff, ↓MGtt, ↓MGtf, ↓MGft, ↓MGff, ↓NGtt, ↓NGtf, ↓NGft, ↓NGff, ↓PGtt, ↓PGtf, ↓PGft, ↓PGff, ↓BGtt, ↓BGtf, ↓BGft, ↓BGff, ↓CGtt, ↓CGtf, ↓CGft, ↓CGff, ↓IGtt, ↓IGtf, ↓IGft, ↓IGff, ↓PKt, ↓PKf, ↓CDt, ↓CDf, ↓NOTt, ↓NOTf, ↓NK_ptr]
        have hg : gotA rk c f s x = x := by unfold gotA isRC; rw [decide_eq_false c2', Bool.and_false]; rfl
        refine no hg _ rfl (fun j hj => ?_) _ ?_
        · repeat rw [up_lo hj (by decide)]
        intro ρ2 hlo
        rw [bk_n, sq_n, dispatcherref14_Posted_Match_R6_eq]; unfold dispatcherref14_Posted_Match_R6_F
        exact fin ρ2 w1 ((hlo 15 (by decide)).trans c15) ((hlo 0 (by decide)).trans c0) ((hlo 2 (by decide)).trans c2) ((hlo 3 (by decide)).trans c3) ((hlo 4 (by decide)).trans c4) ((hlo 5 (by decide)).trans c5) (same hg) hm1
    · rw [EQf c1]
      try simp only [↓VG_u, ↓UG_u, ↓MG_u, ↓NG_u, ↓PG_u, ↓BG_u, ↓CG_u, ↓IG_u, ↓VGtt, ↓VGtf, ↓VGft, ↓VGff, ↓UGtt, ↓UGtf, ↓UGft, ↓UGff, ↓MGtt, ↓MGtf, ↓MGft, ↓MGff, ↓NGtt, ↓NGtf, ↓NGft, ↓NGff, ↓PGtt, ↓PGtf, ↓PGft, ↓PGff, ↓BGtt, ↓BGtf, ↓BGft, ↓BGff, ↓CGtt, ↓CGtf, ↓CGft, ↓CGff, ↓IGtt, ↓IGtf, ↓IGft, ↓IGff, ↓PKt, ↓PKf, ↓CDt, ↓CDf, ↓NOTt, ↓NOTf, ↓NK_ptr]
      have hg : gotA rk c f s x = x := by unfold gotA isRC; rw [decide_eq_false c1]; rfl
      refine no hg _ rfl (fun j hj => ?_) _ ?_
      · repeat rw [up_lo hj (by decide)]
      intro ρ2 hlo
      rw [bk_n, sq_n, dispatcherref14_Posted_Match_R6_eq]; unfold dispatcherref14_Posted_Match_R6_F
      exact fin ρ2 w1 ((hlo 15 (by decide)).trans c15) ((hlo 0 (by decide)).trans c0) ((hlo 2 (by decide)).trans c2) ((hlo 3 (by decide)).trans c3) ((hlo 4 (by decide)).trans c4) ((hlo 5 (by decide)).trans c5) (same hg) hm1
  · obtain rfl : k = A.length := by omega
    rw [decide_eq_false (by omega)]
    refine condF ?_
    rw [List.take_length, List.drop_length, List.append_nil] at h1
    exact hk _ w1 h1 hm1
end
end Go.Proofs.Ytmnkedgmpbcicaa.Que
set_option linter.unusedVariables false
set_option linter.unusedSimpArgs false
set_option maxRecDepth 8000
namespace Go.X
open Go Go.RowKit
end Go.X
namespace Go.Proofs.Ytmnkedgmpbcicaa.Que
open Go Go.X Go.RowKit Go.Proofs.Ytmnkedgmpbcicaa.XF Go.Proofs.Ytmnkedgmpbcicaa.XG Go.Proofs.Ytmnkedgmpbcicaa.XK
def mayL (A : List Rc) (ls S : List Ms) (rk c : Int) : List Ms := match A.find? (isRC rk c) with | none => [] | some r => if r.done then [] else allN A ls S r false 64
def matchA (A : List Rc) (ls S : List Ms) (rk c f s : Int) : (List Rc × List Ms) × Int := if (mayL A ls S rk c).any (Ms.isAt f s) then ((A.map (gotA rk c f s), (takeV ls f s).1), 0) else ((A, ls), 2)
theorem mayL_len (A : List Rc) (ls S : List Ms) (rk c : Int) (h : S.length ≤ 500) : (mayL A ls S rk c).length ≤ 100000 := by
  unfold mayL
  split
  · simp
  · split
    · simp
    · rename_i r _ _
      have := allN_len A ls S r false 64
      omega
section
variable {w : World} {d q : Nat} {A : List Rc} {v D : Value} {ls : List Ms}
abbrev MatchP (w0 : World) (d q : Nat) (A : List Rc) (v D : Value) (ls : List Ms) (rk c f s : Int) : Value → World → Prop := fun u w' => ∃ S, Stab ltM (ls.filter nt) S ∧ u = .int .i64 (matchA A ls S rk c f s).2 ∧ EAt w' d (matchA A ls S rk c f s).1.1 v ∧ DAt w' q (matchA A ls S rk c f s).1.2 D ∧ Mod (fun b => DF q D b ∨ sb v b) w0 w'
theorem RMatch_ok (hE : EAt w d A v) (hA : A.length ≤ 500) (hq : DAt w q ls D) (hL : ls.length ≤ 500) (hS0 : ∃ S, Stab ltM (ls.filter nt) S) (hu : ls.Pairwise fun a b => ¬ (a.frm = b.frm ∧ a.call = b.call)) (hap : ∀ b, EF d v b → ¬ DF q D b) (rk c f s : Int) :
    Rt Try.prog 54 #[.pointer (some ⟨d, 0, none⟩), .pointer (some ⟨q, 0, none⟩), .int .i64 rk, .int .i64 c, .int .i64 f, .int .i64 s] w (MatchP w d q A v D ls rk c f s) := by
  refine dispatcherref14_Posted_Match_calls ?_
  unfold dispatcherref14_Posted_Match_F
  refine CK_st Try.func31 rfl rfl (RMay_ok hE hA hq hL hS0 rk c) ?_
  rintro vl w1 ⟨S, hS, hO, hm1⟩
  have lS : S.length = (ls.filter nt).length := Stab.len ltM_wo hS.eq
  have hSl : S.length ≤ 500 := by rw [lS]; exact Nat.le_trans (List.length_filter_le _ _) hL
  have hml := mayL_len A ls S rk c hSl
  have hE1 := hE.calm hm1
  have hq1 := hq.calm hm1
  have hO : w1.ownsRow w.heap.size tMs 8 vl (mayL A ls S rk c).length ((mayL A ls S rk c).flatMap Ms.enc) := hO
  have eM : matchA A ls S rk c f s = if (mayL A ls S rk c).any (Ms.isAt f s) then ((A.map (gotA rk c f s), (takeV ls f s).1), 0) else ((A, ls), 2) := rfl
  generalize mayL A ls S rk c = L at *
  obtain ⟨A0, cc, es, _⟩ := reads_cap (reads_of_owns hO)
  refine W_loop dispatcherref14_Posted_Match_L0_ok (fun ρ w' => ∃ n : Nat, n ≤ L.length ∧ ρ 14 = .int .i64 n ∧ ρ 0 = .pointer (some ⟨d, 0, none⟩) ∧ ρ 1 = .pointer (some ⟨q, 0, none⟩) ∧ ρ 2 = .int .i64 rk ∧ ρ 3 = .int .i64 c ∧ ρ 4 = .int .i64 f ∧ ρ 5 = .int .i64 s ∧ ρ 13 = vl ∧ (∀ x ∈ L.take n, Ms.isAt f s x = false) ∧ w' = w1) (fun ρ _ => L.length - (intOf (ρ 14)).toNat)
    ⟨0, Nat.zero_le _, rfl, rfl, rfl, rfl, rfl, rfl, rfl, rfl, by simp, rfl⟩ ?_
  rintro ρ w1 ⟨n, hn, e14, e0, e1, e2, e3, e4, e5, e13, hno, rfl⟩
  rw [dispatcherref14_Posted_Match_L0_eq]; unfold dispatcherref14_Posted_Match_L0_F
  rw [e14, e13, e4, e5, e1, es, len_sl vMsS, ← es, BK_lss]
  by_cases hlt : n < L.length
  · rw [decide_eq_true (by omega)]
    refine condT ?_
    have hx : L[n]? = some L[n] := List.getElem?_eq_getElem hlt
    have hmem : L[n] ∈ L := List.getElem_mem hlt
    have etk : L.take (n + 1) = L.take n ++ [L[n]] := by rw [List.take_add_one, hx]; rfl
    generalize L[n] = x at *
    obtain ⟨a, ha, hc, _⟩ := own_ld hO hx
    have fin : Ms.isAt f s x = false → ∀ ρ3 : Sl, ρ3 14 = .int .i64 n → ρ3 0 = .pointer (some ⟨d, 0, none⟩) → ρ3 1 = .pointer (some ⟨q, 0, none⟩) → ρ3 2 = .int .i64 rk → ρ3 3 = .int .i64 c → ρ3 4 = .int .i64 f → ρ3 5 = .int .i64 s → ρ3 13 = vl → BK Try.prog .add 3 (.tmp 25) (.const (.int .i64 1)) (.int .i64 n) (.int .i64 1) w1 fun x26 w'' => ((∃ n : Nat, n ≤ L.length ∧ (up (up (up ρ3 25 (.int .i64 n)) 26 x26) 14 x26) 14 = .int .i64 n ∧ (up (up (up ρ3 25 (.int .i64 n)) 26 x26) 14 x26) 0 = .pointer (some ⟨d, 0, none⟩) ∧ (up (up (up ρ3 25 (.int .i64 n)) 26 x26) 14 x26) 1 = .pointer (some ⟨q, 0, none⟩) ∧ (up (up (up ρ3 25 (.int .i64 n)) 26 x26) 14 x26) 2 = .int .i64 rk ∧ (up (up (up ρ3 25 (.int .i64 n)) 26 x26) 14 x26) 3 = .int .i64 c ∧ (up (up (up ρ3 25 (.int .i64 n)) 26 x26) 14 x26) 4 = .int .i64 f ∧ (up (up (up ρ3 25 (.int .i64 n)) 26 x26) 14 x26) 5 = .int .i64 s ∧ (up (up (up ρ3 25 (.int .i64 n)) 26 x26) 14 x26) 13 = vl ∧ (∀ x ∈ L.take n, Ms.isAt f s x = false) ∧ w'' = w1) ∧ L.length - (intOf ((up (up (up ρ3 25 (.int .i64 n)) 26 x26) 14 x26) 14)).toNat < L.length - (intOf (.int .i64 (n : Int))).toNat) := by
      intro hp ρ3 t14 t0 t1 t2 t3 t4 t5 t13
      rw [BK_add, wrap_i (by omega) (by omega)]
      refine ⟨⟨n + 1, hlt, rfl, t0, t1, t2, t3, t4, t5, t13, fun y hy => ?_, rfl⟩, ?_⟩
      · rw [etk] at hy
        rcases List.mem_append.1 hy with z | z
        · exact hno y z
        · rw [List.mem_singleton.1 z]; exact hp
      · simp only [sq_n, sq_x, sq_r, bk_n, bk_r, bk_x, rt_r, rt_n, rs_0, rs_t, pk_1, pk_2, up_at, reduceIte, Nat.reduceEqDiff, intOf]; omega
    rw [VK_eq_of (ha w1), fo (show fieldOff Try.prog tMs 1 = some 1 by kernel_rfl)]
    refine ld1 vI rfl (hc w1 (Mod.refl _ _) 1 (.int .i64 x.frm) rfl) ?_
    by_cases c1 : x.frm = f
    · rw [NEf c1]
      try simp only [↓VG_u, ↓UG_u, ↓MG_u, ↓NG_u, ↓PG_u, ↓BG_u, ↓CG_u, ↓IG_u, ↓VGtt, ↓VGtf, ↓VGft, ↓VGff, ↓UGtt, ↓UGtf, ↓UGft, ↓UGff, ↓MGtt, ↓MGtf, ↓MGft, ↓MGff, ↓NGtt, ↓NGtf, ↓NGft, ↓NGff, ↓PGtt, ↓PGtf, ↓PGft, ↓PGff, ↓BGtt, ↓BGtf, ↓BGft, ↓BGff, ↓CGtt, ↓CGtf, ↓CGft, ↓CGff, ↓IGtt, ↓IGtf, ↓IGft, ↓IGff, ↓PKt, ↓PKf, ↓CDt, ↓CDf, ↓NOTt, ↓NOTf, ↓NK_ptr]
      rw [VK_eq_of (ha w1)]
      try simp only [↓VG_u, ↓UG_u, ↓MG_u, ↓NG_u, ↓PG_u, ↓BG_u, ↓CG_u, ↓IG_u, ↓VGtt, ↓VGtf, ↓VGft, ↓VGff, ↓UGtt, ↓UGtf, ↓UGft, ↓UGff, ↓MGtt, ↓MGtf, ↓MGft, ↓MGff, ↓NGtt, ↓NGtf, ↓NGft, ↓NGff, ↓PGtt, ↓PGtf, ↓PGft, ↓PGff, ↓BGtt, ↓BGtf, ↓BGft, ↓BGff, ↓CGtt, ↓CGtf, ↓CGft, ↓CGff, ↓IGtt, ↓IGtf, ↓IGft, ↓IGff, ↓PKt, ↓PKf, ↓CDt, ↓CDf, ↓NOTt, ↓NOTf, ↓NK_ptr]
      rw [fo (show fieldOff Try.prog tMs 3 = some 3 by kernel_rfl)]
      try simp only [↓VG_u, ↓UG_u, ↓MG_u, ↓NG_u, ↓PG_u, ↓BG_u, ↓CG_u, ↓IG_u, ↓VGtt, ↓VGtf, ↓VGft, ↓VGff, ↓UGtt, ↓UGtf, ↓UGft, ↓UGff, ↓MGtt, ↓MGtf, ↓MGft, ↓MGff, ↓NGtt, ↓NGtf, ↓NGft, ↓NGff, ↓PGtt, ↓PGtf, ↓PGft, ↓PGff, ↓BGtt, ↓BGtf, ↓BGft, ↓BGff, ↓CGtt, ↓CGtf, ↓CGft, ↓CGff, ↓IGtt, ↓IGtf, ↓IGft, ↓IGff, ↓PKt, ↓PKf, ↓CDt, ↓CDf, ↓NOTt, ↓NOTf, ↓NK_ptr]
      refine ld1 vI rfl (hc w1 (Mod.refl _ _) 3 (.int .i64 x.call) rfl) ?_
      try simp only [↓VG_u, ↓UG_u, ↓MG_u, ↓NG_u, ↓PG_u, ↓BG_u, ↓CG_u, ↓IG_u, ↓VGtt, ↓VGtf, ↓VGft, ↓VGff, ↓UGtt, ↓UGtf, ↓UGft, ↓UGff, ↓MGtt, ↓MGtf, ↓MGft, ↓MGff, ↓NGtt, ↓NGtf, ↓NGft, ↓NGff, ↓PGtt, ↓PGtf, ↓PGft, ↓PGff, ↓BGtt, ↓BGtf, ↓BGft, ↓BGff, ↓CGtt, ↓CGtf, ↓CGft, ↓CGff, ↓IGtt, ↓IGtf, ↓IGft, ↓IGff, ↓PKt, ↓PKf, ↓CDt, ↓CDf, ↓NOTt, ↓NOTf, ↓NK_ptr]
      by_cases c2 : x.call = s
      · rw [NEf c2]
        try simp only [↓VG_u, ↓UG_u, ↓MG_u, ↓NG_u, ↓PG_u, ↓BG_u, ↓CG_u, ↓IG_u, ↓VGtt, ↓VGtf, ↓VGft, ↓VGff, ↓UGtt, ↓UGtf, ↓UGft, ↓UGff, ↓MGtt, ↓MGtf, ↓MGft, ↓MGff, ↓NGtt, ↓NGtf, ↓NGft, ↓NGff, ↓PGtt, ↓PGtf, ↓PGft, ↓PGff, ↓BGtt, ↓BGtf, ↓BGft, ↓BGff, ↓CGtt, ↓CGtf, ↓CGft, ↓CGff, ↓IGtt, ↓IGtf, ↓IGft, ↓IGff, ↓PKt, ↓PKf, ↓CDt, ↓CDf, ↓NOTt, ↓NOTf, ↓NK_ptr]
        refine CK_st Try.func71 rfl rfl (RTake_ok hq1 hu (by omega) f s) ?_
        rintro _ w2 ⟨rfl, hq2, fq⟩
        have hE2 := hE1.mod fq.mod hap
        rw [dispatcherref14_Posted_Match_R2_eq]; unfold dispatcherref14_Posted_Match_R2_F
        refine rmatch_L4 (rk := rk) (c := c) (f := f) (s := s) hE2 (by omega) (by first | exact e0 | rfl) (by first | exact e2 | rfl) (by first | exact e3 | rfl) rfl (by first | exact e4 | rfl) (by first | exact e5 | rfl) ?_
        intro ρ4 w3 hE3 hm3
        rw [bk_x, sq_n, dispatcherref14_Posted_Match_R5_eq]; unfold dispatcherref14_Posted_Match_R5_F
        show MatchP w d q A v D ls rk c f s (Value.int .i64 0) w3
        have hany : L.any (Ms.isAt f s) = true := List.any_eq_true.2 ⟨x, hmem, isAt_iff.2 ⟨c1, c2⟩⟩
        refine ⟨S, hS, ?_⟩
        rw [eM, if_pos hany]
        refine ⟨rfl, hE3, hq2.mod hm3 fun b z y => hap b (.inr y) z, ?_⟩
        exact (((hm1.mono fun b _ z => z.elim).then fq.mod fun i hi z => .inl z)).then hm3 fun i hi z => .inr z
      · rw [NEt c2]
        try simp only [↓VG_u, ↓UG_u, ↓MG_u, ↓NG_u, ↓PG_u, ↓BG_u, ↓CG_u, ↓IG_u, ↓VGtt, ↓VGtf, ↓VGft, ↓VGff, ↓UGtt, ↓UGtf, ↓UGft, ↓UGff, ↓MGtt, ↓MGtf, ↓MGft, ↓MGff, ↓NGtt, ↓NGtf, ↓NGft, ↓NGff, ↓PGtt, ↓PGtf, ↓PGft, ↓PGff, ↓BGtt, ↓BGtf, ↓BGft, ↓BGff, ↓CGtt, ↓CGtf, ↓CGft, ↓CGff, ↓IGtt, ↓IGtf, ↓IGft, ↓IGff, ↓PKt, ↓PKf, ↓CDt, ↓CDf, ↓NOTt, ↓NOTf, ↓NK_ptr]
        have hp : Ms.isAt f s x = false := by
          cases hq : Ms.isAt f s x with
          | false => rfl
          | true => exact absurd (isAt_iff.1 hq).2 c2
        exact fin hp _ (by first | exact e14 | rfl) (by first | exact e0 | rfl) (by first | exact e1 | rfl) (by first | exact e2 | rfl) (by first | exact e3 | rfl) (by first | exact e4 | rfl) (by first | exact e5 | rfl) (by first | exact e13 | rfl)
    · rw [NEt c1]
      try simp only [↓VG_u, ↓UG_u, ↓MG_u, ↓NG_u, ↓PG_u, ↓BG_u, ↓CG_u, ↓IG_u, ↓VGtt, ↓VGtf, ↓VGft, ↓VGff, ↓UGtt, ↓UGtf, ↓UGft, ↓UGff, ↓MGtt, ↓MGtf, ↓MGft, ↓MGff, ↓NGtt, ↓NGtf, ↓NGft, ↓NGff, ↓PGtt, ↓PGtf, ↓PGft, ↓PGff, ↓BGtt, ↓BGtf, ↓BGft, ↓BGff, ↓CGtt, ↓CGtf, ↓CGft, ↓CGff, ↓IGtt, ↓IGtf, ↓IGft, ↓IGff, ↓PKt, ↓PKf, ↓CDt, ↓CDf, ↓NOTt, ↓NOTf, ↓NK_ptr]
      have hp : Ms.isAt f s x = false := by
        cases hq : Ms.isAt f s x with
        | false => rfl
        | true => exact absurd (isAt_iff.1 hq).1 c1
      exact fin hp _ (by first | exact e14 | rfl) (by first | exact e0 | rfl) (by first | exact e1 | rfl) (by first | exact e2 | rfl) (by first | exact e3 | rfl) (by first | exact e4 | rfl) (by first | exact e5 | rfl) (by first | exact e13 | rfl)
  · obtain rfl : n = L.length := by omega
    rw [decide_eq_false (by omega)]
    refine condF ?_
    rw [List.take_length] at hno
    rw [sq_x, bk_x, sq_n, dispatcherref14_Posted_Match_R1_eq]; unfold dispatcherref14_Posted_Match_R1_F
    show MatchP w d q A v D ls rk c f s (Value.int .i64 2) w1
    have hany : ¬ L.any (Ms.isAt f s) = true := fun z => by
      obtain ⟨y, hy, hp⟩ := List.any_eq_true.1 z
      rw [hno y hy] at hp; cases hp
    refine ⟨S, hS, ?_⟩
    rw [eM, if_neg hany]
    exact ⟨rfl, hE1, hq1, hm1.mono fun b _ z => z.elim⟩
theorem RCopyP_ok (h : EAt w d A v) (hL : A.length ≤ 1000000) : Rt Try.prog 57 #[.pointer (some ⟨d, 0, none⟩)] w fun u w' => ∃ d' v', u = .pointer (some ⟨d', 0, none⟩) ∧ EAt w' d' A v' ∧ (∀ b, EF d' v' b → w.heap.size ≤ b) ∧ Mod none_ w w' := by
  refine dispatcherref14_Posted_Copy_calls ?_
  unfold dispatcherref14_Posted_Copy_F
  refine bs0_k vRcS iRc fun w1 hb1 hm1 hz1 => ?_
  have h1 := h.calm hm1
  rw [NK_ptr, (f_A h1).e]
  have hown : w1.ownsRow w.heap.size tRc 9 (.slice (some ⟨w.heap.size, 0, none⟩) 0 0) 0 [] := owns_zero hb1 (Nat.le_refl _)
  refine ap_any eRcS hown (e_row h1) (Rc.enc_mem A) (by unfold maxLen; omega) (by omega) (by omega) fun v' w2 h2 hm2 _ => ?_
  have hm12 : Mod none_ w w2 := hm1.then hm2 fun i hi q => by
    have : i = w.heap.size := by simpa [Value.ownBlock] using q
    omega
  have hc : v' = .slice none 0 0 ∨ ∃ g n c, v' = .slice (some ⟨g, 0, none⟩) n c := by
    rcases h2.2 with ⟨e, _⟩ | ⟨g, c, _, e, _⟩
    · exact .inl e
    · exact .inr ⟨g, _, c, e⟩
  rw [build_ok (cs := #[v']) (by rcases hc with rfl | ⟨g, n, c, rfl⟩ <;> kernel_rfl)]
  refine box_k (cs := #[v']) rfl fun w3 hb3 hm3 hz3 => ?_
  have hs := hm12.size
  refine ⟨w2.heap.size, v', rfl, ⟨hb3, owns_base (owns_mod (by simpa using h2) hm3 fun _ _ => id) (Nat.zero_le _)⟩, fun b z => ?_, hm12.trans hm3⟩
  rcases z with z | z
  · omega
  · exact (owns_bd h2 b z).1
end
end Go.Proofs.Ytmnkedgmpbcicaa.Que
set_option linter.unusedVariables false
set_option linter.unusedSimpArgs false
set_option maxRecDepth 8000
namespace Go.Proofs.Ytmnkedgmpbcicaa.Que
open Go Go.X Go.RowKit Go.Proofs.Ytmnkedgmpbcicaa.XF Go.Proofs.Ytmnkedgmpbcicaa.XG Go.Proofs.Ytmnkedgmpbcicaa.XK
theorem hagg_sl {t e : TypeId} (hu : Try.prog.underlying t = some (.slice e)) (w : World) : (isAgg t).run Try.prog w = .ok false w := by
  unfold isAgg
  simp only [Sem.run_bind, run_underlying hu, Result.andThen_ok]
  rfl
theorem run_idxR {cs : Array Value} {i : Nat} {v : Value} (h1 : i < 64) (hv : cs[i]? = some v) (w : World) : (Instr.index tArr (.agg cs) (.int .i64 (i : Int))).run Try.prog w = .ok v w := by
  have hu : Try.prog.underlying tArr = some (.array 64 tRcS) := by kernel_rfl
  have hs : (Try.prog.info? tRcS).map (·.size) = some 1 := by kernel_rfl
  cases hq : Try.prog.info? tRcS with
  | none => rw [hq] at hs; cases hs
  | some x =>
    rw [hq] at hs
    have hs : x.size = 1 := by injection hs
    have hagg := hagg_sl vRcS w
    have h2 : (i : Int) < 64 := by omega
    have h3 : ¬ 64 ≤ i := by omega
    simp [Instr.index, run_underlying hu, asIntOf, h2, h3, sizeOf, typeInfo, hq, hs, part, hagg, hv]
theorem cloneR_ok {w : World} {v : Value} {l : List Rc} (h : RcRow w v l) (hn : l.length ≤ 1000000) : Rt Try.prog 51 #[v] w fun v' w' => w'.ownsRow w.heap.size tRc 9 v' l.length (l.flatMap Rc.enc) ∧ Mod none_ w w' := by
  refine slices_Clone_posted_Receive_posted_Receive_calls ?_
  unfold slices_Clone_posted_Receive_posted_Receive_F
  have h' := h
  obtain ⟨hl, A, c, rfl, hnc, hr⟩ := h
  rw [BK_sln vRcS]
  cases A with
  | none =>
    refine condT ⟨?_, Mod.refl _ _⟩
    have h0 : l = [] := by
      cases l with
      | nil => rfl
      | cons a l =>
        obtain ⟨b, hb, _⟩ := hr 0 (strV a.key) rfl
        cases hb
    subst h0
    exact World.ownsRow_nil _ _ _ _
  | some a =>
    refine condF ?_
    refine bs0_k vRcS iRc fun w1 hb1 hm1 hz1 => ?_
    have hown : w1.ownsRow w.heap.size tRc 9 (.slice (some ⟨w.heap.size, 0, none⟩) 0 0) 0 [] := owns_zero hb1 (Nat.le_refl _)
    refine ap_any eRcS hown (h'.calm hm1) (Rc.enc_mem l) (by unfold maxLen; omega) (by omega) (by omega) fun v' w' h2 hm2 _ => ?_
    refine ⟨by simpa using h2, hm1.then hm2 fun i hi q => ?_⟩
    have : i = w.heap.size := by simpa [Value.ownBlock] using q
    omega
section
variable {w : World} {p : Nat} {R : Rks} {vs : List Value}
structure CpI (w' : World) (c : Nat) (R : Rks) (vs us : List Value) : Prop where
  blk : w'.heap[c]? = some (.cells (.bool true :: (us ++ vs.drop us.length)).toArray tPd (0, 0))
  rows : ∀ (i : Nat) u, us[i]? = some u → w'.ownsRow (c + 1) tRc 9 u (R i).length ((R i).flatMap Rc.enc)
  dist : ∀ (i j : Nat) v u, us[i]? = some v → us[j]? = some u → i ≠ j → ∀ g, sb v g → ¬ sb u g
theorem CpI.gt {w' : World} {c : Nat} {us : List Value} (h : CpI w' c R vs us) {u : Value} (hu : u ∈ us) {g : Nat} (z : sb u g) : c < g ∧ g < w'.heap.size := by
  obtain ⟨i, hi⟩ := List.getElem?_of_mem hu
  have := owns_bd (h.rows i u hi) g z
  omega
theorem PCopy_ok (h : PAt w p R vs) (hlen : ∀ i, (R i).length ≤ 1000000) : Rt Try.prog 28 #[.pointer (some ⟨p, 0, none⟩)] w fun u w' => ∃ p' vs', u = .pointer (some ⟨p', 0, none⟩) ∧ PAt w' p' R vs' ∧ (∀ b, PF p' vs' b → w.heap.size ≤ b) ∧ Mod none_ w w' := by
  refine posted_Posted_Copy_calls ?_
  unfold posted_Posted_Copy_F
  have hl64 := h.len
  rw [BK_eqlP uPd]
  refine condF ?_
  rw [NK_ptr]
  refine ldS rfl Try.underlying61 rfl (cs := (.bool true :: vs).toArray) (by rw [show (Try.prog.info? tPd).map (·.size) = some 65 by kernel_rfl]; simp [hl64]) h.blk ?_
  have hz : (Try.prog.info? tPd).bind (·.zero) = some (.agg (.bool false :: List.replicate 64 (.slice none 0 0)).toArray) := by kernel_rfl
  have hone : ∀ v ∈ vs, v.oneCell' = true := fun v hv => by
    obtain ⟨i, hi⟩ := List.getElem?_of_mem hv
    rcases (h.rows i v hi).2 with ⟨e, _⟩ | ⟨g, cap, cur, e, _⟩ <;> rw [e] <;> rfl
  refine al_k (cs := (.bool false :: List.replicate 64 (.slice none 0 0)).toArray) hz rfl _ fun w1 hb1 hm1 hz1 => ?_
  refine stS (cs := (.bool true :: vs).toArray) (old := (.bool false :: List.replicate 64 (.slice none 0 0)).toArray) rfl rfl (by rw [show (Try.prog.info? tPd).map (·.size) = some 65 by kernel_rfl]; simp [hl64]) (by simp [hl64]) (by simp only [List.all_toArray, List.all_cons, List.all_eq_true, Bool.and_eq_true]; exact ⟨rfl, hone⟩) hb1 fun w2 hb2 hm2 hz2 => ?_
  have hm02 : Mod none_ w w2 := hm1.fresh hm2 (Nat.le_refl _)
  rw [fo (show fieldOff Try.prog tPd 1 = some 1 by kernel_rfl), add_pl]
  refine ldA Try.underlying59 rfl (cs := vs) (by rw [show (Try.prog.info? tArr).map (·.size) = some 64 by kernel_rfl, hl64]) (fun j v hv => ?_) ?_
  · rw [add_pl, cell_blk hb2, show 0 + 1 + j = j + 1 by omega]
    simpa using hv
  refine W_loop posted_Posted_Copy_L0_ok (fun ρ w' => ∃ (n : Nat) (us : List Value), n ≤ 64 ∧ us.length = n ∧ ρ 13 = .int .i64 n ∧ ρ 3 = .pointer (some ⟨w.heap.size, 0, none⟩) ∧ ρ 12 = .agg vs.toArray ∧ CpI w' w.heap.size R vs us ∧ Mod none_ w w') (fun ρ _ => 64 - (intOf (ρ 13)).toNat)
    ⟨0, [], Nat.zero_le _, rfl, rfl, rfl, rfl, ⟨by simpa using hb2, (fun i u hu => by cases hu), (fun i j v u hv => by cases hv)⟩, hm02⟩ ?_
  rintro ρ w3 ⟨n, us, hn, hul, e13, e3, e12, hI, hm3⟩
  rw [posted_Posted_Copy_L0_eq]; unfold posted_Posted_Copy_L0_F
  rw [e13, e12, e3, BK_lss]
  by_cases hlt : n < 64
  · rw [decide_eq_true (by omega)]
    refine condT ?_
    have hx : vs[n]? = some vs[n] := List.getElem?_eq_getElem (by omega)
    have hdr : vs.drop n = vs[n] :: vs.drop (n + 1) := List.drop_eq_getElem_cons (by omega)
    generalize vs[n] = x at *
    rw [VK_eq_of (run_idxR hlt (by simpa using hx) w3)]
    have h3 := h.calm hm3
    refine CK_st Try.func51 rfl rfl (cloneR_ok (reads_of_owns (h3.rows n x hx)) (hlen n)) ?_
    rintro u w4 ⟨hO4, hm4⟩
    have hcb : w.heap.size < w3.heap.size := X.blk_lt hI.blk
    have hb4 := hm4.blk hI.blk id
    rw [fo (show fieldOff Try.prog tPd 1 = some 1 by kernel_rfl), add_pl, ixArr (by omega) (by omega)]
    have hsz : (Value.bool true :: (us ++ vs.drop us.length)).toArray.size = 65 := by simp [hl64]; omega
    refine stC rfl (by kernel_rfl) (by rcases hO4.2 with ⟨e, _⟩ | ⟨g, cap, cur, e, _⟩ <;> rw [e] <;> rfl) hb4 (by rw [hsz]; omega) fun w5 hb5 hm5 hz5 => ?_
    rw [BK_add, wrap_i (by omega) (by omega)]
    have hset : (Value.bool true :: (us ++ vs.drop us.length)).toArray.setIfInBounds (0 + 1 + ((n : Nat) : Int).toNat) u = (Value.bool true :: ((us ++ [u]) ++ vs.drop (us ++ [u]).length)).toArray := by
      rw [List.setIfInBounds_toArray, show 0 + 1 + ((n : Nat) : Int).toNat = n + 1 by omega, List.set_cons_succ, List.set_append_right _ _ (by omega), hul, Nat.sub_self, hdr, List.set_cons_zero, List.length_append, hul, List.length_singleton, List.append_assoc]
      rfl
    rw [hset] at hb5
    have hug : ∀ g, sb u g → w3.heap.size ≤ g := fun g z => (owns_bd hO4 g z).1
    have hI5 : CpI w5 w.heap.size R vs (us ++ [u]) := by
      refine ⟨hb5, fun i a ha => ?_, fun i j a b ha hb hij g za zb => ?_⟩
      · rw [List.getElem?_append] at ha
        split at ha
        · exact owns_mod (owns_mod (hI.rows i a ha) hm4 fun _ _ => id) hm5 fun k z y => by
            have := (hI.gt (List.mem_of_getElem? ha) z).1
            omega
        · rename_i hi
          have hie : i = n := by
            rcases Nat.lt_or_ge (i - us.length) 1 with q | q
            · omega
            · rw [List.getElem?_eq_none (by simpa using q)] at ha; cases ha
          rw [hie, hul, Nat.sub_self] at ha
          cases ha
          rw [hie]
          refine owns_mod (owns_base hO4 (by omega)) hm5 fun k z y => ?_
          have := hug k z
          omega
      · rw [List.getElem?_append] at ha hb
        split at ha
        · split at hb
          · exact hI.dist i j a b ha hb hij g za zb
          · rename_i hi hj
            have hbe : b = u := by
              have := List.mem_of_getElem? hb
              exact List.mem_singleton.1 this
            subst hbe
            have h1 := hug g zb
            have h2 := (hI.gt (List.mem_of_getElem? ha) za).2
            omega
        · rename_i hi
          have hae : a = u := List.mem_singleton.1 (List.mem_of_getElem? ha)
          subst hae
          split at hb
          · have h1 := hug g za
            have h2 := (hI.gt (List.mem_of_getElem? hb) zb).2
            omega
          · rename_i hj
            have h1 : i - us.length < 1 := by
              rcases Nat.lt_or_ge (i - us.length) 1 with q | q
              · exact q
              · rw [List.getElem?_eq_none (by simpa using q)] at ha; cases ha
            have h2 : j - us.length < 1 := by
              rcases Nat.lt_or_ge (j - us.length) 1 with q | q
              · exact q
              · rw [List.getElem?_eq_none (by simpa using q)] at hb; cases hb
            omega
    refine ⟨⟨n + 1, us ++ [u], hlt, by simp [hul], rfl, by first | exact e3 | rfl, by first | exact e12 | rfl, hI5, (hm3.trans hm4).then hm5 fun i hi z => by omega⟩, ?_⟩
    simp only [sq_n, sq_x, sq_r, bk_n, bk_r, bk_x, rt_r, rt_n, rs_0, rs_t, pk_1, pk_2, up_at, reduceIte, Nat.reduceEqDiff, intOf]; omega
  · obtain rfl : n = 64 := by omega
    rw [show decide (((64 : Nat) : Int) < 64) = false from rfl]
    refine condF ?_
    rw [sq_x, bk_x, sq_n, posted_Posted_Copy_R1_eq]; unfold posted_Posted_Copy_R1_F
    have hb3 := hI.blk
    rw [hul, List.drop_of_length_le (by omega), List.append_nil] at hb3
    have key : ∀ ρ0 : Sl, ρ0 3 = .pointer (some ⟨w.heap.size, 0, none⟩) → retK Try.prog [ResultVar.tmp 2] (fun u w' => ∃ p' vs', u = .pointer (some ⟨p', 0, none⟩) ∧ PAt w' p' R vs' ∧ (∀ b, PF p' vs' b → w.heap.size ≤ b) ∧ Mod none_ w w') .ret (up ρ0 2 (ρ0 3)) w3 := by
      intro ρ0 z
      show ∃ p' vs', ρ0 3 = .pointer (some ⟨p', 0, none⟩) ∧ PAt w3 p' R vs' ∧ (∀ b, PF p' vs' b → w.heap.size ≤ b) ∧ Mod none_ w w3
      rw [z]
      refine ⟨_, us, rfl, ⟨hb3, hul, fun i v hv => owns_base (hI.rows i v hv) (Nat.zero_le _), fun v hv y => ?_, hI.dist⟩, fun b y => ?_, hm3⟩
      · have := (hI.gt hv y).1; omega
      · rcases y with y | ⟨v, hv, y⟩
        · omega
        · have := (hI.gt hv y).1; omega
    exact key _ (by first | exact e3 | rfl)
end
end Go.Proofs.Ytmnkedgmpbcicaa.Que
set_option linter.unusedVariables false
set_option linter.unusedSimpArgs false
set_option maxRecDepth 8000
namespace Go.Proofs.Ytmnkedgmpbcicaa.Que
open Go Go.X Go.RowKit
theorem st_mem {ls S : List Ms} (h : Stab ltM ls S) (m : Ms) : m ∈ S ↔ m ∈ ls := by
  have e := h.eq m
  have h1 : m ∈ S ↔ m ∈ S.filter (eqv ltM m) := by
    rw [List.mem_filter]
    exact ⟨fun z => ⟨z, eqv_refl ltM_wo m⟩, fun z => z.1⟩
  have h2 : m ∈ ls ↔ m ∈ ls.filter (eqv ltM m) := by
    rw [List.mem_filter]
    exact ⟨fun z => ⟨z, eqv_refl ltM_wo m⟩, fun z => z.1⟩
  rw [h1, e, ← h2]
theorem fits_iff {r : Rc} {m : Ms} : fitsV r m = true ↔ m.ch = (r.key, m.frm, r.rank) ∧ skipV r m.frm = false ∧ (r.tag = -1 ∨ r.tag = m.tag) := by
  unfold fitsV skipV Ms.ch
  simp only [Bool.and_eq_true, Bool.or_eq_true, decide_eq_true_eq, Bool.and_eq_false_iff, Bool.not_eq_false', Prod.mk.injEq]
  constructor
  · rintro ⟨⟨⟨a, b⟩, c⟩, e⟩
    exact ⟨⟨a.symm, trivial, b.symm⟩, c, e⟩
  · rintro ⟨⟨a, _, b⟩, c, e⟩
    exact ⟨⟨⟨a.symm, b.symm⟩, c⟩, e⟩
theorem its_first {ls : List Ms} (hu : ls.Pairwise fun a b => ¬ (a.frm = b.frm ∧ a.call = b.call)) {r : Rc} {m : Ms} (hm : m ∈ ls) (ht : m.taken = false) :
    (fitsV r m = true ∧ (aheadV ls m.frm m.call).any (fitsV r) = false) ↔ skipV r m.frm = false ∧ firstV ls (r.key, m.frm, r.rank) r.tag = some m := by
  have hf : ls.find? (Ms.isAt m.frm m.call) = some m := by
    cases hq : ls.find? (Ms.isAt m.frm m.call) with
    | none => exact absurd (isAt_iff.2 ⟨rfl, rfl⟩) (List.find?_eq_none.1 hq m hm)
    | some x =>
      have hx := List.mem_of_find?_eq_some hq
      have hp := isAt_iff.1 (List.find?_some hq)
      rw [uniq_mem hu hx hm hp.1 hp.2]
  obtain ⟨j, hj, _⟩ := row_at hu hf
  have hah : aheadV ls m.frm m.call = ((rowOf ls m.ch).take j).filter nt := by
    unfold aheadV
    rw [hf]
    dsimp only
    rw [ahead_row hu hf hj]
  have hjl := (List.getElem?_eq_some_iff.1 hj).1
  have hjm := (List.getElem?_eq_some_iff.1 hj).2
  constructor
  · rintro ⟨h1, h2⟩
    obtain ⟨hc, hs, htg⟩ := fits_iff.1 h1
    refine ⟨hs, ?_⟩
    unfold firstV
    rw [← hc, List.find?_eq_some_iff_getElem]
    refine ⟨?_, j, hjl, hjm, fun i hi => ?_⟩
    · unfold fits
      simp only [ht, Bool.not_false, Bool.true_and, Bool.or_eq_true, decide_eq_true_eq]
      exact htg
    · have hil : i < (rowOf ls m.ch).length := by omega
      cases hq : fits r.tag (rowOf ls m.ch)[i] with
      | false => rfl
      | true =>
        exfalso
        unfold fits at hq
        simp only [Bool.and_eq_true, Bool.not_eq_true', Bool.or_eq_true, decide_eq_true_eq] at hq
        have hyc := (mem_row.1 (List.getElem_mem hil)).2
        have hyf : ((rowOf ls m.ch)[i]).frm = m.frm := congrArg (fun c : Ch => c.2.1) hyc
        have hmem : (rowOf ls m.ch)[i] ∈ aheadV ls m.frm m.call := by
          rw [hah]
          exact List.mem_filter.2 ⟨List.mem_take_iff_getElem.2 ⟨i, by omega, rfl⟩, by unfold nt; rw [hq.1]; rfl⟩
        have := List.any_eq_false.1 h2 _ hmem
        exact this (fits_iff.2 ⟨by rw [hyf]; exact hyc.trans hc, by rw [hyf]; exact hs, hq.2⟩)
  · rintro ⟨hs, h1⟩
    obtain ⟨_, hc, _, htg⟩ := first_mem h1
    refine ⟨fits_iff.2 ⟨hc, hs, htg⟩, ?_⟩
    rw [List.any_eq_false]
    intro y hy hfy
    rw [hah] at hy
    obtain ⟨hy1, hy2⟩ := List.mem_filter.1 hy
    obtain ⟨i, hi, he⟩ := List.mem_take_iff_getElem.1 hy1
    unfold firstV at h1
    rw [← hc, List.find?_eq_some_iff_getElem] at h1
    obtain ⟨_, j', hj', hjm', hlt⟩ := h1
    have hjj : j' = j := by
      have hpu : (rowOf ls m.ch).Pairwise fun a b => ¬ (a.frm = b.frm ∧ a.call = b.call) := hu.sublist List.filter_sublist
      rcases Nat.lt_trichotomy j' j with z | z | z
      · have := List.pairwise_iff_getElem.1 hpu j' j hj' hjl z
        rw [hjm', hjm] at this
        exact absurd ⟨rfl, rfl⟩ this
      · exact z
      · have := List.pairwise_iff_getElem.1 hpu j j' hjl hj' z
        rw [hjm', hjm] at this
        exact absurd ⟨rfl, rfl⟩ this
    subst hjj
    have := hlt i (by omega)
    rw [he] at this
    have hft : fits r.tag y = true := by
      unfold fits
      have h2 := (fits_iff.1 hfy).2.2
      unfold nt at hy2
      simp only [Bool.and_eq_true, Bool.or_eq_true, decide_eq_true_eq]
      exact ⟨hy2, h2⟩
    rw [hft] at this
    cases this
theorem filter_one {S : List Ms} (hu : S.Pairwise fun a b => ¬ (a.frm = b.frm ∧ a.call = b.call)) {p : Ms → Bool} {o : Option Ms} (h : ∀ m ∈ S, p m = true ↔ o = some m) (ho : ∀ m, o = some m → m ∈ S) : S.filter p = o.toList := by
  cases o with
  | none =>
    rw [Option.toList_none, List.filter_eq_nil_iff]
    intro m hm hp
    cases (h m hm).1 hp
  | some x =>
    rw [Option.toList_some]
    have hx := ho x rfl
    have hpu := hu.sublist (List.filter_sublist (p := p))
    have hall : ∀ y ∈ S.filter p, y = x := fun y hy => by
      obtain ⟨h1, h2⟩ := List.mem_filter.1 hy
      exact (Option.some.inj ((h y h1).1 h2)).symm
    have hmem : x ∈ S.filter p := List.mem_filter.2 ⟨hx, (h x hx).2 rfl⟩
    generalize S.filter p = L at *
    match L, hall, hmem, hpu with
    | [], _, hm, _ => cases hm
    | [a], ha, _, _ => rw [ha a (List.mem_singleton.2 rfl)]
    | a :: b :: L', ha, _, hp =>
      have h1 := ha a (List.mem_cons_self ..)
      have h2 := ha b (List.mem_cons_of_mem _ (List.mem_cons_self ..))
      have := (List.pairwise_cons.1 hp).1 b (List.mem_cons_self ..)
      rw [h1, h2] at this
      exact absurd ⟨rfl, rfl⟩ this
theorem fm_filter {p : Int → Bool} {g : Int → Option Ms} (h : ∀ x, p x = false → g x = none) : ∀ l : List Int, (l.filter p).filterMap g = l.filterMap g
  | [] => rfl
  | a :: l => by
    cases hp : p a with
    | true => rw [List.filter_cons_of_pos hp, List.filterMap_cons, List.filterMap_cons, fm_filter h l]
    | false => rw [List.filter_cons_of_neg (by rw [hp]; decide), List.filterMap_cons, h a hp, fm_filter h l]
theorem all_free {ls S : List Ms} {A : List Rc} {r : Rc} {pb : Bool} {ahead : List Rc} (hu : ls.Pairwise fun a b => ¬ (a.frm = b.frm ∧ a.call = b.call)) (hSu : S.Pairwise fun a b => ¬ (a.frm = b.frm ∧ a.call = b.call)) (hS : Stab ltM (ls.filter nt) S)
    (hw : ∀ m, ((A.filter (wq r.rank)).any fun x => (pb || decide (x.call < r.call)) && fitsV x m) = (ahead.filter wt).any fun x => fitsV x m) : allN A ls S r pb 64 = freeV ls r ahead := by
  have hsel : ∀ n : Nat, S.filter (pA A ls r pb n) = (oneV ls r (ahead.filter wt) n).toList := fun n => by
    refine filter_one hSu (fun m hm => ?_) (fun m ho => ?_)
    · have hmf := List.mem_filter.1 ((st_mem hS m).1 hm)
      have ht : m.taken = false := by
        have := hmf.2
        unfold nt at this
        simpa using this
      have hfi := its_first hu (r := r) hmf.1 ht
      unfold pA itsA
      rw [hw m, ht]
      constructor
      · intro hp
        simp only [Bool.and_eq_true, decide_eq_true_eq, Bool.not_eq_true', Bool.not_false] at hp
        obtain ⟨hf, ⟨⟨⟨_, h1⟩, h2⟩, h3⟩⟩ := hp
        obtain ⟨hs, hfv⟩ := hfi.1 ⟨h1, h2⟩
        unfold oneV
        rw [← hf, hs, if_neg (by decide), hfv]
        dsimp only
        rw [h3, if_neg (by decide)]
      · intro ho
        obtain ⟨hs, hfv, hnw, hfr⟩ := one_some ho
        rw [← hfr] at hs hfv
        obtain ⟨h1, h2⟩ := hfi.2 ⟨hs, hfv⟩
        simp only [Bool.and_eq_true, decide_eq_true_eq, Bool.not_eq_true', Bool.not_false]
        exact ⟨hfr, ⟨⟨⟨trivial, h1⟩, h2⟩, List.any_eq_false.2 fun x hx => by rw [hnw x hx]; decide⟩⟩
    · obtain ⟨_, hfv, _, _⟩ := one_some ho
      obtain ⟨h1, _, h3, _⟩ := first_mem hfv
      exact (st_mem hS m).2 (List.mem_filter.2 ⟨h1, by unfold nt; rw [h3]; rfl⟩)
  have hN : ∀ n : Nat, allN A ls S r pb n = ((List.range n).map fun n : Nat => (n : Int)).filterMap (oneV ls r (ahead.filter wt)) := fun n => by
    induction n with
    | zero => rfl
    | succ n ih =>
      unfold allN
      rw [ih, hsel n, List.range_succ, List.map_append, List.filterMap_append, List.map_singleton]
      generalize ((List.range n).map fun n : Nat => (n : Int)).filterMap (oneV ls r (ahead.filter wt)) = X
      rw [List.filterMap_cons]
      cases oneV ls r (ahead.filter wt) n <;> rfl
  rw [hN 64]
  unfold freeV sendersV
  refine (fm_filter (p := sentBy ls r.key r.rank) (fun f hf => ?_) _).symm
  cases ho : oneV ls r (ahead.filter wt) f with
  | none => rfl
  | some m =>
    exfalso
    obtain ⟨_, hfv, _, hfr⟩ := one_some ho
    obtain ⟨h1, h2, h3, _⟩ := first_mem hfv
    unfold sentBy at hf
    have := List.any_eq_false.1 hf m h1
    unfold nt at this
    rw [h3, decide_eq_true h2] at this
    exact this rfl
end Go.Proofs.Ytmnkedgmpbcicaa.Que
set_option linter.unusedVariables false
set_option linter.unusedSimpArgs false
set_option maxRecDepth 8000
namespace Go.X
open Go Go.RowKit
theorem stab_ex {α : Type} {lt : α → α → Bool} (W : WO lt) : ∀ l : List α, ∃ S, Stab lt l S
  | [] => ⟨[], Stab.refl List.Pairwise.nil⟩
  | x :: l => by
    obtain ⟨Y, hY⟩ := stab_ex W l
    have hs := hY.so
    have e : Y.takeWhile (fun a => lt a x) ++ Y.dropWhile (fun a => lt a x) = Y := List.takeWhile_append_dropWhile
    refine ⟨Y.takeWhile (fun a => lt a x) ++ x :: Y.dropWhile (fun a => lt a x), ?_⟩
    have h1 : ∀ a ∈ Y.takeWhile (fun a => lt a x), lt a x = true := fun a ha => List.all_eq_true.1 List.all_takeWhile a ha
    have h2 : ∀ b ∈ Y.dropWhile (fun a => lt a x), lt b x = false := by
      intro b hb
      cases hd : Y.dropWhile (fun a => lt a x) with
      | nil => rw [hd] at hb; cases hb
      | cons b0 B =>
        have hb0 : lt b0 x = false := by
          have := List.head?_dropWhile_not (fun a => lt a x) Y
          rw [hd] at this
          simpa using this
        rw [hd] at hb
        rcases List.mem_cons.1 hb with rfl | hb
        · exact hb0
        · rw [← e, hd] at hs
          have := (List.pairwise_cons.1 (List.pairwise_append.1 hs).2.1).1 b hb
          exact W.tr x b0 b hb0 this
    have hst := stab_out W (by rw [e]; exact hs : SortedL lt (Y.takeWhile (fun a => lt a x) ++ Y.dropWhile (fun a => lt a x))) h1 h2
    rw [e] at hst
    exact Stab.trans (fun y => by rw [List.filter_cons, List.filter_cons, hY.eq]) hst
theorem any_cg {α : Type} {p q : α → Bool} : ∀ {l : List α}, (∀ x ∈ l, p x = q x) → l.any p = l.any q
  | [], _ => rfl
  | a :: l, h => by
    rw [List.any_cons, List.any_cons, h a (List.mem_cons_self ..), any_cg fun x hx => h x (List.mem_cons_of_mem _ hx)]
section
variable {ls S : List Ms} {m : Ms} {i : Nat}
theorem left_mem (h : Stab ltM (ls.filter nt) S) (hm : S[i]? = some m) : m ∈ ls ∧ m.taken = false := by
  have := (Stab.mem ltM_wo h).1 (List.mem_of_getElem? hm)
  have h2 := List.mem_filter.1 this
  exact ⟨h2.1, by simpa [nt] using h2.2⟩
theorem left_uniq (hu : ls.Pairwise fun a b => ¬ (a.frm = b.frm ∧ a.call = b.call)) (h : Stab ltM (ls.filter nt) S) : S.Pairwise fun a b => ¬ (a.frm = b.frm ∧ a.call = b.call) := by
  refine List.pairwise_iff_getElem.2 fun i j hi hj hij z => ?_
  have hsi : S[i]? = some S[i] := List.getElem?_eq_getElem hi
  have hsj : S[j]? = some S[j] := List.getElem?_eq_getElem hj
  have he := uniq_mem hu (left_mem h hsi).1 (left_mem h hsj).1 z.1 z.2
  have hp : (S.filter (eqv ltM S[j])).Pairwise fun a b => ¬ (a.frm = b.frm ∧ a.call = b.call) := by
    rw [h.eq]; exact (hu.filter _).filter _
  have hd : S = S.take j ++ S[j] :: S.drop (j + 1) := by rw [← List.drop_eq_getElem_cons hj, List.take_append_drop]
  have hin : S[j] ∈ S.take j := by rw [← he]; exact List.mem_take_iff_getElem.2 ⟨i, by omega, rfl⟩
  generalize S[j] = y at *
  rw [hd, List.filter_append, List.filter_cons_of_pos (eqv_refl ltM_wo y)] at hp
  exact (List.pairwise_append.1 hp).2.2 y (List.mem_filter.2 ⟨hin, eqv_refl ltM_wo y⟩) y List.mem_cons_self ⟨rfl, rfl⟩
end
def isK (k : Int) (r : Rc) : Bool := decide (r.rank = k)
theorem set_map {l : List Rc} (h : l.Pairwise fun a b => a.call < b.call) {c : Int} {j : Nat} {r : Rc} (hj : l.findIdx? (fun x => decide (x.call = c)) = some j) (hx : l[j]? = some r) (g : Rc → Rc) (hg : ∀ x ∈ l, x.call ≠ c → g x = x) : l.set j (g r) = l.map g := by
  refine List.ext_getElem? fun i => ?_
  rw [List.getElem?_map]
  by_cases e : i = j
  · subst e
    rw [List.getElem?_set_self (List.getElem?_eq_some_iff.1 hx).1, hx]
    rfl
  · rw [List.getElem?_set_ne (fun z => e z.symm)]
    cases hi : l[i]? with
    | none => rfl
    | some x =>
      rw [Option.map_some, hg x (List.mem_of_getElem? hi)]
      intro hc
      rw [List.findIdx?_eq_some_iff_getElem] at hj
      obtain ⟨hjl, hp, _⟩ := hj
      have hjc := of_decide_eq_true hp
      obtain ⟨hil, hie⟩ := List.getElem?_eq_some_iff.1 hi
      rcases Nat.lt_trichotomy i j with z | z | z
      · have := List.pairwise_iff_getElem.1 h i j hil hjl z
        rw [hie] at this; omega
      · exact e z
      · have := List.pairwise_iff_getElem.1 h j i hjl hil z
        rw [hie] at this; omega
theorem any_last {l : List Rc} (h : l.Pairwise fun a b => a.call < b.call) (c : Int) : (l.any fun x => decide (c ≤ x.call)) = match l.getLast? with | none => false | some x => decide (c ≤ x.call) := by
  rcases List.eq_nil_or_concat l with rfl | ⟨a, x, rfl⟩
  · rfl
  · rw [List.concat_eq_append] at *
    rw [List.getLast?_append, List.any_append]
    have hp := (List.pairwise_append.1 h).2.2
    cases hd : decide (c ≤ x.call) with
    | true => simp [hd]
    | false =>
      have hno : (a.any fun x => decide (c ≤ x.call)) = false := List.any_eq_false.2 fun y hy => by
        have := hp y hy x (List.mem_singleton.2 rfl)
        have := of_decide_eq_false hd
        simp; omega
      simp [hd, hno]
end Go.X
namespace Go.Proofs.Ytmnkedgmpbcicaa.Que
open Go Go.X Go.RowKit
structure RelA (A : List Rc) (R : Rks) : Prop where
  rk : ∀ r ∈ A, 0 ≤ r.rank ∧ r.rank ≤ 63
  row : ∀ k, rowP R k = A.filter (isK k)
  cl : ∀ r ∈ A, 0 ≤ r.call
theorem RelA.nil : RelA [] (fun _ => []) := ⟨fun r hr => (by cases hr), fun k => (by unfold rowP; split <;> rfl), fun r hr => (by cases hr)⟩
theorem bad_call {r : Rc} {l : List Rc} (h : badR r l = false) : 0 ≤ r.call := by
  unfold badR at h
  simp only [Bool.or_eq_false_iff, decide_eq_false_iff_not] at h
  have := h.1.2
  omega
theorem rowP_asc {R : Rks} {ls : List Ms} (h : OkQ R ls) (k : Int) : (rowP R k).Pairwise fun a b => a.call < b.call := by
  unfold rowP
  split
  · exact h.asc _
  · exact List.Pairwise.nil
theorem rowP_put {R : Rks} {r k : Int} {l : List Rc} (hr : 0 ≤ r ∧ r ≤ 63) : rowP (putR R r.toNat l) k = if k = r then l else rowP R k := by
  unfold rowP putR
  by_cases e : k = r
  · subst e
    rw [if_pos hr, if_pos rfl, if_pos rfl]
  · rw [if_neg e]
    by_cases hk : 0 ≤ k ∧ k ≤ 63
    · rw [if_pos hk, if_pos hk, if_neg (by omega)]
    · rw [if_neg hk, if_neg hk]
theorem rel_post {A : List Rc} {R : Rks} {ls : List Ms} (h : RelA A R) (hok : OkQ R ls) (r : Rc) : (postA A r).2 = (postV R r).2 ∧ RelA (postA A r).1 (postV R r).1 := by
  have hs : sameA A r = match (rowP R r.rank).getLast? with | none => false | some x => decide (r.call ≤ x.call) := by
    rw [← any_last (rowP_asc hok r.rank), h.row, List.any_filter]
    rfl
  have hb : (badF r || sameA A r) = badR r (rowP R r.rank) := by
    have hl : ∃ b, b = sameA A r ∧ badR r (rowP R r.rank) = (!(decide (0 ≤ r.rank) && decide (r.rank ≤ 63)) || !(decide (-1 ≤ r.peer) && decide (r.peer ≤ 63)) || !(decide (-1 ≤ r.tag) && decide (r.tag ≤ 32767)) || decide (r.req < -1) || decide (r.call < 0) || b) := ⟨_, hs.symm, rfl⟩
    obtain ⟨b, hb1, hb2⟩ := hl
    rw [hb2, ← hb1]
    unfold badF
    cases b with
    | true => simp
    | false =>
      rw [Bool.eq_iff_iff]
      simp only [Bool.or_eq_true, Bool.not_eq_true', Bool.and_eq_false_iff, decide_eq_true_eq, decide_eq_false_iff_not, Bool.or_false]
      omega
  unfold postA postV
  rw [hb]
  cases hq : badR r (rowP R r.rank) with
  | true => exact ⟨rfl, h⟩
  | false =>
    rw [if_neg (by decide), if_neg (by decide)]
    have hr := (bad_no hq).1
    refine ⟨rfl, fun x hx => ?_, fun k => ?_, fun x hx => ?_⟩
    rotate_left 2
    · rcases List.mem_append.1 hx with z | z
      · exact h.cl x z
      · rw [List.mem_singleton.1 z]; exact bad_call hq
    · rcases List.mem_append.1 hx with z | z
      · exact h.rk x z
      · rw [List.mem_singleton.1 z]; exact hr
    · dsimp only
      rw [rowP_put hr, List.filter_append, ← h.row]
      by_cases e : k = r.rank
      · subst e
        rw [if_pos rfl, List.filter_cons_of_pos (by unfold isK; exact decide_eq_true rfl), List.filter_nil]
      · rw [if_neg e, List.filter_cons_of_neg (by unfold isK; rw [decide_eq_false (fun z : r.new.rank = k => e z.symm)]; decide), List.filter_nil, List.append_nil]
theorem rel_set {A : List Rc} {R : Rks} {ls : List Ms} (h : RelA A R) (hok : OkQ R ls) (rk c f s : Int) : RelA (A.map (gotA rk c f s)) (setV R rk c f s) := by
  have hgr : ∀ x : Rc, (gotA rk c f s x).rank = x.rank := fun x => by unfold gotA; split <;> rfl
  have hfil : ∀ k, (A.map (gotA rk c f s)).filter (isK k) = (rowP R k).map (gotA rk c f s) := fun k => by
    rw [h.row, List.filter_map]
    congr 1
    refine List.filter_congr fun x _ => ?_
    unfold isK
    simp [hgr]
  have hmem : ∀ k x, x ∈ rowP R k → x.rank = k := fun k x hx => by
    rw [h.row] at hx
    have := (List.mem_filter.1 hx).2
    unfold isK at this
    exact of_decide_eq_true this
  have hid : ∀ k, (∀ x ∈ rowP R k, isRC rk c x = false) → (rowP R k).map (gotA rk c f s) = rowP R k := fun k hk => by
    conv => rhs; rw [← List.map_id (rowP R k)]
    refine List.map_congr_left fun x hx => ?_
    unfold gotA
    rw [hk x hx]
    rfl
  refine ⟨fun x hx => ?_, fun k => ?_, fun x hx => ?_⟩
  rotate_left 2
  · obtain ⟨y, hy, rfl⟩ := List.mem_map.1 hx
    have e : (gotA rk c f s y).call = y.call := by unfold gotA; split <;> rfl
    rw [e]
    exact h.cl y hy
  · obtain ⟨y, hy, rfl⟩ := List.mem_map.1 hx
    rw [hgr]
    exact h.rk y hy
  · rw [hfil]
    unfold setV
    rcases idxR_find (l := rowP R rk) (q := isC c) with ⟨_, hf⟩ | ⟨j, r, _, hjr, hf, hj⟩
    · have hn : (rowP R rk).findIdx? (isC c) = none := by
        rw [List.findIdx?_eq_none_iff]
        intro x hx
        have := List.find?_eq_none.1 hf x hx
        simpa using this
      rw [hn]
      refine (hid k fun x hx => ?_).symm
      unfold isRC
      by_cases e : x.rank = rk
      · have hk := hmem k x hx
        rw [← hk, e] at hx
        have := List.find?_eq_none.1 hf x hx
        unfold isC at this
        have hc : ¬ x.call = c := by simpa using this
        rw [decide_eq_false hc, Bool.and_false]
      · rw [decide_eq_false e]; rfl
    · rw [hj]
      dsimp only
      rw [hjr]
      dsimp only
      have hr : 0 ≤ rk ∧ rk ≤ 63 := by
        have hx := List.mem_of_getElem? hjr
        have := hmem rk r hx
        rw [h.row] at hx
        rw [← this]
        exact h.rk r (List.mem_filter.1 hx).1
      rw [rowP_put hr]
      by_cases e : k = rk
      · subst e
        rw [if_pos rfl]
        have hg : gotA k c f s r = r.got f s := by
          have h1 := hmem k r (List.mem_of_getElem? hjr)
          have h2 := List.find?_some hf
          unfold isC at h2
          unfold gotA isRC
          rw [decide_eq_true h1, h2]
          rfl
        rw [← hg]
        refine set_map (rowP_asc hok k) hj hjr _ fun x hx hc => ?_
        unfold gotA isRC
        rw [decide_eq_false hc, Bool.and_false]
        rfl
      · rw [if_neg e]
        refine (hid k fun x hx => ?_).symm
        have := hmem k x hx
        unfold isRC
        rw [decide_eq_false (by omega)]
        rfl
theorem rel_at {A : List Rc} {R : Rks} (h : RelA A R) (rk c : Int) : A.find? (isRC rk c) = atV R rk c := by
  unfold atV
  rw [h.row, List.find?_filter]
  congr 1
  funext a
  rw [Bool.eq_iff_iff]
  simp [isRC, isK, isC]
theorem rel_wait {A : List Rc} {R : Rks} (h : RelA A R) (rk : Int) : A.filter (wq rk) = (rowP R rk).filter wt := by
  rw [h.row, List.filter_filter]
  refine List.filter_congr fun x _ => ?_
  unfold wq wt isK
  rw [Bool.and_comm]
section
variable {A : List Rc} {R : Rks} {ls S : List Ms}
theorem rel_may (h : RelA A R) (hok : OkQ R ls) (hu : ls.Pairwise fun a b => ¬ (a.frm = b.frm ∧ a.call = b.call)) (hS : Stab ltM (ls.filter nt) S) (hSu : S.Pairwise fun a b => ¬ (a.frm = b.frm ∧ a.call = b.call)) (rk c : Int) : mayL A ls S rk c = mayV R ls rk c := by
  unfold mayL mayV
  rw [rel_at h]
  unfold atV
  rcases idxR_find (l := rowP R rk) (q := isC c) with ⟨_, hf⟩ | ⟨j, r, _, hjr, hf, hj⟩
  · have hn : (rowP R rk).findIdx? (isC c) = none := by
      rw [List.findIdx?_eq_none_iff]
      intro x hx
      have := List.find?_eq_none.1 hf x hx
      simpa using this
    rw [hn, hf]
  · rw [hj, hf]
    dsimp only
    rw [hjr]
    dsimp only
    have hrr : r.rank = rk := by
      have hx := List.mem_of_getElem? hjr
      rw [h.row] at hx
      have := (List.mem_filter.1 hx).2
      unfold isK at this
      exact of_decide_eq_true this
    have hfree : allN A ls S r false 64 = freeV ls r ((rowP R rk).take j) := by
      refine all_free hu hSu hS fun m => ?_
      rw [hrr, rel_wait h]
      have hasc := rowP_asc hok rk
      generalize rowP R rk = l at *
      obtain ⟨hjl, hje⟩ := List.getElem?_eq_some_iff.1 hjr
      have hd : l = l.take j ++ l.drop j := (List.take_append_drop j l).symm
      have h1 : ∀ x ∈ l.take j, decide (x.call < r.call) = true := fun x hx => by
        obtain ⟨i, hi, he⟩ := List.mem_take_iff_getElem.1 hx
        have := List.pairwise_iff_getElem.1 hasc i j (by omega) hjl (by omega)
        rw [he, hje] at this
        exact decide_eq_true this
      have h2 : ∀ x ∈ l.drop j, decide (x.call < r.call) = false := fun x hx => by
        obtain ⟨i, hi, he⟩ := List.mem_drop_iff_getElem.1 hx
        refine decide_eq_false ?_
        by_cases e : i = 0
        · subst e
          have : x = r := by rw [← he, ← hje]; rfl
          rw [this]; omega
        · have := List.pairwise_iff_getElem.1 hasc j (j + i) hjl (by omega) (by omega)
          rw [he, hje] at this
          omega
      conv => lhs; rw [hd]
      rw [List.filter_append, List.any_append]
      have e2 : ((l.drop j).filter wt).any (fun x => (false || decide (x.call < r.call)) && fitsV x m) = false := List.any_eq_false.2 fun x hx => by
        rw [h2 x (List.mem_filter.1 hx).1]; simp
      rw [e2, Bool.or_false]
      refine any_cg fun x hx => ?_
      rw [h1 x (List.mem_filter.1 hx).1]
      rfl
    rw [hfree]
theorem rel_match (h : RelA A R) (hok : OkQ R ls) (hu : ls.Pairwise fun a b => ¬ (a.frm = b.frm ∧ a.call = b.call)) (hS : Stab ltM (ls.filter nt) S) (hSu : S.Pairwise fun a b => ¬ (a.frm = b.frm ∧ a.call = b.call)) (rk c f s : Int) :
    (matchA A ls S rk c f s).2 = (matchV R ls rk c f s).2 ∧ (matchA A ls S rk c f s).1.2 = (matchV R ls rk c f s).1.2 ∧ RelA (matchA A ls S rk c f s).1.1 (matchV R ls rk c f s).1.1 := by
  unfold matchA
  rw [rel_may h hok hu hS hSu]
  cases ha : (mayV R ls rk c).any (Ms.isAt f s) with
  | false =>
    unfold matchV
    rw [ha, if_neg (by decide), if_neg (by decide)]
    exact ⟨rfl, rfl, h⟩
  | true =>
    rw [if_pos rfl]
    obtain ⟨m, hm, hp⟩ := List.any_eq_true.1 ha
    obtain ⟨rfl, rfl⟩ := isAt_iff.1 hp
    obtain ⟨_, j, r, _, _, _, hf⟩ := may_some hm
    have hM := free_mem hf
    rw [may_match hu hm, take_of hu hM.mem hM.un]
    exact ⟨rfl, rfl, rel_set h hok rk c _ _⟩
end
end Go.Proofs.Ytmnkedgmpbcicaa.Que
set_option linter.unusedVariables false
set_option linter.unusedSimpArgs false
set_option maxRecDepth 8000
namespace Go.Proofs.Ytmnkedgmpbcicaa.Que
open Go Go.X Go.RowKit Go.Proofs.Ytmnkedgmpbcicaa.XF Go.Proofs.Ytmnkedgmpbcicaa.XG Go.Proofs.Ytmnkedgmpbcicaa.XK
abbrev tPl : TypeId := 69
structure PlS where
  q : Nat
  p : Nat
  k : Nat
  d : Nat
  ls : List Ms
  V : QV
  R : Rks
  vs : List Value
  ld : List Ms
  D : Value
  A : List Rc
  v : Value
def PlS.cs (s : PlS) : Array Value := #[.pointer (some ⟨s.q, 0, none⟩), .pointer (some ⟨s.p, 0, none⟩), .pointer (some ⟨s.k, 0, none⟩), .pointer (some ⟨s.d, 0, none⟩)]
def PlS.F (s : PlS) (b : Nat) : Prop := s.V.F s.q b ∨ PF s.p s.vs b
structure PlB (w0 w : World) (x : Nat) (s : PlS) : Prop where
  blk : w.heap[x]? = some (.cells s.cs tPl (0, 0))
  pp : PP w0 w s.q s.p s.ls s.V s.R s.vs
  dq : DAt w s.k s.ld s.D
  ed : EAt w s.d s.A s.v
  aQ : ∀ b, s.F b → ¬ DF s.k s.D b ∧ ¬ EF s.d s.v b ∧ b ≠ x
  aD : ∀ b, DF s.k s.D b → ¬ EF s.d s.v b ∧ b ≠ x
  aE : ∀ b, EF s.d s.v b → b ≠ x
  fd : ∀ b, DF s.k s.D b → w0.heap.size ≤ b
  fe : ∀ b, EF s.d s.v b → w0.heap.size ≤ b
  fx : w0.heap.size ≤ x
section
variable {w0 w w1 : World} {x : Nat} {s : PlS}
theorem PlB.oldF (h : PlB w0 w x s) : ∀ b, s.F b → b < w.heap.size := by
  rintro b (z | z)
  · exact h.pp.qa.old b z
  · exact h.pp.pa.old b z
theorem PlB.xl (h : PlB w0 w x s) : x < w.heap.size := X.blk_lt h.blk
theorem PlB.calm (h : PlB w0 w x s) (hm : Mod none_ w w1) : PlB w0 w1 x s := ⟨hm.blk h.blk id, h.pp.calm hm, h.dq.calm hm, h.ed.calm hm, h.aQ, h.aD, h.aE, h.fd, h.fe, h.fx⟩
theorem PlB.onP (h : PlB w0 w x s) {ls1 : List Ms} {V1 : QV} {R1 : Rks} {vs1 : List Value} (h1 : PP w0 w1 s.q s.p ls1 V1 R1 vs1) (f : MFr s.q s.p w s.V s.vs w1 V1 vs1) : PlB w0 w1 x { s with ls := ls1, V := V1, R := R1, vs := vs1 } := by
  have hm : Mod s.F w w1 := f.mod
  refine ⟨hm.blk h.blk fun z => (h.aQ _ z).2.2 rfl, h1, h.dq.mod hm fun b z y => (h.aQ b y).1 z, h.ed.mod hm fun b z y => (h.aQ b y).2.1 z, fun b z => ?_, h.aD, h.aE, h.fd, h.fe, h.fx⟩
  rcases f.f b z with u | u
  · exact h.aQ b u
  · refine ⟨fun y => ?_, fun y => ?_, fun y => ?_⟩
    · have := h.dq.old b y; omega
    · have := h.ed.old b y; omega
    · have := h.xl; omega
theorem PlB.onD (h : PlB w0 w x s) {l1 : List Ms} {D1 : Value} (h1 : DAt w1 s.k l1 D1) (f : DFr s.k w s.D w1 D1) : PlB w0 w1 x { s with ld := l1, D := D1 } := by
  have hm := f.mod
  have hs := h.pp.mod.size
  refine ⟨hm.blk h.blk fun z => (h.aD _ z).2 rfl, h.pp.move hm fun b z => ⟨fun y => (h.aQ b (.inl y)).1 z, fun y => (h.aQ b (.inr y)).1 z, h.fd b z⟩, h1, h.ed.mod hm fun b z y => (h.aD b y).1 z, fun b z => ⟨fun y => ?_, (h.aQ b z).2⟩, fun b z => ?_, h.aE, fun b z => ?_, h.fe, h.fx⟩
  · rcases f.f b y with u | u
    · exact (h.aQ b z).1 u
    · have := h.oldF b z; omega
  · rcases f.f b z with u | u
    · exact h.aD b u
    · refine ⟨fun y => ?_, fun y => ?_⟩
      · have := h.ed.old b y; omega
      · have := h.xl; omega
  · rcases f.f b z with u | u
    · exact h.fd b u
    · omega
theorem PlB.onE (h : PlB w0 w x s) {A1 : List Rc} {v1 : Value} (h1 : EAt w1 s.d A1 v1) (f : EFr s.d w s.v w1 v1) : PlB w0 w1 x { s with A := A1, v := v1 } := by
  have hm := f.mod
  have hs := h.pp.mod.size
  refine ⟨hm.blk h.blk fun z => h.aE _ z rfl, h.pp.move hm fun b z => ⟨fun y => (h.aQ b (.inl y)).2.1 z, fun y => (h.aQ b (.inr y)).2.1 z, h.fe b z⟩, h.dq.mod hm fun b z y => (h.aD b z).1 y, h1, fun b z => ⟨(h.aQ b z).1, fun y => ?_, (h.aQ b z).2.2⟩, fun b z => ⟨fun y => ?_, (h.aD b z).2⟩, fun b z => ?_, h.fd, fun b z => ?_, h.fx⟩
  · rcases f.f b y with u | u
    · exact (h.aQ b z).2.1 u
    · have := h.oldF b z; omega
  · rcases f.f b y with u | u
    · exact (h.aD b z).1 u
    · have := h.dq.old b z; omega
  · rcases f.f b z with u | u
    · exact h.aE b u
    · have := h.xl; omega
  · rcases f.f b z with u | u
    · exact h.fe b u
    · omega
structure PlAt (w0 w : World) (x : Nat) (s : PlS) (n : Nat) : Prop where
  b : PlB w0 w x s
  e : s.ld = s.ls
  rel : RelA s.A s.R
  ok : OkQ s.R s.ls
  hR : ∀ i, (s.R i).length ≤ n
  hl : s.ls.length ≤ n
  hA : s.A.length ≤ n
theorem PlAt.calm {n : Nat} (h : PlAt w0 w x s n) (hm : Mod none_ w w1) : PlAt w0 w1 x s n := ⟨h.b.calm hm, h.e, h.rel, h.ok, h.hR, h.hl, h.hA⟩
theorem PlAt.dq {n : Nat} (h : PlAt w0 w x s n) : DAt w s.k s.ls s.D := by
  have := h.b.dq
  rw [h.e] at this
  exact this
theorem PlAt.uniq {n : Nat} (h : PlAt w0 w x s n) : s.ls.Pairwise fun a b => ¬ (a.frm = b.frm ∧ a.call = b.call) := h.b.pp.qa.inv.uniq
def PlS.all (s : PlS) (x b : Nat) : Prop := s.F b ∨ DF s.k s.D b ∨ EF s.d s.v b ∨ b = x
theorem PlB.oldA (h : PlB w0 w x s) : ∀ b, s.all x b → b < w.heap.size := by
  rintro b (z | z | z | z)
  · exact h.oldF b z
  · exact h.dq.old b z
  · exact h.ed.old b z
  · have := h.xl; omega
end
section
variable {w : World} {b3 : Nat} {a : Bc}
theorem fld {t : TypeId} {i off b o c : Nat} (h : fieldOff Try.prog t i = some off) (hc : c = o + off) (w : World) : (Instr.fieldAt t (.pointer (some ⟨b, o, none⟩)) i).run Try.prog w = .ok (.pointer (some ⟨b, c, none⟩)) w := by rw [run_fo h, add_pl, hc]
theorem act_c (hb : w.heap[b3]? = some (.cells a.enc.toArray tBc (0, 0))) {k : Nat} {u : Value} (hu : a.enc[k]? = some u) : w.cell? ⟨b3, k, none⟩ = some u := by
  rw [cell_blk hb]
  simpa using hu
theorem act_m (hb : w.heap[b3]? = some (.cells a.enc.toArray tBc (0, 0))) : (Instr.loadAt tMs (.pointer (some ⟨b3, 1, none⟩))).run Try.prog w = .ok (.agg a.m.enc.toArray) w := by
  refine run_ldA (cs := a.m.enc) Try.underlying39 rfl (by rw [iMs]; rfl) fun j u hu => ?_
  rw [add_pl]
  refine act_c hb ?_
  unfold Bc.enc
  rw [show 1 + j = j + 1 by omega, List.getElem?_cons_succ, List.getElem?_append_left (List.getElem?_eq_some_iff.1 hu).1]
  exact hu
theorem act_r (hb : w.heap[b3]? = some (.cells a.enc.toArray tBc (0, 0))) : (Instr.loadAt tRc (.pointer (some ⟨b3, 9, none⟩))).run Try.prog w = .ok (.agg a.r.enc.toArray) w := by
  refine run_ldA (cs := a.r.enc) Try.underlying24 rfl (by rw [iRc]; rfl) fun j u hu => ?_
  rw [add_pl]
  refine act_c hb ?_
  unfold Bc.enc
  rw [show 9 + j = (8 + j) + 1 by omega, List.getElem?_cons_succ, List.getElem?_append_right (by rw [Ms.enc_len]; omega), Ms.enc_len, show 8 + j - 8 = j by omega]
  exact hu
theorem act_i (hb : w.heap[b3]? = some (.cells a.enc.toArray tBc (0, 0))) {k : Nat} {n : Int} (hu : a.enc[k]? = some (.int .i64 n)) : (Instr.loadAt 3 (.pointer (some ⟨b3, k, none⟩))).run Try.prog w = .ok (.int .i64 n) w := run_ld1 vI rfl (act_c hb hu)
theorem pl_c {s : PlS} {x : Nat} (hb : w.heap[x]? = some (.cells s.cs tPl (0, 0))) {k : Nat} {u : Value} (hu : s.cs[k]? = some u) : w.cell? ⟨x, k, none⟩ = some u := by
  rw [cell_blk hb]; exact hu
theorem uPW : Try.prog.underlying 66 = some (.pointer 97) := by kernel_rfl
theorem uPE : Try.prog.underlying 67 = some (.pointer 71) := by kernel_rfl
end
section
variable {w0 w : World} {x b3 n : Nat} {s : PlS} {a : Bc}
theorem does_R2 {K : Exit → Sl → World → Prop} {ρ : Sl} (h : PlAt w0 w x s n) (hn : n ≤ 400) (hb : w.heap[b3]? = some (.cells a.enc.toArray tBc (0, 0))) (nb : ¬ s.all x b3) (e0 : ρ 0 = .pointer (some ⟨x, 0, none⟩)) (e3 : ρ 3 = .pointer (some ⟨b3, 0, none⟩))
    (hk : ∀ (ρ' : Sl) (w' : World) (s' : PlS), ρ' 4 = .bool true → PlAt w0 w' x s' (n + 1) → Mod (s.all x) w w' → K .normal ρ' w') : W fn_ Try.prog 150 dispatcherlaw14_play_does_R2 K ρ w := by
  have hmd : Mod none_ w { w with drawn := w.drawn + 1 } := (Mod.refl _ w).drawn _
  have hd := h.calm hmd
  have hbd := hmd.blk hb id
  refine dispatcherlaw14_play_does_R2_held (D := []) (fun w' => w'.heap[x]? = some (.cells s.cs tPl (0, 0)) ∧ w'.heap[b3]? = some (.cells a.enc.toArray tBc (0, 0))) ⟨hd.b.blk, hbd⟩ ?_
  generalize ({ w with drawn := w.drawn + 1 } : World) = wd at *
  unfold dispatcherlaw14_play_does_R2_H dispatcherlaw14_play_does_R2_H0
  rw [e0, e3]
  refine HN_ptr ?_
  refine HV_of (fun w _ => fld (c := 0) (show fieldOff Try.prog tPl 0 = some 0 by kernel_rfl) rfl w) ?_
  refine HV_of (fun w hw => run_ld1 uQ rfl (pl_c hw.1 (k := 0) rfl)) ?_
  refine HV_of (fun w _ => fld (c := 1) (show fieldOff Try.prog tBc 1 = some 1 by kernel_rfl) rfl w) ?_
  refine HV_of (fun w hw => act_m hw.2) ?_
  refine HN_ptr ?_
  refine HV_of (fun w _ => fld (c := 2) (show fieldOff Try.prog tPl 2 = some 2 by kernel_rfl) rfl w) ?_
  refine HV_of (fun w hw => run_ld1 uPW rfl (pl_c hw.1 (k := 2) rfl)) ?_
  refine HV_of (fun w _ => fld (c := 1) (show fieldOff Try.prog tBc 1 = some 1 by kernel_rfl) rfl w) ?_
  refine HV_of (fun w hw => act_m hw.2) ?_
  have key : ∀ ρ2 : Sl, ρ2 16 = .pointer (some ⟨s.q, 0, none⟩) → ρ2 18 = .agg a.m.enc.toArray → ρ2 23 = .pointer (some ⟨s.k, 0, none⟩) → ρ2 25 = .agg a.m.enc.toArray → dispatcherlaw14_play_does_R2_H1 (fun w' => w'.heap[x]? = some (.cells s.cs tPl (0, 0)) ∧ w'.heap[b3]? = some (.cells a.enc.toArray tBc (0, 0))) (K .normal) ρ2 wd := by
    intro ρ2 t16 t18 t23 t25
    unfold dispatcherlaw14_play_does_R2_H1
    rw [t16, t18, t23, t25]
    have hl := h.hl
    refine CK_st Try.func25 rfl rfl (Send_ok hd.b.pp.qa (by omega) a.m) ?_
    rintro _ w1 ⟨rfl, V1, h1, f1⟩
    have hB1 := hd.b.onP (hd.b.pp.onQ h1 f1) (MFr.q f1)
    have hb1 := f1.mod.blk hbd fun z => nb (.inl (.inl z))
    refine ⟨⟨hB1.blk, hb1⟩, ?_⟩
    have hq1 := hB1.dq
    rw [show ({ s with ls := (sendV s.ls a.m).1, V := V1, R := s.R, vs := s.vs } : PlS).ld = s.ls from h.e] at hq1
    refine CK_st Try.func52 rfl rfl (RSend_ok hq1 (by omega) a.m) ?_
    rintro _ w2 ⟨rfl, D1, h2, f2⟩
    have hB2 := hB1.onD h2 f2
    refine ⟨⟨hB2.blk, f2.mod.blk hb1 fun z => nb (.inr (.inl z))⟩, ?_⟩
    refine HB_of (v := .bool true) (fun _ => rfl) (fun w => by simp [go_sem]) ?_
    have hsl := sendV_len s.ls a.m
    refine hk _ w2 _ rfl ⟨hB2, rfl, h.rel, h.ok.step (.send a.m), fun i => Nat.le_succ_of_le (h.hR i), by show (sendV s.ls a.m).1.length ≤ n + 1; omega, Nat.le_succ_of_le h.hA⟩ (((hmd.mono fun b _ z => z.elim : Mod (s.all x) w wd).then f1.mod fun i hi z => .inl (.inl z)).then f2.mod fun i hi z => .inr (.inl z))
  exact key _ rfl rfl rfl rfl
theorem does_R4 {K : Exit → Sl → World → Prop} {ρ : Sl} (h : PlAt w0 w x s n) (hn : n ≤ 400) (hb : w.heap[b3]? = some (.cells a.enc.toArray tBc (0, 0))) (nb : ¬ s.all x b3) (e0 : ρ 0 = .pointer (some ⟨x, 0, none⟩)) (e3 : ρ 3 = .pointer (some ⟨b3, 0, none⟩))
    (hk : ∀ (ρ' : Sl) (w' : World) (s' : PlS), ρ' 4 = .bool true → PlAt w0 w' x s' (n + 1) → Mod (s.all x) w w' → K .normal ρ' w') : W fn_ Try.prog 150 dispatcherlaw14_play_does_R4 K ρ w := by
  have hmd : Mod none_ w { w with drawn := w.drawn + 1 } := (Mod.refl _ w).drawn _
  have hd := h.calm hmd
  have hbd := hmd.blk hb id
  refine dispatcherlaw14_play_does_R4_held (D := []) (fun w' => w'.heap[x]? = some (.cells s.cs tPl (0, 0)) ∧ w'.heap[b3]? = some (.cells a.enc.toArray tBc (0, 0))) ⟨hd.b.blk, hbd⟩ ?_
  generalize ({ w with drawn := w.drawn + 1 } : World) = wd at *
  unfold dispatcherlaw14_play_does_R4_H dispatcherlaw14_play_does_R4_H0
  rw [e0, e3]
  refine HN_ptr ?_
  refine HV_of (fun w _ => fld (c := 1) (show fieldOff Try.prog tPl 1 = some 1 by kernel_rfl) rfl w) ?_
  refine HV_of (fun w hw => run_ld1 uPd rfl (pl_c hw.1 (k := 1) rfl)) ?_
  refine HV_of (fun w _ => fld (c := 9) (show fieldOff Try.prog tBc 2 = some 9 by kernel_rfl) rfl w) ?_
  refine HV_of (fun w hw => act_r hw.2) ?_
  refine HN_ptr ?_
  refine HV_of (fun w _ => fld (c := 3) (show fieldOff Try.prog tPl 3 = some 3 by kernel_rfl) rfl w) ?_
  refine HV_of (fun w hw => run_ld1 uPE rfl (pl_c hw.1 (k := 3) rfl)) ?_
  refine HV_of (fun w _ => fld (c := 9) (show fieldOff Try.prog tBc 2 = some 9 by kernel_rfl) rfl w) ?_
  refine HV_of (fun w hw => act_r hw.2) ?_
  have key : ∀ ρ2 : Sl, ρ2 33 = .pointer (some ⟨s.p, 0, none⟩) → ρ2 35 = .agg a.r.enc.toArray → ρ2 40 = .pointer (some ⟨s.d, 0, none⟩) → ρ2 42 = .agg a.r.enc.toArray → dispatcherlaw14_play_does_R4_H1 (fun w' => w'.heap[x]? = some (.cells s.cs tPl (0, 0)) ∧ w'.heap[b3]? = some (.cells a.enc.toArray tBc (0, 0))) (K .normal) ρ2 wd := by
    intro ρ2 t16 t18 t23 t25
    unfold dispatcherlaw14_play_does_R4_H1
    rw [t16, t18, t23, t25]
    have hA := h.hA
    refine CK_st Try.func14 rfl rfl (Post_ok hd.b.pp.pa (fun i => by have := h.hR i; omega) a.r) ?_
    rintro _ w1 ⟨rfl, vs1, h1, f1⟩
    have hB1 := hd.b.onP (hd.b.pp.onP h1 f1) (MFr.p f1)
    have hb1 := f1.mod.blk hbd fun z => nb (.inl (.inr z))
    refine ⟨⟨hB1.blk, hb1⟩, ?_⟩
    refine CK_st Try.func53 rfl rfl (RPost_ok hB1.ed (by show s.A.length ≤ _; omega) a.r) ?_
    rintro _ w2 ⟨rfl, v1, h2, f2⟩
    have hB2 := hB1.onE h2 f2
    refine ⟨⟨hB2.blk, f2.mod.blk hb1 fun z => nb (.inr (.inr (.inl z)))⟩, ?_⟩
    obtain ⟨he, hrel⟩ := rel_post h.rel h.ok a.r
    have he' : (postA ({ s with ls := s.ls, V := s.V, R := (postV s.R a.r).1, vs := vs1 } : PlS).A a.r).2 = (postV s.R a.r).2 := he
    rw [he']
    refine HB_of (v := .bool true) (fun _ => rfl) (fun w => by simp [go_sem]) ?_
    refine hk _ w2 _ rfl ⟨hB2, h.e, hrel, h.ok.step (.post a.r), fun i => post_len h.hR a.r i, Nat.le_succ_of_le h.hl, ?_⟩ (((hmd.mono fun b _ z => z.elim : Mod (s.all x) w wd).then f1.mod fun i hi z => .inl (.inr z)).then f2.mod fun i hi z => .inr (.inr (.inl z)))
    show (postA s.A a.r).1.length ≤ n + 1
    unfold postA
    split
    · show s.A.length ≤ n + 1
      omega
    · show (s.A ++ [a.r.new]).length ≤ n + 1
      rw [List.length_append, List.length_singleton]; omega
  exact key _ rfl rfl rfl rfl
end
end Go.Proofs.Ytmnkedgmpbcicaa.Que
