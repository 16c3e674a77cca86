/- What a table that somebody made answers. -/
import Derived.Test.YtnopejgpbnlmpaaActs
set_option linter.unusedVariables false
set_option linter.unusedSimpArgs false
namespace Go.Proofs.Ytnopejgpbnlmpaa.Req
open Go Go.X Go.RowKit Go.Proofs.Ytnopejgpbnlmpaa.XF

def inR (xs : List R) (i : Int) : Bool := decide (0 ≤ i) && decide (i < xs.length)
def rAt (xs : List R) (i : Int) : R := xs.getD i.toNat R.zero
def atOf (xs : List R) (i : Int) : Value := if inR xs i then .tuple #[.agg (rAt xs i).enc.toArray, .int .i64 0] else .tuple #[zr, .int .i64 120]
theorem rAt_get {xs : List R} {i : Int} (h0 : 0 ≤ i) (h1 : i < xs.length) : xs[i.toNat]? = some (rAt xs i) := by
  have hlt : i.toNat < xs.length := by omega
  unfold rAt
  rw [List.getD_eq_getElem?_getD, List.getElem?_eq_getElem hlt]
  rfl
theorem IsTab.sl {w : World} {B t : Nat} {v : Value} {xs : List R} (h : IsTab w B t v xs) : ∃ A c, v = .slice A xs.length c := by
  obtain ⟨_, A, c, rfl, _⟩ := reads_of_owns h.2.2
  exact ⟨A, c, rfl⟩
theorem IsTab.len {w : World} {B t : Nat} {v : Value} {xs : List R} (h : IsTab w B t v xs) : xs.length ≤ maxLen := by
  rcases h.2.2.2 with ⟨_, q⟩ | ⟨g, cap, cur, _, _, _, h1, h2, _⟩ <;> omega
theorem IsTab.none {w w' : World} {B t : Nat} {v : Value} {xs : List R} (h : IsTab w B t v xs) (hm : Mod none_ w w') : IsTab w' B t v xs := h.mod hm id (fun _ _ => id)
theorem ldv {w : World} {B t : Nat} {v : Value} {xs : List R} {K : Value → World → Prop} (h : IsTab w B t v xs) (hk : K v w) : VK Try.prog (Instr.loadAt 33 (.pointer (some ((⟨t, 0, none⟩ : Addr).add 1)))) w K :=
  ld1 Try.underlying33 rfl (by rw [add_pl, cell_blk h.2.1]; rfl) hk

theorem At_made {w : World} {B t : Nat} {v : Value} {xs : List R} {i : Int} (h : IsTab w B t v xs) : Rt Try.prog 21 #[.pointer (some ⟨t, 0, none⟩), .int .i64 i] w fun u w' => u = atOf xs i ∧ Mod none_ w w' := by
  obtain ⟨A, c, rfl⟩ := h.sl
  refine request_Table_At_calls ?_
  unfold request_Table_At_F
  refine al_k (cs := R.zero.enc.toArray) zr_zero rfl _ fun w1 hb1 hm1 hs1 => ?_
  have h1 := h.none hm1
  refine CK_st Try.func23 rfl rfl (none_made h1) ?_
  rintro _ w1 ⟨rfl, rfl⟩
  rw [BK_lss]
  have hS : ∀ cs : Array Value, Mod none_ w (setB w1 w.heap.size (.cells cs 50 (0, 0))) := fun cs => hm1.set _ (fun q => absurd q (by omega))
  by_cases hi : i < 0
  · have e : atOf xs i = .tuple #[zr, .int .i64 120] := by unfold atOf inR; rw [decide_eq_false (by omega)]; rfl
    simp only [CondK_bool, MG_b, NG_b, VG_b, UG_b, PG_b, BG_b, CG_b, IG_b, PK_bool, NK_ptr, not_ok, reduceCtorEq, if_true, if_false, Bool.true_eq_false, Bool.false_eq_true, Bool.not_true, Bool.not_false, decide_eq_true hi]
    rw [build_ok zr_built]
    refine stB i50 rfl (enc_one _) hb1 ?_
    exact ⟨_, res_ld (run_ldB (cs := R.zero.enc.toArray) Try.underlying50 rfl i50 (setB_new _ _ _ (by omega))), e.symm, hS _⟩
  simp only [CondK_bool, MG_b, NG_b, VG_b, UG_b, PG_b, BG_b, CG_b, IG_b, PK_bool, NK_ptr, not_ok, reduceCtorEq, if_true, if_false, Bool.true_eq_false, Bool.false_eq_true, Bool.not_true, Bool.not_false, decide_eq_false hi, f47_1]
  refine ldv h1 ?_
  rw [len_sl Try.underlying33]
  simp only [CondK_bool, MG_b, NG_b, VG_b, UG_b, PG_b, BG_b, CG_b, IG_b, PK_bool, NK_ptr, not_ok, reduceCtorEq, if_true, if_false, Bool.true_eq_false, Bool.false_eq_true, Bool.not_true, Bool.not_false, BK_geq]
  by_cases hn : (xs.length : Int) ≤ i
  · have e : atOf xs i = .tuple #[zr, .int .i64 120] := by unfold atOf inR; rw [decide_eq_false (p := i < xs.length) (by omega), Bool.and_false]; rfl
    simp only [CondK_bool, MG_b, NG_b, VG_b, UG_b, PG_b, BG_b, CG_b, IG_b, PK_bool, NK_ptr, not_ok, reduceCtorEq, if_true, if_false, Bool.true_eq_false, Bool.false_eq_true, Bool.not_true, Bool.not_false, decide_eq_true hn]
    rw [build_ok zr_built]
    refine stB i50 rfl (enc_one _) hb1 ?_
    exact ⟨_, res_ld (run_ldB (cs := R.zero.enc.toArray) Try.underlying50 rfl i50 (setB_new _ _ _ (by omega))), e.symm, hS _⟩
  · have e : atOf xs i = .tuple #[.agg (rAt xs i).enc.toArray, .int .i64 0] := by unfold atOf inR; rw [decide_eq_true (by omega), decide_eq_true (by omega)]; rfl
    simp only [CondK_bool, MG_b, NG_b, VG_b, UG_b, PG_b, BG_b, CG_b, IG_b, PK_bool, NK_ptr, not_ok, reduceCtorEq, if_true, if_false, Bool.true_eq_false, Bool.false_eq_true, Bool.not_true, Bool.not_false, decide_eq_false hn, f47_1]
    refine ldv h1 ?_
    refine ixldA (sz := 5) Try.underlying33 c50 Try.underlying50 rfl (reads_of_owns h1.2.2) (by omega) (by omega) fun y => ?_
    have hfl : (List.drop (i.toNat * (5 + 1)) (flat xs)).take (5 + 1) = (rAt xs i).enc := flat_at (rAt_get (by omega) (by omega))
    rw [hfl]
    refine stB (old := R.zero.enc.toArray) (cs := (rAt xs i).enc.toArray) i50 rfl (enc_one _) hb1 ?_
    exact ⟨_, res_ld (run_ldB (cs := (rAt xs i).enc.toArray) Try.underlying50 rfl i50 (setB_new _ _ _ (by omega))), e.symm, hS _⟩
theorem Many_made {w : World} {B t : Nat} {v : Value} {xs : List R} (h : IsTab w B t v xs) : Rt Try.prog 11 #[.pointer (some ⟨t, 0, none⟩)] w fun u w' => u = .int .i64 xs.length ∧ w' = w := by
  obtain ⟨A, c, rfl⟩ := h.sl
  refine request_Table_Many_calls ?_
  unfold request_Table_Many_F
  refine CK_st Try.func23 rfl rfl (none_made h) ?_
  rintro _ _ ⟨rfl, rfl⟩
  simp only [CondK_bool, MG_b, NG_b, VG_b, UG_b, PG_b, BG_b, CG_b, IG_b, PK_bool, NK_ptr, not_ok, reduceCtorEq, if_true, if_false, Bool.true_eq_false, Bool.false_eq_true, Bool.not_true, Bool.not_false, f47_1]
  refine ldv h ?_
  rw [len_sl Try.underlying33]
  exact ⟨rfl, rfl⟩
def gT (xs : List R) (i : Int) : Bool := inR xs i && (rAt xs i).done && !(rAt xs i).gone
theorem Which1_made {w : World} {B t b : Nat} {v : Value} {xs : List R} (h : IsTab w B t v xs) (hb : w.heap[b]? = some (.cells #[.pointer (some ⟨t, 0, none⟩)] 25 (0, 0))) (i : Int) : Rt Try.prog 27 #[.int .i64 i, .pointer (some ⟨b, 0, none⟩)] w fun v w' => v = .bool (gT xs i) ∧ Mod none_ w w' := by
  refine request_Table_Which_1_calls ?_
  unfold request_Table_Which_1_F
  refine ld1 Try.underlying25 rfl (v := .pointer (some ⟨t, 0, none⟩)) (by rw [cell_blk hb]; rfl) ?_
  refine CK_st Try.func21 rfl rfl (At_made h) ?_
  rintro _ w1 ⟨rfl, hm⟩
  unfold atOf gT
  cases hin : inR xs i with
  | false =>
    simp only [Bool.false_eq_true, if_false]
    rw [extract_ok (v := zr) rfl, extract_ok (v := .int .i64 120) rfl]
    refine lcl_k (cs := R.zero.enc.toArray) zr_zero _ i50 rfl (enc_one _) fun w2 _ hm2 _ => ?_
    rw [BK_eql]
    simp only [CondK_bool, MG_b, NG_b, VG_b, UG_b, PG_b, BG_b, CG_b, IG_b, PK_bool, NK_ptr, not_ok, reduceCtorEq, if_true, if_false, Bool.true_eq_false, Bool.false_eq_true, Bool.not_true, Bool.not_false, show ((120 : Int) == 0) = false from rfl, Bool.false_and]
    exact ⟨trivial, hm.trans hm2⟩
  | true =>
    simp only [if_true]
    rw [extract_ok (v := .agg (rAt xs i).enc.toArray) rfl, extract_ok (v := .int .i64 0) rfl]
    generalize rAt xs i = r
    refine lcl_k (cs := r.enc.toArray) zr_zero _ i50 rfl (enc_one _) fun w2 hb2 hm2 _ => ?_
    rw [BK_eql]
    simp only [CondK_bool, MG_b, NG_b, VG_b, UG_b, PG_b, BG_b, CG_b, IG_b, PK_bool, NK_ptr, not_ok, reduceCtorEq, if_true, if_false, Bool.true_eq_false, Bool.false_eq_true, Bool.not_true, Bool.not_false, show ((0 : Int) == 0) = true from rfl, f50 _ _ (show 1 < 6 by decide)]
    refine ld1 Try.underlying4 rfl (v := .bool r.done) (by rw [add_pl, cell_blk hb2]; rfl) ?_
    cases hd : r.done with
    | false => simp only [CondK_bool, MG_b, NG_b, VG_b, UG_b, PG_b, BG_b, CG_b, IG_b, PK_bool, NK_ptr, not_ok, reduceCtorEq, if_true, if_false, Bool.true_eq_false, Bool.false_eq_true, Bool.not_true, Bool.not_false, Bool.true_and, Bool.false_and]; exact ⟨trivial, hm.trans hm2⟩
    | true =>
      simp only [CondK_bool, MG_b, NG_b, VG_b, UG_b, PG_b, BG_b, CG_b, IG_b, PK_bool, NK_ptr, not_ok, reduceCtorEq, if_true, if_false, Bool.true_eq_false, Bool.false_eq_true, Bool.not_true, Bool.not_false, f50 _ _ (show 2 < 6 by decide)]
      refine ld1 Try.underlying4 rfl (v := .bool r.gone) (by rw [add_pl, cell_blk hb2]; rfl) ?_
      simp only [CondK_bool, MG_b, NG_b, VG_b, UG_b, PG_b, BG_b, CG_b, IG_b, PK_bool, NK_ptr, not_ok, reduceCtorEq, if_true, if_false, Bool.true_eq_false, Bool.false_eq_true, Bool.not_true, Bool.not_false, Bool.true_and]
      exact ⟨trivial, hm.trans hm2⟩
theorem Which_made {w : World} {B t : Nat} {v l : Value} {xs : List R} {is : List Int} (h : IsTab w B t v xs) (hl : reads w 1 l is.length (ivs is)) (hn : is.length ≤ 1000000) : Rt Try.prog 20 #[.pointer (some ⟨t, 0, none⟩), l] w fun u w' => w'.ownsRow w.heap.size 3 1 u (places (gT xs) is).length (ivs (places (gT xs) is)) ∧ Mod none_ w w' :=
  Which_gen hl hn fun b w' hm hb i => Which1_made (h.none hm) hb i

theorem b33 (r : R) : builtRow Try.prog 33 1 [(0, .agg #[.bool r.recv, .bool r.done, .bool r.gone, .int .i64 r.val, .int .i64 r.peer, .int .i64 r.tag])] = some r.enc.toArray := by kernel_rfl
theorem e33 : elemOk Try.prog 33 50 6 32 = true := by kernel_rfl
theorem c33 : Try.prog.cellsOf 33 = 1 := by kernel_rfl
theorem b50 (a b : Bool) : Try.prog.built 50 [(0, .bool a), (1, .bool b)] = some (⟨a, b, false, 0, 0, 0⟩ : R).enc.toArray := by kernel_rfl
theorem flat_snoc (xs : List R) (r : R) : flat (xs ++ [r]) = flat xs ++ r.enc := by simp [flat]
/-- What writes to a table touches: its block, its row. -/
def touch (t : Nat) (v : Value) : Nat → Prop := fun b => b = t ∨ some b = v.ownBlock
def addOf (xs : List R) (a b : Bool) : List R := if xs.length = 256 then xs else xs ++ [⟨a, b, false, 0, 0, 0⟩]
theorem Add_made {w : World} {B t : Nat} {v : Value} {xs : List R} (h : IsTab w B t v xs) (a b : Bool) (hn : xs.length ≤ 256) : Rt Try.prog 9 #[.pointer (some ⟨t, 0, none⟩), .bool a, .bool b] w fun u w' =>
    u = .tuple #[.int .i64 (if xs.length = 256 then 0 else xs.length), .int .i64 (if xs.length = 256 then 4 else 0)] ∧ ∃ v', IsTab w' B t v' (addOf xs a b) ∧ Mod (touch t v) w w' := by
  obtain ⟨A, c, rfl⟩ := h.sl
  refine request_Table_Add_calls ?_
  unfold request_Table_Add_F
  refine CK_st Try.func23 rfl rfl (none_made h) ?_
  rintro _ _ ⟨rfl, rfl⟩
  simp only [CondK_bool, MG_b, NG_b, VG_b, UG_b, PG_b, BG_b, CG_b, IG_b, PK_bool, NK_ptr, not_ok, reduceCtorEq, if_true, if_false, Bool.true_eq_false, Bool.false_eq_true, Bool.not_true, Bool.not_false, f47_1]
  refine ldv h ?_
  rw [len_sl Try.underlying33, BK_eql]
  by_cases h6 : xs.length = 256
  · rw [show (((xs.length : Nat) : Int) == 256) = true by simp; omega]
    simp only [CondK_bool, MG_b, NG_b, VG_b, UG_b, PG_b, BG_b, CG_b, IG_b, PK_bool, NK_ptr, not_ok, reduceCtorEq, if_true, if_false, Bool.true_eq_false, Bool.false_eq_true, Bool.not_true, Bool.not_false]
    rw [if_pos h6, if_pos h6]
    refine ⟨rfl, .slice A xs.length c, ?_, Mod.refl _ _⟩
    unfold addOf
    rw [if_pos h6]
    exact h
  rw [show (((xs.length : Nat) : Int) == 256) = false by simp; omega]
  simp only [CondK_bool, MG_b, NG_b, VG_b, UG_b, PG_b, BG_b, CG_b, IG_b, PK_bool, NK_ptr, not_ok, reduceCtorEq, if_true, if_false, Bool.true_eq_false, Bool.false_eq_true, Bool.not_true, Bool.not_false, f47_1]
  refine ldv h ?_
  rw [build_ok (b50 a b)]
  refine snoc e33 h.2.2 (b33 ⟨a, b, false, 0, 0, 0⟩) rfl (by simp [R.enc, Value.oneCell']) (by unfold maxLen; omega) (by omega) (Nat.le_trans h.1 (Nat.le_of_lt (X.blk_lt h.2.1))) fun y v2 w2 hown2 hm2 hv2 => ?_
  have hnt : ¬ some t = (Value.slice A xs.length c).ownBlock := fun q => owns_ne_blk h.2.2 h.2.1 (by decide) q.symm
  have ht2 := hm2.blk h.2.1 hnt
  rw [add_pl]
  refine st1 (o := 1) c33 (sl_one hown2) ht2 (by simp) ?_
  have hnt2 : v2.ownBlock ≠ some t := owns_ne_blk hown2 ht2 (by decide)
  have ht3 : (setB w2 t (.cells (#[.bool true, .slice A xs.length c].setIfInBounds 1 v2) 47 (0, 0))).heap[t]? = some (.cells #[.bool true, v2] 47 (0, 0)) := setB_new _ _ _ (X.blk_lt ht2)
  have hm3 : Mod (fun b => b = t) w2 (setB w2 t (.cells (#[.bool true, .slice A xs.length c].setIfInBounds 1 v2) 47 (0, 0))) := (Mod.refl _ w2).set _ (fun _ => rfl)
  generalize setB w2 t (.cells (#[.bool true, .slice A xs.length c].setIfInBounds 1 v2) 47 (0, 0)) = w3 at *
  obtain ⟨_, A2, c2, rfl, _⟩ := reads_of_owns hown2
  have hown3 := owns_mod hown2 hm3 (fun k hk q => hnt2 (q ▸ hk))
  have htab : IsTab w3 B t (.slice A2 (xs.length + 1) c2) (addOf xs a b) := by
    unfold addOf
    rw [if_neg h6]
    refine ⟨h.1, ht3, ?_⟩
    rw [flat_snoc, List.length_append]
    exact hown3
  refine ld1 Try.underlying33 rfl (v := .slice A2 (xs.length + 1) c2) (by rw [cell_blk ht3]; rfl) ?_
  rw [len_sl Try.underlying33, BK_sub, wrap_i (by omega) (by omega)]
  rw [if_neg h6, if_neg h6]
  refine ⟨by simp, _, htab, (hm2.mono (fun k _ q => .inr q)).trans (hm3.mono (fun k _ q => .inl q))⟩
theorem New_made (w : World) : Rt Try.prog 8 #[] w fun u w' => ∃ t, u = .pointer (some ⟨t, 0, none⟩) ∧ IsTab w' w.heap.size t (.slice none 0 0) [] ∧ Mod none_ w w' := by
  refine request_New_calls ?_
  unfold request_New_F
  rw [build_ok (cs := #[.bool true, .slice none 0 0]) (by kernel_rfl)]
  refine box_k rfl fun w1 hb hm _ => ?_
  exact ⟨_, rfl, ⟨Nat.le_refl _, hb, World.ownsRow_nil _ _ _ _⟩, hm⟩
end Go.Proofs.Ytnopejgpbnlmpaa.Req
