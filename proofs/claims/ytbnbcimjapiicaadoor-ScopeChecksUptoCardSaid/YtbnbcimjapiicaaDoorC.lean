/- Texts: words, names. -/
import Derived.Test.YtbnbcimjapiicaaDoorA
import Derived.Test.YtbnbcimjapiicaaDoorO
import Derived.Laws.RangeAny
set_option linter.unusedVariables false
set_option linter.unusedSimpArgs false
set_option maxRecDepth 4000
namespace Go.Proofs.YtbnbcimjapiicaaDoor.Tr
open Go Go.X Go.RowKit Go.Proofs.YtbnbcimjapiicaaDoor.XF Go.Proofs.YtbnbcimjapiicaaDoor.XK

/-- What the package-level tables hold. -/
def At (w : World) (g : Nat) (xs : List Value) : Prop := ∀ j u, xs[j]? = some u → w.cell? ⟨g, j, none⟩ = some u
theorem At.mod {w w' : World} {g : Nat} {xs : List Value} (h : At w g xs) (hm : Mod none_ w w') : At w' g xs := fun j u hu => by
  have h0 := h j u hu
  exact (World.cell?_of_block (hm.block _ (World.block_lt_of_cell? _ _ h0) id)).trans h0
def argsC : List Value := [.int .i64 5, .int .i64 5, .int .i64 5, .int .i64 5, .int .i64 5, .int .i64 3, .int .i64 3, .int .i64 1, .int .i64 (-1), .int .i64 (-1), .int .i64 1, .int .i64 (-1), .int .i64 3, .int .i64 3, .int .i64 1, .int .i64 3, .int .i64 3, .int .i64 2, .int .i64 3, .int .i64 1, .int .i64 3, .int .i64 1]
structure Gl (w : World) : Prop where
  words : At w 0 (wordsL.map txt)
  args : At w 1 argsC
  plain : At w 2 (plainL.map txt)
theorem Gl.mod {w w' : World} (h : Gl w) (hm : Mod none_ w w') : Gl w' := ⟨h.words.mod hm, h.args.mod hm, h.plain.mod hm⟩
theorem uSs : Tryd.prog.underlying 52 = some (.slice 9) := by kernel_rfl
theorem cS : Tryd.prog.cellsOf 9 = 0 + 1 := by kernel_rfl
theorem reads_at {w : World} {g n : Nat} {xs : List Value} (h : At w g xs) (hn : xs.length = n) : reads w 1 (.slice (some ⟨g, 0, none⟩) n n) n xs :=
  ⟨by omega, _, _, rfl, Nat.le_refl _, fun j u hu => ⟨_, rfl, by rw [add_pl, Nat.zero_add]; exact h j u hu⟩⟩
/-- The place of a text among texts. -/
def IdxS (b : ByteArray) (l : List (List UInt8)) (r : Int) : Prop := (0 ≤ r ∧ b.data.toList ∈ l) ∨ (r = -1 ∧ b.data.toList ∉ l)
theorem Index_ok {w : World} {s : Value} {l : List (List UInt8)} (b : ByteArray) (h : reads w 1 s l.length (l.map txt)) (hlen : l.length ≤ 1000) :
    Rt Tryd.prog 109 #[s, .string b] w fun v w' => (∃ r, v = .int .i64 r ∧ IdxS b l r) ∧ w' = w := by
  obtain ⟨A, c, rfl, _⟩ := reads_cap h
  refine slices_Index_string_string_calls ?_
  unfold slices_Index_string_string_F
  simp only [fo25_0, fo25_1, fo40_0, fo40_1, fo60_0, fo60_1, fo60_2, fo60_3, fo62_0, fo62_1, fo62_2, fo62_3, fo62_4, fo62_5, fo62_6, fo62_7, ld2, ld3, ld5, ld9, ld22, ld23, ld58, len9, len22, len23, len52, len58, ldK_some, cellE, blkC_c, add_pl, Nat.zero_add, List.getElem?_toArray, List.getElem?_cons_succ, List.getElem?_cons_zero]
  refine W_loop slices_Index_string_string_L0_ok (fun ρ w' => ∃ n : Nat, n ≤ l.length ∧ ρ 8 = .int .i64 n ∧ ρ 7 = .int .i64 l.length ∧ ρ 0 = .slice A l.length c ∧ ρ 1 = .string b ∧ b.data.toList ∉ l.take n ∧ w' = w) (fun ρ _ => l.length - (intOf (ρ 8)).toNat)
    ⟨0, Nat.zero_le _, rfl, rfl, rfl, rfl, by simp, rfl⟩ ?_
  rintro ρ w ⟨n, hn, h8, h7, h0, h1, hno, rfl⟩
  rw [slices_Index_string_string_L0_eq]
  unfold slices_Index_string_string_L0_F
  simp only [h8, h7, h0, h1, BK_lss]
  by_cases hlt : n < l.length
  · rw [show decide ((n : Int) < (l.length : Int)) = true by simp; omega]
    simp only [CondK_bool, MG_u, NG_u, VG_u, UG_u, PG_u, BG_u, CG_u, IG_u, MG_b, NG_b, VG_b, UG_b, PG_b, BG_b, CG_b, IG_b, PK_bool, NK_ptr, not_ok, reduceCtorEq, if_true, if_false, Bool.true_eq_false, Bool.false_eq_true, Bool.not_true, Bool.not_false]
    have hx : l[n]? = some l[n] := List.getElem?_eq_getElem hlt
    refine ixld uSs cS uS rfl h (by omega) (u := txt l[n]) (by rw [show ((n : Int).toNat) = n by omega, List.getElem?_map, hx]; rfl) fun y => ?_
    unfold txt
    rw [BK_eqlS, ByteArray.toList_eq, ByteArray.toList_eq]
    by_cases he : b.data.toList = l[n]
    · rw [show (b.data.toList == (⟨l[n].toArray⟩ : ByteArray).data.toList) = true by simpa using he]
      simp only [CondK_bool, MG_u, NG_u, VG_u, UG_u, PG_u, BG_u, CG_u, IG_u, MG_b, NG_b, VG_b, UG_b, PG_b, BG_b, CG_b, IG_b, PK_bool, NK_ptr, not_ok, reduceCtorEq, if_true, if_false, Bool.true_eq_false, Bool.false_eq_true, Bool.not_true, Bool.not_false, sq_n, sq_x, sq_r, bk_n, bk_r, bk_x, rt_r, rt_n, rs_0, rs_t, pk_1, pk_2, up_at, reduceIte, Nat.reduceEqDiff]
      exact ⟨⟨_, rfl, .inl ⟨by omega, he ▸ List.getElem_mem hlt⟩⟩, trivial⟩
    · rw [show (b.data.toList == (⟨l[n].toArray⟩ : ByteArray).data.toList) = false by simpa using he]
      simp only [CondK_bool, MG_u, NG_u, VG_u, UG_u, PG_u, BG_u, CG_u, IG_u, MG_b, NG_b, VG_b, UG_b, PG_b, BG_b, CG_b, IG_b, PK_bool, NK_ptr, not_ok, reduceCtorEq, if_true, if_false, Bool.true_eq_false, Bool.false_eq_true, Bool.not_true, Bool.not_false]
      rw [BK_add, wrap_i (by omega) (by omega)]
      refine ⟨⟨n + 1, hlt, rfl, h7, h0, h1, ?_, rfl⟩, ?_⟩
      · rw [List.take_add_one, hx, Option.toList_some]
        intro q
        rcases List.mem_append.1 q with q | q
        · exact hno q
        · exact he (by simpa using q)
      · simp only [sq_n, sq_x, sq_r, bk_n, bk_r, bk_x, rt_r, rt_n, rs_0, rs_t, pk_1, pk_2, up_at, reduceIte, Nat.reduceEqDiff, intOf]; omega
  · obtain rfl : n = l.length := by omega
    rw [show decide (((l.length : Nat) : Int) < (l.length : Int)) = false by simp]
    simp only [CondK_bool, MG_u, NG_u, VG_u, UG_u, PG_u, BG_u, CG_u, IG_u, MG_b, NG_b, VG_b, UG_b, PG_b, BG_b, CG_b, IG_b, PK_bool, NK_ptr, not_ok, reduceCtorEq, if_true, if_false, Bool.true_eq_false, Bool.false_eq_true, Bool.not_true, Bool.not_false, sq_n, sq_x, sq_r, bk_n, bk_r, bk_x, rt_r, rt_n, rs_0, rs_t, pk_1, pk_2, up_at, reduceIte, Nat.reduceEqDiff]
    rw [slices_Index_string_string_R1_eq]
    unfold slices_Index_string_string_R1_F
    simp only [sq_n, sq_x, sq_r, bk_n, bk_r, bk_x, rt_r, rt_n, rs_0, rs_t, pk_1, pk_2, up_at, reduceIte, Nat.reduceEqDiff]
    exact ⟨⟨_, rfl, .inr ⟨rfl, by rw [List.take_length] at hno; exact hno⟩⟩, trivial⟩
theorem Contains_ok {w : World} {s : Value} {l : List (List UInt8)} (b : ByteArray) (h : reads w 1 s l.length (l.map txt)) (hlen : l.length ≤ 1000) :
    Rt Tryd.prog 90 #[s, .string b] w fun v w' => v = .bool (l.contains b.data.toList) ∧ w' = w := by
  refine slices_Contains_string_string_calls ?_
  unfold slices_Contains_string_string_F
  refine CK_st Tryd.func109 rfl rfl (Index_ok b h hlen) ?_
  rintro _ w ⟨⟨r, rfl, hr⟩, rfl⟩
  rw [BK_geq]
  refine ⟨?_, rfl⟩
  rcases hr with ⟨h0, hm⟩ | ⟨rfl, hm⟩
  · simp [h0, hm]
  · simp [hm]
theorem uWords : Tryd.prog.underlying 120 = some (.array (Tryd.prog.arrayLen 120) (Tryd.prog.elem 120)) := by kernel_rfl
theorem uPlain : Tryd.prog.underlying 135 = some (.array (Tryd.prog.arrayLen 135) (Tryd.prog.elem 135)) := by kernel_rfl
theorem cut_words (w : World) (g : Nat) : (Instr.sliceAt 120 (.pointer (some ⟨g, 0, none⟩)) none none none).run Tryd.prog w = .ok (.slice (some ⟨g, 0, none⟩) 43 43) w := by
  rw [run_sliceAt_array_all w _ _ uWords]
  obtain ⟨z, hz, hzs⟩ := info_of (show Tryd.prog.cellsOf (Tryd.prog.elem 120) = 0 + 1 by kernel_rfl)
  have ha : Tryd.prog.arrayLen 120 = 43 := by kernel_rfl
  simp [sizeOf, typeInfo, hz, hzs, slicedAt, ha, Addr.add]
theorem cut_plain (w : World) (g : Nat) : (Instr.sliceAt 135 (.pointer (some ⟨g, 0, none⟩)) none none none).run Tryd.prog w = .ok (.slice (some ⟨g, 0, none⟩) 10 10) w := by
  rw [run_sliceAt_array_all w _ _ uPlain]
  obtain ⟨z, hz, hzs⟩ := info_of (show Tryd.prog.cellsOf (Tryd.prog.elem 135) = 0 + 1 by kernel_rfl)
  have ha : Tryd.prog.arrayLen 135 = 10 := by kernel_rfl
  simp [sizeOf, typeInfo, hz, hzs, slicedAt, ha, Addr.add]
theorem Word_ok {w : World} (hg : Gl w) (b : ByteArray) : Rt Tryd.prog 70 #[.string b] w fun v w' => v = .bool (wordsL.contains b.data.toList) ∧ w' = w := by
  refine scan_Word_calls ?_
  unfold scan_Word_F
  refine VK_of (cut_words w _) ?_
  refine CK_st Tryd.func90 rfl rfl (Contains_ok b (l := wordsL) (reads_at hg.words (by decide)) (by decide)) ?_
  rintro _ w ⟨rfl, rfl⟩
  exact ⟨rfl, rfl⟩
end Go.Proofs.YtbnbcimjapiicaaDoor.Tr
