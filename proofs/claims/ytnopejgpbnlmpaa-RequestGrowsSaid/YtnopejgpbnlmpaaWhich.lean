/- Which: of a row of numbers, the places of those that are complete. -/
import Derived.Test.YtnopejgpbnlmpaaReq
set_option linter.unusedVariables false
set_option linter.unusedSimpArgs false
namespace Go.Proofs.Ytnopejgpbnlmpaa.Req
open Go Go.X Go.RowKit Go.Proofs.Ytnopejgpbnlmpaa.XF

def iv (i : Int) : Value := .int .i64 i
def ivs (xs : List Int) : List Value := xs.map iv
theorem e27 : elemOk Try.prog 27 3 1 8 = true := by kernel_rfl
theorem b27 (i : Int) : builtRow Try.prog 27 1 [(0, .int .i64 i)] = some #[.int .i64 i] := by kernel_rfl
theorem c3 : Try.prog.cellsOf 3 = 1 := by kernel_rfl
theorem ivs_len (xs : List Int) : (ivs xs).length = xs.length := by simp [ivs]
theorem ivs_get {xs : List Int} {j : Nat} {x : Int} (h : xs[j]? = some x) : (ivs xs)[j]? = some (.int .i64 x) := by simp [ivs, iv, h]
theorem ivs_snoc (xs : List Int) (x : Int) : ivs (xs ++ [x]) = ivs xs ++ [.int .i64 x] := by simp [ivs, iv]

/-- The places whose numbers are so. -/
def placesTo (g : Int → Bool) (xs : List Int) (n : Nat) : List Int := ((List.range n).filter fun j => g (xs.getD j 0)).map fun j : Nat => (j : Int)
theorem placesTo_succ {g : Int → Bool} {xs : List Int} {n : Nat} {x : Int} (h : xs[n]? = some x) : placesTo g xs (n + 1) = placesTo g xs n ++ (if g x then [(n : Int)] else []) := by
  have hx : xs.getD n 0 = x := by simp [List.getD, h]
  unfold placesTo
  rw [List.range_succ, List.filter_append, List.map_append]
  congr 1
  simp only [List.filter_cons, List.filter_nil, hx]
  split <;> rfl
theorem placesTo_len (g : Int → Bool) (xs : List Int) (n : Nat) : (placesTo g xs n).length ≤ n := by
  unfold placesTo
  rw [List.length_map]
  exact Nat.le_trans (List.length_filter_le _ _) (by simp)
def places (g : Int → Bool) (xs : List Int) : List Int := placesTo g xs xs.length

/-- Which, over what its test says. -/
theorem Which_gen {w : World} {p : Option Addr} {l : Value} {xs : List Int} {g : Int → Bool} (hl : reads w 1 l xs.length (ivs xs)) (hn : xs.length ≤ 1000000)
    (ht : ∀ (b : Nat) (w' : World), Mod none_ w w' → w'.heap[b]? = some (.cells #[.pointer p] 25 (0, 0)) → ∀ i : Int, Rt Try.prog 27 #[.int .i64 i, .pointer (some ⟨b, 0, none⟩)] w' fun v w'' => v = .bool (g i) ∧ Mod none_ w' w'') :
    Rt Try.prog 20 #[.pointer p, l] w fun v w' => w'.ownsRow w.heap.size 3 1 v (places g xs).length (ivs (places g xs)) ∧ Mod none_ w w' := by
  obtain ⟨A, c, rfl, hr⟩ : ∃ A c, l = .slice A xs.length c ∧ True := by obtain ⟨_, A, c, rfl, _⟩ := hl; exact ⟨A, c, rfl, trivial⟩
  refine request_Table_Which_calls ?_
  unfold request_Table_Which_F
  rw [box_ok, mkFunc, len_sl Try.underlying27]
  have h1 : Mod none_ w (w.alloc (.cells #[.pointer p] 25)) := (Mod.refl _ w).alloc _
  have hb : (w.alloc (.cells #[.pointer p] 25)).heap[w.heap.size]? = some (.cells #[.pointer p] 25 (0, 0)) := alloc_new w _
  show W fn_ Try.prog 26 _ _ _ (w.alloc (.cells #[.pointer p] 25))
  refine W_loop request_Table_Which_L0_ok (fun ρ w' => ∃ (n : Nat) (v : Value), n ≤ xs.length ∧ ρ 12 = .int .i64 n ∧ ρ 11 = .int .i64 xs.length ∧ ρ 10 = .slice A xs.length c ∧ ρ 6 = .func (.func 27) #[] #[.pointer (some ⟨w.heap.size, 0, none⟩)] ∧ ρ 5 = v ∧
    w'.heap[w.heap.size]? = some (.cells #[.pointer p] 25 (0, 0)) ∧ w'.ownsRow (w.heap.size + 1) 3 1 v (placesTo g xs n).length (ivs (placesTo g xs n)) ∧ Mod none_ w w') (fun ρ _ => xs.length - (intOf (ρ 12)).toNat)
    ⟨0, .slice none 0 0, Nat.zero_le _, rfl, rfl, rfl, rfl, rfl, hb, World.ownsRow_nil _ _ _ _, h1⟩ ?_
  rintro ρ w1 ⟨n, v, hn', h12, h11, h10, h6, h5, hbox, hown, hm⟩
  rw [request_Table_Which_L0_eq]
  unfold request_Table_Which_L0_F
  rw [h12, h11, h10, h6, h5, BK_lss]
  by_cases hlt : n < xs.length
  · have hd : decide ((n : Int) < (xs.length : Int)) = true := by simp; omega
    obtain ⟨x, hx⟩ : ∃ x, xs[n]? = some x := ⟨_, List.getElem?_eq_getElem hlt⟩
    rw [hd, CondK_bool, if_pos rfl]
    have hl1 := reads_mod hl hm (fun _ _ _ => id)
    refine ixld Try.underlying27 c3 Try.underlying3 rfl hl1 (by omega) (ivs_get (by simpa using hx)) fun y => ?_
    refine CK_fn Try.func27 rfl rfl (ht w.heap.size w1 hm hbox x) ?_
    rintro _ w2 ⟨rfl, hm2⟩
    have hown2 := owns_mod hown hm2 (fun _ _ => id)
    have hbox2 := hm2.blk hbox id
    simp only [CondK_bool]
    cases hg : g x with
    | true =>
      simp only [if_true]
      refine snoc e27 hown2 (b27 _) rfl (by simp [Value.oneCell']) (by have := placesTo_len g xs n; unfold maxLen; omega) (by have := placesTo_len g xs n; omega) (by have := hm.size; have := hm2.size; have := X.blk_lt hbox; omega) fun y2 v2 w3 h3 hm3 ho3 => ?_
      rw [request_Table_Which_R2_eq]
      unfold request_Table_Which_R2_F
      simp only [sq_n, sq_x, sq_r, bk_n, bk_r, bk_x, rt_r, rt_n, rs_0, rs_t, pk_1, pk_2, up_at, reduceIte, Nat.reduceEqDiff, h12]
      rw [BK_add, wrap_i (by omega) (by omega)]
      have hB : w.heap.size + 1 ≤ w2.heap.size := by have := hm2.size; have := X.blk_lt hbox; omega
      have hmm : Mod none_ w w3 := (hm.trans hm2).then hm3 fun k hk q => by have := hown2.lt k q.symm; omega
      refine ⟨⟨n + 1, v2, hlt, rfl, h11, h10, h6, rfl, ?_, ?_, hmm⟩, ?_⟩
      · exact hm3.blk hbox2 fun q => by have := hown2.lt _ q.symm; omega
      · rw [placesTo_succ hx, hg, if_pos rfl, ivs_snoc, List.length_append]
        exact h3
      · simp only [intOf]; omega
    | false =>
      simp only [Bool.false_eq_true, if_false]
      rw [request_Table_Which_R2_eq]
      unfold request_Table_Which_R2_F
      simp only [sq_n, sq_x, sq_r, bk_n, bk_r, bk_x, rt_r, rt_n, rs_0, rs_t, pk_1, pk_2, up_at, reduceIte, Nat.reduceEqDiff, h12]
      rw [BK_add, wrap_i (by omega) (by omega)]
      refine ⟨⟨n + 1, v, hlt, rfl, h11, h10, h6, h5, hbox2, ?_, hm.trans hm2⟩, ?_⟩
      · rw [placesTo_succ hx, hg, if_neg (by simp), List.append_nil]
        exact hown2
      · simp only [sq_n, sq_x, sq_r, bk_n, bk_r, bk_x, rt_r, rt_n, rs_0, rs_t, pk_1, pk_2, up_at, reduceIte, Nat.reduceEqDiff, intOf]; omega
  · have hd : decide ((n : Int) < (xs.length : Int)) = false := by simp; omega
    obtain rfl : n = xs.length := by omega
    rw [hd, CondK_bool, if_neg (by simp)]
    simp only [sq_n, sq_x, sq_r, bk_n, bk_r, bk_x, rt_r, rt_n, rs_0, rs_t, pk_1, pk_2, up_at, reduceIte, Nat.reduceEqDiff]
    rw [request_Table_Which_R1_eq]
    unfold request_Table_Which_R1_F
    simp only [sq_n, sq_x, sq_r, bk_n, bk_r, bk_x, rt_r, rt_n, rs_0, rs_t, pk_1, pk_2, up_at, reduceIte, Nat.reduceEqDiff, h5]
    exact ⟨⟨hown.1, hown.2.imp id fun ⟨g, cap, cur, e1, e2, e3⟩ => ⟨g, cap, cur, e1, by omega, e3⟩⟩, hm⟩
end Go.Proofs.Ytnopejgpbnlmpaa.Req
