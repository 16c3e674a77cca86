/- The table of names: what is found; Find, Vars, Cells of the chapter. -/
import Derived.Test.YtbnbcimjapiicaaDoorT2
import Derived.Test.YtbnbcimjapiicaaDoorXMaps
import Derived.Test.YtbnbcimjapiicaaDoorXG
import Derived.Test.YtbnbcimjapiicaaDoorXK2
import Derived.Test.YtbnbcimjapiicaaDoorXSlot
set_option linter.unusedVariables false
set_option linter.unusedSimpArgs false
set_option maxRecDepth 4000
namespace Go.Proofs.YtbnbcimjapiicaaDoor.Tr
open Go Go.X Go.RowKit Go.Proofs.YtbnbcimjapiicaaDoor.XG Go.Proofs.YtbnbcimjapiicaaDoor.XK

/-- What a name is. -/
structure En where
  kind : Int
  slot : Int
  base : Int
  places : Int
def En.cells (e : En) : List Value := [.int .u8 e.kind, .int .i64 e.slot, .int .i64 e.base, .int .i64 e.places]
def En.v (e : En) : Value := .agg e.cells.toArray
def zEn : En := ⟨0, 0, 0, 0⟩
abbrev Key := List UInt8
def De.key (d : De) : Key := d.name.data.toList
def isV (d : De) : Bool := decide (d.places = 0)
def vars (l : List De) : Nat := (l.filter isV).length
def arrs (l : List De) : List Int := (l.filter fun d => !isV d).map De.places
def cellsP : List De → Int
  | [] => 0
  | d :: r => d.places + cellsP r
/-- The entry of a declaration behind others. -/
def nu (pre : List De) (d : De) : En := if d.places = 0 then ⟨1, vars pre, 0, 0⟩ else ⟨2, (arrs pre).length, cellsP pre, d.places⟩
def findF (pre : List De) : List De → Key → En
  | [], _ => zEn
  | d :: r, k => if d.key = k then nu pre d else findF (pre ++ [d]) r k
def findP (l : List De) (k : Key) : En := findF [] l k
theorem vars_snoc (l : List De) (d : De) : vars (l ++ [d]) = vars l + if isV d then 1 else 0 := by
  unfold vars; rw [List.filter_append, List.length_append]; congr 1; by_cases h : isV d <;> simp [h]
theorem arrs_snoc (l : List De) (d : De) : arrs (l ++ [d]) = arrs l ++ if isV d then [] else [d.places] := by
  unfold arrs; rw [List.filter_append, List.map_append]; congr 1; by_cases h : isV d <;> simp [h]
theorem cellsP_snoc (l : List De) (d : De) : cellsP (l ++ [d]) = cellsP l + d.places := by
  induction l with
  | nil => simp [cellsP]
  | cons a r ih => simp only [List.cons_append, cellsP, ih]; omega
theorem findF_no (k : Key) : ∀ (l1 pre l2 : List De), (∀ a ∈ l1, a.key ≠ k) → findF pre (l1 ++ l2) k = findF (pre ++ l1) l2 k
  | [], pre, l2, _ => by simp
  | d :: r, pre, l2, h => by
    rw [List.cons_append, findF, if_neg (h d (by simp)), findF_no k r _ _ (fun a ha => h a (List.mem_cons_of_mem _ ha)), List.append_assoc]
    rfl
theorem nu_kind (pre : List De) (d : De) : (nu pre d).kind ≠ 0 := by unfold nu; split <;> simp
theorem vars_le (l : List De) : vars l ≤ l.length := List.length_filter_le _ _
theorem arrs_le (l : List De) : (arrs l).length ≤ l.length := by unfold arrs; rw [List.length_map]; exact List.length_filter_le _ _
theorem may_places {d : De} (h : d.may = true) : 0 ≤ d.places ∧ d.places ≤ 1000 := by
  unfold De.may at h
  simp only [Bool.and_eq_true, decide_eq_true_eq] at h
  exact ⟨h.1.2, h.2⟩
theorem cellsP_le {l : List De} (h : ∀ d ∈ l, d.may = true) : 0 ≤ cellsP l ∧ cellsP l ≤ 1000 * l.length := by
  induction l with
  | nil => simp [cellsP]
  | cons d r ih =>
    have h1 := may_places (h d (by simp))
    have h2 := ih (fun a ha => h a (List.mem_cons_of_mem _ ha))
    simp only [cellsP, List.length_cons]
    omega
theorem zEnt : (Tryd.prog.info? 37).bind (·.zero) = some (.agg zEn.cells.toArray) := by kernel_rfl
theorem iEnt : (Tryd.prog.info? 37).map (·.size) = some 4 := by kernel_rfl
theorem bEnt0 : Tryd.prog.built 37 [] = some zEn.cells.toArray := by kernel_rfl
theorem bEnt1 (n : Int) : Tryd.prog.built 37 [(0, .int .u8 1), (1, .int .i64 n)] = some (En.mk 1 n 0 0).cells.toArray := by kernel_rfl
theorem bEnt2 (a b c : Int) : Tryd.prog.built 37 [(0, .int .u8 2), (1, .int .i64 a), (2, .int .i64 b), (3, .int .i64 c)] = some (En.mk 2 a b c).cells.toArray := by kernel_rfl
theorem en_one (e : En) : (e.cells.toArray.all (·.oneCell')) = true := by simp [En.cells, Value.oneCell']
theorem uSt : Tryd.prog.underlying 9 = some .string := by kernel_rfl
theorem Find_ok {w : World} {l : List De} {s : Value} (h : DesOk w s l) (hlen : l.length ≤ 1099511627776) (hall : ∀ d ∈ l, d.may = true) (k : ByteArray) :
    Rt Tryd.prog 17 #[s, .string k] w fun v w' => v = (findP l k.data.toList).v ∧ Mod none_ w w' := by
  obtain ⟨A, c, hs, _⟩ := reads_cap h.1
  refine dispatcherref04_Find_calls ?_
  unfold dispatcherref04_Find_F
  refine al_k zEnt rfl _ fun w1 hb1 hm1 hsz1 => ?_
  refine W_loop dispatcherref04_Find_L0_ok (fun ρ w' => ∃ n : Nat, n ≤ l.length ∧ ρ 8 = .int .i64 n ∧ ρ 0 = .slice A l.length c ∧ ρ 1 = .string k ∧ ρ 4 = .pointer (some ⟨w.heap.size, 0, none⟩) ∧ ρ 5 = .int .i64 (vars (l.take n)) ∧ ρ 6 = .int .i64 (arrs (l.take n)).length ∧ ρ 7 = .int .i64 (cellsP (l.take n)) ∧ (∀ a ∈ l.take n, a.key ≠ k.data.toList) ∧ Mod none_ w1 w') (fun ρ _ => l.length - (intOf (ρ 8)).toNat)
    ⟨0, Nat.zero_le _, rfl, hs, rfl, rfl, rfl, rfl, rfl, by simp, Mod.refl _ _⟩ ?_
  rintro ρ w2 ⟨n, hn, h8, h0, h1, h4, h5, h6, h7, hno, hm⟩
  have hb2 := hm.blk hb1 id
  have hd2 : DesOk w2 (.slice A l.length c) l := by rw [← hs]; exact (h.mod hm1).mod hm
  rw [dispatcherref04_Find_L0_eq]
  unfold dispatcherref04_Find_L0_F
  rw [h0, h8, len22]
  refine BKlss (a := n) (b := l.length) rfl rfl ?_
  by_cases hlt : n < l.length
  · rw [show decide ((n : Int) < (l.length : Int)) = true by rw [decide_eq_true_eq]; omega]
    refine condT ?_
    have hx : l[n]? = some l[n] := List.getElem?_eq_getElem hlt
    have hmem : l[n] ∈ l := List.getElem_mem hlt
    refine ixDe hd2 hx fun y => ?_
    refine lcl_k (cs := l[n].cells.toArray) zDe _ iDe rfl (de_one _) fun w3 hb3 hm3 hs3 => ?_
    have hb3' := hm3.blk hb2 id
    have hmm := hm1.trans (hm.trans hm3)
    generalize w2.heap.size = b3 at *
    have d0 : FAt Tryd.prog w3 40 0 ⟨b3, 0, none⟩ 9 (.string l[n].name) := FAt.mk' (off := 0) (by kernel_rfl) uSt rfl (by rw [add_pl, cell_blk hb3]; rfl)
    have d1 : FAt Tryd.prog w3 40 1 ⟨b3, 0, none⟩ 3 (.int .i64 l[n].places) := FAt.mk' (off := 1) (by kernel_rfl) uI rfl (by rw [add_pl, cell_blk hb3]; rfl)
    have hsplit : l = l.take n ++ (l[n] :: l.drop (n + 1)) := by rw [List.getElem_cons_drop, List.take_append_drop]
    have htake : l.take (n + 1) = l.take n ++ [l[n]] := by rw [List.take_add_one, hx, Option.toList_some]
    have hv := vars_le (l.take n)
    have ha := arrs_le (l.take n)
    have hc := cellsP_le (l := l.take n) (fun d hd => hall d (List.mem_of_mem_take hd))
    have hp := may_places (hall _ hmem)
    have htl : (l.take n).length = n := by rw [List.length_take]; omega
    have found : l[n].key = k.data.toList → findP l k.data.toList = nu (l.take n) l[n] := fun q => by
      have e : findP l k.data.toList = findP (l.take n ++ (l[n] :: l.drop (n + 1))) k.data.toList := by rw [← hsplit]
      rw [e]
      unfold findP
      rw [findF_no _ _ _ _ hno, List.nil_append, findF, if_pos q]
    -- the step behind
    have fin : ∀ (K : Exit → Sl → World → Prop) (ρ' : Sl), ρ' 8 = .int .i64 n → (∀ x14 x15, K Exit.normal (up (up (up ρ' 14 x14) 15 x15) 8 (.int .i64 ((n : Int) + 1))) w3) → sx fn_ Tryd.prog 52 dispatcherref04_Find_R2 K ρ' w3 := by
      intro K ρ' q hk
      rw [dispatcherref04_Find_R2_eq]
      unfold dispatcherref04_Find_R2_F
      exact BKadd (a := n) (b := 1) q rfl (by omega) (by omega) (hk _ _)
    have noS : l[n].key ≠ k.data.toList → ∀ a ∈ l.take (n + 1), a.key ≠ k.data.toList := fun q a ha => by
      rw [htake] at ha
      rcases List.mem_append.1 ha with r | r
      · exact hno a r
      · rw [List.mem_singleton.1 r]; exact q
    have bk3 : ∀ (v : En) (K : Value → World → Prop) (x : Value), x = .pointer (some ⟨w.heap.size, 0, none⟩) → (∀ w', w'.heap[w.heap.size]? = some (.cells v.cells.toArray 37 (0, 0)) → Mod none_ w w' → K undef w') → UK Tryd.prog (Instr.storeAt 37 x (.agg v.cells.toArray)) w3 K := fun v K x q hk =>
      stS (old := zEn.cells.toArray) (cs := v.cells.toArray) q rfl iEnt rfl (en_one v) hb3' fun w4 hb4 hm4 _ => hk w4 hb4 (hmm.then hm4 (fun i hi q => absurd q (by omega)))
    refine d0.vk' fun x20 => ?_
    refine BKeqS (a := l[n].name) (b := k) rfl h1 (fun he => ?_) (fun he => ?_)
    · have hF := found he
      simp only [CondK_bool, MG_u, NG_u, VG_u, UG_u, PG_u, BG_u, CG_u, IG_u, MG_b, NG_b, VG_b, UG_b, PG_b, BG_b, CG_b, IG_b, PK_bool, NK_ptr, not_ok, reduceCtorEq, if_true, if_false, Bool.true_eq_false, Bool.false_eq_true, Bool.not_true, Bool.not_false]
      refine d1.vk' fun x25 => ?_
      refine BKeqI (a := l[n].places) (b := 0) rfl rfl (fun hp0 => ?_) (fun hp0 => ?_)
      · simp only [CondK_bool, MG_u, NG_u, VG_u, UG_u, PG_u, BG_u, CG_u, IG_u, MG_b, NG_b, VG_b, UG_b, PG_b, BG_b, CG_b, IG_b, PK_bool, NK_ptr, not_ok, reduceCtorEq, if_true, if_false, Bool.true_eq_false, Bool.false_eq_true, Bool.not_true, Bool.not_false]
        rw [h5, build_ok (bEnt1 _)]
        refine bk3 (En.mk 1 (vars (l.take n)) 0 0) _ _ h4 fun w4 hb4 hm4 => ?_
        rw [sq_r, bk_r, sq_r]
        refine rtCell (b := w.heap.size) (cs := (En.mk 1 (vars (l.take n)) 0 0).cells.toArray) ?_ Tryd.underlying37 rfl iEnt hb4 ⟨?_, hm4⟩
        · exact h4
        · rw [hF]; unfold nu; rw [if_pos hp0]; rfl
      · simp only [CondK_bool, MG_u, NG_u, VG_u, UG_u, PG_u, BG_u, CG_u, IG_u, MG_b, NG_b, VG_b, UG_b, PG_b, BG_b, CG_b, IG_b, PK_bool, NK_ptr, not_ok, reduceCtorEq, if_true, if_false, Bool.true_eq_false, Bool.false_eq_true, Bool.not_true, Bool.not_false]
        refine d0.vk' fun x31 => ?_
        refine BKeqS (a := l[n].name) (b := k) rfl h1 (fun _ => ?_) (fun q => absurd he q)
        refine condT ?_
        refine d1.vk' fun x37 => ?_
        rw [h6, h7, build_ok (bEnt2 _ _ _)]
        refine bk3 (En.mk 2 (arrs (l.take n)).length (cellsP (l.take n)) l[n].places) _ _ h4 fun w4 hb4 hm4 => ?_
        rw [sq_r, bk_r, sq_r]
        refine rtCell (b := w.heap.size) (cs := (En.mk 2 (arrs (l.take n)).length (cellsP (l.take n)) l[n].places).cells.toArray) ?_ Tryd.underlying37 rfl iEnt hb4 ⟨?_, hm4⟩
        · exact h4
        · rw [hF]; unfold nu; rw [if_neg hp0]; rfl
    · simp only [CondK_bool, MG_u, NG_u, VG_u, UG_u, PG_u, BG_u, CG_u, IG_u, MG_b, NG_b, VG_b, UG_b, PG_b, BG_b, CG_b, IG_b, PK_bool, NK_ptr, not_ok, reduceCtorEq, if_true, if_false, Bool.true_eq_false, Bool.false_eq_true, Bool.not_true, Bool.not_false]
      refine d0.vk' fun x31 => ?_
      refine BKeqS (a := l[n].name) (b := k) rfl h1 (fun q => absurd q he) (fun _ => ?_)
      refine condF ?_
      refine d1.vk' fun x40 => ?_
      refine BKeqI (a := l[n].places) (b := 0) rfl rfl (fun hp0 => ?_) (fun hp0 => ?_)
      · refine condT ?_
        have hiv : isV l[n] = true := decide_eq_true hp0
        refine BKadd (a := vars (l.take n)) (b := 1) h5 rfl (by omega) (by omega) ?_
        refine fin _ _ ?_ fun x14 x15 => ⟨⟨n + 1, hlt, rfl, h0, h1, h4, ?_, ?_, ?_, noS he, hm.trans hm3⟩, ?_⟩
        · exact h8
        · show Value.int .i64 _ = _
          rw [htake, vars_snoc, hiv]; rfl
        · refine h6.trans ?_
          rw [htake, arrs_snoc, hiv]; simp
        · refine h7.trans ?_
          rw [htake, cellsP_snoc, hp0, Int.add_zero]
        · show l.length - (intOf (Value.int .i64 ((n : Int) + 1))).toNat < _
          simp only [intOf]; omega
      · refine condF ?_
        have hiv : isV l[n] = false := decide_eq_false hp0
        refine BKadd (a := (arrs (l.take n)).length) (b := 1) h6 rfl (by omega) (by omega) ?_
        refine d1.vk' fun x48 => ?_
        refine BKadd (a := cellsP (l.take n)) (b := l[n].places) h7 rfl (by omega) (by omega) ?_
        refine fin _ _ ?_ fun x14 x15 => ⟨⟨n + 1, hlt, rfl, h0, h1, h4, ?_, ?_, ?_, noS he, hm.trans hm3⟩, ?_⟩
        · exact h8
        · refine h5.trans ?_
          rw [htake, vars_snoc, hiv]; rfl
        · show Value.int .i64 _ = _
          rw [htake, arrs_snoc, hiv]; simp
        · show Value.int .i64 _ = _
          rw [htake, cellsP_snoc]
        · show l.length - (intOf (Value.int .i64 ((n : Int) + 1))).toNat < _
          simp only [intOf]; omega
  · obtain rfl : n = l.length := by omega
    rw [show decide (((l.length : Nat) : Int) < (l.length : Int)) = false by simp]
    refine condF ?_
    rw [sq_x, bk_x, sq_n, dispatcherref04_Find_R1_eq]
    unfold dispatcherref04_Find_R1_F
    rw [List.take_length] at hno
    rw [build_ok bEnt0]
    refine stS (old := zEn.cells.toArray) (cs := zEn.cells.toArray) h4 rfl iEnt rfl (en_one _) hb2 fun w4 hb4 hm4 _ => ?_
    refine rtCell (b := w.heap.size) (cs := zEn.cells.toArray) ?_ Tryd.underlying37 rfl iEnt hb4 ⟨?_, (hm1.trans hm).then hm4 (fun i hi q => absurd q (by omega))⟩
    · exact h4
    · have := findF_no k.data.toList l [] [] hno
      rw [List.append_nil] at this
      unfold findP
      rw [this]
      rfl
end Go.Proofs.YtbnbcimjapiicaaDoor.Tr
/-! Vars, Cells, Arrays, wrong of the chapter. -/
set_option linter.unusedVariables false
set_option linter.unusedSimpArgs false
set_option maxRecDepth 4000
namespace Go.Proofs.YtbnbcimjapiicaaDoor.Tr
open Go Go.X Go.RowKit Go.Proofs.YtbnbcimjapiicaaDoor.XG Go.Proofs.YtbnbcimjapiicaaDoor.XK

theorem take_succ {l : List De} {n : Nat} (h : n < l.length) : l.take (n + 1) = l.take n ++ [l[n]] := by
  rw [List.take_add_one, List.getElem?_eq_getElem h, Option.toList_some]
theorem Vars_ok {w : World} {l : List De} {s : Value} (h : DesOk w s l) (hlen : l.length ≤ 1099511627776) :
    Rt Tryd.prog 26 #[s] w fun v w' => v = .int .i64 (vars l) ∧ Mod none_ w w' := by
  obtain ⟨A, c, hs, _⟩ := reads_cap h.1
  refine dispatcherref04_Vars_calls ?_
  unfold dispatcherref04_Vars_F
  refine W_loop dispatcherref04_Vars_L0_ok (fun ρ w' => ∃ n : Nat, n ≤ l.length ∧ ρ 4 = .int .i64 n ∧ ρ 0 = .slice A l.length c ∧ ρ 3 = .int .i64 (vars (l.take n)) ∧ w' = w) (fun ρ _ => l.length - (intOf (ρ 4)).toNat)
    ⟨0, Nat.zero_le _, rfl, hs, rfl, rfl⟩ ?_
  rintro ρ w2 ⟨n, hn, h4, h0, h3, rfl⟩
  rw [hs] at h
  rw [dispatcherref04_Vars_L0_eq]
  unfold dispatcherref04_Vars_L0_F
  rw [h0, h4, len22]
  refine BKlss (a := n) (b := l.length) rfl rfl ?_
  by_cases hlt : n < l.length
  · rw [show decide ((n : Int) < (l.length : Int)) = true by rw [decide_eq_true_eq]; omega]
    refine condT ?_
    have hx : l[n]? = some l[n] := List.getElem?_eq_getElem hlt
    refine ixDeA h hx fun a ha => ?_
    have d1 : FAt Tryd.prog w2 40 1 a 3 (.int .i64 l[n].places) := FAt.mk' (off := 1) (by kernel_rfl) uI rfl (ha 1 _ rfl)
    have hv := vars_le (l.take n)
    have htl : (l.take n).length = n := by rw [List.length_take]; omega
    have fin : ∀ (K : Exit → Sl → World → Prop) (ρ' : Sl), ρ' 4 = .int .i64 n → (∀ x14 x15, K Exit.normal (up (up (up ρ' 9 x14) 10 x15) 4 (.int .i64 ((n : Int) + 1))) w2) → sx fn_ Tryd.prog 20 dispatcherref04_Vars_R2 K ρ' w2 := by
      intro K ρ' q hk
      rw [dispatcherref04_Vars_R2_eq]
      unfold dispatcherref04_Vars_R2_F
      exact BKadd (a := n) (b := 1) q rfl (by omega) (by omega) (hk _ _)
    refine d1.vk' fun x14 => ?_
    refine BKeqI (a := l[n].places) (b := 0) rfl rfl (fun hp0 => condT ?_) (fun hp0 => condF ?_)
    · have hiv : isV l[n] = true := decide_eq_true hp0
      refine BKadd (a := vars (l.take n)) (b := 1) h3 rfl (by omega) (by omega) ?_
      refine fin _ _ ?_ fun x14 x15 => ⟨⟨n + 1, hlt, rfl, h0, ?_, rfl⟩, ?_⟩
      · exact h4
      · show Value.int .i64 _ = _
        rw [take_succ hlt, vars_snoc, hiv]; rfl
      · show l.length - (intOf (Value.int .i64 ((n : Int) + 1))).toNat < _
        simp only [intOf]; omega
    · have hiv : isV l[n] = false := decide_eq_false hp0
      refine fin _ _ ?_ fun x14 x15 => ⟨⟨n + 1, hlt, rfl, h0, ?_, rfl⟩, ?_⟩
      · exact h4
      · refine h3.trans ?_
        rw [take_succ hlt, vars_snoc, hiv]; rfl
      · show l.length - (intOf (Value.int .i64 ((n : Int) + 1))).toNat < _
        simp only [intOf]; omega
  · obtain rfl : n = l.length := by omega
    rw [show decide (((l.length : Nat) : Int) < (l.length : Int)) = false by simp]
    refine condF ?_
    rw [sq_x, bk_x, sq_n, dispatcherref04_Vars_R1_eq]
    unfold dispatcherref04_Vars_R1_F
    rw [List.take_length] at h3
    exact ⟨h3, Mod.refl _ _⟩
theorem Cells_ok {w : World} {l : List De} {s : Value} (h : DesOk w s l) (hlen : l.length ≤ 1099511627776) (hall : ∀ d ∈ l, d.may = true) :
    Rt Tryd.prog 35 #[s] w fun v w' => v = .int .i64 (cellsP l) ∧ Mod none_ w w' := by
  obtain ⟨A, c, hs, _⟩ := reads_cap h.1
  refine dispatcherref04_Cells_calls ?_
  unfold dispatcherref04_Cells_F
  refine W_loop dispatcherref04_Cells_L0_ok (fun ρ w' => ∃ n : Nat, n ≤ l.length ∧ ρ 4 = .int .i64 n ∧ ρ 0 = .slice A l.length c ∧ ρ 3 = .int .i64 (cellsP (l.take n)) ∧ w' = w) (fun ρ _ => l.length - (intOf (ρ 4)).toNat)
    ⟨0, Nat.zero_le _, rfl, hs, rfl, rfl⟩ ?_
  rintro ρ w2 ⟨n, hn, h4, h0, h3, rfl⟩
  rw [hs] at h
  rw [dispatcherref04_Cells_L0_eq]
  unfold dispatcherref04_Cells_L0_F
  rw [h0, h4, len22]
  refine BKlss (a := n) (b := l.length) rfl rfl ?_
  by_cases hlt : n < l.length
  · rw [show decide ((n : Int) < (l.length : Int)) = true by rw [decide_eq_true_eq]; omega]
    refine condT ?_
    have hx : l[n]? = some l[n] := List.getElem?_eq_getElem hlt
    refine ixDeA h hx fun a ha => ?_
    have d1 : FAt Tryd.prog w2 40 1 a 3 (.int .i64 l[n].places) := FAt.mk' (off := 1) (by kernel_rfl) uI rfl (ha 1 _ rfl)
    have hc := cellsP_le (l := l.take n) (fun d hd => hall d (List.mem_of_mem_take hd))
    have hp := may_places (hall _ (List.getElem_mem hlt))
    have htl : (l.take n).length = n := by rw [List.length_take]; omega
    refine d1.vk' fun x14 => ?_
    refine BKadd (a := cellsP (l.take n)) (b := l[n].places) h3 rfl (by omega) (by omega) ?_
    refine BKadd (a := n) (b := 1) rfl rfl (by omega) (by omega) ?_
    refine ⟨⟨n + 1, hlt, rfl, h0, ?_, rfl⟩, ?_⟩
    · show Value.int .i64 _ = _
      rw [take_succ hlt, cellsP_snoc]
    · show l.length - (intOf (Value.int .i64 ((n : Int) + 1))).toNat < _
      simp only [intOf]; omega
  · obtain rfl : n = l.length := by omega
    rw [show decide (((l.length : Nat) : Int) < (l.length : Int)) = false by simp]
    refine condF ?_
    rw [sq_x, bk_x, sq_n, dispatcherref04_Cells_R1_eq]
    unfold dispatcherref04_Cells_R1_F
    rw [List.take_length] at h3
    exact ⟨h3, Mod.refl _ _⟩
/-- What is wrong, and where. -/
structure Wr where
  err : Int
  line : Int
  col : Int
deriving DecidableEq
def Wr.cells (e : Wr) : List Value := [.int .i64 e.err, .int .i64 e.line, .int .i64 e.col]
def Wr.v (e : Wr) : Value := .agg e.cells.toArray
def zWr : Wr := ⟨0, 0, 0⟩
theorem zWrg : (Tryd.prog.info? 30).bind (·.zero) = some (.agg zWr.cells.toArray) := by kernel_rfl
theorem iWrg : (Tryd.prog.info? 30).map (·.size) = some 3 := by kernel_rfl
theorem bWr0 : Tryd.prog.built 30 [] = some zWr.cells.toArray := by kernel_rfl
theorem bWr1 (n : Int) : Tryd.prog.built 30 [(0, .int .i64 n)] = some (Wr.mk n 0 0).cells.toArray := by kernel_rfl
theorem bWr3 (n a b : Int) : Tryd.prog.built 30 [(0, .int .i64 n), (1, .int .i64 a), (2, .int .i64 b)] = some (Wr.mk n a b).cells.toArray := by kernel_rfl
theorem wr_one (e : Wr) : (e.cells.toArray.all (·.oneCell')) = true := by simp [Wr.cells, Value.oneCell']
theorem Wrong_ok {w : World} (a b : Int) : Rt Tryd.prog 34 #[.int .i64 a, .int .i64 b] w fun v w' => v = (Wr.mk 40 a b).v ∧ Mod none_ w w' := by
  refine dispatcherref04_wrong_calls ?_
  unfold dispatcherref04_wrong_F
  refine al_k zWrg rfl _ fun w1 hb1 hm1 hsz1 => ?_
  rw [build_ok (bWr3 _ _ _)]
  refine stS (old := zWr.cells.toArray) (cs := (Wr.mk 40 a b).cells.toArray) rfl rfl iWrg rfl (wr_one _) hb1 fun w2 hb2 hm2 _ => ?_
  exact ⟨_, res_ld (run_ldB (cs := (Wr.mk 40 a b).cells.toArray) Tryd.underlying30 rfl iWrg hb2), rfl, hm1.then hm2 (fun i hi q => absurd q (by omega))⟩
theorem isU (w : World) : (isAgg 5).run Tryd.prog w = .ok false w := by unfold isAgg; rw [Sem.run_bind, run_underlying Tryd.underlying5 w]; rfl
theorem fldK {w : World} {K : Value → World → Prop} (e : En) : VK Tryd.prog (Instr.field 37 e.v 0) w K = K (.int .u8 e.kind) w := by
  refine VK_eq_of ?_
  unfold Instr.field
  simp [Sem.run_bind, run_underlying Tryd.underlying37, part, isU, En.v, En.cells, asAgg]
end Go.Proofs.YtbnbcimjapiicaaDoor.Tr
namespace Go.X
open Go Go.Proofs.YtbnbcimjapiicaaDoor.Tr
/-- What is wrong with names, of an expression, of statements. -/
def Ex.bad (f : Key → Int) (e : Ex) : Bool := decide (e.op = 2 ∧ f e.name.data.toList ≠ 1) || decide (e.op = 3 ∧ f e.name.data.toList ≠ 2)
def St.bad (f : Key → Int) (e : St) : Bool := decide ((e.op = 1 ∨ e.op = 5) ∧ f e.name.data.toList ≠ 1) || decide (e.op = 2 ∧ f e.name.data.toList ≠ 2)
mutual
def Ex.wr (f : Key → Int) : Ex → Wr
  | ⟨op, num, name, s, args, line, col⟩ => if Ex.bad f ⟨op, num, name, s, args, line, col⟩ then ⟨40, line, col⟩ else Ex.wrL f args
def Ex.wrL (f : Key → Int) : List Ex → Wr
  | [] => zWr
  | e :: r => if (Ex.wr f e).err = 0 then Ex.wrL f r else Ex.wr f e
end
mutual
def St.wr (f : Key → Int) : St → Wr
  | ⟨op, kind, red, name, turns, es, exprs, bs, body, ls, els, line, col⟩ => if St.bad f ⟨op, kind, red, name, turns, es, exprs, bs, body, ls, els, line, col⟩ then ⟨40, line, col⟩ else
    if (Ex.wrL f exprs).err = 0 then (if (St.wrL f body).err = 0 then St.wrL f els else St.wrL f body) else Ex.wrL f exprs
def St.wrL (f : Key → Int) : List St → Wr
  | [] => zWr
  | e :: r => if (St.wr f e).err = 0 then St.wrL f r else St.wr f e
end
theorem Ex.wr_eq (f : Key → Int) (e : Ex) : e.wr f = if e.bad f then ⟨40, e.line, e.col⟩ else Ex.wrL f e.args := by obtain ⟨op, num, name, s, args, line, col⟩ := e; rw [Ex.wr]
theorem St.wr_eq (f : Key → Int) (e : St) : e.wr f = if e.bad f then ⟨40, e.line, e.col⟩ else if (Ex.wrL f e.exprs).err = 0 then (if (St.wrL f e.body).err = 0 then St.wrL f e.els else St.wrL f e.body) else Ex.wrL f e.exprs := by obtain ⟨op, kind, red, name, turns, es, exprs, bs, body, ls, els, line, col⟩ := e; rw [St.wr]
theorem Ex.wrL_all {f : Key → Int} : ∀ {l : List Ex}, (∀ a ∈ l, (a.wr f).err = 0) → Ex.wrL f l = zWr
  | [], _ => by rw [Ex.wrL]
  | e :: r, h => by rw [Ex.wrL, if_pos (h e (by simp)), Ex.wrL_all fun a ha => h a (List.mem_cons_of_mem _ ha)]
theorem St.wrL_all {f : Key → Int} : ∀ {l : List St}, (∀ a ∈ l, (a.wr f).err = 0) → St.wrL f l = zWr
  | [], _ => by rw [St.wrL]
  | e :: r, h => by rw [St.wrL, if_pos (h e (by simp)), St.wrL_all fun a ha => h a (List.mem_cons_of_mem _ ha)]
theorem Ex.wrL_at {f : Key → Int} : ∀ {l : List Ex} {n : Nat} {e : Ex}, l[n]? = some e → (∀ a ∈ l.take n, (a.wr f).err = 0) → (e.wr f).err ≠ 0 → Ex.wrL f l = e.wr f
  | [], n, e, h, _, _ => by simp at h
  | a :: r, 0, e, h, _, hb => by simp at h; subst h; rw [Ex.wrL, if_neg hb]
  | a :: r, n + 1, e, h, hn, hb => by
    rw [Ex.wrL, if_pos (hn a (by simp)), Ex.wrL_at (by simpa using h) (fun a ha => hn a (by simp; right; exact ha)) hb]
theorem St.wrL_at {f : Key → Int} : ∀ {l : List St} {n : Nat} {e : St}, l[n]? = some e → (∀ a ∈ l.take n, (a.wr f).err = 0) → (e.wr f).err ≠ 0 → St.wrL f l = e.wr f
  | [], n, e, h, _, _ => by simp at h
  | a :: r, 0, e, h, _, hb => by simp at h; subst h; rw [St.wrL, if_neg hb]
  | a :: r, n + 1, e, h, hn, hb => by
    rw [St.wrL, if_pos (hn a (by simp)), St.wrL_at (by simpa using h) (fun a ha => hn a (by simp; right; exact ha)) hb]
theorem Ex.wr_z {f : Key → Int} : ∀ e : Ex, (e.wr f).err = 0 → e.wr f = zWr := by
  intro e
  induction e using Ex.ind with
  | h e ih =>
    rw [Ex.wr_eq]
    split
    · intro h; simp at h
    · have : ∀ l : List Ex, (∀ a ∈ l, (a.wr f).err = 0 → a.wr f = zWr) → (Ex.wrL f l).err = 0 → Ex.wrL f l = zWr := by
        intro l
        induction l with
        | nil => intro _ _; rw [Ex.wrL]
        | cons a r ihr =>
          intro hl
          rw [Ex.wrL]
          split
          · exact ihr fun b hb => hl b (List.mem_cons_of_mem _ hb)
          · intro h; contradiction
      exact this e.args ih
theorem Ex.wrL_z {f : Key → Int} : ∀ l : List Ex, (Ex.wrL f l).err = 0 → Ex.wrL f l = zWr
  | [], _ => by rw [Ex.wrL]
  | a :: r, h => by
    rw [Ex.wrL] at h ⊢
    split at h
    · rename_i q; rw [if_pos q]; exact Ex.wrL_z r h
    · contradiction
theorem St.wrL_z {f : Key → Int} : ∀ l : List St, (∀ a ∈ l, (a.wr f).err = 0 → a.wr f = zWr) → (St.wrL f l).err = 0 → St.wrL f l = zWr
  | [], _, _ => by rw [St.wrL]
  | a :: r, hl, h => by
    rw [St.wrL] at h ⊢
    split at h
    · rename_i q; rw [if_pos q]; exact St.wrL_z r (fun b hb => hl b (List.mem_cons_of_mem _ hb)) h
    · contradiction
theorem St.wr_z {f : Key → Int} : ∀ e : St, (e.wr f).err = 0 → e.wr f = zWr := by
  intro e
  induction e using St.ind with
  | h e ih1 ih2 =>
    rw [St.wr_eq]
    split
    · intro h; simp at h
    · split
      · split
        · exact St.wrL_z _ ih2
        · intro h; contradiction
      · intro h; contradiction
end Go.X
