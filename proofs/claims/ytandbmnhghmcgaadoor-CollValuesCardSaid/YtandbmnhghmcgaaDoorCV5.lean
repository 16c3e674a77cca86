/- Several texts of this repo, one behind the other, without what is not used here. -/
import Derived.Test.YtandbmnhghmcgaaDoorRows
import Derived.Lib.LaidTab
import Derived.Test.YtandbmnhghmcgaaDoorCV4
set_option linter.unusedVariables false
set_option linter.unusedSimpArgs false
set_option maxRecDepth 8000
namespace Go.Proofs.YtandbmnhghmcgaaDoor.Col
open Go Go.X Go.RowKit Go.Proofs.YtandbmnhghmcgaaDoor.XF Go.Proofs.YtandbmnhghmcgaaDoor.XG Go.Proofs.YtandbmnhghmcgaaDoor.XK
section
variable {w : World}
theorem appI {v : Value} {xs : List Int} {m : Int} {B : Nat} {K : Value → Value → World → Prop} (ho : w.ownsRow B tI 1 v xs.length (ints xs)) (hB : B ≤ w.heap.size) (hl : xs.length ≤ 2000000)
    (hk : ∀ x v' w', w'.ownsRow B tI 1 v' (xs ++ [m]).length (ints (xs ++ [m])) → Mod (fun b => B ≤ b ∧ (sb v b ∨ w.heap.size ≤ b)) w w' → K x v' w') :
    VK Tryd.prog (Instr.buildSlice tIs 1 [(0, .int .i64 m)].toArray) w fun x w => IK Tryd.prog .append #[tIs, tIs] tIs [false, false] [v, x] w (K x) := by
  refine bs_k (cs := #[.int .i64 m]) (by kernel_rfl) fun w1 hb1 hm1 hz1 => ?_
  refine ap_any eIs (owns_mod ho hm1 fun _ _ => id) (reads_blk (size := 1) (n := 1) hb1 rfl) (fun u hu => by rw [List.mem_singleton.1 hu]; rfl) (by unfold maxLen; omega) (by omega) (by omega) fun v' w2 ho2 hm2 hv2 => ?_
  refine hk _ v' w2 ?_ ((hm1.mono fun _ _ z => z.elim).trans (hm2.mono fun b _ z => ⟨(owns_bd (owns_mod ho hm1 fun _ _ => id) b z.symm).1, .inl z.symm⟩))
  rw [List.length_append]
  unfold ints at ho2 ⊢
  rw [List.map_append]
  exact ho2
theorem worldL_succ (n : Nat) : worldL (n + 1) = worldL n ++ [(n : Int)] := by
  unfold worldL
  rw [List.range_succ, List.map_append]; rfl
theorem bG0 : Tryd.prog.built tG [] = some #[strV [], nilS] := by kernel_rfl
theorem World_ok {n : Nat} (h1 : 1 ≤ n) (h64 : n ≤ 64) : Rt Tryd.prog 60 #[.int .i64 (n : Int)] w fun v w' => ∃ rv, v = .tuple #[grpV [] rv, .int .i64 0] ∧ w'.ownsRow w.heap.size tI 1 rv n (ints (worldL n)) ∧ Mod none_ w w' := by
  refine dispatcherref11_World_calls ?_
  unfold dispatcherref11_World_F
  refine al_k (cs := #[strV [], nilS]) zG rfl _ fun w1 hb1 hm1 hz1 => ?_
  simp only [↓VG_u, ↓UG_u, ↓MG_u, ↓NG_u, ↓PG_u, ↓BG_u, ↓CG_u, ↓IG_u, ↓VGtt, ↓VGtf, ↓VGft, ↓VGff, ↓UGtt, ↓UGtf, ↓UGft, ↓UGff, ↓MGtt, ↓MGtf, ↓MGft, ↓MGff, ↓NGtt, ↓NGtf, ↓NGft, ↓NGff, ↓PGtt, ↓PGtf, ↓PGft, ↓PGff, ↓BGtt, ↓BGtf, ↓BGft, ↓BGff, ↓CGtt, ↓CGtf, ↓CGft, ↓CGff, ↓IGtt, ↓IGtf, ↓IGft, ↓IGff, ↓PKt, ↓PKf, ↓CDt, ↓CDf, ↓NOTt, ↓NOTf, ↓NK_ptr, ↓LTf (show (1 : Int) ≤ (n : Int) by omega), ↓GTf (show (n : Int) ≤ 64 by omega)]
  rw [build_ok bG0]
  refine lcl_k (cs := #[strV [], nilS]) zG _ iG rfl (grp_one _ none 0 0) fun w2 hb2 hm2 hz2 => ?_
  have hb12 := hm2.blk hb1 id
  have hm02 := hm1.trans hm2
  refine W_loop dispatcherref11_World_L0_ok (fun ρ w' => ∃ i : Nat, i ≤ n ∧ ρ 5 = .int .i64 i ∧ ρ 0 = .int .i64 (n : Int) ∧ ρ 2 = .pointer (some ⟨w.heap.size, 0, none⟩) ∧ ρ 4 = .pointer (some ⟨w1.heap.size, 0, none⟩) ∧ w'.heap[w.heap.size]? = some (.cells #[strV [], nilS] tG (0, 0)) ∧ (∃ rv, w'.heap[w1.heap.size]? = some (.cells #[strV [], rv] tG (0, 0)) ∧ w'.ownsRow w.heap.size tI 1 rv (worldL i).length (ints (worldL i))) ∧ Mod none_ w w') (fun ρ _ => n - (intOf (ρ 5)).toNat)
    ⟨0, Nat.zero_le _, rfl, rfl, rfl, rfl, hb12, ⟨nilS, hb2, World.ownsRow_nil _ _ _ _⟩, hm02⟩ ?_
  rintro ρ w3 ⟨i, hi, q5, q0, q2, q4, hbA, ⟨rv, hbB, ho⟩, hm⟩
  have hs1 := hm1.size
  rw [dispatcherref11_World_L0_eq]; unfold dispatcherref11_World_L0_F
  rw [q5, q0, q4, BK_lss]
  by_cases hlt : i < n
  · rw [decide_eq_true (by omega)]
    refine condT ?_
    simp only [↓(fG1 hbB).e]
    have hwl := worldL_len i
    refine appI ho hm.size (by omega) fun x v' w4 ho4 hm4 => ?_
    have nB : ∀ b, isT tG w3 b → ¬ (w.heap.size ≤ b ∧ (sb rv b ∨ w3.heap.size ≤ b)) := fun b hb z => by
      rcases z.2 with z | z
      · exact isT_ne hb (isT_own ho z) (by decide)
      · have := isT_lt hb; omega
    have hbB4 := hm4.blk hbB (nB _ ⟨_, _, hbB⟩)
    have hbA4 := hm4.blk hbA (nB _ ⟨_, _, hbA⟩)
    refine VK_of (v := .pointer (some ⟨w1.heap.size, 1, none⟩)) (by rw [run_fo (show fieldOff Tryd.prog tG 1 = some 1 by kernel_rfl), add_pl]) ?_
    refine stC (b := w1.heap.size) (o := 1) rfl (by kernel_rfl) (by obtain ⟨A', c', e', _⟩ := reads_cap (reads_of_owns ho4); rw [e']; rfl) hbB4 (by show 1 < 2; decide) fun w5 hb5 hm5 hz5 => ?_
    have hs4 := hm4.size
    have ho5 := owns_mod ho4 hm5 fun b hb z => by subst z; exact isT_ne (isT_own ho4 hb) ⟨_, _, hbB4⟩ (by decide)
    rw [BK_add, wrap_i (by omega) (by omega)]
    refine ⟨⟨i + 1, hlt, rfl, q0, q2, q4, hm5.blk hbA4 (fun z => by omega), ⟨v', hb5, ?_⟩, (hm.then hm4 fun i hi z => by omega).then hm5 fun i hi z => by omega⟩, ?_⟩
    · rw [worldL_succ]; exact ho5
    · simp only [sq_n, sq_x, sq_r, bk_n, bk_r, bk_x, rt_r, rt_n, rs_0, rs_t, pk_1, pk_2, up_at, reduceIte, Nat.reduceEqDiff, intOf]; omega
  · obtain rfl : i = n := by omega
    rw [decide_eq_false (by omega)]
    refine condF ?_
    rw [sq_x, bk_x, sq_n, dispatcherref11_World_R1_eq]; unfold dispatcherref11_World_R1_F
    simp only [sq_n, sq_x, sq_r, bk_n, bk_r, bk_x, rt_r, rt_n, rs_0, rs_t, pk_1, pk_2, up_at, reduceIte, Nat.reduceEqDiff, q4, q2]
    refine ldS (cs := #[strV [], rv]) rfl Tryd.underlying32 rfl iG hbB ?_
    refine stS (old := #[strV [], nilS]) (cs := #[strV [], rv]) rfl rfl iG rfl (by obtain ⟨A', c', e', _⟩ := reads_cap (reads_of_owns ho); rw [e']; exact grp_one _ _ _ _) hbA fun w5 hb5 hm5 hz5 => ?_
    refine rtCT (b := w.heap.size) (cs := #[strV [], rv]) (by first | exact q2 | rfl) Tryd.underlying32 rfl iG hb5 (R := fun v w' => ∃ rv, v = .tuple #[grpV [] rv, .int .i64 0] ∧ w'.ownsRow w.heap.size tI 1 rv i (ints (worldL i)) ∧ Mod none_ w w') ⟨rv, rfl, ?_, hm.then hm5 fun i hi z => by omega⟩
    have := owns_mod ho hm5 fun b hb z => by subst z; exact isT_ne (isT_own ho hb) ⟨_, _, hbA⟩ (by decide)
    rw [worldL_len] at this
    exact this
theorem ranks_ok {n : Nat} (h1 : 1 ≤ n) (h64 : n ≤ 64) : Rt Tryd.prog 30 #[.int .i64 (n : Int)] w fun v w' => ∃ rv, v = grpV [] rv ∧ w'.ownsRow w.heap.size tI 1 rv n (ints (worldL n)) ∧ Mod none_ w w' := by
  refine dispatcherlaw15_ranks_calls ?_
  unfold dispatcherlaw15_ranks_F
  refine al_k (cs := #[strV [], nilS]) zG rfl _ fun w1 hb1 hm1 hz1 => ?_
  refine CK_st Tryd.func60 rfl rfl (World_ok h1 h64) ?_
  rintro _ w2 ⟨rv, rfl, ho, hm2⟩
  rw [extract_ok (v := grpV [] rv) rfl, extract_ok (v := .int .i64 0) rfl]
  obtain ⟨A', c', e', _⟩ := reads_cap (reads_of_owns ho)
  have one : (#[strV [], rv] : Array Value).all (·.oneCell') = true := by rw [e']; exact grp_one _ _ _ _
  refine lcl_k (cs := #[strV [], rv]) zG _ iG rfl one fun w3 hb3 hm3 hz3 => ?_
  refine ldS (cs := #[strV [], rv]) rfl Tryd.underlying32 rfl iG hb3 ?_
  have hm03 := (hm1.trans hm2).trans hm3
  refine stS (old := #[strV [], nilS]) (cs := #[strV [], rv]) rfl rfl iG rfl one ((hm2.trans hm3).blk hb1 id) fun w4 hb4 hm4 hz4 => ?_
  have hs1 := hm1.size
  have ho3 := owns_mod ho hm3 fun _ _ => id
  have hbw := (hm2.trans hm3).blk hb1 id
  refine rsCell (R := fun u w'' => ∃ rv, u = grpV [] rv ∧ w''.ownsRow w.heap.size tI 1 rv n (ints (worldL n)) ∧ Mod none_ w w'') (cs := #[strV [], rv]) rfl Tryd.underlying32 rfl iG hb4 ⟨rv, rfl, owns_base (owns_mod ho3 hm4 fun b hb z => by subst z; exact isT_ne (isT_own ho3 hb) ⟨_, _, hbw⟩ (by decide)) hs1, hm03.then hm4 fun i hi z => by omega⟩
theorem bPtR (v : Int) : Tryd.prog.built tPt [(0, .int .u8 17), (1, .int .i64 1), (3, .int .i64 v)] = some (Pt.enc ⟨17, 1, 0, v, 0, 0⟩).toArray := by kernel_rfl
theorem reduce_ok (v : Int) : Rt Tryd.prog 56 #[.int .i64 v] w fun x w' => x = (Pt.v ⟨17, 1, 0, v, 0, 0⟩) ∧ Mod none_ w w' := by
  refine dispatcherlaw15_reduce_calls ?_
  unfold dispatcherlaw15_reduce_F
  refine al_k (cs := zPt.enc.toArray) zPt_z rfl _ fun w1 hb1 hm1 hz1 => ?_
  rw [build_ok (bPtR v)]
  refine stS (old := zPt.enc.toArray) (cs := (Pt.enc ⟨17, 1, 0, v, 0, 0⟩).toArray) rfl rfl iPt rfl (Pt.enc_one _) hb1 fun w2 hb2 hm2 hz2 => ?_
  exact rsCell (R := fun x w'' => x = (Pt.v ⟨17, 1, 0, v, 0, 0⟩) ∧ Mod none_ w w'') (cs := (Pt.enc ⟨17, 1, 0, v, 0, 0⟩).toArray) rfl Tryd.underlying34 rfl iPt hb2 ⟨rfl, hm1.then hm2 fun i hi z => by omega⟩
end
end Go.Proofs.YtandbmnhghmcgaaDoor.Col
set_option linter.unusedVariables false
set_option linter.unusedSimpArgs false
set_option maxRecDepth 8000
namespace Go.Proofs.YtandbmnhghmcgaaDoor.Col
open Go Go.X Go.RowKit Go.Proofs.YtandbmnhghmcgaaDoor.XF Go.Proofs.YtandbmnhghmcgaaDoor.XG Go.Proofs.YtandbmnhghmcgaaDoor.XI Go.Proofs.YtandbmnhghmcgaaDoor.XK
def TdR (w : World) (v : Value) (t : Td) : Prop := ∃ row rks, v = .agg (tdCells t row rks) ∧ RR w row t.row ∧ RR w rks t.ranks
section
variable {w : World} {p : Nat} {loose : Bool} {L : List Br} {V : CV}
theorem TdAt.R {B : Nat} {v : Value} {t : Td} (h : TdAt w B v t) : TdR w v t := by
  obtain ⟨row, rks, rfl, h1, h2⟩ := h
  exact ⟨row, rks, rfl, reads_of_owns h1, reads_of_owns h2⟩
theorem TdR.calm {w' : World} {v : Value} {t : Td} (h : TdR w v t) (hm : Mod none_ w w') : TdR w' v t := by
  obtain ⟨row, rks, rfl, h1, h2⟩ := h
  exact ⟨row, rks, rfl, h1.calm hm, h2.calm hm⟩
theorem CAt.notT (h : CAt w p loose L V) {t : TypeId} (h1 : t ≠ tC) (h2 : t ≠ tRo) (h3 : t ≠ tPts) (h4 : t ≠ tPt) {b : Nat} (hb : CF p V b) : ¬ isT t w b := by
  intro q
  rcases hb with rfl | rfl | ⟨e, he, hb⟩
  · exact isT_ne q ⟨_, _, h.blk⟩ h1
  · obtain ⟨cs, fr, q⟩ := q
    have := h.map
    unfold IsMap at this
    rw [this] at q
    injection q with q
    cases q
  · rcases (h.ro e he).blks hb with z | z | z
    · exact isT_ne q z h2
    · exact isT_ne q z h3
    · exact isT_ne q z h4
theorem fT0 {b : Nat} {t : Td} {row rks : Value} (h : w.heap[b]? = some (.cells (tdCells t row rks) tTd (0, 0))) : FO Tryd.prog w tTd 0 0 ⟨b, 0, none⟩ tL (.int .i64 t.val) := FO.blk h (by kernel_rfl) vL rfl rfl
theorem fT1 {b : Nat} {t : Td} {row rks : Value} (h : w.heap[b]? = some (.cells (tdCells t row rks) tTd (0, 0))) : FO Tryd.prog w tTd 1 1 ⟨b, 0, none⟩ tLs row := FO.blk h (by kernel_rfl) vLs rfl rfl
theorem ixRL {v : Value} {l : List Int} {i : Nat} {m : Int} (h : RR w v l) (hi : l[i]? = some m) : ∃ a, (∀ w', (Instr.indexAt tLs v (.int .i64 (i : Int))).run Tryd.prog w' = .ok (.pointer (some a)) w') ∧ ∀ w', Mod none_ w w' → (Instr.loadAt tL (.pointer (some a))).run Tryd.prog w' = .ok (.int .i64 m) w' := by
  have hil := (List.getElem?_eq_some_iff.1 hi).1
  obtain ⟨_, A, c, es, hnc, hr⟩ := id h
  obtain ⟨a, ha, _⟩ := hr i _ (ints_get hi)
  subst es ha
  refine ⟨a.add i, fun w' => ?_, fun w' hw => ?_⟩
  · rw [run_ixa (sz := 0) vLs (by kernel_rfl) (by omega) (by omega) w']
    congr 4
    omega
  · obtain ⟨_, A, c, es, _, hc⟩ := h.calm hw
    cases es
    obtain ⟨b, hb, hcell⟩ := hc i _ (ints_get hi)
    cases hb
    exact run_ld1 vL rfl hcell
def NoC (w : World) (v : Value) : Prop := v = .pointer none ∨ ∃ q, v = .pointer (some ⟨q, 0, none⟩) ∧ w.heap[q]? = some (.cells #[.bool false, .map none] tC (0, 0))
theorem NoC.calm {w' : World} {v : Value} (h : NoC w v) (hm : Mod none_ w w') : NoC w' v := h.imp id fun ⟨q, e, hb⟩ => ⟨q, e, hm.blk hb id⟩
end
end Go.Proofs.YtandbmnhghmcgaaDoor.Col
set_option linter.unusedVariables false
set_option linter.unusedSimpArgs false
set_option maxRecDepth 8000
namespace Go.X
open Go Go.RowKit
structure Ac where
  key : Ky
  rv : Value
  ranks : List Int
  rank : Int
  p : Pt
  copy : Bool
def Ac.enc (a : Ac) : List Value := [strV a.key, a.rv, .int .i64 a.rank] ++ a.p.enc ++ [.bool a.copy]
theorem Ac.enc_len (a : Ac) : a.enc.length = 9 + 1 := rfl
def Ac.br (a : Ac) : Br := ⟨a.key, a.ranks, a.rank, a.p⟩
structure Acts (w : World) (v : Value) (l : List Ac) : Prop where
  row : reads w (9 + 1) v l.length (l.flatMap Ac.enc)
  rk : ∀ a ∈ l, RR w a.rv a.ranks
theorem Acts.calm {w w' : World} {v : Value} {l : List Ac} (h : Acts w v l) (hm : Mod none_ w w') : Acts w' v l := ⟨reads_mod h.row hm (fun _ _ _ => id), fun a ha => (h.rk a ha).calm hm⟩
structure Small (l : List Ac) : Prop where
  len : l.length ≤ 80
  rk : ∀ a ∈ l, a.ranks.length ≤ 8
  key : ∀ a ∈ l, a.key.length ≤ 200
end Go.X
namespace Go.Proofs.YtandbmnhghmcgaaDoor.Col
open Go Go.X Go.RowKit Go.Proofs.YtandbmnhghmcgaaDoor.XF Go.Proofs.YtandbmnhghmcgaaDoor.XG Go.Proofs.YtandbmnhghmcgaaDoor.XI Go.Proofs.YtandbmnhghmcgaaDoor.XK
section
variable {w : World} {g : Addr} {a : Ac}
end
end Go.Proofs.YtandbmnhghmcgaaDoor.Col
set_option linter.unusedVariables false
set_option maxRecDepth 8000
namespace Go.X
open Go Go.RowKit
def in64 (n : Int) : Prop := -9223372036854775808 ≤ n ∧ n ≤ 9223372036854775807
theorem in64_of {n : Int} (h : (Lit.int .i64 n).wf = true) : in64 n := by
  simp [Lit.wf, IntKind.min, IntKind.max, IntKind.signed, IntKind.bits, IntKind.has] at h
  unfold in64
  omega
end Go.X
namespace Go.Proofs.YtandbmnhghmcgaaDoor.Col
open Go Go.X Go.RowKit
theorem RR_of {w : World} {x : Value × List Int} {cs : List Value} (h : (Sh.slice (Sh.int .i64)).K w x cs) : cs = [x.1] ∧ RR w x.1 x.2 := by
  refine ⟨h.1, ?_⟩
  have := reads_sh h (fun g => [Value.int .i64 g]) (fun _ => rfl) (fun _ _ hd => hd.1)
  have e : ∀ l : List Int, (l.flatMap fun g => [Value.int .i64 g]) = ints l := fun l => by
    unfold ints
    induction l with
    | nil => rfl
    | cons a l ih => rw [List.flatMap_cons, ih]; rfl
  rw [e] at this
  exact this
theorem sh_mem {α : Type} {k : Sh α} {w : World} {x : Value × List α} {cs : List Value} (h : (Sh.slice k).K w x cs) : ∀ a ∈ x.2, ∃ d, k.K w a d := by
  intro a ha
  obtain ⟨_, _, A, c, hv, hc, hr⟩ := h
  obtain ⟨i, hi⟩ := List.getElem?_of_mem ha
  obtain ⟨_, d, _, _, hd, _⟩ := hr i a hi
  exact ⟨d, hd⟩
theorem gl_of {W : World} (h : laidMetH Tryd.prog [("math/bits.deBruijn32tab", Rows.laid_math_bits_deBruijn32tab), ("math/bits.deBruijn64tab", Rows.laid_math_bits_deBruijn64tab), ("internal/strconv.uint64pow10", Rows.laid_internal_strconv_uint64pow10)] W) : Gl W := by
  rw [MakeChecks.laidMetH_plain _ _ _ (by kernel_rfl)] at h
  obtain ⟨ps, ⟨g, t, cs, fuel, p, q, hg, ht, hv, hd, ⟨g2, t2, cs2, fuel2, p2, q2, hg2, ht2, hv2, hd2, ⟨g3, t3, cs3, fuel3, p3, q3, hg3, ht3, hv3, hd3, _, _⟩, _⟩, _⟩, _⟩ := h
  obtain rfl := Option.some.inj ((show Tryd.prog.globalNamed "internal/strconv.uint64pow10" = some 0 by kernel_rfl).symm.trans hg3)
  obtain rfl := Option.some.inj ((show (Tryd.prog.globals[0]?).map (·.type) = some 175 by kernel_rfl).symm.trans ht3)
  have hc := Lib.cells_of_tab (zs := Lib.pow10Tab) (show Tryd.prog.underlying 175 = some (.array 20 154) by kernel_rfl) (show Tryd.prog.underlying 154 = some (.int .u64) by kernel_rfl) (by kernel_rfl) (by kernel_rfl) (show DataW.trod _ _ _ _ _ _ _ _ _ = some (Lib.tabData .u64 Lib.pow10Tab, _) from hd3)
  unfold Gl Lib.TabIs
  rw [hv3, ← hc]
set_option maxRecDepth 100000 in
theorem bool_of {W : World} {B : Nat} {v : Value} (h : Value.okWide Tryd.prog W .any B 4 v) : ∃ b, v = .bool b := by
  simp only [Value.okWide, vB, Cell.okWide] at h
  cases v <;> simp_all [Cell.ok]
end Go.Proofs.YtandbmnhghmcgaaDoor.Col
set_option linter.unusedVariables false
set_option linter.unusedSimpArgs false
set_option maxRecDepth 8000
namespace Go.X
open Go Go.RowKit
def awB (i v : Int) : Br := ⟨[], worldL 3, i, ⟨17, 1, 0, v, 0, 0⟩⟩
def awL1 : List Br := [awB 0 5]
def awL2 : List Br := [awB 0 5, awB 1 7]
def awL3 : List Br := [awB 0 5, awB 1 7, awB 2 9]
def awX : Br := ⟨[], worldL 3, 2, ⟨15, 0, 0, 0, 0, 0⟩⟩
def awLD : List Br := [awB 0 5, awB 1 7, awX]
theorem aw1 : bringC [] (awB 0 5) = (awL1, 0, 0) := by kernel_rfl
theorem aw2 : bringC awL1 (awB 1 7) = (awL2, 0, 0) := by kernel_rfl
theorem aw3 : bringC awL2 (awB 2 9) = (awL3, 0, 0) := by kernel_rfl
theorem aw4 : bringC awL2 awX = (awLD, 0, 0) := by kernel_rfl
theorem awE (loose : Bool) : overC loose awL1 [] 0 0 = loose := by cases loose <;> kernel_rfl
theorem awT1 (loose : Bool) : toldC loose awL3 [] 1 0 = ({ zTd with val := 21 }, true) := by cases loose <;> kernel_rfl
theorem awT2 (loose : Bool) : toldC loose awL3 [] 2 0 = (zTd, true) := by cases loose <;> kernel_rfl
theorem awO1 (loose : Bool) : overC loose awL2 [] 1 0 = false := by cases loose <;> kernel_rfl
theorem awO2 (loose : Bool) : overC loose awLD [] 1 0 = false := by cases loose <;> kernel_rfl
theorem awO3 (loose : Bool) : overC loose awLD [] 2 0 = false := by cases loose <;> kernel_rfl
theorem awO4 (loose : Bool) : overC loose awLD [] 0 0 = loose := by cases loose <;> kernel_rfl
theorem awOd : oddC awLD = [[46, 48]] := by
  have h : keysC awLD = [[]] := by
    unfold keysC
    rw [show keysOf awLD = [[]] from by kernel_rfl]
    simp
  have e : ∀ ks, keysC awLD = ks → oddC awLD = ks.flatMap fun key => ((List.range awLD.length).filter fun k : Nat => oddK awLD key k).map fun k : Nat => childK key k := fun ks q => by unfold oddC; rw [q]
  exact (e _ h).trans (by kernel_rfl)
end Go.X
namespace Go.Proofs.YtandbmnhghmcgaaDoor.Col
open Go Go.X Go.RowKit Go.Proofs.YtandbmnhghmcgaaDoor.XF Go.Proofs.YtandbmnhghmcgaaDoor.XG Go.Proofs.YtandbmnhghmcgaaDoor.XI Go.Proofs.YtandbmnhghmcgaaDoor.XK
structure Cs (w0 w : World) (p : Nat) (loose : Bool) (L : List Br) (V : CV) : Prop where
  at_ : CAt w p loose L V
  new : ∀ b, CF p V b → w0.heap.size ≤ b
  mod : Mod none_ w0 w
section
variable {w0 w w' : World} {p : Nat} {loose : Bool} {L : List Br} {V V' : CV}
theorem Cs.calm (h : Cs w0 w p loose L V) (hm : Mod none_ w w') : Cs w0 w' p loose L V := ⟨h.at_.calm hm, h.new, h.mod.trans hm⟩
theorem Cs.put {L' : List Br} (h : Cs w0 w p loose L V) (hc : CAt w' p loose L' V') (hf : CFr p w V w' V') : Cs w0 w' p loose L' V' :=
  ⟨hc, fun b hb => (hf.f b hb).elim (h.new b) fun z => Nat.le_trans h.mod.size z, h.mod.then hf.mod fun i hi z => by have := h.new i z; omega⟩
theorem keepB (h : CAt w p loose L V) (hf : CFr p w V w' V') {t : TypeId} (h1 : t ≠ tC) (h2 : t ≠ tRo) (h3 : t ≠ tPts) (h4 : t ≠ tPt) {b : Nat} {cs : Array Value} (hb : w.heap[b]? = some (.cells cs t (0, 0))) : w'.heap[b]? = some (.cells cs t (0, 0)) :=
  hf.mod.blk hb fun z => h.notT h1 h2 h3 h4 z ⟨_, _, hb⟩
theorem keepR (h : CAt w p loose L V) (hf : CFr p w V w' V') {B n : Nat} {rv : Value} {xs : List Value} (ho : w.ownsRow B tI 1 rv n xs) : w'.ownsRow B tI 1 rv n xs :=
  owns_mod ho hf.mod fun b hb z => h.typ z (isT_own ho hb)
theorem awake_R2 {K : Exit → Sl → World → Prop} {ρ : Sl} {b3 : Nat} {rv : Value} (h : CAt w p loose [] V) (hb3 : w.heap[b3]? = some (.cells #[strV [], rv] tG (0, 0))) (ho : w.ownsRow 0 tI 1 rv 3 (ints (worldL 3)))
    (q2 : ρ 2 = .pointer (some ⟨p, 0, none⟩)) (q3 : ρ 3 = .pointer (some ⟨b3, 0, none⟩))
    (hK : ∀ (ρ' : Sl) (w' : World) V', (∀ i, i < 11 → ρ' i = ρ i) → CAt w' p loose awL1 V' → CFr p w V w' V' → w'.heap[b3]? = some (.cells #[strV [], rv] tG (0, 0)) → w'.ownsRow 0 tI 1 rv 3 (ints (worldL 3)) → K .normal ρ' w') : W fn_ Tryd.prog 107 dispatcherlaw15_awake_R2 K ρ w := by
  have hd : Mod none_ w { w with drawn := w.drawn + 1 } := (Mod.refl _ w).drawn _
  refine dispatcherlaw15_awake_R2_held (D := []) (fun w' => w'.heap[b3]? = some (.cells #[strV [], rv] tG (0, 0))) (hd.blk hb3 id) ?_
  generalize ({ w with drawn := w.drawn + 1 } : World) = wd at *
  unfold dispatcherlaw15_awake_R2_H
  rw [q2, q3]
  refine HV_of (v := grpV [] rv) (fun w' hw => run_ldB (cs := #[strV [], rv]) Tryd.underlying32 rfl iG hw) ?_
  refine CK_st Tryd.func56 rfl rfl (reduce_ok 5) ?_
  rintro _ w2 ⟨rfl, hm2⟩
  have hm02 := hd.trans hm2
  have ho2 := owns_mod ho hm02 fun _ _ => id
  have hb2 := hm02.blk hb3 id
  refine ⟨hb2, ?_⟩
  refine CK_st Tryd.func12 rfl rfl (Bring_ok (b := awB 0 5) (h.calm hm02) (by simp) (reads_of_owns ho2) (by decide)) ?_
  rintro _ w3 ⟨rfl, V', hc, hf⟩
  rw [aw1] at hc ⊢
  have hf' : CFr p w V w3 V' := (CFr.calm hm02).trans hf
  have hb := keepB h hf' (by decide) (by decide) (by decide) (by decide) hb3
  refine ⟨hb, hK _ w3 V' (fun i hi => ?_) hc hf' hb (keepR h hf' ho)⟩
  repeat rw [up_at, if_neg (by omega)]
theorem awake_R5 {K : Exit → Sl → World → Prop} {ρ : Sl} {b3 : Nat} {rv : Value} (h : CAt w p loose awL1 V) (hb3 : w.heap[b3]? = some (.cells #[strV [], rv] tG (0, 0))) (ho : w.ownsRow 0 tI 1 rv 3 (ints (worldL 3)))
    (q2 : ρ 2 = .pointer (some ⟨p, 0, none⟩)) (q3 : ρ 3 = .pointer (some ⟨b3, 0, none⟩))
    (hK : ∀ (ρ' : Sl) (w' : World) V', (∀ i, i < 11 → ρ' i = ρ i) → CAt w' p loose awL2 V' → CFr p w V w' V' → w'.heap[b3]? = some (.cells #[strV [], rv] tG (0, 0)) → w'.ownsRow 0 tI 1 rv 3 (ints (worldL 3)) → K .normal ρ' w') : W fn_ Tryd.prog 107 dispatcherlaw15_awake_R5 K ρ w := by
  have hd : Mod none_ w { w with drawn := w.drawn + 1 } := (Mod.refl _ w).drawn _
  refine dispatcherlaw15_awake_R5_held (D := []) (fun w' => w'.heap[b3]? = some (.cells #[strV [], rv] tG (0, 0))) (hd.blk hb3 id) ?_
  generalize ({ w with drawn := w.drawn + 1 } : World) = wd at *
  unfold dispatcherlaw15_awake_R5_H
  rw [q2, q3]
  refine HV_of (v := grpV [] rv) (fun w' hw => run_ldB (cs := #[strV [], rv]) Tryd.underlying32 rfl iG hw) ?_
  refine CK_st Tryd.func56 rfl rfl (reduce_ok 7) ?_
  rintro _ w2 ⟨rfl, hm2⟩
  have hm02 := hd.trans hm2
  have ho2 := owns_mod ho hm02 fun _ _ => id
  have hb2 := hm02.blk hb3 id
  refine ⟨hb2, ?_⟩
  refine CK_st Tryd.func12 rfl rfl (Bring_ok (b := awB 1 7) (h.calm hm02) (by decide) (reads_of_owns ho2) (by decide)) ?_
  rintro _ w3 ⟨rfl, V', hc, hf⟩
  rw [aw2] at hc ⊢
  have hf' : CFr p w V w3 V' := (CFr.calm hm02).trans hf
  have hb := keepB h hf' (by decide) (by decide) (by decide) (by decide) hb3
  refine ⟨hb, hK _ w3 V' (fun i hi => ?_) hc hf' hb (keepR h hf' ho)⟩
  repeat rw [up_at, if_neg (by omega)]
theorem awake_R7 {K : Exit → Sl → World → Prop} {ρ : Sl} {b3 : Nat} {rv : Value} (h : CAt w p loose awL2 V) (hb3 : w.heap[b3]? = some (.cells #[strV [], rv] tG (0, 0))) (ho : w.ownsRow 0 tI 1 rv 3 (ints (worldL 3)))
    (q2 : ρ 2 = .pointer (some ⟨p, 0, none⟩)) (q3 : ρ 3 = .pointer (some ⟨b3, 0, none⟩))
    (hK : ∀ (ρ' : Sl) (w' : World) V', (∀ i, i < 11 → ρ' i = ρ i) → CAt w' p loose awL3 V' → CFr p w V w' V' → w'.heap[b3]? = some (.cells #[strV [], rv] tG (0, 0)) → w'.ownsRow 0 tI 1 rv 3 (ints (worldL 3)) → K .normal ρ' w') : W fn_ Tryd.prog 107 dispatcherlaw15_awake_R7 K ρ w := by
  have hd : Mod none_ w { w with drawn := w.drawn + 1 } := (Mod.refl _ w).drawn _
  refine dispatcherlaw15_awake_R7_held (D := []) (fun w' => w'.heap[b3]? = some (.cells #[strV [], rv] tG (0, 0))) (hd.blk hb3 id) ?_
  generalize ({ w with drawn := w.drawn + 1 } : World) = wd at *
  unfold dispatcherlaw15_awake_R7_H
  rw [q2, q3]
  refine HV_of (v := grpV [] rv) (fun w' hw => run_ldB (cs := #[strV [], rv]) Tryd.underlying32 rfl iG hw) ?_
  refine CK_st Tryd.func56 rfl rfl (reduce_ok 9) ?_
  rintro _ w2 ⟨rfl, hm2⟩
  have hm02 := hd.trans hm2
  have ho2 := owns_mod ho hm02 fun _ _ => id
  have hb2 := hm02.blk hb3 id
  refine ⟨hb2, ?_⟩
  refine CK_st Tryd.func12 rfl rfl (Bring_ok (b := awB 2 9) (h.calm hm02) (by decide) (reads_of_owns ho2) (by decide)) ?_
  rintro _ w3 ⟨rfl, V', hc, hf⟩
  rw [aw3] at hc ⊢
  have hf' : CFr p w V w3 V' := (CFr.calm hm02).trans hf
  have hb := keepB h hf' (by decide) (by decide) (by decide) (by decide) hb3
  refine ⟨hb, hK _ w3 V' (fun i hi => ?_) hc hf' hb (keepR h hf' ho)⟩
  repeat rw [up_at, if_neg (by omega)]
end
end Go.Proofs.YtandbmnhghmcgaaDoor.Col
set_option linter.unusedVariables false
set_option linter.unusedSimpArgs false
set_option maxRecDepth 8000
namespace Go.Proofs.YtandbmnhghmcgaaDoor.Col
open Go Go.X Go.RowKit Go.Proofs.YtandbmnhghmcgaaDoor.XF Go.Proofs.YtandbmnhghmcgaaDoor.XG Go.Proofs.YtandbmnhghmcgaaDoor.XI Go.Proofs.YtandbmnhghmcgaaDoor.XK
theorem bPtB : Tryd.prog.built tPt [(0, .int .u8 15)] = some (Pt.enc ⟨15, 0, 0, 0, 0, 0⟩).toArray := by kernel_rfl
section
variable {w0 w : World} {p d : Nat} {loose : Bool} {V VD : CV}
theorem awake_R10 {K : Exit → Sl → World → Prop} {ρ : Sl} {b3 : Nat} {rv : Value} {n : Int} (hn : (n == 1) = loose) (hgl : Gl w0) (h : Cs w0 w d loose awL2 VD) (hb3 : w.heap[b3]? = some (.cells #[strV [], rv] tG (0, 0))) (ho : w.ownsRow 0 tI 1 rv 3 (ints (worldL 3)))
    (q1 : ρ 1 = .int .i64 n) (q5 : ρ 5 = .pointer (some ⟨d, 0, none⟩)) (q3 : ρ 3 = .pointer (some ⟨b3, 0, none⟩))
    (hK : ∀ (ρ' : Sl) (w' : World), ρ' 1 = ρ 1 → Mod none_ w0 w' → K .normal ρ' w') : sx fn_ Tryd.prog 107 dispatcherlaw15_awake_R10 K ρ w := by
  rw [dispatcherlaw15_awake_R10_eq]; unfold dispatcherlaw15_awake_R10_F
  rw [q3, q5, q1]
  refine ldS (cs := #[strV [], rv]) rfl Tryd.underlying32 rfl iG hb3 ?_
  rw [build_ok bPtB]
  refine CK_st Tryd.func12 rfl rfl (Bring_ok (b := awX) h.at_ (by decide) (reads_of_owns ho) (by decide)) ?_
  rintro _ w1 ⟨rfl, V1, hc, hf⟩
  rw [aw4] at hc ⊢
  have h1 := h.put hc hf
  refine CK_st Tryd.func24 rfl rfl (Odd_ok h1.at_ (hgl.calm h1.mod) (by decide) (fun b hb => by simp [awLD, awB, awX] at hb; rcases hb with rfl | rfl | rfl <;> simp)) ?_
  rintro x w2 ⟨hx, hm2⟩
  rw [awOd] at hx
  have h2 := h1.calm hm2
  have hrx := reads_of_owns hx
  obtain ⟨A, c, es, _⟩ := reads_cap hrx
  rw [es, len_sl vSs, ← es]
  simp only [↓VG_u, ↓UG_u, ↓MG_u, ↓NG_u, ↓PG_u, ↓BG_u, ↓CG_u, ↓IG_u, ↓VGtt, ↓VGtf, ↓VGft, ↓VGff, ↓UGtt, ↓UGtf, ↓UGft, ↓UGff, ↓MGtt, ↓MGtf, ↓MGft, ↓MGff, ↓NGtt, ↓NGtf, ↓NGft, ↓NGff, ↓PGtt, ↓PGtf, ↓PGft, ↓PGff, ↓BGtt, ↓BGtf, ↓BGft, ↓BGff, ↓CGtt, ↓CGtf, ↓CGft, ↓CGff, ↓IGtt, ↓IGtf, ↓IGft, ↓IGff, ↓PKt, ↓PKf, ↓CDt, ↓CDf, ↓NOTt, ↓NOTf, ↓NK_ptr, ↓NEf (show (([[46, 48]] : List Ky).length : Int) = 1 from rfl)]
  refine ixld vSs cS vS rfl hrx (by decide) (i := 0) (u := strV [46, 48]) rfl fun y => ?_
  rw [show (Value.string { data := #[46, 48] } : Value) = strV [46, 48] from rfl]
  unfold strV
  simp only [↓VG_u, ↓UG_u, ↓MG_u, ↓NG_u, ↓PG_u, ↓BG_u, ↓CG_u, ↓IG_u, ↓VGtt, ↓VGtf, ↓VGft, ↓VGff, ↓UGtt, ↓UGtf, ↓UGft, ↓UGff, ↓MGtt, ↓MGtf, ↓MGft, ↓MGff, ↓NGtt, ↓NGtf, ↓NGft, ↓NGff, ↓PGtt, ↓PGtf, ↓PGft, ↓PGff, ↓BGtt, ↓BGtf, ↓BGft, ↓BGff, ↓CGtt, ↓CGtf, ↓CGft, ↓CGff, ↓IGtt, ↓IGtf, ↓IGft, ↓IGff, ↓PKt, ↓PKf, ↓CDt, ↓CDf, ↓NOTt, ↓NOTf, ↓NK_ptr, ↓SNEf (show (⟨([46, 48] : Ky).toArray⟩ : ByteArray) = ⟨([46, 48] : Ky).toArray⟩ from rfl)]
  refine CK_st Tryd.func31 rfl rfl (Over_ok h2.at_ h2.at_.hG [] 1 0) ?_
  rintro _ w3 ⟨rfl, hm3⟩
  have h3 := h2.calm hm3
  rw [awO2]
  try simp only [↓VG_u, ↓UG_u, ↓MG_u, ↓NG_u, ↓PG_u, ↓BG_u, ↓CG_u, ↓IG_u, ↓VGtt, ↓VGtf, ↓VGft, ↓VGff, ↓UGtt, ↓UGtf, ↓UGft, ↓UGff, ↓MGtt, ↓MGtf, ↓MGft, ↓MGff, ↓NGtt, ↓NGtf, ↓NGft, ↓NGff, ↓PGtt, ↓PGtf, ↓PGft, ↓PGff, ↓BGtt, ↓BGtf, ↓BGft, ↓BGff, ↓CGtt, ↓CGtf, ↓CGft, ↓CGff, ↓IGtt, ↓IGtf, ↓IGft, ↓IGff, ↓PKt, ↓PKf, ↓CDt, ↓CDf, ↓NOTt, ↓NOTf, ↓NK_ptr]
  refine CK_st Tryd.func31 rfl rfl (Over_ok h3.at_ h3.at_.hG [] 2 0) ?_
  rintro _ w4 ⟨rfl, hm4⟩
  have h4 := h3.calm hm4
  rw [awO3]
  try simp only [↓VG_u, ↓UG_u, ↓MG_u, ↓NG_u, ↓PG_u, ↓BG_u, ↓CG_u, ↓IG_u, ↓VGtt, ↓VGtf, ↓VGft, ↓VGff, ↓UGtt, ↓UGtf, ↓UGft, ↓UGff, ↓MGtt, ↓MGtf, ↓MGft, ↓MGff, ↓NGtt, ↓NGtf, ↓NGft, ↓NGff, ↓PGtt, ↓PGtf, ↓PGft, ↓PGff, ↓BGtt, ↓BGtf, ↓BGft, ↓BGff, ↓CGtt, ↓CGtf, ↓CGft, ↓CGff, ↓IGtt, ↓IGtf, ↓IGft, ↓IGff, ↓PKt, ↓PKf, ↓CDt, ↓CDf, ↓NOTt, ↓NOTf, ↓NK_ptr]
  refine CK_st Tryd.func31 rfl rfl (Over_ok h4.at_ h4.at_.hG [] 0 0) ?_
  rintro _ w5 ⟨rfl, hm5⟩
  have h5 := h4.calm hm5
  rw [awO4]
  try simp only [↓VG_u, ↓UG_u, ↓MG_u, ↓NG_u, ↓PG_u, ↓BG_u, ↓CG_u, ↓IG_u, ↓VGtt, ↓VGtf, ↓VGft, ↓VGff, ↓UGtt, ↓UGtf, ↓UGft, ↓UGff, ↓MGtt, ↓MGtf, ↓MGft, ↓MGff, ↓NGtt, ↓NGtf, ↓NGft, ↓NGff, ↓PGtt, ↓PGtf, ↓PGft, ↓PGff, ↓BGtt, ↓BGtf, ↓BGft, ↓BGff, ↓CGtt, ↓CGtf, ↓CGft, ↓CGff, ↓IGtt, ↓IGtf, ↓IGft, ↓IGff, ↓PKt, ↓PKf, ↓CDt, ↓CDf, ↓NOTt, ↓NOTf, ↓NK_ptr]
  rw [BK_eql, hn, BK_neqB vB, show (!(loose == loose)) = false by simp]
  rw [dispatcherlaw15_awake_R11_eq]; unfold dispatcherlaw15_awake_R11_F
  refine condF ?_
  refine hK _ _ ?_ h5.mod
  repeat rw [up_at, if_neg (by omega)]
theorem awake_R8 {K : Exit → Sl → World → Prop} {ρ : Sl} {b3 : Nat} {rv : Value} {n : Int} (hn : (n == 1) = loose) (hgl : Gl w0) (hc : Cs w0 w p loose awL3 V) (h : Cs w0 w d loose awL2 VD) (hb3 : w.heap[b3]? = some (.cells #[strV [], rv] tG (0, 0))) (ho : w.ownsRow 0 tI 1 rv 3 (ints (worldL 3)))
    (q1 : ρ 1 = .int .i64 n) (q2 : ρ 2 = .pointer (some ⟨p, 0, none⟩)) (q4 : ρ 4 = .bool loose) (q5 : ρ 5 = .pointer (some ⟨d, 0, none⟩)) (q3 : ρ 3 = .pointer (some ⟨b3, 0, none⟩))
    (hK : ∀ (ρ' : Sl) (w' : World), ρ' 1 = ρ 1 → Mod none_ w0 w' → K .normal ρ' w') : sx fn_ Tryd.prog 107 dispatcherlaw15_awake_R8 K ρ w := by
  rw [dispatcherlaw15_awake_R8_eq]; unfold dispatcherlaw15_awake_R8_F
  rw [q2, q1, q4, q5]
  have hC : ∀ b ∈ awL3, -9223372036854775808 ≤ b.p.color ∧ b.p.color ≤ 9223372036854775807 := fun b hb => by simp [awL3, awB] at hb; rcases hb with rfl | rfl | rfl <;> simp
  have hKy : ∀ b ∈ awL3, b.key.length ≤ 1000000 := fun b hb => by simp [awL3, awB] at hb; rcases hb with rfl | rfl | rfl <;> simp
  refine CK_st Tryd.func27 rfl rfl (Told_ok hc.at_ (hgl.calm hc.mod) (by decide) hKy hC [] 1 0) ?_
  rintro _ w1 ⟨u, rfl, hu, hm1⟩
  rw [awT1] at hu ⊢
  obtain ⟨row, rks, rfl, hr1, hr2⟩ := hu
  rw [extract_ok (v := .agg (tdCells { zTd with val := 21 } row rks)) rfl, extract_ok (v := .bool true) rfl]
  obtain ⟨A1, c1, es1, _⟩ := reads_cap (reads_of_owns hr1)
  obtain ⟨A2, c2, es2, _⟩ := reads_cap (reads_of_owns hr2)
  refine lcl_k (cs := tdCells { zTd with val := 21 } row rks) zTd_z _ iTd rfl (by rw [es1, es2]; exact td_one _ _ _ _ _ _ _) fun w2 hb2 hm2 hz2 => ?_
  have hc2 := (hc.calm hm1).calm hm2
  refine CK_st Tryd.func27 rfl rfl (Told_ok hc2.at_ (hgl.calm hc2.mod) (by decide) hKy hC [] 2 0) ?_
  rintro _ w3 ⟨u, rfl, hu, hm3⟩
  rw [awT2] at hu ⊢
  obtain ⟨row', rks', rfl, hr1', hr2'⟩ := hu
  rw [extract_ok (v := .agg (tdCells zTd row' rks')) rfl, extract_ok (v := .bool true) rfl]
  obtain ⟨A3, c3, es3, _⟩ := reads_cap (reads_of_owns hr1')
  obtain ⟨A4, c4, es4, _⟩ := reads_cap (reads_of_owns hr2')
  refine lcl_k (cs := tdCells zTd row' rks') zTd_z _ iTd rfl (by rw [es3, es4]; exact td_one _ _ _ _ _ _ _) fun w4 hb4 hm4 hz4 => ?_
  have hm14 := (hm1.trans hm2).trans (hm3.trans hm4)
  have hb24 := (hm3.trans hm4).blk hb2 id
  have h4 := h.calm hm14
  rw [BK_eql, hn, BK_neqB vB, show (!(loose == loose)) = false by simp]
  simp only [↓VG_u, ↓UG_u, ↓MG_u, ↓NG_u, ↓PG_u, ↓BG_u, ↓CG_u, ↓IG_u, ↓VGtt, ↓VGtf, ↓VGft, ↓VGff, ↓UGtt, ↓UGtf, ↓UGft, ↓UGff, ↓MGtt, ↓MGtf, ↓MGft, ↓MGff, ↓NGtt, ↓NGtf, ↓NGft, ↓NGff, ↓PGtt, ↓PGtf, ↓PGft, ↓PGff, ↓BGtt, ↓BGtf, ↓BGft, ↓BGff, ↓CGtt, ↓CGtf, ↓CGft, ↓CGff, ↓IGtt, ↓IGtf, ↓IGft, ↓IGff, ↓PKt, ↓PKf, ↓CDt, ↓CDf, ↓NOTt, ↓NOTf, ↓NK_ptr, ↓(fT0 hb24).e, ↓NEf (show (21 : Int) = 21 from rfl)]
  simp only [↓(fT0 hb4).e, ↓NEf (show (zTd.val : Int) = 0 from rfl), ↓VG_u, ↓UG_u, ↓MG_u, ↓NG_u, ↓PG_u, ↓BG_u, ↓CG_u, ↓IG_u, ↓VGtt, ↓VGtf, ↓VGft, ↓VGff, ↓UGtt, ↓UGtf, ↓UGft, ↓UGff, ↓MGtt, ↓MGtf, ↓MGft, ↓MGff, ↓NGtt, ↓NGtf, ↓NGft, ↓NGff, ↓PGtt, ↓PGtf, ↓PGft, ↓PGff, ↓BGtt, ↓BGtf, ↓BGft, ↓BGff, ↓CGtt, ↓CGtf, ↓CGft, ↓CGff, ↓IGtt, ↓IGtf, ↓IGft, ↓IGff, ↓PKt, ↓PKf, ↓CDt, ↓CDf, ↓NOTt, ↓NOTf, ↓NK_ptr]
  rw [BK_eqlP uC]
  simp only [↓VG_u, ↓UG_u, ↓MG_u, ↓NG_u, ↓PG_u, ↓BG_u, ↓CG_u, ↓IG_u, ↓VGtt, ↓VGtf, ↓VGft, ↓VGff, ↓UGtt, ↓UGtf, ↓UGft, ↓UGff, ↓MGtt, ↓MGtf, ↓MGft, ↓MGff, ↓NGtt, ↓NGtf, ↓NGft, ↓NGff, ↓PGtt, ↓PGtf, ↓PGft, ↓PGff, ↓BGtt, ↓BGtf, ↓BGft, ↓BGff, ↓CGtt, ↓CGtf, ↓CGft, ↓CGff, ↓IGtt, ↓IGtf, ↓IGft, ↓IGff, ↓PKt, ↓PKf, ↓CDt, ↓CDf, ↓NOTt, ↓NOTf, ↓NK_ptr, Option.isNone_some]
  refine CK_st Tryd.func31 rfl rfl (Over_ok h4.at_ h4.at_.hG [] 1 0) ?_
  rintro _ w5 ⟨rfl, hm5⟩
  rw [awO1]
  try simp only [↓VG_u, ↓UG_u, ↓MG_u, ↓NG_u, ↓PG_u, ↓BG_u, ↓CG_u, ↓IG_u, ↓VGtt, ↓VGtf, ↓VGft, ↓VGff, ↓UGtt, ↓UGtf, ↓UGft, ↓UGff, ↓MGtt, ↓MGtf, ↓MGft, ↓MGff, ↓NGtt, ↓NGtf, ↓NGft, ↓NGff, ↓PGtt, ↓PGtf, ↓PGft, ↓PGff, ↓BGtt, ↓BGtf, ↓BGft, ↓BGff, ↓CGtt, ↓CGtf, ↓CGft, ↓CGff, ↓IGtt, ↓IGtf, ↓IGft, ↓IGff, ↓PKt, ↓PKf, ↓CDt, ↓CDf, ↓NOTt, ↓NOTf, ↓NK_ptr]
  rw [dispatcherlaw15_awake_R9_eq]; unfold dispatcherlaw15_awake_R9_F
  have h5 := h4.calm hm5
  have hm15 := hm14.trans hm5
  simp only [sq_n, sq_x, sq_r, bk_n, bk_r, bk_x, rt_r, rt_n, rs_0, rs_t, pk_1, pk_2, up_at, reduceIte, Nat.reduceEqDiff, ↓VG_u, ↓UG_u, ↓MG_u, ↓NG_u, ↓PG_u, ↓BG_u, ↓CG_u, ↓IG_u, ↓VGtt, ↓VGtf, ↓VGft, ↓VGff, ↓UGtt, ↓UGtf, ↓UGft, ↓UGff, ↓MGtt, ↓MGtf, ↓MGft, ↓MGff, ↓NGtt, ↓NGtf, ↓NGft, ↓NGff, ↓PGtt, ↓PGtf, ↓PGft, ↓PGff, ↓BGtt, ↓BGtf, ↓BGft, ↓BGff, ↓CGtt, ↓CGtf, ↓CGft, ↓CGff, ↓IGtt, ↓IGtf, ↓IGft, ↓IGff, ↓PKt, ↓PKf, ↓CDt, ↓CDf, ↓NOTt, ↓NOTf, ↓NK_ptr]
  try rw [sq_n]
  refine awake_R10 hn hgl h5 (hm15.blk hb3 id) (owns_mod ho hm15 fun _ _ => id) ?_ ?_ ?_ ?_
  · exact q1
  · exact q5
  · exact q3
  intro ρ' w' s hm'
  exact hK ρ' w' s hm'
end
end Go.Proofs.YtandbmnhghmcgaaDoor.Col
set_option linter.unusedVariables false
set_option linter.unusedSimpArgs false
set_option maxRecDepth 8000
namespace Go.Proofs.YtandbmnhghmcgaaDoor.Col
open Go Go.X Go.RowKit Go.Proofs.YtandbmnhghmcgaaDoor.XF Go.Proofs.YtandbmnhghmcgaaDoor.XG Go.Proofs.YtandbmnhghmcgaaDoor.XI Go.Proofs.YtandbmnhghmcgaaDoor.XK
section
variable {w : World}
theorem awake_ok (hgl : Gl w) : Rt Tryd.prog 26 #[] w fun v w' => v = .bool true ∧ Mod none_ w w' := by
  refine dispatcherlaw15_awake_calls ?_
  unfold dispatcherlaw15_awake_F
  refine W_loop dispatcherlaw15_awake_L0_ok (fun ρ w' => ∃ i : Nat, i ≤ 2 ∧ ρ 1 = .int .i64 i ∧ Mod none_ w w') (fun ρ _ => 2 - (intOf (ρ 1)).toNat)
    ⟨0, Nat.zero_le _, rfl, Mod.refl _ _⟩ ?_
  rintro ρ w1 ⟨i, hi, e1, hm1⟩
  rw [dispatcherlaw15_awake_L0_eq]; unfold dispatcherlaw15_awake_L0_F
  rw [e1, BK_lss]
  by_cases hlt : i < 2
  case neg =>
    obtain rfl : i = 2 := by omega
    rw [decide_eq_false (by omega)]
    refine condF ?_
    rw [sq_x, bk_x, sq_n, dispatcherlaw15_awake_R1_eq]; unfold dispatcherlaw15_awake_R1_F
    exact ⟨rfl, hm1⟩
  rw [decide_eq_true (by omega)]
  refine condT ?_
  rw [BK_eql]
  obtain ⟨loose, hn⟩ : ∃ loose, ((i : Int) == 1) = loose := ⟨_, rfl⟩
  rw [hn]
  refine CK_st Tryd.func11 rfl rfl (New_ok w1 loose) ?_
  rintro _ w2 ⟨p, V, rfl, hc, _, _, hnew, hm2⟩
  rw [BK_eqlP uC]
  simp only [Option.isNone_some]
  refine condF ?_
  have hc2 : Cs w w2 p loose [] V := ⟨hc, fun b hb => Nat.le_trans hm1.size (hnew b hb), hm1.trans hm2⟩
  refine CK_st Tryd.func30 rfl rfl (ranks_ok (n := 3) (by decide) (by decide)) ?_
  rintro _ w3 ⟨rv, rfl, ho, hm3⟩
  obtain ⟨A', c', e', _⟩ := reads_cap (reads_of_owns ho)
  refine lcl_k (cs := #[strV [], rv]) zG _ iG rfl (by rw [e']; exact grp_one _ _ _ _) fun w4 hb4 hm4 hz4 => ?_
  have hc4 := (hc2.calm hm3).calm hm4
  have ho4 : w4.ownsRow 0 tI 1 rv 3 (ints (worldL 3)) := owns_base (owns_mod ho hm4 fun _ _ => id) (Nat.zero_le _)
  refine awake_R2 (b3 := w3.heap.size) (rv := rv) hc4.at_ hb4 ho4 rfl rfl ?_
  intro ρ5 w5 V5 s5 hA5 hf5 hb5 ho5
  have hc5 := hc4.put hA5 hf5
  have q5 : ρ5 1 = .int .i64 i ∧ ρ5 2 = .pointer (some ⟨p, 0, none⟩) ∧ ρ5 3 = .pointer (some ⟨w3.heap.size, 0, none⟩) := ⟨(s5 1 (by decide)).trans e1, s5 2 (by decide), s5 3 (by decide)⟩
  rw [sq_n, dispatcherlaw15_awake_R3_eq]; unfold dispatcherlaw15_awake_R3_F
  rw [q5.2.1]
  refine CK_st Tryd.func31 rfl rfl (Over_ok hc5.at_ hc5.at_.hG [] 0 0) ?_
  rintro _ w6 ⟨rfl, hm6⟩
  rw [awE]
  have hc6 := hc5.calm hm6
  refine awake_R5 (b3 := w3.heap.size) (rv := rv) hc6.at_ (hm6.blk hb5 id) (owns_mod ho5 hm6 fun _ _ => id) ?_ ?_ ?_
  · exact q5.2.1
  · exact q5.2.2
  intro ρ7 w7 V7 s7 hA7 hf7 hb7 ho7
  have hc7 := hc6.put hA7 hf7
  have q7 : ρ7 1 = .int .i64 i ∧ ρ7 2 = .pointer (some ⟨p, 0, none⟩) ∧ ρ7 3 = .pointer (some ⟨w3.heap.size, 0, none⟩) ∧ ρ7 4 = .bool loose := ⟨(s7 1 (by decide)).trans q5.1, (s7 2 (by decide)).trans q5.2.1, (s7 3 (by decide)).trans q5.2.2, s7 4 (by decide)⟩
  rw [sq_n, dispatcherlaw15_awake_R6_eq]; unfold dispatcherlaw15_awake_R6_F
  rw [q7.2.1]
  refine CK_st Tryd.func15 rfl rfl (Copy_ok hc7.at_ (by decide)) ?_
  rintro _ w8 ⟨d, VD, rfl, hD, hDn, hm8⟩
  have hc8 := hc7.calm hm8
  have hd8 : Cs w w8 d loose awL2 VD := ⟨hD, fun b hb => Nat.le_trans hc7.mod.size (hDn b hb), hc8.mod⟩
  refine awake_R7 (b3 := w3.heap.size) (rv := rv) hc8.at_ (hm8.blk hb7 id) (owns_mod ho7 hm8 fun _ _ => id) ?_ ?_ ?_
  · exact q7.2.1
  · exact q7.2.2.1
  intro ρ9 w9 V9 s9 hA9 hf9 hb9 ho9
  have hc9 := hc8.put hA9 hf9
  have hd9 : Cs w w9 d loose awL2 VD := ⟨hd8.at_.beside hc8.at_ (fun b hb z => by have := hDn b hb; have := hc7.at_.old z; omega) hf9, hd8.new, hc9.mod⟩
  have q9 : ρ9 1 = .int .i64 i ∧ ρ9 2 = .pointer (some ⟨p, 0, none⟩) ∧ ρ9 3 = .pointer (some ⟨w3.heap.size, 0, none⟩) ∧ ρ9 4 = .bool loose ∧ ρ9 5 = .pointer (some ⟨d, 0, none⟩) := ⟨(s9 1 (by decide)).trans q7.1, (s9 2 (by decide)).trans q7.2.1, (s9 3 (by decide)).trans q7.2.2.1, (s9 4 (by decide)).trans q7.2.2.2, s9 5 (by decide)⟩
  rw [sq_n]
  refine awake_R8 (b3 := w3.heap.size) (rv := rv) hn hgl hc9 hd9 hb9 ho9 q9.1 q9.2.1 q9.2.2.2.1 q9.2.2.2.2 q9.2.2.1 ?_
  intro ρ' w' s' hm'
  rw [bk_n, sq_n, dispatcherlaw15_awake_R4_eq]; unfold dispatcherlaw15_awake_R4_F
  rw [s', q9.1, BK_add, wrap_i (by omega) (by omega)]
  refine ⟨⟨i + 1, hlt, rfl, hm'⟩, ?_⟩
  simp only [sq_n, sq_x, sq_r, bk_n, bk_r, bk_x, rt_r, rt_n, rs_0, rs_t, pk_1, pk_2, up_at, reduceIte, Nat.reduceEqDiff, intOf]; omega
end
end Go.Proofs.YtandbmnhghmcgaaDoor.Col
set_option linter.unusedVariables false
set_option linter.unusedSimpArgs false
set_option maxRecDepth 8000
namespace Go.X
open Go Go.RowKit
end Go.X
namespace Go.Proofs.YtandbmnhghmcgaaDoor.Col
open Go Go.X Go.RowKit Go.Proofs.YtandbmnhghmcgaaDoor.XF Go.Proofs.YtandbmnhghmcgaaDoor.XG Go.Proofs.YtandbmnhghmcgaaDoor.XI Go.Proofs.YtandbmnhghmcgaaDoor.XK
abbrev PtsR (w : World) (v : Value) (l : List Pt) : Prop := reads w 6 v l.length (l.flatMap Pt.enc)
section
variable {w : World}
theorem PtsR.calm {w' : World} {v : Value} {l : List Pt} (h : PtsR w v l) (hm : Mod none_ w w') : PtsR w' v l := reads_mod h hm (fun _ _ _ => id)
end
end Go.Proofs.YtandbmnhghmcgaaDoor.Col
set_option linter.unusedVariables false
set_option linter.unusedSimpArgs false
set_option maxRecDepth 8000
namespace Go.X
open Go Go.RowKit
end Go.X
namespace Go.Proofs.YtandbmnhghmcgaaDoor.Col
open Go Go.X Go.RowKit Go.Proofs.YtandbmnhghmcgaaDoor.XF Go.Proofs.YtandbmnhghmcgaaDoor.XG Go.Proofs.YtandbmnhghmcgaaDoor.XI Go.Proofs.YtandbmnhghmcgaaDoor.XK
section
variable {w : World}
end
end Go.Proofs.YtandbmnhghmcgaaDoor.Col
set_option linter.unusedVariables false
set_option linter.unusedSimpArgs false
set_option maxRecDepth 8000
namespace Go.Proofs.YtandbmnhghmcgaaDoor.Col
open Go Go.X Go.RowKit Go.Proofs.YtandbmnhghmcgaaDoor.XF Go.Proofs.YtandbmnhghmcgaaDoor.XG Go.Proofs.YtandbmnhghmcgaaDoor.XI Go.Proofs.YtandbmnhghmcgaaDoor.XK
section
variable {w0 w : World} {p : Nat} {loose : Bool} {l : List Pt} {lacks : Int} {v : Value}
structure AlS (loose : Bool) (v : Value) (lacks : Int) (p : Nat) (ρ : Sl) : Prop where
  h0 : ρ 0 = .bool loose
  h1 : ρ 1 = v
  h2 : ρ 2 = .int .i64 lacks
  h7 : ρ 7 = .pointer (some ⟨p, 0, none⟩)
theorem AlS.of {ρ ρ' : Sl} (h : AlS loose v lacks p ρ) (hs : ∀ i, i < 8 → ρ' i = ρ i) : AlS loose v lacks p ρ' := ⟨(hs 0 (by decide)).trans h.h0, (hs 1 (by decide)).trans h.h1, (hs 2 (by decide)).trans h.h2, (hs 7 (by decide)).trans h.h7⟩
end
end Go.Proofs.YtandbmnhghmcgaaDoor.Col
set_option linter.unusedVariables false
set_option linter.unusedSimpArgs false
set_option maxRecDepth 8000
namespace Go.Proofs.YtandbmnhghmcgaaDoor.Col
open Go Go.X Go.RowKit Go.Proofs.YtandbmnhghmcgaaDoor.XF Go.Proofs.YtandbmnhghmcgaaDoor.XG Go.Proofs.YtandbmnhghmcgaaDoor.XI Go.Proofs.YtandbmnhghmcgaaDoor.XK
section
variable {w0 w : World} {p : Nat} {loose : Bool} {l : List Pt} {lacks : Int} {v : Value}
end
end Go.Proofs.YtandbmnhghmcgaaDoor.Col
set_option linter.unusedVariables false
set_option linter.unusedSimpArgs false
set_option maxRecDepth 8000
namespace Go.Proofs.YtandbmnhghmcgaaDoor.Col
open Go Go.X Go.RowKit Go.Proofs.YtandbmnhghmcgaaDoor.XF Go.Proofs.YtandbmnhghmcgaaDoor.XG Go.Proofs.YtandbmnhghmcgaaDoor.XI Go.Proofs.YtandbmnhghmcgaaDoor.XK
section
variable {w : World}
end
end Go.Proofs.YtandbmnhghmcgaaDoor.Col
set_option linter.unusedVariables false
set_option linter.unusedSimpArgs false
set_option maxRecDepth 8000
namespace Go.X
open Go Go.RowKit
structure Lf (parts : List Pt) (L : List Br) (lf : List Int) : Prop where
  wd : Wd parts.length L
  len : lf.length + L.length = parts.length
  nd : lf.Nodup
  rg : ∀ x ∈ lf, 0 ≤ x ∧ x < parts.length
  pt : ∀ i : Nat, i < parts.length → partsC L [] (i : Int) = if (i : Int) ∈ lf then [] else [parts.getD i zPt]
theorem Lf.init (parts : List Pt) : Lf parts [] (worldL parts.length) :=
  ⟨Wd.nil _, by rw [worldL_len]; rfl, worldL_nodup _, fun x hx => worldL_mem.1 hx, fun i hi => by rw [if_pos (worldL_mem.2 ⟨by omega, by omega⟩)]; rfl⟩
theorem mem_drop1 {lf : List Int} (hn : lf.Nodup) {a : Nat} {r : Int} (hr : lf[a]? = some r) (x : Int) : x ∈ lf.take a ++ lf.drop (a + 1) ↔ x ∈ lf ∧ x ≠ r := by
  have hlt := (List.getElem?_eq_some_iff.1 hr).1
  have e : lf = lf.take a ++ r :: lf.drop (a + 1) := by
    have h := List.take_append_drop a lf
    rw [List.drop_eq_getElem_cons hlt] at h
    have : lf[a] = r := (List.getElem?_eq_some_iff.1 hr).2
    rw [this] at h
    exact h.symm
  have hn' := hn
  rw [e] at hn'
  have hd := List.nodup_append.1 hn'
  constructor
  · intro h
    refine ⟨?_, fun q => ?_⟩
    · rw [e]
      rcases List.mem_append.1 h with z | z
      · exact List.mem_append_left _ z
      · exact List.mem_append_right _ (List.mem_cons_of_mem _ z)
    · subst q
      rcases List.mem_append.1 h with z | z
      · exact hd.2.2 x z x (List.mem_cons_self ..) rfl
      · exact (List.nodup_cons.1 hd.2.1).1 z
  · rintro ⟨h, hne⟩
    rw [e] at h
    rcases List.mem_append.1 h with z | z
    · exact List.mem_append_left _ z
    · rcases List.mem_cons.1 z with z | z
      · exact absurd z hne
      · exact List.mem_append_right _ z
theorem Lf.step {parts : List Pt} {L : List Br} {lf : List Int} (h : Lf parts L lf) {a : Nat} {r : Int} (hr : lf[a]? = some r) : Lf parts (L ++ [⟨[], worldL parts.length, r, parts.getD r.toNat zPt⟩]) (lf.take a ++ lf.drop (a + 1)) := by
  have hlt := (List.getElem?_eq_some_iff.1 hr).1
  have hmem : r ∈ lf := List.mem_of_getElem? hr
  obtain ⟨hr0, hr1⟩ := h.rg r hmem
  have hsub : (lf.take a ++ lf.drop (a + 1)).Sublist lf := by
    have h2 : lf.take a ++ lf.drop a = lf := List.take_append_drop a lf
    have h1 : (lf.take a ++ lf.drop (a + 1)).Sublist (lf.take a ++ lf.drop a) := by
      refine List.Sublist.append (List.Sublist.refl _) ?_
      rw [List.drop_eq_getElem_cons hlt]
      exact List.sublist_cons_self _ _
    rw [h2] at h1
    exact h1
  refine ⟨h.wd.snoc r _, ?_, h.nd.sublist hsub, fun x hx => h.rg x ((mem_drop1 h.nd hr x).1 hx).1, fun i hi => ?_⟩
  · have := h.len
    simp only [List.length_append, List.length_take, List.length_drop, List.length_cons, List.length_nil]
    omega
  · have hp := h.pt i hi
    by_cases e : (i : Int) = r
    · rw [if_neg (fun q => ((mem_drop1 h.nd hr _).1 q).2 e)]
      rw [if_pos (e ▸ hmem)] at hp
      have := partsC_own L ⟨[], worldL parts.length, r, parts.getD r.toNat zPt⟩
      simp only at this
      rw [e, this, ← e, hp]
      simp
    · rw [partsC_far (.inr (by simpa using e)), hp]
      by_cases m : (i : Int) ∈ lf
      · rw [if_pos m, if_pos ((mem_drop1 h.nd hr _).2 ⟨m, e⟩)]
      · rw [if_neg m, if_neg fun q => m ((mem_drop1 h.nd hr _).1 q).1]
end Go.X
namespace Go.Proofs.YtandbmnhghmcgaaDoor.Col
open Go Go.X Go.RowKit Go.Proofs.YtandbmnhghmcgaaDoor.XF Go.Proofs.YtandbmnhghmcgaaDoor.XG Go.Proofs.YtandbmnhghmcgaaDoor.XI Go.Proofs.YtandbmnhghmcgaaDoor.XK
end Go.Proofs.YtandbmnhghmcgaaDoor.Col
set_option linter.unusedVariables false
set_option linter.unusedSimpArgs false
set_option maxRecDepth 8000
namespace Go.X
open Go Go.RowKit
end Go.X
namespace Go.Proofs.YtandbmnhghmcgaaDoor.Col
open Go Go.X Go.RowKit Go.Proofs.YtandbmnhghmcgaaDoor.XF Go.Proofs.YtandbmnhghmcgaaDoor.XG Go.Proofs.YtandbmnhghmcgaaDoor.XI Go.Proofs.YtandbmnhghmcgaaDoor.XK
section
variable {w0 w w' : World} {p : Nat} {loose : Bool} {L : List Br} {V V' : CV}
end
end Go.Proofs.YtandbmnhghmcgaaDoor.Col
set_option linter.unusedVariables false
set_option linter.unusedSimpArgs false
set_option maxRecDepth 8000
namespace Go.X
open Go Go.RowKit
def u8L (l : List Int) : List Value := l.map fun n => .int .u8 n
end Go.X
namespace Go.Proofs.YtandbmnhghmcgaaDoor.Col
open Go Go.X Go.RowKit Go.Proofs.YtandbmnhghmcgaaDoor.XF Go.Proofs.YtandbmnhghmcgaaDoor.XG Go.Proofs.YtandbmnhghmcgaaDoor.XI Go.Proofs.YtandbmnhghmcgaaDoor.XK
section
variable {w0 w : World} {p : Nat} {loose : Bool} {L : List Br} {V : CV}
structure AoS (p n : Nat) (v tv : Value) (ρ : Sl) : Prop where
  h0 : ρ 0 = .pointer (some ⟨p, 0, none⟩)
  h1 : ρ 1 = .int .i64 n
  h2 : ρ 2 = v
  h3 : ρ 3 = tv
theorem AoS.of {n : Nat} {v tv : Value} {ρ ρ' : Sl} (h : AoS p n v tv ρ) (hs : ∀ i, i < 4 → ρ' i = ρ i) : AoS p n v tv ρ' := ⟨(hs 0 (by decide)).trans h.h0, (hs 1 (by decide)).trans h.h1, (hs 2 (by decide)).trans h.h2, (hs 3 (by decide)).trans h.h3⟩
theorem AoS.same {n : Nat} {v tv : Value} {ρ ρ' : Sl} (h : AoS p n v tv ρ) (h0 : ρ' 0 = ρ 0) (h1 : ρ' 1 = ρ 1) (h2 : ρ' 2 = ρ 2) (h3 : ρ' 3 = ρ 3) : AoS p n v tv ρ' := ⟨h0.trans h.h0, h1.trans h.h1, h2.trans h.h2, h3.trans h.h3⟩
end
end Go.Proofs.YtandbmnhghmcgaaDoor.Col
set_option linter.unusedVariables false
set_option linter.unusedSimpArgs false
set_option maxRecDepth 8000
namespace Go.Proofs.YtandbmnhghmcgaaDoor.Col
open Go Go.X Go.RowKit Go.Proofs.YtandbmnhghmcgaaDoor.XF Go.Proofs.YtandbmnhghmcgaaDoor.XG Go.Proofs.YtandbmnhghmcgaaDoor.XI Go.Proofs.YtandbmnhghmcgaaDoor.XK
structure Trn (w : World) (tv : Value) (ts : List Int) : Prop where
  row : reads w 1 tv ts.length (u8L ts)
  lo : ∀ t ∈ ts, 0 ≤ t ∧ t ≤ 255
theorem Trn.calm {w w' : World} {tv : Value} {ts : List Int} (h : Trn w tv ts) (hm : Mod none_ w w') : Trn w' tv ts := ⟨reads_mod h.row hm (fun _ _ _ => id), h.lo⟩
section
variable {w0 w : World} {p : Nat} {loose : Bool} {V : CV}
end
end Go.Proofs.YtandbmnhghmcgaaDoor.Col
set_option linter.unusedVariables false
set_option linter.unusedSimpArgs false
set_option maxRecDepth 8000
namespace Go.X
open Go Go.RowKit
theorem FullL.clr {l : List Pt} {L : List Br} (h : FullL l L) (hc : ∀ q ∈ l, -9223372036854775808 ≤ q.color ∧ q.color ≤ 9223372036854775807) : ∀ b ∈ L, -9223372036854775808 ≤ b.p.color ∧ b.p.color ≤ 9223372036854775807 := by
  intro b hb
  obtain ⟨hk, hr⟩ := h.wd.all b hb
  have hrk := (h.inv.ok b hb).2.1
  rw [hr] at hrk
  obtain ⟨h0, h1⟩ := worldL_mem.1 hrk
  have hp := h.pt b.rank.toNat (by omega)
  rw [Int.toNat_of_nonneg h0] at hp
  have hm : b.p ∈ partsC L [] b.rank := by
    unfold partsC
    refine List.mem_map.2 ⟨b, List.mem_filter.2 ⟨hb, ?_⟩, rfl⟩
    simp [atK, hk]
  rw [hp, List.mem_singleton] at hm
  rw [hm]
  refine hc _ ?_
  rw [List.getD_eq_getElem?_getD, List.getElem?_eq_getElem (by omega)]
  exact List.getElem_mem _
theorem FullL.key {l : List Pt} {L : List Br} (h : FullL l L) : ∀ b ∈ L, b.key.length ≤ 1000000 := fun b hb => by rw [(h.wd.all b hb).1]; simp
end Go.X
namespace Go.Proofs.YtandbmnhghmcgaaDoor.Col
open Go Go.X Go.RowKit Go.Proofs.YtandbmnhghmcgaaDoor.XF Go.Proofs.YtandbmnhghmcgaaDoor.XG Go.Proofs.YtandbmnhghmcgaaDoor.XI Go.Proofs.YtandbmnhghmcgaaDoor.XK
section
variable {w : World}
theorem owns_max {B : Nat} {e : TypeId} {s : Nat} {v : Value} {n : Nat} {xs : List Value} (h : w.ownsRow B e s v n xs) : n ≤ maxLen := by
  obtain ⟨_, ⟨_, rfl⟩ | ⟨g, cap, cur, _, _, _, hn, hm, _⟩⟩ := h
  · exact Nat.zero_le _
  · exact Nat.le_trans hn hm
theorem TdAt.max {B : Nat} {v : Value} {t : Td} (h : TdAt w B v t) : t.row.length ≤ maxLen ∧ t.ranks.length ≤ maxLen := by
  obtain ⟨row, rks, _, h1, h2⟩ := h
  exact ⟨owns_max h1, owns_max h2⟩
theorem TdAt.one {B : Nat} {v : Value} {t : Td} (h : TdAt w B v t) : ∃ row rks, v = .agg (tdCells t row rks) ∧ (tdCells t row rks).all (·.oneCell') = true := by
  obtain ⟨row, rks, e, h1, h2⟩ := h
  obtain ⟨A1, c1, e1, _⟩ := reads_cap (reads_of_owns h1)
  obtain ⟨A2, c2, e2, _⟩ := reads_cap (reads_of_owns h2)
  exact ⟨row, rks, e, by rw [e1, e2]; exact td_one _ _ _ _ _ _ _⟩
end
end Go.Proofs.YtandbmnhghmcgaaDoor.Col
set_option linter.unusedVariables false
set_option linter.unusedSimpArgs false
set_option maxRecDepth 8000
namespace Go.X
open Go Go.RowKit
structure Wi where
  n : Nat
  k : Int
  row : Value
  rks : Value
  t : Td
def Wi.enc (x : Wi) : List Value := (tdCells x.t x.row x.rks).toList
theorem Wi.enc_len (x : Wi) : x.enc.length = 4 + 1 := rfl
end Go.X
namespace Go.Proofs.YtandbmnhghmcgaaDoor.Col
open Go Go.X Go.RowKit Go.Proofs.YtandbmnhghmcgaaDoor.XF Go.Proofs.YtandbmnhghmcgaaDoor.XG Go.Proofs.YtandbmnhghmcgaaDoor.XI Go.Proofs.YtandbmnhghmcgaaDoor.XK
structure WiAt (w : World) (B : Nat) (hv kv : Value) (x : Wi) : Prop where
  row : w.ownsRow B tL 1 x.row x.t.row.length (ints x.t.row)
  rks : w.ownsRow B tI 1 x.rks x.t.ranks.length (ints x.t.ranks)
  ne : ∀ b, sb hv b ∨ sb kv b → ¬ sb x.rks b
structure Was (w : World) (B : Nat) (wv hv kv : Value) (xs : List Wi) : Prop where
  was : w.ownsRow B tTd 5 wv xs.length (xs.flatMap Wi.enc)
  whose : w.ownsRow B tI 1 hv xs.length (ints (xs.map fun x => (x.n : Int)))
  which : w.ownsRow B tI 1 kv xs.length (ints (xs.map (·.k)))
  ne : ∀ b, sb hv b → ¬ sb kv b
  td : ∀ x ∈ xs, WiAt w B hv kv x
section
variable {w w' : World} {B : Nat} {wv hv kv : Value} {xs : List Wi}
theorem Was.nil (w : World) (B : Nat) : Was w B nilS nilS nilS [] := ⟨World.ownsRow_nil _ _ _ _, World.ownsRow_nil _ _ _ _, World.ownsRow_nil _ _ _ _, fun b h => (by cases h), fun x hx => by cases hx⟩
theorem Was.mod {S : Nat → Prop} (h : Was w B wv hv kv xs) (hm : Mod S w w') (h1 : ∀ b, isT tTd w b → ¬ S b) (h2 : ∀ b, isT tI w b → ¬ S b) (h3 : ∀ b, isT tL w b → ¬ S b) : Was w' B wv hv kv xs :=
  ⟨owns_mod h.was hm fun b hb => h1 b (isT_own h.was hb), owns_mod h.whose hm fun b hb => h2 b (isT_own h.whose hb), owns_mod h.which hm fun b hb => h2 b (isT_own h.which hb), h.ne,
    fun x hx => ⟨owns_mod (h.td x hx).row hm fun b hb => h3 b (isT_own (h.td x hx).row hb), owns_mod (h.td x hx).rks hm fun b hb => h2 b (isT_own (h.td x hx).rks hb), (h.td x hx).ne⟩⟩
theorem Was.calm (h : Was w B wv hv kv xs) (hm : Mod none_ w w') : Was w' B wv hv kv xs := h.mod hm (fun _ _ => id) (fun _ _ => id) (fun _ _ => id)
theorem Was.bring {p : Nat} {loose : Bool} {L : List Br} {V V' : CV} (h : Was w B wv hv kv xs) (hc : CAt w p loose L V) (hf : CFr p w V w' V') : Was w' B wv hv kv xs :=
  h.mod hf.mod (fun b hb z => hc.notT (by decide) (by decide) (by decide) (by decide) z hb) (fun b hb z => hc.typ z hb) (fun b hb z => hc.notT (by decide) (by decide) (by decide) (by decide) z hb)
end
end Go.Proofs.YtandbmnhghmcgaaDoor.Col
set_option linter.unusedVariables false
set_option linter.unusedSimpArgs false
set_option maxRecDepth 8000
namespace Go.Proofs.YtandbmnhghmcgaaDoor.Col
open Go Go.X Go.RowKit Go.Proofs.YtandbmnhghmcgaaDoor.XF Go.Proofs.YtandbmnhghmcgaaDoor.XG Go.Proofs.YtandbmnhghmcgaaDoor.XI Go.Proofs.YtandbmnhghmcgaaDoor.XK
structure GrC (w0 w : World) (p : Nat) (loose : Bool) (L : List Br) (V : CV) (v : Value) (l : List Ac) : Prop where
  gl : Gl w0
  acts : Acts w0 v l
  sm : Small l
  cs : Cs w0 w p loose L V
  len : L.length ≤ 1000
  key : ∀ b ∈ L, b.key.length ≤ 1000000
  clr : ∀ b ∈ L, -9223372036854775808 ≤ b.p.color ∧ b.p.color ≤ 9223372036854775807
section
variable {w0 w w' : World} {p : Nat} {loose : Bool} {L : List Br} {V : CV} {v : Value} {l : List Ac}
theorem GrC.calm (h : GrC w0 w p loose L V v l) (hm : Mod none_ w w') : GrC w0 w' p loose L V v l := ⟨h.gl, h.acts, h.sm, h.cs.calm hm, h.len, h.key, h.clr⟩
theorem GrC.is (h : GrC w0 w p loose L V v l) : Gl w ∧ CAt w p loose L V ∧ L.length ≤ 1000000 := ⟨h.gl.calm h.cs.mod, h.cs.at_, by have := h.len; omega⟩
end
end Go.Proofs.YtandbmnhghmcgaaDoor.Col
set_option linter.unusedVariables false
set_option linter.unusedSimpArgs false
set_option maxRecDepth 8000
namespace Go.Proofs.YtandbmnhghmcgaaDoor.Col
open Go Go.X Go.RowKit Go.Proofs.YtandbmnhghmcgaaDoor.XF Go.Proofs.YtandbmnhghmcgaaDoor.XG Go.Proofs.YtandbmnhghmcgaaDoor.XI Go.Proofs.YtandbmnhghmcgaaDoor.XK
section
variable {w : World}
theorem td_own {B : Nat} {t : Td} {row rks : Value} (h : TdAt w B (.agg (tdCells t row rks)) t) : w.ownsRow B tL 1 row t.row.length (ints t.row) ∧ w.ownsRow B tI 1 rks t.ranks.length (ints t.ranks) := by
  obtain ⟨row', rks', e, h1, h2⟩ := h
  unfold tdCells at e
  injection e with e
  injection e with e
  simp only [List.cons.injEq, and_true, true_and] at e
  obtain ⟨rfl, rfl⟩ := e
  exact ⟨h1, h2⟩
end
end Go.Proofs.YtandbmnhghmcgaaDoor.Col
set_option linter.unusedVariables false
set_option linter.unusedSimpArgs false
set_option maxRecDepth 8000
namespace Go.X
open Go Go.RowKit
end Go.X
namespace Go.Proofs.YtandbmnhghmcgaaDoor.Col
open Go Go.X Go.RowKit Go.Proofs.YtandbmnhghmcgaaDoor.XF Go.Proofs.YtandbmnhghmcgaaDoor.XG Go.Proofs.YtandbmnhghmcgaaDoor.XI Go.Proofs.YtandbmnhghmcgaaDoor.XK
structure GwS (v : Value) (p : Nat) (wv hv kv : Value) (i : Nat) (k e : Int) (ρ : Sl) : Prop where
  h1 : ρ 1 = v
  h5 : ρ 5 = .pointer (some ⟨p, 0, none⟩)
  h6 : ρ 6 = wv
  h7 : ρ 7 = hv
  h8 : ρ 8 = kv
  h9 : ρ 9 = .int .i64 i
  h11 : ρ 11 = .int .i64 k
  h12 : ρ 12 = .int .i64 e
section
variable {w0 w : World} {p : Nat} {loose : Bool} {L : List Br} {V : CV} {v : Value} {l : List Ac} {wv hv kv : Value} {i : Nat} {k e : Int}
theorem GwS.of {ρ ρ' : Sl} (h : GwS v p wv hv kv i k e ρ) (hs : ∀ i, i < 13 → ρ' i = ρ i) : GwS v p wv hv kv i k e ρ' :=
  ⟨(hs 1 (by decide)).trans h.h1, (hs 5 (by decide)).trans h.h5, (hs 6 (by decide)).trans h.h6, (hs 7 (by decide)).trans h.h7, (hs 8 (by decide)).trans h.h8, (hs 9 (by decide)).trans h.h9, (hs 11 (by decide)).trans h.h11, (hs 12 (by decide)).trans h.h12⟩
end
end Go.Proofs.YtandbmnhghmcgaaDoor.Col
set_option linter.unusedVariables false
set_option linter.unusedSimpArgs false
set_option maxRecDepth 8000
namespace Go.Proofs.YtandbmnhghmcgaaDoor.Col
open Go Go.X Go.RowKit Go.Proofs.YtandbmnhghmcgaaDoor.XF Go.Proofs.YtandbmnhghmcgaaDoor.XG Go.Proofs.YtandbmnhghmcgaaDoor.XI Go.Proofs.YtandbmnhghmcgaaDoor.XK
section
variable {w : World} {a : Ac}
end
end Go.Proofs.YtandbmnhghmcgaaDoor.Col
set_option linter.unusedVariables false
set_option linter.unusedSimpArgs false
set_option maxRecDepth 8000
namespace Go.X
open Go Go.RowKit
theorem bringC_mem {L : List Br} {b x : Br} (h : x ∈ (bringC L b).1) : x ∈ L ∨ x = b := by
  unfold bringC at h
  split at h
  · rcases List.mem_append.1 h with z | z
    · exact .inl z
    · exact .inr (List.mem_singleton.1 z)
  · exact .inl h
end Go.X
namespace Go.Proofs.YtandbmnhghmcgaaDoor.Col
open Go Go.X Go.RowKit Go.Proofs.YtandbmnhghmcgaaDoor.XF Go.Proofs.YtandbmnhghmcgaaDoor.XG Go.Proofs.YtandbmnhghmcgaaDoor.XI Go.Proofs.YtandbmnhghmcgaaDoor.XK
section
variable {w0 w w' : World} {p : Nat} {loose : Bool} {L : List Br} {V : CV} {v : Value} {l : List Ac}
theorem GrC.put {a : Ac} (ha : a ∈ l) (hcol : ∀ a ∈ l, -9223372036854775808 ≤ a.p.color ∧ a.p.color ≤ 9223372036854775807) (hg : GrC w0 w p loose L V v l) (hL : L.length < 1000) {V' : CV} (hc : CAt w' p loose (bringC L a.br).1 V') (hf : CFr p w V w' V') : GrC w0 w' p loose (bringC L a.br).1 V' v l :=
  ⟨hg.gl, hg.acts, hg.sm, hg.cs.put hc hf, by have := bringC_len L a.br; omega, fun b hb => (bringC_mem hb).elim (hg.key b) fun q => by rw [q]; have := hg.sm.key a ha; show a.key.length ≤ _; omega, fun b hb => (bringC_mem hb).elim (hg.clr b) fun q => by rw [q]; exact hcol a ha⟩
end
end Go.Proofs.YtandbmnhghmcgaaDoor.Col
set_option linter.unusedVariables false
set_option linter.unusedSimpArgs false
set_option maxRecDepth 8000
namespace Go.X
open Go Go.RowKit
def P5 (r v : Int) : List Pt := [⟨18, 0, 0, v, 0, 0⟩, ⟨17, r, 1, v, 0, 0⟩, ⟨18, 0, 2, v, 0, 0⟩, ⟨16, r, 0, v, 0, 0⟩, ⟨19, r, 0, v, 0, 0⟩]
theorem P5_at {r v : Int} {j : Nat} (h : j < 5) : ∃ q, (P5 r v)[j]? = some q := ⟨_, List.getElem?_eq_getElem (by simpa [P5] using h)⟩
structure Vl (l : List Int) (r : Int) (L : List Br) (n j : Nat) : Prop where
  wd : Wd l.length L
  len : L.length ≤ 5 * n + j
  pt : ∀ i : Nat, partsC L [] (i : Int) = if i < n then P5 r (l.getD i 0) else if i = n then (P5 r (l.getD i 0)).take j else []
  clr : ∀ b ∈ L, b.p.color = 0
theorem Vl.init (l : List Int) (r : Int) : Vl l r [] 0 0 := ⟨Wd.nil _, by simp, fun i => by simp [partsC], fun b hb => by cases hb⟩
theorem Vl.next {l : List Int} {r : Int} {L : List Br} {n : Nat} (h : Vl l r L n 5) : Vl l r L (n + 1) 0 := by
  refine ⟨h.wd, by have := h.len; omega, fun i => ?_, h.clr⟩
  rw [h.pt i]
  by_cases c : i < n
  · rw [if_pos c, if_pos (by omega)]
  · rw [if_neg c]
    by_cases c2 : i = n
    · rw [if_pos c2, if_pos (by omega)]; rfl
    · rw [if_neg c2, if_neg (by omega)]
      split <;> simp
theorem Vl.may {N : Nat} {r v : Int} {j : Nat} {q : Pt} (hr0 : 0 ≤ r) (hr1 : r < N) (hN : 1 ≤ N) (hq : (P5 r v)[j]? = some q) : mayPt N q = true := by
  have hm := List.mem_of_getElem? hq
  simp only [P5, List.mem_cons, List.not_mem_nil, or_false] at hm
  rcases hm with rfl | rfl | rfl | rfl | rfl <;> simp [mayPt, rootedK, reducesK] <;> omega
theorem Vl.step {l : List Int} {r : Int} {L : List Br} {n j : Nat} (h : Vl l r L n j) (hr0 : 0 ≤ r) (hr1 : r < l.length) (h8 : l.length ≤ 8) (hn : n < l.length) {q : Pt} (hq : (P5 r (l.getD n 0))[j]? = some q) :
    Vl l r (bringC L ⟨[], worldL l.length, (n : Int), q⟩).1 n (j + 1) := by
  rw [h.wd.bring (by omega) (by omega) (worldL_mem.2 ⟨by omega, by omega⟩) (Vl.may hr0 hr1 (by omega) hq)]
  have hlt := (List.getElem?_eq_some_iff.1 hq).1
  refine ⟨h.wd.snoc _ _, by have := h.len; simp; omega, fun i => ?_, fun b hb => ?_⟩
  · by_cases c : i = n
    · subst c
      have := partsC_own L ⟨[], worldL l.length, (i : Int), q⟩
      simp only at this
      rw [this, h.pt i, if_neg (by omega), if_pos rfl, if_neg (by omega), if_pos rfl, List.take_add_one, hq]
      rfl
    · rw [partsC_far (.inr (by simp; omega)), h.pt i]
      by_cases c2 : i < n
      · rw [if_pos c2, if_pos c2]
      · rw [if_neg c2, if_neg c, if_neg c2, if_neg c]
  · rcases List.mem_append.1 hb with z | z
    · exact h.clr b z
    · rw [List.mem_singleton.1 z]
      have hm := List.mem_of_getElem? hq
      simp only [P5, List.mem_cons, List.not_mem_nil, or_false] at hm
      rcases hm with rfl | rfl | rfl | rfl | rfl <;> rfl
section
variable {l : List Int} {r : Int} {L : List Br}
theorem Vl.part (h : Vl l r L l.length 0) {i : Nat} (hi : i < l.length) {k : Nat} {q : Pt} (hq : (P5 r (l.getD i 0))[k]? = some q) : partC L [] (i : Int) k = some q := by
  unfold partC nthC
  rw [if_pos (by omega), h.pt i, if_pos hi, Int.toNat_natCast]
  exact hq
theorem Vl.ne (h : Vl l r L l.length 0) (hl : 1 ≤ l.length) : L ≠ [] := by
  intro q
  have := h.part (i := 0) (by omega) (k := 0) (q := ⟨18, 0, 0, l.getD 0 0, 0, 0⟩) rfl
  rw [q] at this
  simp [partC, partsC, nthC] at this
theorem Vl.over (h : Vl l r L l.length 0) (hl : 1 ≤ l.length) (hr0 : 0 ≤ r) (hr1 : r < l.length) (loose : Bool) {i : Nat} (hi : i < l.length) {k : Nat} (hk : k < 5) : overC loose L [] (i : Int) k = true := by
  have hg := h.wd.grp (h.ne hl)
  obtain ⟨q, hq⟩ := P5_at (r := r) (v := l.getD i 0) hk
  have ho := h.part hi hq
  have fit : ∀ x ∈ worldL l.length, fitO L [] (k : Int) q x = true := by
    intro x hx
    obtain ⟨h0, h1⟩ := worldL_mem.1 hx
    obtain ⟨q', hq'⟩ := P5_at (r := r) (v := l.getD x.toNat 0) hk
    have hp := h.part (i := x.toNat) (by omega) hq'
    rw [Int.toNat_of_nonneg h0] at hp
    unfold fitO
    rw [hp]
    have hk5 : k = 0 ∨ k = 1 ∨ k = 2 ∨ k = 3 ∨ k = 4 := by omega
    rcases hk5 with rfl | rfl | rfl | rfl | rfl <;> (simp [P5] at hq hq'; subst hq; subst hq'; simp [fitPt])
  rw [overC_eq loose ho hg]
  cases hw : whoC loose (worldL l.length) (i : Int) q with
  | root =>
    refine fit _ ?_
    rw [List.getD_eq_getElem?_getD]
    have hk5 : k = 0 ∨ k = 1 ∨ k = 2 ∨ k = 3 ∨ k = 4 := by omega
    have hro : 0 ≤ q.root ∧ q.root < l.length := by
      rcases hk5 with rfl | rfl | rfl | rfl | rfl <;> (simp [P5] at hq; subst hq; simp; omega)
    rw [worldL_at (by omega)]
    exact worldL_mem.2 ⟨by show (0 : Int) ≤ (q.root.toNat : Int); omega, by show (q.root.toNat : Int) < _; omega⟩
  | none => rfl
  | all => exact List.all_eq_true.2 fit
theorem Vl.vals (h : Vl l r L l.length 0) {k : Nat} (hk : k < 5) : valsC L [] (worldL l.length) k = l := by
  unfold valsC worldL
  rw [List.map_map]
  refine List.ext_getElem? fun i => ?_
  rw [List.getElem?_map]
  by_cases hi : i < l.length
  · rw [List.getElem?_range hi]
    obtain ⟨q, hq⟩ := P5_at (r := r) (v := l.getD i 0) hk
    simp only [Option.map_some, Function.comp]
    rw [h.part hi hq]
    have hk5 : k = 0 ∨ k = 1 ∨ k = 2 ∨ k = 3 ∨ k = 4 := by omega
    have : q.val = l.getD i 0 := by rcases hk5 with rfl | rfl | rfl | rfl | rfl <;> (simp [P5] at hq; subst hq; simp)
    simp only [Option.getD_some]
    rw [this, List.getD_eq_getElem?_getD, List.getElem?_eq_getElem hi]
    rfl
  · rw [List.getElem?_eq_none (by rw [List.length_range]; omega), List.getElem?_eq_none (by omega)]
    rfl
theorem Vl.told (h : Vl l r L l.length 0) (hl : 1 ≤ l.length) (hr0 : 0 ≤ r) (hr1 : r < l.length) (loose : Bool) {i : Nat} (hi : i < l.length) :
    toldC loose L [] (i : Int) 0 = ({ zTd with val := redC 0 l }, true) ∧ toldC loose L [] (i : Int) 1 = (if (i : Int) = r then { zTd with val := redC 1 l } else zTd, true) ∧ toldC loose L [] (i : Int) 2 = ({ zTd with val := redC 2 l }, true) ∧
    toldC loose L [] (i : Int) 3 = ({ zTd with val := l.getD r.toNat 0 }, true) ∧ toldC loose L [] (i : Int) 4 = (if (i : Int) = r then { zTd with row := l } else zTd, true) := by
  have hg := h.wd.grp (h.ne hl)
  have hrw : (worldL l.length).getD r.toNat 0 = r := by
    rw [List.getD_eq_getElem?_getD, worldL_at (by omega)]
    simp [Int.toNat_of_nonneg hr0]
  have hrw' := hrw
  rw [List.getD_eq_getElem?_getD] at hrw'
  have go : ∀ {k : Nat} {q : Pt}, k < 5 → (P5 r (l.getD i 0))[k]? = some q → toldC loose L [] (i : Int) k = (tellC L [] (i : Int) k q, true) := fun {k q} hk hq => by
    unfold toldC
    rw [if_pos (h.over hl hr0 hr1 loose hi hk), h.part hi hq]
  have v0 := h.vals (k := 0) (by decide)
  have v1 := h.vals (k := 1) (by decide)
  have v2 := h.vals (k := 2) (by decide)
  have v4 := h.vals (k := 4) (by decide)
  have e1 : ∀ {t u : Td}, (if r = (i : Int) then t else u) = if (i : Int) = r then t else u := fun {t u} => by
    by_cases c : (i : Int) = r
    · rw [if_pos c, if_pos c.symm]
    · rw [if_neg c, if_neg fun q => c q.symm]
  refine ⟨?_, ?_, ?_, ?_, ?_⟩
  · have := go (k := 0) (by decide) rfl
    rw [show ((0 : Nat) : Int) = 0 from rfl] at this
    rw [this]
    simp only [tellC, hg, Option.getD_some]
    rw [show ((0 : Nat) : Int) = 0 from rfl] at v0
    simp [v0]
  · have := go (k := 1) (by decide) rfl
    rw [show ((1 : Nat) : Int) = 1 from rfl] at this
    rw [this]
    simp only [tellC, hg, Option.getD_some]
    rw [show ((1 : Nat) : Int) = 1 from rfl] at v1
    simp [v1, hrw', e1]
  · have := go (k := 2) (by decide) rfl
    rw [show ((2 : Nat) : Int) = 2 from rfl] at this
    rw [this]
    simp only [tellC, hg, Option.getD_some]
    rw [show ((2 : Nat) : Int) = 2 from rfl] at v2
    simp [v2]
  · have := go (k := 3) (by decide) rfl
    rw [show ((3 : Nat) : Int) = 3 from rfl] at this
    rw [this]
    simp only [tellC, hg, Option.getD_some]
    have hp := h.part (i := r.toNat) (by omega) (k := 3) (q := ⟨16, r, 0, l.getD r.toNat 0, 0, 0⟩) rfl
    rw [Int.toNat_of_nonneg hr0, show ((3 : Nat) : Int) = 3 from rfl] at hp
    simp [hrw', hp]
  · have := go (k := 4) (by decide) rfl
    rw [show ((4 : Nat) : Int) = 4 from rfl] at this
    rw [this]
    simp only [tellC, hg, Option.getD_some]
    rw [show ((4 : Nat) : Int) = 4 from rfl] at v4
    simp [v4, hrw', e1]
end
def accS (s : Int) (l : List Int) : Int := l.foldl (fun s v => IntKind.i64.wrap (s + v)) s
def accM (s : Int) (l : List Int) : Int := l.foldl (fun s v => if s < v then v else s) s
def accL (s : Int) (l : List Int) : Int := l.foldl (fun s v => if v < s then v else s) s
theorem acc_red {v : Int} {l : List Int} (hv : -9223372036854775808 ≤ v ∧ v ≤ 9223372036854775807) : redC 0 (v :: l) = accS 0 (v :: l) ∧ redC 1 (v :: l) = accM v (v :: l) ∧ redC 2 (v :: l) = accL v (v :: l) := by
  refine ⟨?_, ?_, ?_⟩
  · unfold redC accS
    rw [List.foldl_cons, Int.zero_add, show IntKind.i64.wrap v = v from wrap_i hv.1 (by omega)]
    simp
  · unfold redC accM
    rw [List.foldl_cons]
    simp
  · unfold redC accL
    rw [List.foldl_cons]
    simp
end Go.X
set_option linter.unusedVariables false
set_option linter.unusedSimpArgs false
set_option maxRecDepth 8000
namespace Go.Proofs.YtandbmnhghmcgaaDoor.Col
open Go Go.X Go.RowKit Go.Proofs.YtandbmnhghmcgaaDoor.XF Go.Proofs.YtandbmnhghmcgaaDoor.XG Go.Proofs.YtandbmnhghmcgaaDoor.XI Go.Proofs.YtandbmnhghmcgaaDoor.XK
theorem bV0 (r v : Int) : Tryd.prog.built tPt [(0, .int .u8 18), (3, .int .i64 v)] = some (Pt.enc ⟨18, 0, 0, v, 0, 0⟩).toArray := by kernel_rfl
theorem bV1 (r v : Int) : Tryd.prog.built tPt [(0, .int .u8 17), (1, .int .i64 r), (2, .int .u8 1), (3, .int .i64 v)] = some (Pt.enc ⟨17, r, 1, v, 0, 0⟩).toArray := by kernel_rfl
theorem bV2 (r v : Int) : Tryd.prog.built tPt [(0, .int .u8 18), (2, .int .u8 2), (3, .int .i64 v)] = some (Pt.enc ⟨18, 0, 2, v, 0, 0⟩).toArray := by kernel_rfl
theorem bV3 (r v : Int) : Tryd.prog.built tPt [(0, .int .u8 16), (1, .int .i64 r), (3, .int .i64 v)] = some (Pt.enc ⟨16, r, 0, v, 0, 0⟩).toArray := by kernel_rfl
theorem bV4 (r v : Int) : Tryd.prog.built tPt [(0, .int .u8 19), (1, .int .i64 r), (3, .int .i64 v)] = some (Pt.enc ⟨19, r, 0, v, 0, 0⟩).toArray := by kernel_rfl
structure VsS (lv : Value) (r : Int) (b8 p n : Nat) (ρ : Sl) : Prop where
  h0 : ρ 0 = lv
  h7 : ρ 7 = .int .i64 r
  h8 : ρ 8 = .pointer (some ⟨b8, 0, none⟩)
  h9 : ρ 9 = .pointer (some ⟨p, 0, none⟩)
  h13 : ρ 13 = .int .i64 n
structure VsW (w0 w : World) (p : Nat) (loose : Bool) (lv : Value) (l : List Int) (r : Int) (b8 : Nat) (rv : Value) (n j : Nat) (L : List Br) (V : CV) : Prop where
  cs : Cs w0 w p loose L V
  vl : Vl l r L n j
  rr : RR w0 lv l
  grp : w.heap[b8]? = some (.cells #[strV [], rv] tG (0, 0))
  rk : w.ownsRow 0 tI 1 rv l.length (ints (worldL l.length))
section
variable {w0 w w' : World} {p : Nat} {loose : Bool} {lv rv : Value} {l : List Int} {r : Int} {b8 n j : Nat} {L : List Br} {V : CV}
theorem VsS.of {ρ ρ' : Sl} (h : VsS lv r b8 p n ρ) (hs : ∀ i, i < 14 → ρ' i = ρ i) : VsS lv r b8 p n ρ' := ⟨(hs 0 (by decide)).trans h.h0, (hs 7 (by decide)).trans h.h7, (hs 8 (by decide)).trans h.h8, (hs 9 (by decide)).trans h.h9, (hs 13 (by decide)).trans h.h13⟩
theorem VsS.same {ρ ρ' : Sl} (h : VsS lv r b8 p n ρ) (h0 : ρ' 0 = ρ 0) (h7 : ρ' 7 = ρ 7) (h8 : ρ' 8 = ρ 8) (h9 : ρ' 9 = ρ 9) (h13 : ρ' 13 = ρ 13) : VsS lv r b8 p n ρ' := ⟨h0.trans h.h0, h7.trans h.h7, h8.trans h.h8, h9.trans h.h9, h13.trans h.h13⟩
theorem VsW.calm (h : VsW w0 w p loose lv l r b8 rv n j L V) (hm : Mod none_ w w') : VsW w0 w' p loose lv l r b8 rv n j L V := ⟨h.cs.calm hm, h.vl, h.rr, hm.blk h.grp id, owns_mod h.rk hm fun _ _ => id⟩
theorem VsW.RR (h : VsW w0 w p loose lv l r b8 rv n j L V) : RR w rv (worldL l.length) := by
  have := reads_of_owns h.rk
  unfold X.RR
  rw [worldL_len]
  exact this
theorem VsW.put (h : VsW w0 w p loose lv l r b8 rv n j L V) (hr0 : 0 ≤ r) (hr1 : r < l.length) (h8 : l.length ≤ 8) (hn : n < l.length) {q : Pt} (hq : (P5 r (l.getD n 0))[j]? = some q) {V' : CV} (hc : CAt w' p loose (bringC L ⟨[], worldL l.length, (n : Int), q⟩).1 V') (hf : CFr p w V w' V') :
    VsW w0 w' p loose lv l r b8 rv n (j + 1) (bringC L ⟨[], worldL l.length, (n : Int), q⟩).1 V' :=
  ⟨h.cs.put hc hf, h.vl.step hr0 hr1 h8 hn hq, h.rr, keepB h.cs.at_ hf (by decide) (by decide) (by decide) (by decide) h.grp, keepR h.cs.at_ hf h.rk⟩
theorem vals_R10 {K : Exit → Sl → World → Prop} {ρ : Sl} (h : VsW w0 w p loose lv l r b8 rv n 0 L V) (hr0 : 0 ≤ r) (hr1 : r < l.length) (h8 : l.length ≤ 8) (hn : n < l.length) (hs : VsS lv r b8 p n ρ)
    (hK : ∀ (ρ' : Sl) (w' : World) L' V', (∀ i, i < 14 → ρ' i = ρ i) → VsW w0 w' p loose lv l r b8 rv n 1 L' V' → K .normal ρ' w') : W fn_ Tryd.prog 239 dispatcherlaw15_CollValues_R10 K ρ w := by
  refine dispatcherlaw15_CollValues_R10_tail (D := []) ?_
  have hd := h.calm (w' := { w with drawn := w.drawn + 1 }) ((Mod.refl _ w).drawn _)
  generalize ({ w with drawn := w.drawn + 1 } : World) = wd at *
  unfold dispatcherlaw15_CollValues_R10_T
  show QK Tryd.prog (fun w' => w' = wd) _ _
  simp only [hs.h0, hs.h7, hs.h8, hs.h9, hs.h13]
  obtain ⟨p1, r1, l1⟩ := ixRL (i := n) (m := l.getD n 0) h.rr (by rw [List.getD_eq_getElem?_getD, List.getElem?_eq_getElem hn]; rfl)
  refine QV_of (v := grpV [] rv) (fun w' hw => by subst hw; exact run_ldB (cs := #[strV [], rv]) Tryd.underlying32 rfl iG hd.grp) ?_
  refine QV_of (fun w' _ => r1 w') (QV_of (fun w' hw => by subst hw; exact l1 _ hd.cs.mod) (QV_of (fun w' _ => run_build (P := Tryd.prog) w' _ _ _ (bV0 r _)) ?_))
  have hL := hd.vl.len
  have hwl := worldL_len l.length
  refine CK_st Tryd.func12 rfl rfl (Bring_ok (b := ⟨[], worldL l.length, (n : Int), ⟨18, 0, 0, l.getD n 0, 0, 0⟩⟩) hd.cs.at_ (by omega) hd.RR (by show (worldL l.length).length ≤ 1000; omega)) ?_
  rintro _ w2 ⟨rfl, V2, hc, hf⟩
  refine hK _ w2 _ V2 (fun i hi => ?_) (hd.put hr0 hr1 h8 hn rfl hc hf)
  repeat rw [up_at, if_neg (by omega)]
theorem vals_R14 {K : Exit → Sl → World → Prop} {ρ : Sl} (h : VsW w0 w p loose lv l r b8 rv n 1 L V) (hr0 : 0 ≤ r) (hr1 : r < l.length) (h8 : l.length ≤ 8) (hn : n < l.length) (hs : VsS lv r b8 p n ρ)
    (hK : ∀ (ρ' : Sl) (w' : World) L' V', (∀ i, i < 14 → ρ' i = ρ i) → VsW w0 w' p loose lv l r b8 rv n 2 L' V' → K .normal ρ' w') : W fn_ Tryd.prog 239 dispatcherlaw15_CollValues_R14 K ρ w := by
  refine dispatcherlaw15_CollValues_R14_tail (D := []) ?_
  have hd := h.calm (w' := { w with drawn := w.drawn + 1 }) ((Mod.refl _ w).drawn _)
  generalize ({ w with drawn := w.drawn + 1 } : World) = wd at *
  unfold dispatcherlaw15_CollValues_R14_T
  show QK Tryd.prog (fun w' => w' = wd) _ _
  simp only [hs.h0, hs.h7, hs.h8, hs.h9, hs.h13]
  obtain ⟨p1, r1, l1⟩ := ixRL (i := n) (m := l.getD n 0) h.rr (by rw [List.getD_eq_getElem?_getD, List.getElem?_eq_getElem hn]; rfl)
  refine QV_of (v := grpV [] rv) (fun w' hw => by subst hw; exact run_ldB (cs := #[strV [], rv]) Tryd.underlying32 rfl iG hd.grp) ?_
  refine QV_of (fun w' _ => r1 w') (QV_of (fun w' hw => by subst hw; exact l1 _ hd.cs.mod) (QV_of (fun w' _ => run_build (P := Tryd.prog) w' _ _ _ (bV1 r _)) ?_))
  have hL := hd.vl.len
  have hwl := worldL_len l.length
  refine CK_st Tryd.func12 rfl rfl (Bring_ok (b := ⟨[], worldL l.length, (n : Int), ⟨17, r, 1, l.getD n 0, 0, 0⟩⟩) hd.cs.at_ (by omega) hd.RR (by show (worldL l.length).length ≤ 1000; omega)) ?_
  rintro _ w2 ⟨rfl, V2, hc, hf⟩
  refine hK _ w2 _ V2 (fun i hi => ?_) (hd.put hr0 hr1 h8 hn rfl hc hf)
  repeat rw [up_at, if_neg (by omega)]
theorem vals_R19 {K : Exit → Sl → World → Prop} {ρ : Sl} (h : VsW w0 w p loose lv l r b8 rv n 2 L V) (hr0 : 0 ≤ r) (hr1 : r < l.length) (h8 : l.length ≤ 8) (hn : n < l.length) (hs : VsS lv r b8 p n ρ)
    (hK : ∀ (ρ' : Sl) (w' : World) L' V', (∀ i, i < 14 → ρ' i = ρ i) → VsW w0 w' p loose lv l r b8 rv n 3 L' V' → K .normal ρ' w') : W fn_ Tryd.prog 239 dispatcherlaw15_CollValues_R19 K ρ w := by
  refine dispatcherlaw15_CollValues_R19_tail (D := []) ?_
  have hd := h.calm (w' := { w with drawn := w.drawn + 1 }) ((Mod.refl _ w).drawn _)
  generalize ({ w with drawn := w.drawn + 1 } : World) = wd at *
  unfold dispatcherlaw15_CollValues_R19_T
  show QK Tryd.prog (fun w' => w' = wd) _ _
  simp only [hs.h0, hs.h7, hs.h8, hs.h9, hs.h13]
  obtain ⟨p1, r1, l1⟩ := ixRL (i := n) (m := l.getD n 0) h.rr (by rw [List.getD_eq_getElem?_getD, List.getElem?_eq_getElem hn]; rfl)
  refine QV_of (v := grpV [] rv) (fun w' hw => by subst hw; exact run_ldB (cs := #[strV [], rv]) Tryd.underlying32 rfl iG hd.grp) ?_
  refine QV_of (fun w' _ => r1 w') (QV_of (fun w' hw => by subst hw; exact l1 _ hd.cs.mod) (QV_of (fun w' _ => run_build (P := Tryd.prog) w' _ _ _ (bV2 r _)) ?_))
  have hL := hd.vl.len
  have hwl := worldL_len l.length
  refine CK_st Tryd.func12 rfl rfl (Bring_ok (b := ⟨[], worldL l.length, (n : Int), ⟨18, 0, 2, l.getD n 0, 0, 0⟩⟩) hd.cs.at_ (by omega) hd.RR (by show (worldL l.length).length ≤ 1000; omega)) ?_
  rintro _ w2 ⟨rfl, V2, hc, hf⟩
  refine hK _ w2 _ V2 (fun i hi => ?_) (hd.put hr0 hr1 h8 hn rfl hc hf)
  repeat rw [up_at, if_neg (by omega)]
theorem vals_R22 {K : Exit → Sl → World → Prop} {ρ : Sl} (h : VsW w0 w p loose lv l r b8 rv n 3 L V) (hr0 : 0 ≤ r) (hr1 : r < l.length) (h8 : l.length ≤ 8) (hn : n < l.length) (hs : VsS lv r b8 p n ρ)
    (hK : ∀ (ρ' : Sl) (w' : World) L' V', (∀ i, i < 14 → ρ' i = ρ i) → VsW w0 w' p loose lv l r b8 rv n 4 L' V' → K .normal ρ' w') : W fn_ Tryd.prog 239 dispatcherlaw15_CollValues_R22 K ρ w := by
  refine dispatcherlaw15_CollValues_R22_tail (D := []) ?_
  have hd := h.calm (w' := { w with drawn := w.drawn + 1 }) ((Mod.refl _ w).drawn _)
  generalize ({ w with drawn := w.drawn + 1 } : World) = wd at *
  unfold dispatcherlaw15_CollValues_R22_T
  show QK Tryd.prog (fun w' => w' = wd) _ _
  simp only [hs.h0, hs.h7, hs.h8, hs.h9, hs.h13]
  obtain ⟨p1, r1, l1⟩ := ixRL (i := n) (m := l.getD n 0) h.rr (by rw [List.getD_eq_getElem?_getD, List.getElem?_eq_getElem hn]; rfl)
  refine QV_of (v := grpV [] rv) (fun w' hw => by subst hw; exact run_ldB (cs := #[strV [], rv]) Tryd.underlying32 rfl iG hd.grp) ?_
  refine QV_of (fun w' _ => r1 w') (QV_of (fun w' hw => by subst hw; exact l1 _ hd.cs.mod) (QV_of (fun w' _ => run_build (P := Tryd.prog) w' _ _ _ (bV3 r _)) ?_))
  have hL := hd.vl.len
  have hwl := worldL_len l.length
  refine CK_st Tryd.func12 rfl rfl (Bring_ok (b := ⟨[], worldL l.length, (n : Int), ⟨16, r, 0, l.getD n 0, 0, 0⟩⟩) hd.cs.at_ (by omega) hd.RR (by show (worldL l.length).length ≤ 1000; omega)) ?_
  rintro _ w2 ⟨rfl, V2, hc, hf⟩
  refine hK _ w2 _ V2 (fun i hi => ?_) (hd.put hr0 hr1 h8 hn rfl hc hf)
  repeat rw [up_at, if_neg (by omega)]
theorem vals_R23 {K : Exit → Sl → World → Prop} {ρ : Sl} (h : VsW w0 w p loose lv l r b8 rv n 4 L V) (hr0 : 0 ≤ r) (hr1 : r < l.length) (h8 : l.length ≤ 8) (hn : n < l.length) (hs : VsS lv r b8 p n ρ)
    (hK : ∀ (ρ' : Sl) (w' : World) L' V', (∀ i, i < 14 → ρ' i = ρ i) → VsW w0 w' p loose lv l r b8 rv n 5 L' V' → K .normal ρ' w') : W fn_ Tryd.prog 239 dispatcherlaw15_CollValues_R23 K ρ w := by
  refine dispatcherlaw15_CollValues_R23_tail (D := []) ?_
  have hd := h.calm (w' := { w with drawn := w.drawn + 1 }) ((Mod.refl _ w).drawn _)
  generalize ({ w with drawn := w.drawn + 1 } : World) = wd at *
  unfold dispatcherlaw15_CollValues_R23_T
  show QK Tryd.prog (fun w' => w' = wd) _ _
  simp only [hs.h0, hs.h7, hs.h8, hs.h9, hs.h13]
  obtain ⟨p1, r1, l1⟩ := ixRL (i := n) (m := l.getD n 0) h.rr (by rw [List.getD_eq_getElem?_getD, List.getElem?_eq_getElem hn]; rfl)
  refine QV_of (v := grpV [] rv) (fun w' hw => by subst hw; exact run_ldB (cs := #[strV [], rv]) Tryd.underlying32 rfl iG hd.grp) ?_
  refine QV_of (fun w' _ => r1 w') (QV_of (fun w' hw => by subst hw; exact l1 _ hd.cs.mod) (QV_of (fun w' _ => run_build (P := Tryd.prog) w' _ _ _ (bV4 r _)) ?_))
  have hL := hd.vl.len
  have hwl := worldL_len l.length
  refine CK_st Tryd.func12 rfl rfl (Bring_ok (b := ⟨[], worldL l.length, (n : Int), ⟨19, r, 0, l.getD n 0, 0, 0⟩⟩) hd.cs.at_ (by omega) hd.RR (by show (worldL l.length).length ≤ 1000; omega)) ?_
  rintro _ w2 ⟨rfl, V2, hc, hf⟩
  refine hK _ w2 _ V2 (fun i hi => ?_) (hd.put hr0 hr1 h8 hn rfl hc hf)
  repeat rw [up_at, if_neg (by omega)]
end
end Go.Proofs.YtandbmnhghmcgaaDoor.Col
set_option linter.unusedVariables false
set_option linter.unusedSimpArgs false
set_option maxRecDepth 8000
namespace Go.X
open Go Go.RowKit
theorem Qadd' {P : Program} {C : World → Prop} {K : Value → Prop} {t : TypeId} {x y : Operand} {k : IntKind} {a b : Int} (hk : K (.int k (k.wrap (a + b)))) : QK P C (do pure (Next.value (← (do eqGuard .add t x y (.int k a) (.int k b); binOp .add t (.int k a) (.int k b))))) K := by
  refine QV_of (v := .int k (k.wrap (a + b))) (fun w _ => ?_) hk
  simp [go_sem]
theorem Qmax {P : Program} {C : World → Prop} {K : Value → Prop} {ts : Array TypeId} {ty : TypeId} {cs : Array Bool} {k k' : IntKind} {a b : Int} (hk : K (.int k (if b > a then b else a))) : QK P C (builtin .max ts ty cs [Value.int k a, Value.int k' b].toArray) K := by
  refine ⟨_, fun w _ => ?_, hk⟩
  have : (builtin .max ts ty cs [Value.int k a, Value.int k' b].toArray).run P w = .ok (.value (.int k (if b > a then b else a))) w := by simp [builtin, run_max_int2]
  rw [this]
  exact ⟨rfl, rfl⟩
theorem accS_snoc (s v : Int) (l : List Int) : accS s (l ++ [v]) = IntKind.i64.wrap (accS s l + v) := by unfold accS; rw [List.foldl_append]; rfl
theorem accM_snoc (s v : Int) (l : List Int) : accM s (l ++ [v]) = if v > accM s l then v else accM s l := by unfold accM; rw [List.foldl_append]; rfl
theorem accL_snoc (s v : Int) (l : List Int) : accL s (l ++ [v]) = if v < accL s l then v else accL s l := by unfold accL; rw [List.foldl_append]; rfl
end Go.X
namespace Go.Proofs.YtandbmnhghmcgaaDoor.Col
open Go Go.X Go.RowKit Go.Proofs.YtandbmnhghmcgaaDoor.XF Go.Proofs.YtandbmnhghmcgaaDoor.XG Go.Proofs.YtandbmnhghmcgaaDoor.XI Go.Proofs.YtandbmnhghmcgaaDoor.XK
def Tb (w : World) (b : Nat) (t : Td) : Prop := ∃ row rks, w.heap[b]? = some (.cells (tdCells t row rks) tTd (0, 0)) ∧ RR w row t.row
section
variable {w0 w w' : World} {p : Nat} {loose : Bool} {lv rv : Value} {l : List Int} {r : Int} {b8 n j : Nat} {L : List Br} {V : CV}
theorem Tb.calm {b : Nat} {t : Td} (h : Tb w b t) (hm : Mod none_ w w') : Tb w' b t := by
  obtain ⟨row, rks, hb, hr⟩ := h
  exact ⟨row, rks, hm.blk hb id, hr.calm hm⟩
theorem told_k {key : Ky} {rank k : Int} {t : Td} {hh : Bool} {K : Value → Value → Value → Value → World → Prop} (hgl : Gl w) (hc : CAt w p loose L V) (hL : L.length ≤ 1000000) (hK : ∀ b ∈ L, b.key.length ≤ 1000000) (hC : ∀ b ∈ L, -9223372036854775808 ≤ b.p.color ∧ b.p.color ≤ 9223372036854775807) (ht : toldC loose L key rank k = (t, hh))
    (hk : ∀ (x y : Value) (w' : World) (b : Nat), Tb w' b t → Mod none_ w w' → K x y (.bool hh) (.pointer (some ⟨b, 0, none⟩)) w') :
    CK Tryd.prog (.func (.func 27) #[] #[]) [.pointer (some ⟨p, 0, none⟩), strV key, .int .i64 rank, .int .i64 k] w fun x w => VK Tryd.prog (Instr.extract x 0) w fun y w => VK Tryd.prog (Instr.extract x 1) w fun z w => VK Tryd.prog (Instr.alloc tTd true (.tuple #[])) w fun u w => UK Tryd.prog (Instr.storeAt tTd u y) w fun _ w => K x y z u w := by
  refine CK_st Tryd.func27 rfl rfl (Told_ok hc hgl hL hK hC key rank k) ?_
  rintro _ w1 ⟨u, rfl, hu, hm1⟩
  rw [ht] at hu
  obtain ⟨row, rks, eu, hone⟩ := hu.one
  subst eu
  rw [ht, extract_ok (v := .agg (tdCells t row rks)) rfl, extract_ok (v := .bool hh) rfl]
  refine al_k (cs := tdCells zTd nilS nilS) zTd_z rfl _ fun w2 hb2 hm2 hz2 => ?_
  refine stS (old := tdCells zTd nilS nilS) rfl rfl iTd rfl hone hb2 fun w3 hb3 hm3 hz3 => ?_
  have hm13 : Mod none_ w1 w3 := hm2.then hm3 fun i hi z => by omega
  exact hk _ _ w3 _ ⟨row, rks, hb3, RR.calm (reads_of_owns (td_own hu).1) hm13⟩ (hm1.trans hm13)
theorem vals_R5 {K : Exit → Sl → World → Prop} {ρ : Sl} {s m e : Int} (hr : RR w lv l) (hn : n < l.length) (q0 : ρ 0 = lv) (q13 : ρ 13 = .int .i64 n) (q10 : ρ 10 = .int .i64 s) (q11 : ρ 11 = .int .i64 m) (q12 : ρ 12 = .int .i64 e)
    (hK : ∀ (ρ' : Sl) (w' : World), (∀ i, i < 14 → i ≠ 10 → i ≠ 11 → i ≠ 12 → ρ' i = ρ i) → ρ' 10 = .int .i64 (IntKind.i64.wrap (s + l.getD n 0)) → ρ' 11 = .int .i64 (if l.getD n 0 > m then l.getD n 0 else m) → ρ' 12 = .int .i64 (if l.getD n 0 < e then l.getD n 0 else e) → Mod none_ w w' → K .normal ρ' w') : W fn_ Tryd.prog 239 dispatcherlaw15_CollValues_R5 K ρ w := by
  refine dispatcherlaw15_CollValues_R5_quiet (D := []) (fun w' => Mod none_ w w') ((Mod.refl _ w).drawn _) ?_
  unfold dispatcherlaw15_CollValues_R5_Q
  rw [q0, q13, q10, q11, q12]
  obtain ⟨p1, r1, l1⟩ := ixRL (i := n) (m := l.getD n 0) hr (by rw [List.getD_eq_getElem?_getD, List.getElem?_eq_getElem hn]; rfl)
  refine QV_of (fun w' _ => r1 w') (QV_of (fun w' hw => l1 w' hw) (Qadd' (QV_of (fun w' _ => r1 w') (QV_of (fun w' hw => l1 w' hw) (Qmax (QV_of (fun w' _ => r1 w') (QV_of (fun w' hw => l1 w' hw) (Qmin ?_))))))))
  intro w' hw
  refine hK _ w' (fun i hi h1 h2 h3 => ?_) rfl rfl rfl hw
  repeat rw [up_at, if_neg (by omega)]
theorem vals_R1 {K : Exit → Sl → World → Prop} {ρ : Sl} (hr : RR w lv l) (hn : 0 < l.length) (q0 : ρ 0 = lv)
    (hK : ∀ (ρ' : Sl) (w' : World), (∀ i, i < 10 → ρ' i = ρ i) → ρ' 10 = .int .i64 0 → ρ' 11 = .int .i64 (l.getD 0 0) → ρ' 12 = .int .i64 (l.getD 0 0) → Mod none_ w w' → K .normal ρ' w') : W fn_ Tryd.prog 239 dispatcherlaw15_CollValues_R1 K ρ w := by
  refine dispatcherlaw15_CollValues_R1_quiet (D := []) (fun w' => Mod none_ w w') ((Mod.refl _ w).drawn _) ?_
  unfold dispatcherlaw15_CollValues_R1_Q
  rw [q0]
  obtain ⟨p1, r1, l1⟩ := ixRL (i := 0) (m := l.getD 0 0) hr (by rw [List.getD_eq_getElem?_getD, List.getElem?_eq_getElem hn]; rfl)
  refine QV_of (fun w' _ => r1 w') (QV_of (fun w' hw => l1 w' hw) (QV_of (fun w' _ => r1 w') (QV_of (fun w' hw => l1 w' hw) ?_)))
  intro w' hw
  refine hK _ w' (fun i hi => ?_) rfl rfl rfl hw
  repeat rw [up_at, if_neg (by omega)]
theorem vals_R16 {K : Exit → Sl → World → Prop} {ρ : Sl} {b15 b19 b21 : Nat} {t0 t2 t3 : Td} (hr : RR w lv l) (hr0 : 0 ≤ r) (hr1 : r < l.length) (h15 : Tb w b15 t0) (h19 : Tb w b19 t2) (h21 : Tb w b21 t3) (e3 : t3.val = l.getD r.toNat 0)
    (q0 : ρ 0 = lv) (q7 : ρ 7 = .int .i64 r) (q10 : ρ 10 = .int .i64 t0.val) (q12 : ρ 12 = .int .i64 t2.val) (q15 : ρ 15 = .pointer (some ⟨b15, 0, none⟩)) (q19 : ρ 19 = .pointer (some ⟨b19, 0, none⟩)) (q21 : ρ 21 = .pointer (some ⟨b21, 0, none⟩))
    (q16 : ρ 16 = .bool true) (q18 : ρ 18 = .bool true) (q20 : ρ 20 = .bool true) (q22 : ρ 22 = .bool true) (q24 : ρ 24 = .bool true)
    (hK : ∀ (ρ' : Sl) (w' : World), (∀ i, i < 26 → ρ' i = ρ i) → ρ' 198 = .bool false → Mod none_ w w' → K .normal ρ' w') : W fn_ Tryd.prog 239 dispatcherlaw15_CollValues_R16 K ρ w := by
  refine dispatcherlaw15_CollValues_R16_quiet (D := []) (fun w' => Mod none_ w w') ((Mod.refl _ w).drawn _) ?_
  unfold dispatcherlaw15_CollValues_R16_Q
  rw [q0, q7, q10, q12, q15, q19, q21, q16, q18, q20, q22, q24]
  obtain ⟨p1, r1, l1⟩ := ixRL (i := r.toNat) (m := l.getD r.toNat 0) hr (by rw [List.getD_eq_getElem?_getD, List.getElem?_eq_getElem (by omega)]; rfl)
  rw [Int.toNat_of_nonneg hr0] at r1
  have val : ∀ {b : Nat} {t : Td}, Tb w b t → ∀ w', Mod none_ w w' → (Instr.loadAt tL (.pointer (some ⟨b, 0, none⟩))).run Tryd.prog w' = .ok (.int .i64 t.val) w' := fun {b t} h w' hw => by
    obtain ⟨row, rks, hb, _⟩ := h
    exact run_ld1 vL rfl (by rw [cell_blk (hw.blk hb id)]; rfl)
  have fl : ∀ (b : Nat) (w' : World), (Instr.fieldAt tTd (.pointer (some ⟨b, 0, none⟩)) 0).run Tryd.prog w' = .ok (.pointer (some ⟨b, 0, none⟩)) w' := fun b w' => by rw [run_fo (show fieldOff Tryd.prog tTd 0 = some 0 by kernel_rfl), add_pl]
  refine Qnot (QGf (Qmv (QGf (Qnot (QPf ?_)))))
  refine QGf (Qmv (QGf (Qnot (QPf ?_))))
  refine QGf (Qmv (QGf (Qnot (QPf ?_))))
  refine QGf (Qmv (QGf (Qnot (QPf ?_))))
  have ne : ∀ a : Int, (a != a) = false := fun a => by simp
  refine QGf (QV_of (fun w' _ => fl _ w') (QGf (QV_of (val h15) (QGf (Qmv (QGf (Qneq ?_)))))))
  rw [ne]
  refine QPf ?_
  refine QGf (QV_of (fun w' _ => fl _ w') (QGf (QV_of (val h19) (QGf (Qmv (QGf (Qneq ?_)))))))
  rw [ne]
  refine QPf ?_
  refine QGf (QV_of (fun w' _ => fl _ w') (QGf (QV_of (val h21) (QGf (Qmv (QGf (Qmv (QGf (QV_of (fun w' _ => r1 w') (QGf (QV_of (fun w' hw => l1 w' hw) (QGf (Qneq ?_)))))))))))))
  rw [e3, ne]
  refine QPf ?_
  intro w' hw
  refine hK _ w' (fun i hi => ?_) rfl hw
  repeat rw [up_at, if_neg (by omega)]
end
end Go.Proofs.YtandbmnhghmcgaaDoor.Col
set_option linter.unusedVariables false
set_option linter.unusedSimpArgs false
set_option maxRecDepth 8000
namespace Go.Proofs.YtandbmnhghmcgaaDoor.Col
open Go Go.X Go.RowKit Go.Proofs.YtandbmnhghmcgaaDoor.XF Go.Proofs.YtandbmnhghmcgaaDoor.XG Go.Proofs.YtandbmnhghmcgaaDoor.XI Go.Proofs.YtandbmnhghmcgaaDoor.XK
section
variable {w0 w w' : World} {p : Nat} {loose : Bool} {lv rv : Value} {l : List Int} {r : Int} {b8 n j : Nat} {L : List Br} {V : CV}
theorem vals_L3 {K : Exit → Sl → World → Prop} {ρ : Sl} {m0 : Int} (h : VsW w0 w p loose lv l r b8 rv 0 0 L V) (hr0 : 0 ≤ r) (hr1 : r < l.length) (h8 : l.length ≤ 8) (hs : VsS lv r b8 p 0 ρ) (q10 : ρ 10 = .int .i64 0) (q11 : ρ 11 = .int .i64 m0) (q12 : ρ 12 = .int .i64 m0)
    (hK : ∀ (ρ' : Sl) (w' : World) L' V', VsS lv r b8 p l.length ρ' → ρ' 10 = .int .i64 (accS 0 l) → ρ' 11 = .int .i64 (accM m0 l) → ρ' 12 = .int .i64 (accL m0 l) → VsW w0 w' p loose lv l r b8 rv l.length 0 L' V' → K (.exit 0) ρ' w') : W fn_ Tryd.prog 239 (Code.loop dispatcherlaw15_CollValues_L3) K ρ w := by
  refine W_loop dispatcherlaw15_CollValues_L3_ok (fun ρ w' => ∃ (n : Nat) (L : List Br) (V : CV), n ≤ l.length ∧ VsS lv r b8 p n ρ ∧ ρ 10 = .int .i64 (accS 0 (l.take n)) ∧ ρ 11 = .int .i64 (accM m0 (l.take n)) ∧ ρ 12 = .int .i64 (accL m0 (l.take n)) ∧ VsW w0 w' p loose lv l r b8 rv n 0 L V) (fun ρ _ => l.length - (intOf (ρ 13)).toNat)
    ⟨0, L, V, Nat.zero_le _, hs, q10, q11, q12, h⟩ ?_
  rintro ρ w1 ⟨n, L, V, hn, hs, q10, q11, q12, h⟩
  obtain ⟨A, c, ev, _⟩ := reads_cap h.rr
  rw [dispatcherlaw15_CollValues_L3_eq]; unfold dispatcherlaw15_CollValues_L3_F
  rw [hs.h0, hs.h13, ev, len_sl vLs, ← ev, BK_lss]
  by_cases hlt : n < l.length
  case neg =>
    obtain rfl : n = l.length := by omega
    rw [decide_eq_false (by omega)]
    refine condF ?_
    rw [List.take_length] at q10 q11 q12
    exact hK _ _ L V (hs.of fun i hi => by repeat rw [up_at, if_neg (by omega)]) q10 q11 q12 h
  rw [decide_eq_true (by omega)]
  refine condT ?_
  have hx : l[n]? = some (l.getD n 0) := by rw [List.getD_eq_getElem?_getD, List.getElem?_eq_getElem hlt]; rfl
  have etk : l.take (n + 1) = l.take n ++ [l.getD n 0] := by rw [List.take_add_one, hx]; rfl
  refine vals_R5 (n := n) (s := accS 0 (l.take n)) (m := accM m0 (l.take n)) (e := accL m0 (l.take n)) (h.rr.calm h.cs.mod) hlt ?_ ?_ ?_ ?_ ?_ ?_
  · exact hs.h0
  · exact hs.h13
  · exact q10
  · exact q11
  · exact q12
  intro ρ2 w2 s2 z10 z11 z12 hm2
  have hs2 : VsS lv r b8 p n ρ2 := hs.same (s2 0 (by decide) (by decide) (by decide) (by decide)) (s2 7 (by decide) (by decide) (by decide) (by decide)) (s2 8 (by decide) (by decide) (by decide) (by decide)) (s2 9 (by decide) (by decide) (by decide) (by decide)) (s2 13 (by decide) (by decide) (by decide) (by decide))
  rw [sq_n, dispatcherlaw15_CollValues_R6_eq]; unfold dispatcherlaw15_CollValues_R6_F
  refine vals_R10 (h.calm hm2) hr0 hr1 h8 hlt hs2 ?_
  intro ρ3 w3 L3 V3 s3 h3
  have hs3 := hs2.of s3
  rw [sq_n, dispatcherlaw15_CollValues_R11_eq]; unfold dispatcherlaw15_CollValues_R11_F
  refine vals_R14 h3 hr0 hr1 h8 hlt hs3 ?_
  intro ρ4 w4 L4 V4 s4 h4
  have hs4 := hs3.of s4
  rw [sq_n, dispatcherlaw15_CollValues_R15_eq]; unfold dispatcherlaw15_CollValues_R15_F
  refine vals_R19 h4 hr0 hr1 h8 hlt hs4 ?_
  intro ρ5 w5 L5 V5 s5 h5
  have hs5 := hs4.of s5
  rw [sq_n, dispatcherlaw15_CollValues_R20_eq]; unfold dispatcherlaw15_CollValues_R20_F
  refine vals_R22 h5 hr0 hr1 h8 hlt hs5 ?_
  intro ρ6 w6 L6 V6 s6 h6
  have hs6 := hs5.of s6
  rw [sq_n]
  refine vals_R23 h6 hr0 hr1 h8 hlt hs6 ?_
  intro ρ7 w7 L7 V7 s7 h7
  have hs7 := hs6.of s7
  have st : ∀ i, i < 14 → ρ7 i = ρ2 i := fun i hi => by rw [s7 i hi, s6 i hi, s5 i hi, s4 i hi, s3 i hi]
  rw [bk_n, sq_n, dispatcherlaw15_CollValues_R7_eq]; unfold dispatcherlaw15_CollValues_R7_F
  rw [hs7.h13, BK_add, wrap_i (by omega) (by omega)]
  refine ⟨⟨n + 1, L7, V7, hlt, ⟨hs7.h0, hs7.h7, hs7.h8, hs7.h9, rfl⟩, ?_, ?_, ?_, ⟨h7.cs, h7.vl.next, h7.rr, h7.grp, h7.rk⟩⟩, ?_⟩
  · rw [etk, accS_snoc]; exact (st 10 (by decide)).trans z10
  · rw [etk, accM_snoc]; exact (st 11 (by decide)).trans z11
  · rw [etk, accL_snoc]; exact (st 12 (by decide)).trans z12
  · simp only [sq_n, sq_x, sq_r, bk_n, bk_r, bk_x, rt_r, rt_n, rs_0, rs_t, pk_1, pk_2, up_at, reduceIte, Nat.reduceEqDiff, intOf]; omega
theorem vals_L21 {K : Exit → Sl → World → Prop} {ρ : Sl} {b23 : Nat} {t : Td} (hr : RR w lv l) (h8 : l.length ≤ 8) (hT : Tb w b23 t) (et : t.row = l) (q0 : ρ 0 = lv) (q23 : ρ 23 = .pointer (some ⟨b23, 0, none⟩)) (q25 : ρ 25 = .int .i64 (0 : Nat))
    (hK : ∀ (ρ' : Sl) (w' : World), (∀ i, i < 25 → ρ' i = ρ i) → Mod none_ w w' → K (.exit 4) ρ' w') : W fn_ Tryd.prog 239 (Code.loop dispatcherlaw15_CollValues_L21) K ρ w := by
  refine W_loop dispatcherlaw15_CollValues_L21_ok (fun ρ' w' => ∃ i : Nat, i ≤ l.length ∧ ρ' 25 = .int .i64 i ∧ (∀ i, i < 25 → ρ' i = ρ i) ∧ Mod none_ w w') (fun ρ _ => l.length - (intOf (ρ 25)).toNat)
    ⟨0, Nat.zero_le _, q25, fun _ _ => rfl, Mod.refl _ _⟩ ?_
  rintro ρ1 w1 ⟨i, hi, e25, hs, hm⟩
  obtain ⟨A, c, ev, _⟩ := reads_cap hr
  have e0 : ρ1 0 = lv := (hs 0 (by decide)).trans q0
  have e23 : ρ1 23 = .pointer (some ⟨b23, 0, none⟩) := (hs 23 (by decide)).trans q23
  rw [dispatcherlaw15_CollValues_L21_eq]; unfold dispatcherlaw15_CollValues_L21_F
  rw [e0, e25, ev, len_sl vLs, ← ev, BK_lss]
  by_cases hlt : i < l.length
  case neg =>
    obtain rfl : i = l.length := by omega
    rw [decide_eq_false (by omega)]
    refine condF ?_
    refine hK _ _ (fun j hj => ?_) hm
    rw [← hs j hj]
    repeat rw [up_at, if_neg (by omega)]
  rw [decide_eq_true (by omega)]
  refine condT ?_
  obtain ⟨row, rks, hb, hrow⟩ := hT
  rw [et] at hrow
  have hx : l[i]? = some l[i] := List.getElem?_eq_getElem hlt
  generalize l[i] = x at *
  obtain ⟨p1, r1, l1⟩ := ixRL hrow hx
  obtain ⟨p2, r2, l2⟩ := ixRL hr hx
  refine dispatcherlaw15_CollValues_R24_quiet (D := []) (fun w' => Mod none_ w w') (hm.trans ((Mod.refl _ w1).drawn _)) ?_
  unfold dispatcherlaw15_CollValues_R24_Q
  simp only [sq_n, sq_x, sq_r, bk_n, bk_r, bk_x, rt_r, rt_n, rs_0, rs_t, pk_1, pk_2, up_at, reduceIte, Nat.reduceEqDiff, e0, e23, e25]
  refine QV_of (v := .pointer (some ⟨b23, 1, none⟩)) (fun w' _ => by rw [run_fo (show fieldOff Tryd.prog tTd 1 = some 1 by kernel_rfl), add_pl]) (QV_of (v := row) (fun w' hw => run_ld1 vLs rfl (by rw [cell_blk (hw.blk hb id)]; rfl)) ?_)
  refine QV_of (fun w' _ => r1 w') (QV_of (fun w' hw => l1 w' hw) (QV_of (fun w' _ => r2 w') (QV_of (fun w' hw => l2 w' hw) (Qneq ?_))))
  rw [show (x != x) = false by simp]
  intro w' hw
  try rw [sq_n]
  rw [dispatcherlaw15_CollValues_R25_eq]; unfold dispatcherlaw15_CollValues_R25_F
  simp only [sq_n, sq_x, sq_r, bk_n, bk_r, bk_x, rt_r, rt_n, rs_0, rs_t, pk_1, pk_2, up_at, reduceIte, Nat.reduceEqDiff]
  refine condF ?_
  try rw [bk_n, sq_n]
  rw [dispatcherlaw15_CollValues_R26_eq]; unfold dispatcherlaw15_CollValues_R26_F
  simp only [sq_n, sq_x, sq_r, bk_n, bk_r, bk_x, rt_r, rt_n, rs_0, rs_t, pk_1, pk_2, up_at, reduceIte, Nat.reduceEqDiff, e25]
  rw [BK_add, wrap_i (by omega) (by omega)]
  refine ⟨⟨i + 1, hlt, rfl, fun j hj => ?_, hw⟩, ?_⟩
  · rw [← hs j hj]
    repeat rw [if_neg (by omega)]
  · simp only [sq_n, sq_x, sq_r, bk_n, bk_r, bk_x, rt_r, rt_n, rs_0, rs_t, pk_1, pk_2, up_at, reduceIte, Nat.reduceEqDiff, intOf]; omega
end
end Go.Proofs.YtandbmnhghmcgaaDoor.Col
set_option linter.unusedVariables false
set_option linter.unusedSimpArgs false
set_option maxRecDepth 8000
namespace Go.Proofs.YtandbmnhghmcgaaDoor.Col
open Go Go.X Go.RowKit Go.Proofs.YtandbmnhghmcgaaDoor.XF Go.Proofs.YtandbmnhghmcgaaDoor.XG Go.Proofs.YtandbmnhghmcgaaDoor.XI Go.Proofs.YtandbmnhghmcgaaDoor.XK
structure VtS (lv : Value) (r : Int) (p : Nat) (s m e : Int) (n : Nat) (ρ : Sl) : Prop where
  h0 : ρ 0 = lv
  h7 : ρ 7 = .int .i64 r
  h9 : ρ 9 = .pointer (some ⟨p, 0, none⟩)
  h10 : ρ 10 = .int .i64 s
  h11 : ρ 11 = .int .i64 m
  h12 : ρ 12 = .int .i64 e
  h14 : ρ 14 = .int .i64 n
section
variable {w0 w w' : World} {p : Nat} {loose : Bool} {lv rv : Value} {l : List Int} {r : Int} {b8 n j : Nat} {L : List Br} {V : CV} {s m e : Int}
theorem VtS.of {ρ ρ' : Sl} (h : VtS lv r p s m e n ρ) (hs : ∀ i, i < 15 → ρ' i = ρ i) : VtS lv r p s m e n ρ' := ⟨(hs 0 (by decide)).trans h.h0, (hs 7 (by decide)).trans h.h7, (hs 9 (by decide)).trans h.h9, (hs 10 (by decide)).trans h.h10, (hs 11 (by decide)).trans h.h11, (hs 12 (by decide)).trans h.h12, (hs 14 (by decide)).trans h.h14⟩
theorem fTb0 {b : Nat} {t : Td} (h : Tb w b t) : FO Tryd.prog w tTd 0 0 ⟨b, 0, none⟩ tL (.int .i64 t.val) := by
  obtain ⟨row, rks, hb, _⟩ := h
  exact fT0 hb
theorem fTb1 {b : Nat} {t : Td} (h : Tb w b t) : ∃ A c, FO Tryd.prog w tTd 1 1 ⟨b, 0, none⟩ tLs (.slice A t.row.length c) := by
  obtain ⟨row, rks, hb, hr⟩ := h
  obtain ⟨A, c, e, _⟩ := reads_cap hr
  subst e
  exact ⟨A, c, fT1 hb⟩
theorem vals_R18 {K : Exit → Sl → World → Prop} {ρ : Sl} {b17 b23 : Nat} {t1 t4 : Td} (hr : RR w lv l) (h8 : l.length ≤ 8) (h17 : Tb w b17 t1) (h23 : Tb w b23 t4) (es : VtS lv r p s m e n ρ) (q17 : ρ 17 = .pointer (some ⟨b17, 0, none⟩)) (q23 : ρ 23 = .pointer (some ⟨b23, 0, none⟩))
    (hne : (n : Int) ≠ r → t1.val = 0 ∧ t4.row = []) (heq : (n : Int) = r → t1.val = m ∧ t4.row = l)
    (hK : ∀ (ρ' : Sl) (w' : World), VtS lv r p s m e n ρ' → Mod none_ w w' → K (.exit 3) ρ' w' ∧ blkK 4 K (.exit 4) ρ' w') : sx fn_ Tryd.prog 239 dispatcherlaw15_CollValues_R18 K ρ w := by
  rw [dispatcherlaw15_CollValues_R18_eq]; unfold dispatcherlaw15_CollValues_R18_F
  rw [es.h14, es.h7, es.h0, es.h11, q17, q23]
  obtain ⟨A4, c4, f4⟩ := fTb1 h23
  by_cases c : (n : Int) = r
  · obtain ⟨e1, e2⟩ := heq c
    rw [NEf c]
    refine condF ?_
    simp only [↓(fTb0 h17).e]
    rw [NEf e1]
    simp only [↓VG_u, ↓UG_u, ↓MG_u, ↓NG_u, ↓PG_u, ↓BG_u, ↓CG_u, ↓IG_u, ↓VGtt, ↓VGtf, ↓VGft, ↓VGff, ↓UGtt, ↓UGtf, ↓UGft, ↓UGff, ↓MGtt, ↓MGtf, ↓MGft, ↓MGff, ↓NGtt, ↓NGtf, ↓NGft, ↓NGff, ↓PGtt, ↓PGtf, ↓PGft, ↓PGff, ↓BGtt, ↓BGtf, ↓BGft, ↓BGff, ↓CGtt, ↓CGtf, ↓CGft, ↓CGff, ↓IGtt, ↓IGtf, ↓IGft, ↓IGff, ↓PKt, ↓PKf, ↓CDt, ↓CDf, ↓NOTt, ↓NOTf, ↓NK_ptr, ↓f4.e]
    obtain ⟨A, cc, ev, _⟩ := reads_cap hr
    rw [len_sl vLs]
    try simp only [↓VG_u, ↓UG_u, ↓MG_u, ↓NG_u, ↓PG_u, ↓BG_u, ↓CG_u, ↓IG_u, ↓VGtt, ↓VGtf, ↓VGft, ↓VGff, ↓UGtt, ↓UGtf, ↓UGft, ↓UGff, ↓MGtt, ↓MGtf, ↓MGft, ↓MGff, ↓NGtt, ↓NGtf, ↓NGft, ↓NGff, ↓PGtt, ↓PGtf, ↓PGft, ↓PGff, ↓BGtt, ↓BGtf, ↓BGft, ↓BGff, ↓CGtt, ↓CGtf, ↓CGft, ↓CGff, ↓IGtt, ↓IGtf, ↓IGft, ↓IGff, ↓PKt, ↓PKf, ↓CDt, ↓CDf, ↓NOTt, ↓NOTf, ↓NK_ptr]
    rw [ev, len_sl vLs, ← ev]
    simp only [↓VG_u, ↓UG_u, ↓MG_u, ↓NG_u, ↓PG_u, ↓BG_u, ↓CG_u, ↓IG_u, ↓VGtt, ↓VGtf, ↓VGft, ↓VGff, ↓UGtt, ↓UGtf, ↓UGft, ↓UGff, ↓MGtt, ↓MGtf, ↓MGft, ↓MGff, ↓NGtt, ↓NGtf, ↓NGft, ↓NGff, ↓PGtt, ↓PGtf, ↓PGft, ↓PGff, ↓BGtt, ↓BGtf, ↓BGft, ↓BGff, ↓CGtt, ↓CGtf, ↓CGft, ↓CGff, ↓IGtt, ↓IGtf, ↓IGft, ↓IGff, ↓PKt, ↓PKf, ↓CDt, ↓CDf, ↓NOTt, ↓NOTf, ↓NK_ptr, ↓NEf (show (t4.row.length : Int) = (l.length : Int) by rw [e2])]
    refine vals_L21 hr h8 h23 e2 ?_ ?_ rfl ?_
    · exact es.h0
    · exact q23
    intro ρ' w' s' hm
    refine (hK ρ' w' (es.of fun i hi => ?_) hm).2
    rw [s' i (by omega)]
    repeat rw [up_at, if_neg (by omega)]
  · obtain ⟨e1, e2⟩ := hne c
    rw [NEt c]
    refine condT ?_
    simp only [↓(fTb0 h17).e]
    rw [NEf e1]
    simp only [↓VG_u, ↓UG_u, ↓MG_u, ↓NG_u, ↓PG_u, ↓BG_u, ↓CG_u, ↓IG_u, ↓VGtt, ↓VGtf, ↓VGft, ↓VGff, ↓UGtt, ↓UGtf, ↓UGft, ↓UGff, ↓MGtt, ↓MGtf, ↓MGft, ↓MGff, ↓NGtt, ↓NGtf, ↓NGft, ↓NGff, ↓PGtt, ↓PGtf, ↓PGft, ↓PGff, ↓BGtt, ↓BGtf, ↓BGft, ↓BGff, ↓CGtt, ↓CGtf, ↓CGft, ↓CGff, ↓IGtt, ↓IGtf, ↓IGft, ↓IGff, ↓PKt, ↓PKf, ↓CDt, ↓CDf, ↓NOTt, ↓NOTf, ↓NK_ptr, ↓f4.e]
    rw [len_sl vLs]
    simp only [↓VG_u, ↓UG_u, ↓MG_u, ↓NG_u, ↓PG_u, ↓BG_u, ↓CG_u, ↓IG_u, ↓VGtt, ↓VGtf, ↓VGft, ↓VGff, ↓UGtt, ↓UGtf, ↓UGft, ↓UGff, ↓MGtt, ↓MGtf, ↓MGft, ↓MGff, ↓NGtt, ↓NGtf, ↓NGft, ↓NGff, ↓PGtt, ↓PGtf, ↓PGft, ↓PGff, ↓BGtt, ↓BGtf, ↓BGft, ↓BGff, ↓CGtt, ↓CGtf, ↓CGft, ↓CGff, ↓IGtt, ↓IGtf, ↓IGft, ↓IGff, ↓PKt, ↓PKf, ↓CDt, ↓CDf, ↓NOTt, ↓NOTf, ↓NK_ptr, ↓NEf (show (t4.row.length : Int) = 0 by rw [e2]; rfl)]
    refine (hK _ w (es.of fun i hi => ?_) (Mod.refl _ _)).1
    repeat rw [up_at, if_neg (by omega)]
theorem vals_L8 {K : Exit → Sl → World → Prop} {ρ : Sl} (hgl : Gl w0) (h : VsW w0 w p loose lv l r b8 rv l.length 0 L V) (hr0 : 0 ≤ r) (hr1 : r < l.length) (h1 : 1 ≤ l.length) (h8 : l.length ≤ 8) (es : VtS lv r p (redC 0 l) (redC 1 l) (redC 2 l) 0 ρ)
    (hK : ∀ (ρ' : Sl) (w' : World), Mod none_ w0 w' → K (.exit 2) ρ' w') : W fn_ Tryd.prog 239 (Code.loop dispatcherlaw15_CollValues_L8) K ρ w := by
  refine W_loop dispatcherlaw15_CollValues_L8_ok (fun ρ w' => ∃ n : Nat, n ≤ l.length ∧ VtS lv r p (redC 0 l) (redC 1 l) (redC 2 l) n ρ ∧ Mod none_ w w') (fun ρ _ => l.length - (intOf (ρ 14)).toNat)
    ⟨0, Nat.zero_le _, es, Mod.refl _ _⟩ ?_
  rintro ρ w1 ⟨n, hn, es, hm⟩
  obtain ⟨A, c, ev, _⟩ := reads_cap h.rr
  have hw1 := h.calm hm
  rw [dispatcherlaw15_CollValues_L8_eq]; unfold dispatcherlaw15_CollValues_L8_F
  rw [es.h0, es.h14, es.h9, ev, len_sl vLs, ← ev, BK_lss]
  by_cases hlt : n < l.length
  case neg =>
    rw [decide_eq_false (by omega)]
    refine condF ?_
    exact hK _ _ hw1.cs.mod
  rw [decide_eq_true (by omega)]
  refine condT ?_
  obtain ⟨T0, T1, T2, T3, T4⟩ := h.vl.told h1 hr0 hr1 loose hlt
  have hL := h.vl.len
  have hky : ∀ b ∈ L, b.key.length ≤ 1000000 := fun b hb => by rw [(h.vl.wd.all b hb).1]; simp
  have hcl : ∀ b ∈ L, -9223372036854775808 ≤ b.p.color ∧ b.p.color ≤ 9223372036854775807 := fun b hb => by rw [h.vl.clr b hb]; exact ⟨by decide, by decide⟩
  refine told_k (key := []) (hgl.calm hw1.cs.mod) hw1.cs.at_ (by omega) hky hcl T0 fun x0 y0 w2 b15 h15 hm2 => ?_
  have hw2 := hw1.calm hm2
  refine told_k (key := []) (hgl.calm hw2.cs.mod) hw2.cs.at_ (by omega) hky hcl T1 fun x1 y1 w3 b17 h17 hm3 => ?_
  have hw3 := hw2.calm hm3
  refine told_k (key := []) (hgl.calm hw3.cs.mod) hw3.cs.at_ (by omega) hky hcl T2 fun x2 y2 w4 b19 h19 hm4 => ?_
  have hw4 := hw3.calm hm4
  rw [dispatcherlaw15_CollValues_R13_eq]; unfold dispatcherlaw15_CollValues_R13_F
  simp only [sq_n, sq_x, sq_r, bk_n, bk_r, bk_x, rt_r, rt_n, rs_0, rs_t, pk_1, pk_2, up_at, reduceIte, Nat.reduceEqDiff, es.h9, es.h14]
  refine told_k (key := []) (hgl.calm hw4.cs.mod) hw4.cs.at_ (by omega) hky hcl T3 fun x3 y3 w5 b21 h21 hm5 => ?_
  have hw5 := hw4.calm hm5
  refine told_k (key := []) (hgl.calm hw5.cs.mod) hw5.cs.at_ (by omega) hky hcl T4 fun x4 y4 w6 b23 h23 hm6 => ?_
  have hw6 := hw5.calm hm6
  have h15' := (((h15.calm hm3).calm hm4).calm hm5).calm hm6
  have h17' := ((h17.calm hm4).calm hm5).calm hm6
  have h19' := (h19.calm hm5).calm hm6
  have h21' := h21.calm hm6
  refine vals_R16 (h.rr.calm hw6.cs.mod) hr0 hr1 h15' h19' h21' rfl ?_ ?_ ?_ ?_ rfl rfl rfl rfl rfl rfl rfl rfl ?_
  · exact es.h0
  · exact es.h7
  · exact es.h10
  · exact es.h12
  intro ρ2 w7 s2 z198 hm7
  have hw7 := hw6.calm hm7
  have es2 : VtS lv r p (redC 0 l) (redC 1 l) (redC 2 l) n ρ2 := es.of fun i hi => by
    rw [s2 i (by omega)]
    repeat rw [up_at, if_neg (by omega)]
  try rw [sq_n]
  rw [dispatcherlaw15_CollValues_R17_eq]; unfold dispatcherlaw15_CollValues_R17_F
  rw [z198]
  refine condF ?_
  try rw [sq_n]
  refine vals_R18 (h.rr.calm hw7.cs.mod) h8 (h17'.calm hm7) (h23.calm hm7) es2 ?_ ?_ (fun c => ?_) (fun c => ?_) fun ρ3 w8 es3 hm8 => ?_
  · exact (s2 17 (by decide)).trans rfl
  · exact (s2 23 (by decide)).trans rfl
  · rw [if_neg c, if_neg c]; exact ⟨rfl, rfl⟩
  · rw [if_pos c, if_pos c]; exact ⟨rfl, rfl⟩
  have nx : sx fn_ Tryd.prog 239 dispatcherlaw15_CollValues_R12 (seqK (fun ρ' w' => (∃ n : Nat, n ≤ l.length ∧ VtS lv r p (redC 0 l) (redC 1 l) (redC 2 l) n ρ' ∧ Mod none_ w w') ∧ l.length - (intOf (ρ' 14)).toNat < l.length - (intOf (.int .i64 (n : Int))).toNat) K) ρ3 w8 := by
    rw [dispatcherlaw15_CollValues_R12_eq]; unfold dispatcherlaw15_CollValues_R12_F
    rw [es3.h14, BK_add, wrap_i (by omega) (by omega)]
    refine ⟨⟨n + 1, hlt, ⟨es3.h0, es3.h7, es3.h9, es3.h10, es3.h11, es3.h12, rfl⟩, (((((hm.trans hm2).trans hm3).trans hm4).trans hm5).trans hm6).trans (hm7.trans hm8)⟩, ?_⟩
    simp only [sq_n, sq_x, sq_r, bk_n, bk_r, bk_x, rt_r, rt_n, rs_0, rs_t, pk_1, pk_2, up_at, reduceIte, Nat.reduceEqDiff, intOf]; omega
  refine ⟨?_, ?_⟩
  · rw [bk_x, sq_n]
    exact nx
  · rw [bk_x, bk_n, sq_n]
    exact nx
theorem CollValues_ok (hgl : Gl w) (hr : RR w lv l) (hl : ∀ x ∈ l, -9223372036854775808 ≤ x ∧ x ≤ 9223372036854775807) {root : Int} (h0 : 0 ≤ root) (h255 : root ≤ 255) (loose : Bool) : Rt Tryd.prog 8 #[lv, .int .u8 root, .bool loose] w fun u w' => u = .bool true ∧ Mod none_ w w' := by
  refine dispatcherlaw15_CollValues_calls ?_
  unfold dispatcherlaw15_CollValues_F
  refine CK_st Tryd.func26 rfl rfl (awake_ok hgl) ?_
  rintro _ w1 ⟨rfl, hm1⟩
  simp only [↓VG_u, ↓UG_u, ↓MG_u, ↓NG_u, ↓PG_u, ↓BG_u, ↓CG_u, ↓IG_u, ↓VGtt, ↓VGtf, ↓VGft, ↓VGff, ↓UGtt, ↓UGtf, ↓UGft, ↓UGff, ↓MGtt, ↓MGtf, ↓MGft, ↓MGff, ↓NGtt, ↓NGtf, ↓NGft, ↓NGff, ↓PGtt, ↓PGtf, ↓PGft, ↓PGff, ↓BGtt, ↓BGtf, ↓BGft, ↓BGff, ↓CGtt, ↓CGtf, ↓CGft, ↓CGff, ↓IGtt, ↓IGtf, ↓IGft, ↓IGff, ↓PKt, ↓PKf, ↓CDt, ↓CDf, ↓NOTt, ↓NOTf, ↓NK_ptr]
  obtain ⟨A, c, ev, _⟩ := reads_cap hr
  rw [ev, len_sl vLs, ← ev]
  by_cases c1 : (l.length : Int) < 1
  · simp only [↓VG_u, ↓UG_u, ↓MG_u, ↓NG_u, ↓PG_u, ↓BG_u, ↓CG_u, ↓IG_u, ↓VGtt, ↓VGtf, ↓VGft, ↓VGff, ↓UGtt, ↓UGtf, ↓UGft, ↓UGff, ↓MGtt, ↓MGtf, ↓MGft, ↓MGff, ↓NGtt, ↓NGtf, ↓NGft, ↓NGff, ↓PGtt, ↓PGtf, ↓PGft, ↓PGff, ↓BGtt, ↓BGtf, ↓BGft, ↓BGff, ↓CGtt, ↓CGtf, ↓CGft, ↓CGff, ↓IGtt, ↓IGtf, ↓IGft, ↓IGff, ↓PKt, ↓PKf, ↓CDt, ↓CDf, ↓NOTt, ↓NOTf, ↓NK_ptr, ↓LTt c1]
    exact ⟨by first | trivial | rfl, hm1⟩
  simp only [↓VG_u, ↓UG_u, ↓MG_u, ↓NG_u, ↓PG_u, ↓BG_u, ↓CG_u, ↓IG_u, ↓VGtt, ↓VGtf, ↓VGft, ↓VGff, ↓UGtt, ↓UGtf, ↓UGft, ↓UGff, ↓MGtt, ↓MGtf, ↓MGft, ↓MGff, ↓NGtt, ↓NGtf, ↓NGft, ↓NGff, ↓PGtt, ↓PGtf, ↓PGft, ↓PGff, ↓BGtt, ↓BGtf, ↓BGft, ↓BGff, ↓CGtt, ↓CGtf, ↓CGft, ↓CGff, ↓IGtt, ↓IGtf, ↓IGft, ↓IGff, ↓PKt, ↓PKf, ↓CDt, ↓CDf, ↓NOTt, ↓NOTf, ↓NK_ptr, ↓LTf (show (1 : Int) ≤ (l.length : Int) by omega)]
  rw [ev, len_sl vLs, ← ev]
  by_cases c2 : (8 : Int) < (l.length : Int)
  · simp only [↓VG_u, ↓UG_u, ↓MG_u, ↓NG_u, ↓PG_u, ↓BG_u, ↓CG_u, ↓IG_u, ↓VGtt, ↓VGtf, ↓VGft, ↓VGff, ↓UGtt, ↓UGtf, ↓UGft, ↓UGff, ↓MGtt, ↓MGtf, ↓MGft, ↓MGff, ↓NGtt, ↓NGtf, ↓NGft, ↓NGff, ↓PGtt, ↓PGtf, ↓PGft, ↓PGff, ↓BGtt, ↓BGtf, ↓BGft, ↓BGff, ↓CGtt, ↓CGtf, ↓CGft, ↓CGff, ↓IGtt, ↓IGtf, ↓IGft, ↓IGff, ↓PKt, ↓PKf, ↓CDt, ↓CDf, ↓NOTt, ↓NOTf, ↓NK_ptr, ↓GTt c2]
    exact ⟨by first | trivial | rfl, hm1⟩
  simp only [↓VG_u, ↓UG_u, ↓MG_u, ↓NG_u, ↓PG_u, ↓BG_u, ↓CG_u, ↓IG_u, ↓VGtt, ↓VGtf, ↓VGft, ↓VGff, ↓UGtt, ↓UGtf, ↓UGft, ↓UGff, ↓MGtt, ↓MGtf, ↓MGft, ↓MGff, ↓NGtt, ↓NGtf, ↓NGft, ↓NGff, ↓PGtt, ↓PGtf, ↓PGft, ↓PGff, ↓BGtt, ↓BGtf, ↓BGft, ↓BGff, ↓CGtt, ↓CGtf, ↓CGft, ↓CGff, ↓IGtt, ↓IGtf, ↓IGft, ↓IGff, ↓PKt, ↓PKf, ↓CDt, ↓CDf, ↓NOTt, ↓NOTf, ↓NK_ptr, ↓GTf (show (l.length : Int) ≤ 8 by omega)]
  rw [conv_k (k := .i64) (by kernel_rfl) (by kernel_rfl), wrap_i (by omega) (by omega), ev, len_sl vLs, ← ev, BK_rem (by omega)]
  rw [ev, len_sl vLs, ← ev]
  obtain ⟨r, hrr⟩ : ∃ r, r = root.tmod (l.length : Int) := ⟨_, rfl⟩
  have hr0 : 0 ≤ r := by rw [hrr, Int.tmod_eq_emod_of_nonneg h0]; exact Int.emod_nonneg _ (by omega)
  have hr1 : r < l.length := by rw [hrr, Int.tmod_eq_emod_of_nonneg h0]; exact Int.emod_lt_of_pos _ (by omega)
  rw [← hrr]
  refine CK_st Tryd.func30 rfl rfl (ranks_ok (by omega) (by omega)) ?_
  rintro _ w2 ⟨rv, rfl, ho, hm2⟩
  obtain ⟨A', c', e', _⟩ := reads_cap (reads_of_owns ho)
  refine lcl_k (cs := #[strV [], rv]) zG _ iG rfl (by rw [e']; exact grp_one _ _ _ _) fun w3 hb3 hm3 hz3 => ?_
  have hm03 := (hm1.trans hm2).trans hm3
  refine CK_st Tryd.func11 rfl rfl (New_ok w3 loose) ?_
  rintro _ w4 ⟨p, V, rfl, hc, _, _, hnew, hm4⟩
  have hV : VsW w w4 p loose lv l r w2.heap.size rv 0 0 [] V := ⟨⟨hc, fun b hb => Nat.le_trans hm03.size (hnew b hb), hm03.trans hm4⟩, Vl.init _ _, hr, hm4.blk hb3 id, owns_base (owns_mod (owns_mod ho hm3 fun _ _ => id) hm4 fun _ _ => id) (Nat.zero_le _)⟩
  rw [dispatcherlaw15_CollValues_R0_eq]; unfold dispatcherlaw15_CollValues_R0_F
  refine vals_R1 (l := l) (hr.calm hV.cs.mod) (by omega) rfl ?_
  intro ρ5 w5 s5 z10 z11 z12 hm5
  rw [sq_n, dispatcherlaw15_CollValues_R2_eq]; unfold dispatcherlaw15_CollValues_R2_F
  refine vals_L3 (hV.calm hm5) hr0 hr1 (by omega) ⟨?_, ?_, ?_, ?_, rfl⟩ z10 z11 z12 ?_
  · exact (s5 0 (by decide)).trans rfl
  · exact (s5 7 (by decide)).trans rfl
  · exact (s5 8 (by decide)).trans rfl
  · exact (s5 9 (by decide)).trans rfl
  intro ρ6 w6 L6 V6 es6 y10 y11 y12 h6
  rw [bk_x, sq_n, dispatcherlaw15_CollValues_R4_eq]; unfold dispatcherlaw15_CollValues_R4_F
  obtain ⟨v0, l', rfl⟩ : ∃ v0 l', l = v0 :: l' := by
    cases l with
    | nil => simp at c1
    | cons a l' => exact ⟨a, l', rfl⟩
  obtain ⟨a0, a1, a2⟩ := acc_red (v := v0) (l := l') (hl v0 (List.mem_cons_self ..))
  refine vals_L8 hgl h6 hr0 hr1 (by omega) (by omega) ⟨?_, ?_, ?_, ?_, ?_, ?_, rfl⟩ ?_
  · exact es6.h0
  · exact es6.h7
  · exact es6.h9
  · rw [a0]; exact y10
  · rw [a1]; exact y11
  · rw [a2]; exact y12
  intro ρ7 w7 hm7
  rw [bk_x, sq_n, dispatcherlaw15_CollValues_R9_eq]; unfold dispatcherlaw15_CollValues_R9_F
  exact ⟨rfl, hm7⟩
end
end Go.Proofs.YtandbmnhghmcgaaDoor.Col
set_option linter.unusedVariables false
set_option maxRecDepth 8000
namespace Go.Proofs.YtandbmnhghmcgaaDoor.Col
open Go Go.X Go.RowKit
theorem opensLs (n : Nat) : OpensAt Tryd.prog n (Sh.slice (Sh.int .i64)) tLs := opens_slice vLs (by kernel_rfl) (fun m _ => opens_int vL)
theorem Ls_of {w : World} {x : Value × List Int} {cs : List Value} (h : (Sh.slice (Sh.int .i64)).K w x cs) : RR w x.1 x.2 ∧ ∀ v ∈ x.2, -9223372036854775808 ≤ v ∧ v ≤ 9223372036854775807 :=
  ⟨(RR_of h).2, fun v hv => by obtain ⟨d, hd⟩ := sh_mem h v hv; exact in64_of hd.2⟩
set_option maxRecDepth 100000 in
theorem u8_arg {W : World} {B : Nat} {v : Value} (h : Value.okWide Tryd.prog W .any B 5 v) : ∃ n, v = .int .u8 n ∧ 0 ≤ n ∧ n ≤ 255 := by
  simp only [Value.okWide, vU8, Cell.okWide] at h
  cases v <;> simp_all [Cell.ok, IntKind.has]
  have := h.2
  simp [IntKind.min, IntKind.max, IntKind.signed, IntKind.bits] at this
  omega
end Go.Proofs.YtandbmnhghmcgaaDoor.Col
