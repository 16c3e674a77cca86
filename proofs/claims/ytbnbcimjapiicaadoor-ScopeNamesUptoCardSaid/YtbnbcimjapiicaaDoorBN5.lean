/- Several texts of this repo, one behind the other, without what is not used here. -/
import Derived.Laws.IdiomStrings
import Derived.Test.YtbnbcimjapiicaaDoorProg
import Derived.Test.YtbnbcimjapiicaaDoorRows
import Derived.Test.YtbnbcimjapiicaaDoorBN4
set_option linter.unusedVariables false
set_option linter.unusedSimpArgs false
set_option maxRecDepth 4000
namespace Go.Proofs.YtbnbcimjapiicaaDoor.Tr
open Go Go.X Go.RowKit Go.Proofs.YtbnbcimjapiicaaDoor.XD Go.Proofs.YtbnbcimjapiicaaDoor.XK
theorem tk_fine {l : List Tk} (hG : Good l) (a : Nat) : (tkAt l a).text.length ≤ 20000 ∧ (Lit.int .i64 (tkAt l a).num).wf = true ∧ (Lit.int .i64 (tkAt l a).line).wf = true ∧ (Lit.int .i64 (tkAt l a).col).wf = true := by
  by_cases h : a < l.length
  · have hg := hG.all _ (List.mem_of_getElem? (tk_at h))
    unfold Tk.good at hg
    simp only [Bool.and_eq_true, decide_eq_true_eq] at hg
    exact ⟨hg.1.1.2, hg.2.1.1, hg.2.1.2, hg.2.2⟩
  · rw [tk_none (by omega)]
    exact ⟨by decide, by decide, by decide, by decide⟩
theorem two_wf (b : Bs) : (Lit.int .u8 (twoP b).1).wf = true := by
  have : ∀ l : List (Bs × Int × Nat), (∀ x ∈ l, (Lit.int .u8 x.2.1).wf = true) → (Lit.int .u8 (findT l b).1).wf = true := by
    intro l
    induction l with
    | nil => intro _; rfl
    | cons x r ih =>
      intro h
      obtain ⟨t, o, s⟩ := x
      rw [findT]
      split
      · exact h _ (List.mem_cons_self ..)
      · exact ih fun y hy => h y (List.mem_cons_of_mem _ hy)
  exact this twoL (by decide)
theorem bs_size {b : Bs} (h : b.length ≤ 20000) : (bs b).size ≤ maxLen := by unfold bs maxLen; simp [ByteArray.size]; omega
theorem bEx2 (a b : Int) : Tryd.prog.built 60 [(4, .int .i64 a), (5, .int .i64 b)] = some (Ex.mk 0 0 (bs []) nl [] a b).cells.toArray := by kernel_rfl
theorem bEx3 (o a b : Int) : Tryd.prog.built 60 [(0, .int .u8 o), (4, .int .i64 a), (5, .int .i64 b)] = some (Ex.mk o 0 (bs []) nl [] a b).cells.toArray := by kernel_rfl
theorem ex_cells_one {e : Ex} (h : e.s.oneCell' = true) : (e.cells.toArray.all (·.oneCell')) = true := by
  simp only [Ex.cells, List.all_toArray, List.all_cons, List.all_nil, h]
  rfl
theorem own_one {w : World} {e : Ex} (h : e.Own w tE) : (e.cells.toArray.all (·.oneCell')) = true := ex_one h.ok
theorem atom_own {w : World} {e : Ex} (hs : e.s = nl) (ha : e.args = []) (hf : e.fine) : e.Own w tE ∧ ∀ S, e.In S := by
  refine ⟨Ex.own_.2 ?_, fun S => Ex.in_.2 ?_⟩
  · rw [hs, ha]; exact ⟨owns_none _ _ _ _, hf, by simp⟩
  · rw [hs, ha]; exact ⟨fun k hk => by simp [nl, Value.ownBlock] at hk, by simp⟩
/-- What a read expression must be. -/
structure Got (w w' : World) (e : Ex) (pe : Ex) : Prop where
  er : e.er = pe
  own : e.Own w' tE
  in_ : e.In fun i => w.heap.size ≤ i
theorem Got.mod {w w1 w2 : World} {e pe : Ex} (h : Got w w1 e pe) {S : Nat → Prop} (hm : Mod S w1 w2) (hS : ∀ k, S k → k < w.heap.size) : Got w w2 e pe :=
  ⟨h.er, h.own.mod hm (h.in_.mono fun k hk q => by have := hS k q; omega), h.in_⟩
theorem Got.mod0 {w w1 w2 : World} {e pe : Ex} (h : Got w w1 e pe) (hm : Mod none_ w1 w2) : Got w w2 e pe := ⟨h.er, h.own.mod0 hm, h.in_⟩
theorem Got.low {w w0 w1 : World} {e pe : Ex} (h : Got w w1 e pe) (hs : w0.heap.size ≤ w.heap.size) : Got w0 w1 e pe := ⟨h.er, h.own, h.in_.mono fun k hk => by omega⟩
/-- Own blocks of the call's that are touched: new ones that the tree does not have. -/
theorem Got.at {w w1 w2 : World} {e pe : Ex} (h : Got w w1 e pe) {b : Nat} (hm : Mod (fun i => i = b) w1 w2) (hb : b < w.heap.size) : Got w w2 e pe := h.mod hm fun k q => by omega
/-- 'one': an expression with a part. -/
theorem one_ok {w : World} {e p : Ex} {op : Int} (hs : e.s = nl) (hf : e.fine) (ho : (Lit.int .u8 op).wf = true) (hp : p.Own w tE) : Rt Tryd.prog 116 #[.agg e.cells.toArray, .int .u8 op, .agg p.cells.toArray] w
    fun v w' => ∃ s', v = .agg (Ex.mk op e.num e.name s' [p] e.line e.col).cells.toArray ∧ (Ex.mk op e.num e.name s' [p] e.line e.col).Own w' tE ∧ (∀ k, s'.ownBlock = some k → w.heap.size ≤ k) ∧ Mod none_ w w' := by
  refine dispatcherref02_one_calls ?_
  unfold dispatcherref02_one_F
  refine box_k (cs := e.cells.toArray) rfl fun w1 hb1 hm1 hz1 => ?_
  refine box_k (cs := p.cells.toArray) rfl fun w2 hb2 hm2 hz2 => ?_
  refine al_k (cs := zExc.toArray) zEx rfl _ fun w3 hb3 hm3 hz3 => ?_
  have hb13 := hm3.blk (hm2.blk hb1 id) id
  have hb23 := hm3.blk hb2 id
  have hm03 := (hm1.trans hm2).trans hm3
  refine fst_k (off := 0) (by kernel_rfl) (by kernel_rfl) rfl hb13 (by simp [Ex.cells]) (cs' := (Ex.mk op e.num e.name nl [] e.line e.col).cells.toArray) (by rw [← hs]; rfl) fun x w4 h4 hm4 hz4 => ?_
  have hb24 := hm4.blk hb23 (by omega)
  have hb34 := hm4.blk hb3 (by omega)
  have hm04 := hm03.fresh hm4 (Nat.le_refl _)
  obtain ⟨f0, f1, f2, f3, f4, f5⟩ := ex_fo h4
  simp only [↓f3.e]
  refine ldS (cs := p.cells.toArray) rfl Tryd.underlying60 rfl iEx hb24 ?_
  refine snocEx (ExsOwn.nil w4 0) (hp.mod0 hm04) ((hp.mod0 hm04).lt.mono fun k hk => ⟨Nat.zero_le _, by simp [nl, Value.ownBlock]⟩) (by simp) (Nat.zero_le _) fun y v5 w5 hO5 hm5 hg5 => ?_
  have hm5' : Mod none_ w4 w5 := hm5.mono fun k _ q => by simp [nl, Value.ownBlock] at q
  have hm05 := hm04.trans hm5'
  refine fst_k (off := 3) (by kernel_rfl) (by kernel_rfl) (owns_slice hO5.row) (hm5'.blk h4 id) (by simp [Ex.cells]) (cs' := (Ex.mk op e.num e.name v5 [p] e.line e.col).cells.toArray) rfl fun x w6 h6 hm6 hz6 => ?_
  have hlow : ∀ k, v5.ownBlock = some k → w4.heap.size ≤ k := by
    intro k hk
    rcases hg5 with q | ⟨g, q, hg⟩
    · rw [q] at hk; simp [nl, Value.ownBlock] at hk
    · rw [q] at hk; cases hk; exact hg
  have hs4 : w.heap.size < w4.heap.size := by omega
  have hown : (Ex.mk op e.num e.name v5 [p] e.line e.col).Own w5 tE := by
    refine Ex.own_.2 ⟨hO5.row, ?_, hO5.own⟩
    exact ⟨ho, hf.2⟩
  have hmem := hO5.own p (by simp)
  have hrow6 : w6.ownsRow 0 tE 6 v5 1 ([p].flatMap Ex.cells) := owns_mod hO5.row hm6 fun k hk q => by have := hlow k hk; omega
  have hp6 : p.Own w6 tE := hmem.mod hm6 (hp.lt.mono fun k hk q => by omega)
  refine ldS (cs := (Ex.mk op e.num e.name v5 [p] e.line e.col).cells.toArray) rfl Tryd.underlying60 rfl iEx h6 ?_
  refine stS (old := zExc.toArray) (cs := (Ex.mk op e.num e.name v5 [p] e.line e.col).cells.toArray) rfl rfl iEx rfl (own_one hown) (hm6.blk (hm5'.blk hb34 id) (by omega)) fun w7 h7 hm7 hz7 => ?_
  have hs5 := hm5'.size
  refine rsCell (R := fun v w' => ∃ s', v = .agg (Ex.mk op e.num e.name s' [p] e.line e.col).cells.toArray ∧ (Ex.mk op e.num e.name s' [p] e.line e.col).Own w' tE ∧ (∀ k, s'.ownBlock = some k → w.heap.size ≤ k) ∧ Mod none_ w w') (cs := (Ex.mk op e.num e.name v5 [p] e.line e.col).cells.toArray) rfl Tryd.underlying60 rfl iEx h7 ⟨v5, rfl, ?_, fun k hk => by have := hlow k hk; omega, (hm05.fresh hm6 (Nat.le_refl _)).fresh hm7 (by omega)⟩
  refine Ex.own_.2 ⟨owns_mod hrow6 hm7 fun k hk q => by have := hlow k hk; omega, ⟨ho, hf.2⟩, fun a ha => ?_⟩
  rw [List.mem_singleton.1 ha]
  exact hp6.mod hm7 (hp.lt.mono fun k hk q => by omega)
end Go.Proofs.YtbnbcimjapiicaaDoor.Tr
set_option linter.unusedVariables false
set_option linter.unusedSimpArgs false
set_option maxRecDepth 4000
namespace Go.Proofs.YtbnbcimjapiicaaDoor.Tr
open Go Go.X Go.RowKit Go.Proofs.YtbnbcimjapiicaaDoor.XD Go.Proofs.YtbnbcimjapiicaaDoor.XK
section
variable {lv : Value} {l : List Tk} {c : Nat}
def ExprC (lv : Value) (l : List Tk) (c n : Nat) : Prop := ∀ (k a : Nat) (r : Ex × Nat), exprTk l n k a = some r → k ≤ 5 → ∀ w, PW w lv l c a →
  Rt Tryd.prog 105 #[pq c, .int .i64 (k : Int)] w fun v w' => ∃ e, v = .agg e.cells.toArray ∧ Got w w' e r.1 ∧ PW w' lv l c r.2 ∧ Mod (fun i => i = c) w w'
def SingleC (lv : Value) (l : List Tk) (c n : Nat) : Prop := ∀ (a : Nat) (r : Ex × Nat), singleP l n a = some r → ∀ w, PW w lv l c a →
  Rt Tryd.prog 113 #[pq c] w fun v w' => ∃ e, v = .agg e.cells.toArray ∧ Got w w' e r.1 ∧ PW w' lv l c r.2 ∧ Mod (fun i => i = c) w w'
/-- Three variables of a call's: a result's, a word's, an expression's. -/
structure Fr (lv : Value) (l : List Tk) (c : Nat) (w0 w : World) (b2 b3 b4 : Nat) (t : Tk) (e : Ex) (a : Nat) : Prop where
  h2 : w.heap[b2]? = some (.cells zExc.toArray tE (0, 0))
  h3 : w.heap[b3]? = some (.cells t.cells.toArray tT (0, 0))
  h4 : w.heap[b4]? = some (.cells e.cells.toArray tE (0, 0))
  pw : PW w lv l c a
  m : Mod (fun i => i = c) w0 w
  lo : w0.heap.size ≤ b2 ∧ b2 < b3 ∧ b3 < b4 ∧ c < w0.heap.size ∧ ∀ g, lv.ownBlock = some g → g < w0.heap.size
variable {w0 w w' : World} {b2 b3 b4 : Nat} {t : Tk} {e : Ex} {a : Nat}
theorem Fr.cur (h : Fr lv l c w0 w b2 b3 b4 t e a) {a' : Nat} (hm : Mod (fun i => i = c) w w') (hp : PW w' lv l c a') : Fr lv l c w0 w' b2 b3 b4 t e a' := by
  have := h.lo
  exact ⟨hm.blk h.h2 (by omega), hm.blk h.h3 (by omega), hm.blk h.h4 (by omega), hp, h.m.trans hm, h.lo⟩
theorem Fr.mod0 (h : Fr lv l c w0 w b2 b3 b4 t e a) (hm : Mod none_ w w') : Fr lv l c w0 w' b2 b3 b4 t e a := h.cur (up1 hm) (h.pw.mod0 hm)
theorem Fr.put (h : Fr lv l c w0 w b2 b3 b4 t e a) {e' : Ex} (hm : Mod (fun i => i = b4) w w') (hb : w'.heap[b4]? = some (.cells e'.cells.toArray tE (0, 0))) : Fr lv l c w0 w' b2 b3 b4 t e' a := by
  have := h.lo
  refine ⟨hm.blk h.h2 (by omega), hm.blk h.h3 (by omega), hb, h.pw.off hm fun k q => ?_, h.m.then hm fun i hi q => by omega, h.lo⟩
  refine ⟨by omega, fun g hg => ?_⟩
  have := h.lo.2.2.2.2 g hg
  omega
theorem Fr.ltw (h : Fr lv l c w0 w b2 b3 b4 t e a) : b4 < w.heap.size := blk_lt h.h4
/-- The expression's variable is what is told. -/
theorem Fr.ret (h : Fr lv l c w0 w b2 b3 b4 t e a) {pe : Ex} (hg : Got w0 w e pe) (hi : e.In fun k => b2 ≠ k) {R : Value → World → Prop} (hR : ∀ w', Got w0 w' e pe → PW w' lv l c a → Mod (fun i => i = c) w0 w' → R (.agg e.cells.toArray) w') :
    VK Tryd.prog (Instr.loadAt 60 (pq b4)) w fun x w => UK Tryd.prog (Instr.storeAt 60 (pq b2) x) w fun _ w => ∃ v, (do loadVar 60 (← asAddr (pq b2)) : Sem Value).run Tryd.prog w = .ok v w ∧ R v w := by
  have := h.lo
  refine ldS (cs := e.cells.toArray) rfl Tryd.underlying60 rfl iEx h.h4 ?_
  refine stS (old := zExc.toArray) (cs := e.cells.toArray) rfl rfl iEx rfl (own_one hg.own) h.h2 fun w1 h1 hm1 hz1 => ?_
  refine rsCell (R := R) (cs := e.cells.toArray) rfl Tryd.underlying60 rfl iEx h1 (hR _ ⟨hg.er, hg.own.mod hm1 (hi.mono fun k hk q => hk q.symm), hg.in_⟩ (h.pw.off hm1 fun k q => ?_) (h.m.then hm1 fun i hi q => by omega))
  refine ⟨by omega, fun g hg => ?_⟩
  have := h.lo.2.2.2.2 g hg
  omega
theorem fine_mk {op num line col : Int} {name : ByteArray} {s : Value} {es : List Ex} (h1 : (Lit.int .u8 op).wf = true) (h2 : (Lit.int .i64 num).wf = true) (h3 : name.size ≤ maxLen) (h4 : (Lit.int .i64 line).wf = true) (h5 : (Lit.int .i64 col).wf = true) : (Ex.mk op num name s es line col).fine := ⟨h1, h2, h3, h4, h5⟩
theorem Fr.retS (h : Fr lv l c w0 w b2 b3 b4 t e a) {pe : Ex} (hg : Got w0 w e pe) (hi : e.In fun k => b2 ≠ k) {R : Value → World → Prop} {ρ : Value → Sl} (hq : ∀ x, ρ x 2 = pq b2) (hR : ∀ w', Got w0 w' e pe → PW w' lv l c a → Mod (fun i => i = c) w0 w' → R (.agg e.cells.toArray) w') :
    VK Tryd.prog (Instr.loadAt 60 (pq b4)) w fun x w => UK Tryd.prog (Instr.storeAt 60 (pq b2) x) w fun _ w => resK Tryd.prog (ρ x) (fun vs w => R (packV vs) w) [ResultVar.cell 2 60] w := by
  have := h.ret hg hi hR
  refine ldS (cs := e.cells.toArray) rfl Tryd.underlying60 rfl iEx h.h4 ?_
  have lo := h.lo
  refine stS (old := zExc.toArray) (cs := e.cells.toArray) rfl rfl iEx rfl (own_one hg.own) h.h2 fun w1 h1 hm1 hz1 => ?_
  have hR1 := hR w1 ⟨hg.er, hg.own.mod hm1 (hi.mono fun k hk q => hk q.symm), hg.in_⟩ (h.pw.off hm1 fun k q => ⟨by omega, fun g hg => by have := lo.2.2.2.2 g hg; omega⟩) (h.m.then hm1 fun i hi q => by omega)
  exact rsCell (R := fun v w => R v w) (cs := e.cells.toArray) (hq _) Tryd.underlying60 rfl iEx h1 hR1
theorem need_some {a a' : Nat} {s : Bs} (h : needP l a s = some a') : mayP l a s = true ∧ a' = a + 1 := by
  unfold needP at h
  split at h
  · rename_i q; cases h; exact ⟨q, rfl⟩
  · cases h
theorem single_step (hG : Good l) {n : Nat} (hE : ExprC lv l c n) : SingleC lv l c (n + 1) := by
  intro a r hr w hw
  refine dispatcherref02_cursor_single_calls ?_
  unfold dispatcherref02_cursor_single_F
  refine al_k (cs := zExc.toArray) zEx rfl _ fun w1 hb1 hm1 hz1 => ?_
  refine CK_st Tryd.func83 rfl rfl (next_ok (hw.mod0 hm1) hG) ?_
  rintro _ w2 ⟨rfl, hm2⟩
  refine lcl_k (cs := (tkAt l a).cells.toArray) zTkg _ iTk rfl (tk_one _) fun w3 hb3 hm3 hz3 => ?_
  obtain ⟨k0, k1, k2, k3, k4⟩ := tk_fo hb3
  simp only [↓k3.e, ↓k4.e]
  rw [build_ok (bEx2 _ _)]
  refine lcl_k (cs := (Ex.mk 0 0 (bs []) nl [] (tkAt l a).line (tkAt l a).col).cells.toArray) zEx _ iEx rfl (ex_cells_one rfl) fun w4 hb4 hm4 hz4 => ?_
  have hs2 := hm2.size
  have hm14 := (hm2.trans hm3).trans hm4
  have hm04 := hm1.trans hm14
  have hF : Fr lv l c w w4 w.heap.size w2.heap.size w3.heap.size (tkAt l a) (Ex.mk 0 0 (bs []) nl [] (tkAt l a).line (tkAt l a).col) a :=
    ⟨hm14.blk hb1 id, hm4.blk hb3 id, hb4, hw.mod0 hm04, up1 hm04, Nat.le_refl _, by omega, by omega, blk_lt hw.cur, fun g hg => owns_lt hw.toks hg⟩
  generalize w3.heap.size = b4 at *
  generalize w2.heap.size = b3 at *
  obtain ⟨tf1, tf2, tf3, tf4⟩ := tk_fine hG a
  have hwl := hG.len
  refine CK_st Tryd.func87 rfl rfl (good_ok hF.pw) ?_
  rintro _ w5 ⟨rfl, rfl⟩
  obtain ⟨k0, k1, k2, k3, k4⟩ := tk_fo hF.h3
  rw [singleP] at hr
  by_cases hk0 : (tkAt l a).kind = 0
  · rw [if_pos hk0] at hr; cases hr
  rw [if_neg hk0] at hr
  have hal := kind_lt hk0
  by_cases hk2 : (tkAt l a).kind = 2
  · rw [if_pos hk2] at hr
    cases hr
    simp only [↓VG_u, ↓UG_u, ↓MG_u, ↓NG_u, ↓PG_u, ↓BG_u, ↓CG_u, ↓IG_u, ↓VGtt, ↓VGtf, ↓VGft, ↓VGff, ↓UGtt, ↓UGtf, ↓UGft, ↓UGff, ↓MGtt, ↓MGtf, ↓MGft, ↓MGff, ↓NGtt, ↓NGtf, ↓NGft, ↓NGff, ↓PGtt, ↓PGtf, ↓PGft, ↓PGff, ↓BGtt, ↓BGtf, ↓BGft, ↓BGff, ↓CGtt, ↓CGtf, ↓CGft, ↓CGff, ↓IGtt, ↓IGtf, ↓IGft, ↓IGff, ↓PKt, ↓PKf, ↓CDt, ↓CDf, ↓NOTt, ↓NOTf, ↓NK_ptr, ↓k0.e, ↓EQf hk0, ↓EQt hk2]
    refine adv2 hF.pw (by omega) fun x2 x3 x4 x6 w5 h5 hm5 hz5 => ?_
    have hF5 := hF.cur hm5 h5
    refine fst_k (off := 0) (by kernel_rfl) (by kernel_rfl) rfl hF5.h4 (by simp [Ex.cells]) (cs' := (Ex.mk 1 0 (bs []) nl [] (tkAt l a).line (tkAt l a).col).cells.toArray) rfl fun x w6 h6 hm6 hz6 => ?_
    have hF6 := hF5.put (e' := ⟨1, 0, bs [], nl, [], _, _⟩) hm6 h6
    obtain ⟨k0, k1, k2, k3, k4⟩ := tk_fo hF6.h3
    simp only [↓k2.e]
    refine fst_k (off := 1) (by kernel_rfl) (by kernel_rfl) rfl hF6.h4 (by simp [Ex.cells]) (cs' := (Ex.mk 1 (tkAt l a).num (bs []) nl [] (tkAt l a).line (tkAt l a).col).cells.toArray) rfl fun x w7 h7 hm7 hz7 => ?_
    have hF7 := hF6.put (e' := ⟨1, (tkAt l a).num, bs [], nl, [], _, _⟩) hm7 h7
    obtain ⟨ho, hi⟩ := atom_own (w := w7) (e := ⟨1, (tkAt l a).num, bs [], nl, [], (tkAt l a).line, (tkAt l a).col⟩) rfl rfl (fine_mk (by decide) tf2 (by decide) tf3 tf4)
    exact hF7.ret ⟨by rw [Ex.er_eq]; rfl, ho, hi _⟩ (hi _) fun w' hg hp hm => ⟨_, rfl, hg, hp, hm⟩
  rw [if_neg hk2] at hr
  by_cases hk1 : (tkAt l a).kind = 1
  · rw [if_pos hk1] at hr
    split at hr
    · cases hr
    · rename_i hmay
      cases hr
      have hmay : mayP l (a + 1) [91] = false := by simpa using hmay
      simp only [↓VG_u, ↓UG_u, ↓MG_u, ↓NG_u, ↓PG_u, ↓BG_u, ↓CG_u, ↓IG_u, ↓VGtt, ↓VGtf, ↓VGft, ↓VGff, ↓UGtt, ↓UGtf, ↓UGft, ↓UGff, ↓MGtt, ↓MGtf, ↓MGft, ↓MGff, ↓NGtt, ↓NGtf, ↓NGft, ↓NGff, ↓PGtt, ↓PGtf, ↓PGft, ↓PGff, ↓BGtt, ↓BGtf, ↓BGft, ↓BGff, ↓CGtt, ↓CGtf, ↓CGft, ↓CGff, ↓IGtt, ↓IGtf, ↓IGft, ↓IGff, ↓PKt, ↓PKf, ↓CDt, ↓CDf, ↓NOTt, ↓NOTf, ↓NK_ptr, ↓k0.e, ↓EQf hk0, ↓EQf hk2, ↓EQt hk1]
      refine adv2 hF.pw (by omega) fun x2 x3 x4 x6 w5 h5 hm5 hz5 => ?_
      have hF5 := hF.cur hm5 h5
      obtain ⟨k0, k1, k2, k3, k4⟩ := tk_fo hF5.h3
      simp only [↓k1.e]
      refine fst_k (off := 2) (by kernel_rfl) (by kernel_rfl) rfl hF5.h4 (by simp [Ex.cells]) (cs' := (Ex.mk 0 0 (bs (tkAt l a).text) nl [] (tkAt l a).line (tkAt l a).col).cells.toArray) rfl fun x w6 h6 hm6 hz6 => ?_
      have hF6 := hF5.put (e' := ⟨0, 0, bs (tkAt l a).text, nl, [], _, _⟩) hm6 h6
      refine CK_st Tryd.func82 rfl rfl (may_ok hF6.pw hG [91]) ?_
      rintro _ w7 ⟨rfl, h7, hm7⟩
      rw [hmay] at h7 ⊢
      have hF7 := hF6.cur hm7 h7
      simp only [↓VG_u, ↓UG_u, ↓MG_u, ↓NG_u, ↓PG_u, ↓BG_u, ↓CG_u, ↓IG_u, ↓VGtt, ↓VGtf, ↓VGft, ↓VGff, ↓UGtt, ↓UGtf, ↓UGft, ↓UGff, ↓MGtt, ↓MGtf, ↓MGft, ↓MGff, ↓NGtt, ↓NGtf, ↓NGft, ↓NGff, ↓PGtt, ↓PGtf, ↓PGft, ↓PGff, ↓BGtt, ↓BGtf, ↓BGft, ↓BGff, ↓CGtt, ↓CGtf, ↓CGft, ↓CGff, ↓IGtt, ↓IGtf, ↓IGft, ↓IGff, ↓PKt, ↓PKf, ↓CDt, ↓CDf, ↓NOTt, ↓NOTf, ↓NK_ptr]
      refine fst_k (off := 0) (by kernel_rfl) (by kernel_rfl) rfl hF7.h4 (by simp [Ex.cells]) (cs' := (Ex.mk 2 0 (bs (tkAt l a).text) nl [] (tkAt l a).line (tkAt l a).col).cells.toArray) rfl fun x w8 h8 hm8 hz8 => ?_
      have hF8 := hF7.put (e' := ⟨2, 0, bs (tkAt l a).text, nl, [], _, _⟩) hm8 h8
      obtain ⟨ho, hi⟩ := atom_own (w := w8) (e := ⟨2, 0, bs (tkAt l a).text, nl, [], (tkAt l a).line, (tkAt l a).col⟩) rfl rfl (fine_mk (by decide) (by decide) (bs_size tf1) tf3 tf4)
      exact hF8.ret ⟨by rw [Ex.er_eq]; rfl, ho, hi _⟩ (hi _) fun w' hg hp hm => ⟨_, rfl, hg, hp, hm⟩
  rw [if_neg hk1] at hr
  simp only [↓VG_u, ↓UG_u, ↓MG_u, ↓NG_u, ↓PG_u, ↓BG_u, ↓CG_u, ↓IG_u, ↓VGtt, ↓VGtf, ↓VGft, ↓VGff, ↓UGtt, ↓UGtf, ↓UGft, ↓UGff, ↓MGtt, ↓MGtf, ↓MGft, ↓MGff, ↓NGtt, ↓NGtf, ↓NGft, ↓NGff, ↓PGtt, ↓PGtf, ↓PGft, ↓PGff, ↓BGtt, ↓BGtf, ↓BGft, ↓BGff, ↓CGtt, ↓CGtf, ↓CGft, ↓CGff, ↓IGtt, ↓IGtf, ↓IGft, ↓IGff, ↓PKt, ↓PKf, ↓CDt, ↓CDf, ↓NOTt, ↓NOTf, ↓NK_ptr, ↓k0.e, ↓EQf hk0, ↓EQf hk2, ↓EQf hk1, ↓k1.e]
  refine CK_st Tryd.func101 rfl rfl (PlainR_ok (bs (tkAt l a).text) _) ?_
  rintro _ w5 ⟨rfl, rfl⟩
  cases hpl : plainP (bs (tkAt l a).text) with
  | true =>
    rw [if_pos hpl] at hr
    cases hr
    simp only [↓VG_u, ↓UG_u, ↓MG_u, ↓NG_u, ↓PG_u, ↓BG_u, ↓CG_u, ↓IG_u, ↓VGtt, ↓VGtf, ↓VGft, ↓VGff, ↓UGtt, ↓UGtf, ↓UGft, ↓UGff, ↓MGtt, ↓MGtf, ↓MGft, ↓MGff, ↓NGtt, ↓NGtf, ↓NGft, ↓NGff, ↓PGtt, ↓PGtf, ↓PGft, ↓PGff, ↓BGtt, ↓BGtf, ↓BGft, ↓BGff, ↓CGtt, ↓CGtf, ↓CGft, ↓CGff, ↓IGtt, ↓IGtf, ↓IGft, ↓IGff, ↓PKt, ↓PKf, ↓CDt, ↓CDf, ↓NOTt, ↓NOTf, ↓NK_ptr]
    refine adv2 hF.pw (by omega) fun x2 x3 x4 x6 w5 h5 hm5 hz5 => ?_
    have hF5 := hF.cur hm5 h5
    refine fst_k (off := 0) (by kernel_rfl) (by kernel_rfl) rfl hF5.h4 (by simp [Ex.cells]) (cs' := (Ex.mk 5 0 (bs []) nl [] (tkAt l a).line (tkAt l a).col).cells.toArray) rfl fun x w6 h6 hm6 hz6 => ?_
    have hF6 := hF5.put (e' := ⟨5, 0, bs [], nl, [], _, _⟩) hm6 h6
    obtain ⟨k0, k1, k2, k3, k4⟩ := tk_fo hF6.h3
    simp only [↓k1.e]
    refine fst_k (off := 2) (by kernel_rfl) (by kernel_rfl) rfl hF6.h4 (by simp [Ex.cells]) (cs' := (Ex.mk 5 0 (bs (tkAt l a).text) nl [] (tkAt l a).line (tkAt l a).col).cells.toArray) rfl fun x w7 h7 hm7 hz7 => ?_
    have hF7 := hF6.put (e' := ⟨5, 0, bs (tkAt l a).text, nl, [], _, _⟩) hm7 h7
    obtain ⟨ho, hi⟩ := atom_own (w := w7) (e := ⟨5, 0, bs (tkAt l a).text, nl, [], (tkAt l a).line, (tkAt l a).col⟩) rfl rfl (fine_mk (by decide) (by decide) (bs_size tf1) tf3 tf4)
    exact hF7.ret ⟨by rw [Ex.er_eq]; rfl, ho, hi _⟩ (hi _) fun w' hg hp hm => ⟨_, rfl, hg, hp, hm⟩
  | false =>
    rw [if_neg (by rw [hpl]; simp)] at hr
    simp only [↓VG_u, ↓UG_u, ↓MG_u, ↓NG_u, ↓PG_u, ↓BG_u, ↓CG_u, ↓IG_u, ↓VGtt, ↓VGtf, ↓VGft, ↓VGff, ↓UGtt, ↓UGtf, ↓UGft, ↓UGff, ↓MGtt, ↓MGtf, ↓MGft, ↓MGff, ↓NGtt, ↓NGtf, ↓NGft, ↓NGff, ↓PGtt, ↓PGtf, ↓PGft, ↓PGff, ↓BGtt, ↓BGtf, ↓BGft, ↓BGff, ↓CGtt, ↓CGtf, ↓CGft, ↓CGff, ↓IGtt, ↓IGtf, ↓IGft, ↓IGff, ↓PKt, ↓PKf, ↓CDt, ↓CDf, ↓NOTt, ↓NOTf, ↓NK_ptr]
    refine CK_st Tryd.func82 rfl rfl (may_ok hF.pw hG [114, 111, 119]) ?_
    rintro _ w5 ⟨rfl, h5, hm5⟩
    have hF5 := hF.cur hm5 h5
    cases hrow : mayP l a [114, 111, 119] with
    | true =>
      rw [hrow] at hF5 hr
      simp only [↓VG_u, ↓UG_u, ↓MG_u, ↓NG_u, ↓PG_u, ↓BG_u, ↓CG_u, ↓IG_u, ↓VGtt, ↓VGtf, ↓VGft, ↓VGff, ↓UGtt, ↓UGtf, ↓UGft, ↓UGff, ↓MGtt, ↓MGtf, ↓MGft, ↓MGff, ↓NGtt, ↓NGtf, ↓NGft, ↓NGff, ↓PGtt, ↓PGtf, ↓PGft, ↓PGff, ↓BGtt, ↓BGtf, ↓BGft, ↓BGff, ↓CGtt, ↓CGtf, ↓CGft, ↓CGff, ↓IGtt, ↓IGtf, ↓IGft, ↓IGff, ↓PKt, ↓PKf, ↓CDt, ↓CDf, ↓NOTt, ↓NOTf, ↓NK_ptr]
      simp only [if_true] at hr hF5
      rw [hrow] at h5
      cases hn1 : needP l (a + 1) [91] with
      | none => rw [hn1] at hr; cases hr
      | some a2 =>
        rw [hn1] at hr
        dsimp only at hr
        obtain ⟨hm1, rfl⟩ := need_some hn1
        cases he : exprTk l n 0 (a + 1 + 1) with
        | none => rw [he] at hr; cases hr
        | some q =>
          obtain ⟨e0, a3⟩ := q
          rw [he] at hr
          dsimp only at hr
          cases hn2 : needP l a3 [93] with
          | none => rw [hn2] at hr; cases hr
          | some a4 =>
            rw [hn2] at hr
            obtain ⟨hm2, rfl⟩ := need_some hn2
            cases hr
            refine CK_st Tryd.func86 rfl rfl (need_ok hF5.pw hG hm1) ?_
            rintro _ w6 ⟨h6, hm6⟩
            have hF6 := hF5.cur hm6 h6
            have lo := hF6.lo
            have fin : ∀ (ρ : Sl) (w9 : World) (e' : Ex), ρ 0 = pq c → ρ 4 = pq b4 → ρ 2 = pq w.heap.size → Fr lv l c w w9 w.heap.size b3 b4 (tkAt l a) e' a3 → Got w w9 e' ⟨4, 0, bs [], nl, [e0], (tkAt l a).line, (tkAt l a).col⟩ → (e'.In fun k => w.heap.size ≠ k) →
                sx fn_ Tryd.prog 118 dispatcherref02_cursor_single_R4 (blkK 0 (seqK (sx fn_ Tryd.prog 118 dispatcherref02_cursor_single_R2 (retK Tryd.prog [ResultVar.cell 2 60] fun v w' => ∃ e, v = .agg e.cells.toArray ∧ Got w w' e ⟨4, 0, bs [], nl, [e0], (tkAt l a).line, (tkAt l a).col⟩ ∧ PW w' lv l c (a3 + 1) ∧ Mod (fun i => i = c) w w')) (retK Tryd.prog [ResultVar.cell 2 60] fun v w' => ∃ e, v = .agg e.cells.toArray ∧ Got w w' e ⟨4, 0, bs [], nl, [e0], (tkAt l a).line, (tkAt l a).col⟩ ∧ PW w' lv l c (a3 + 1) ∧ Mod (fun i => i = c) w w'))) ρ w9 := by
              intro ρ w9 e' q0 q4 q2 hF9 hg hi
              rw [dispatcherref02_cursor_single_R4_eq]
              unfold dispatcherref02_cursor_single_R4_F
              rw [q0, q4, q2]
              refine CK_st Tryd.func86 rfl rfl (need_ok hF9.pw hG hm2) ?_
              rintro _ w10 ⟨h10, hm10⟩
              have hF10 := hF9.cur hm10 h10
              simp only [sq_n, sq_x, sq_r, bk_n, bk_r, bk_x, rt_r, rt_n, rs_0, rs_t, pk_1, pk_2, up_at, reduceIte, Nat.reduceEqDiff, q2]
              refine hF10.retS (hg.at hm10 lo.2.2.2.1) hi (R := fun v w' => ∃ e, v = .agg e.cells.toArray ∧ Got w w' e ⟨4, 0, bs [], nl, [e0], (tkAt l a).line, (tkAt l a).col⟩ ∧ PW w' lv l c (a3 + 1) ∧ Mod (fun i => i = c) w w') (fun x => ?_) fun w' hg hp hm => ⟨_, rfl, hg, hp, hm⟩
              exact q2
            refine dispatcherref02_cursor_single_R3_held (D := []) (fun _ => True) trivial ?_
            unfold dispatcherref02_cursor_single_R3_H
            simp only [sq_n, sq_x, sq_r, bk_n, bk_r, bk_x, rt_r, rt_n, rs_0, rs_t, pk_1, pk_2, up_at, reduceIte, Nat.reduceEqDiff]
            have hF6' : Fr lv l c w { w6 with drawn := w6.drawn + 1 } w.heap.size b3 b4 (tkAt l a) (Ex.mk 0 0 (bs []) nl [] (tkAt l a).line (tkAt l a).col) (a + 1 + 1) := hF6.mod0 ((Mod.refl _ w6).drawn _)
            have tail : ∀ (K : Value → World → Prop) (w7 : World) (e1 : Ex), Fr lv l c w w7 w.heap.size b3 b4 (tkAt l a) (Ex.mk 0 0 (bs []) nl [] (tkAt l a).line (tkAt l a).col) a3 → Got w6 w7 e1 e0 →
                (∀ w9 e', Fr lv l c w w9 w.heap.size b3 b4 (tkAt l a) e' a3 → Got w w9 e' ⟨4, 0, bs [], nl, [e0], (tkAt l a).line, (tkAt l a).col⟩ → (e'.In fun k => w.heap.size ≠ k) → ∀ x, K x w9) →
                CK Tryd.prog (.func (.func 116) #[] #[]) [.agg (Ex.mk 0 0 (bs []) nl [] (tkAt l a).line (tkAt l a).col).cells.toArray, .int .u8 4, .agg e1.cells.toArray] w7 fun x w => True ∧ (UK Tryd.prog (Instr.storeAt 60 (pq b4) x) w fun _ w => True ∧ K x w) := by
              intro K w7 e1 hF7 hg1 hK
              refine CK_st Tryd.func116 rfl rfl (one_ok (w := w7) (e := ⟨0, 0, bs [], nl, [], (tkAt l a).line, (tkAt l a).col⟩) (p := e1) (op := 4) rfl (fine_mk (by decide) (by decide) (by decide) tf3 tf4) (by decide) hg1.own) ?_
              rintro _ w8 ⟨s', rfl, ho8, hlo, hm8⟩
              have hF8 := hF7.mod0 hm8
              have hl6 := hF6.ltw
              have hl7 := hF7.ltw
              refine ⟨trivial, ?_⟩
              refine stS (old := (Ex.mk 0 0 (bs []) nl [] (tkAt l a).line (tkAt l a).col).cells.toArray) (cs := (Ex.mk 4 0 (bs []) s' [e1] (tkAt l a).line (tkAt l a).col).cells.toArray) rfl rfl iEx rfl (own_one ho8) hF8.h4 fun w9 h9 hm9 hz9 => ?_
              have hF9 := hF8.put (e' := ⟨4, 0, bs [], s', [e1], _, _⟩) hm9 h9
              have hin : (Ex.mk 4 0 (bs []) s' [e1] (tkAt l a).line (tkAt l a).col).In fun k => b4 < k := by
                refine Ex.in_.2 ⟨fun k hk => by have := hlo k hk; omega, fun a' ha' => ?_⟩
                rw [List.mem_singleton.1 ha']
                exact hg1.in_.mono fun k hk => by omega
              refine ⟨trivial, hK _ _ hF9 ⟨?_, ho8.mod hm9 (hin.mono fun k hk q => by omega), hin.mono fun k hk => by omega⟩ (hin.mono fun k hk => by omega) _⟩
              rw [Ex.er_eq]
              simp only [List.map_cons, List.map_nil, hg1.er]
              rfl
            constructor
            · refine ldS (cs := (Ex.mk 0 0 (bs []) nl [] (tkAt l a).line (tkAt l a).col).cells.toArray) rfl Tryd.underlying60 rfl iEx hF6'.h4 ⟨trivial, ?_⟩
              refine CK_st Tryd.func105 rfl rfl (hE 0 _ _ he (by omega) _ hF6'.pw) ?_
              rintro _ w7 ⟨e1, rfl, hg1, h7, hm7⟩
              refine ⟨trivial, tail _ w7 e1 (hF6'.cur hm7 h7) ⟨hg1.er, hg1.own, hg1.in_⟩ fun w9 e' hF9 hg9 hi9 x9 => ?_⟩
              exact fin _ _ _ rfl rfl rfl hF9 hg9 hi9
            · refine CK_st Tryd.func105 rfl rfl (hE 0 _ _ he (by omega) _ hF6'.pw) ?_
              rintro _ w7 ⟨e1, rfl, hg1, h7, hm7⟩
              have hF7 := hF6'.cur hm7 h7
              refine ⟨trivial, ldS (cs := (Ex.mk 0 0 (bs []) nl [] (tkAt l a).line (tkAt l a).col).cells.toArray) rfl Tryd.underlying60 rfl iEx hF7.h4 ⟨trivial, ?_⟩⟩
              refine tail _ w7 e1 hF7 ⟨hg1.er, hg1.own, hg1.in_⟩ fun w9 e' hF9 hg9 hi9 x9 => ?_
              exact fin _ _ _ rfl rfl rfl hF9 hg9 hi9
    | false =>
      rw [hrow] at hF5 hr
      simp only [↓VG_u, ↓UG_u, ↓MG_u, ↓NG_u, ↓PG_u, ↓BG_u, ↓CG_u, ↓IG_u, ↓VGtt, ↓VGtf, ↓VGft, ↓VGff, ↓UGtt, ↓UGtf, ↓UGft, ↓UGff, ↓MGtt, ↓MGtf, ↓MGft, ↓MGff, ↓NGtt, ↓NGtf, ↓NGft, ↓NGff, ↓PGtt, ↓PGtf, ↓PGft, ↓PGff, ↓BGtt, ↓BGtf, ↓BGft, ↓BGff, ↓CGtt, ↓CGtf, ↓CGft, ↓CGff, ↓IGtt, ↓IGtf, ↓IGft, ↓IGff, ↓PKt, ↓PKf, ↓CDt, ↓CDf, ↓NOTt, ↓NOTf, ↓NK_ptr]
      simp only [Bool.false_eq_true, if_false] at hr hF5
      by_cases hneg : mayP l a [45] = true ∨ mayP l a [33] = true
      · rw [if_pos hneg] at hr; cases hr
      rw [if_neg hneg] at hr
      have hn1 : mayP l a [45] = false := by cases hq : mayP l a [45] with | false => rfl | true => exact absurd (.inl hq) hneg
      have hn2 : mayP l a [33] = false := by cases hq : mayP l a [33] with | false => rfl | true => exact absurd (.inr hq) hneg
      refine CK_st Tryd.func82 rfl rfl (may_ok hF5.pw hG [45]) ?_
      rintro _ w6 ⟨rfl, h6, hm6⟩
      have hF6 := hF5.cur hm6 h6
      rw [hn1] at hF6 ⊢
      simp only [Bool.false_eq_true, if_false] at hF6
      simp only [↓VG_u, ↓UG_u, ↓MG_u, ↓NG_u, ↓PG_u, ↓BG_u, ↓CG_u, ↓IG_u, ↓VGtt, ↓VGtf, ↓VGft, ↓VGff, ↓UGtt, ↓UGtf, ↓UGft, ↓UGff, ↓MGtt, ↓MGtf, ↓MGft, ↓MGff, ↓NGtt, ↓NGtf, ↓NGft, ↓NGff, ↓PGtt, ↓PGtf, ↓PGft, ↓PGff, ↓BGtt, ↓BGtf, ↓BGft, ↓BGff, ↓CGtt, ↓CGtf, ↓CGft, ↓CGff, ↓IGtt, ↓IGtf, ↓IGft, ↓IGff, ↓PKt, ↓PKf, ↓CDt, ↓CDf, ↓NOTt, ↓NOTf, ↓NK_ptr]
      refine CK_st Tryd.func82 rfl rfl (may_ok hF6.pw hG [33]) ?_
      rintro _ w7 ⟨rfl, h7, hm7⟩
      have hF7 := hF6.cur hm7 h7
      rw [hn2] at hF7 ⊢
      simp only [Bool.false_eq_true, if_false] at hF7
      simp only [↓VG_u, ↓UG_u, ↓MG_u, ↓NG_u, ↓PG_u, ↓BG_u, ↓CG_u, ↓IG_u, ↓VGtt, ↓VGtf, ↓VGft, ↓VGff, ↓UGtt, ↓UGtf, ↓UGft, ↓UGff, ↓MGtt, ↓MGtf, ↓MGft, ↓MGff, ↓NGtt, ↓NGtf, ↓NGft, ↓NGff, ↓PGtt, ↓PGtf, ↓PGft, ↓PGff, ↓BGtt, ↓BGtf, ↓BGft, ↓BGff, ↓CGtt, ↓CGtf, ↓CGft, ↓CGff, ↓IGtt, ↓IGtf, ↓IGft, ↓IGff, ↓PKt, ↓PKf, ↓CDt, ↓CDf, ↓NOTt, ↓NOTf, ↓NK_ptr]
      refine CK_st Tryd.func82 rfl rfl (may_ok hF7.pw hG [40]) ?_
      rintro _ w8 ⟨rfl, h8, hm8⟩
      have hF8 := hF7.cur hm8 h8
      cases hpar : mayP l a [40] with
      | false => rw [hpar] at hr; simp at hr
      | true =>
        rw [hpar] at hF8 hr
        simp only [if_true] at hF8 hr
        simp only [↓VG_u, ↓UG_u, ↓MG_u, ↓NG_u, ↓PG_u, ↓BG_u, ↓CG_u, ↓IG_u, ↓VGtt, ↓VGtf, ↓VGft, ↓VGff, ↓UGtt, ↓UGtf, ↓UGft, ↓UGff, ↓MGtt, ↓MGtf, ↓MGft, ↓MGff, ↓NGtt, ↓NGtf, ↓NGft, ↓NGff, ↓PGtt, ↓PGtf, ↓PGft, ↓PGff, ↓BGtt, ↓BGtf, ↓BGft, ↓BGff, ↓CGtt, ↓CGtf, ↓CGft, ↓CGff, ↓IGtt, ↓IGtf, ↓IGft, ↓IGff, ↓PKt, ↓PKf, ↓CDt, ↓CDf, ↓NOTt, ↓NOTf, ↓NK_ptr]
        cases he : exprTk l n 0 (a + 1) with
        | none => rw [he] at hr; cases hr
        | some q =>
          obtain ⟨e0, a3⟩ := q
          rw [he] at hr
          dsimp only at hr
          cases hn3 : needP l a3 [41] with
          | none => rw [hn3] at hr; cases hr
          | some a4 =>
            rw [hn3] at hr
            obtain ⟨hm9, rfl⟩ := need_some hn3
            cases hr
            have lo := hF8.lo
            have hl8 := hF8.ltw
            refine CK_st Tryd.func105 rfl rfl (hE 0 _ _ he (by omega) _ hF8.pw) ?_
            rintro _ w9 ⟨e1, rfl, hg1, h9, hm9'⟩
            have hF9 := hF8.cur hm9' h9
            refine stS (old := (Ex.mk 0 0 (bs []) nl [] (tkAt l a).line (tkAt l a).col).cells.toArray) (cs := e1.cells.toArray) rfl rfl iEx rfl (own_one hg1.own) hF9.h4 fun w10 h10 hm10 hz10 => ?_
            have hF10 := hF9.put hm10 h10
            refine CK_st Tryd.func86 rfl rfl (need_ok hF10.pw hG hm9) ?_
            rintro _ w11 ⟨h11, hm11⟩
            have hF11 := hF10.cur hm11 h11
            refine hF11.ret (pe := e0) ?_ (hg1.in_.mono fun k hk => by omega) fun w' hg hp hm => ⟨_, rfl, hg, hp, hm⟩
            exact ((hg1.at hm10 (by omega)).at hm11 (by omega)).low (by omega)
end
end Go.Proofs.YtbnbcimjapiicaaDoor.Tr
set_option linter.unusedVariables false
set_option linter.unusedSimpArgs false
set_option maxRecDepth 4000
namespace Go.Proofs.YtbnbcimjapiicaaDoor.Tr
open Go Go.X Go.RowKit Go.Proofs.YtbnbcimjapiicaaDoor.XD Go.Proofs.YtbnbcimjapiicaaDoor.XK
section
variable {lv : Value} {l : List Tk} {c : Nat}
theorem retX {w0 w : World} {b4 b5 a' : Nat} {e pe : Ex} (h4 : w.heap[b4]? = some (.cells zExc.toArray tE (0, 0))) (h5 : w.heap[b5]? = some (.cells e.cells.toArray tE (0, 0))) (hg : Got w0 w e pe) (hi : e.In fun k => k ≠ b4) (hp : PW w lv l c a') (hm : Mod (fun i => i = c) w0 w) (hb : w0.heap.size ≤ b4) (hc : c < w0.heap.size) (hlo : ∀ g, lv.ownBlock = some g → g < w0.heap.size)
    {R : Value → World → Prop} {ρ : Value → Sl} (hq : ∀ x, ρ x 4 = pq b4) (hR : ∀ w', Got w0 w' e pe → PW w' lv l c a' → Mod (fun i => i = c) w0 w' → R (.agg e.cells.toArray) w') :
    VK Tryd.prog (Instr.loadAt 60 (pq b5)) w fun x w => UK Tryd.prog (Instr.storeAt 60 (pq b4) x) w fun _ w => resK Tryd.prog (ρ x) (fun vs w => R (packV vs) w) [ResultVar.cell 4 60] w := by
  refine ldS (cs := e.cells.toArray) rfl Tryd.underlying60 rfl iEx h5 ?_
  refine stS (old := zExc.toArray) (cs := e.cells.toArray) rfl rfl iEx rfl (own_one hg.own) h4 fun w1 h1 hm1 hz1 => ?_
  have hR1 := hR w1 ⟨hg.er, hg.own.mod hm1 hi, hg.in_⟩ (hp.off hm1 fun k q => ⟨by omega, fun g hg => by have := hlo g hg; omega⟩) (hm.then hm1 fun i hi q => by omega)
  exact rsCell (R := fun v w => R v w) (cs := e.cells.toArray) (hq _) Tryd.underlying60 rfl iEx h1 hR1
theorem expr_step (hG : Good l) {n : Nat} (hE : ∀ m, m ≤ n → ExprC lv l c m) (hS : SingleC lv l c n) : ExprC lv l c (n + 1) := by
  intro k a r hr hk w hw
  rw [exprTk] at hr
  refine dispatcherref02_cursor_expr_calls ?_
  unfold dispatcherref02_cursor_expr_F
  refine al_k (cs := zExc.toArray) zEx rfl _ fun w1 hb1 hm1 hz1 => ?_
  have hw1 := hw.mod0 hm1
  have hcw : c < w.heap.size := blk_lt hw.cur
  have hlo : ∀ g, lv.ownBlock = some g → g < w.heap.size := fun g hg => owns_lt hw.toks hg
  refine CK_st Tryd.func87 rfl rfl (good_ok hw1) ?_
  rintro _ w2 ⟨rfl, rfl⟩
  by_cases h4 : 4 < k
  · rw [if_pos h4] at hr
    simp only [↓VG_u, ↓UG_u, ↓MG_u, ↓NG_u, ↓PG_u, ↓BG_u, ↓CG_u, ↓IG_u, ↓VGtt, ↓VGtf, ↓VGft, ↓VGff, ↓UGtt, ↓UGtf, ↓UGft, ↓UGff, ↓MGtt, ↓MGtf, ↓MGft, ↓MGff, ↓NGtt, ↓NGtf, ↓NGft, ↓NGff, ↓PGtt, ↓PGtf, ↓PGft, ↓PGff, ↓BGtt, ↓BGtf, ↓BGft, ↓BGff, ↓CGtt, ↓CGtf, ↓CGft, ↓CGff, ↓IGtt, ↓IGtf, ↓IGft, ↓IGff, ↓PKt, ↓PKf, ↓CDt, ↓CDf, ↓NOTt, ↓NOTf, ↓NK_ptr, ↓GTt (show (4 : Int) < (k : Int) by omega)]
    refine CK_st Tryd.func113 rfl rfl (hS a r hr _ hw1) ?_
    rintro _ w3 ⟨e, rfl, hg, h3, hm3⟩
    refine stS (old := zExc.toArray) (cs := e.cells.toArray) rfl rfl iEx rfl (own_one hg.own) (hm3.blk hb1 (by omega)) fun w4 hb4 hm4 hz4 => ?_
    refine rsCell (R := fun v w' => ∃ e, v = .agg e.cells.toArray ∧ Got w w' e r.1 ∧ PW w' lv l c r.2 ∧ Mod (fun i => i = c) w w') (cs := e.cells.toArray) rfl Tryd.underlying60 rfl iEx hb4 ⟨e, rfl, ⟨hg.er, hg.own.mod hm4 (hg.in_.mono fun k hk q => by omega), hg.in_.mono fun k hk => by omega⟩, h3.off hm4 (fun k q => ⟨by omega, fun g hg => by have := hlo g hg; omega⟩), ((up1 hm1).trans hm3).then hm4 fun i hi q => by omega⟩
  · rw [if_neg h4] at hr
    cases he : exprTk l n (k + 1) a with
    | none => rw [he] at hr; cases hr
    | some q =>
      obtain ⟨e0, a2⟩ := q
      rw [he] at hr
      dsimp only at hr
      simp only [↓VG_u, ↓UG_u, ↓MG_u, ↓NG_u, ↓PG_u, ↓BG_u, ↓CG_u, ↓IG_u, ↓VGtt, ↓VGtf, ↓VGft, ↓VGff, ↓UGtt, ↓UGtf, ↓UGft, ↓UGff, ↓MGtt, ↓MGtf, ↓MGft, ↓MGff, ↓NGtt, ↓NGtf, ↓NGft, ↓NGff, ↓PGtt, ↓PGtf, ↓PGft, ↓PGff, ↓BGtt, ↓BGtf, ↓BGft, ↓BGff, ↓CGtt, ↓CGtf, ↓CGft, ↓CGff, ↓IGtt, ↓IGtf, ↓IGft, ↓IGff, ↓PKt, ↓PKf, ↓CDt, ↓CDf, ↓NOTt, ↓NOTf, ↓NK_ptr, ↓GTf (show (k : Int) ≤ 4 by omega)]
      refine BKadd (a := k) (b := 1) rfl rfl (by omega) (by omega) ?_
      rw [show ((k : Int) + 1) = ((k + 1 : Nat) : Int) by omega]
      refine CK_st Tryd.func105 rfl rfl (hE n (Nat.le_refl n) (k + 1) a _ he (by omega) _ hw1) ?_
      rintro _ w3 ⟨e1, rfl, hg1, h3, hm3⟩
      have hs3 := hm3.size
      have hb13 := hm3.blk hb1 (by omega)
      refine lcl_k (cs := e1.cells.toArray) zEx _ iEx rfl (own_one hg1.own) fun w4 hb4 hm4 hz4 => ?_
      have h4w := h3.mod0 hm4
      have hb14 := hm4.blk hb13 id
      have hm04 : Mod (fun i => i = c) w w4 := ((up1 hm1).trans hm3).trans (up1 hm4)
      obtain ⟨b5, hb5⟩ : ∃ b5, b5 = w3.heap.size := ⟨_, rfl⟩
      rw [← hb5] at hb4 hz4 ⊢
      have hin1 : e1.In fun k => w.heap.size ≤ k ∧ k ≠ w.heap.size ∧ k ≠ b5 := by
        refine (hg1.in_.and hg1.own.lt).mono fun k hk => ?_
        omega
      have hb5' : w.heap.size < b5 := by omega
      refine W_loopG dispatcherref02_cursor_expr_L0_ok (fun m ρ w' => ∃ (e pe : Ex) (a' : Nat), m ≤ n ∧ loopP l m k pe a' = some r ∧ ρ 0 = pq c ∧ ρ 1 = .int .i64 k ∧ ρ 4 = pq w.heap.size ∧ ρ 5 = pq b5 ∧ w'.heap[w.heap.size]? = some (.cells zExc.toArray tE (0, 0)) ∧ w'.heap[b5]? = some (.cells e.cells.toArray tE (0, 0)) ∧ Got w w' e pe ∧ (e.In fun k => k ≠ w.heap.size ∧ k ≠ b5) ∧ PW w' lv l c a' ∧ Mod (fun i => i = c) w w') n
        ⟨e1, e0, a2, Nat.le_refl n, hr, rfl, rfl, rfl, rfl, hb14, hb4, ⟨hg1.er, hg1.own.mod0 hm4, hin1.mono fun k hk => hk.1⟩, hin1.mono fun k hk => hk.2, h4w, hm04⟩ ?_
      rintro m ρ w5 ⟨e, pe, a', hmn, hl, q0, q1, q4, q5, c4, c5, hg, hi, hp, hm⟩
      rw [dispatcherref02_cursor_expr_L0_eq]
      unfold dispatcherref02_cursor_expr_L0_F
      rw [q0, q1, q4, q5]
      cases m with
      | zero => simp [loopP] at hl
      | succ m =>
      rw [loopP] at hl
      refine CK_st Tryd.func87 rfl rfl (good_ok hp) ?_
      rintro _ w6 ⟨rfl, rfl⟩
      refine condT ?_
      refine CK_st Tryd.func83 rfl rfl (next_ok hp hG) ?_
      rintro _ w7 ⟨rfl, hm7⟩
      refine lcl_k (cs := (tkAt l a').cells.toArray) zTkg _ iTk rfl (tk_one _) fun w8 hb8 hm8 hz8 => ?_
      have hm68 := hm7.trans hm8
      have hs0 := hm.size
      have hs7 := hm7.size
      have hb5w : b5 < w6.heap.size := blk_lt c5
      obtain ⟨k0, k1, k2, k3, k4⟩ := tk_fo hb8
      obtain ⟨b6, hb6⟩ : ∃ b6, b6 = w7.heap.size := ⟨_, rfl⟩
      rw [← hb6] at hb8 hz8 k0 k1 k2 k3 k4 ⊢
      simp only [↓k1.e]
      refine CK_st Tryd.func114 rfl rfl (Two_ok _ w8) ?_
      rintro _ w9 ⟨rfl, rfl⟩
      rw [extract_ok (v := .int .u8 (twoP (tkAt l a').text).1) rfl, extract_ok (v := .int .i64 (twoP (tkAt l a').text).2) rfl]
      have c48 := hm68.blk c4 id
      have c58 := hm68.blk c5 id
      have hp8 := hp.mod0 hm68
      have hg8 := hg.mod0 hm68
      have hm08 := hm.trans (up1 hm68)
      have stop : ∀ (K : Exit → Sl → World → Prop), r = (pe, a') → ∀ ρ' : Value → Sl, (∀ x, ρ' x 4 = pq w.heap.size) → VK Tryd.prog (Instr.loadAt 60 (pq b5)) w9 fun x w_1 => UK Tryd.prog (Instr.storeAt 60 (pq w.heap.size) x) w_1 fun _ w_2 => resK Tryd.prog (ρ' x) (fun vs w' => ∃ e, packV vs = .agg e.cells.toArray ∧ Got w w' e r.1 ∧ PW w' lv l c r.2 ∧ Mod (fun i => i = c) w w') [ResultVar.cell 4 60] w_2 := by
        intro K hre ρ' hq
        subst hre
        exact retX c48 c58 hg8 (hi.mono fun k hk => hk.1) hp8 hm08 (Nat.le_refl _) hcw hlo hq (R := fun v w' => ∃ e, v = .agg e.cells.toArray ∧ Got w w' e pe ∧ PW w' lv l c a' ∧ Mod (fun i => i = c) w w') fun w' hg hp hm => ⟨_, rfl, hg, hp, hm⟩
      by_cases hk0 : (tkAt l a').kind = 0
      · rw [if_pos (.inl hk0)] at hl
        cases hl
        simp only [↓VG_u, ↓UG_u, ↓MG_u, ↓NG_u, ↓PG_u, ↓BG_u, ↓CG_u, ↓IG_u, ↓VGtt, ↓VGtf, ↓VGft, ↓VGff, ↓UGtt, ↓UGtf, ↓UGft, ↓UGff, ↓MGtt, ↓MGtf, ↓MGft, ↓MGff, ↓NGtt, ↓NGtf, ↓NGft, ↓NGff, ↓PGtt, ↓PGtf, ↓PGft, ↓PGff, ↓BGtt, ↓BGtf, ↓BGft, ↓BGff, ↓CGtt, ↓CGtf, ↓CGft, ↓CGff, ↓IGtt, ↓IGtf, ↓IGft, ↓IGff, ↓PKt, ↓PKf, ↓CDt, ↓CDf, ↓NOTt, ↓NOTf, ↓NK_ptr, ↓k0.e, ↓EQt hk0]
        simp only [sq_n, sq_x, sq_r, bk_n, bk_r, bk_x, rt_r, rt_n, rs_0, rs_t, pk_1, pk_2, up_at, reduceIte, Nat.reduceEqDiff]
        exact stop (fun _ _ _ => True) rfl _ fun _ => q4
      by_cases ho0 : (twoP (tkAt l a').text).1 = 0
      · rw [if_pos (.inr (.inl ho0))] at hl
        cases hl
        simp only [↓VG_u, ↓UG_u, ↓MG_u, ↓NG_u, ↓PG_u, ↓BG_u, ↓CG_u, ↓IG_u, ↓VGtt, ↓VGtf, ↓VGft, ↓VGff, ↓UGtt, ↓UGtf, ↓UGft, ↓UGff, ↓MGtt, ↓MGtf, ↓MGft, ↓MGff, ↓NGtt, ↓NGtf, ↓NGft, ↓NGff, ↓PGtt, ↓PGtf, ↓PGft, ↓PGff, ↓BGtt, ↓BGtf, ↓BGft, ↓BGff, ↓CGtt, ↓CGtf, ↓CGft, ↓CGff, ↓IGtt, ↓IGtf, ↓IGft, ↓IGff, ↓PKt, ↓PKf, ↓CDt, ↓CDf, ↓NOTt, ↓NOTf, ↓NK_ptr, ↓k0.e, ↓EQf hk0, ↓EQt ho0]
        simp only [sq_n, sq_x, sq_r, bk_n, bk_r, bk_x, rt_r, rt_n, rs_0, rs_t, pk_1, pk_2, up_at, reduceIte, Nat.reduceEqDiff]
        exact stop (fun _ _ _ => True) rfl _ fun _ => q4
      by_cases hst : (twoP (tkAt l a').text).2 ≠ (k : Int)
      · rw [if_pos (.inr (.inr hst))] at hl
        cases hl
        simp only [↓VG_u, ↓UG_u, ↓MG_u, ↓NG_u, ↓PG_u, ↓BG_u, ↓CG_u, ↓IG_u, ↓VGtt, ↓VGtf, ↓VGft, ↓VGff, ↓UGtt, ↓UGtf, ↓UGft, ↓UGff, ↓MGtt, ↓MGtf, ↓MGft, ↓MGff, ↓NGtt, ↓NGtf, ↓NGft, ↓NGff, ↓PGtt, ↓PGtf, ↓PGft, ↓PGff, ↓BGtt, ↓BGtf, ↓BGft, ↓BGff, ↓CGtt, ↓CGtf, ↓CGft, ↓CGff, ↓IGtt, ↓IGtf, ↓IGft, ↓IGff, ↓PKt, ↓PKf, ↓CDt, ↓CDf, ↓NOTt, ↓NOTf, ↓NK_ptr, ↓k0.e, ↓EQf hk0, ↓EQf ho0, ↓NEt hst]
        simp only [sq_n, sq_x, sq_r, bk_n, bk_r, bk_x, rt_r, rt_n, rs_0, rs_t, pk_1, pk_2, up_at, reduceIte, Nat.reduceEqDiff]
        exact stop (fun _ _ _ => True) rfl _ fun _ => q4
      rw [if_neg (by simp only [hk0, ho0, hst, or_self, not_false_eq_true])] at hl
      have hst : (twoP (tkAt l a').text).2 = (k : Int) := by simpa using hst
      simp only [↓VG_u, ↓UG_u, ↓MG_u, ↓NG_u, ↓PG_u, ↓BG_u, ↓CG_u, ↓IG_u, ↓VGtt, ↓VGtf, ↓VGft, ↓VGff, ↓UGtt, ↓UGtf, ↓UGft, ↓UGff, ↓MGtt, ↓MGtf, ↓MGft, ↓MGff, ↓NGtt, ↓NGtf, ↓NGft, ↓NGff, ↓PGtt, ↓PGtf, ↓PGft, ↓PGff, ↓BGtt, ↓BGtf, ↓BGft, ↓BGff, ↓CGtt, ↓CGtf, ↓CGft, ↓CGff, ↓IGtt, ↓IGtf, ↓IGft, ↓IGff, ↓PKt, ↓PKf, ↓CDt, ↓CDf, ↓NOTt, ↓NOTf, ↓NK_ptr, ↓k0.e, ↓EQf hk0, ↓EQf ho0, ↓NEf hst]
      have hal := kind_lt hk0
      have hwl := hG.len
      refine adv2 hp8 (by omega) fun x2 x3 x4 x6 w10 h10 hm10 hz10 => ?_
      refine BKadd (a := k) (b := 1) rfl rfl (by omega) (by omega) ?_
      rw [show ((k : Int) + 1) = ((k + 1 : Nat) : Int) by omega]
      cases hee : exprTk l m (k + 1) (a' + 1) with
      | none => rw [hee] at hl; cases hl
      | some q =>
      obtain ⟨er, a3⟩ := q
      rw [hee] at hl
      dsimp only at hl
      refine CK_st Tryd.func105 rfl rfl (hE m (by omega) (k + 1) (a' + 1) _ hee (by omega) _ h10) ?_
      rintro _ w11 ⟨e2, rfl, hg2, h11, hm11⟩
      have hs8 : w6.heap.size < w9.heap.size := by omega
      have hs11 := hm11.size
      have hb8' := hm11.blk (hm10.blk hb8 (by omega)) (by omega)
      have c411 := hm11.blk (hm10.blk c48 (by omega)) (by omega)
      have c511 := hm11.blk (hm10.blk c58 (by omega)) (by omega)
      have hg11 := (hg8.at hm10 hcw).at hm11 hcw
      have hm011 := (hm08.trans hm10).trans hm11
      refine lcl_k (cs := e2.cells.toArray) zEx _ iEx rfl (own_one hg2.own) fun w12 hb12 hm12 hz12 => ?_
      obtain ⟨k0, k1, k2, k3, k4⟩ := tk_fo (hm12.blk hb8' id)
      simp only [↓k3.e, ↓k4.e]
      rw [build_ok (bEx3 _ _ _)]
      refine lcl_k (cs := (Ex.mk (twoP (tkAt l a').text).1 0 (bs []) nl [] (tkAt l a').line (tkAt l a').col).cells.toArray) zEx _ iEx rfl (ex_cells_one rfl) fun w13 hb13 hm13 hz13 => ?_
      have hm1113 := hm12.trans hm13
      have hb1213 := hm13.blk hb12 id
      have c413 := hm1113.blk c411 id
      have c513 := hm1113.blk c511 id
      obtain ⟨b9, hb9⟩ : ∃ b9, b9 = w11.heap.size := ⟨_, rfl⟩
      obtain ⟨b10, hb10⟩ : ∃ b10, b10 = w12.heap.size := ⟨_, rfl⟩
      rw [← hb10] at hb13 hz13 ⊢
      rw [← hb9] at hb12 hb1213 hz12 ⊢
      have hs12 := hm12.size
      obtain ⟨f0, f1, f2, f3, f4, f5⟩ := ex_fo hb13
      simp only [↓f3.e]
      refine ldS (cs := e.cells.toArray) rfl Tryd.underlying60 rfl iEx c513 ?_
      refine ldS (cs := e2.cells.toArray) rfl Tryd.underlying60 rfl iEx hb1213 ?_
      refine bs_k (cs := (e.cells ++ e2.cells).toArray) (by kernel_rfl) fun w14 hb14' hm14 hz14 => ?_
      have hg14 := (hg11.mod0 hm1113).mod0 hm14
      have hg214 := (hg2.mod0 hm1113).mod0 hm14
      refine appEx (m := [e, e2]) (ExsOwn.nil w14 0) (by simpa using reads_blk (size := 6) (n := 2) hb14' rfl) (by simp) ?_ (by simp) (Nat.zero_le _) fun v15 w15 hO15 hm15 hg15 => ?_
      · intro z hz
        have hnn : ∀ {z : Ex}, z.Own w14 tE → z.In fun k => 0 ≤ k ∧ some k ≠ (Value.slice none 0 0).ownBlock := fun h => h.lt.mono fun k _ => ⟨Nat.zero_le _, by simp [Value.ownBlock]⟩
        simp only [List.mem_cons, List.not_mem_nil, or_false] at hz
        rcases hz with rfl | rfl
        · exact ⟨hg14.own, hnn hg14.own⟩
        · exact ⟨hg214.own, hnn hg214.own⟩
      have hm15' : Mod none_ w14 w15 := hm15.mono fun k _ q => by simp [nl, Value.ownBlock] at q
      have hlow : ∀ k, v15.ownBlock = some k → w14.heap.size ≤ k := by
        intro k hk
        rcases hg15 with q | ⟨g, q, hg⟩
        · rw [q] at hk; simp [nl, Value.ownBlock] at hk
        · rw [q] at hk; cases hk; exact hg
      have hm1115 := (hm1113.trans hm14).trans hm15'
      obtain ⟨nu, hnu⟩ : ∃ nu : Ex, nu = ⟨(twoP (tkAt l a').text).1, 0, bs [], v15, [e, e2], (tkAt l a').line, (tkAt l a').col⟩ := ⟨_, rfl⟩
      refine fst_k (off := 3) (by kernel_rfl) (by kernel_rfl) (owns_slice hO15.row) ((hm14.trans hm15').blk hb13 id) (by simp [Ex.cells]) (cs' := nu.cells.toArray) (by rw [hnu]; rfl) fun x w16 h16 hm16 hz16 => ?_
      obtain ⟨tf1, tf2, tf3, tf4⟩ := tk_fine hG a'
      have hfine : nu.fine := by rw [hnu]; exact fine_mk (two_wf _) (by decide) (by decide) tf3 tf4
      have hown15 : nu.Own w15 tE := by rw [hnu]; exact Ex.own_.2 ⟨hO15.row, hnu ▸ hfine, hO15.own⟩
      have hi2 := hg2.in_
      have hs14 := hm14.size
      have hz14' : w14.heap.size = w13.heap.size + 1 := hz14
      have hinA : e.In fun k => w.heap.size ≤ k ∧ k ≠ w.heap.size ∧ k ≠ b5 ∧ k < b9 := ((hg.in_.and hi).and hg11.own.lt).mono fun k hk => by omega
      have hinB : e2.In fun k => b5 < k ∧ k < b9 := (hi2.and hg2.own.lt).mono fun k hk => by omega
      have hinN : nu.In fun k => w.heap.size ≤ k ∧ k ≠ w.heap.size ∧ k ≠ b5 ∧ k ≠ b10 := by
        rw [hnu]
        refine Ex.in_.2 ⟨fun k hk => by have := hlow k hk; omega, fun z hz => ?_⟩
        simp only [List.mem_cons, List.not_mem_nil, or_false] at hz
        rcases hz with rfl | rfl
        · exact hinA.mono fun k hk => by omega
        · exact hinB.mono fun k hk => by omega
      have hown16 := hown15.mod hm16 (hinN.mono fun k hk q => hk.2.2.2 q)
      refine ldS (cs := nu.cells.toArray) rfl Tryd.underlying60 rfl iEx h16 ?_
      have c516 := hm16.blk ((hm14.trans hm15').blk c513 id) (by omega)
      have c416 := hm16.blk ((hm14.trans hm15').blk c413 id) (by omega)
      refine stS (old := e.cells.toArray) (cs := nu.cells.toArray) rfl rfl iEx rfl (own_one hown16) c516 fun w17 h17 hm17 hz17 => ?_
      have c417 := hm17.blk c416 (by omega)
      have hown17 := hown16.mod hm17 (hinN.mono fun k hk q => hk.2.2.1 q)
      have hp17 : PW w17 lv l c a3 := ((h11.mod0 hm1115).off hm16 fun k q => ⟨by omega, fun g hg => by have := hlo g hg; omega⟩).off hm17 fun k q => ⟨by omega, fun g hg => by have := hlo g hg; omega⟩
      have hm017 : Mod (fun i => i = c) w w17 := ((hm011.trans (up1 hm1115)).then hm16 fun i hi q => by omega).then hm17 fun i hi q => by omega
      have hgN : Got w w17 nu ⟨(twoP (tkAt l a').text).1, 0, bs [], nl, [pe, er], (tkAt l a').line, (tkAt l a').col⟩ := by
        refine ⟨?_, hown17, hinN.mono fun k hk => hk.1⟩
        rw [hnu, Ex.er_eq]
        simp only [List.map_cons, List.map_nil, hg.er, hg2.er]
        rfl
      by_cases hk2 : k = 2
      · rw [if_pos hk2] at hl
        simp only [↓VG_u, ↓UG_u, ↓MG_u, ↓NG_u, ↓PG_u, ↓BG_u, ↓CG_u, ↓IG_u, ↓VGtt, ↓VGtf, ↓VGft, ↓VGff, ↓UGtt, ↓UGtf, ↓UGft, ↓UGff, ↓MGtt, ↓MGtf, ↓MGft, ↓MGff, ↓NGtt, ↓NGtf, ↓NGft, ↓NGff, ↓PGtt, ↓PGtf, ↓PGft, ↓PGff, ↓BGtt, ↓BGtf, ↓BGft, ↓BGff, ↓CGtt, ↓CGtf, ↓CGft, ↓CGff, ↓IGtt, ↓IGtf, ↓IGft, ↓IGff, ↓PKt, ↓PKf, ↓CDt, ↓CDf, ↓NOTt, ↓NOTf, ↓NK_ptr, ↓EQt (show (k : Int) = 2 by omega)]
        simp only [sq_n, sq_x, sq_r, bk_n, bk_r, bk_x, rt_r, rt_n, rs_0, rs_t, pk_1, pk_2, up_at, reduceIte, Nat.reduceEqDiff]
        cases hl
        exact retX c417 h17 hgN (hinN.mono fun k hk => hk.2.1) hp17 hm017 (Nat.le_refl _) hcw hlo (fun _ => q4) (R := fun v w' => ∃ e, v = .agg e.cells.toArray ∧ Got w w' e ⟨(twoP (tkAt l a').text).1, 0, bs [], nl, [pe, er], (tkAt l a').line, (tkAt l a').col⟩ ∧ PW w' lv l c a3 ∧ Mod (fun i => i = c) w w') fun w' hg hp hm => ⟨_, rfl, hg, hp, hm⟩
      · rw [if_neg hk2] at hl
        simp only [↓VG_u, ↓UG_u, ↓MG_u, ↓NG_u, ↓PG_u, ↓BG_u, ↓CG_u, ↓IG_u, ↓VGtt, ↓VGtf, ↓VGft, ↓VGff, ↓UGtt, ↓UGtf, ↓UGft, ↓UGff, ↓MGtt, ↓MGtf, ↓MGft, ↓MGff, ↓NGtt, ↓NGtf, ↓NGft, ↓NGff, ↓PGtt, ↓PGtf, ↓PGft, ↓PGff, ↓BGtt, ↓BGtf, ↓BGft, ↓BGff, ↓CGtt, ↓CGtf, ↓CGft, ↓CGff, ↓IGtt, ↓IGtf, ↓IGft, ↓IGff, ↓PKt, ↓PKf, ↓CDt, ↓CDf, ↓NOTt, ↓NOTf, ↓NK_ptr, ↓EQf (show (k : Int) ≠ 2 by omega)]
        exact ⟨m, Nat.lt_succ_self m, nu, _, a3, by omega, hl, q0, q1, q4, q5, c417, h17, hgN, hinN.mono fun k hk => ⟨hk.2.1, hk.2.2.1⟩, hp17, hm017⟩
theorem exprC_all (hG : Good l) : ∀ n, ExprC lv l c n ∧ SingleC lv l c n := by
  intro n
  induction n using Nat.strongRecOn with
  | ind n ih =>
    cases n with
    | zero => exact ⟨fun k a r h => by simp [exprTk] at h, fun a r h => by simp [singleP] at h⟩
    | succ n => exact ⟨expr_step hG (fun m hm => (ih m (by omega)).1) (ih n (by omega)).2, single_step hG (ih n (by omega)).1⟩
theorem expr_ok (hG : Good l) (n : Nat) : ExprC lv l c n := (exprC_all hG n).1
end
end Go.Proofs.YtbnbcimjapiicaaDoor.Tr
set_option linter.unusedVariables false
set_option linter.unusedSimpArgs false
set_option maxRecDepth 4000
namespace Go.X
open Go Go.RowKit
def St.withE (e : St) (v : Value) (x : List Ex) : St := { e with es := v, exprs := x }
/-- Rows lie in blocks of their own kind. -/
theorem Ex.Own.ne {w : World} {tE ty : TypeId} {b : Nat} {cs : Array Value} {fr : Nat × Nat} (hb : w.heap[b]? = some (.cells cs ty fr)) (hne : tE ≠ ty) : ∀ {e : Ex}, e.Own w tE → e.In fun k => k ≠ b := by
  intro e
  induction e using Ex.ind with
  | h e ih =>
    intro h
    obtain ⟨h1, h2, h3⟩ := Ex.own_.1 h
    exact Ex.in_.2 ⟨fun k hk q => owns_ne_blk h1 hb hne (by rw [hk, q]), fun a ha => ih a ha (h3 a ha)⟩
theorem St.Own.ne {w : World} {tE tS ty : TypeId} {b : Nat} {cs : Array Value} {fr : Nat × Nat} (hb : w.heap[b]? = some (.cells cs ty fr)) (hne : tE ≠ ty) (hns : tS ≠ ty) : ∀ {e : St}, e.Own w tE tS → e.In fun k => k ≠ b := by
  intro e
  induction e using St.ind with
  | h e ih1 ih2 =>
    intro h
    obtain ⟨⟨h1, h2⟩, ⟨h3, h4⟩, ⟨h5, h6⟩, h7⟩ := St.own_.1 h
    exact St.in_.2 ⟨⟨fun k hk q => owns_ne_blk h1 hb hne (by rw [hk, q]), fun a ha => (h2 a ha).ne hb hne⟩, ⟨fun k hk q => owns_ne_blk h3 hb hns (by rw [hk, q]), fun a ha => ih1 a ha (h4 a ha)⟩, fun k hk q => owns_ne_blk h5 hb hns (by rw [hk, q]), fun a ha => ih2 a ha (h6 a ha)⟩
end Go.X
namespace Go.Proofs.YtbnbcimjapiicaaDoor.Tr
open Go Go.X Go.RowKit Go.Proofs.YtbnbcimjapiicaaDoor.XD Go.Proofs.YtbnbcimjapiicaaDoor.XK
section
variable {lv : Value} {l : List Tk} {c : Nat}
theorem PW.off2 {w w' : World} {a : Nat} (h : PW w lv l c a) {S : Nat → Prop} (hm : Mod S w w') (h1 : ¬ S c) (h2 : ∀ k, lv.ownBlock = some k → ¬ S k) : PW w' lv l c a := ⟨owns_mod h.toks hm h2, hm.blk h.cur h1⟩
theorem ExsOwn.ne {w w' : World} {base : Nat} {v : Value} {l : List Ex} (h : ExsOwn w base v l) {b : Nat} (hm : Mod (fun i => i = b) w w') {cs : Array Value} {ty : TypeId} {fr : Nat × Nat} (hb : w.heap[b]? = some (.cells cs ty fr)) (hne : tE ≠ ty) : ExsOwn w' base v l :=
  ⟨owns_mod h.row hm fun k hk q => owns_ne_blk h.row hb hne (by rw [hk, q]), fun a ha => (h.own a ha).mod hm ((h.own a ha).ne hb hne), h.at_⟩
theorem StsOwn.ne {w w' : World} {base : Nat} {v : Value} {l : List St} (h : StsOwn w base v l) {b : Nat} (hm : Mod (fun i => i = b) w w') {cs : Array Value} {ty : TypeId} {fr : Nat × Nat} (hb : w.heap[b]? = some (.cells cs ty fr)) (hne : tE ≠ ty) (hns : tS ≠ ty) : StsOwn w' base v l :=
  ⟨owns_mod h.row hm fun k hk q => owns_ne_blk h.row hb hns (by rw [hk, q]), fun a ha => (h.own a ha).mod hm ((h.own a ha).ne hb hne hns), h.at_⟩
/-- 's.Exprs = append(s.Exprs, c.expr(0))', whatever comes first. -/
theorem addE (hG : Good l) {n a a' : Nat} {pe : Ex} (he : exprTk l n 0 a = some (pe, a')) {base : Nat} {w : World} {b : Nat} {e : St} (hb : w.heap[b]? = some (.cells e.cells.toArray tS (0, 0))) (hO : ExsOwn w base e.es e.exprs) (hp : PW w lv l c a) (hcb : c ≠ b)
    (hlen : e.exprs.length < 1099511627776) (hbase : base ≤ w.heap.size) {K1 K2 K3 : Value → Value → Value → Value → Value → Value → World → Prop}
    (hK : ∀ (w' : World) (x : Ex) (v' : Value), w'.heap[b]? = some (.cells (e.withE v' (e.exprs ++ [x])).cells.toArray tS (0, 0)) → ExsOwn w' base v' (e.exprs ++ [x]) → x.er = pe → PW w' lv l c a' → Mod (fun i => i = c ∨ i = b ∨ some i = e.es.ownBlock) w w' → ∀ x1 x2 x3 x4 x5 x6, K1 x1 x2 x3 x4 x5 x6 w' ∧ K2 x1 x2 x3 x4 x5 x6 w' ∧ K3 x1 x2 x3 x4 x5 x6 w') :
    HK Tryd.prog (fun _ => True) (do pure (Next.value (← Instr.fieldAt 62 (pq b) 5))) fun x26 => (VK Tryd.prog (Instr.loadAt 58 x26) w fun x27 w => True ∧ (CK Tryd.prog (.func (.func 105) #[] #[]) [pq c, .int .i64 0] w fun x29 w => True ∧ (VK Tryd.prog (Instr.buildSlice 58 1 [(0, x29)].toArray) w fun x30 w => True ∧ (IK Tryd.prog .append #[58, 58] 58 [false, false] [x27, x30] w fun x31 w => True ∧ (HK Tryd.prog (fun _ => True) (do pure (Next.value (← Instr.fieldAt 62 (pq b) 5))) fun x32 => UK Tryd.prog (Instr.storeAt 58 x32 x31) w fun _ w => True ∧ K1 x26 x27 x29 x30 x31 x32 w))))) ∧
      (CK Tryd.prog (.func (.func 105) #[] #[]) [pq c, .int .i64 0] w fun x29 w => True ∧ ((VK Tryd.prog (Instr.loadAt 58 x26) w fun x27 w => True ∧ (VK Tryd.prog (Instr.buildSlice 58 1 [(0, x29)].toArray) w fun x30 w => True ∧ (IK Tryd.prog .append #[58, 58] 58 [false, false] [x27, x30] w fun x31 w => True ∧ (HK Tryd.prog (fun _ => True) (do pure (Next.value (← Instr.fieldAt 62 (pq b) 5))) fun x32 => UK Tryd.prog (Instr.storeAt 58 x32 x31) w fun _ w => True ∧ K2 x26 x27 x29 x30 x31 x32 w)))) ∧
        (VK Tryd.prog (Instr.buildSlice 58 1 [(0, x29)].toArray) w fun x30 w => True ∧ (VK Tryd.prog (Instr.loadAt 58 x26) w fun x27 w => True ∧ (IK Tryd.prog .append #[58, 58] 58 [false, false] [x27, x30] w fun x31 w => True ∧ (HK Tryd.prog (fun _ => True) (do pure (Next.value (← Instr.fieldAt 62 (pq b) 5))) fun x32 => UK Tryd.prog (Instr.storeAt 58 x32 x31) w fun _ w => True ∧ K3 x26 x27 x29 x30 x31 x32 w)))))) := by
  refine HV_of (fun w' _ => run_fo (off := 5) (by kernel_rfl) _ w') ?_
  have hrow : ∀ k, e.es.ownBlock = some k → k ≠ b ∧ k ≠ c := fun k hk => ⟨fun q => owns_ne_blk hO.row hb (by decide) (by rw [hk, q]), fun q => owns_ne_blk hO.row hp.cur (by decide) (by rw [hk, q])⟩
  have htk : ∀ k, lv.ownBlock = some k → k ≠ b ∧ some k ≠ e.es.ownBlock := fun k hk => ⟨fun q => owns_ne_blk hp.toks hb (by decide) (by rw [hk, q]), fun q => owns_ne hp.toks hO.row (by decide) k hk q⟩
  have ld : ∀ {w' : World} {K : Value → World → Prop}, w'.heap[b]? = some (.cells e.cells.toArray tS (0, 0)) → K e.es w' → VK Tryd.prog (Instr.loadAt 58 (.pointer (some ((⟨b, 0, none⟩ : Addr).add 5)))) w' K := fun h hk => ld1 uExs rfl (by rw [add_pl, cell_blk h]; rfl) hk
  -- the expression is read
  have ex : ∀ {w' : World} (hm : Mod none_ w w') {K : Value → World → Prop}, (∀ (w2 : World) (x : Ex), x.er = pe → x.Own w2 tE → (x.In fun k => w'.heap.size ≤ k) → PW w2 lv l c a' → Mod (fun i => i = c) w' w2 → K (.agg x.cells.toArray) w2) → CK Tryd.prog (.func (.func 105) #[] #[]) [pq c, .int .i64 0] w' K := by
    intro w' hm K hk
    refine CK_st Tryd.func105 rfl rfl (expr_ok hG n 0 a _ he (by omega) w' (hp.mod0 hm)) ?_
    rintro _ w2 ⟨x, rfl, hg, h2, hm2⟩
    exact hk _ _ hg.er hg.own hg.in_ h2 hm2
  -- what follows
  have tail : ∀ {w2 w3 : World} {x : Ex} {y : Value} {K : Value → Value → World → Prop}, Mod (fun i => i = c) w w2 → Mod none_ w2 w3 → x.er = pe → x.Own w2 tE → (x.In fun k => w.heap.size ≤ k) → PW w2 lv l c a' → reads w3 6 y 1 x.cells →
      (∀ v' w', w'.heap[b]? = some (.cells (e.withE v' (e.exprs ++ [x])).cells.toArray tS (0, 0)) → ExsOwn w' base v' (e.exprs ++ [x]) → PW w' lv l c a' → Mod (fun i => i = c ∨ i = b ∨ some i = e.es.ownBlock) w w' → ∀ u, K v' u w') →
      IK Tryd.prog .append #[58, 58] 58 [false, false] [e.es, y] w3 fun x31 w => True ∧ (HK Tryd.prog (fun _ => True) (do pure (Next.value (← Instr.fieldAt 62 (pq b) 5))) fun x32 => UK Tryd.prog (Instr.storeAt 58 x32 x31) w fun _ w => True ∧ K x31 x32 w) := by
    intro w2 w3 x y K hm2 hm23 her hox hix h2 hy hk
    have hb2 := hm2.blk hb (fun q => hcb q.symm)
    have hb3 := hm23.blk hb2 id
    have hO2 := hO.ne hm2 hp.cur (by decide)
    have hO3 := hO2.mod0 hm23
    have hs2 := hm2.size
    have hs3 := hm23.size
    refine appEx (m := [x]) hO3 (by simpa using hy) (by simp) ?_ (by simp; omega) (by omega) fun v' w4 hO4 hm4 hg4 => ⟨trivial, HV_of (fun w' _ => run_fo (off := 5) (by kernel_rfl) _ w') ?_⟩
    · intro z hz
      rw [List.mem_singleton.1 hz]
      exact ⟨hox.mod0 hm23, hix.mono fun k hk => ⟨by omega, fun q => by have := owns_lt hO.row q.symm; omega⟩⟩
    · have hb4 := hm4.blk hb3 fun q => (hrow b q.symm).1 rfl
      have h4 : PW w4 lv l c a' := (h2.mod0 hm23).off2 hm4 (fun q => (hrow c q.symm).2 rfl) fun k hk q => (htk k hk).2 q
      refine stC (b := b) (o := 0 + 5) (by rw [add_pl]) (by kernel_rfl) (owns_slice hO4.row) hb4 (by simp [St.cells]) fun w5 hb5 hm5 hz5 => ⟨trivial, ?_⟩
      have hcs : e.cells.toArray.setIfInBounds (0 + 5) v' = (e.withE v' (e.exprs ++ [x])).cells.toArray := rfl
      rw [hcs] at hb5
      refine hk v' w5 hb5 (hO4.ne hm5 hb4 (by decide)) (h4.off2 hm5 hcb fun k hk q => (htk k hk).1 q) ?_ _
      exact (((hm2.mono fun _ _ q => Or.inl q).trans (up1 hm23)).trans (hm4.mono fun _ _ q => Or.inr (Or.inr q))).trans (hm5.mono fun _ _ q => Or.inr (Or.inl q))
  have rd : ∀ {w2 w3 : World} {x : Ex}, w3.heap[w2.heap.size]? = some (.cells x.cells.toArray (Tryd.prog.elem 58) (0, 0)) → reads w3 6 (.slice (some ⟨w2.heap.size, 0, none⟩) 1 1) 1 x.cells := fun h => by simpa using reads_blk (size := 6) (n := 1) h rfl
  constructor
  · refine ld hb ⟨trivial, ?_⟩
    refine ex (Mod.refl _ w) fun w2 x her hox hix h2 hm2 => ⟨trivial, ?_⟩
    refine bs_k (cs := x.cells.toArray) (by kernel_rfl) fun w3 h3 hm3 hz3 => ⟨trivial, ?_⟩
    exact tail hm2 hm3 her hox hix h2 (rd h3) fun v' w' hb' hO' hp' hm' u => (hK w' x v' hb' hO' her hp' hm' _ _ _ _ _ _).1
  · refine ex (Mod.refl _ w) fun w2 x her hox hix h2 hm2 => ⟨trivial, ?_⟩
    have hb2 := hm2.blk hb (fun q => hcb q.symm)
    constructor
    · refine ld hb2 ⟨trivial, ?_⟩
      refine bs_k (cs := x.cells.toArray) (by kernel_rfl) fun w3 h3 hm3 hz3 => ⟨trivial, ?_⟩
      exact tail hm2 hm3 her hox hix h2 (rd h3) fun v' w' hb' hO' hp' hm' u => (hK w' x v' hb' hO' her hp' hm' _ _ _ _ _ _).2.1
    · refine bs_k (cs := x.cells.toArray) (by kernel_rfl) fun w3 h3 hm3 hz3 => ⟨trivial, ?_⟩
      refine ld (hm3.blk hb2 id) ⟨trivial, ?_⟩
      exact tail hm2 hm3 her hox hix h2 (rd h3) fun v' w' hb' hO' hp' hm' u => (hK w' x v' hb' hO' her hp' hm' _ _ _ _ _ _).2.2
end
end Go.Proofs.YtbnbcimjapiicaaDoor.Tr
set_option linter.unusedVariables false
set_option linter.unusedSimpArgs false
set_option maxRecDepth 4000
namespace Go.Proofs.YtbnbcimjapiicaaDoor.Tr
open Go Go.X Go.RowKit Go.Proofs.YtbnbcimjapiicaaDoor.XD Go.Proofs.YtbnbcimjapiicaaDoor.XK
section
variable {lv : Value} {l : List Tk} {c : Nat}
theorem len_sls {A : Option Addr} {n cp : Nat} (cs : List Bool) {w : World} {K : Value → World → Prop} : IK Tryd.prog .len #[52] 3 cs [.slice A n cp] w K = K (.int .i64 n) w := len_sl uSs cs A n cp
theorem len_sle {A : Option Addr} {n cp : Nat} (cs : List Bool) {w : World} {K : Value → World → Prop} : IK Tryd.prog .len #[58] 3 cs [.slice A n cp] w K = K (.int .i64 n) w := len_sl uExs cs A n cp
theorem idx_no {b : Bs} : ∀ (r : List Bs) (n : Nat), idxP r b n = 0 ∨ ∃ i, i < r.length ∧ idxP r b n = n + i + 1
  | [], n => .inl rfl
  | t :: r, n => by
    rw [idxP]
    split
    · exact .inr ⟨0, by simp, by simp⟩
    · rcases idx_no r (n + 1) with h | ⟨i, hi, h⟩
      · exact .inl h
      · exact .inr ⟨i + 1, by simpa using hi, by rw [h]; omega⟩
theorem callK_rng (b : Bs) : 0 ≤ callK b ∧ callK b ≤ 22 := by
  unfold callK
  rcases idx_no callL 0 (b := b) with h | ⟨i, hi, h⟩
  · omega
  · have : callL.length = 22 := rfl
    omega
theorem Call_ok (b : Bs) (w : World) : Rt Tryd.prog 107 #[txt b] w fun v w' => v = .int .u8 (callK b) ∧ Mod none_ w w' := by
  refine dispatcherref02_Call_calls ?_
  unfold dispatcherref02_Call_F
  refine bs_k (cs := (callL.map txt).toArray) (by kernel_rfl) fun w1 hb1 hm1 hz1 => ?_
  have hr : reads w1 1 (.slice (some ⟨w.heap.size, 0, none⟩) 22 22) 22 (callL.map txt) := reads_blk hb1 rfl
  refine W_loopG dispatcherref02_Call_L0_ok (fun m ρ w' => ∃ n : Nat, n ≤ 22 ∧ m = 22 - n ∧ ρ 0 = txt b ∧ ρ 3 = .slice (some ⟨w.heap.size, 0, none⟩) 22 22 ∧ ρ 4 = .int .i64 n ∧ idxP (callL.drop n) b n = callK b ∧ w' = w1) 22 ⟨0, by omega, rfl, rfl, rfl, rfl, rfl, rfl⟩ ?_
  rintro m ρ w2 ⟨n, hn, rfl, q0, q3, q4, hi, rfl⟩
  rw [dispatcherref02_Call_L0_eq]
  unfold dispatcherref02_Call_L0_F
  rw [q0, q3, q4, len_sls]
  have hlen : callL.length = 22 := rfl
  by_cases hlt : n < 22
  · have hl' : n < callL.length := by omega
    obtain ⟨t, ht0⟩ : ∃ t, t = callL[n]'hl' := ⟨_, rfl⟩
    have hx : callL[n]? = some t := by rw [ht0]; exact List.getElem?_eq_getElem hl'
    simp only [↓VG_u, ↓UG_u, ↓MG_u, ↓NG_u, ↓PG_u, ↓BG_u, ↓CG_u, ↓IG_u, ↓VGtt, ↓VGtf, ↓VGft, ↓VGff, ↓UGtt, ↓UGtf, ↓UGft, ↓UGff, ↓MGtt, ↓MGtf, ↓MGft, ↓MGff, ↓NGtt, ↓NGtf, ↓NGft, ↓NGff, ↓PGtt, ↓PGtf, ↓PGft, ↓PGff, ↓BGtt, ↓BGtf, ↓BGft, ↓BGff, ↓CGtt, ↓CGtf, ↓CGft, ↓CGff, ↓IGtt, ↓IGtf, ↓IGft, ↓IGff, ↓PKt, ↓PKf, ↓CDt, ↓CDf, ↓NOTt, ↓NOTf, ↓NK_ptr, ↓LTt (show (n : Int) < ((22 : Nat) : Int) by omega)]
    refine ixld uSs cS uS rfl hr (by omega) (u := txt t) (by rw [Int.toNat_natCast, List.getElem?_map, hx]; rfl) fun x14 => ?_
    rw [List.drop_eq_getElem_cons hl', ← ht0, idxP] at hi
    split at hi
    · rename_i ht
      have heq : (⟨t.toArray⟩ : ByteArray) = ⟨b.toArray⟩ := by rw [ht]
      simp only [txt, ↓VG_u, ↓UG_u, ↓MG_u, ↓NG_u, ↓PG_u, ↓BG_u, ↓CG_u, ↓IG_u, ↓VGtt, ↓VGtf, ↓VGft, ↓VGff, ↓UGtt, ↓UGtf, ↓UGft, ↓UGff, ↓MGtt, ↓MGtf, ↓MGft, ↓MGff, ↓NGtt, ↓NGtf, ↓NGft, ↓NGff, ↓PGtt, ↓PGtf, ↓PGft, ↓PGff, ↓BGtt, ↓BGtf, ↓BGft, ↓BGff, ↓CGtt, ↓CGtf, ↓CGft, ↓CGff, ↓IGtt, ↓IGtf, ↓IGft, ↓IGff, ↓PKt, ↓PKf, ↓CDt, ↓CDf, ↓NOTt, ↓NOTf, ↓NK_ptr, ↓SEQt heq]
      refine BKadd (a := n) (b := 1) rfl rfl (by omega) (by omega) ?_
      rw [conv_i (k := .u8) (by kernel_rfl) (by kernel_rfl), IntWalk.u8_in _ (by omega)]
      exact ⟨by rw [← hi]; rfl, hm1⟩
    · rename_i ht
      have hne : (⟨t.toArray⟩ : ByteArray) ≠ ⟨b.toArray⟩ := fun q => ht (by have := congrArg (fun b => b.data.toList) q; simpa using this)
      simp only [txt, ↓VG_u, ↓UG_u, ↓MG_u, ↓NG_u, ↓PG_u, ↓BG_u, ↓CG_u, ↓IG_u, ↓VGtt, ↓VGtf, ↓VGft, ↓VGff, ↓UGtt, ↓UGtf, ↓UGft, ↓UGff, ↓MGtt, ↓MGtf, ↓MGft, ↓MGff, ↓NGtt, ↓NGtf, ↓NGft, ↓NGff, ↓PGtt, ↓PGtf, ↓PGft, ↓PGff, ↓BGtt, ↓BGtf, ↓BGft, ↓BGff, ↓CGtt, ↓CGtf, ↓CGft, ↓CGff, ↓IGtt, ↓IGtf, ↓IGft, ↓IGff, ↓PKt, ↓PKf, ↓CDt, ↓CDf, ↓NOTt, ↓NOTf, ↓NK_ptr, ↓SEQf hne]
      refine BKadd (a := n) (b := 1) rfl rfl (by omega) (by omega) ?_
      exact ⟨22 - (n + 1), by omega, n + 1, hlt, rfl, q0, q3, rfl, hi, rfl⟩
  · simp only [↓VG_u, ↓UG_u, ↓MG_u, ↓NG_u, ↓PG_u, ↓BG_u, ↓CG_u, ↓IG_u, ↓VGtt, ↓VGtf, ↓VGft, ↓VGff, ↓UGtt, ↓UGtf, ↓UGft, ↓UGff, ↓MGtt, ↓MGtf, ↓MGft, ↓MGff, ↓NGtt, ↓NGtf, ↓NGft, ↓NGff, ↓PGtt, ↓PGtf, ↓PGft, ↓PGff, ↓BGtt, ↓BGtf, ↓BGft, ↓BGff, ↓CGtt, ↓CGtf, ↓CGft, ↓CGff, ↓IGtt, ↓IGtf, ↓IGft, ↓IGff, ↓PKt, ↓PKf, ↓CDt, ↓CDf, ↓NOTt, ↓NOTf, ↓NK_ptr, ↓LTf (show (((22 : Nat) : Int)) ≤ (n : Int) by omega)]
    obtain rfl : n = 22 := by omega
    rw [sq_x, bk_x, sq_n, dispatcherref02_Call_R1_eq]
    unfold dispatcherref02_Call_R1_F
    rw [List.drop_of_length_le (by omega)] at hi
    exact ⟨by rw [← hi]; rfl, hm1⟩
theorem aggS (w : World) : (isAgg 9).run Tryd.prog w = .ok false w := by
  unfold isAgg
  rw [Sem.run_bind, run_underlying uS w]
  rfl
theorem fldTk {w : World} {K : Value → World → Prop} (t : Tk) : VK Tryd.prog (Instr.field 109 (.agg t.cells.toArray) 1) w K = K (txt t.text) w := by
  refine VK_eq_of ?_
  unfold Instr.field
  simp [Sem.run_bind, run_underlying Tryd.underlying109, part, aggS, Tk.cells, asAgg]
end
end Go.Proofs.YtbnbcimjapiicaaDoor.Tr
set_option linter.unusedVariables false
set_option linter.unusedSimpArgs false
set_option maxRecDepth 4000
namespace Go.Proofs.YtbnbcimjapiicaaDoor.Tr
open Go Go.X Go.RowKit Go.Proofs.YtbnbcimjapiicaaDoor.XD Go.Proofs.YtbnbcimjapiicaaDoor.XK
theorem st_cells_one {e : St} (h1 : e.es.oneCell' = true) (h2 : e.bs.oneCell' = true) (h3 : e.ls.oneCell' = true) : (e.cells.toArray.all (·.oneCell')) = true := by
  simp only [St.cells, List.all_toArray, List.all_cons, List.all_nil, h1, h2, h3]
  rfl
section
variable {lv : Value} {l : List Tk} {c : Nat}
theorem callR3_W (z : Go.X.At) (K : Exit → Sl → World → Prop) (ρ : Sl) (w : World) : sx z Tryd.prog 84 dispatcherref02_cursor_call_R3 K ρ w = W z Tryd.prog 84 dispatcherref02_cursor_call_R3 K ρ w := by kernel_rfl
theorem call_ok (hG : Good l) {s : St} {n a a' : Nat} {res : List Ex} (hr : callP l n s.kind a = some (res, a')) (hs : s.es = nl) (hx : s.exprs = []) (hbs : s.bs = nl) (hls : s.ls = nl) {w : World} (hw : PW w lv l c a) :
    Rt Tryd.prog 108 #[pq c, .agg s.cells.toArray] w fun v w' => ∃ v' xs, v = .agg (s.withE v' xs).cells.toArray ∧ xs.map Ex.er = res ∧ ExsOwn w' w.heap.size v' xs ∧ PW w' lv l c a' ∧ Mod (fun i => i = c) w w' := by
  unfold callP at hr
  cases hn1 : needP l a [40] with
  | none => rw [hn1] at hr; cases hr
  | some a1 =>
  rw [hn1] at hr
  dsimp only at hr
  obtain ⟨hm1, rfl⟩ := need_some hn1
  cases hl : argsLoop l n (argsP s.kind).1 (argsP s.kind).2 10 [] (a + 1) with
  | none => rw [hl] at hr; cases hr
  | some q =>
  obtain ⟨res', a2⟩ := q
  rw [hl] at hr
  dsimp only at hr
  split at hr
  · cases hr
  rename_i hred
  have hred : redsP s.kind = false := by simpa using hred
  cases hn2 : needP l a2 [41] with
  | none => rw [hn2] at hr; cases hr
  | some a3 =>
  rw [hn2] at hr
  obtain ⟨hm2, rfl⟩ := need_some hn2
  cases hr
  refine dispatcherref02_cursor_call_calls ?_
  unfold dispatcherref02_cursor_call_F
  refine box_k (cs := s.cells.toArray) rfl fun w1 hb1 hmm1 hz1 => ?_
  refine al_k (cs := zStc.toArray) zSt rfl _ fun w2 hb2 hmm2 hz2 => ?_
  have hb12 := hmm2.blk hb1 id
  have hmm02 := hmm1.trans hmm2
  have hcw : c < w.heap.size := blk_lt hw.cur
  have hlo : ∀ g, lv.ownBlock = some g → g < w.heap.size := fun g hg => owns_lt hw.toks hg
  obtain ⟨b3, hb3⟩ : ∃ b3, b3 = w.heap.size := ⟨_, rfl⟩
  obtain ⟨b4, hb4⟩ : ∃ b4, b4 = w1.heap.size := ⟨_, rfl⟩
  have hb34 : b4 = b3 + 1 := by omega
  rw [← hb3] at hb1 hb12 ⊢
  rw [← hb4] at hb2 hz2 ⊢
  obtain ⟨f0, f1, f2, f3, f4, f5, _⟩ := st_fo hb12
  simp only [↓f1.e]
  refine CK_st Tryd.func77 rfl rfl (ArgsR_ok s.kind w2) ?_
  rintro _ w3 ⟨rfl, rfl⟩
  rw [extract_ok (v := .int .i64 ((argsP s.kind).1 : Int)) rfl, extract_ok (v := .int .i64 ((argsP s.kind).2 : Int)) rfl]
  simp only [↓f1.e]
  refine CK_st Tryd.func77 rfl rfl (ArgsR_ok s.kind w3) ?_
  rintro _ w4 ⟨rfl, rfl⟩
  rw [extract_ok (v := .int .i64 ((argsP s.kind).1 : Int)) rfl, extract_ok (v := .int .i64 ((argsP s.kind).2 : Int)) rfl]
  refine CK_st Tryd.func86 rfl rfl (need_ok (hw.mod0 hmm02) hG hm1) ?_
  rintro _ w5 ⟨h5, hm5⟩
  have c3 := hm5.blk hb12 (by omega)
  have c4 := hm5.blk hb2 (by omega)
  have hmost : (argsP s.kind).2 ≤ 8 := by unfold argsP; (repeat' split) <;> decide
  have hm05 : Mod (fun i => i = c) w w5 := (up1 hmm02).trans hm5
  have hsw : s.withE nl [] = s := by cases s; simp only at hs hx; subst hs hx; rfl
  -- behind the arguments
  have fin : ∀ (ρ : Sl) (w9 : World) (v' : Value) (xs : List Ex), ρ 0 = pq c → ρ 3 = pq b3 → ρ 4 = pq b4 → w9.heap[b3]? = some (.cells (s.withE v' xs).cells.toArray tS (0, 0)) → w9.heap[b4]? = some (.cells zStc.toArray tS (0, 0)) → ExsOwn w9 b3 v' xs → xs.map Ex.er = res → PW w9 lv l c a2 → Mod (fun i => i = c) w w9 →
      sx fn_ Tryd.prog 84 dispatcherref02_cursor_call_R0 (retK Tryd.prog [ResultVar.cell 4 62] fun v w' => ∃ v' xs, v = .agg (s.withE v' xs).cells.toArray ∧ xs.map Ex.er = res ∧ ExsOwn w' b3 v' xs ∧ PW w' lv l c (a2 + 1) ∧ Mod (fun i => i = c) w w') ρ w9 := by
    intro ρ w9 v' xs q0 q3 q4 h3 h4 hO her hp hm
    rw [dispatcherref02_cursor_call_R0_eq]
    unfold dispatcherref02_cursor_call_R0_F
    rw [q0, q3]
    obtain ⟨f0, f1, f2, f3, f4, f5, _⟩ := st_fo h3
    simp only [↓f1.e]
    refine CK_st Tryd.func99 rfl rfl (Reduces_ok _ w9) ?_
    rintro _ w9 ⟨rfl, rfl⟩
    rw [show redsP (s.withE v' xs).kind = false from hred]
    refine condF ?_
    rw [dispatcherref02_cursor_call_R2_eq]
    unfold dispatcherref02_cursor_call_R2_F
    simp only [sq_n, sq_x, sq_r, bk_n, bk_r, bk_x, rt_r, rt_n, rs_0, rs_t, pk_1, pk_2, up_at, reduceIte, Nat.reduceEqDiff, q0, q3, q4]
    refine CK_st Tryd.func86 rfl rfl (need_ok hp hG hm2) ?_
    rintro _ w10 ⟨h10, hm10⟩
    have h310 := hm10.blk h3 (by omega)
    have h410 := hm10.blk h4 (by omega)
    have hO10 := hO.ne hm10 hp.cur (by decide)
    refine ldS (cs := (s.withE v' xs).cells.toArray) rfl Tryd.underlying62 rfl iSt h310 ?_
    have hone : ((s.withE v' xs).cells.toArray.all (·.oneCell')) = true := st_cells_one (owns_slice hO10.row) (by show s.bs.oneCell' = true; rw [hbs]; rfl) (by show s.ls.oneCell' = true; rw [hls]; rfl)
    refine stS (old := zStc.toArray) (cs := (s.withE v' xs).cells.toArray) rfl rfl iSt rfl hone h410 fun w11 h11 hm11 hz11 => ?_
    refine rsCell (R := fun v w' => ∃ v' xs, v = .agg (s.withE v' xs).cells.toArray ∧ xs.map Ex.er = res ∧ ExsOwn w' b3 v' xs ∧ PW w' lv l c (a2 + 1) ∧ Mod (fun i => i = c) w w') (cs := (s.withE v' xs).cells.toArray) q4 Tryd.underlying62 rfl iSt h11 ⟨v', xs, rfl, her, hO10.ne hm11 h410 (by decide), h10.off hm11 (fun k q => ⟨by omega, fun g hg => by have := hlo g hg; omega⟩), (hm.trans hm10).then hm11 fun i hi q => by omega⟩
  refine W_loopG dispatcherref02_cursor_call_L1_ok (fun m ρ w' => ∃ (v' : Value) (xs : List Ex) (a5 : Nat), argsLoop l n (argsP s.kind).1 (argsP s.kind).2 m (xs.map Ex.er) a5 = some (res, a2) ∧ ρ 0 = pq c ∧ ρ 3 = pq b3 ∧ ρ 4 = pq b4 ∧ ρ 6 = .int .i64 ((argsP s.kind).2 : Int) ∧ ρ 7 = .int .i64 ((argsP s.kind).1 : Int) ∧ w'.heap[b3]? = some (.cells (s.withE v' xs).cells.toArray tS (0, 0)) ∧ w'.heap[b4]? = some (.cells zStc.toArray tS (0, 0)) ∧ ExsOwn w' b3 v' xs ∧ PW w' lv l c a5 ∧ Mod (fun i => i = c) w w') 10
    ⟨nl, [], a + 1, hl, rfl, rfl, rfl, rfl, rfl, by rw [hsw]; exact c3, c4, ExsOwn.nil _ _, h5, hm05⟩ ?_
  rintro m ρ w6 ⟨v', xs, a5, hal, q0, q3, q4, q6, q7, d3, d4, hO, hp, hm⟩
  cases m with
  | zero => simp [argsLoop] at hal
  | succ m =>
  rw [argsLoop, List.length_map] at hal
  rw [dispatcherref02_cursor_call_L1_eq]
  unfold dispatcherref02_cursor_call_L1_F
  rw [q0, q3, q6, q7]
  obtain ⟨A, cp, hv', _⟩ := reads_cap hO.ok.1
  refine CK_st Tryd.func87 rfl rfl (good_ok hp) ?_
  rintro _ w7 ⟨rfl, rfl⟩
  have g5 : ∀ {w' : World}, w'.heap[b3]? = some (.cells (s.withE v' xs).cells.toArray tS (0, 0)) → FO Tryd.prog w' 62 5 5 ⟨b3, 0, none⟩ 58 (.slice A xs.length cp) := fun h => by rw [← hv']; exact (st_fo h).2.2.2.2.2.1
  have hs6 := hm.size
  by_cases hlen : xs.length < (argsP s.kind).2
  · rw [if_pos hlen] at hal
    simp only [↓VG_u, ↓UG_u, ↓MG_u, ↓NG_u, ↓PG_u, ↓BG_u, ↓CG_u, ↓IG_u, ↓VGtt, ↓VGtf, ↓VGft, ↓VGff, ↓UGtt, ↓UGtf, ↓UGft, ↓UGff, ↓MGtt, ↓MGtf, ↓MGft, ↓MGff, ↓NGtt, ↓NGtf, ↓NGft, ↓NGff, ↓PGtt, ↓PGtf, ↓PGft, ↓PGff, ↓BGtt, ↓BGtf, ↓BGft, ↓BGff, ↓CGtt, ↓CGtf, ↓CGft, ↓CGff, ↓IGtt, ↓IGtf, ↓IGft, ↓IGff, ↓PKt, ↓PKf, ↓CDt, ↓CDf, ↓NOTt, ↓NOTf, ↓NK_ptr, ↓(g5 d3).e, ↓len_sle, ↓LTt (show (xs.length : Int) < ((argsP s.kind).2 : Int) by omega)]
    -- one argument more
    have more : ∀ (ρ' : Sl) (w8 : World) (a6 : Nat), ρ' 0 = pq c → ρ' 3 = pq b3 → ρ' 4 = pq b4 → ρ' 6 = .int .i64 ((argsP s.kind).2 : Int) → ρ' 7 = .int .i64 ((argsP s.kind).1 : Int) → w8.heap[b3]? = some (.cells (s.withE v' xs).cells.toArray tS (0, 0)) → w8.heap[b4]? = some (.cells zStc.toArray tS (0, 0)) → ExsOwn w8 b3 v' xs → PW w8 lv l c a6 → Mod (fun i => i = c) w w8 →
        (match exprTk l n 0 a6 with | none => none | some (e, a) => argsLoop l n (argsP s.kind).1 (argsP s.kind).2 m (xs.map Ex.er ++ [e]) a) = some (res, a2) →
        ∀ K : Exit → Sl → World → Prop, (∀ ρ2 w9 v9 xs9 a9, argsLoop l n (argsP s.kind).1 (argsP s.kind).2 m (xs9.map Ex.er) a9 = some (res, a2) → ρ2 0 = pq c → ρ2 3 = pq b3 → ρ2 4 = pq b4 → ρ2 6 = .int .i64 ((argsP s.kind).2 : Int) → ρ2 7 = .int .i64 ((argsP s.kind).1 : Int) → w9.heap[b3]? = some (.cells (s.withE v9 xs9).cells.toArray tS (0, 0)) → w9.heap[b4]? = some (.cells zStc.toArray tS (0, 0)) → ExsOwn w9 b3 v9 xs9 → PW w9 lv l c a9 → Mod (fun i => i = c) w w9 → K .normal ρ2 w9) →
        sx fn_ Tryd.prog 84 dispatcherref02_cursor_call_R3 (blkK 1 K) ρ' w8 := by
      intro ρ' w8 a6 p0 p3 p4 p6 p7 e3 e4 hO8 hp8 hm8 hal8 K hK
      cases he : exprTk l n 0 a6 with
      | none => rw [he] at hal8; cases hal8
      | some q =>
      obtain ⟨pe, a7⟩ := q
      rw [he] at hal8
      dsimp only at hal8
      rw [callR3_W]
      refine dispatcherref02_cursor_call_R3_held (D := []) (fun _ => True) trivial ?_
      unfold dispatcherref02_cursor_call_R3_H
      rw [p0, p3]
      have hd8 : Mod none_ w8 { w8 with drawn := w8.drawn + 1 } := (Mod.refl _ w8).drawn _
      refine addE (e := s.withE v' xs) (base := b3) hG he (hd8.blk e3 id) (hO8.mod0 hd8) (hp8.mod0 hd8) (by omega) (by show xs.length < _; omega) (Nat.le_of_lt (blk_lt e3)) fun w9 x v9 hb9 hO9 her9 hp9 hm9 x1 x2 x3 x4 x5 x6 => ?_
      have hwr : ∀ k, (s.withE v' xs).es.ownBlock = some k → b3 ≤ k ∧ k ≠ b4 := fun k hk => ⟨owns_low hO8.row hk, fun q => owns_ne_blk hO8.row e4 (by decide) (by rw [q] at hk; exact hk)⟩
      have hm09 : Mod (fun i => i = c) w w9 := (hm8.trans (up1 hd8)).then hm9 fun i hi q => by
        rcases q with q | q | q
        · exact q
        · omega
        · have := (hwr i q.symm).1; omega
      have e49 : w9.heap[b4]? = some (.cells zStc.toArray tS (0, 0)) := hm9.blk (hd8.blk e4 id) fun q => by
        rcases q with q | q | q
        · omega
        · omega
        · exact (hwr b4 q.symm).2 rfl
      have e39 : w9.heap[b3]? = some (.cells (s.withE v9 (xs ++ [x])).cells.toArray tS (0, 0)) := hb9
      have fin2 : ∀ ρ2, ρ2 0 = pq c → ρ2 3 = pq b3 → ρ2 4 = pq b4 → ρ2 6 = .int .i64 ((argsP s.kind).2 : Int) → ρ2 7 = .int .i64 ((argsP s.kind).1 : Int) → blkK 1 K .normal ρ2 w9 := by
        intro ρ2 t0 t3 t4 t6 t7
        rw [bk_n]
        exact hK ρ2 w9 v9 (xs ++ [x]) a7 (by rw [List.map_append, List.map_singleton, her9]; exact hal8) t0 t3 t4 t6 t7 e39 e49 hO9 hp9 hm09
      refine ⟨fin2 _ ?_ ?_ ?_ ?_ ?_, fin2 _ ?_ ?_ ?_ ?_ ?_, fin2 _ ?_ ?_ ?_ ?_ ?_⟩
      · exact p0
      · exact p3
      · exact p4
      · exact p6
      · exact p7
      · exact p0
      · exact p3
      · exact p4
      · exact p6
      · exact p7
      · exact p0
      · exact p3
      · exact p4
      · exact p6
      · exact p7
    have next : ∀ (ρ2 : Sl) (w9 : World) (v9 : Value) (xs9 : List Ex) (a9 : Nat), argsLoop l n (argsP s.kind).1 (argsP s.kind).2 m (xs9.map Ex.er) a9 = some (res, a2) → ρ2 0 = pq c → ρ2 3 = pq b3 → ρ2 4 = pq b4 → ρ2 6 = .int .i64 ((argsP s.kind).2 : Int) → ρ2 7 = .int .i64 ((argsP s.kind).1 : Int) → w9.heap[b3]? = some (.cells (s.withE v9 xs9).cells.toArray tS (0, 0)) → w9.heap[b4]? = some (.cells zStc.toArray tS (0, 0)) → ExsOwn w9 b3 v9 xs9 → PW w9 lv l c a9 → Mod (fun i => i = c) w w9 →
        ∃ m', m' < m + 1 ∧ ∃ (v' : Value) (xs : List Ex) (a5 : Nat), argsLoop l n (argsP s.kind).1 (argsP s.kind).2 m' (xs.map Ex.er) a5 = some (res, a2) ∧ ρ2 0 = pq c ∧ ρ2 3 = pq b3 ∧ ρ2 4 = pq b4 ∧ ρ2 6 = .int .i64 ((argsP s.kind).2 : Int) ∧ ρ2 7 = .int .i64 ((argsP s.kind).1 : Int) ∧ w9.heap[b3]? = some (.cells (s.withE v' xs).cells.toArray tS (0, 0)) ∧ w9.heap[b4]? = some (.cells zStc.toArray tS (0, 0)) ∧ ExsOwn w9 b3 v' xs ∧ PW w9 lv l c a5 ∧ Mod (fun i => i = c) w w9 :=
      fun ρ2 w9 v9 xs9 a9 h0 h1 h2 h3 h4 h5 h6 h7 h8 h9 h10 => ⟨m, Nat.lt_succ_self m, v9, xs9, a9, h0, h1, h2, h3, h4, h5, h6, h7, h8, h9, h10⟩
    by_cases hpos : 0 < xs.length
    · rw [if_pos hpos] at hal
      simp only [↓GTt (show (0 : Int) < (xs.length : Int) by omega), ↓CDt, ↓(g5 d3).e, ↓len_sle]
      have comma : (match needP l a5 [44] with | none => none | some a => match exprTk l n 0 a with | none => none | some (e, a) => argsLoop l n (argsP s.kind).1 (argsP s.kind).2 m (xs.map Ex.er ++ [e]) a) = some (res, a2) → ∀ (ρ' : Sl) (w8 : World), Mod none_ w7 w8 → ρ' 0 = pq c → ρ' 3 = pq b3 → ρ' 4 = pq b4 → ρ' 6 = .int .i64 ((argsP s.kind).2 : Int) → ρ' 7 = .int .i64 ((argsP s.kind).1 : Int) →
          ∀ K : Exit → Sl → World → Prop, (∀ ρ2 w9 v9 xs9 a9, argsLoop l n (argsP s.kind).1 (argsP s.kind).2 m (xs9.map Ex.er) a9 = some (res, a2) → ρ2 0 = pq c → ρ2 3 = pq b3 → ρ2 4 = pq b4 → ρ2 6 = .int .i64 ((argsP s.kind).2 : Int) → ρ2 7 = .int .i64 ((argsP s.kind).1 : Int) → w9.heap[b3]? = some (.cells (s.withE v9 xs9).cells.toArray tS (0, 0)) → w9.heap[b4]? = some (.cells zStc.toArray tS (0, 0)) → ExsOwn w9 b3 v9 xs9 → PW w9 lv l c a9 → Mod (fun i => i = c) w w9 → K .normal ρ2 w9) →
          CK Tryd.prog (.func (.func 86) #[] #[]) [pq c, .string ⟨#[44]⟩] w8 fun x49 w => sx fn_ Tryd.prog 84 dispatcherref02_cursor_call_R3 (blkK 1 K) (up (up ρ' 48 (pq c)) 49 x49) w := by
        intro hal ρ' w8 hm78 p0 p3 p4 p6 p7 K hK
        cases hnc : needP l a5 [44] with
        | none => rw [hnc] at hal; cases hal
        | some a8 =>
        rw [hnc] at hal
        dsimp only at hal
        obtain ⟨hmc, rfl⟩ := need_some hnc
        refine CK_st Tryd.func86 rfl rfl (need_ok (hp.mod0 hm78) hG hmc) ?_
        rintro _ w9 ⟨h9, hm9⟩
        refine more _ w9 (a5 + 1) ?_ ?_ ?_ ?_ ?_ (hm9.blk (hm78.blk d3 id) (by omega)) (hm9.blk (hm78.blk d4 id) (by omega)) ((hO.mod0 hm78).ne hm9 (hp.mod0 hm78).cur (by decide)) h9 ((hm.trans (up1 hm78)).trans hm9) hal K hK
        · exact p0
        · exact p3
        · exact p4
        · exact p6
        · exact p7
      by_cases hle : (argsP s.kind).1 ≤ xs.length
      · simp only [↓VG_u, ↓UG_u, ↓MG_u, ↓NG_u, ↓PG_u, ↓BG_u, ↓CG_u, ↓IG_u, ↓VGtt, ↓VGtf, ↓VGft, ↓VGff, ↓UGtt, ↓UGtf, ↓UGft, ↓UGff, ↓MGtt, ↓MGtf, ↓MGft, ↓MGff, ↓NGtt, ↓NGtf, ↓NGft, ↓NGff, ↓PGtt, ↓PGtf, ↓PGft, ↓PGff, ↓BGtt, ↓BGtf, ↓BGft, ↓BGff, ↓CGtt, ↓CGtf, ↓CGft, ↓CGff, ↓IGtt, ↓IGtf, ↓IGft, ↓IGff, ↓PKt, ↓PKf, ↓CDt, ↓CDf, ↓NOTt, ↓NOTf, ↓NK_ptr, ↓GEt (show ((argsP s.kind).1 : Int) ≤ (xs.length : Int) by omega)]
        refine CK_st Tryd.func83 rfl rfl (next_ok hp hG) ?_
        rintro _ w8 ⟨rfl, hm8⟩
        simp only [↓fldTk]
        by_cases ht : (tkAt l a5).text = [41]
        · rw [if_pos ⟨hle, ht⟩] at hal
          have heq : (⟨(tkAt l a5).text.toArray⟩ : ByteArray) = ⟨#[41]⟩ := by rw [ht]
          simp only [txt, ↓VG_u, ↓UG_u, ↓MG_u, ↓NG_u, ↓PG_u, ↓BG_u, ↓CG_u, ↓IG_u, ↓VGtt, ↓VGtf, ↓VGft, ↓VGff, ↓UGtt, ↓UGtf, ↓UGft, ↓UGff, ↓MGtt, ↓MGtf, ↓MGft, ↓MGff, ↓NGtt, ↓NGtf, ↓NGft, ↓NGff, ↓PGtt, ↓PGtf, ↓PGft, ↓PGff, ↓BGtt, ↓BGtf, ↓BGft, ↓BGff, ↓CGtt, ↓CGtf, ↓CGft, ↓CGff, ↓IGtt, ↓IGtf, ↓IGft, ↓IGff, ↓PKt, ↓PKf, ↓CDt, ↓CDf, ↓NOTt, ↓NOTf, ↓NK_ptr, ↓SEQt heq]
          cases hal
          rw [sq_x, bk_x, sq_n]
          refine fin _ w8 v' xs ?_ ?_ ?_ (hm8.blk d3 id) (hm8.blk d4 id) (hO.mod0 hm8) rfl (hp.mod0 hm8) (hm.trans (up1 hm8))
          · exact q0
          · exact q3
          · exact q4
        · rw [if_neg (fun q => ht q.2)] at hal
          have hne : (⟨(tkAt l a5).text.toArray⟩ : ByteArray) ≠ ⟨#[41]⟩ := fun q => ht (by have := congrArg (fun b => b.data.toList) q; simpa using this)
          simp only [txt, ↓VG_u, ↓UG_u, ↓MG_u, ↓NG_u, ↓PG_u, ↓BG_u, ↓CG_u, ↓IG_u, ↓VGtt, ↓VGtf, ↓VGft, ↓VGff, ↓UGtt, ↓UGtf, ↓UGft, ↓UGff, ↓MGtt, ↓MGtf, ↓MGft, ↓MGff, ↓NGtt, ↓NGtf, ↓NGft, ↓NGff, ↓PGtt, ↓PGtf, ↓PGft, ↓PGff, ↓BGtt, ↓BGtf, ↓BGft, ↓BGff, ↓CGtt, ↓CGtf, ↓CGft, ↓CGff, ↓IGtt, ↓IGtf, ↓IGft, ↓IGff, ↓PKt, ↓PKf, ↓CDt, ↓CDf, ↓NOTt, ↓NOTf, ↓NK_ptr, ↓SEQf hne]
          refine comma hal _ w8 hm8 ?_ ?_ ?_ ?_ ?_ _ next
          · exact q0
          · exact q3
          · exact q4
          · exact q6
          · exact q7
      · rw [if_neg (fun q => hle q.1)] at hal
        simp only [↓VG_u, ↓UG_u, ↓MG_u, ↓NG_u, ↓PG_u, ↓BG_u, ↓CG_u, ↓IG_u, ↓VGtt, ↓VGtf, ↓VGft, ↓VGff, ↓UGtt, ↓UGtf, ↓UGft, ↓UGff, ↓MGtt, ↓MGtf, ↓MGft, ↓MGff, ↓NGtt, ↓NGtf, ↓NGft, ↓NGff, ↓PGtt, ↓PGtf, ↓PGft, ↓PGff, ↓BGtt, ↓BGtf, ↓BGft, ↓BGff, ↓CGtt, ↓CGtf, ↓CGft, ↓CGff, ↓IGtt, ↓IGtf, ↓IGft, ↓IGff, ↓PKt, ↓PKf, ↓CDt, ↓CDf, ↓NOTt, ↓NOTf, ↓NK_ptr, ↓GEf (show (xs.length : Int) < ((argsP s.kind).1 : Int) by omega)]
        refine comma hal _ w7 (Mod.refl _ _) ?_ ?_ ?_ ?_ ?_ _ next
        · exact q0
        · exact q3
        · exact q4
        · exact q6
        · exact q7
    · rw [if_neg hpos] at hal
      simp only [↓GTf (show (xs.length : Int) ≤ 0 by omega), ↓CDf]
      refine more _ w7 a5 ?_ ?_ ?_ ?_ ?_ d3 d4 hO hp hm hal _ next
      · exact q0
      · exact q3
      · exact q4
      · exact q6
      · exact q7
  · rw [if_neg hlen] at hal
    cases hal
    simp only [↓VG_u, ↓UG_u, ↓MG_u, ↓NG_u, ↓PG_u, ↓BG_u, ↓CG_u, ↓IG_u, ↓VGtt, ↓VGtf, ↓VGft, ↓VGff, ↓UGtt, ↓UGtf, ↓UGft, ↓UGff, ↓MGtt, ↓MGtf, ↓MGft, ↓MGff, ↓NGtt, ↓NGtf, ↓NGft, ↓NGff, ↓PGtt, ↓PGtf, ↓PGft, ↓PGff, ↓BGtt, ↓BGtf, ↓BGft, ↓BGff, ↓CGtt, ↓CGtf, ↓CGft, ↓CGff, ↓IGtt, ↓IGtf, ↓IGft, ↓IGff, ↓PKt, ↓PKf, ↓CDt, ↓CDf, ↓NOTt, ↓NOTf, ↓NK_ptr, ↓(g5 d3).e, ↓len_sle, ↓LTf (show ((argsP s.kind).2 : Int) ≤ (xs.length : Int) by omega)]
    rw [sq_x, bk_x, sq_n]
    refine fin _ w7 v' xs ?_ ?_ ?_ d3 d4 hO rfl hp hm
    · exact q0
    · exact q3
    · exact q4
end
end Go.Proofs.YtbnbcimjapiicaaDoor.Tr
set_option linter.unusedVariables false
set_option linter.unusedSimpArgs false
set_option maxRecDepth 4000
namespace Go.Proofs.YtbnbcimjapiicaaDoor.Tr
open Go Go.X Go.RowKit Go.Proofs.YtbnbcimjapiicaaDoor.XD Go.Proofs.YtbnbcimjapiicaaDoor.XK
structure GotS (w w' : World) (e : St) (pe : St) : Prop where
  er : e.er = pe
  own : e.Own w' tE tS
  in_ : e.In fun i => w.heap.size ≤ i
theorem bSt2 (a b : Int) : Tryd.prog.built 62 [(8, .int .i64 a), (9, .int .i64 b)] = some (St.mk 0 0 0 (bs []) 0 nl [] nl [] nl [] a b).cells.toArray := by kernel_rfl
section
variable {lv : Value} {l : List Tk} {c : Nat}
def StmtC (lv : Value) (l : List Tk) (c n : Nat) : Prop := ∀ (a : Nat) (r : St × Nat), stmtP l n a = some r → ∀ w, PW w lv l c a →
  Rt Tryd.prog 88 #[pq c] w fun v w' => ∃ e, v = .agg e.cells.toArray ∧ GotS w w' e r.1 ∧ PW w' lv l c r.2 ∧ Mod (fun i => i = c) w w'
def BlockC (lv : Value) (l : List Tk) (c n : Nat) : Prop := ∀ (a : Nat) (r : List St × Nat), blockP l n a = some r → ∀ w, PW w lv l c a →
  Rt Tryd.prog 106 #[pq c] w fun v w' => ∃ ss, StsOwn w' w.heap.size v ss ∧ ss.map St.er = r.1 ∧ PW w' lv l c r.2 ∧ Mod (fun i => i = c) w w'
/-- Three variables of a call's: a result's, a word's, a statement's. -/
structure FrS (lv : Value) (l : List Tk) (c : Nat) (w0 w : World) (b2 b3 b4 : Nat) (t : Tk) (e : St) (a : Nat) : Prop where
  h2 : w.heap[b2]? = some (.cells zStc.toArray tS (0, 0))
  h3 : w.heap[b3]? = some (.cells t.cells.toArray tT (0, 0))
  h4 : w.heap[b4]? = some (.cells e.cells.toArray tS (0, 0))
  pw : PW w lv l c a
  m : Mod (fun i => i = c) w0 w
  lo : w0.heap.size ≤ b2 ∧ b2 < b3 ∧ b3 < b4 ∧ c < w0.heap.size ∧ ∀ g, lv.ownBlock = some g → g < w0.heap.size
  ex : ExsOwn w (b4 + 1) e.es e.exprs
  bd : StsOwn w (b4 + 1) e.bs e.body
  nls : e.ls = nl ∧ e.els = []
variable {w0 w w' : World} {b2 b3 b4 : Nat} {t : Tk} {e : St} {a : Nat}
theorem FrS.ltw (h : FrS lv l c w0 w b2 b3 b4 t e a) : b4 < w.heap.size := blk_lt h.h4
theorem FrS.cur (h : FrS lv l c w0 w b2 b3 b4 t e a) {a' : Nat} (hm : Mod (fun i => i = c) w w') (hp : PW w' lv l c a') : FrS lv l c w0 w' b2 b3 b4 t e a' := by
  have := h.lo
  exact ⟨hm.blk h.h2 (by omega), hm.blk h.h3 (by omega), hm.blk h.h4 (by omega), hp, h.m.trans hm, h.lo, h.ex.ne hm h.pw.cur (by decide), h.bd.ne hm h.pw.cur (by decide) (by decide), h.nls⟩
theorem FrS.mod0 (h : FrS lv l c w0 w b2 b3 b4 t e a) (hm : Mod none_ w w') : FrS lv l c w0 w' b2 b3 b4 t e a := h.cur (up1 hm) (h.pw.mod0 hm)
theorem FrS.put (h : FrS lv l c w0 w b2 b3 b4 t e a) {e' : St} (hm : Mod (fun i => i = b4) w w') (hb : w'.heap[b4]? = some (.cells e'.cells.toArray tS (0, 0))) (hx : ExsOwn w' (b4 + 1) e'.es e'.exprs) (hd : StsOwn w' (b4 + 1) e'.bs e'.body) (hn : e'.ls = nl ∧ e'.els = []) : FrS lv l c w0 w' b2 b3 b4 t e' a := by
  have := h.lo
  refine ⟨hm.blk h.h2 (by omega), hm.blk h.h3 (by omega), hb, h.pw.off hm fun k q => ?_, h.m.then hm fun i hi q => by omega, h.lo, hx, hd, hn⟩
  refine ⟨by omega, fun g hg => ?_⟩
  have := h.lo.2.2.2.2 g hg
  omega
/-- A field of the statement's own, stored. -/
theorem FrS.fst (h : FrS lv l c w0 w b2 b3 b4 t e a) {i off : Nat} {t' : TypeId} {v : Value} (e' : St) (h1 : fieldOff Tryd.prog 62 i = some off) (hc1 : Tryd.prog.cellsOf t' = 1) (hv : v.oneCell' = true) (ho : off < 10) (hcs : e.cells.toArray.setIfInBounds off v = e'.cells.toArray) (hes : e'.es = e.es ∧ e'.exprs = e.exprs) (hbs : e'.bs = e.bs ∧ e'.body = e.body) (hn : e'.ls = nl ∧ e'.els = [])
    {K : Value → Value → World → Prop} (hk : ∀ x w', FrS lv l c w0 w' b2 b3 b4 t e' a → K x undef w') : VK Tryd.prog (Instr.fieldAt 62 (pq b4) i) w fun x w => UK Tryd.prog (Instr.storeAt t' x v) w (K x) := by
  refine fst_k h1 hc1 hv h.h4 (by simpa [St.cells] using ho) hcs fun x w1 hb1 hm1 hz1 => hk _ _ (h.put hm1 hb1 ?_ ?_ hn)
  · rw [hes.1, hes.2]; exact h.ex.off hm1 fun k q => by omega
  · rw [hbs.1, hbs.2]; exact h.bd.off hm1 fun k q => by omega
theorem FrS.no (h : FrS lv l c w0 w b2 b3 b4 t e a) (hG : Good l) {s : Bs} (hf : mayP l a s = false) {K : Value → World → Prop} (hk : ∀ w', FrS lv l c w0 w' b2 b3 b4 t e a → K (.bool false) w') : CK Tryd.prog (.func (.func 82) #[] #[]) [pq c, txt s] w K := by
  refine CK_st Tryd.func82 rfl rfl (may_ok h.pw hG s) ?_
  rintro _ w1 ⟨rfl, h1, hm1⟩
  rw [hf] at h1 ⊢
  exact hk _ (h.cur hm1 h1)
theorem FrS.yes (h : FrS lv l c w0 w b2 b3 b4 t e a) (hG : Good l) {s : Bs} (hf : mayP l a s = true) {K : Value → World → Prop} (hk : ∀ w', FrS lv l c w0 w' b2 b3 b4 t e (a + 1) → K (.bool true) w') : CK Tryd.prog (.func (.func 82) #[] #[]) [pq c, txt s] w K := by
  refine CK_st Tryd.func82 rfl rfl (may_ok h.pw hG s) ?_
  rintro _ w1 ⟨rfl, h1, hm1⟩
  rw [hf] at h1 ⊢
  exact hk _ (h.cur hm1 h1)
theorem FrS.need (h : FrS lv l c w0 w b2 b3 b4 t e a) (hG : Good l) {s : Bs} (hf : mayP l a s = true) {K : Value → World → Prop} (hk : ∀ v w', FrS lv l c w0 w' b2 b3 b4 t e (a + 1) → K v w') : CK Tryd.prog (.func (.func 86) #[] #[]) [pq c, txt s] w K := by
  refine CK_st Tryd.func86 rfl rfl (need_ok h.pw hG hf) ?_
  rintro v w1 ⟨h1, hm1⟩
  exact hk _ _ (h.cur hm1 h1)
theorem FrS.name (h : FrS lv l c w0 w b2 b3 b4 t e a) (hG : Good l) (hk1 : (tkAt l a).kind = 1) {K : Value → World → Prop} (hk : ∀ w', FrS lv l c w0 w' b2 b3 b4 t e (a + 1) → K (txt (tkAt l a).text) w') : CK Tryd.prog (.func (.func 84) #[] #[]) [pq c] w K := by
  refine CK_st Tryd.func84 rfl rfl (name_ok h.pw hG hk1) ?_
  rintro _ w1 ⟨rfl, h1, hm1⟩
  exact hk _ (h.cur hm1 h1)
/-- The statement's variable is what is told. -/
theorem FrS.retS (h : FrS lv l c w0 w b2 b3 b4 t e a) {pe : St} (her : e.er = pe) (hf : e.fine) {R : Value → World → Prop} {ρ : Value → Sl} (hq : ∀ x, ρ x 2 = pq b2) (hR : ∀ w', GotS w0 w' e pe → PW w' lv l c a → Mod (fun i => i = c) w0 w' → R (.agg e.cells.toArray) w') :
    VK Tryd.prog (Instr.loadAt 62 (pq b4)) w fun x w => UK Tryd.prog (Instr.storeAt 62 (pq b2) x) w fun _ w => resK Tryd.prog (ρ x) (fun vs w => R (packV vs) w) [ResultVar.cell 2 62] w := by
  have lo := h.lo
  refine ldS (cs := e.cells.toArray) rfl Tryd.underlying62 rfl iSt h.h4 ?_
  have hone : (e.cells.toArray.all (·.oneCell')) = true := st_cells_one (owns_slice h.ex.row) (owns_slice h.bd.row) (by rw [h.nls.1]; rfl)
  refine stS (old := zStc.toArray) (cs := e.cells.toArray) rfl rfl iSt rfl hone h.h2 fun w1 h1 hm1 hz1 => ?_
  have hx := h.ex.off hm1 fun k q => by omega
  have hd := h.bd.off hm1 fun k q => by omega
  have hown : e.Own w1 tE tS := St.own_.2 ⟨⟨owns_base hx.row (Nat.zero_le _), hx.own⟩, ⟨owns_base hd.row (Nat.zero_le _), hd.own⟩, ⟨by rw [h.nls.1, h.nls.2]; exact owns_none _ _ _ _, by rw [h.nls.2]; simp⟩, hf⟩
  have hin : e.In fun i => w0.heap.size ≤ i := by
    refine St.in_.2 ⟨⟨fun k hk => by have := owns_low hx.row hk; omega, fun z hz => (hx.at_ z hz).mono fun k hk => by omega⟩, ⟨fun k hk => by have := owns_low hd.row hk; omega, fun z hz => (hd.at_ z hz).mono fun k hk => by omega⟩, ?_⟩
    rw [h.nls.1, h.nls.2]
    exact ⟨fun k hk => by simp [nl, Value.ownBlock] at hk, by simp⟩
  have hR1 := hR w1 ⟨her, hown, hin⟩ (h.pw.off hm1 fun k q => ⟨by omega, fun g hg => by have := lo.2.2.2.2 g hg; omega⟩) (h.m.then hm1 fun i hi q => by omega)
  exact rsCell (R := fun v w => R v w) (cs := e.cells.toArray) (hq _) Tryd.underlying62 rfl iSt h1 hR1
/-- An expression added. -/
theorem FrS.add (h : FrS lv l c w0 w b2 b3 b4 t e a) (hG : Good l) {n a' : Nat} {pe : Ex} (he : exprTk l n 0 a = some (pe, a')) (hlen : e.exprs.length < 1000) (hb0 : e.body = []) {K1 K2 K3 : Value → Value → Value → Value → Value → Value → World → Prop}
    (hK : ∀ (w' : World) (x : Ex) (v' : Value), FrS lv l c w0 w' b2 b3 b4 t (e.withE v' (e.exprs ++ [x])) a' → x.er = pe → ∀ x1 x2 x3 x4 x5 x6, K1 x1 x2 x3 x4 x5 x6 w' ∧ K2 x1 x2 x3 x4 x5 x6 w' ∧ K3 x1 x2 x3 x4 x5 x6 w') :
    HK Tryd.prog (fun _ => True) (do pure (Next.value (← Instr.fieldAt 62 (pq b4) 5))) fun x26 => (VK Tryd.prog (Instr.loadAt 58 x26) w fun x27 w => True ∧ (CK Tryd.prog (.func (.func 105) #[] #[]) [pq c, .int .i64 0] w fun x29 w => True ∧ (VK Tryd.prog (Instr.buildSlice 58 1 [(0, x29)].toArray) w fun x30 w => True ∧ (IK Tryd.prog .append #[58, 58] 58 [false, false] [x27, x30] w fun x31 w => True ∧ (HK Tryd.prog (fun _ => True) (do pure (Next.value (← Instr.fieldAt 62 (pq b4) 5))) fun x32 => UK Tryd.prog (Instr.storeAt 58 x32 x31) w fun _ w => True ∧ K1 x26 x27 x29 x30 x31 x32 w))))) ∧
      (CK Tryd.prog (.func (.func 105) #[] #[]) [pq c, .int .i64 0] w fun x29 w => True ∧ ((VK Tryd.prog (Instr.loadAt 58 x26) w fun x27 w => True ∧ (VK Tryd.prog (Instr.buildSlice 58 1 [(0, x29)].toArray) w fun x30 w => True ∧ (IK Tryd.prog .append #[58, 58] 58 [false, false] [x27, x30] w fun x31 w => True ∧ (HK Tryd.prog (fun _ => True) (do pure (Next.value (← Instr.fieldAt 62 (pq b4) 5))) fun x32 => UK Tryd.prog (Instr.storeAt 58 x32 x31) w fun _ w => True ∧ K2 x26 x27 x29 x30 x31 x32 w)))) ∧
        (VK Tryd.prog (Instr.buildSlice 58 1 [(0, x29)].toArray) w fun x30 w => True ∧ (VK Tryd.prog (Instr.loadAt 58 x26) w fun x27 w => True ∧ (IK Tryd.prog .append #[58, 58] 58 [false, false] [x27, x30] w fun x31 w => True ∧ (HK Tryd.prog (fun _ => True) (do pure (Next.value (← Instr.fieldAt 62 (pq b4) 5))) fun x32 => UK Tryd.prog (Instr.storeAt 58 x32 x31) w fun _ w => True ∧ K3 x26 x27 x29 x30 x31 x32 w)))))) := by
  have lo := h.lo
  have hltw := h.ltw
  refine addE (base := b4 + 1) hG he h.h4 h.ex h.pw (by omega) (by omega) hltw fun w1 x v' hb1 hO1 her hp1 hm1 x1 x2 x3 x4 x5 x6 => hK w1 x v' ?_ her _ _ _ _ _ _
  have hrow : ∀ k, e.es.ownBlock = some k → b4 + 1 ≤ k := fun k hk => owns_low h.ex.row hk
  have hne : ∀ k, k ≤ b4 → k ≠ c → k ≠ b4 → ¬ (k = c ∨ k = b4 ∨ some k = e.es.ownBlock) := fun k hk h1 h2 q => by
    rcases q with q | q | q
    · exact h1 q
    · exact h2 q
    · have := hrow k q.symm; omega
  refine ⟨hm1.blk h.h2 (hne _ (by omega) (by omega) (by omega)), hm1.blk h.h3 (hne _ (by omega) (by omega) (by omega)), hb1, hp1, h.m.then hm1 fun i hi q => ?_, lo, hO1, ?_, h.nls⟩
  · rcases q with q | q | q
    · exact q
    · omega
    · have := hrow i q.symm; omega
  · have hbr : ∀ k, e.bs.ownBlock = some k → b4 + 1 ≤ k := fun k hk => owns_low h.bd.row hk
    refine ⟨owns_mod h.bd.row hm1 fun k hk q => ?_, fun z hz => ?_, h.bd.at_⟩
    · rcases q with q | q | q
      · have := hbr k hk; omega
      · have := hbr k hk; omega
      · exact owns_ne h.bd.row h.ex.row (by decide) k hk q
    · have hz : z ∈ e.body := hz
      rw [hb0] at hz
      cases hz
/-- The sign behind a statement; it is told. -/
theorem FrS.done (h : FrS lv l c w0 w b2 b3 b4 t e a) (hG : Good l) (hs : mayP l a [59] = true) {pe : St} (her : e.er = pe) (hf : e.fine) {ρ : Sl} (q0 : ρ 0 = pq c) (q2 : ρ 2 = pq b2) (q4 : ρ 4 = pq b4) :
    sx fn_ Tryd.prog 141 dispatcherref02_cursor_stmt_R0 (retK Tryd.prog [ResultVar.cell 2 62] fun v w' => ∃ e, v = .agg e.cells.toArray ∧ GotS w0 w' e pe ∧ PW w' lv l c (a + 1) ∧ Mod (fun i => i = c) w0 w') ρ w := by
  rw [dispatcherref02_cursor_stmt_R0_eq]
  unfold dispatcherref02_cursor_stmt_R0_F
  rw [q0, q2, q4]
  refine h.need (s := [59]) hG hs fun v w1 h1 => ?_
  simp only [sq_n, sq_x, sq_r, bk_n, bk_r, bk_x, rt_r, rt_n, rs_0, rs_t, pk_1, pk_2, up_at, reduceIte, Nat.reduceEqDiff]
  refine h1.retS her hf (R := fun v w' => ∃ e, v = .agg e.cells.toArray ∧ GotS w0 w' e pe ∧ PW w' lv l c (a + 1) ∧ Mod (fun i => i = c) w0 w') (fun x => ?_) fun w' hg hp hm => ⟨_, rfl, hg, hp, hm⟩
  exact q2
theorem stF {op kind red turns line col : Int} {name : ByteArray} {es bs ls : Value} {ex : List Ex} {bd el : List St} (h1 : (Lit.int .u8 op).wf = true) (h2 : (Lit.int .u8 kind).wf = true) (h3 : (Lit.int .u8 red).wf = true) (h4 : name.size ≤ maxLen) (h5 : (Lit.int .i64 turns).wf = true) (h6 : (Lit.int .i64 line).wf = true) (h7 : (Lit.int .i64 col).wf = true) : (St.mk op kind red name turns es ex bs bd ls el line col).fine := ⟨h1, h2, h3, h4, h5, h6, h7⟩
theorem u8_wf {n : Int} (h0 : 0 ≤ n) (h1 : n ≤ 255) : (Lit.int .u8 n).wf = true := by
  simp [Lit.wf, IntKind.min, IntKind.max, IntKind.signed, IntKind.bits]
  omega
theorem stmt_step (hG : Good l) {n : Nat} (hB : BlockC lv l c n) : StmtC lv l c (n + 1) := by
  intro a r hr w hw
  rw [stmtP] at hr
  refine dispatcherref02_cursor_stmt_calls ?_
  unfold dispatcherref02_cursor_stmt_F
  refine al_k (cs := zStc.toArray) zSt rfl _ fun w1 hb1 hm1 hz1 => ?_
  refine CK_st Tryd.func83 rfl rfl (next_ok (hw.mod0 hm1) hG) ?_
  rintro _ w2 ⟨rfl, hm2⟩
  refine lcl_k (cs := (tkAt l a).cells.toArray) zTkg _ iTk rfl (tk_one _) fun w3 hb3 hm3 hz3 => ?_
  obtain ⟨k0, k1, k2, k3, k4⟩ := tk_fo hb3
  simp only [↓k3.e, ↓k4.e]
  rw [build_ok (bSt2 _ _)]
  refine lcl_k (cs := (St.mk 0 0 0 (bs []) 0 nl [] nl [] nl [] (tkAt l a).line (tkAt l a).col).cells.toArray) zSt _ iSt rfl (st_cells_one rfl rfl rfl) fun w4 hb4 hm4 hz4 => ?_
  have hs2 := hm2.size
  have hm14 := (hm2.trans hm3).trans hm4
  have hm04 := hm1.trans hm14
  have hF : FrS lv l c w w4 w.heap.size w2.heap.size w3.heap.size (tkAt l a) (St.mk 0 0 0 (bs []) 0 nl [] nl [] nl [] (tkAt l a).line (tkAt l a).col) a :=
    ⟨hm14.blk hb1 id, hm4.blk hb3 id, hb4, hw.mod0 hm04, up1 hm04, ⟨Nat.le_refl _, by omega, by omega, blk_lt hw.cur, fun g hg => owns_lt hw.toks hg⟩, ExsOwn.nil _ _, StsOwn.nil _ _, rfl, rfl⟩
  generalize w3.heap.size = b4 at *
  generalize w2.heap.size = b3 at *
  obtain ⟨tf1, tf2, tf3, tf4⟩ := tk_fine hG a
  have hwl := hG.len
  obtain ⟨k0, k1, k2, k3, k4⟩ := tk_fo hF.h3
  simp only [↓k0.e]
  by_cases hk1 : (tkAt l a).kind = 1
  · rw [if_pos hk1] at hr
    split at hr
    · cases hr
    rename_i hmay
    have hmay : mayP l (a + 1) [91] = false := by simpa using hmay
    cases hn1 : needP l (a + 1) [61] with
    | none => rw [hn1] at hr; cases hr
    | some a2 =>
    rw [hn1] at hr
    dsimp only at hr
    obtain ⟨hm1', rfl⟩ := need_some hn1
    cases he : exprTk l n 0 (a + 1 + 1) with
    | none => rw [he] at hr; cases hr
    | some q =>
    obtain ⟨pe, a3⟩ := q
    rw [he] at hr
    dsimp only at hr
    cases hn2 : needP l a3 [59] with
    | none => rw [hn2] at hr; cases hr
    | some a4 =>
    rw [hn2] at hr
    obtain ⟨hm2', rfl⟩ := need_some hn2
    cases hr
    simp only [↓EQt hk1, ↓CDt]
    refine hF.fst (off := 0) ⟨1, 0, 0, bs [], 0, nl, [], nl, [], nl, [], _, _⟩ (by kernel_rfl) (by kernel_rfl) rfl (by omega) rfl ⟨rfl, rfl⟩ ⟨rfl, rfl⟩ ⟨rfl, rfl⟩ fun x w5 hF5 => ?_
    refine hF5.name hG hk1 fun w6 hF6 => ?_
    refine hF6.fst (off := 3) ⟨1, 0, 0, bs (tkAt l a).text, 0, nl, [], nl, [], nl, [], _, _⟩ (by kernel_rfl) (by kernel_rfl) rfl (by omega) rfl ⟨rfl, rfl⟩ ⟨rfl, rfl⟩ ⟨rfl, rfl⟩ fun x w7 hF7 => ?_
    refine hF7.no (s := [91]) hG hmay fun w8 hF8 => ?_
    simp only [↓CDf]
    rw [dispatcherref02_cursor_stmt_R1_eq]
    unfold dispatcherref02_cursor_stmt_R1_F
    simp only [sq_n, sq_x, sq_r, bk_n, bk_r, bk_x, rt_r, rt_n, rs_0, rs_t, pk_1, pk_2, up_at, reduceIte, Nat.reduceEqDiff]
    refine hF8.need (s := [61]) hG hm1' fun v w9 hF9 => ?_
    refine dispatcherref02_cursor_stmt_R10_held (D := []) (fun _ => True) trivial ?_
    unfold dispatcherref02_cursor_stmt_R10_H
    simp only [sq_n, sq_x, sq_r, bk_n, bk_r, bk_x, rt_r, rt_n, rs_0, rs_t, pk_1, pk_2, up_at, reduceIte, Nat.reduceEqDiff]
    refine (hF9.mod0 ((Mod.refl _ w9).drawn (w9.drawn + 1))).add hG he (by simp) rfl fun w10 x v' hF10 her x1 x2 x3 x4 x5 x6 => ?_
    have fin : ∀ ρ : Sl, ρ 0 = pq c → ρ 2 = pq w.heap.size → ρ 4 = pq b4 → _ := fun ρ q0 q2 q4 => hF10.done (ρ := ρ) hG hm2' (pe := ⟨1, 0, 0, bs (tkAt l a).text, 0, nl, [pe], nl, [], nl, [], (tkAt l a).line, (tkAt l a).col⟩) (by rw [St.er_eq]; simp only [St.withE, List.nil_append, List.map_cons, List.map_nil, her]; rfl) (show (St.mk 1 0 0 (bs (tkAt l a).text) 0 v' [x] nl [] nl [] (tkAt l a).line (tkAt l a).col).fine from stF (by decide) (by decide) (by decide) (bs_size tf1) (by decide) tf3 tf4) q0 q2 q4
    exact ⟨fin _ rfl rfl rfl, fin _ rfl rfl rfl, fin _ rfl rfl rfl⟩
  rw [if_neg hk1] at hr
  simp only [↓EQf hk1, ↓CDf]
  split at hr
  · cases hr
  rename_i hif
  have hif : mayP l a [105, 102] = false := by simpa using hif
  refine hF.no (s := [105, 102]) hG hif fun w5 hF5 => ?_
  simp only [↓CDf]
  cases hwh : mayP l a [119, 104, 105, 108, 101] with
  | true =>
    rw [hwh, if_pos rfl] at hr
    refine hF5.yes (s := [119, 104, 105, 108, 101]) hG hwh fun w6 hF6 => ?_
    simp only [↓CDt]
    cases he : exprTk l n 0 (a + 1) with
    | none => rw [he] at hr; cases hr
    | some q =>
    obtain ⟨pe, a3⟩ := q
    rw [he] at hr
    dsimp only at hr
    cases hb : blockP l n a3 with
    | none => rw [hb] at hr; cases hr
    | some q =>
    obtain ⟨pb, a4⟩ := q
    rw [hb] at hr
    cases hr
    refine hF6.fst (off := 0) ⟨4, 0, 0, bs [], 0, nl, [], nl, [], nl, [], _, _⟩ (by kernel_rfl) (by kernel_rfl) rfl (by omega) rfl ⟨rfl, rfl⟩ ⟨rfl, rfl⟩ ⟨rfl, rfl⟩ fun x w7 hF7 => ?_
    refine dispatcherref02_cursor_stmt_R6_held (D := []) (fun _ => True) trivial ?_
    unfold dispatcherref02_cursor_stmt_R6_H
    simp only [sq_n, sq_x, sq_r, bk_n, bk_r, bk_x, rt_r, rt_n, rs_0, rs_t, pk_1, pk_2, up_at, reduceIte, Nat.reduceEqDiff]
    refine (hF7.mod0 ((Mod.refl _ w7).drawn (w7.drawn + 1))).add hG he (by simp) rfl fun w8 x v' hF8 her x1 x2 x3 x4 x5 x6 => ?_
    have fin : ∀ ρ : Sl, ρ 0 = pq c → ρ 2 = pq w.heap.size → ρ 4 = pq b4 → sx fn_ Tryd.prog 141 dispatcherref02_cursor_stmt_R7 (blkK 0 (seqK (sx fn_ Tryd.prog 141 dispatcherref02_cursor_stmt_R0 (retK Tryd.prog [ResultVar.cell 2 62] fun v w' => ∃ e, v = .agg e.cells.toArray ∧ GotS w w' e ⟨4, 0, 0, bs [], 0, nl, [pe], nl, pb, nl, [], (tkAt l a).line, (tkAt l a).col⟩ ∧ PW w' lv l c a4 ∧ Mod (fun i => i = c) w w')) (retK Tryd.prog [ResultVar.cell 2 62] fun v w' => ∃ e, v = .agg e.cells.toArray ∧ GotS w w' e ⟨4, 0, 0, bs [], 0, nl, [pe], nl, pb, nl, [], (tkAt l a).line, (tkAt l a).col⟩ ∧ PW w' lv l c a4 ∧ Mod (fun i => i = c) w w'))) ρ w8 := by
      intro ρ q0 q2 q4
      rw [dispatcherref02_cursor_stmt_R7_eq]
      unfold dispatcherref02_cursor_stmt_R7_F
      rw [q0, q2, q4]
      refine CK_st Tryd.func106 rfl rfl (hB _ _ hb _ hF8.pw) ?_
      rintro v9 w9 ⟨ss, hO9, hss, h9, hm9⟩
      have hF9 := hF8.cur hm9 h9
      have hlt := hF8.ltw
      refine fst_k (off := 6) (by kernel_rfl) (by kernel_rfl) (owns_slice hO9.row) hF9.h4 (by simp [St.cells, St.withE]) (cs' := (St.mk 4 0 0 (bs []) 0 v' [x] v9 ss nl [] (tkAt l a).line (tkAt l a).col).cells.toArray) rfl fun x10 w10 h10 hm10 hz10 => ?_
      have hF10 : FrS lv l c w w10 w.heap.size b3 b4 (tkAt l a) (St.mk 4 0 0 (bs []) 0 v' [x] v9 ss nl [] (tkAt l a).line (tkAt l a).col) a4 := hF9.put hm10 h10 (hF9.ex.off hm10 fun k q => by omega) ((hO9.off hm10 fun k q => by omega).low (by omega)) ⟨rfl, rfl⟩
      simp only [sq_n, sq_x, sq_r, bk_n, bk_r, bk_x, rt_r, rt_n, rs_0, rs_t, pk_1, pk_2, up_at, reduceIte, Nat.reduceEqDiff]
      refine hF10.retS (pe := ⟨4, 0, 0, bs [], 0, nl, [pe], nl, pb, nl, [], (tkAt l a).line, (tkAt l a).col⟩) (by rw [St.er_eq]; simp only [List.map_cons, List.map_nil, her, hss]; rfl) (stF (by decide) (by decide) (by decide) (by decide) (by decide) tf3 tf4) (R := fun v w' => ∃ e, v = .agg e.cells.toArray ∧ GotS w w' e ⟨4, 0, 0, bs [], 0, nl, [pe], nl, pb, nl, [], (tkAt l a).line, (tkAt l a).col⟩ ∧ PW w' lv l c a4 ∧ Mod (fun i => i = c) w w') (fun x => ?_) fun w' hg hp hm => ⟨_, rfl, hg, hp, hm⟩
      exact q2
    exact ⟨fin _ rfl rfl rfl, fin _ rfl rfl rfl, fin _ rfl rfl rfl⟩
  | false =>
    rw [hwh, if_neg (by simp)] at hr
    refine hF5.no (s := [119, 104, 105, 108, 101]) hG hwh fun w6 hF6 => ?_
    simp only [↓CDf]
    cases hfo : mayP l a [102, 111, 114] with
    | true =>
      rw [hfo, if_pos rfl] at hr
      refine hF6.yes (s := [102, 111, 114]) hG hfo fun w7 hF7 => ?_
      simp only [↓CDt]
      split at hr
      rotate_left
      · cases hr
      rename_i hk1'
      cases hn1 : needP l (a + 2) [60] with
      | none => rw [hn1] at hr; cases hr
      | some a1 =>
      rw [hn1] at hr
      dsimp only at hr
      obtain ⟨hm1', ha1⟩ := need_some hn1
      split at hr
      · cases hr
      rename_i hsz
      have hsz : mayP l a1 [115, 105, 122, 101] = false := by simpa using hsz
      split at hr
      rotate_left
      · cases hr
      rename_i hnum
      cases hb : blockP l n (a1 + 1) with
      | none => rw [hb] at hr; cases hr
      | some q =>
      obtain ⟨pb, a4⟩ := q
      rw [hb] at hr
      cases hr
      obtain ⟨uf1, _⟩ := tk_fine hG (a + 1)
      obtain ⟨_, vf2, _⟩ := tk_fine hG a1
      refine hF7.fst (off := 0) ⟨5, 0, 0, bs [], 0, nl, [], nl, [], nl, [], _, _⟩ (by kernel_rfl) (by kernel_rfl) rfl (by omega) rfl ⟨rfl, rfl⟩ ⟨rfl, rfl⟩ ⟨rfl, rfl⟩ fun x w8 hF8 => ?_
      refine hF8.name hG hk1' fun w9 hF9 => ?_
      refine hF9.fst (off := 3) ⟨5, 0, 0, bs (tkAt l (a + 1)).text, 0, nl, [], nl, [], nl, [], _, _⟩ (by kernel_rfl) (by kernel_rfl) rfl (by omega) rfl ⟨rfl, rfl⟩ ⟨rfl, rfl⟩ ⟨rfl, rfl⟩ fun x w10 hF10 => ?_
      refine hF10.need (s := [60]) hG hm1' fun v w11 hF11 => ?_
      rw [← ha1] at hF11
      refine hF11.no (s := [115, 105, 122, 101]) hG hsz fun w12 hF12 => ?_
      simp only [↓VG_u, ↓UG_u, ↓MG_u, ↓NG_u, ↓PG_u, ↓BG_u, ↓CG_u, ↓IG_u, ↓VGtt, ↓VGtf, ↓VGft, ↓VGff, ↓UGtt, ↓UGtf, ↓UGft, ↓UGff, ↓MGtt, ↓MGtf, ↓MGft, ↓MGff, ↓NGtt, ↓NGtf, ↓NGft, ↓NGff, ↓PGtt, ↓PGtf, ↓PGft, ↓PGff, ↓BGtt, ↓BGtf, ↓BGft, ↓BGff, ↓CGtt, ↓CGtf, ↓CGft, ↓CGff, ↓IGtt, ↓IGtf, ↓IGft, ↓IGff, ↓PKt, ↓PKf, ↓CDt, ↓CDf, ↓NOTt, ↓NOTf, ↓NK_ptr]
      refine CK_st Tryd.func85 rfl rfl (number_ok hF12.pw hG hnum.1 hnum.2.1 hnum.2.2) ?_
      rintro _ w13 ⟨rfl, h13, hm13⟩
      have hF13 := hF12.cur hm13 h13
      refine hF13.fst (off := 4) ⟨5, 0, 0, bs (tkAt l (a + 1)).text, (tkAt l a1).num, nl, [], nl, [], nl, [], _, _⟩ (by kernel_rfl) (by kernel_rfl) rfl (by omega) rfl ⟨rfl, rfl⟩ ⟨rfl, rfl⟩ ⟨rfl, rfl⟩ fun x w14 hF14 => ?_
      rw [dispatcherref02_cursor_stmt_R8_eq]
      unfold dispatcherref02_cursor_stmt_R8_F
      simp only [sq_n, sq_x, sq_r, bk_n, bk_r, bk_x, rt_r, rt_n, rs_0, rs_t, pk_1, pk_2, up_at, reduceIte, Nat.reduceEqDiff]
      refine CK_st Tryd.func106 rfl rfl (hB _ _ hb _ hF14.pw) ?_
      rintro v15 w15 ⟨ss, hO15, hss, h15, hm15⟩
      have hF15 := hF14.cur hm15 h15
      have hlt := hF14.ltw
      refine fst_k (off := 6) (by kernel_rfl) (by kernel_rfl) (owns_slice hO15.row) hF15.h4 (by simp [St.cells]) (cs' := (St.mk 5 0 0 (bs (tkAt l (a + 1)).text) (tkAt l a1).num nl [] v15 ss nl [] (tkAt l a).line (tkAt l a).col).cells.toArray) rfl fun x16 w16 h16 hm16 hz16 => ?_
      have hF16 : FrS lv l c w w16 w.heap.size b3 b4 (tkAt l a) (St.mk 5 0 0 (bs (tkAt l (a + 1)).text) (tkAt l a1).num nl [] v15 ss nl [] (tkAt l a).line (tkAt l a).col) a4 := hF15.put hm16 h16 (hF15.ex.off hm16 fun k q => by omega) ((hO15.off hm16 fun k q => by omega).low (by omega)) ⟨rfl, rfl⟩
      refine hF16.retS (pe := ⟨5, 0, 0, bs (tkAt l (a + 1)).text, (tkAt l a1).num, nl, [], nl, pb, nl, [], (tkAt l a).line, (tkAt l a).col⟩) (by rw [St.er_eq]; simp only [List.map_nil, hss]; rfl) (stF (by decide) (by decide) (by decide) (bs_size uf1) vf2 tf3 tf4) (R := fun v w' => ∃ e, v = .agg e.cells.toArray ∧ GotS w w' e ⟨5, 0, 0, bs (tkAt l (a + 1)).text, (tkAt l a1).num, nl, [], nl, pb, nl, [], (tkAt l a).line, (tkAt l a).col⟩ ∧ PW w' lv l c a4 ∧ Mod (fun i => i = c) w w') (fun x => rfl) fun w' hg hp hm => ⟨_, rfl, hg, hp, hm⟩
    | false =>
      rw [hfo, if_neg (by simp)] at hr
      refine hF6.no (s := [102, 111, 114]) hG hfo fun w7 hF7 => ?_
      simp only [↓CDf]
      cases has : mayP l a [97, 115, 115, 101, 114, 116] with
      | true =>
        rw [has, if_pos rfl] at hr
        refine hF7.yes (s := [97, 115, 115, 101, 114, 116]) hG has fun w8 hF8 => ?_
        simp only [↓CDt]
        cases he : exprTk l n 0 (a + 1) with
        | none => rw [he] at hr; cases hr
        | some q =>
        obtain ⟨pe, a3⟩ := q
        rw [he] at hr
        dsimp only at hr
        cases hn2 : needP l a3 [59] with
        | none => rw [hn2] at hr; cases hr
        | some a4 =>
        rw [hn2] at hr
        obtain ⟨hm2', rfl⟩ := need_some hn2
        cases hr
        refine hF8.fst (off := 0) ⟨6, 0, 0, bs [], 0, nl, [], nl, [], nl, [], _, _⟩ (by kernel_rfl) (by kernel_rfl) rfl (by omega) rfl ⟨rfl, rfl⟩ ⟨rfl, rfl⟩ ⟨rfl, rfl⟩ fun x w9 hF9 => ?_
        refine dispatcherref02_cursor_stmt_R9_held (D := []) (fun _ => True) trivial ?_
        unfold dispatcherref02_cursor_stmt_R9_H
        simp only [sq_n, sq_x, sq_r, bk_n, bk_r, bk_x, rt_r, rt_n, rs_0, rs_t, pk_1, pk_2, up_at, reduceIte, Nat.reduceEqDiff]
        refine (hF9.mod0 ((Mod.refl _ w9).drawn (w9.drawn + 1))).add hG he (by simp) rfl fun w10 x v' hF10 her x1 x2 x3 x4 x5 x6 => ?_
        have fin : ∀ ρ : Sl, ρ 0 = pq c → ρ 2 = pq w.heap.size → ρ 4 = pq b4 → _ := fun ρ q0 q2 q4 => hF10.done (ρ := ρ) hG hm2' (pe := ⟨6, 0, 0, bs [], 0, nl, [pe], nl, [], nl, [], (tkAt l a).line, (tkAt l a).col⟩) (by rw [St.er_eq]; simp only [St.withE, List.nil_append, List.map_cons, List.map_nil, her]; rfl) (show (St.mk 6 0 0 (bs []) 0 v' [x] nl [] nl [] (tkAt l a).line (tkAt l a).col).fine from stF (by decide) (by decide) (by decide) (by decide) (by decide) tf3 tf4) q0 q2 q4
        exact ⟨fin _ rfl rfl rfl, fin _ rfl rfl rfl, fin _ rfl rfl rfl⟩
      | false =>
        rw [has, if_neg (by simp)] at hr
        refine hF7.no (s := [97, 115, 115, 101, 114, 116]) hG has fun w8 hF8 => ?_
        simp only [↓CDf]
        split at hr
        · cases hr
        rename_i hst
        have hst : mayP l a [115, 116, 111, 112] = false := by simpa using hst
        refine hF8.no (s := [115, 116, 111, 112]) hG hst fun w9 hF9 => ?_
        simp only [↓CDf]
        split at hr
        rotate_left
        · cases hr
        rename_i hkc
        cases hc : callP l n (callK (tkAt l a).text) (a + 1) with
        | none => rw [hc] at hr; cases hr
        | some q =>
        obtain ⟨es, a3⟩ := q
        rw [hc] at hr
        dsimp only at hr
        cases hn2 : needP l a3 [59] with
        | none => rw [hn2] at hr; cases hr
        | some a4 =>
        rw [hn2] at hr
        obtain ⟨hm2', rfl⟩ := need_some hn2
        cases hr
        have hal := kind_lt (l := l) (a := a) (by rw [hkc.1]; decide)
        have hrng := callK_rng (tkAt l a).text
        obtain ⟨k0, k1, k2, k3, k4⟩ := tk_fo hF9.h3
        simp only [↓VG_u, ↓UG_u, ↓MG_u, ↓NG_u, ↓PG_u, ↓BG_u, ↓CG_u, ↓IG_u, ↓VGtt, ↓VGtf, ↓VGft, ↓VGff, ↓UGtt, ↓UGtf, ↓UGft, ↓UGff, ↓MGtt, ↓MGtf, ↓MGft, ↓MGff, ↓NGtt, ↓NGtf, ↓NGft, ↓NGff, ↓PGtt, ↓PGtf, ↓PGft, ↓PGff, ↓BGtt, ↓BGtf, ↓BGft, ↓BGff, ↓CGtt, ↓CGtf, ↓CGft, ↓CGff, ↓IGtt, ↓IGtf, ↓IGft, ↓IGff, ↓PKt, ↓PKf, ↓CDt, ↓CDf, ↓NOTt, ↓NOTf, ↓NK_ptr, ↓k0.e, ↓EQt hkc.1, ↓k1.e]
        refine CK_st Tryd.func107 rfl rfl (Call_ok _ w9) ?_
        rintro _ w10 ⟨rfl, hm10⟩
        have hF10 := hF9.mod0 hm10
        simp only [↓VG_u, ↓UG_u, ↓MG_u, ↓NG_u, ↓PG_u, ↓BG_u, ↓CG_u, ↓IG_u, ↓VGtt, ↓VGtf, ↓VGft, ↓VGff, ↓UGtt, ↓UGtf, ↓UGft, ↓UGff, ↓MGtt, ↓MGtf, ↓MGft, ↓MGff, ↓NGtt, ↓NGtf, ↓NGft, ↓NGff, ↓PGtt, ↓PGtf, ↓PGft, ↓PGff, ↓BGtt, ↓BGtf, ↓BGft, ↓BGff, ↓CGtt, ↓CGtf, ↓CGft, ↓CGff, ↓IGtt, ↓IGtf, ↓IGft, ↓IGff, ↓PKt, ↓PKf, ↓CDt, ↓CDf, ↓NOTt, ↓NOTf, ↓NK_ptr, ↓GTt hkc.2]
        refine adv2 hF10.pw (by omega) fun x2 x3 x4 x6 w11 h11 hm11 hz11 => ?_
        have hF11 := hF10.cur hm11 h11
        refine hF11.fst (off := 0) ⟨8, 0, 0, bs [], 0, nl, [], nl, [], nl, [], _, _⟩ (by kernel_rfl) (by kernel_rfl) rfl (by omega) rfl ⟨rfl, rfl⟩ ⟨rfl, rfl⟩ ⟨rfl, rfl⟩ fun x w12 hF12 => ?_
        obtain ⟨k0, k1, k2, k3, k4⟩ := tk_fo hF12.h3
        simp only [↓k1.e]
        refine CK_st Tryd.func107 rfl rfl (Call_ok _ w12) ?_
        rintro _ w13 ⟨rfl, hm13⟩
        have hF13 := hF12.mod0 hm13
        refine hF13.fst (off := 1) ⟨8, callK (tkAt l a).text, 0, bs [], 0, nl, [], nl, [], nl, [], _, _⟩ (by kernel_rfl) (by kernel_rfl) rfl (by omega) rfl ⟨rfl, rfl⟩ ⟨rfl, rfl⟩ ⟨rfl, rfl⟩ fun x w14 hF14 => ?_
        refine ldS (cs := (St.mk 8 (callK (tkAt l a).text) 0 (bs []) 0 nl [] nl [] nl [] (tkAt l a).line (tkAt l a).col).cells.toArray) rfl Tryd.underlying62 rfl iSt hF14.h4 ?_
        refine CK_st Tryd.func108 rfl rfl (call_ok hG (s := ⟨8, callK (tkAt l a).text, 0, bs [], 0, nl, [], nl, [], nl, [], _, _⟩) hc rfl rfl rfl rfl hF14.pw) ?_
        rintro _ w15 ⟨v', xs, rfl, hxs, hO15, h15, hm15⟩
        have hF15 := hF14.cur hm15 h15
        have hlt := hF14.ltw
        refine stS (old := (St.mk 8 (callK (tkAt l a).text) 0 (bs []) 0 nl [] nl [] nl [] (tkAt l a).line (tkAt l a).col).cells.toArray) (cs := (St.mk 8 (callK (tkAt l a).text) 0 (bs []) 0 v' xs nl [] nl [] (tkAt l a).line (tkAt l a).col).cells.toArray) rfl rfl iSt rfl (st_cells_one (owns_slice hO15.row) rfl rfl) hF15.h4 fun w16 h16 hm16 hz16 => ?_
        have hF16 : FrS lv l c w w16 w.heap.size b3 b4 (tkAt l a) (St.mk 8 (callK (tkAt l a).text) 0 (bs []) 0 v' xs nl [] nl [] (tkAt l a).line (tkAt l a).col) a3 := hF15.put hm16 h16 ((hO15.off hm16 fun k q => by omega).low (by omega)) (hF15.bd.off hm16 fun k q => by omega) ⟨rfl, rfl⟩
        refine hF16.done hG hm2' (pe := ⟨8, callK (tkAt l a).text, 0, bs [], 0, nl, es, nl, [], nl, [], (tkAt l a).line, (tkAt l a).col⟩) (by rw [St.er_eq]; simp only [List.map_nil, hxs]; rfl) (stF (by decide) (u8_wf hrng.1 (by omega)) (by decide) (by decide) (by decide) tf3 tf4) ?_ ?_ ?_
        · rfl
        · rfl
        · rfl
end
end Go.Proofs.YtbnbcimjapiicaaDoor.Tr
set_option linter.unusedVariables false
set_option linter.unusedSimpArgs false
set_option maxRecDepth 4000
namespace Go.Proofs.YtbnbcimjapiicaaDoor.Tr
open Go Go.X Go.RowKit Go.Proofs.YtbnbcimjapiicaaDoor.XD Go.Proofs.YtbnbcimjapiicaaDoor.XK
section
variable {lv : Value} {l : List Tk} {c : Nat}
theorem block_step (hG : Good l) {n : Nat} (hn : n ≤ 1000) (hS : ∀ m, m ≤ n → StmtC lv l c m) : BlockC lv l c (n + 1) := by
  intro a r hr w hw
  rw [blockP] at hr
  cases hn1 : needP l a [123] with
  | none => rw [hn1] at hr; cases hr
  | some a1 =>
  rw [hn1] at hr
  dsimp only at hr
  obtain ⟨hm1, rfl⟩ := need_some hn1
  have hcw : c < w.heap.size := blk_lt hw.cur
  refine dispatcherref02_cursor_block_calls ?_
  unfold dispatcherref02_cursor_block_F
  refine CK_st Tryd.func86 rfl rfl (need_ok (s := [123]) hw hG hm1) ?_
  rintro _ w1 ⟨h1, hmm1⟩
  have hwl := hG.len
  refine W_loopG dispatcherref02_cursor_block_L0_ok (fun m ρ w' => ∃ (xs : List St) (a5 : Nat), m ≤ n ∧ xs.length + m ≤ n ∧ stmtsP l m (xs.map St.er) a5 = some r ∧ ρ 0 = pq c ∧ StsOwn w' w.heap.size (ρ 3) xs ∧ PW w' lv l c a5 ∧ Mod (fun i => i = c) w w') n
    ⟨[], a + 1, Nat.le_refl n, by simp, hr, rfl, StsOwn.nil _ _, h1, hmm1⟩ ?_
  rintro m ρ w2 ⟨xs, a5, hmn, hxn, hss, q0, hO, hp, hm⟩
  cases m with
  | zero => simp [stmtsP] at hss
  | succ m =>
  rw [stmtsP] at hss
  rw [dispatcherref02_cursor_block_L0_eq]
  unfold dispatcherref02_cursor_block_L0_F
  rw [q0]
  refine CK_st Tryd.func87 rfl rfl (good_ok hp) ?_
  rintro _ w3 ⟨rfl, rfl⟩
  simp only [↓VG_u, ↓UG_u, ↓MG_u, ↓NG_u, ↓PG_u, ↓BG_u, ↓CG_u, ↓IG_u, ↓VGtt, ↓VGtf, ↓VGft, ↓VGff, ↓UGtt, ↓UGtf, ↓UGft, ↓UGff, ↓MGtt, ↓MGtf, ↓MGft, ↓MGff, ↓NGtt, ↓NGtf, ↓NGft, ↓NGff, ↓PGtt, ↓PGtf, ↓PGft, ↓PGff, ↓BGtt, ↓BGtf, ↓BGft, ↓BGff, ↓CGtt, ↓CGtf, ↓CGft, ↓CGff, ↓IGtt, ↓IGtf, ↓IGft, ↓IGff, ↓PKt, ↓PKf, ↓CDt, ↓CDf, ↓NOTt, ↓NOTf, ↓NK_ptr]
  refine CK_st Tryd.func82 rfl rfl (may_ok hp hG [125]) ?_
  rintro _ w4 ⟨rfl, h4, hm4⟩
  have hO4 := hO.ne hm4 hp.cur (by decide) (by decide)
  have hm04 := hm.trans hm4
  cases hmy : mayP l a5 [125] with
  | true =>
    rw [hmy] at h4 hss
    simp only [if_true] at h4 hss
    cases hss
    simp only [↓VG_u, ↓UG_u, ↓MG_u, ↓NG_u, ↓PG_u, ↓BG_u, ↓CG_u, ↓IG_u, ↓VGtt, ↓VGtf, ↓VGft, ↓VGff, ↓UGtt, ↓UGtf, ↓UGft, ↓UGff, ↓MGtt, ↓MGtf, ↓MGft, ↓MGff, ↓NGtt, ↓NGtf, ↓NGft, ↓NGff, ↓PGtt, ↓PGtf, ↓PGft, ↓PGff, ↓BGtt, ↓BGtf, ↓BGft, ↓BGff, ↓CGtt, ↓CGtf, ↓CGft, ↓CGff, ↓IGtt, ↓IGtf, ↓IGft, ↓IGff, ↓PKt, ↓PKf, ↓CDt, ↓CDf, ↓NOTt, ↓NOTf, ↓NK_ptr]
    rw [sq_x, bk_x, sq_n, dispatcherref02_cursor_block_R1_eq]
    unfold dispatcherref02_cursor_block_R1_F
    exact ⟨xs, hO4, rfl, h4, hm04⟩
  | false =>
    rw [hmy] at h4 hss
    simp only [Bool.false_eq_true, if_false] at h4 hss
    cases hst : stmtP l m a5 with
    | none => rw [hst] at hss; cases hss
    | some q =>
    obtain ⟨ps, a6⟩ := q
    rw [hst] at hss
    dsimp only at hss
    simp only [↓VG_u, ↓UG_u, ↓MG_u, ↓NG_u, ↓PG_u, ↓BG_u, ↓CG_u, ↓IG_u, ↓VGtt, ↓VGtf, ↓VGft, ↓VGff, ↓UGtt, ↓UGtf, ↓UGft, ↓UGff, ↓MGtt, ↓MGtf, ↓MGft, ↓MGff, ↓NGtt, ↓NGtf, ↓NGft, ↓NGff, ↓PGtt, ↓PGtf, ↓PGft, ↓PGff, ↓BGtt, ↓BGtf, ↓BGft, ↓BGff, ↓CGtt, ↓CGtf, ↓CGft, ↓CGff, ↓IGtt, ↓IGtf, ↓IGft, ↓IGff, ↓PKt, ↓PKf, ↓CDt, ↓CDf, ↓NOTt, ↓NOTf, ↓NK_ptr]
    refine CK_st Tryd.func88 rfl rfl (hS m (by omega) a5 _ hst _ h4) ?_
    rintro _ w5 ⟨e, rfl, hg, h5, hm5⟩
    have hO5 := hO4.ne hm5 h4.cur (by decide) (by decide)
    have hs4 := hm04.size
    have hs5 := hm5.size
    have hm05 := hm04.trans hm5
    refine snocSt hO5 hg.own (hg.in_.mono fun k hk => ⟨by omega, fun q => by have := owns_lt hO4.row q.symm; omega⟩) (by omega) (by omega) fun y v' w6 hO6 hm6 _ => ?_
    have hrow : ∀ k, (ρ 3).ownBlock = some k → k ≠ c := fun k hk q => owns_ne_blk hO5.row h5.cur (by decide) (by rw [hk, q])
    have htk : ∀ k, lv.ownBlock = some k → some k ≠ (ρ 3).ownBlock := fun k hk q => owns_ne h5.toks hO5.row (by decide) k hk q
    refine ⟨m, Nat.lt_succ_self m, xs ++ [e], a6, by omega, by rw [List.length_append]; simp; omega, ?_, q0, hO6, h5.off2 hm6 (fun q => hrow c q.symm rfl) (fun k hk q => htk k hk q), hm05.then hm6 fun i hi q => ?_⟩
    · rw [List.map_append, List.map_singleton, hg.er]; exact hss
    · have := owns_low hO5.row q.symm
      omega
theorem stmtC_all (hG : Good l) : ∀ n, n ≤ 1000 → StmtC lv l c n ∧ BlockC lv l c n := by
  intro n
  induction n using Nat.strongRecOn with
  | ind n ih =>
    intro hn
    cases n with
    | zero => exact ⟨fun a r h => by simp [stmtP] at h, fun a r h => by simp [blockP] at h⟩
    | succ n => exact ⟨stmt_step hG (ih n (by omega) (by omega)).2, block_step hG (by omega) (fun m hm => (ih m (by omega) (by omega)).1)⟩
theorem stmt_ok (hG : Good l) (n : Nat) (hn : n ≤ 1000) : StmtC lv l c n := (stmtC_all hG n hn).1
end
end Go.Proofs.YtbnbcimjapiicaaDoor.Tr
set_option linter.unusedVariables false
set_option linter.unusedSimpArgs false
set_option maxRecDepth 4000
namespace Go.Proofs.YtbnbcimjapiicaaDoor.Tr
open Go Go.X Go.RowKit Go.Proofs.YtbnbcimjapiicaaDoor.XD Go.Proofs.YtbnbcimjapiicaaDoor.XK
abbrev tD : TypeId := 40
abbrev tP : TypeId := 25
abbrev tW : TypeId := 30
def zPc : Array Value := #[.slice none 0 0, .slice none 0 0]
def zWc : Array Value := #[.int .i64 0, .int .i64 0, .int .i64 0]
theorem zWr' : (Tryd.prog.info? 30).bind (·.zero) = some (.agg zWc) := by kernel_rfl
theorem iWr' : (Tryd.prog.info? 30).map (·.size) = some 3 := by kernel_rfl
structure DsOwn (w : World) (base : Nat) (v : Value) (l : List De) : Prop where
  row : w.ownsRow base tD 4 v l.length (l.flatMap De.cells)
  fine : ∀ a ∈ l, a.fine
theorem DsOwn.mod {S : Nat → Prop} {w w' : World} {base : Nat} {v : Value} {l : List De} (h : DsOwn w base v l) (hm : Mod S w w') (hS : ∀ k, v.ownBlock = some k → ¬ S k) : DsOwn w' base v l := ⟨owns_mod h.row hm hS, h.fine⟩
section
variable {lv : Value} {l : List Tk}
/-- A parser's variables: results, the program. -/
structure FrP (lv : Value) (l : List Tk) (c : Nat) (w0 w : World) (b2 b3 b5 : Nat) (p : Pr) (a : Nat) : Prop where
  h2 : w.heap[b2]? = some (.cells zPc tP (0, 0))
  h3 : w.heap[b3]? = some (.cells zWc tW (0, 0))
  h5 : w.heap[b5]? = some (.cells p.cells.toArray tP (0, 0))
  pw : PW w lv l c a
  m : Mod none_ w0 w
  lo : w0.heap.size ≤ b2 ∧ b2 < b3 ∧ b3 < c ∧ c < b5 ∧ ∀ g, lv.ownBlock = some g → g < w0.heap.size
  d : DsOwn w (b5 + 1) p.ds p.decls
  b : StsOwn w (b5 + 1) p.bs p.body
variable {c : Nat} {w0 w w' : World} {b2 b3 b5 : Nat} {p : Pr} {a : Nat}
theorem FrP.ltw (h : FrP lv l c w0 w b2 b3 b5 p a) : b5 < w.heap.size := blk_lt h.h5
theorem FrP.cur (h : FrP lv l c w0 w b2 b3 b5 p a) {a' : Nat} (hm : Mod (fun i => i = c) w w') (hp : PW w' lv l c a') : FrP lv l c w0 w' b2 b3 b5 p a' := by
  have := h.lo
  exact ⟨hm.blk h.h2 (by omega), hm.blk h.h3 (by omega), hm.blk h.h5 (by omega), hp, h.m.then hm fun i hi q => by omega, h.lo, h.d.mod hm (fun k hk q => by have := owns_low h.d.row hk; omega), h.b.off hm fun k q => by omega⟩
theorem FrP.mod0 (h : FrP lv l c w0 w b2 b3 b5 p a) (hm : Mod none_ w w') : FrP lv l c w0 w' b2 b3 b5 p a := h.cur (up1 hm) (h.pw.mod0 hm)
/-- A block above the program's that is no row of it. -/
theorem FrP.fresh (h : FrP lv l c w0 w b2 b3 b5 p a) {b : Nat} (hm : Mod (fun i => i = b) w w') (hb : b5 < b) (hd : p.ds.ownBlock ≠ some b) (hB : ∀ k, p.bs.ownBlock = some k → k ≠ b) (hB2 : ∀ z ∈ p.body, z.In fun k => k ≠ b) : FrP lv l c w0 w' b2 b3 b5 p a := by
  have := h.lo
  refine ⟨hm.blk h.h2 (by omega), hm.blk h.h3 (by omega), hm.blk h.h5 (by omega), h.pw.off hm fun k q => ⟨by omega, fun g hg => by have := h.lo.2.2.2.2 g hg; omega⟩, h.m.then hm fun i hi q => by omega, h.lo, h.d.mod hm (fun k hk q => hd (by rw [hk, q])), ⟨owns_mod h.b.row hm (fun k hk q => hB k hk q), fun z hz => (h.b.own z hz).mod hm ((hB2 z hz).mono fun k hk q => hk q), h.b.at_⟩⟩
/-- 'p.Body = append(p.Body, c.stmt())', whatever comes first. -/
theorem FrP.addS (h : FrP lv l c w0 w b2 b3 b5 p a) (hG : Good l) {n a' : Nat} {ps : St} (hn : n ≤ 1000) (hst : stmtP l n a = some (ps, a')) (hlen : p.body.length < 1099511627776) {K1 K2 K3 : Value → Value → Value → Value → Value → Value → World → Prop}
    (hK : ∀ (w' : World) (x : St) (v' : Value), FrP lv l c w0 w' b2 b3 b5 ⟨p.ds, p.decls, v', p.body ++ [x]⟩ a' → x.er = ps → ∀ x1 x2 x3 x4 x5 x6, K1 x1 x2 x3 x4 x5 x6 w' ∧ K2 x1 x2 x3 x4 x5 x6 w' ∧ K3 x1 x2 x3 x4 x5 x6 w') :
    HK Tryd.prog (fun _ => True) (do pure (Next.value (← Instr.fieldAt 25 (pq b5) 1))) fun x26 => (VK Tryd.prog (Instr.loadAt 23 x26) w fun x27 w => True ∧ (CK Tryd.prog (.func (.func 88) #[] #[]) [pq c] w fun x29 w => True ∧ (VK Tryd.prog (Instr.buildSlice 23 1 [(0, x29)].toArray) w fun x30 w => True ∧ (IK Tryd.prog .append #[23, 23] 23 [false, false] [x27, x30] w fun x31 w => True ∧ (HK Tryd.prog (fun _ => True) (do pure (Next.value (← Instr.fieldAt 25 (pq b5) 1))) fun x32 => UK Tryd.prog (Instr.storeAt 23 x32 x31) w fun _ w => True ∧ K1 x26 x27 x29 x30 x31 x32 w))))) ∧
      (CK Tryd.prog (.func (.func 88) #[] #[]) [pq c] w fun x29 w => True ∧ ((VK Tryd.prog (Instr.loadAt 23 x26) w fun x27 w => True ∧ (VK Tryd.prog (Instr.buildSlice 23 1 [(0, x29)].toArray) w fun x30 w => True ∧ (IK Tryd.prog .append #[23, 23] 23 [false, false] [x27, x30] w fun x31 w => True ∧ (HK Tryd.prog (fun _ => True) (do pure (Next.value (← Instr.fieldAt 25 (pq b5) 1))) fun x32 => UK Tryd.prog (Instr.storeAt 23 x32 x31) w fun _ w => True ∧ K2 x26 x27 x29 x30 x31 x32 w)))) ∧
        (VK Tryd.prog (Instr.buildSlice 23 1 [(0, x29)].toArray) w fun x30 w => True ∧ (VK Tryd.prog (Instr.loadAt 23 x26) w fun x27 w => True ∧ (IK Tryd.prog .append #[23, 23] 23 [false, false] [x27, x30] w fun x31 w => True ∧ (HK Tryd.prog (fun _ => True) (do pure (Next.value (← Instr.fieldAt 25 (pq b5) 1))) fun x32 => UK Tryd.prog (Instr.storeAt 23 x32 x31) w fun _ w => True ∧ K3 x26 x27 x29 x30 x31 x32 w)))))) := by
  have lo := h.lo
  have hltw := h.ltw
  refine HV_of (fun w' _ => run_fo (off := 1) (by kernel_rfl) _ w') ?_
  have ld : ∀ {w' : World} {K : Value → World → Prop}, w'.heap[b5]? = some (.cells p.cells.toArray tP (0, 0)) → K p.bs w' → VK Tryd.prog (Instr.loadAt 23 (.pointer (some ((⟨b5, 0, none⟩ : Addr).add 1)))) w' K := fun h hk => ld1 uSts rfl (by rw [add_pl, cell_blk h]; rfl) hk
  have ex : ∀ {w' : World} (hm : Mod none_ w w') {K : Value → World → Prop}, (∀ (w2 : World) (x : St), x.er = ps → x.Own w2 tE tS → (x.In fun k => w'.heap.size ≤ k) → FrP lv l c w0 w2 b2 b3 b5 p a' → w'.heap.size ≤ w2.heap.size → K (.agg x.cells.toArray) w2) → CK Tryd.prog (.func (.func 88) #[] #[]) [pq c] w' K := by
    intro w' hm K hk
    refine CK_st Tryd.func88 rfl rfl (stmt_ok hG n hn a _ hst w' (h.pw.mod0 hm)) ?_
    rintro _ w2 ⟨x, rfl, hg, h2, hm2⟩
    exact hk _ _ hg.er hg.own hg.in_ ((h.mod0 hm).cur hm2 h2) hm2.size
  have tail : ∀ {w2 w3 : World} {x : St} {y : Value} {K : Value → Value → World → Prop}, FrP lv l c w0 w2 b2 b3 b5 p a' → w.heap.size ≤ w2.heap.size → Mod none_ w2 w3 → x.er = ps → x.Own w2 tE tS → (x.In fun k => w.heap.size ≤ k ∧ k < w2.heap.size) → reads w3 10 y 1 x.cells → (∀ k, p.bs.ownBlock = some k → k < w.heap.size) →
      (∀ v' w', FrP lv l c w0 w' b2 b3 b5 ⟨p.ds, p.decls, v', p.body ++ [x]⟩ a' → ∀ u, K v' u w') →
      IK Tryd.prog .append #[23, 23] 23 [false, false] [p.bs, y] w3 fun x31 w => True ∧ (HK Tryd.prog (fun _ => True) (do pure (Next.value (← Instr.fieldAt 25 (pq b5) 1))) fun x32 => UK Tryd.prog (Instr.storeAt 23 x32 x31) w fun _ w => True ∧ K x31 x32 w) := by
    intro w2 w3 x y K hF2 hs2 hm23 her hox hix hy hbs hk
    have hF3 := hF2.mod0 hm23
    have hs3 := hm23.size
    refine appSt (m := [x]) hF3.b (by simpa using hy) (by simp) ?_ (by simp; omega) (by omega) fun v' w4 hO4 hm4 hg4 => ⟨trivial, HV_of (fun w' _ => run_fo (off := 1) (by kernel_rfl) _ w') ?_⟩
    · intro z hz
      rw [List.mem_singleton.1 hz]
      exact ⟨hox.mod0 hm23, hix.mono fun k hk => ⟨by omega, fun q => by have := hbs k q.symm; omega⟩⟩
    · have hrow : ∀ k, p.bs.ownBlock = some k → b5 + 1 ≤ k := fun k hk => owns_low hF3.b.row hk
      have hno : ∀ k, k ≤ b5 → ¬ some k = p.bs.ownBlock := fun k hk q => by have := hrow k q.symm; omega
      have hb4 := hm4.blk hF3.h5 (hno b5 (Nat.le_refl _))
      refine stC (b := b5) (o := 0 + 1) (by rw [add_pl]) (by kernel_rfl) (owns_slice hO4.row) hb4 (by simp [Pr.cells]) fun w5 hb5 hm5 hz5 => ⟨trivial, ?_⟩
      have hcs : p.cells.toArray.setIfInBounds (0 + 1) v' = (Pr.cells ⟨p.ds, p.decls, v', p.body ++ [x]⟩).toArray := rfl
      rw [hcs] at hb5
      have hds : ∀ k, p.ds.ownBlock = some k → ¬ some k = p.bs.ownBlock := fun k hk q => owns_ne hF3.d.row hF3.b.row (by decide) k hk q
      refine hk v' w5 ⟨hm5.blk (hm4.blk hF3.h2 (hno _ (by omega))) (by omega), hm5.blk (hm4.blk hF3.h3 (hno _ (by omega))) (by omega), hb5, ?_, ?_, lo, ?_, ?_⟩ _
      · refine (hF3.pw.off2 hm4 (hno _ (by omega)) fun k hk q => ?_).off hm5 fun k q => ⟨by omega, fun g hg => by have := lo.2.2.2.2 g hg; omega⟩
        exact owns_ne hF3.pw.toks hF3.b.row (by decide) k hk q
      · exact (hF3.m.then hm4 fun i hi q => by have := hrow i q.symm; omega).then hm5 fun i hi q => by omega
      · exact (hF3.d.mod hm4 hds).mod hm5 fun k hk q => by have := owns_low hF3.d.row hk; omega
      · exact hO4.off hm5 fun k q => by omega
  have hbs : ∀ k, p.bs.ownBlock = some k → k < w.heap.size := fun k hk => owns_lt h.b.row hk
  have rd : ∀ {w2 w3 : World} {x : St}, w3.heap[w2.heap.size]? = some (.cells x.cells.toArray (Tryd.prog.elem 23) (0, 0)) → reads w3 10 (.slice (some ⟨w2.heap.size, 0, none⟩) 1 1) 1 x.cells := fun h => by simpa using reads_blk (size := 10) (n := 1) h rfl
  constructor
  · refine ld h.h5 ⟨trivial, ?_⟩
    refine ex (Mod.refl _ w) fun w2 x her hox hix hF2 hs2 => ⟨trivial, ?_⟩
    refine bs_k (cs := x.cells.toArray) (by kernel_rfl) fun w3 h3 hm3 hz3 => ⟨trivial, ?_⟩
    exact tail hF2 hs2 hm3 her hox (hix.and hox.lt) (rd h3) hbs fun v' w' hF' u => (hK w' x v' hF' her _ _ _ _ _ _).1
  · refine ex (Mod.refl _ w) fun w2 x her hox hix hF2 hs2 => ⟨trivial, ?_⟩
    constructor
    · refine ld hF2.h5 ⟨trivial, ?_⟩
      refine bs_k (cs := x.cells.toArray) (by kernel_rfl) fun w3 h3 hm3 hz3 => ⟨trivial, ?_⟩
      exact tail hF2 hs2 hm3 her hox (hix.and hox.lt) (rd h3) hbs fun v' w' hF' u => (hK w' x v' hF' her _ _ _ _ _ _).2.1
    · refine bs_k (cs := x.cells.toArray) (by kernel_rfl) fun w3 h3 hm3 hz3 => ⟨trivial, ?_⟩
      refine ld (hF2.mod0 hm3).h5 ⟨trivial, ?_⟩
      exact tail hF2 hs2 hm3 her hox (hix.and hox.lt) (rd h3) hbs fun v' w' hF' u => (hK w' x v' hF' her _ _ _ _ _ _).2.2
end
end Go.Proofs.YtbnbcimjapiicaaDoor.Tr
set_option linter.unusedVariables false
set_option linter.unusedSimpArgs false
set_option maxRecDepth 4000
namespace Go.Proofs.YtbnbcimjapiicaaDoor.Tr
open Go Go.X Go.RowKit Go.Proofs.YtbnbcimjapiicaaDoor.XD Go.Proofs.YtbnbcimjapiicaaDoor.XK
section
variable {lv : Value} {l : List Tk} {c : Nat} {w0 w w' : World} {b2 b3 b5 : Nat} {p : Pr} {a : Nat}
theorem bDe (s : Bs) (x y : Int) : Tryd.prog.built 40 [(0, txt s), (2, .int .i64 x), (3, .int .i64 y)] = some (De.mk (bs s) 0 x y).cells.toArray := by kernel_rfl
theorem deFine (s : Bs) (x y : Int) (h1 : (bs s).size ≤ maxLen) (h2 : (Lit.int .i64 x).wf = true) (h3 : (Lit.int .i64 y).wf = true) : (De.mk (bs s) 0 x y).fine := ⟨h1, (by decide : (Lit.int .i64 0).wf = true), h2, h3⟩
theorem zDe' : (Tryd.prog.info? 40).bind (·.zero) = some (.agg (De.mk (bs []) 0 0 0).cells.toArray) := by kernel_rfl
/-- Words' class is asked for the declaration's end: its sign, the declaration more. -/
theorem decl_end (h : FrP lv l c w0 w b2 b3 b5 p a) (hG : Good l) (hs : mayP l a [59] = true) {b7 : Nat} {d : De} (hd : w.heap[b7]? = some (.cells d.cells.toArray tD (0, 0))) (hf : d.fine) (hb7 : b5 < b7) (hrow : ∀ k, p.ds.ownBlock = some k → k ≠ b7) (hlen : p.decls.length < 1000000) {ρ : Sl} (q4 : ρ 4 = pq c) (q5 : ρ 5 = pq b5) (q7 : ρ 7 = pq b7) {K : Exit → Sl → World → Prop}
    (hK : ∀ w' v' ρ', FrP lv l c w0 w' b2 b3 b5 ⟨v', p.decls ++ [d], p.bs, p.body⟩ (a + 1) → ρ' 0 = ρ 0 → ρ' 4 = pq c → ρ' 5 = pq b5 → ρ' 2 = ρ 2 → ρ' 3 = ρ 3 → K .normal ρ' w') : sx fn_ Tryd.prog 105 dispatcherref02_Parse_R6 K ρ w := by
  have lo := h.lo
  rw [dispatcherref02_Parse_R6_eq]
  unfold dispatcherref02_Parse_R6_F
  rw [q4, q5, q7]
  refine CK_st Tryd.func86 rfl rfl (need_ok (s := [59]) h.pw hG hs) ?_
  rintro _ w1 ⟨h1, hm1⟩
  have hF1 := h.cur hm1 h1
  have hd1 := hm1.blk hd (by omega)
  have f0 : FO Tryd.prog w1 25 0 0 ⟨b5, 0, none⟩ 22 p.ds := FO.blk hF1.h5 (by kernel_rfl) uDes rfl rfl
  simp only [↓f0.e]
  refine ldS (cs := d.cells.toArray) rfl Tryd.underlying40 rfl iDe hd1 ?_
  have hltw := hF1.ltw
  refine snoc (cs := d.cells.toArray) eDes hF1.d.row (by kernel_rfl) rfl (by intro u hu; have := de_one d; rw [Array.all_eq_true_iff_forall_mem] at this; exact this u (by simpa using hu)) (by unfold maxLen; omega) (by omega) (by omega) fun y v' w2 ho2 hm2 _ => ?_
  have hlow : ∀ k, p.ds.ownBlock = some k → b5 + 1 ≤ k := fun k hk => owns_low hF1.d.row hk
  have hno : ∀ k, k ≤ b5 → ¬ some k = p.ds.ownBlock := fun k hk q => by have := hlow k q.symm; omega
  refine fst_k (off := 0) (by kernel_rfl) (by kernel_rfl) (owns_slice ho2) (hm2.blk hF1.h5 (hno _ (Nat.le_refl _))) (by simp [Pr.cells]) (cs' := (Pr.cells ⟨v', p.decls ++ [d], p.bs, p.body⟩).toArray) rfl fun x w3 h3 hm3 hz3 => ?_
  have hdrow : w2.ownsRow (b5 + 1) tD 4 v' (p.decls ++ [d]).length ((p.decls ++ [d]).flatMap De.cells) := by
    rw [List.length_append, List.flatMap_append]; simpa using ho2
  have hbd : ∀ k, p.bs.ownBlock = some k → ¬ some k = p.ds.ownBlock := fun k hk q => owns_ne hF1.b.row hF1.d.row (by decide) k hk q
  have hbd2 : ∀ z ∈ p.body, z.In fun k => ¬ some k = p.ds.ownBlock := by
    intro z hz
    cases hq : p.ds.ownBlock with
    | none => exact (hF1.b.own z hz).lt.mono fun k _ q => by cases q
    | some g =>
      obtain ⟨cur, hcur⟩ := owns_blk hF1.d.row hq
      exact ((hF1.b.own z hz).ne hcur (by decide) (by decide)).mono fun k hk q => hk (by injection q)
  refine hK w3 v' _ ⟨hm3.blk (hm2.blk hF1.h2 (hno _ (by omega))) (by omega), hm3.blk (hm2.blk hF1.h3 (hno _ (by omega))) (by omega), h3, ?_, ?_, lo, ?_, ?_⟩ ?_ ?_ ?_ ?_ ?_
  · refine (hF1.pw.off2 hm2 (hno _ (by omega)) fun k hk q => ?_).off hm3 fun k q => ⟨by omega, fun g hg => by have := lo.2.2.2.2 g hg; omega⟩
    exact owns_ne hF1.pw.toks hF1.d.row (by decide) k hk q
  · exact (hF1.m.then hm2 fun i hi q => by have := hlow i q.symm; omega).then hm3 fun i hi q => by omega
  · refine DsOwn.mod (w := w2) ⟨hdrow, fun z hz => ?_⟩ hm3 fun k hk q => by have := owns_low hdrow hk; omega
    rcases List.mem_append.1 hz with hz | hz
    · exact hF1.d.fine z hz
    · rw [List.mem_singleton.1 hz]; exact hf
  · have hB2 : StsOwn w2 (b5 + 1) p.bs p.body := ⟨owns_mod hF1.b.row hm2 hbd, fun z hz => (hF1.b.own z hz).mod hm2 (hbd2 z hz), hF1.b.at_⟩
    exact hB2.off hm3 fun k q => by omega
  · rfl
  · exact q4
  · exact q5
  · rfl
  · rfl
/-- A declaration, its name told. -/
theorem decl_mid (h : FrP lv l c w0 w b2 b3 b5 p a) (hG : Good l) {m : Nat} {name : Bs} {ln cl : Int} {r : List De × Nat}
    (hr : (if mayP l a [91] then (if (tkAt l (a + 1)).kind = 2 ∧ 1 ≤ (tkAt l (a + 1)).num ∧ (tkAt l (a + 1)).num ≤ 1000 then (match needP l (a + 2) [93] with | none => none | some a1 => match needP l a1 [59] with | none => none | some a2 => declsP l m (p.decls ++ [⟨bs name, (tkAt l (a1 - 2)).num, ln, cl⟩]) a2) else none) else (match needP l a [59] with | none => none | some a1 => declsP l m (p.decls ++ [⟨bs name, 0, ln, cl⟩]) a1)) = some r)
    {b7 : Nat} (hd : w.heap[b7]? = some (.cells (De.mk (bs name) 0 ln cl).cells.toArray tD (0, 0))) (hf : (De.mk (bs name) 0 ln cl).fine) (hb7 : b5 < b7) (hrow : ∀ k, p.ds.ownBlock = some k → k ≠ b7) (hbs : p.bs = nl) (hbd : p.body = []) (hlen : p.decls.length < 1000000) {ρ : Sl} (q4 : ρ 4 = pq c) (q5 : ρ 5 = pq b5) (q7 : ρ 7 = pq b7) {K : Exit → Sl → World → Prop}
    (hK : ∀ w' v' d a' ρ', declsP l m (p.decls ++ [d]) a' = some r → FrP lv l c w0 w' b2 b3 b5 ⟨v', p.decls ++ [d], p.bs, p.body⟩ a' → ρ' 0 = ρ 0 → ρ' 4 = pq c → ρ' 5 = pq b5 → ρ' 2 = ρ 2 → ρ' 3 = ρ 3 → K .normal ρ' w') : sx fn_ Tryd.prog 105 dispatcherref02_Parse_R3 (blkK 1 K) ρ w := by
  have lo := h.lo
  rw [dispatcherref02_Parse_R3_eq]
  unfold dispatcherref02_Parse_R3_F
  rw [q4, q7]
  refine CK_st Tryd.func82 rfl rfl (may_ok h.pw hG [91]) ?_
  rintro _ w1 ⟨rfl, h1, hm1⟩
  cases hmy : mayP l a [91] with
  | true =>
    rw [hmy] at h1 hr
    simp only [if_true] at h1 hr
    split at hr
    rotate_left
    · cases hr
    rename_i hnum
    cases hn1 : needP l (a + 2) [93] with
    | none => rw [hn1] at hr; cases hr
    | some a1 =>
    rw [hn1] at hr
    dsimp only at hr
    obtain ⟨hm1', rfl⟩ := need_some hn1
    cases hn2 : needP l (a + 2 + 1) [59] with
    | none => rw [hn2] at hr; cases hr
    | some a2 =>
    rw [hn2] at hr
    dsimp only at hr
    obtain ⟨hm2', rfl⟩ := need_some hn2
    rw [show a + 2 + 1 - 2 = a + 1 by omega] at hr
    have hF1 := h.cur hm1 h1
    have hd1 := hm1.blk hd (by omega)
    refine condT ?_
    refine CK_st Tryd.func85 rfl rfl (number_ok hF1.pw hG hnum.1 hnum.2.1 hnum.2.2) ?_
    rintro _ w2 ⟨rfl, h2, hm2⟩
    have hF2 := hF1.cur hm2 h2
    refine fst_k (off := 1) (by kernel_rfl) (by kernel_rfl) rfl (hm2.blk hd1 (by omega)) (by simp [De.cells]) (cs' := (De.mk (bs name) (tkAt l (a + 1)).num ln cl).cells.toArray) rfl fun x w3 h3 hm3 hz3 => ?_
    have hF3 := hF2.fresh hm3 hb7 (fun q => hrow b7 q rfl) (fun k hk => by rw [hbs] at hk; simp [nl, Value.ownBlock] at hk) (by rw [hbd]; simp)
    refine CK_st Tryd.func86 rfl rfl (need_ok (s := [93]) hF3.pw hG hm1') ?_
    rintro _ w4 ⟨h4, hm4⟩
    have hF4 := hF3.cur hm4 h4
    obtain ⟨_, vf2, _⟩ := tk_fine hG (a + 1)
    refine decl_end (d := De.mk (bs name) (tkAt l (a + 1)).num ln cl) hF4 hG hm2' (hm4.blk h3 (by omega)) ⟨hf.1, vf2, hf.2.2⟩ hb7 hrow hlen ?_ ?_ ?_ fun w' v' ρ' hF' p0 p4 p5 p2 p3 => ?_
    · exact q4
    · exact q5
    · exact q7
    · rw [bk_n]
      exact hK w' v' _ _ ρ' hr hF' p0 p4 p5 p2 p3
  | false =>
    rw [hmy] at h1 hr
    simp only [Bool.false_eq_true, if_false] at h1 hr
    cases hn1 : needP l a [59] with
    | none => rw [hn1] at hr; cases hr
    | some a1 =>
    rw [hn1] at hr
    dsimp only at hr
    obtain ⟨hm1', rfl⟩ := need_some hn1
    have hF1 := h.cur hm1 h1
    refine condF ?_
    refine decl_end (d := De.mk (bs name) 0 ln cl) hF1 hG hm1' (hm1.blk hd (by omega)) hf hb7 hrow hlen ?_ ?_ ?_ fun w' v' ρ' hF' p0 p4 p5 p2 p3 => ?_
    · exact q4
    · exact q5
    · exact q7
    · rw [bk_n]
      exact hK w' v' _ _ ρ' hr hF' p0 p4 p5 p2 p3
theorem len_tks {A : Option Addr} {n cp : Nat} (cs : List Bool) {w : World} {K : Value → World → Prop} : IK Tryd.prog .len #[92] 3 cs [.slice A n cp] w K = K (.int .i64 n) w := len_sl uTks cs A n cp
theorem hone (p : Pr) (h1 : p.ds.oneCell' = true) (h2 : p.bs.oneCell' = true) : p.cells.toArray.all (·.oneCell') = true := by simp [Pr.cells, h1, h2]
theorem bWrg : Tryd.prog.built tW [(0, .int .i64 20)] = some #[.int .i64 20, .int .i64 0, .int .i64 0] := by kernel_rfl
theorem bWrZ : Tryd.prog.built tW [] = some zWc := by kernel_rfl
theorem iPr' : (Tryd.prog.info? tP).map (·.size) = some 2 := by kernel_rfl
/-- The words are out: what lies there is handed back. -/
theorem parse_last (h : FrP lv l c w0 w b2 b3 b5 p a) (ha : l.length ≤ a) (hdp : St.deepAt p.body 1 ≤ 32) (hf : p.fits) {ρ : Sl} (q0 : ρ 0 = lv) (q4 : ρ 4 = pq c) (q5 : ρ 5 = pq b5) (q2 : ρ 2 = pq b2) (q3 : ρ 3 = pq b3) {A : Option Addr} {cp : Nat} (hlv : lv = .slice A l.length cp) {R : Value → World → Prop}
    (hR : ∀ w', PrOwn w' w0.heap.size p → Mod none_ w0 w' → R (.tuple #[.agg p.cells.toArray, .agg zWc]) w') : sx fn_ Tryd.prog 105 dispatcherref02_Parse_R5 (retK Tryd.prog [ResultVar.cell 2 tP, ResultVar.cell 3 tW] R) ρ w := by
  have lo := h.lo
  rw [dispatcherref02_Parse_R5_eqR]
  unfold dispatcherref02_Parse_R5_FR
  rw [q0, q2, q3, q4, q5, hlv, build_ok bWrg]
  refine lcl_k (cs := #[.int .i64 20, .int .i64 0, .int .i64 0]) zWr' _ iWr' rfl (by kernel_rfl) fun w1 hb1 hm1 hz1 => ?_
  have hF1 := h.mod0 hm1
  refine CK_st Tryd.func87 rfl rfl (good_ok hF1.pw) ?_
  rintro _ w2 ⟨rfl, rfl⟩
  obtain ⟨f0, f1, f2⟩ := cur_fo hF1.pw
  simp only [↓VG_u, ↓UG_u, ↓MG_u, ↓NG_u, ↓PG_u, ↓BG_u, ↓CG_u, ↓IG_u, ↓VGtt, ↓VGtf, ↓VGft, ↓VGff, ↓UGtt, ↓UGtf, ↓UGft, ↓UGff, ↓MGtt, ↓MGtf, ↓MGft, ↓MGff, ↓NGtt, ↓NGtf, ↓NGft, ↓NGff, ↓PGtt, ↓PGtf, ↓PGft, ↓PGff, ↓BGtt, ↓BGtf, ↓BGft, ↓BGff, ↓CGtt, ↓CGtf, ↓CGft, ↓CGff, ↓IGtt, ↓IGtf, ↓IGft, ↓IGff, ↓PKt, ↓PKf, ↓CDt, ↓CDf, ↓NOTt, ↓NOTf, ↓NK_ptr]
  refine CK_st Tryd.func87 rfl rfl (good_ok hF1.pw) ?_
  rintro _ w2 ⟨rfl, rfl⟩
  simp only [↓VG_u, ↓UG_u, ↓MG_u, ↓NG_u, ↓PG_u, ↓BG_u, ↓CG_u, ↓IG_u, ↓VGtt, ↓VGtf, ↓VGft, ↓VGff, ↓UGtt, ↓UGtf, ↓UGft, ↓UGff, ↓MGtt, ↓MGtf, ↓MGft, ↓MGff, ↓NGtt, ↓NGtf, ↓NGft, ↓NGff, ↓PGtt, ↓PGtf, ↓PGft, ↓PGff, ↓BGtt, ↓BGtf, ↓BGft, ↓BGff, ↓CGtt, ↓CGtf, ↓CGft, ↓CGff, ↓IGtt, ↓IGtf, ↓IGft, ↓IGff, ↓PKt, ↓PKf, ↓CDt, ↓CDf, ↓NOTt, ↓NOTf, ↓NK_ptr]
  refine ldS (cs := p.cells.toArray) rfl Tryd.underlying25 rfl iPr' hF1.h5 ?_
  have hO : PrOwn w2 (b5 + 1) p := ⟨hF1.d.row, hF1.d.fine, hF1.b⟩
  refine CK_st Tryd.func57 rfl rfl (DeepR_ok hO.ok hf) ?_
  rintro _ w3 ⟨rfl, hm3⟩
  have hF3 := hF1.mod0 hm3
  have hO3 := hO.mod0 hm3
  simp only [↓VG_u, ↓UG_u, ↓MG_u, ↓NG_u, ↓PG_u, ↓BG_u, ↓CG_u, ↓IG_u, ↓VGtt, ↓VGtf, ↓VGft, ↓VGff, ↓UGtt, ↓UGtf, ↓UGft, ↓UGff, ↓MGtt, ↓MGtf, ↓MGft, ↓MGff, ↓NGtt, ↓NGtf, ↓NGft, ↓NGff, ↓PGtt, ↓PGtf, ↓PGft, ↓PGff, ↓BGtt, ↓BGtf, ↓BGft, ↓BGff, ↓CGtt, ↓CGtf, ↓CGft, ↓CGff, ↓IGtt, ↓IGtf, ↓IGft, ↓IGff, ↓PKt, ↓PKf, ↓CDt, ↓CDf, ↓NOTt, ↓NOTf, ↓NK_ptr, ↓GTf (show ((St.deepAt p.body 1 : Nat) : Int) ≤ 32 by omega)]
  refine ldS (cs := p.cells.toArray) rfl Tryd.underlying25 rfl iPr' hF3.h5 ?_
  rw [build_ok bWrZ]
  refine stS (old := zPc) (cs := p.cells.toArray) rfl rfl iPr' rfl (hone _ (owns_slice hO3.d) (owns_slice hO3.b.row)) hF3.h2 fun w4 h4 hm4 hz4 => ?_
  refine stS (old := zWc) (cs := zWc) rfl rfl iWr' rfl (by kernel_rfl) (hm4.blk hF3.h3 (by omega)) fun w5 h5 hm5 hz5 => ?_
  refine rsCell (R := fun v w' => ∃ x3, (do loadVar tW (← asAddr (pq b3)) : Sem Value).run Tryd.prog w' = .ok x3 w' ∧ R (.tuple #[v, x3]) w') (cs := p.cells.toArray) rfl Tryd.underlying25 rfl iPr' (hm5.blk h4 (by omega)) ?_
  refine rsCell (R := fun x3 w' => R (.tuple #[.agg p.cells.toArray, x3]) w') (cs := zWc) rfl Tryd.underlying30 rfl iWr' h5 ?_
  refine hR _ ?_ ((hF3.m.then hm4 fun i hi q => by omega).then hm5 fun i hi q => by omega)
  have e1 : ∀ {S : Nat → Prop} {u u' : World}, PrOwn u (b5 + 1) p → Mod S u u' → (∀ k, S k → k < b5 + 1) → PrOwn u' (b5 + 1) p := fun hO hm hS => ⟨owns_mod hO.d hm fun k hk q => by have := owns_low hO.d hk; have := hS k q; omega, hO.f, hO.b.off hm hS⟩
  have hO5 := e1 (e1 hO3 hm4 fun k q => by omega) hm5 fun k q => by omega
  exact ⟨owns_base hO5.d (by omega), hO5.f, hO5.b.low (by omega)⟩
/-- The body's statements, one after another. -/
theorem parse_body (hG : Good l) {fuel : Nat} (hfu : fuel ≤ 1000) {ssF : List St} {v : Value} {ds : List De} (h : FrP lv l c w0 w b2 b3 b5 ⟨v, ds, nl, []⟩ a) (hbs : bodyP l fuel (l.length + 1) [] a = some ssF) (hdp : St.deepAt ssF 1 ≤ 32) (hf : Pr.fits ⟨nl, ds, nl, ssF⟩) {ρ : Sl} (q0 : ρ 0 = lv) (q4 : ρ 4 = pq c) (q5 : ρ 5 = pq b5) (q2 : ρ 2 = pq b2) (q3 : ρ 3 = pq b3) {A : Option Addr} {cp : Nat} (hlv : lv = .slice A l.length cp) {R : Value → World → Prop}
    (hR : ∀ w' q, Pr.er q = ⟨nl, ds, nl, ssF⟩ → PrOwn w' w0.heap.size q → Mod none_ w0 w' → R (.tuple #[.agg q.cells.toArray, .agg zWc]) w') : sx fn_ Tryd.prog 105 dispatcherref02_Parse_R1 (retK Tryd.prog [ResultVar.cell 2 tP, ResultVar.cell 3 tW] R) ρ w := by
  subst hlv
  have lo := h.lo
  have hwl := hG.len
  rw [dispatcherref02_Parse_R1_eq]
  unfold dispatcherref02_Parse_R1_F
  refine W_loopG dispatcherref02_Parse_L4_ok (fun m ρ w' => ∃ (v' : Value) (ss : List St) (a : Nat), bodyP l fuel m (ss.map St.er) a = some ssF ∧ ss.length + m ≤ l.length + 1 ∧ ρ 0 = .slice A l.length cp ∧ ρ 4 = pq c ∧ ρ 5 = pq b5 ∧ ρ 2 = pq b2 ∧ ρ 3 = pq b3 ∧ FrP (.slice A l.length cp) l c w0 w' b2 b3 b5 ⟨v, ds, v', ss⟩ a) (l.length + 1)
    ⟨nl, [], a, hbs, by simp, q0, q4, q5, q2, q3, h⟩ ?_
  rintro m ρ w5 ⟨v', ss, a, hbd, hlen, q0, q4, q5, q2, q3, hF5⟩
  cases m with
  | zero => simp [bodyP] at hbd
  | succ m =>
  rw [bodyP] at hbd
  rw [dispatcherref02_Parse_L4_eq]
  unfold dispatcherref02_Parse_L4_F
  rw [q0, q4]
  refine CK_st Tryd.func87 rfl rfl (good_ok hF5.pw) ?_
  rintro _ w6 ⟨rfl, rfl⟩
  obtain ⟨f0, f1, f2⟩ := cur_fo hF5.pw
  by_cases hlt : a < l.length
  · rw [if_pos hlt] at hbd
    cases hst : stmtP l fuel a with
    | none => rw [hst] at hbd; cases hbd
    | some q =>
    obtain ⟨ps, a1⟩ := q
    rw [hst] at hbd
    dsimp only at hbd
    simp only [↓VG_u, ↓UG_u, ↓MG_u, ↓NG_u, ↓PG_u, ↓BG_u, ↓CG_u, ↓IG_u, ↓VGtt, ↓VGtf, ↓VGft, ↓VGff, ↓UGtt, ↓UGtf, ↓UGft, ↓UGff, ↓MGtt, ↓MGtf, ↓MGft, ↓MGff, ↓NGtt, ↓NGtf, ↓NGft, ↓NGff, ↓PGtt, ↓PGtf, ↓PGft, ↓PGff, ↓BGtt, ↓BGtf, ↓BGft, ↓BGff, ↓CGtt, ↓CGtf, ↓CGft, ↓CGff, ↓IGtt, ↓IGtf, ↓IGft, ↓IGff, ↓PKt, ↓PKf, ↓CDt, ↓CDf, ↓NOTt, ↓NOTf, ↓NK_ptr, ↓f1.e, ↓len_tks, ↓LTt (show ((a : Nat) : Int) < (l.length : Int) by omega)]
    have st : ∀ (ρ2 : Sl), ρ2 0 = .slice A l.length cp → ρ2 4 = pq c → ρ2 5 = pq b5 → ρ2 2 = pq b2 → ρ2 3 = pq b3 → ∀ K : Exit → Sl → World → Prop, (∀ ρ' w', (∃ m', m' < m + 1 ∧ ∃ (v' : Value) (ss : List St) (a : Nat), bodyP l fuel m' (ss.map St.er) a = some ssF ∧ ss.length + m' ≤ l.length + 1 ∧ ρ' 0 = .slice A l.length cp ∧ ρ' 4 = pq c ∧ ρ' 5 = pq b5 ∧ ρ' 2 = pq b2 ∧ ρ' 3 = pq b3 ∧ FrP (.slice A l.length cp) l c w0 w' b2 b3 b5 ⟨v, ds, v', ss⟩ a) → K .normal ρ' w') → W fn_ Tryd.prog 105 dispatcherref02_Parse_R7 (blkK 3 K) ρ2 w6 := by
      intro ρ2 p0 p4 p5 p2 p3 K hK
      refine dispatcherref02_Parse_R7_held (D := []) (fun _ => True) trivial ?_
      unfold dispatcherref02_Parse_R7_H
      rw [p5, p4]
      have hd8 : Mod none_ w6 { w6 with drawn := w6.drawn + 1 } := (Mod.refl _ w6).drawn _
      refine (hF5.mod0 hd8).addS hG hfu hst (by show ss.length < _; omega) fun w' x v2 hF' hx => ?_
      have fin : ∀ (ρ' : Sl), ρ' 0 = .slice A l.length cp → ρ' 4 = pq c → ρ' 5 = pq b5 → ρ' 2 = pq b2 → ρ' 3 = pq b3 → blkK 3 K .normal ρ' w' := by
        intro ρ' p0 p4 p5 p2 p3
        exact hK _ _ ⟨m, Nat.lt_succ_self m, v2, ss ++ [x], a1, by rw [List.map_append, List.map_singleton, hx]; exact hbd, by rw [List.length_append]; simp; omega, p0, p4, p5, p2, p3, hF'⟩
      intro x1 x2 x3 x4 x5 x6
      refine ⟨fin _ ?_ ?_ ?_ ?_ ?_, fin _ ?_ ?_ ?_ ?_ ?_, fin _ ?_ ?_ ?_ ?_ ?_⟩
      all_goals first | exact p0 | exact p4 | exact p5 | exact p2 | exact p3
    refine st _ ?_ ?_ ?_ ?_ ?_ _ fun ρ' w' h => h
    · exact q0
    · exact q4
    · exact q5
    · exact q2
    · exact q3
  · rw [if_neg hlt] at hbd
    have hss : ss.map St.er = ssF := by injection hbd
    simp only [↓VG_u, ↓UG_u, ↓MG_u, ↓NG_u, ↓PG_u, ↓BG_u, ↓CG_u, ↓IG_u, ↓VGtt, ↓VGtf, ↓VGft, ↓VGff, ↓UGtt, ↓UGtf, ↓UGft, ↓UGff, ↓MGtt, ↓MGtf, ↓MGft, ↓MGff, ↓NGtt, ↓NGtf, ↓NGft, ↓NGff, ↓PGtt, ↓PGtf, ↓PGft, ↓PGff, ↓BGtt, ↓BGtf, ↓BGft, ↓BGff, ↓CGtt, ↓CGtf, ↓CGft, ↓CGff, ↓IGtt, ↓IGtf, ↓IGft, ↓IGff, ↓PKt, ↓PKf, ↓CDt, ↓CDf, ↓NOTt, ↓NOTf, ↓NK_ptr, ↓f1.e, ↓len_tks, ↓LTf (show ((l.length : Nat) : Int) ≤ (a : Int) by omega)]
    rw [sq_x, bk_x, sq_n]
    have he : Pr.er ⟨v, ds, v', ss⟩ = ⟨nl, ds, nl, ssF⟩ := by rw [← hss]; rfl
    have hfe : Pr.fits ⟨v, ds, v', ss⟩ := by
      refine ⟨hf.1, ?_⟩
      have := hf.2
      rw [← hss] at this
      rw [← St.szL_er]; exact this
    rw [← hss, St.deepAt_er] at hdp
    refine parse_last hF5 (by omega) hdp hfe ?_ ?_ ?_ ?_ ?_ rfl fun w' h1 h2 => hR w' _ he h1 h2
    · exact q0
    · exact q4
    · exact q5
    · exact q2
    · exact q3
theorem Parse_ok {lv : Value} {l : List Tk} (hG : Good l) {fuel : Nat} (hfu : fuel ≤ 1000) {pr : Pr} (hp : parseP l fuel = some pr) (hfit : pr.fits) {w : World} (ht : w.ownsRow 0 tT 5 lv l.length (l.flatMap Tk.cells)) :
    Rt Tryd.prog 65 #[lv] w fun v w' => ∃ q : Pr, v = .tuple #[.agg q.cells.toArray, .agg zWc] ∧ q.er = pr ∧ PrOwn w' w.heap.size q ∧ Mod none_ w w' := by
  unfold parseP at hp
  cases hds : declsP l (l.length + 1) [] 0 with
  | none => rw [hds] at hp; cases hp
  | some q =>
  obtain ⟨dsF, aF⟩ := q
  rw [hds] at hp
  dsimp only at hp
  cases hbs : bodyP l fuel (l.length + 1) [] aF with
  | none => rw [hbs] at hp; cases hp
  | some ssF =>
  rw [hbs] at hp
  dsimp only at hp
  split at hp
  rotate_left
  · cases hp
  rename_i hdeep
  cases hp
  obtain ⟨A, cp, hlv, _⟩ := reads_cap (reads_of_owns ht)
  have hwl := hG.len
  refine dispatcherref02_Parse_calls ?_
  unfold dispatcherref02_Parse_F
  refine al_k (cs := zPc) zPr rfl _ fun w1 hb1 hm1 hz1 => ?_
  refine al_k (cs := zWc) zWr' rfl _ fun w2 hb2 hm2 hz2 => ?_
  rw [build_ok (cs := #[lv, .int .i64 (0 : Nat), .int .i64 (-1)]) (by rw [hlv]; kernel_rfl)]
  refine box_k (cs := #[lv, .int .i64 (0 : Nat), .int .i64 (-1)]) rfl fun w3 hb3 hm3 hz3 => ?_
  refine al_k (cs := zPc) zPr rfl _ fun w4 hb4 hm4 hz4 => ?_
  have hm24 := hm3.trans hm4
  have hm14 := hm2.trans hm24
  have hm04 := hm1.trans hm14
  have hF : FrP lv l w2.heap.size w w4 w.heap.size w1.heap.size w3.heap.size ⟨nl, [], nl, []⟩ 0 :=
    ⟨hm14.blk hb1 id, hm24.blk hb2 id, hb4, ⟨owns_mod ht hm04 fun _ _ => id, hm4.blk hb3 id⟩, hm04, ⟨Nat.le_refl _, by omega, by omega, by omega, fun g hg => owns_lt ht hg⟩, ⟨owns_none _ _ _ _, by simp⟩, StsOwn.nil _ _⟩
  generalize w3.heap.size = b5 at *
  generalize w2.heap.size = c at *
  generalize w1.heap.size = b3 at *
  refine W_loopG dispatcherref02_Parse_L0_ok (fun m ρ w' => ∃ (v : Value) (ds : List De) (a : Nat), declsP l m ds a = some (dsF, aF) ∧ ds.length + m ≤ l.length + 1 ∧ ρ 0 = lv ∧ ρ 4 = pq c ∧ ρ 5 = pq b5 ∧ ρ 2 = pq w.heap.size ∧ ρ 3 = pq b3 ∧ FrP lv l c w w' w.heap.size b3 b5 ⟨v, ds, nl, []⟩ a) (l.length + 1)
    ⟨nl, [], 0, hds, by simp, rfl, rfl, rfl, rfl, rfl, hF⟩ ?_
  rintro m ρ w5 ⟨v, ds, a, hdl, hlen, q0, q4, q5, q2, q3, hF5⟩
  have lo := hF5.lo
  cases m with
  | zero => simp [declsP] at hdl
  | succ m =>
  rw [declsP] at hdl
  rw [dispatcherref02_Parse_L0_eq]
  unfold dispatcherref02_Parse_L0_F
  rw [q4]
  refine CK_st Tryd.func82 rfl rfl (may_ok hF5.pw hG [105, 110, 116]) ?_
  rintro _ w6 ⟨rfl, h6, hm6⟩
  have hF6 := hF5.cur hm6 h6
  cases hmy : mayP l a [105, 110, 116] with
  | true =>
    rw [hmy] at hF6 hdl
    simp only [if_true] at hF6 hdl
    split at hdl
    rotate_left
    · cases hdl
    rename_i hk1
    refine condT ?_
    refine CK_st Tryd.func83 rfl rfl (next_ok hF6.pw hG) ?_
    rintro _ w7 ⟨rfl, hm7⟩
    refine lcl_k (cs := (tkAt l (a + 1)).cells.toArray) zTkg _ iTk rfl (tk_one _) fun w8 hb8 hm8 hz8 => ?_
    have hF8 := hF6.mod0 (hm7.trans hm8)
    have hltw := hF6.ltw
    have hs7 := hm7.size
    obtain ⟨tf1, tf2, tf3, tf4⟩ := tk_fine hG (a + 1)
    obtain ⟨b6, hb6⟩ : ∃ b6, b6 = w7.heap.size := ⟨_, rfl⟩
    rw [← hb6] at hb8 hz8 ⊢
    have hd8 : Mod none_ w8 { w8 with drawn := w8.drawn + 1 } := (Mod.refl _ w8).drawn _
    refine dispatcherref02_Parse_R2_held (D := []) (fun w' => w'.heap[b6]? = some (.cells (tkAt l (a + 1)).cells.toArray tT (0, 0))) hb8 ?_
    unfold dispatcherref02_Parse_R2_H
    simp only [sq_n, sq_x, sq_r, bk_n, bk_r, bk_x, rt_r, rt_n, rs_0, rs_t, pk_1, pk_2, up_at, reduceIte, Nat.reduceEqDiff, q4]
    refine HV_of (fun w' _ => run_fo (off := 3) (by kernel_rfl) _ w') ?_
    refine HV_of (v := .int .i64 (tkAt l (a + 1)).line) (fun w' hw => run_ld1 uI rfl (by rw [add_pl, cell_blk hw]; rfl)) ?_
    refine HV_of (fun w' _ => run_fo (off := 4) (by kernel_rfl) _ w') ?_
    refine HV_of (v := .int .i64 (tkAt l (a + 1)).col) (fun w' hw => run_ld1 uI rfl (by rw [add_pl, cell_blk hw]; rfl)) ?_
    have fin : ∀ (ρ' : Sl) (w9 : World) (b7 : Nat), ρ' 0 = lv → ρ' 4 = pq c → ρ' 5 = pq b5 → ρ' 2 = pq w.heap.size → ρ' 3 = pq b3 → ρ' 7 = pq b7 → FrP lv l c w w9 w.heap.size b3 b5 ⟨v, ds, nl, []⟩ (a + 1 + 1) → w9.heap[b7]? = some (.cells (De.mk (bs (tkAt l (a + 1)).text) 0 (tkAt l (a + 1)).line (tkAt l (a + 1)).col).cells.toArray tD (0, 0)) → b5 < b7 → (∀ k, v.ownBlock = some k → k ≠ b7) →
        ∀ K : Exit → Sl → World → Prop, (∀ ρ2 w10, (∃ m', m' < m + 1 ∧ ∃ (v : Value) (ds : List De) (a : Nat), declsP l m' ds a = some (dsF, aF) ∧ ds.length + m' ≤ l.length + 1 ∧ ρ2 0 = lv ∧ ρ2 4 = pq c ∧ ρ2 5 = pq b5 ∧ ρ2 2 = pq w.heap.size ∧ ρ2 3 = pq b3 ∧ FrP lv l c w w10 w.heap.size b3 b5 ⟨v, ds, nl, []⟩ a) → K .normal ρ2 w10) →
        sx fn_ Tryd.prog 105 dispatcherref02_Parse_R3 (blkK 1 K) ρ' w9 := by
      intro ρ' w9 b7 p0 p4 p5 p2 p3 p7 hF9 hd9 hlt hne K hK
      refine decl_mid (m := m) hF9 hG (r := (dsF, aF)) hdl hd9 (deFine _ _ _ (bs_size tf1) tf3 tf4) hlt hne rfl rfl (by show ds.length < _; omega) p4 p5 p7 fun w' v' d a' ρ2 hd' hF' t0 t4 t5 t2 t3 => ?_
      exact hK _ _ ⟨m, Nat.lt_succ_self m, v', ds ++ [d], a', hd', by rw [List.length_append]; simp; omega, by rw [t0, p0], t4, t5, by rw [t2, p2], by rw [t3, p3], hF'⟩
    have hdr : ∀ k, v.ownBlock = some k → k < w5.heap.size := fun k hk => owns_lt hF5.d.row hk
    have hs6 := hm6.size
    constructor
    · refine CK_st Tryd.func84 rfl rfl (name_ok (hF8.mod0 hd8).pw hG hk1) ?_
      rintro _ w9 ⟨rfl, h9, hm9⟩
      have hF9 := (hF8.mod0 hd8).cur hm9 h9
      have hb9 := hm9.blk (hd8.blk hb8 id) (by omega)
      refine ⟨hb9, HV_of (v := .agg (De.mk (bs (tkAt l (a + 1)).text) 0 (tkAt l (a + 1)).line (tkAt l (a + 1)).col).cells.toArray) (fun w' _ => run_build (P := Tryd.prog) w' _ _ _ (by simpa using bDe _ _ _)) ?_⟩
      refine al_k (cs := (De.mk (bs []) 0 0 0).cells.toArray) zDe' rfl _ fun w10 hb10 hm10 hz10 => ⟨hm10.blk hb9 id, ?_⟩
      have hs9 := hm9.size
      have hs9' : w8.heap.size ≤ w9.heap.size := hs9
      refine stS (old := (De.mk (bs []) 0 0 0).cells.toArray) (cs := (De.mk (bs (tkAt l (a + 1)).text) 0 (tkAt l (a + 1)).line (tkAt l (a + 1)).col).cells.toArray) rfl rfl iDe rfl (de_one _) hb10 fun w11 h11 hm11 hz11 => ⟨hm11.blk (hm10.blk hb9 id) (by omega), ?_⟩
      have hF11 := (hF9.mod0 hm10).fresh hm11 (by omega) (fun q => by have := hdr _ q; omega) (fun k hk => by simp [nl, Value.ownBlock] at hk) (by simp)
      refine fin _ w11 w9.heap.size ?_ ?_ ?_ ?_ ?_ rfl hF11 h11 (by omega) (fun k hk q => by have := hdr k hk; omega) _ (fun ρ2 w12 h => h)
      · exact q0
      · exact q4
      · exact q5
      · exact q2
      · exact q3
    · refine al_k (cs := (De.mk (bs []) 0 0 0).cells.toArray) zDe' rfl _ fun w9 hb9' hm9 hz9 => ⟨hm9.blk (hd8.blk hb8 id) id, ?_⟩
      have hF9 := (hF8.mod0 hd8).mod0 hm9
      refine CK_st Tryd.func84 rfl rfl (name_ok hF9.pw hG hk1) ?_
      rintro _ w10 ⟨rfl, h10, hm10⟩
      have hF10 := hF9.cur hm10 h10
      have hz9' : w9.heap.size = w8.heap.size + 1 := hz9
      have hb10 := hm10.blk (hm9.blk (hd8.blk hb8 id) id) (by omega)
      refine ⟨hb10, HV_of (v := .agg (De.mk (bs (tkAt l (a + 1)).text) 0 (tkAt l (a + 1)).line (tkAt l (a + 1)).col).cells.toArray) (fun w' _ => run_build (P := Tryd.prog) w' _ _ _ (by simpa using bDe _ _ _)) ?_⟩
      have hc8 : c < w8.heap.size := by omega
      refine stS (old := (De.mk (bs []) 0 0 0).cells.toArray) (cs := (De.mk (bs (tkAt l (a + 1)).text) 0 (tkAt l (a + 1)).line (tkAt l (a + 1)).col).cells.toArray) rfl rfl iDe rfl (de_one _) (hm10.blk hb9' (by show w8.heap.size ≠ c; omega)) fun w11 h11 hm11 hz11 => ⟨hm11.blk hb10 (by show b6 ≠ w8.heap.size; omega), ?_⟩
      have hF11 := hF10.fresh hm11 (by show b5 < w8.heap.size; omega) (fun q => by have := hdr _ q; have : w8.heap.size < w5.heap.size := this; omega) (fun k hk => by simp [nl, Value.ownBlock] at hk) (by simp)
      refine fin _ w11 w8.heap.size ?_ ?_ ?_ ?_ ?_ rfl hF11 h11 (by omega) (fun k hk q => by have := hdr k hk; omega) _ (fun ρ2 w12 h => h)
      · exact q0
      · exact q4
      · exact q5
      · exact q2
      · exact q3
  | false =>
    rw [hmy] at hF6 hdl
    simp only [Bool.false_eq_true, if_false] at hF6 hdl
    cases hdl
    refine condF ?_
    rw [sq_x, bk_x, sq_n]
    refine parse_body hG hfu hF6 hbs hdeep hfit ?_ ?_ ?_ ?_ ?_ hlv fun w' q h1 h2 h3 => ⟨q, rfl, h1, h2, h3⟩
    · exact q0
    · exact q4
    · exact q5
    · exact q2
    · exact q3
end
end Go.Proofs.YtbnbcimjapiicaaDoor.Tr
set_option linter.unusedVariables false
set_option linter.unusedSimpArgs false
set_option maxRecDepth 4000
namespace Go.Proofs.YtbnbcimjapiicaaDoor.Tr
open Go Go.X Go.RowKit Go.Proofs.YtbnbcimjapiicaaDoor.XD Go.Proofs.YtbnbcimjapiicaaDoor.XK
theorem Ex.er_er : ∀ e : Ex, e.er.er = e.er := by
  intro e
  induction e using Ex.ind with
  | h e ih =>
    rw [Ex.er_eq e.er, Ex.er_eq e]
    simp only [List.map_map]
    congr 1
    exact List.map_congr_left fun a ha => ih a ha
theorem Ex.er_erL (l : List Ex) : (l.map Ex.er).map Ex.er = l.map Ex.er := by rw [List.map_map]; exact List.map_congr_left fun a _ => Ex.er_er a
theorem St.er_er : ∀ e : St, e.er.er = e.er := by
  intro e
  induction e using St.ind with
  | h e ih ih2 =>
    rw [St.er_eq e.er, St.er_eq e]
    simp only [List.map_map]
    have h1 := Ex.er_erL e.exprs
    rw [List.map_map] at h1
    rw [h1]
    congr 1
    · exact List.map_congr_left fun a ha => ih a ha
    · exact List.map_congr_left fun a ha => ih2 a ha
theorem Pr.er_er (p : Pr) : p.er.er = p.er := by
  unfold Pr.er
  simp only [List.map_map]
  congr 1
  exact List.map_congr_left fun a _ => St.er_er a
theorem bytes_k {src dst e : TypeId} (hs : Tryd.prog.underlying src = some .string) (hd : Tryd.prog.underlying dst = some (.slice e)) (he : Tryd.prog.underlying e = some (.int .u8)) (b : Bs) {w : World} {K : Value → World → Prop} (hk : ∀ v w', reads w' 1 v b.length (b.map byteV) → Mod none_ w w' → K v w') : VK Tryd.prog (convert src dst (.string (bs b))) w K := by
  refine VK_of (run_bytes_of_string w src dst e (bs b) hs hd he) (hk _ _ ?_ (((Mod.refl _ w).drawn _).alloc _))
  have hz : (bs b).size = b.length := by simp [bs, ByteArray.size]
  refine ⟨by simp, some ⟨w.heap.size, 0, none⟩, _, by rw [hz], by rw [← hz]; exact grownCap_ge _ _ _ _, fun j u hu => ⟨_, rfl, ?_⟩⟩
  rw [add_pl, show w.heap.size = w.drew.heap.size from rfl, cell_blk (alloc_new w.drew _)]
  have hj : j < b.length := by
    have := (List.getElem?_eq_some_iff.1 hu).1
    simpa using this
  unfold bytesRow
  rw [Array.getElem?_append_left (by simp [bs]; omega)]
  rw [List.getElem?_map] at hu
  simp [bs, byteV] at hu ⊢
  exact hu
theorem readP_some {b : Bs} {pr : Pr} (h : readP b = some pr) : ∃ l, scanP b = some l ∧ Good l ∧ parseP l 40 = some pr := by
  unfold readP at h
  cases hl : scanP b with
  | none => rw [hl] at h; cases h
  | some l =>
    rw [hl] at h
    dsimp only at h
    split at h
    · rename_i hg
      exact ⟨l, rfl, ⟨by simpa using hg.1, hg.2⟩, h⟩
    · cases h
/-- What a text's tree is asked. -/
theorem got {b : Bs} {f : Pr → Bool} (h : (readP b).any f = true) : ∃ pr, readP b = some pr ∧ f pr = true := by
  cases hr : readP b with
  | none => rw [hr] at h; cases h
  | some pr => rw [hr] at h; exact ⟨pr, rfl, h⟩
def Pr.fitsB (p : Pr) : Bool := decide (p.decls.length ≤ 1099511627776) && decide (St.szL p.body ≤ 1099511627776)
theorem Pr.fits_of {p : Pr} (h : Pr.fitsB p = true) : p.fits := by
  unfold Pr.fitsB at h
  rw [Bool.and_eq_true, decide_eq_true_iff, decide_eq_true_iff] at h
  exact h
theorem PrOwn.off {S : Nat → Prop} {base : Nat} {p : Pr} {u u' : World} (h : PrOwn u base p) (hm : Mod S u u') (hS : ∀ k, S k → k < base) : PrOwn u' base p := ⟨owns_mod h.d hm fun k hk q => by have := owns_low h.d hk; have := hS k q; omega, h.f, h.b.off hm hS⟩
theorem Parse_tx {b : Bs} {pr : Pr} (h : readP b = some pr) (hf : pr.fits) {v : Value} {w : World} (hr : reads w 1 v b.length (b.map byteV)) {K : Value → Value → World → Prop}
    (hk : ∀ x q w', Pr.er q = pr → PrOwn w' w.heap.size q → Mod none_ w w' → K x (.tuple #[.agg q.cells.toArray, .agg zWc]) w') :
    CK Tryd.prog (.func (.func 64) #[] #[]) [v] w fun x w => VK Tryd.prog (Instr.extract x 0) w fun x13 w => VK Tryd.prog (Instr.extract x 1) w fun _ w => VK Tryd.prog (Instr.extract x 2) w fun _ w => VK Tryd.prog (Instr.extract x 3) w fun _ w => CK Tryd.prog (.func (.func 65) #[] #[]) [x13] w fun x19 w => K x13 x19 w := by
  obtain ⟨l, hl, hG, hp⟩ := readP_some h
  refine CK_st Tryd.func64 rfl rfl (Scan_ok hr hl) ?_
  rintro _ w1 ⟨lv, rfl, ho, hm1⟩
  rw [extract_ok (v := lv) rfl, extract_ok (v := .int .i64 0) rfl, extract_ok (v := .int .i64 0) rfl, extract_ok (v := .int .i64 0) rfl]
  refine CK_st Tryd.func65 rfl rfl (Parse_ok hG (fuel := 40) (by decide) hp hf (owns_base ho (Nat.zero_le _))) ?_
  rintro _ w2 ⟨q, rfl, he, hO, hm2⟩
  have := hm1.size
  exact hk _ q _ he ⟨owns_base hO.d this, hO.f, hO.b.low this⟩ (hm1.trans hm2)
theorem oneOk {w : World} {q : Pr} (h : q.Ok w) : q.cells.toArray.all (·.oneCell') = true := by
  obtain ⟨A, c, h1, _⟩ := reads_cap h.d.1
  obtain ⟨A', c', h2, _⟩ := reads_cap h.b.1
  exact hone _ (by rw [h1]; rfl) (by rw [h2]; rfl)
end Go.Proofs.YtbnbcimjapiicaaDoor.Tr

set_option linter.unusedVariables false
set_option maxRecDepth 100000
namespace Go.Proofs.YtbnbcimjapiicaaDoor.Tr
open Go Go.X Go.RowKit
def tellB (b : Bs) (e : Wr) : Bool := (readP b).any fun p => p.fitsB && decide (checkP p = e)
theorem tx1 : tellB [105, 110, 116, 32, 120, 59, 32, 120, 32, 61, 32, 121, 59] ⟨40, 1, 12⟩ = true := by kernel_rfl
theorem tx2 : tellB [105, 110, 116, 32, 97, 91, 50, 93, 59, 32, 97, 32, 61, 32, 49, 59] ⟨40, 1, 11⟩ = true := by kernel_rfl
theorem tx3 : tellB [105, 110, 116, 32, 120, 59, 32, 105, 110, 116, 32, 120, 59] ⟨40, 1, 12⟩ = true := by kernel_rfl
def newB (b : Bs) (f : Pr → Bool) : Bool := (readP b).any fun p => p.fitsB && decide (checkP p = ⟨0, 0, 0⟩) && f p
theorem tx0 : newB [105, 110, 116, 32, 120, 59, 32, 105, 110, 116, 32, 97, 91, 51, 93, 59, 32, 105, 110, 116, 32, 121, 59, 32, 105, 110, 116, 32, 98, 91, 50, 93, 59] (fun p => decide (findP p.decls [121] = ⟨1, 1, 0, 0⟩) && decide (findP p.decls [98] = ⟨2, 1, 3, 2⟩)) = true := by kernel_rfl
end Go.Proofs.YtbnbcimjapiicaaDoor.Tr
set_option linter.unusedVariables false
set_option maxRecDepth 100000
namespace Go.Proofs.YtbnbcimjapiicaaDoor.XL
open Go Go.X
/-- dispatcher/dispatcherlaw04.read -/
noncomputable def dispatcherlaw04_read_b : Code := (Tryd.f40.body).getD .skip
noncomputable def dispatcherlaw04_read_F (a0 : Value) (w : World) (R : Value → World → Prop) : Prop :=
  VK Tryd.prog (Instr.alloc 25 true (.tuple #[])) w fun x2 w => VK Tryd.prog (convert 9 95 a0) w fun x11 w => CK Tryd.prog (Value.func (Fn.func 64) #[] #[]) [x11] w fun x12 w => VK Tryd.prog (Instr.extract x12 0) w fun x13 w => VK Tryd.prog (Instr.extract x12 1) w fun x14 w => VK Tryd.prog (Instr.extract x12 2) w fun x15 w => VK Tryd.prog (Instr.extract x12 3) w fun x16 w => CK Tryd.prog (Value.func (Fn.func 65) #[] #[]) [x13] w fun x19 w => VK Tryd.prog (Instr.extract x19 0) w fun x20 w => VK Tryd.prog (Instr.extract x19 1) w fun x21 w => VK Tryd.prog (Instr.alloc 25 true (.tuple #[])) w fun x7 w => VK Tryd.prog (Instr.alloc 30 true (.tuple #[])) w fun x8 w => UK Tryd.prog (Instr.storeAt 25 x7 x20) w fun _ w => UK Tryd.prog (Instr.storeAt 30 x8 x21) w fun _ w => VK Tryd.prog (Instr.loadAt 25 x7) w fun x22 w => UK Tryd.prog (Instr.storeAt 25 x2 x22) w fun _ w => ∃ x2_1, (do loadVar 25 (← asAddr x2) : Sem Value).run Tryd.prog w = .ok x2_1 w ∧ R x2_1 w
theorem dispatcherlaw04_read_eq (a0 : Value) (w : World) (R : Value → World → Prop) : sx fn_ Tryd.prog 23 dispatcherlaw04_read_b (retK Tryd.prog Tryd.f40.results.toList R) (rho0 [a0]) w = dispatcherlaw04_read_F a0 w R := by kernel_rfl
theorem dispatcherlaw04_read_calls {a0 : Value} {w : World} {R : Value → World → Prop} (h : dispatcherlaw04_read_F a0 w R) : Calls Tryd.prog 40 #[a0] w fun e w' => ∃ v, e = .returned v ∧ R v w' :=
  Go.X.calls_of_sx (n := 23) (c := dispatcherlaw04_read_b) Tryd.func40 (by kernel_rfl) (by kernel_rfl) (Nat.le_of_ble_eq_true rfl) (by kernel_rfl) (Eq.mpr (dispatcherlaw04_read_eq a0 w R) h)
/-- dispatcher/dispatcherlaw04.told -/
noncomputable def dispatcherlaw04_told_b : Code := (Tryd.f41.body).getD .skip
noncomputable def dispatcherlaw04_told_F (a0 a1 a2 a3 : Value) (w : World) (R : Value → World → Prop) : Prop :=
  CK Tryd.prog (Value.func (Fn.func 40) #[] #[]) [a0] w fun x10 w => CK Tryd.prog (Value.func (Fn.func 14) #[] #[]) [x10] w fun x11 w => VK Tryd.prog (Instr.build 30 [(0, a1), (1, a2), (2, a3)].toArray) w fun x15 w => BK Tryd.prog BinOp.eql 30 (Operand.tmp 11) (Operand.tmp 15) x11 x15 w fun x16 w => R x16 w
theorem dispatcherlaw04_told_eq (a0 a1 a2 a3 : Value) (w : World) (R : Value → World → Prop) : sx fn_ Tryd.prog 17 dispatcherlaw04_told_b (retK Tryd.prog Tryd.f41.results.toList R) (rho0 [a0, a1, a2, a3]) w = dispatcherlaw04_told_F a0 a1 a2 a3 w R := by kernel_rfl
theorem dispatcherlaw04_told_calls {a0 a1 a2 a3 : Value} {w : World} {R : Value → World → Prop} (h : dispatcherlaw04_told_F a0 a1 a2 a3 w R) : Calls Tryd.prog 41 #[a0, a1, a2, a3] w fun e w' => ∃ v, e = .returned v ∧ R v w' :=
  Go.X.calls_of_sx (n := 17) (c := dispatcherlaw04_told_b) Tryd.func41 (by kernel_rfl) (by kernel_rfl) (Nat.le_of_ble_eq_true rfl) (by kernel_rfl) (Eq.mpr (dispatcherlaw04_told_eq a0 a1 a2 a3 w R) h)
/-- dispatcher/dispatcherlaw04.awake -/
noncomputable def dispatcherlaw04_awake_b : Code := (Tryd.f18.body).getD .skip
noncomputable def dispatcherlaw04_awake_F (w : World) (R : Value → World → Prop) : Prop :=
  CK Tryd.prog (Value.func (Fn.func 40) #[] #[]) [(Value.string { data := #[105, 110, 116, 32, 120, 59, 32, 105, 110, 116, 32, 97, 91, 51, 93, 59, 32, 105, 110, 116, 32, 121, 59, 32, 105, 110, 116, 32, 98, 91, 50, 93, 59] })] w fun x4 w => CK Tryd.prog (Value.func (Fn.func 13) #[] #[]) [x4] w fun x5 w => VK Tryd.prog (Instr.extract x5 0) w fun x6 w => VK Tryd.prog (Instr.extract x5 1) w fun x7 w => VK Tryd.prog (Instr.alloc 30 true (.tuple #[])) w fun x2 w => UK Tryd.prog (Instr.storeAt 30 x2 x7) w fun _ w => VK Tryd.prog (Instr.fieldAt 30 x2 0) w fun x8 w => VK Tryd.prog (Instr.loadAt 28 x8) w fun x9 w => BK Tryd.prog BinOp.neq 28 (Operand.tmp 9) (Operand.const (Value.int IntKind.i64 0)) x9 (Value.int IntKind.i64 0) w fun x10 w => MG Tryd.prog x10 false x6 w fun x12 w => BG Tryd.prog x10 false BinOp.eql 32 (Operand.tmp 12) (Operand.const (Value.pointer none)) x12 (Value.pointer none) w fun x13 w => PK Tryd.prog x10 (Value.bool true) x13 w fun x14 w => CondK x14 (R (Value.bool false) w) (CK Tryd.prog (Value.func (Fn.func 16) #[] #[]) [x6, (Value.string { data := #[121] })] w fun x16 w => VK Tryd.prog (Instr.build 37 [(0, (Value.int IntKind.u8 1)), (1, (Value.int IntKind.i64 1))].toArray) w fun x17 w => BK Tryd.prog BinOp.eql 37 (Operand.tmp 16) (Operand.tmp 17) x16 x17 w fun x18 w => MG Tryd.prog x18 true x6 w fun x20 w => CG Tryd.prog x18 true (Value.func (Fn.func 16) #[] #[]) [x20, (Value.string { data := #[98] })] w fun x21 w => VG Tryd.prog x18 true (Instr.build 37 [(0, (Value.int IntKind.u8 2)), (1, (Value.int IntKind.i64 1)), (2, (Value.int IntKind.i64 3)), (3, (Value.int IntKind.i64 2))].toArray) w fun x22 w => BG Tryd.prog x18 true BinOp.eql 37 (Operand.tmp 21) (Operand.tmp 22) x21 x22 w fun x23 w => PK Tryd.prog x18 x23 (Value.bool false) w fun x24 w => CG Tryd.prog x24 true (Value.func (Fn.func 41) #[] #[]) [(Value.string { data := #[105, 110, 116, 32, 120, 59, 32, 120, 32, 61, 32, 121, 59] }), (Value.int IntKind.i64 40), (Value.int IntKind.i64 1), (Value.int IntKind.i64 12)] w fun x26 w => PK Tryd.prog x24 x26 (Value.bool false) w fun x27 w => CG Tryd.prog x27 true (Value.func (Fn.func 41) #[] #[]) [(Value.string { data := #[105, 110, 116, 32, 97, 91, 50, 93, 59, 32, 97, 32, 61, 32, 49, 59] }), (Value.int IntKind.i64 40), (Value.int IntKind.i64 1), (Value.int IntKind.i64 11)] w fun x29 w => PK Tryd.prog x27 x29 (Value.bool false) w fun x30 w => CG Tryd.prog x30 true (Value.func (Fn.func 41) #[] #[]) [(Value.string { data := #[105, 110, 116, 32, 120, 59, 32, 105, 110, 116, 32, 120, 59] }), (Value.int IntKind.i64 40), (Value.int IntKind.i64 1), (Value.int IntKind.i64 12)] w fun x32 w => PK Tryd.prog x30 x32 (Value.bool false) w fun x33 w => R x33 w)
theorem dispatcherlaw04_awake_eq (w : World) (R : Value → World → Prop) : sx fn_ Tryd.prog 34 dispatcherlaw04_awake_b (retK Tryd.prog Tryd.f18.results.toList R) (rho0 []) w = dispatcherlaw04_awake_F  w R := by kernel_rfl
theorem dispatcherlaw04_awake_calls {w : World} {R : Value → World → Prop} (h : dispatcherlaw04_awake_F  w R) : Calls Tryd.prog 18 #[] w fun e w' => ∃ v, e = .returned v ∧ R v w' :=
  Go.X.calls_of_sx (n := 34) (c := dispatcherlaw04_awake_b) Tryd.func18 (by kernel_rfl) (by kernel_rfl) (Nat.le_of_ble_eq_true rfl) (by kernel_rfl) (Eq.mpr (dispatcherlaw04_awake_eq  w R) h)
end Go.Proofs.YtbnbcimjapiicaaDoor.XL
set_option linter.unusedVariables false
set_option linter.unusedSimpArgs false
set_option maxRecDepth 4000
namespace Go.Proofs.YtbnbcimjapiicaaDoor.Tr
open Go Go.X Go.RowKit Go.Proofs.YtbnbcimjapiicaaDoor.XL Go.Proofs.YtbnbcimjapiicaaDoor.XK
theorem read_ok {b : Bs} {pr : Pr} (h : readP b = some pr) (hf : pr.fits) {w : World} : Rt Tryd.prog 40 #[.string (bs b)] w fun v w' => ∃ q : Pr, v = .agg q.cells.toArray ∧ q.er = pr ∧ q.Ok w' ∧ Mod none_ w w' := by
  refine dispatcherlaw04_read_calls ?_
  unfold dispatcherlaw04_read_F
  refine al_k (cs := zPc) zPr rfl _ fun w1 hb1 hm1 hz1 => ?_
  refine bytes_k Tryd.underlying9 Tryd.underlying95 Tryd.underlying5 b fun v w2 hr hm2 => ?_
  refine Parse_tx h hf hr fun x q w3 he hO hm3 => ?_
  have hq := hO.ok
  have hb3 := hm3.blk (hm2.blk hb1 id) id
  have hm03 := (hm1.trans hm2).trans hm3
  rw [extract_ok (v := .agg q.cells.toArray) rfl, extract_ok (v := .agg zWc) rfl]
  refine al_k (cs := zPc) zPr rfl _ fun w4 hb4 hm4 hz4 => ?_
  refine al_k (cs := zWc) zWr' rfl _ fun w5 hb5 hm5 hz5 => ?_
  have hb35 := hm5.blk (hm4.blk hb3 id) id
  have hlt := blk_lt hb3
  refine stS (old := zPc) (cs := q.cells.toArray) rfl rfl iPr' rfl (oneOk hq) (hm5.blk hb4 id) fun w6 hb6 hm6 hz6 => ?_
  refine stS (old := zWc) (cs := zWc) rfl rfl iWr' rfl (by kernel_rfl) (hm6.blk hb5 (by omega)) fun w7 hb7 hm7 hz7 => ?_
  have hb67 := hm7.blk hb6 (by omega)
  refine ldS (cs := q.cells.toArray) rfl Tryd.underlying25 rfl iPr' hb67 ?_
  refine stS (old := zPc) (cs := q.cells.toArray) rfl rfl iPr' rfl (oneOk hq) (hm7.blk (hm6.blk hb35 (by omega)) (by omega)) fun w8 hb8 hm8 hz8 => ?_
  have hm38 : Mod none_ w w8 := ((((hm03.trans hm4).trans hm5).then hm6 fun i hi q => by have := hm03.size; omega).then hm7 fun i hi q => by have := hm03.size; omega).then hm8 fun i hi q => by omega
  have hm37 : Mod none_ w3 w7 := ((hm4.trans hm5).then hm6 fun i hi q => by omega).then hm7 fun i hi q => by omega
  have hs2 := hm2.size
  have hq8 : PrOwn w8 w2.heap.size q := (hO.mod0 hm37).off hm8 fun k q => by omega
  exact rsCell (R := fun v w' => ∃ q : Pr, v = .agg q.cells.toArray ∧ q.er = pr ∧ q.Ok w' ∧ Mod none_ w w') (cs := q.cells.toArray) rfl Tryd.underlying25 rfl iPr' hb8 ⟨q, rfl, he, hq8.ok, hm38⟩
theorem told_ok {w : World} (hg : Gl w) {b : Bs} {e : Wr} (h : tellB b e = true) : Rt Tryd.prog 41 #[.string (bs b), .int .i64 e.err, .int .i64 e.line, .int .i64 e.col] w fun v w' => v = .bool true ∧ Mod none_ w w' := by
  obtain ⟨pr, hr, hf⟩ := got h
  rw [Bool.and_eq_true, decide_eq_true_iff] at hf
  have hfit := Pr.fits_of hf.1
  refine dispatcherlaw04_told_calls ?_
  unfold dispatcherlaw04_told_F
  refine CK_st Tryd.func40 rfl rfl (read_ok hr hfit) ?_
  rintro _ w1 ⟨q, rfl, he, hq, hm1⟩
  have hpe : q.er = pr.er := by
    rw [← he, Pr.er_er]
  refine CK_st Tryd.func14 rfl rfl (Check_ok (hg.mod hm1) hq (fits_of hpe hfit)) ?_
  rintro _ w2 ⟨rfl, hm2⟩
  rw [build_ok (bWr3 _ _ _), checkP_of hpe, hf.2]
  show BK Tryd.prog .eql 30 _ _ e.v e.v w2 _
  rw [BK_WrE, decide_eq_true rfl]
  exact ⟨rfl, hm1.trans hm2⟩
theorem awake_ok {w : World} (hg : Gl w) : Rt Tryd.prog 18 #[] w fun v w' => v = .bool true ∧ Mod none_ w w' := by
  obtain ⟨pr, hr, hf⟩ := got tx0
  rw [Bool.and_eq_true, Bool.and_eq_true, Bool.and_eq_true, decide_eq_true_iff, decide_eq_true_iff, decide_eq_true_iff] at hf
  obtain ⟨⟨h1, h2⟩, h3, h4⟩ := hf
  have hfit := Pr.fits_of h1
  refine dispatcherlaw04_awake_calls ?_
  unfold dispatcherlaw04_awake_F
  refine CK_st Tryd.func40 rfl rfl (read_ok hr hfit) ?_
  rintro _ w1 ⟨q, rfl, he, hq, hm1⟩
  have hpe : q.er = pr.er := by
    rw [← he, Pr.er_er]
  refine CK_st Tryd.func13 rfl rfl (New_ok (hg.mod hm1) hq (fits_of hpe hfit)) ?_
  rintro _ w2 ⟨x, rfl, hT⟩
  rw [checkP_of hpe, h2, extract_ok (v := x) rfl, extract_ok (v := (Wr.mk 0 0 0).v) rfl]
  have hm2 := hT.m
  obtain ⟨_, _, t, rfl, hTb⟩ := hT.ok (by rw [checkP_of hpe, h2])
  refine lcl_k (cs := (Wr.mk 0 0 0).cells.toArray) zWrg _ iWrg rfl (wr_one _) fun w3 hb3 hm3 hz3 => ?_
  have e0 : FO Tryd.prog w3 30 0 0 ⟨w2.heap.size, 0, none⟩ 28 (.int .i64 0) := FO.blk hb3 (by kernel_rfl) Tryd.underlying28 rfl rfl
  have hd : q.decls = pr.decls := by have := congrArg Pr.decls hpe; exact this
  have hTb3 := hTb.mod hm3
  rw [hd] at hTb3
  simp only [↓VG_u, ↓UG_u, ↓MG_u, ↓NG_u, ↓PG_u, ↓BG_u, ↓CG_u, ↓IG_u, ↓VGtt, ↓VGtf, ↓VGft, ↓VGff, ↓UGtt, ↓UGtf, ↓UGft, ↓UGff, ↓MGtt, ↓MGtf, ↓MGft, ↓MGff, ↓NGtt, ↓NGtf, ↓NGft, ↓NGff, ↓PGtt, ↓PGtf, ↓PGft, ↓PGff, ↓BGtt, ↓BGtf, ↓BGft, ↓BGff, ↓CGtt, ↓CGtf, ↓CGft, ↓CGff, ↓IGtt, ↓IGtf, ↓IGft, ↓IGff, ↓PKt, ↓PKf, ↓CDt, ↓CDf, ↓NOTt, ↓NOTf, ↓NK_ptr, ↓e0.e, ↓NEf (rfl : (0 : Int) = 0)]
  rw [BK_eqlP uTp, Option.isNone_some]
  try simp only [↓VG_u, ↓UG_u, ↓MG_u, ↓NG_u, ↓PG_u, ↓BG_u, ↓CG_u, ↓IG_u, ↓VGtt, ↓VGtf, ↓VGft, ↓VGff, ↓UGtt, ↓UGtf, ↓UGft, ↓UGff, ↓MGtt, ↓MGtf, ↓MGft, ↓MGff, ↓NGtt, ↓NGtf, ↓NGft, ↓NGff, ↓PGtt, ↓PGtf, ↓PGft, ↓PGff, ↓BGtt, ↓BGtf, ↓BGft, ↓BGff, ↓CGtt, ↓CGtf, ↓CGft, ↓CGff, ↓IGtt, ↓IGtf, ↓IGft, ↓IGff, ↓PKt, ↓PKf, ↓CDt, ↓CDf, ↓NOTt, ↓NOTf, ↓NK_ptr]
  refine CK_st Tryd.func16 rfl rfl (FindT_ok hTb3 (bs [121])) ?_
  rintro _ w4 ⟨rfl, hm4⟩
  have e3 : (findP pr.decls (bs [121]).data.toList).v = (En.mk 1 1 0 0).v := by rw [show (bs [121]).data.toList = [121] from rfl, h3]
  rw [build_ok (bEnt1 _), e3]
  have eq1 : ∀ {x y : Operand} {e : En} {w : World} {K : Value → World → Prop}, BK Tryd.prog .eql 37 x y e.v e.v w K = K (.bool true) w := by
    intro x y e w K; rw [BK_EnE, decide_eq_true rfl]
  rw [show Value.agg (En.mk 1 1 0 0).cells.toArray = (En.mk 1 1 0 0).v from rfl, eq1]
  try simp only [↓VG_u, ↓UG_u, ↓MG_u, ↓NG_u, ↓PG_u, ↓BG_u, ↓CG_u, ↓IG_u, ↓VGtt, ↓VGtf, ↓VGft, ↓VGff, ↓UGtt, ↓UGtf, ↓UGft, ↓UGff, ↓MGtt, ↓MGtf, ↓MGft, ↓MGff, ↓NGtt, ↓NGtf, ↓NGft, ↓NGff, ↓PGtt, ↓PGtf, ↓PGft, ↓PGff, ↓BGtt, ↓BGtf, ↓BGft, ↓BGff, ↓CGtt, ↓CGtf, ↓CGft, ↓CGff, ↓IGtt, ↓IGtf, ↓IGft, ↓IGff, ↓PKt, ↓PKf, ↓CDt, ↓CDf, ↓NOTt, ↓NOTf, ↓NK_ptr]
  refine CK_st Tryd.func16 rfl rfl (FindT_ok (hTb3.mod hm4) (bs [98])) ?_
  rintro _ w5 ⟨rfl, hm5⟩
  have e4 : (findP pr.decls (bs [98]).data.toList).v = (En.mk 2 1 3 2).v := by rw [show (bs [98]).data.toList = [98] from rfl, h4]
  try simp only [↓VG_u, ↓UG_u, ↓MG_u, ↓NG_u, ↓PG_u, ↓BG_u, ↓CG_u, ↓IG_u, ↓VGtt, ↓VGtf, ↓VGft, ↓VGff, ↓UGtt, ↓UGtf, ↓UGft, ↓UGff, ↓MGtt, ↓MGtf, ↓MGft, ↓MGff, ↓NGtt, ↓NGtf, ↓NGft, ↓NGff, ↓PGtt, ↓PGtf, ↓PGft, ↓PGff, ↓BGtt, ↓BGtf, ↓BGft, ↓BGff, ↓CGtt, ↓CGtf, ↓CGft, ↓CGff, ↓IGtt, ↓IGtf, ↓IGft, ↓IGff, ↓PKt, ↓PKf, ↓CDt, ↓CDf, ↓NOTt, ↓NOTf, ↓NK_ptr]
  rw [build_ok (bEnt2 _ _ _), e4, show Value.agg (En.mk 2 1 3 2).cells.toArray = (En.mk 2 1 3 2).v from rfl, eq1]
  try simp only [↓VG_u, ↓UG_u, ↓MG_u, ↓NG_u, ↓PG_u, ↓BG_u, ↓CG_u, ↓IG_u, ↓VGtt, ↓VGtf, ↓VGft, ↓VGff, ↓UGtt, ↓UGtf, ↓UGft, ↓UGff, ↓MGtt, ↓MGtf, ↓MGft, ↓MGff, ↓NGtt, ↓NGtf, ↓NGft, ↓NGff, ↓PGtt, ↓PGtf, ↓PGft, ↓PGff, ↓BGtt, ↓BGtf, ↓BGft, ↓BGff, ↓CGtt, ↓CGtf, ↓CGft, ↓CGff, ↓IGtt, ↓IGtf, ↓IGft, ↓IGff, ↓PKt, ↓PKf, ↓CDt, ↓CDf, ↓NOTt, ↓NOTf, ↓NK_ptr]
  have hm05 := (((hm1.trans hm2).trans hm3).trans hm4).trans hm5
  refine CK_st Tryd.func41 rfl rfl (told_ok (hg.mod hm05) (e := ⟨40, 1, 12⟩) tx1) ?_
  rintro _ w6 ⟨rfl, hm6⟩
  try simp only [↓VG_u, ↓UG_u, ↓MG_u, ↓NG_u, ↓PG_u, ↓BG_u, ↓CG_u, ↓IG_u, ↓VGtt, ↓VGtf, ↓VGft, ↓VGff, ↓UGtt, ↓UGtf, ↓UGft, ↓UGff, ↓MGtt, ↓MGtf, ↓MGft, ↓MGff, ↓NGtt, ↓NGtf, ↓NGft, ↓NGff, ↓PGtt, ↓PGtf, ↓PGft, ↓PGff, ↓BGtt, ↓BGtf, ↓BGft, ↓BGff, ↓CGtt, ↓CGtf, ↓CGft, ↓CGff, ↓IGtt, ↓IGtf, ↓IGft, ↓IGff, ↓PKt, ↓PKf, ↓CDt, ↓CDf, ↓NOTt, ↓NOTf, ↓NK_ptr]
  have hm06 := hm05.trans hm6
  refine CK_st Tryd.func41 rfl rfl (told_ok (hg.mod hm06) (e := ⟨40, 1, 11⟩) tx2) ?_
  rintro _ w7 ⟨rfl, hm7⟩
  try simp only [↓VG_u, ↓UG_u, ↓MG_u, ↓NG_u, ↓PG_u, ↓BG_u, ↓CG_u, ↓IG_u, ↓VGtt, ↓VGtf, ↓VGft, ↓VGff, ↓UGtt, ↓UGtf, ↓UGft, ↓UGff, ↓MGtt, ↓MGtf, ↓MGft, ↓MGff, ↓NGtt, ↓NGtf, ↓NGft, ↓NGff, ↓PGtt, ↓PGtf, ↓PGft, ↓PGff, ↓BGtt, ↓BGtf, ↓BGft, ↓BGff, ↓CGtt, ↓CGtf, ↓CGft, ↓CGff, ↓IGtt, ↓IGtf, ↓IGft, ↓IGff, ↓PKt, ↓PKf, ↓CDt, ↓CDf, ↓NOTt, ↓NOTf, ↓NK_ptr]
  have hm07 := hm06.trans hm7
  refine CK_st Tryd.func41 rfl rfl (told_ok (hg.mod hm07) (e := ⟨40, 1, 12⟩) tx3) ?_
  rintro _ w8 ⟨rfl, hm8⟩
  exact ⟨rfl, hm07.trans hm8⟩
end Go.Proofs.YtbnbcimjapiicaaDoor.Tr
set_option linter.unusedVariables false
set_option linter.unusedSimpArgs false
set_option maxRecDepth 4000
namespace Go.X
open Go
mutual
def Ex.nm : Ex → Bool
  | ⟨op, num, name, s, args, line, col⟩ => decide (op = 2) || decide (op = 3) || Ex.nmL args
def Ex.nmL : List Ex → Bool
  | [] => false
  | e :: r => Ex.nm e || Ex.nmL r
end
mutual
def St.nm : St → Bool
  | ⟨op, kind, red, name, turns, es, exprs, bs, body, ls, els, line, col⟩ => decide (name.size ≠ 0) || Ex.nmL exprs || St.nmL body || St.nmL els
def St.nmL : List St → Bool
  | [] => false
  | e :: r => St.nm e || St.nmL r
end
theorem any_step {α : Type} {f : α → Bool} {l : List α} {n : Nat} (h : n < l.length) : (l.take (n + 1)).any f = ((l.take n).any f || f l[n]) := by
  rw [List.take_add_one, List.getElem?_eq_getElem h, Option.toList_some, List.any_append, List.any_cons, List.any_nil, Bool.or_false]
theorem any_hit {α : Type} {f : α → Bool} {l : List α} {n : Nat} (h : n < l.length) (hf : f l[n] = true) : l.any f = true := List.any_eq_true.2 ⟨_, List.getElem_mem h, hf⟩
end Go.X
namespace Go.Proofs.YtbnbcimjapiicaaDoor.Tr
open Go Go.X Go.RowKit Go.Proofs.YtbnbcimjapiicaaDoor.XL Go.Proofs.YtbnbcimjapiicaaDoor.XK
section
variable {f : Key → Int} (hf : ∀ k, f k = 0)
include hf
end
theorem exA_fo {w : World} {a : Addr} {e : Ex} (ha : ∀ j u, e.cells[j]? = some u → w.cell? (a.add j) = some u) : FO Tryd.prog w 60 0 0 a 5 (.int .u8 e.op) ∧ FO Tryd.prog w 60 2 2 a 9 (.string e.name) ∧ FO Tryd.prog w 60 3 3 a 58 e.s :=
  ⟨FO.mk' (by kernel_rfl) uU8 rfl (ha 0 _ rfl), FO.mk' (by kernel_rfl) uS rfl (ha 2 _ rfl), FO.mk' (by kernel_rfl) uExs rfl (ha 3 _ rfl)⟩
theorem stA_fo {w : World} {a : Addr} {e : St} (ha : ∀ j u, e.cells[j]? = some u → w.cell? (a.add j) = some u) : FO Tryd.prog w 62 0 0 a 5 (.int .u8 e.op) ∧ FO Tryd.prog w 62 3 3 a 9 (.string e.name) ∧ FO Tryd.prog w 62 5 5 a 58 e.es ∧ FO Tryd.prog w 62 6 6 a 23 e.bs ∧ FO Tryd.prog w 62 7 7 a 23 e.ls :=
  ⟨FO.mk' (by kernel_rfl) uU8 rfl (ha 0 _ rfl), FO.mk' (by kernel_rfl) uS rfl (ha 3 _ rfl), FO.mk' (by kernel_rfl) uExs rfl (ha 5 _ rfl), FO.mk' (by kernel_rfl) uSts rfl (ha 6 _ rfl), FO.mk' (by kernel_rfl) uSts rfl (ha 7 _ rfl)⟩
end Go.Proofs.YtbnbcimjapiicaaDoor.Tr
set_option linter.unusedVariables false
set_option linter.unusedSimpArgs false
set_option maxRecDepth 4000
namespace Go.Proofs.YtbnbcimjapiicaaDoor.Tr
open Go Go.X Go.RowKit Go.Proofs.YtbnbcimjapiicaaDoor.XQ Go.Proofs.YtbnbcimjapiicaaDoor.XK
/-- Rows of one's own, no two in one block. -/
structure ExsN (w : World) (v : Value) (l : List Ex) : Prop where
  row : w.ownsRow 0 tE 6 v l.length (l.flatMap Ex.cells)
  own : ∀ a ∈ l, a.Own w tE
  nd : (v.ownBlock.toList ++ Ex.blL l).Nodup
structure StsN (w : World) (v : Value) (l : List St) : Prop where
  row : w.ownsRow 0 tS 10 v l.length (l.flatMap St.cells)
  own : ∀ a ∈ l, a.Own w tE tS
  nd : (v.ownBlock.toList ++ St.blL l).Nodup
theorem ExsN.ok {w : World} {v : Value} {l : List Ex} (h : ExsN w v l) : ExsOk w v l := ⟨reads_of_owns h.row, fun a ha => (h.own a ha).ok⟩
theorem StsN.ok {w : World} {v : Value} {l : List St} (h : StsN w v l) : StsOk w v l := ⟨reads_of_owns h.row, fun a ha => (h.own a ha).ok⟩
theorem ExsN.mod {S : Nat → Prop} {w w' : World} {v : Value} {l : List Ex} (h : ExsN w v l) (hm : Mod S w w') (hS : ∀ k ∈ v.ownBlock.toList ++ Ex.blL l, ¬ S k) : ExsN w' v l :=
  ⟨owns_mod h.row hm fun k hk => hS k (List.mem_append_left _ (by simp [hk])), fun a ha => (h.own a ha).mod hm (Ex.inL_bl.2 (fun k hk => hS k (List.mem_append_right _ hk)) a ha), h.nd⟩
theorem StsN.mod {S : Nat → Prop} {w w' : World} {v : Value} {l : List St} (h : StsN w v l) (hm : Mod S w w') (hS : ∀ k ∈ v.ownBlock.toList ++ St.blL l, ¬ S k) : StsN w' v l :=
  ⟨owns_mod h.row hm fun k hk => hS k (List.mem_append_left _ (by simp [hk])), fun a ha => (h.own a ha).mod hm (St.inL_bl.2 (fun k hk => hS k (List.mem_append_right _ hk)) a ha), h.nd⟩
theorem nd_mid {α : Type} {a b c d : List α} (h : (a ++ (b ++ (c ++ d))).Nodup) : (∀ k ∈ a ++ c, k ∉ b) ∧ (∀ k ∈ a ++ c, k ∉ d) := by
  rw [List.nodup_append] at h
  obtain ⟨_, h1, h2⟩ := h
  rw [List.nodup_append] at h1
  obtain ⟨_, h3, h4⟩ := h1
  rw [List.nodup_append] at h3
  refine ⟨fun k hk q => ?_, fun k hk q => ?_⟩
  · rcases List.mem_append.1 hk with z | z
    · exact h2 k z k (List.mem_append_left _ q) rfl
    · exact h4 k q k (List.mem_append_left _ z) rfl
  · rcases List.mem_append.1 hk with z | z
    · exact h2 k z k (List.mem_append_right _ (List.mem_append_right _ q)) rfl
    · exact h3.2.2 k z k q rfl
/-- One element touched. -/
theorem ExsN.put {S : Nat → Prop} {w w' : World} {v : Value} {pre post : List Ex} {e e' : Ex} (h : ExsN w v (pre ++ e :: post)) (hbl : e'.bl = e.bl) (hrow : w'.ownsRow 0 tE 6 v (pre ++ e' :: post).length ((pre ++ e' :: post).flatMap Ex.cells)) (he : e'.Own w' tE) (hm : Mod S w w') (hS : ∀ k, S k → k ∈ v.ownBlock.toList ++ e.bl) : ExsN w' v (pre ++ e' :: post) := by
  have hnd := h.nd
  rw [Ex.blL_app, Ex.blL] at hnd
  have hd := nd_mid hnd
  refine ⟨hrow, fun a ha => ?_, by rw [Ex.blL_app, Ex.blL, hbl]; exact hnd⟩
  have key : ∀ a, a ∈ pre ∨ a ∈ post → a.Own w' tE := by
    intro a ha
    refine (h.own a (by rcases ha with q | q <;> simp [q])).mod hm ?_
    rw [Ex.in_bl]
    intro k hk hs
    rcases ha with q | q
    · exact hd.1 k (hS k hs) (by obtain ⟨s, t, hq⟩ := List.append_of_mem q; rw [hq, Ex.blL_app, Ex.blL]; simp [hk])
    · exact hd.2 k (hS k hs) (by obtain ⟨s, t, hq⟩ := List.append_of_mem q; rw [hq, Ex.blL_app, Ex.blL]; simp [hk])
  rcases List.mem_append.1 ha with q | q
  · exact key a (.inl q)
  · rcases List.mem_cons.1 q with rfl | q
    · exact he
    · exact key a (.inr q)
theorem StsN.put {S : Nat → Prop} {w w' : World} {v : Value} {pre post : List St} {e e' : St} (h : StsN w v (pre ++ e :: post)) (hbl : e'.bl = e.bl) (hrow : w'.ownsRow 0 tS 10 v (pre ++ e' :: post).length ((pre ++ e' :: post).flatMap St.cells)) (he : e'.Own w' tE tS) (hm : Mod S w w') (hS : ∀ k, S k → k ∈ v.ownBlock.toList ++ e.bl) : StsN w' v (pre ++ e' :: post) := by
  have hnd := h.nd
  rw [St.blL_app, St.blL] at hnd
  have hd := nd_mid hnd
  refine ⟨hrow, fun a ha => ?_, by rw [St.blL_app, St.blL, hbl]; exact hnd⟩
  have key : ∀ a, a ∈ pre ∨ a ∈ post → a.Own w' tE tS := by
    intro a ha
    refine (h.own a (by rcases ha with q | q <;> simp [q])).mod hm ?_
    rw [St.in_bl]
    intro k hk hs
    rcases ha with q | q
    · exact hd.1 k (hS k hs) (by obtain ⟨s, t, hq⟩ := List.append_of_mem q; rw [hq, St.blL_app, St.blL]; simp [hk])
    · exact hd.2 k (hS k hs) (by obtain ⟨s, t, hq⟩ := List.append_of_mem q; rw [hq, St.blL_app, St.blL]; simp [hk])
  rcases List.mem_append.1 ha with q | q
  · exact key a (.inl q)
  · rcases List.mem_cons.1 q with rfl | q
    · exact he
    · exact key a (.inr q)
theorem nd_head {α : Type} {a b c d : List α} (h : (a ++ (b ++ (c ++ d))).Nodup) : (∀ k ∈ a, k ∉ c) ∧ c.Nodup := by
  rw [List.nodup_append] at h
  obtain ⟨_, h1, h2⟩ := h
  rw [List.nodup_append] at h1
  obtain ⟨_, h3, _⟩ := h1
  rw [List.nodup_append] at h3
  exact ⟨fun k hk q => h2 k hk k (List.mem_append_right _ (List.mem_append_left _ q)) rfl, h3.1⟩
theorem ExsN.at {w : World} {v : Value} {pre post : List Ex} {e : Ex} (h : ExsN w v (pre ++ e :: post)) : ExsN w e.s e.args ∧ (∀ k ∈ v.ownBlock.toList, k ∉ e.bl) := by
  have hnd := h.nd
  rw [Ex.blL_app, Ex.blL] at hnd
  have hd := nd_head hnd
  obtain ⟨h1, _, h2⟩ := Ex.own_.1 (h.own e (by simp))
  exact ⟨⟨h1, h2, by rw [← Ex.bl_eq]; exact hd.2⟩, hd.1⟩
theorem StsN.at {w : World} {v : Value} {pre post : List St} {e : St} (h : StsN w v (pre ++ e :: post)) : ExsN w e.es e.exprs ∧ StsN w e.bs e.body ∧ StsN w e.ls e.els ∧ e.bl.Nodup ∧ (∀ k ∈ v.ownBlock.toList, k ∉ e.bl) := by
  have hnd := h.nd
  rw [St.blL_app, St.blL] at hnd
  have hd := nd_head hnd
  obtain ⟨⟨h1, h2⟩, ⟨h3, h4⟩, ⟨h5, h6⟩, _⟩ := St.own_.1 (h.own e (by simp))
  have hb := hd.2
  rw [St.bl_eq] at hb
  have hb1 := List.nodup_append.1 hb
  have hb2 := List.nodup_append.1 hb1.2.1
  exact ⟨⟨h1, h2, hb1.1⟩, ⟨h3, h4, hb2.1⟩, ⟨h5, h6, hb2.2.1⟩, hd.2, hd.1⟩
/-- An element's place in an own row, its name stored over. -/
theorem ex_fine_rn {e : Ex} {o : ByteArray} (h : e.fine) (ho : o.size ≤ maxLen) : Ex.fine ⟨e.op, e.num, o, e.s, e.args, e.line, e.col⟩ := ⟨h.1, h.2.1, ho, h.2.2.2.1, h.2.2.2.2⟩
theorem st_fine_rn {e : St} {o : ByteArray} (h : e.fine) (ho : o.size ≤ maxLen) : St.fine ⟨e.op, e.kind, e.red, o, e.turns, e.es, e.exprs, e.bs, e.body, e.ls, e.els, e.line, e.col⟩ := ⟨h.1, h.2.1, h.2.2.1, ho, h.2.2.2.2.1, h.2.2.2.2.2.1, h.2.2.2.2.2.2⟩
theorem set_mid {α : Type} {pre post : List α} {e e' : α} {n : Nat} (hn : pre.length = n) : (pre ++ e :: post).set n e' = pre ++ e' :: post := by
  subst hn; rw [List.set_append_right _ _ (Nat.le_refl _), Nat.sub_self, List.set_cons_zero]
theorem get_mid {α : Type} {pre post : List α} {e : α} {n : Nat} (hn : pre.length = n) : (pre ++ e :: post)[n]? = some e := by
  subst hn; simp
theorem putExName {w : World} {v : Value} {pre post : List Ex} {e : Ex} {n : Nat} {o : ByteArray} (h : ExsN w v (pre ++ e :: post)) (hn : pre.length = n) (ho : o.size ≤ maxLen)
    {N : Value → Value → World → Prop} (hk : ∀ x y w', ExsN w' v (pre ++ (⟨e.op, e.num, o, e.s, e.args, e.line, e.col⟩ : Ex) :: post) → Mod (fun k => k ∈ v.ownBlock.toList) w w' → N x y w') :
    VK Tryd.prog (Instr.indexAt 58 v (.int .i64 (n : Int))) w fun x w => VK Tryd.prog (Instr.fieldAt 60 x 2) w fun y w => UK Tryd.prog (Instr.storeAt 9 y (.string o)) w fun _ w => N x y w := by
  have hlen : n < (pre ++ e :: post).length := by simp; omega
  obtain ⟨g, cap, hv, cur, hg⟩ := owns_some h.row (by omega)
  have hrow := h.row
  have hat := h.at
  rw [hv] at hrow ⊢
  rw [ixa (sz := 5) uExs cEx (by omega) (by omega), add_pl, Nat.zero_add, Int.toNat_natCast, fo (off := 2) (by kernel_rfl), add_pl]
  refine st_row (by kernel_rfl) rfl hrow (by show n * (5 + 1) + 2 < (pre ++ e :: post).length * 6; omega) fun w' ho' hm' => ?_
  refine hk _ _ _ ?_ (hm'.mono fun k _ q => by rw [hv]; simp [Value.ownBlock, q])
  have hfl : ((pre ++ e :: post).flatMap Ex.cells).set (n * (5 + 1) + 2) (.string o) = (pre ++ (⟨e.op, e.num, o, e.s, e.args, e.line, e.col⟩ : Ex) :: post).flatMap Ex.cells := by
    rw [show n * (5 + 1) + 2 = n * 6 + 2 from rfl, fl_set (k := 6) (r' := (⟨e.op, e.num, o, e.s, e.args, e.line, e.col⟩ : Ex)) Ex.cells_len (get_mid hn) (by omega) rfl, set_mid hn]
  rw [hfl] at ho'
  have hown := Ex.own_.1 (h.own e (by simp))
  have hgb : ∀ k ∈ v.ownBlock.toList, k = g := by rw [hv]; simp [Value.ownBlock]
  refine h.put (by rw [Ex.bl_eq, Ex.bl_eq]) (by rw [hv]; simpa using ho') ?_ hm' fun k q => List.mem_append_left _ (by rw [hv]; simp [Value.ownBlock, q])
  have hng : ∀ k ∈ e.bl, ¬ k = g := fun k hk q => hat.2 k (by rw [hv]; simp [Value.ownBlock, q]) hk
  have hsub := hat.1.mod hm' fun k hk => hng k (by rw [Ex.bl_eq]; exact hk)
  exact Ex.own_.2 ⟨hsub.row, ex_fine_rn hown.2.1 ho, hsub.own⟩
theorem putStName {w : World} {v : Value} {pre post : List St} {e : St} {n : Nat} {o : ByteArray} (h : StsN w v (pre ++ e :: post)) (hn : pre.length = n) (ho : o.size ≤ maxLen)
    {N : Value → Value → World → Prop} (hk : ∀ x y w', StsN w' v (pre ++ (⟨e.op, e.kind, e.red, o, e.turns, e.es, e.exprs, e.bs, e.body, e.ls, e.els, e.line, e.col⟩ : St) :: post) → Mod (fun k => k ∈ v.ownBlock.toList) w w' → N x y w') :
    VK Tryd.prog (Instr.indexAt 23 v (.int .i64 (n : Int))) w fun x w => VK Tryd.prog (Instr.fieldAt 62 x 3) w fun y w => UK Tryd.prog (Instr.storeAt 9 y (.string o)) w fun _ w => N x y w := by
  have hlen : n < (pre ++ e :: post).length := by simp; omega
  obtain ⟨g, cap, hv, cur, hg⟩ := owns_some h.row (by omega)
  have hrow := h.row
  have hat := h.at
  rw [hv] at hrow ⊢
  rw [ixa (sz := 9) uSts cSt (by omega) (by omega), add_pl, Nat.zero_add, Int.toNat_natCast, fo (off := 3) (by kernel_rfl), add_pl]
  refine st_row (by kernel_rfl) rfl hrow (by show n * (9 + 1) + 3 < (pre ++ e :: post).length * 10; omega) fun w' ho' hm' => ?_
  refine hk _ _ _ ?_ (hm'.mono fun k _ q => by rw [hv]; simp [Value.ownBlock, q])
  have hfl : ((pre ++ e :: post).flatMap St.cells).set (n * (9 + 1) + 3) (.string o) = (pre ++ (⟨e.op, e.kind, e.red, o, e.turns, e.es, e.exprs, e.bs, e.body, e.ls, e.els, e.line, e.col⟩ : St) :: post).flatMap St.cells := by
    rw [show n * (9 + 1) + 3 = n * 10 + 3 from rfl, fl_set (k := 10) (r' := (⟨e.op, e.kind, e.red, o, e.turns, e.es, e.exprs, e.bs, e.body, e.ls, e.els, e.line, e.col⟩ : St)) St.cells_len (get_mid hn) (by omega) rfl, set_mid hn]
  rw [hfl] at ho'
  have hown := St.own_.1 (h.own e (by simp))
  refine h.put (by rw [St.bl_eq, St.bl_eq]) (by rw [hv]; simpa using ho') ?_ hm' fun k q => List.mem_append_left _ (by rw [hv]; simp [Value.ownBlock, q])
  have hng : ∀ k ∈ e.bl, ¬ k = g := fun k hk q => hat.2.2.2.2 k (by rw [hv]; simp [Value.ownBlock, q]) hk
  have s1 := hat.1.mod hm' fun k hk => hng k (by rw [St.bl_eq]; exact List.mem_append_left _ hk)
  have s2 := hat.2.1.mod hm' fun k hk => hng k (by rw [St.bl_eq]; exact List.mem_append_right _ (List.mem_append_left _ hk))
  have s3 := hat.2.2.1.mod hm' fun k hk => hng k (by rw [St.bl_eq]; exact List.mem_append_right _ (List.mem_append_right _ hk))
  exact St.own_.2 ⟨⟨s1.row, s1.own⟩, ⟨s2.row, s2.own⟩, ⟨s3.row, s3.own⟩, st_fine_rn hown.2.2.2 ho⟩
def NamEx (n o : ByteArray) (l : List Ex) : Prop := ∀ (w : World) (v : Value), ExsN w v l → Ex.szL l ≤ 1099511627776 → Rt Tryd.prog 46 #[v, .string n, .string o] w fun _ w' => ExsN w' v (l.map (Ex.rn n o)) ∧ Mod (fun k => k ∈ v.ownBlock.toList ++ Ex.blL l) w w'
theorem fmEx {pre post : List Ex} {e e' : Ex} (h : e'.cells = e.cells) : (pre ++ e' :: post).flatMap Ex.cells = (pre ++ e :: post).flatMap Ex.cells := by simp [List.flatMap_append, h]
theorem fmSt {pre post : List St} {e e' : St} (h : e'.cells = e.cells) : (pre ++ e' :: post).flatMap St.cells = (pre ++ e :: post).flatMap St.cells := by simp [List.flatMap_append, h]
theorem namEx_R1 {z : X.At} {K : Exit → Sl → World → Prop} {ρ : Sl} {w : World} {v : Value} {pre post : List Ex} {e : Ex} {n o : ByteArray} {k : Nat} (ih : NamEx n o e.args) (h : ExsN w v (pre ++ e :: post)) (hk : pre.length = k) (hsz : Ex.szL e.args ≤ 1099511627776)
    (q0 : ρ 0 = v) (q1 : ρ 1 = .string n) (q2 : ρ 2 = .string o) (q6 : ρ 6 = .int .i64 (k : Nat))
    (hK : ∀ ρ' w', ρ' 0 = v → ρ' 1 = .string n → ρ' 2 = .string o → ρ' 6 = .int .i64 (k : Nat) → ExsN w' v (pre ++ (⟨e.op, e.num, e.name, e.s, e.args.map (Ex.rn n o), e.line, e.col⟩ : Ex) :: post) → Mod (fun k => k ∈ e.bl) w w' → K .normal ρ' w') :
    sx z Tryd.prog 33 dispatcherlaw04_namedExprs_R1 K ρ w := by
  rw [dispatcherlaw04_namedExprs_R1_eq]
  unfold dispatcherlaw04_namedExprs_R1_F
  rw [q0, q1, q2, q6]
  refine ixExA h.ok (get_mid hk) fun a ha => ?_
  obtain ⟨f0, f2, f3⟩ := exA_fo ha
  simp only [↓f3.e]
  have hat := h.at
  refine CK_st Tryd.func46 rfl rfl (ih w _ hat.1 hsz) ?_
  rintro _ w2 ⟨hN2, hm2⟩
  rw [← Ex.bl_eq] at hm2
  have hown := Ex.own_.1 (h.own e (by simp))
  refine hK _ _ ?_ ?_ ?_ ?_ ?_ hm2
  · exact q0
  · exact q1
  · exact q2
  · exact q6
  · refine h.put ?_ ?_ ?_ hm2 fun k q => List.mem_append_right _ q
    · rw [Ex.bl_eq, Ex.bl_eq]; dsimp only; rw [Ex.blL_map fun a _ => Ex.bl_rn a]
    · rw [fmEx (e := e) (e' := (⟨e.op, e.num, e.name, e.s, e.args.map (Ex.rn n o), e.line, e.col⟩ : Ex)) rfl, List.length_append, List.length_cons]
      have := owns_mod h.row hm2 fun k hk => hat.2 k (by simp [hk])
      rwa [List.length_append, List.length_cons] at this
    · exact Ex.own_.2 ⟨hN2.row, hown.2.1, hN2.own⟩
theorem Ex.eta (e : Ex) : (⟨e.op, e.num, e.name, e.s, e.args, e.line, e.col⟩ : Ex) = e := by cases e; rfl
theorem St.eta (e : St) : (⟨e.op, e.kind, e.red, e.name, e.turns, e.es, e.exprs, e.bs, e.body, e.ls, e.els, e.line, e.col⟩ : St) = e := by cases e; rfl
theorem rnB_t {n o x : ByteArray} (h : x = n) : rnB n o x = o := by unfold rnB; rw [if_pos h]
theorem rnB_f {n o x : ByteArray} (h : x ≠ n) : rnB n o x = x := by unfold rnB; rw [if_neg h]
theorem namEx_row {n o : ByteArray} (ho : o.size ≤ maxLen) {l : List Ex} (ih : ∀ a ∈ l, NamEx n o a.args) : NamEx n o l := by
  intro w v h hlen
  have hl := Ex.len_sz l
  obtain ⟨A, c, rfl, _⟩ := reads_cap h.ok.1
  generalize hv : (Value.slice A l.length c) = v at *
  refine dispatcherlaw04_namedExprs_calls ?_
  unfold dispatcherlaw04_namedExprs_F
  refine W_loopG dispatcherlaw04_namedExprs_L0_ok (fun m ρ w' => ∃ k, k + m = l.length ∧ ρ 0 = v ∧ ρ 1 = .string n ∧ ρ 2 = .string o ∧ ρ 6 = .int .i64 (k : Nat) ∧ ExsN w' v ((l.take k).map (Ex.rn n o) ++ l.drop k) ∧ Mod (fun k => k ∈ v.ownBlock.toList ++ Ex.blL l) w w') l.length
    ⟨0, by omega, rfl, rfl, rfl, rfl, by simpa using h, Mod.refl _ _⟩ ?_
  rintro m ρ w1 ⟨k, hk, q0, q1, q2, q6, hN, hm⟩
  rw [dispatcherlaw04_namedExprs_L0_eq]
  unfold dispatcherlaw04_namedExprs_L0_F
  rw [q0, q1, q2, q6]
  have hlen2 : ∀ K, IK Tryd.prog .len #[58] 3 [false] [v] w1 K = K (.int .i64 l.length) w1 := fun K => by rw [← hv]; exact len_sl uExs _ _ _ _
  rw [hlen2]
  by_cases hlt : k < l.length
  · simp only [↓VG_u, ↓UG_u, ↓MG_u, ↓NG_u, ↓PG_u, ↓BG_u, ↓CG_u, ↓IG_u, ↓VGtt, ↓VGtf, ↓VGft, ↓VGff, ↓UGtt, ↓UGtf, ↓UGft, ↓UGff, ↓MGtt, ↓MGtf, ↓MGft, ↓MGff, ↓NGtt, ↓NGtf, ↓NGft, ↓NGff, ↓PGtt, ↓PGtf, ↓PGft, ↓PGff, ↓BGtt, ↓BGtf, ↓BGft, ↓BGff, ↓CGtt, ↓CGtf, ↓CGft, ↓CGff, ↓IGtt, ↓IGtf, ↓IGft, ↓IGff, ↓PKt, ↓PKf, ↓CDt, ↓CDf, ↓NOTt, ↓NOTf, ↓NK_ptr, ↓LTt (show (k : Int) < (l.length : Int) by omega)]
    have hx : l[k]? = some l[k] := List.getElem?_eq_getElem hlt
    have hd : l.drop k = l[k] :: l.drop (k + 1) := List.drop_eq_getElem_cons hlt
    rw [hd] at hN
    have hlp : ((l.take k).map (Ex.rn n o)).length = k := by rw [List.length_map, List.length_take]; omega
    have hmem : l[k] ∈ l := List.getElem_mem hlt
    have hsz := Ex.szL_at hx
    have hse := Ex.sz_eq l[k]
    have hsub : ∀ j ∈ l[k].bl, j ∈ v.ownBlock.toList ++ Ex.blL l := fun j hj => List.mem_append_right _ (by
      obtain ⟨s, t, hq⟩ := List.append_of_mem hmem
      rw [hq, Ex.blL_app, Ex.blL]
      exact List.mem_append_right _ (List.mem_append_left _ hj))
    have hnext : (l.take k).map (Ex.rn n o) ++ (l[k].rn n o) :: l.drop (k + 1) = (l.take (k + 1)).map (Ex.rn n o) ++ l.drop (k + 1) := by
      rw [List.take_add_one, hx, Option.toList_some, List.map_append, List.append_assoc]; rfl
    have go : ∀ (ρ' : Sl) (w2 : World) (K : Exit → Sl → World → Prop), ρ' 0 = v → ρ' 1 = .string n → ρ' 2 = .string o → ρ' 6 = .int .i64 (k : Nat) → ExsN w2 v ((l.take k).map (Ex.rn n o) ++ (⟨l[k].op, l[k].num, rnB n o l[k].name, l[k].s, l[k].args, l[k].line, l[k].col⟩ : Ex) :: l.drop (k + 1)) → Mod (fun k => k ∈ v.ownBlock.toList ++ Ex.blL l) w w2 →
        (∀ ρ' w', (∃ m', m' < m ∧ ∃ k, k + m' = l.length ∧ ρ' 0 = v ∧ ρ' 1 = .string n ∧ ρ' 2 = .string o ∧ ρ' 6 = .int .i64 (k : Nat) ∧ ExsN w' v ((l.take k).map (Ex.rn n o) ++ l.drop k) ∧ Mod (fun k => k ∈ v.ownBlock.toList ++ Ex.blL l) w w') → K .normal ρ' w') →
        sx fn_ Tryd.prog 33 dispatcherlaw04_namedExprs_R1 (blkK 1 (seqK (sx fn_ Tryd.prog 33 dispatcherlaw04_namedExprs_R2 K) K)) ρ' w2 := by
      intro ρ' w2 K p0 p1 p2 p6 hN2 hm2 hK
      refine namEx_R1 (e := (⟨l[k].op, l[k].num, rnB n o l[k].name, l[k].s, l[k].args, l[k].line, l[k].col⟩ : Ex)) (show NamEx n o l[k].args from ih _ hmem) hN2 hlp (by show Ex.szL l[k].args ≤ _; omega) p0 p1 p2 p6 fun ρ3 w3 s0 s1 s2 s6 hN3 hm3 => ?_
      rw [bk_n, sq_n, dispatcherlaw04_namedExprs_R2_eq]
      unfold dispatcherlaw04_namedExprs_R2_F
      refine BKadd (a := k) (b := 1) s6 rfl (by omega) (by omega) (hK _ _ ⟨m - 1, by omega, k + 1, by omega, ?_, ?_, ?_, rfl, ?_, ?_⟩)
      · exact s0
      · exact s1
      · exact s2
      · rw [← hnext, Ex.rn_eq]; exact hN3
      · refine hm2.trans (hm3.mono fun j _ hj => hsub j ?_)
        rw [Ex.bl_eq] at hj ⊢; exact hj
    refine ixExA hN.ok (get_mid hlp) fun a ha => ?_
    obtain ⟨f0, f2, f3⟩ := exA_fo ha
    simp only [↓f2.e]
    by_cases kn : l[k].name = n
    · simp only [↓VG_u, ↓UG_u, ↓MG_u, ↓NG_u, ↓PG_u, ↓BG_u, ↓CG_u, ↓IG_u, ↓VGtt, ↓VGtf, ↓VGft, ↓VGff, ↓UGtt, ↓UGtf, ↓UGft, ↓UGff, ↓MGtt, ↓MGtf, ↓MGft, ↓MGff, ↓NGtt, ↓NGtf, ↓NGft, ↓NGff, ↓PGtt, ↓PGtf, ↓PGft, ↓PGff, ↓BGtt, ↓BGtf, ↓BGft, ↓BGff, ↓CGtt, ↓CGtf, ↓CGft, ↓CGff, ↓IGtt, ↓IGtf, ↓IGft, ↓IGff, ↓PKt, ↓PKf, ↓CDt, ↓CDf, ↓NOTt, ↓NOTf, ↓NK_ptr, ↓SEQt kn]
      refine putExName hN hlp ho fun x y w2 hN2 hm2 => ?_
      refine go _ _ _ ?_ ?_ ?_ ?_ ?_ (hm.trans (hm2.mono fun j _ hj => List.mem_append_left _ hj)) fun _ _ h => h
      · exact q0
      · exact q1
      · exact q2
      · exact q6
      · rw [rnB_t kn]; exact hN2
    · simp only [↓VG_u, ↓UG_u, ↓MG_u, ↓NG_u, ↓PG_u, ↓BG_u, ↓CG_u, ↓IG_u, ↓VGtt, ↓VGtf, ↓VGft, ↓VGff, ↓UGtt, ↓UGtf, ↓UGft, ↓UGff, ↓MGtt, ↓MGtf, ↓MGft, ↓MGff, ↓NGtt, ↓NGtf, ↓NGft, ↓NGff, ↓PGtt, ↓PGtf, ↓PGft, ↓PGff, ↓BGtt, ↓BGtf, ↓BGft, ↓BGff, ↓CGtt, ↓CGtf, ↓CGft, ↓CGff, ↓IGtt, ↓IGtf, ↓IGft, ↓IGff, ↓PKt, ↓PKf, ↓CDt, ↓CDf, ↓NOTt, ↓NOTf, ↓NK_ptr, ↓SEQf kn]
      refine go _ _ _ ?_ ?_ ?_ ?_ ?_ hm fun _ _ h => h
      · exact q0
      · exact q1
      · exact q2
      · exact q6
      · rw [rnB_f kn]; exact (Ex.eta l[k]).symm ▸ hN
  · simp only [↓VG_u, ↓UG_u, ↓MG_u, ↓NG_u, ↓PG_u, ↓BG_u, ↓CG_u, ↓IG_u, ↓VGtt, ↓VGtf, ↓VGft, ↓VGff, ↓UGtt, ↓UGtf, ↓UGft, ↓UGff, ↓MGtt, ↓MGtf, ↓MGft, ↓MGff, ↓NGtt, ↓NGtf, ↓NGft, ↓NGff, ↓PGtt, ↓PGtf, ↓PGft, ↓PGff, ↓BGtt, ↓BGtf, ↓BGft, ↓BGff, ↓CGtt, ↓CGtf, ↓CGft, ↓CGff, ↓IGtt, ↓IGtf, ↓IGft, ↓IGff, ↓PKt, ↓PKf, ↓CDt, ↓CDf, ↓NOTt, ↓NOTf, ↓NK_ptr, ↓LTf (show (l.length : Int) ≤ (k : Int) by omega)]
    rw [sq_x, bk_x]
    rw [List.take_of_length_le (by omega), List.drop_of_length_le (by omega), List.append_nil] at hN
    exact ⟨hN, hm⟩
theorem namEx_all {n o : ByteArray} (ho : o.size ≤ maxLen) : ∀ e : Ex, NamEx n o e.args := by
  intro e
  induction e using Ex.ind with
  | h e ih => exact namEx_row ho ih
theorem namEx {n o : ByteArray} (ho : o.size ≤ maxLen) (l : List Ex) : NamEx n o l := namEx_row ho fun a _ => namEx_all ho a
def NamSt (n o : ByteArray) (l : List St) : Prop := ∀ (w : World) (v : Value), StsN w v l → St.szL l ≤ 1099511627776 → Rt Tryd.prog 21 #[v, .string n, .string o] w fun _ w' => StsN w' v (l.map (St.rn n o)) ∧ Mod (fun k => k ∈ v.ownBlock.toList ++ St.blL l) w w'
theorem nd3 {α : Type} {a b c : List α} (h : (a ++ (b ++ c)).Nodup) : (∀ k ∈ a, k ∉ b ∧ k ∉ c) ∧ (∀ k ∈ b, k ∉ a ∧ k ∉ c) ∧ (∀ k ∈ c, k ∉ a ∧ k ∉ b) := by
  rw [List.nodup_append] at h
  obtain ⟨_, h1, h2⟩ := h
  rw [List.nodup_append] at h1
  obtain ⟨_, _, h3⟩ := h1
  refine ⟨fun k hk => ⟨fun q => h2 k hk k (List.mem_append_left _ q) rfl, fun q => h2 k hk k (List.mem_append_right _ q) rfl⟩, fun k hk => ⟨fun q => h2 k q k (List.mem_append_left _ hk) rfl, fun q => h3 k hk k q rfl⟩, fun k hk => ⟨fun q => h2 k q k (List.mem_append_right _ hk) rfl, fun q => h3 k q k hk rfl⟩⟩
theorem namSt_R1' {z : X.At} {K : Exit → Sl → World → Prop} {ρ : Sl} {w : World} {v : Value} {pre post : List St} {e : St} {n o : ByteArray} {k : Nat} (ho : o.size ≤ maxLen) (ihB : NamSt n o e.body) (ihE : NamSt n o e.els) (h : StsN w v (pre ++ e :: post)) (hk : pre.length = k) (hz1 : Ex.szL e.exprs ≤ 1099511627776) (hz2 : St.szL e.body ≤ 1099511627776) (hz3 : St.szL e.els ≤ 1099511627776)
    (q0 : ρ 0 = v) (q1 : ρ 1 = .string n) (q2 : ρ 2 = .string o) (q6 : ρ 6 = .int .i64 (k : Nat))
    (hK : ∀ ρ' w', ρ' 0 = v → ρ' 1 = .string n → ρ' 2 = .string o → ρ' 6 = .int .i64 (k : Nat) → StsN w' v (pre ++ (⟨e.op, e.kind, e.red, e.name, e.turns, e.es, e.exprs.map (Ex.rn n o), e.bs, e.body.map (St.rn n o), e.ls, e.els.map (St.rn n o), e.line, e.col⟩ : St) :: post) → Mod (fun k => k ∈ e.bl) w w' → K .normal ρ' w') :
    sx z Tryd.prog 49 dispatcherlaw04_named_R1 K ρ w := by
  rw [dispatcherlaw04_named_R1_eq]
  unfold dispatcherlaw04_named_R1_F
  rw [q0, q1, q2, q6]
  refine ixStA h.ok (get_mid hk) fun a ha => ?_
  obtain ⟨f0, f3, f5, f6, f7⟩ := stA_fo ha
  simp only [↓f5.e]
  obtain ⟨hE, hB, hL, hbn, hvb⟩ := h.at
  have hown := St.own_.1 (h.own e (by simp))
  rw [St.bl_eq] at hbn
  obtain ⟨d1, d2, d3⟩ := nd3 hbn
  have inE : ∀ {j}, j ∈ e.es.ownBlock.toList ++ Ex.blL e.exprs → j ∈ e.bl := fun q => by rw [St.bl_eq]; exact List.mem_append_left _ q
  have inB : ∀ {j}, j ∈ e.bs.ownBlock.toList ++ St.blL e.body → j ∈ e.bl := fun q => by rw [St.bl_eq]; exact List.mem_append_right _ (List.mem_append_left _ q)
  have inL : ∀ {j}, j ∈ e.ls.ownBlock.toList ++ St.blL e.els → j ∈ e.bl := fun q => by rw [St.bl_eq]; exact List.mem_append_right _ (List.mem_append_right _ q)
  refine CK_st Tryd.func46 rfl rfl (namEx ho e.exprs w _ hE hz1) ?_
  rintro _ w2 ⟨hE2, hm2⟩
  have hB2 := hB.mod hm2 fun j hj => (d2 j hj).1
  have hL2 := hL.mod hm2 fun j hj => (d3 j hj).1
  obtain ⟨e2, he2⟩ : ∃ e2 : St, e2 = ⟨e.op, e.kind, e.red, e.name, e.turns, e.es, e.exprs.map (Ex.rn n o), e.bs, e.body, e.ls, e.els, e.line, e.col⟩ := ⟨_, rfl⟩
  have hbl2 : e2.bl = e.bl := by rw [he2, St.bl_eq, St.bl_eq]; dsimp only; rw [Ex.blL_map fun a _ => Ex.bl_rn a]
  have row2 : ∀ {S : Nat → Prop} {wa wb : World} {ea eb : St}, StsN wa v (pre ++ ea :: post) → Mod S wa wb → (∀ j, S j → j ∈ e.bl) → eb.cells = ea.cells → wb.ownsRow 0 tS 10 v (pre ++ eb :: post).length ((pre ++ eb :: post).flatMap St.cells) := by
    intro S wa wb ea eb ha hmm hS hc
    rw [fmSt hc, List.length_append, List.length_cons]
    have := owns_mod ha.row hmm fun j hj q => hvb j (by simp [hj]) (hS j q)
    rwa [List.length_append, List.length_cons] at this
  have hN2 : StsN w2 v (pre ++ e2 :: post) := by
    refine h.put hbl2 (row2 h hm2 (fun j hj => inE hj) (by rw [he2]; rfl)) ?_ hm2 fun j hj => List.mem_append_right _ (inE hj)
    rw [he2]
    exact St.own_.2 ⟨⟨hE2.row, hE2.own⟩, ⟨hB2.row, hB2.own⟩, ⟨hL2.row, hL2.own⟩, hown.2.2.2⟩
  refine ixStA hN2.ok (get_mid hk) fun a ha => ?_
  obtain ⟨f0, f3, f5, f6, f7⟩ := stA_fo ha
  simp only [↓f6.e]
  rw [show e2.bs = e.bs by rw [he2]]
  refine CK_st Tryd.func21 rfl rfl (ihB w2 _ hB2 hz2) ?_
  rintro _ w3 ⟨hB3, hm3⟩
  have hE3 := hE2.mod hm3 fun j hj => (d1 j (by rw [Ex.blL_map fun a _ => Ex.bl_rn a] at hj; exact hj)).1
  have hL3 := hL2.mod hm3 fun j hj => (d3 j hj).2
  obtain ⟨e3, he3⟩ : ∃ e3 : St, e3 = ⟨e.op, e.kind, e.red, e.name, e.turns, e.es, e.exprs.map (Ex.rn n o), e.bs, e.body.map (St.rn n o), e.ls, e.els, e.line, e.col⟩ := ⟨_, rfl⟩
  have hbl3 : e3.bl = e2.bl := by rw [hbl2, he3, St.bl_eq, St.bl_eq]; dsimp only; rw [Ex.blL_map fun a _ => Ex.bl_rn a, St.blL_map fun a _ => St.bl_rn a]
  have hN3 : StsN w3 v (pre ++ e3 :: post) := by
    refine hN2.put hbl3 (row2 hN2 hm3 (fun j hj => inB hj) (by rw [he2, he3]; rfl)) ?_ hm3 fun j hj => List.mem_append_right _ (by rw [hbl2]; exact inB hj)
    rw [he3]
    exact St.own_.2 ⟨⟨hE3.row, hE3.own⟩, ⟨hB3.row, hB3.own⟩, ⟨hL3.row, hL3.own⟩, hown.2.2.2⟩
  refine ixStA hN3.ok (get_mid hk) fun a ha => ?_
  obtain ⟨f0, f3, f5, f6, f7⟩ := stA_fo ha
  simp only [↓f7.e]
  rw [show e3.ls = e.ls by rw [he3]]
  refine CK_st Tryd.func21 rfl rfl (ihE w3 _ hL3 hz3) ?_
  rintro _ w4 ⟨hL4, hm4⟩
  have hE4 := hE3.mod hm4 fun j hj => (d1 j (by rw [Ex.blL_map fun a _ => Ex.bl_rn a] at hj; exact hj)).2
  have hB4 := hB3.mod hm4 fun j hj => (d2 j (by rw [St.blL_map fun a _ => St.bl_rn a] at hj; exact hj)).2
  refine hK _ _ ?_ ?_ ?_ ?_ ?_ (((hm2.mono fun j _ hj => inE hj).trans (hm3.mono fun j _ hj => inB hj)).trans (hm4.mono fun j _ hj => inL hj))
  · exact q0
  · exact q1
  · exact q2
  · exact q6
  · refine hN3.put ?_ (row2 hN3 hm4 (fun j hj => inL hj) (by rw [he3]; rfl)) ?_ hm4 fun j hj => List.mem_append_right _ (by rw [hbl3, hbl2]; exact inL hj)
    · rw [hbl3, hbl2, St.bl_eq, St.bl_eq]; dsimp only; rw [Ex.blL_map fun a _ => Ex.bl_rn a, St.blL_map fun a _ => St.bl_rn a, St.blL_map fun a _ => St.bl_rn a]
    · exact St.own_.2 ⟨⟨hE4.row, hE4.own⟩, ⟨hB4.row, hB4.own⟩, ⟨hL4.row, hL4.own⟩, hown.2.2.2⟩
theorem namSt_row {n o : ByteArray} (ho : o.size ≤ maxLen) {l : List St} (ih : ∀ a ∈ l, NamSt n o a.body ∧ NamSt n o a.els) : NamSt n o l := by
  intro w v h hlen
  have hl := St.len_sz l
  obtain ⟨A, c, rfl, _⟩ := reads_cap h.ok.1
  generalize hv : (Value.slice A l.length c) = v at *
  refine dispatcherlaw04_named_calls ?_
  unfold dispatcherlaw04_named_F
  refine W_loopG dispatcherlaw04_named_L0_ok (fun m ρ w' => ∃ k, k + m = l.length ∧ ρ 0 = v ∧ ρ 1 = .string n ∧ ρ 2 = .string o ∧ ρ 6 = .int .i64 (k : Nat) ∧ StsN w' v ((l.take k).map (St.rn n o) ++ l.drop k) ∧ Mod (fun k => k ∈ v.ownBlock.toList ++ St.blL l) w w') l.length
    ⟨0, by omega, rfl, rfl, rfl, rfl, by simpa using h, Mod.refl _ _⟩ ?_
  rintro m ρ w1 ⟨k, hk, q0, q1, q2, q6, hN, hm⟩
  rw [dispatcherlaw04_named_L0_eq]
  unfold dispatcherlaw04_named_L0_F
  rw [q0, q1, q2, q6]
  have hlen2 : ∀ K, IK Tryd.prog .len #[23] 3 [false] [v] w1 K = K (.int .i64 l.length) w1 := fun K => by rw [← hv]; exact len_sl uSts _ _ _ _
  rw [hlen2]
  by_cases hlt : k < l.length
  · simp only [↓VG_u, ↓UG_u, ↓MG_u, ↓NG_u, ↓PG_u, ↓BG_u, ↓CG_u, ↓IG_u, ↓VGtt, ↓VGtf, ↓VGft, ↓VGff, ↓UGtt, ↓UGtf, ↓UGft, ↓UGff, ↓MGtt, ↓MGtf, ↓MGft, ↓MGff, ↓NGtt, ↓NGtf, ↓NGft, ↓NGff, ↓PGtt, ↓PGtf, ↓PGft, ↓PGff, ↓BGtt, ↓BGtf, ↓BGft, ↓BGff, ↓CGtt, ↓CGtf, ↓CGft, ↓CGff, ↓IGtt, ↓IGtf, ↓IGft, ↓IGff, ↓PKt, ↓PKf, ↓CDt, ↓CDf, ↓NOTt, ↓NOTf, ↓NK_ptr, ↓LTt (show (k : Int) < (l.length : Int) by omega)]
    have hx : l[k]? = some l[k] := List.getElem?_eq_getElem hlt
    have hd : l.drop k = l[k] :: l.drop (k + 1) := List.drop_eq_getElem_cons hlt
    rw [hd] at hN
    have hlp : ((l.take k).map (St.rn n o)).length = k := by rw [List.length_map, List.length_take]; omega
    have hmem : l[k] ∈ l := List.getElem_mem hlt
    have hsz := St.szL_at hx
    have hse := St.sz_eq l[k]
    have hsub : ∀ j ∈ l[k].bl, j ∈ v.ownBlock.toList ++ St.blL l := fun j hj => List.mem_append_right _ (by
      obtain ⟨s, t, hq⟩ := List.append_of_mem hmem
      rw [hq, St.blL_app, St.blL]
      exact List.mem_append_right _ (List.mem_append_left _ hj))
    have hnext : (l.take k).map (St.rn n o) ++ (l[k].rn n o) :: l.drop (k + 1) = (l.take (k + 1)).map (St.rn n o) ++ l.drop (k + 1) := by
      rw [List.take_add_one, hx, Option.toList_some, List.map_append, List.append_assoc]; rfl
    have go : ∀ (ρ' : Sl) (w2 : World) (nm : ByteArray) (K : Exit → Sl → World → Prop), nm = rnB n o l[k].name → ρ' 0 = v → ρ' 1 = .string n → ρ' 2 = .string o → ρ' 6 = .int .i64 (k : Nat) → StsN w2 v ((l.take k).map (St.rn n o) ++ (⟨l[k].op, l[k].kind, l[k].red, nm, l[k].turns, l[k].es, l[k].exprs, l[k].bs, l[k].body, l[k].ls, l[k].els, l[k].line, l[k].col⟩ : St) :: l.drop (k + 1)) → Mod (fun k => k ∈ v.ownBlock.toList ++ St.blL l) w w2 →
        (∀ ρ' w', (∃ m', m' < m ∧ ∃ k, k + m' = l.length ∧ ρ' 0 = v ∧ ρ' 1 = .string n ∧ ρ' 2 = .string o ∧ ρ' 6 = .int .i64 (k : Nat) ∧ StsN w' v ((l.take k).map (St.rn n o) ++ l.drop k) ∧ Mod (fun k => k ∈ v.ownBlock.toList ++ St.blL l) w w') → K .normal ρ' w') →
        sx fn_ Tryd.prog 49 dispatcherlaw04_named_R1 (blkK 1 (seqK (sx fn_ Tryd.prog 49 dispatcherlaw04_named_R2 K) K)) ρ' w2 := by
      intro ρ' w2 nm K hnm p0 p1 p2 p6 hN2 hm2 hK
      refine namSt_R1' (e := (⟨l[k].op, l[k].kind, l[k].red, nm, l[k].turns, l[k].es, l[k].exprs, l[k].bs, l[k].body, l[k].ls, l[k].els, l[k].line, l[k].col⟩ : St)) ho (show NamSt n o l[k].body from (ih _ hmem).1) (show NamSt n o l[k].els from (ih _ hmem).2) hN2 hlp (by show Ex.szL l[k].exprs ≤ _; omega) (by show St.szL l[k].body ≤ _; omega) (by show St.szL l[k].els ≤ _; omega) p0 p1 p2 p6 fun ρ3 w3 s0 s1 s2 s6 hN3 hm3 => ?_
      rw [bk_n, sq_n, dispatcherlaw04_named_R2_eq]
      unfold dispatcherlaw04_named_R2_F
      refine BKadd (a := k) (b := 1) s6 rfl (by omega) (by omega) (hK _ _ ⟨m - 1, by omega, k + 1, by omega, ?_, ?_, ?_, rfl, ?_, ?_⟩)
      · exact s0
      · exact s1
      · exact s2
      · rw [← hnext, St.rn_eq, ← hnm]; exact hN3
      · refine hm2.trans (hm3.mono fun j _ hj => hsub j ?_)
        rw [St.bl_eq] at hj ⊢; exact hj
    refine ixStA hN.ok (get_mid hlp) fun a ha => ?_
    obtain ⟨f0, f3, f5, f6, f7⟩ := stA_fo ha
    simp only [↓f3.e]
    by_cases kn : l[k].name = n
    · simp only [↓VG_u, ↓UG_u, ↓MG_u, ↓NG_u, ↓PG_u, ↓BG_u, ↓CG_u, ↓IG_u, ↓VGtt, ↓VGtf, ↓VGft, ↓VGff, ↓UGtt, ↓UGtf, ↓UGft, ↓UGff, ↓MGtt, ↓MGtf, ↓MGft, ↓MGff, ↓NGtt, ↓NGtf, ↓NGft, ↓NGff, ↓PGtt, ↓PGtf, ↓PGft, ↓PGff, ↓BGtt, ↓BGtf, ↓BGft, ↓BGff, ↓CGtt, ↓CGtf, ↓CGft, ↓CGff, ↓IGtt, ↓IGtf, ↓IGft, ↓IGff, ↓PKt, ↓PKf, ↓CDt, ↓CDf, ↓NOTt, ↓NOTf, ↓NK_ptr, ↓SEQt kn]
      refine putStName hN hlp ho fun x y w2 hN2 hm2 => ?_
      refine go _ _ _ _ (rnB_t kn).symm ?_ ?_ ?_ ?_ hN2 (hm.trans (hm2.mono fun j _ hj => List.mem_append_left _ hj)) fun _ _ h => h
      · exact q0
      · exact q1
      · exact q2
      · exact q6
    · simp only [↓VG_u, ↓UG_u, ↓MG_u, ↓NG_u, ↓PG_u, ↓BG_u, ↓CG_u, ↓IG_u, ↓VGtt, ↓VGtf, ↓VGft, ↓VGff, ↓UGtt, ↓UGtf, ↓UGft, ↓UGff, ↓MGtt, ↓MGtf, ↓MGft, ↓MGff, ↓NGtt, ↓NGtf, ↓NGft, ↓NGff, ↓PGtt, ↓PGtf, ↓PGft, ↓PGff, ↓BGtt, ↓BGtf, ↓BGft, ↓BGff, ↓CGtt, ↓CGtf, ↓CGft, ↓CGff, ↓IGtt, ↓IGtf, ↓IGft, ↓IGff, ↓PKt, ↓PKf, ↓CDt, ↓CDf, ↓NOTt, ↓NOTf, ↓NK_ptr, ↓SEQf kn]
      refine go _ _ l[k].name _ (rnB_f kn).symm ?_ ?_ ?_ ?_ ((St.eta l[k]).symm ▸ hN) hm fun _ _ h => h
      · exact q0
      · exact q1
      · exact q2
      · exact q6
  · simp only [↓VG_u, ↓UG_u, ↓MG_u, ↓NG_u, ↓PG_u, ↓BG_u, ↓CG_u, ↓IG_u, ↓VGtt, ↓VGtf, ↓VGft, ↓VGff, ↓UGtt, ↓UGtf, ↓UGft, ↓UGff, ↓MGtt, ↓MGtf, ↓MGft, ↓MGff, ↓NGtt, ↓NGtf, ↓NGft, ↓NGff, ↓PGtt, ↓PGtf, ↓PGft, ↓PGff, ↓BGtt, ↓BGtf, ↓BGft, ↓BGff, ↓CGtt, ↓CGtf, ↓CGft, ↓CGff, ↓IGtt, ↓IGtf, ↓IGft, ↓IGff, ↓PKt, ↓PKf, ↓CDt, ↓CDf, ↓NOTt, ↓NOTf, ↓NK_ptr, ↓LTf (show (l.length : Int) ≤ (k : Int) by omega)]
    rw [sq_x, bk_x]
    rw [List.take_of_length_le (by omega), List.drop_of_length_le (by omega), List.append_nil] at hN
    exact ⟨hN, hm⟩
theorem namSt_all {n o : ByteArray} (ho : o.size ≤ maxLen) : ∀ e : St, NamSt n o e.body ∧ NamSt n o e.els := by
  intro e
  induction e using St.ind with
  | h e ih1 ih2 => exact ⟨namSt_row ho ih1, namSt_row ho ih2⟩
theorem namSt {n o : ByteArray} (ho : o.size ≤ maxLen) (l : List St) : NamSt n o l := namSt_row ho fun a _ => namSt_all ho a
end Go.Proofs.YtbnbcimjapiicaaDoor.Tr
set_option linter.unusedVariables false
set_option linter.unusedSimpArgs false
set_option maxRecDepth 4000
namespace Go.Proofs.YtbnbcimjapiicaaDoor.Tr
open Go Go.X Go.RowKit Go.Proofs.YtbnbcimjapiicaaDoor.XQ Go.Proofs.YtbnbcimjapiicaaDoor.XK
def HasE (o : ByteArray) (l : List Ex) : Prop := ∀ (w : World) (v : Value), ExsOk w v l → Ex.szL l ≤ 1099511627776 → Rt Tryd.prog 42 #[v, .string o] w fun v w' => v = .bool (Ex.hasL o l) ∧ Mod none_ w w'
theorem hasE_row {o : ByteArray} {l : List Ex} (ih : ∀ a ∈ l, HasE o a.args) : HasE o l := by
  intro w v h hlen
  have hl := Ex.len_sz l
  obtain ⟨A, c, rfl, _⟩ := reads_cap h.1
  refine dispatcherlaw04_hasExprs_calls ?_
  unfold dispatcherlaw04_hasExprs_F
  refine W_loopG dispatcherlaw04_hasExprs_L0_ok (fun m ρ w' => ∃ n, n + m = l.length ∧ (l.take n).any (Ex.has o) = false ∧ ρ 0 = .slice A l.length c ∧ ρ 1 = .string o ∧ ρ 5 = .int .i64 (n : Nat) ∧ Mod none_ w w') l.length ⟨0, by omega, by simp, rfl, rfl, rfl, Mod.refl _ _⟩ ?_
  rintro m ρ w1 ⟨n, hn, hpre, q0, q1, q5, hm⟩
  rw [dispatcherlaw04_hasExprs_L0_eq]
  unfold dispatcherlaw04_hasExprs_L0_F
  rw [q0, q1, q5, len_sl uExs]
  by_cases hlt : n < l.length
  · simp only [↓VG_u, ↓UG_u, ↓MG_u, ↓NG_u, ↓PG_u, ↓BG_u, ↓CG_u, ↓IG_u, ↓VGtt, ↓VGtf, ↓VGft, ↓VGff, ↓UGtt, ↓UGtf, ↓UGft, ↓UGff, ↓MGtt, ↓MGtf, ↓MGft, ↓MGff, ↓NGtt, ↓NGtf, ↓NGft, ↓NGff, ↓PGtt, ↓PGtf, ↓PGft, ↓PGff, ↓BGtt, ↓BGtf, ↓BGft, ↓BGff, ↓CGtt, ↓CGtf, ↓CGft, ↓CGff, ↓IGtt, ↓IGtf, ↓IGft, ↓IGff, ↓PKt, ↓PKf, ↓CDt, ↓CDf, ↓NOTt, ↓NOTf, ↓NK_ptr, ↓LTt (show (n : Int) < (l.length : Int) by omega)]
    have hx : l[n]? = some l[n] := List.getElem?_eq_getElem hlt
    have h1 := h.mod hm
    have hokx := h1.at hx
    have hsz := Ex.szL_at hx
    have hl2 : Ex.szL l[n].args ≤ 1099511627776 := by have := Ex.sz_eq l[n]; omega
    have hnm := Ex.has_eq o l[n]
    have hit : l[n].has o = true → ∀ w', Mod none_ w w' → (Value.bool true = .bool (Ex.hasL o l) ∧ Mod none_ w w') := fun q w' hw => ⟨by rw [Ex.hasL_any, any_hit hlt q], hw⟩
    have go : l[n].has o = false → (l.take (n + 1)).any (Ex.has o) = false := fun q => by rw [any_step hlt, hpre, q]; rfl
    refine ixExA h1 hx fun a ha => ?_
    obtain ⟨f0, f2, f3⟩ := exA_fo ha
    simp only [↓f2.e]
    by_cases k2 : l[n].name = o
    · simp only [↓VG_u, ↓UG_u, ↓MG_u, ↓NG_u, ↓PG_u, ↓BG_u, ↓CG_u, ↓IG_u, ↓VGtt, ↓VGtf, ↓VGft, ↓VGff, ↓UGtt, ↓UGtf, ↓UGft, ↓UGff, ↓MGtt, ↓MGtf, ↓MGft, ↓MGff, ↓NGtt, ↓NGtf, ↓NGft, ↓NGff, ↓PGtt, ↓PGtf, ↓PGft, ↓PGff, ↓BGtt, ↓BGtf, ↓BGft, ↓BGff, ↓CGtt, ↓CGtf, ↓CGft, ↓CGff, ↓IGtt, ↓IGtf, ↓IGft, ↓IGff, ↓PKt, ↓PKf, ↓CDt, ↓CDf, ↓NOTt, ↓NOTf, ↓NK_ptr, ↓SEQt k2]
      exact hit (by rw [hnm, decide_eq_true k2]; rfl) _ hm
    · simp only [↓VG_u, ↓UG_u, ↓MG_u, ↓NG_u, ↓PG_u, ↓BG_u, ↓CG_u, ↓IG_u, ↓VGtt, ↓VGtf, ↓VGft, ↓VGff, ↓UGtt, ↓UGtf, ↓UGft, ↓UGff, ↓MGtt, ↓MGtf, ↓MGft, ↓MGff, ↓NGtt, ↓NGtf, ↓NGft, ↓NGff, ↓PGtt, ↓PGtf, ↓PGft, ↓PGff, ↓BGtt, ↓BGtf, ↓BGft, ↓BGff, ↓CGtt, ↓CGtf, ↓CGft, ↓CGff, ↓IGtt, ↓IGtf, ↓IGft, ↓IGff, ↓PKt, ↓PKf, ↓CDt, ↓CDf, ↓NOTt, ↓NOTf, ↓NK_ptr, ↓SEQf k2]
      refine ixExA h1 hx fun a ha => ?_
      obtain ⟨f0, f2, f3⟩ := exA_fo ha
      simp only [↓f3.e]
      refine CK_st Tryd.func42 rfl rfl (ih _ (List.getElem_mem hlt) w1 _ hokx.args hl2) ?_
      rintro _ w2 ⟨rfl, hm2⟩
      cases hb : Ex.hasL o l[n].args with
      | true =>
        try simp only [↓VG_u, ↓UG_u, ↓MG_u, ↓NG_u, ↓PG_u, ↓BG_u, ↓CG_u, ↓IG_u, ↓VGtt, ↓VGtf, ↓VGft, ↓VGff, ↓UGtt, ↓UGtf, ↓UGft, ↓UGff, ↓MGtt, ↓MGtf, ↓MGft, ↓MGff, ↓NGtt, ↓NGtf, ↓NGft, ↓NGff, ↓PGtt, ↓PGtf, ↓PGft, ↓PGff, ↓BGtt, ↓BGtf, ↓BGft, ↓BGff, ↓CGtt, ↓CGtf, ↓CGft, ↓CGff, ↓IGtt, ↓IGtf, ↓IGft, ↓IGff, ↓PKt, ↓PKf, ↓CDt, ↓CDf, ↓NOTt, ↓NOTf, ↓NK_ptr]
        exact hit (by rw [hnm, hb]; simp) _ (hm.trans hm2)
      | false =>
        try simp only [↓VG_u, ↓UG_u, ↓MG_u, ↓NG_u, ↓PG_u, ↓BG_u, ↓CG_u, ↓IG_u, ↓VGtt, ↓VGtf, ↓VGft, ↓VGff, ↓UGtt, ↓UGtf, ↓UGft, ↓UGff, ↓MGtt, ↓MGtf, ↓MGft, ↓MGff, ↓NGtt, ↓NGtf, ↓NGft, ↓NGff, ↓PGtt, ↓PGtf, ↓PGft, ↓PGff, ↓BGtt, ↓BGtf, ↓BGft, ↓BGff, ↓CGtt, ↓CGtf, ↓CGft, ↓CGff, ↓IGtt, ↓IGtf, ↓IGft, ↓IGff, ↓PKt, ↓PKf, ↓CDt, ↓CDf, ↓NOTt, ↓NOTf, ↓NK_ptr]
        refine BKadd (a := n) (b := 1) rfl rfl (by omega) (by omega) ⟨m - 1, by omega, n + 1, by omega, go (by rw [hnm, hb, decide_eq_false k2]; rfl), ?_, ?_, rfl, hm.trans hm2⟩
        · exact q0
        · exact q1
  · simp only [↓VG_u, ↓UG_u, ↓MG_u, ↓NG_u, ↓PG_u, ↓BG_u, ↓CG_u, ↓IG_u, ↓VGtt, ↓VGtf, ↓VGft, ↓VGff, ↓UGtt, ↓UGtf, ↓UGft, ↓UGff, ↓MGtt, ↓MGtf, ↓MGft, ↓MGff, ↓NGtt, ↓NGtf, ↓NGft, ↓NGff, ↓PGtt, ↓PGtf, ↓PGft, ↓PGff, ↓BGtt, ↓BGtf, ↓BGft, ↓BGff, ↓CGtt, ↓CGtf, ↓CGft, ↓CGff, ↓IGtt, ↓IGtf, ↓IGft, ↓IGff, ↓PKt, ↓PKf, ↓CDt, ↓CDf, ↓NOTt, ↓NOTf, ↓NK_ptr, ↓LTf (show (l.length : Int) ≤ (n : Int) by omega)]
    rw [sq_x, bk_x, sq_n, dispatcherlaw04_hasExprs_R1_eq]
    unfold dispatcherlaw04_hasExprs_R1_F
    rw [List.take_of_length_le (by omega)] at hpre
    exact ⟨by rw [Ex.hasL_any, hpre]; rfl, hm⟩
theorem hasE_all {o : ByteArray} : ∀ e : Ex, HasE o e.args := by
  intro e
  induction e using Ex.ind with
  | h e ih => exact hasE_row ih
theorem hasE (o : ByteArray) (l : List Ex) : HasE o l := hasE_row fun a _ => hasE_all a
def HasS (o : ByteArray) (l : List St) : Prop := ∀ (w : World) (v : Value), StsOk w v l → St.szL l ≤ 1099511627776 → Rt Tryd.prog 19 #[v, .string o] w fun v w' => v = .bool (St.hasL o l) ∧ Mod none_ w w'
theorem hasS_row {o : ByteArray} {l : List St} (ih : ∀ a ∈ l, HasS o a.body ∧ HasS o a.els) : HasS o l := by
  intro w v h hlen
  have hl := St.len_sz l
  obtain ⟨A, c, rfl, _⟩ := reads_cap h.1
  refine dispatcherlaw04_has_calls ?_
  unfold dispatcherlaw04_has_F
  refine W_loopG dispatcherlaw04_has_L0_ok (fun m ρ w' => ∃ n, n + m = l.length ∧ (l.take n).any (St.has o) = false ∧ ρ 0 = .slice A l.length c ∧ ρ 1 = .string o ∧ ρ 5 = .int .i64 (n : Nat) ∧ Mod none_ w w') l.length ⟨0, by omega, by simp, rfl, rfl, rfl, Mod.refl _ _⟩ ?_
  rintro m ρ w1 ⟨n, hn, hpre, q0, q1, q5, hm⟩
  rw [dispatcherlaw04_has_L0_eq]
  unfold dispatcherlaw04_has_L0_F
  rw [q0, q1, q5, len_sl uSts]
  by_cases hlt : n < l.length
  · simp only [↓VG_u, ↓UG_u, ↓MG_u, ↓NG_u, ↓PG_u, ↓BG_u, ↓CG_u, ↓IG_u, ↓VGtt, ↓VGtf, ↓VGft, ↓VGff, ↓UGtt, ↓UGtf, ↓UGft, ↓UGff, ↓MGtt, ↓MGtf, ↓MGft, ↓MGff, ↓NGtt, ↓NGtf, ↓NGft, ↓NGff, ↓PGtt, ↓PGtf, ↓PGft, ↓PGff, ↓BGtt, ↓BGtf, ↓BGft, ↓BGff, ↓CGtt, ↓CGtf, ↓CGft, ↓CGff, ↓IGtt, ↓IGtf, ↓IGft, ↓IGff, ↓PKt, ↓PKf, ↓CDt, ↓CDf, ↓NOTt, ↓NOTf, ↓NK_ptr, ↓LTt (show (n : Int) < (l.length : Int) by omega)]
    have hx : l[n]? = some l[n] := List.getElem?_eq_getElem hlt
    have h1 := h.mod hm
    have hokx := h1.at hx
    have hsz := St.szL_at hx
    have hse := St.sz_eq l[n]
    have hnm := St.has_eq o l[n]
    have hit : l[n].has o = true → ∀ w', Mod none_ w w' → (Value.bool true = .bool (St.hasL o l) ∧ Mod none_ w w') := fun q w' hw => ⟨by rw [St.hasL_any, any_hit hlt q], hw⟩
    have go : l[n].has o = false → (l.take (n + 1)).any (St.has o) = false := fun q => by rw [any_step hlt, hpre, q]; rfl
    refine ixStA h1 hx fun a ha => ?_
    obtain ⟨f0, f3, f5, f6, f7⟩ := stA_fo ha
    simp only [↓f3.e]
    by_cases kn : l[n].name = o
    · simp only [↓VG_u, ↓UG_u, ↓MG_u, ↓NG_u, ↓PG_u, ↓BG_u, ↓CG_u, ↓IG_u, ↓VGtt, ↓VGtf, ↓VGft, ↓VGff, ↓UGtt, ↓UGtf, ↓UGft, ↓UGff, ↓MGtt, ↓MGtf, ↓MGft, ↓MGff, ↓NGtt, ↓NGtf, ↓NGft, ↓NGff, ↓PGtt, ↓PGtf, ↓PGft, ↓PGff, ↓BGtt, ↓BGtf, ↓BGft, ↓BGff, ↓CGtt, ↓CGtf, ↓CGft, ↓CGff, ↓IGtt, ↓IGtf, ↓IGft, ↓IGff, ↓PKt, ↓PKf, ↓CDt, ↓CDf, ↓NOTt, ↓NOTf, ↓NK_ptr, ↓SEQt kn]
      rw [dispatcherlaw04_has_R2_eq]
      unfold dispatcherlaw04_has_R2_F
      refine condT ?_
      exact hit (by rw [hnm, decide_eq_true kn]; rfl) _ hm
    · simp only [↓VG_u, ↓UG_u, ↓MG_u, ↓NG_u, ↓PG_u, ↓BG_u, ↓CG_u, ↓IG_u, ↓VGtt, ↓VGtf, ↓VGft, ↓VGff, ↓UGtt, ↓UGtf, ↓UGft, ↓UGff, ↓MGtt, ↓MGtf, ↓MGft, ↓MGff, ↓NGtt, ↓NGtf, ↓NGft, ↓NGff, ↓PGtt, ↓PGtf, ↓PGft, ↓PGff, ↓BGtt, ↓BGtf, ↓BGft, ↓BGff, ↓CGtt, ↓CGtf, ↓CGft, ↓CGff, ↓IGtt, ↓IGtf, ↓IGft, ↓IGff, ↓PKt, ↓PKf, ↓CDt, ↓CDf, ↓NOTt, ↓NOTf, ↓NK_ptr, ↓SEQf kn]
      refine ixStA h1 hx fun a ha => ?_
      obtain ⟨f0, f3, f5, f6, f7⟩ := stA_fo ha
      simp only [↓f5.e]
      refine CK_st Tryd.func42 rfl rfl (hasE _ _ w1 _ hokx.exprs (by omega)) ?_
      rintro _ w2 ⟨rfl, hm2⟩
      cases hb : Ex.hasL o l[n].exprs with
      | true =>
        try simp only [↓VG_u, ↓UG_u, ↓MG_u, ↓NG_u, ↓PG_u, ↓BG_u, ↓CG_u, ↓IG_u, ↓VGtt, ↓VGtf, ↓VGft, ↓VGff, ↓UGtt, ↓UGtf, ↓UGft, ↓UGff, ↓MGtt, ↓MGtf, ↓MGft, ↓MGff, ↓NGtt, ↓NGtf, ↓NGft, ↓NGff, ↓PGtt, ↓PGtf, ↓PGft, ↓PGff, ↓BGtt, ↓BGtf, ↓BGft, ↓BGff, ↓CGtt, ↓CGtf, ↓CGft, ↓CGff, ↓IGtt, ↓IGtf, ↓IGft, ↓IGff, ↓PKt, ↓PKf, ↓CDt, ↓CDf, ↓NOTt, ↓NOTf, ↓NK_ptr]
        rw [dispatcherlaw04_has_R2_eq]
        unfold dispatcherlaw04_has_R2_F
        refine condT ?_
        exact hit (by rw [hnm, hb]; simp) _ (hm.trans hm2)
      | false =>
        try simp only [↓VG_u, ↓UG_u, ↓MG_u, ↓NG_u, ↓PG_u, ↓BG_u, ↓CG_u, ↓IG_u, ↓VGtt, ↓VGtf, ↓VGft, ↓VGff, ↓UGtt, ↓UGtf, ↓UGft, ↓UGff, ↓MGtt, ↓MGtf, ↓MGft, ↓MGff, ↓NGtt, ↓NGtf, ↓NGft, ↓NGff, ↓PGtt, ↓PGtf, ↓PGft, ↓PGff, ↓BGtt, ↓BGtf, ↓BGft, ↓BGff, ↓CGtt, ↓CGtf, ↓CGft, ↓CGff, ↓IGtt, ↓IGtf, ↓IGft, ↓IGff, ↓PKt, ↓PKf, ↓CDt, ↓CDf, ↓NOTt, ↓NOTf, ↓NK_ptr]
        refine ixStA (h1.mod hm2) hx fun a ha => ?_
        obtain ⟨f0, f3, f5, f6, f7⟩ := stA_fo ha
        simp only [↓f6.e]
        refine CK_st Tryd.func19 rfl rfl ((ih _ (List.getElem_mem hlt)).1 w2 _ ((h1.mod hm2).at hx).body (by omega)) ?_
        rintro _ w3 ⟨rfl, hm3⟩
        cases hc : St.hasL o l[n].body with
        | true =>
          try simp only [↓VG_u, ↓UG_u, ↓MG_u, ↓NG_u, ↓PG_u, ↓BG_u, ↓CG_u, ↓IG_u, ↓VGtt, ↓VGtf, ↓VGft, ↓VGff, ↓UGtt, ↓UGtf, ↓UGft, ↓UGff, ↓MGtt, ↓MGtf, ↓MGft, ↓MGff, ↓NGtt, ↓NGtf, ↓NGft, ↓NGff, ↓PGtt, ↓PGtf, ↓PGft, ↓PGff, ↓BGtt, ↓BGtf, ↓BGft, ↓BGff, ↓CGtt, ↓CGtf, ↓CGft, ↓CGff, ↓IGtt, ↓IGtf, ↓IGft, ↓IGff, ↓PKt, ↓PKf, ↓CDt, ↓CDf, ↓NOTt, ↓NOTf, ↓NK_ptr]
          rw [dispatcherlaw04_has_R2_eq]
          unfold dispatcherlaw04_has_R2_F
          refine condT ?_
          exact hit (by rw [hnm, hc]; simp) _ ((hm.trans hm2).trans hm3)
        | false =>
          try simp only [↓VG_u, ↓UG_u, ↓MG_u, ↓NG_u, ↓PG_u, ↓BG_u, ↓CG_u, ↓IG_u, ↓VGtt, ↓VGtf, ↓VGft, ↓VGff, ↓UGtt, ↓UGtf, ↓UGft, ↓UGff, ↓MGtt, ↓MGtf, ↓MGft, ↓MGff, ↓NGtt, ↓NGtf, ↓NGft, ↓NGff, ↓PGtt, ↓PGtf, ↓PGft, ↓PGff, ↓BGtt, ↓BGtf, ↓BGft, ↓BGff, ↓CGtt, ↓CGtf, ↓CGft, ↓CGff, ↓IGtt, ↓IGtf, ↓IGft, ↓IGff, ↓PKt, ↓PKf, ↓CDt, ↓CDf, ↓NOTt, ↓NOTf, ↓NK_ptr]
          refine ixStA ((h1.mod hm2).mod hm3) hx fun a ha => ?_
          obtain ⟨f0, f3, f5, f6, f7⟩ := stA_fo ha
          simp only [↓f7.e]
          refine CK_st Tryd.func19 rfl rfl ((ih _ (List.getElem_mem hlt)).2 w3 _ (((h1.mod hm2).mod hm3).at hx).els (by omega)) ?_
          rintro _ w4 ⟨rfl, hm4⟩
          have hm04 := ((hm.trans hm2).trans hm3).trans hm4
          cases hd : St.hasL o l[n].els with
          | true =>
            try simp only [↓VG_u, ↓UG_u, ↓MG_u, ↓NG_u, ↓PG_u, ↓BG_u, ↓CG_u, ↓IG_u, ↓VGtt, ↓VGtf, ↓VGft, ↓VGff, ↓UGtt, ↓UGtf, ↓UGft, ↓UGff, ↓MGtt, ↓MGtf, ↓MGft, ↓MGff, ↓NGtt, ↓NGtf, ↓NGft, ↓NGff, ↓PGtt, ↓PGtf, ↓PGft, ↓PGff, ↓BGtt, ↓BGtf, ↓BGft, ↓BGff, ↓CGtt, ↓CGtf, ↓CGft, ↓CGff, ↓IGtt, ↓IGtf, ↓IGft, ↓IGff, ↓PKt, ↓PKf, ↓CDt, ↓CDf, ↓NOTt, ↓NOTf, ↓NK_ptr]
            rw [dispatcherlaw04_has_R2_eq]
            unfold dispatcherlaw04_has_R2_F
            refine condT ?_
            exact hit (by rw [hnm, hd]; simp) _ hm04
          | false =>
            try simp only [↓VG_u, ↓UG_u, ↓MG_u, ↓NG_u, ↓PG_u, ↓BG_u, ↓CG_u, ↓IG_u, ↓VGtt, ↓VGtf, ↓VGft, ↓VGff, ↓UGtt, ↓UGtf, ↓UGft, ↓UGff, ↓MGtt, ↓MGtf, ↓MGft, ↓MGff, ↓NGtt, ↓NGtf, ↓NGft, ↓NGff, ↓PGtt, ↓PGtf, ↓PGft, ↓PGff, ↓BGtt, ↓BGtf, ↓BGft, ↓BGff, ↓CGtt, ↓CGtf, ↓CGft, ↓CGff, ↓IGtt, ↓IGtf, ↓IGft, ↓IGff, ↓PKt, ↓PKf, ↓CDt, ↓CDf, ↓NOTt, ↓NOTf, ↓NK_ptr]
            rw [dispatcherlaw04_has_R2_eq]
            unfold dispatcherlaw04_has_R2_F
            refine condF ?_
            rw [bk_n, sq_n, dispatcherlaw04_has_R3_eq]
            unfold dispatcherlaw04_has_R3_F
            refine BKadd (a := n) (b := 1) ?_ rfl (by omega) (by omega) ⟨m - 1, by omega, n + 1, by omega, go (by rw [hnm, hb, hc, hd, decide_eq_false kn]; rfl), ?_, ?_, rfl, hm04⟩
            · exact q5
            · exact q0
            · exact q1
  · simp only [↓VG_u, ↓UG_u, ↓MG_u, ↓NG_u, ↓PG_u, ↓BG_u, ↓CG_u, ↓IG_u, ↓VGtt, ↓VGtf, ↓VGft, ↓VGff, ↓UGtt, ↓UGtf, ↓UGft, ↓UGff, ↓MGtt, ↓MGtf, ↓MGft, ↓MGff, ↓NGtt, ↓NGtf, ↓NGft, ↓NGff, ↓PGtt, ↓PGtf, ↓PGft, ↓PGff, ↓BGtt, ↓BGtf, ↓BGft, ↓BGff, ↓CGtt, ↓CGtf, ↓CGft, ↓CGff, ↓IGtt, ↓IGtf, ↓IGft, ↓IGff, ↓PKt, ↓PKf, ↓CDt, ↓CDf, ↓NOTt, ↓NOTf, ↓NK_ptr, ↓LTf (show (l.length : Int) ≤ (n : Int) by omega)]
    rw [sq_x, bk_x, sq_n, dispatcherlaw04_has_R1_eq]
    unfold dispatcherlaw04_has_R1_F
    rw [List.take_of_length_le (by omega)] at hpre
    exact ⟨by rw [St.hasL_any, hpre]; rfl, hm⟩
theorem hasS_all {o : ByteArray} : ∀ e : St, HasS o e.body ∧ HasS o e.els := by
  intro e
  induction e using St.ind with
  | h e ih ih2 => exact ⟨hasS_row ih, hasS_row ih2⟩
theorem hasS (o : ByteArray) (l : List St) : HasS o l := hasS_row fun a _ => hasS_all a
end Go.Proofs.YtbnbcimjapiicaaDoor.Tr
set_option linter.unusedVariables false
set_option linter.unusedSimpArgs false
set_option maxRecDepth 4000
namespace Go.Proofs.YtbnbcimjapiicaaDoor.Tr
open Go Go.X Go.RowKit Go.Proofs.YtbnbcimjapiicaaDoor.XQ Go.Proofs.YtbnbcimjapiicaaDoor.XK
def zz : Bs := [122, 122, 111, 116, 104, 101, 114]
abbrev namesR (w0 : World) : Value → World → Prop := fun v w' => v = .bool true ∧ Mod none_ w0 w'
theorem rWrN (a b : Wr) (w : World) : (binOp .neq 30 a.v b.v).run Tryd.prog w = .ok (.bool (!decide (a = b))) w := by
  show (do pure (.bool (!(← Op.equalIn 10000 30 a.v b.v))) : Sem Value).run Tryd.prog w = _
  rw [Sem.run_bind, eqWr]; rfl
theorem BK_WrN {w : World} {K : Value → World → Prop} {x y : Operand} (a b : Wr) : BK Tryd.prog .neq 30 x y a.v b.v w K = K (.bool (!decide (a = b))) w := BK_of (run_eqGuard_agg w .neq _ x y _ _ gWr) (rWrN a b w)
theorem names8 {w0 w : World} (hm : Mod none_ w0 w) {ds ds' : List De} {t u base base' : Nat} (hT : TbAt w base t ds) (hU : TbAt w base' u ds') {nm : ByteArray} (hz : findP ds' nm.data.toList = zEn) (hv : vars ds' = vars ds) {ρ : Sl} (r5 : ρ 5 = .string nm) (r9 : ρ 9 = pt t) (r11 : ρ 11 = pt u) :
    sx fn_ Tryd.prog 149 dispatcherlaw04_ScopeNames_R8 (retK Tryd.prog [ResultVar.tmp 4] (namesR w0)) ρ w := by
  rw [dispatcherlaw04_ScopeNames_R8_eq]
  unfold dispatcherlaw04_ScopeNames_R8_F
  rw [r11, r5, r9]
  refine CK_st Tryd.func16 rfl rfl (FindT_ok hU nm) ?_
  rintro _ w1 ⟨rfl, hm1⟩
  rw [hz, build_ok bEnt0, show Value.agg zEn.cells.toArray = zEn.v from rfl, BK_EnE, decide_eq_true rfl]
  try simp only [↓VG_u, ↓UG_u, ↓MG_u, ↓NG_u, ↓PG_u, ↓BG_u, ↓CG_u, ↓IG_u, ↓VGtt, ↓VGtf, ↓VGft, ↓VGff, ↓UGtt, ↓UGtf, ↓UGft, ↓UGff, ↓MGtt, ↓MGtf, ↓MGft, ↓MGff, ↓NGtt, ↓NGtf, ↓NGft, ↓NGff, ↓PGtt, ↓PGtf, ↓PGft, ↓PGff, ↓BGtt, ↓BGtf, ↓BGft, ↓BGff, ↓CGtt, ↓CGtf, ↓CGft, ↓CGff, ↓IGtt, ↓IGtf, ↓IGft, ↓IGff, ↓PKt, ↓PKf, ↓CDt, ↓CDf, ↓NOTt, ↓NOTf, ↓NK_ptr]
  refine CK_st Tryd.func22 rfl rfl (VarsT_ok (hT.mod hm1)) ?_
  rintro _ w2 ⟨rfl, hm2⟩
  try simp only [↓VG_u, ↓UG_u, ↓MG_u, ↓NG_u, ↓PG_u, ↓BG_u, ↓CG_u, ↓IG_u, ↓VGtt, ↓VGtf, ↓VGft, ↓VGff, ↓UGtt, ↓UGtf, ↓UGft, ↓UGff, ↓MGtt, ↓MGtf, ↓MGft, ↓MGff, ↓NGtt, ↓NGtf, ↓NGft, ↓NGff, ↓PGtt, ↓PGtf, ↓PGft, ↓PGff, ↓BGtt, ↓BGtf, ↓BGft, ↓BGff, ↓CGtt, ↓CGtf, ↓CGft, ↓CGff, ↓IGtt, ↓IGtf, ↓IGft, ↓IGff, ↓PKt, ↓PKf, ↓CDt, ↓CDf, ↓NOTt, ↓NOTf, ↓NK_ptr]
  refine CK_st Tryd.func22 rfl rfl (VarsT_ok ((hU.mod hm1).mod hm2)) ?_
  rintro _ w3 ⟨rfl, hm3⟩
  rw [hv]
  simp only [↓VG_u, ↓UG_u, ↓MG_u, ↓NG_u, ↓PG_u, ↓BG_u, ↓CG_u, ↓IG_u, ↓VGtt, ↓VGtf, ↓VGft, ↓VGff, ↓UGtt, ↓UGtf, ↓UGft, ↓UGff, ↓MGtt, ↓MGtf, ↓MGft, ↓MGff, ↓NGtt, ↓NGtf, ↓NGft, ↓NGff, ↓PGtt, ↓PGtf, ↓PGft, ↓PGff, ↓BGtt, ↓BGtf, ↓BGft, ↓BGff, ↓CGtt, ↓CGtf, ↓CGft, ↓CGff, ↓IGtt, ↓IGtf, ↓IGft, ↓IGff, ↓PKt, ↓PKf, ↓CDt, ↓CDf, ↓NOTt, ↓NOTf, ↓NK_ptr, ↓EQt (rfl : ((vars ds : Nat) : Int) = vars ds)]
  first | exact ⟨rfl, ((hm.trans hm1).trans hm2).trans hm3⟩ | exact ⟨trivial, ((hm.trans hm1).trans hm2).trans hm3⟩
theorem names7 {w0 w : World} (hm : Mod none_ w0 w) {p q : Pr} {b2 b7 : Nat} (hpd : DesOk w p.ds p.decls) (hqd : DesOk w q.ds q.decls) (hb2 : w.heap[b2]? = some (.cells p.cells.toArray 25 (0, 0))) (hb7 : w.heap[b7]? = some (.cells q.cells.toArray 25 (0, 0)))
    {nm : ByteArray} (hq : q.decls = p.decls.map (De.rn nm (bs zz))) (hno : ∀ d ∈ p.decls, d.name ≠ bs zz) (hnz : nm ≠ bs zz) (hlen : p.decls.length ≤ 1048576) {t u base base' : Nat} (hT : TbAt w base t p.decls) (hU : TbAt w base' u q.decls) {ρ : Sl} (r2 : ρ 2 = pq b2) (r7 : ρ 7 = pq b7) (r5 : ρ 5 = .string nm) (r9 : ρ 9 = pt t) (r11 : ρ 11 = pt u) (r13 : ρ 13 = .int .i64 0) :
    W fn_ Tryd.prog 149 (Code.loop dispatcherlaw04_ScopeNames_L7) (blkK 2 (seqK (sx fn_ Tryd.prog 149 dispatcherlaw04_ScopeNames_R8 (retK Tryd.prog [ResultVar.tmp 4] (namesR w0))) (retK Tryd.prog [ResultVar.tmp 4] (namesR w0)))) ρ w := by
  obtain ⟨A, cp, hds, _⟩ := reads_cap hpd.1
  obtain ⟨A2, cp2, hds2, _⟩ := reads_cap hqd.1
  have hql : q.decls.length = p.decls.length := by rw [hq, List.length_map]
  refine W_loopG dispatcherlaw04_ScopeNames_L7_ok (fun m ρ w' => ∃ i, i + m = p.decls.length ∧ ρ 13 = .int .i64 (i : Nat) ∧ ρ 2 = pq b2 ∧ ρ 7 = pq b7 ∧ ρ 5 = .string nm ∧ ρ 9 = pt t ∧ ρ 11 = pt u ∧ Mod none_ w w') p.decls.length
    ⟨0, by omega, r13, r2, r7, r5, r9, r11, Mod.refl _ _⟩ ?_
  rintro m ρ w1 ⟨i, hi, q13, q2, q7, q5, q9, q11, hm1⟩
  have hb21 := hm1.blk hb2 id
  have hb71 := hm1.blk hb7 id
  have cell0 : ∀ w', Mod none_ w1 w' → w'.cell? ((⟨b2, 0, none⟩ : Addr).add 0) = some (.slice A p.decls.length cp) := fun w' hw => by rw [add_pl, cell_blk (hw.blk hb21 id), ← hds]; rfl
  have cell1 : ∀ w', Mod none_ w1 w' → w'.cell? ((⟨b7, 0, none⟩ : Addr).add 0) = some (.slice A2 q.decls.length cp2) := fun w' hw => by rw [add_pl, cell_blk (hw.blk hb71 id), ← hds2]; rfl
  have hD : ∀ w', Mod none_ w1 w' → DesOk w' (.slice A p.decls.length cp) p.decls := fun w' hw => hds ▸ hpd.mod (hm1.trans hw)
  have hD2 : ∀ w', Mod none_ w1 w' → DesOk w' (.slice A2 q.decls.length cp2) q.decls := fun w' hw => hds2 ▸ hqd.mod (hm1.trans hw)
  have f0 : FO Tryd.prog w1 25 0 0 ⟨b2, 0, none⟩ 22 (.slice A p.decls.length cp) := FO.mk' (by kernel_rfl) uDes rfl (cell0 w1 (Mod.refl _ _))
  rw [dispatcherlaw04_ScopeNames_L7_eq]
  unfold dispatcherlaw04_ScopeNames_L7_F
  rw [q2, q13]
  simp only [↓f0.e]
  rw [len_sl uDes]
  by_cases hlt : i < p.decls.length
  · simp only [↓VG_u, ↓UG_u, ↓MG_u, ↓NG_u, ↓PG_u, ↓BG_u, ↓CG_u, ↓IG_u, ↓VGtt, ↓VGtf, ↓VGft, ↓VGff, ↓UGtt, ↓UGtf, ↓UGft, ↓UGff, ↓MGtt, ↓MGtf, ↓MGft, ↓MGff, ↓NGtt, ↓NGtf, ↓NGft, ↓NGff, ↓PGtt, ↓PGtf, ↓PGft, ↓PGff, ↓BGtt, ↓BGtf, ↓BGft, ↓BGff, ↓CGtt, ↓CGtf, ↓CGft, ↓CGff, ↓IGtt, ↓IGtf, ↓IGft, ↓IGff, ↓PKt, ↓PKf, ↓CDt, ↓CDf, ↓NOTt, ↓NOTf, ↓NK_ptr, ↓LTt (show (i : Int) < (p.decls.length : Int) by omega)]
    have hx : p.decls[i]? = some p.decls[i] := List.getElem?_eq_getElem hlt
    have hx2 : q.decls[i]? = some (p.decls[i].rn nm (bs zz)) := by rw [hq, List.getElem?_map, hx]; rfl
    have hsame : findP q.decls (p.decls[i].rn nm (bs zz)).name.data.toList = findP p.decls p.decls[i].name.data.toList := by
      rw [hq]; exact findP_rn (hno _ (List.getElem_mem hlt)) hno
    have st : ∀ (ρ2 : Sl), ρ2 13 = .int .i64 (i : Nat) → ρ2 2 = pq b2 → ρ2 7 = pq b7 → ρ2 5 = .string nm → ρ2 9 = pt t → ρ2 11 = pt u → ∀ K : Exit → Sl → World → Prop, (∀ ρ' w', (∃ m', m' < m ∧ ∃ i, i + m' = p.decls.length ∧ ρ' 13 = .int .i64 (i : Nat) ∧ ρ' 2 = pq b2 ∧ ρ' 7 = pq b7 ∧ ρ' 5 = .string nm ∧ ρ' 9 = pt t ∧ ρ' 11 = pt u ∧ Mod none_ w w') → K .normal ρ' w') →
        W fn_ Tryd.prog 149 dispatcherlaw04_ScopeNames_R9 (seqK (sx fn_ Tryd.prog 149 dispatcherlaw04_ScopeNames_R10 (blkK 3 (seqK (sx fn_ Tryd.prog 149 dispatcherlaw04_ScopeNames_R11 K) K))) (blkK 3 (seqK (sx fn_ Tryd.prog 149 dispatcherlaw04_ScopeNames_R11 K) K))) ρ2 w1 := by
      intro ρ2 p13 p2 p7 p5 p9 p11 K hK
      refine dispatcherlaw04_ScopeNames_R9_quiet (D := []) (fun w' => Mod none_ w1 w') ((Mod.refl _ w1).drawn _) ?_
      unfold dispatcherlaw04_ScopeNames_R9_Q
      rw [p2, p13, p9, p11, p7]
      refine Qfo (off := 0) (by kernel_rfl) (Qld uDes rfl (v := .slice A p.decls.length cp) cell0 ?_)
      refine QixDe (w0 := w1) (Mod.refl _ w1) hD hx fun a ha => ?_
      refine Qfo (off := 0) (by kernel_rfl) (Qld uSt rfl (v := .string p.decls[i].name) (fun w' hw => ha w' hw 0 _ rfl) ?_)
      refine QC_rt (R := fun w' v w'' => v = (findP p.decls p.decls[i].name.data.toList).v ∧ Mod none_ w' w'') Tryd.func16 rfl rfl (v := (findP p.decls p.decls[i].name.data.toList).v) (fun w' hw => FindT_ok (hT.mod (hm1.trans hw)) _) (fun w' u w'' hw hu => ⟨hu.1, hw.trans hu.2⟩) ?_
      refine Qfo (off := 0) (by kernel_rfl) (Qld uDes rfl (v := .slice A2 q.decls.length cp2) cell1 ?_)
      refine QixDe (w0 := w1) (Mod.refl _ w1) hD2 hx2 fun a2 ha2 => ?_
      refine Qfo (off := 0) (by kernel_rfl) (Qld uSt rfl (v := .string (p.decls[i].rn nm (bs zz)).name) (fun w' hw => ha2 w' hw 0 _ rfl) ?_)
      refine QC_rt (R := fun w' v w'' => v = (findP q.decls (p.decls[i].rn nm (bs zz)).name.data.toList).v ∧ Mod none_ w' w'') Tryd.func16 rfl rfl (v := (findP q.decls (p.decls[i].rn nm (bs zz)).name.data.toList).v) (fun w' hw => FindT_ok (hU.mod (hm1.trans hw)) _) (fun w' u w'' hw hu => ⟨hu.1, hw.trans hu.2⟩) ?_
      rw [hsame]
      refine QB_of (v := .bool (!decide (findP p.decls p.decls[i].name.data.toList = findP p.decls p.decls[i].name.data.toList))) (fun w => run_eqGuard_agg w .neq _ _ _ _ _ gEn) (fun w => rEnN _ _ w) ?_
      rw [decide_eq_true rfl]
      intro w2 hm2
      rw [sq_n, dispatcherlaw04_ScopeNames_R10_eq]
      unfold dispatcherlaw04_ScopeNames_R10_F
      refine condF ?_
      rw [bk_n, sq_n, dispatcherlaw04_ScopeNames_R11_eq]
      unfold dispatcherlaw04_ScopeNames_R11_F
      refine BKadd (a := i) (b := 1) ?_ rfl (by omega) (by omega) (hK _ _ ⟨m - 1, by omega, i + 1, by omega, rfl, ?_, ?_, ?_, ?_, ?_, hm1.trans hm2⟩)
      · exact p13
      · exact p2
      · exact p7
      · exact p5
      · exact p9
      · exact p11
    refine st _ ?_ ?_ ?_ ?_ ?_ ?_ _ fun ρ' w' h => h
    · exact q13
    · exact q2
    · exact q7
    · exact q5
    · exact q9
    · exact q11
  · simp only [↓VG_u, ↓UG_u, ↓MG_u, ↓NG_u, ↓PG_u, ↓BG_u, ↓CG_u, ↓IG_u, ↓VGtt, ↓VGtf, ↓VGft, ↓VGff, ↓UGtt, ↓UGtf, ↓UGft, ↓UGff, ↓MGtt, ↓MGtf, ↓MGft, ↓MGff, ↓NGtt, ↓NGtf, ↓NGft, ↓NGff, ↓PGtt, ↓PGtf, ↓PGft, ↓PGff, ↓BGtt, ↓BGtf, ↓BGft, ↓BGff, ↓CGtt, ↓CGtf, ↓CGft, ↓CGff, ↓IGtt, ↓IGtf, ↓IGft, ↓IGff, ↓PKt, ↓PKf, ↓CDt, ↓CDf, ↓NOTt, ↓NOTf, ↓NK_ptr, ↓LTf (show (p.decls.length : Int) ≤ (i : Int) by omega)]
    rw [sq_x, bk_x, sq_n]
    refine names8 (hm.trans hm1) (hT.mod hm1) (hU.mod hm1) (by rw [hq]; exact findP_gone hnz hno) (by rw [hq, vars_rn]) ?_ ?_ ?_
    · exact q5
    · exact q9
    · exact q11
theorem names6 {w0 w : World} (hm : Mod none_ w0 w) {p q : Pr} {b2 b7 : Nat} (hpd : DesOk w p.ds p.decls) (hqd : DesOk w q.ds q.decls) (hb2 : w.heap[b2]? = some (.cells p.cells.toArray 25 (0, 0))) (hb7 : w.heap[b7]? = some (.cells q.cells.toArray 25 (0, 0)))
    {nm : ByteArray} (hq : q.decls = p.decls.map (De.rn nm (bs zz))) (hno : ∀ d ∈ p.decls, d.name ≠ bs zz) (hnz : nm ≠ bs zz) (hlen : p.decls.length ≤ 1048576) {t u base base' : Nat} (hT : TbAt w base t p.decls) (hU : TbAt w base' u q.decls) {ρ : Sl} (r2 : ρ 2 = pq b2) (r7 : ρ 7 = pq b7) (r5 : ρ 5 = .string nm) (r9 : ρ 9 = pt t) (r11 : ρ 11 = pt u) :
    sx fn_ Tryd.prog 149 dispatcherlaw04_ScopeNames_R6 (retK Tryd.prog [ResultVar.tmp 4] (namesR w0)) ρ w := by
  rw [dispatcherlaw04_ScopeNames_R6_eq]
  unfold dispatcherlaw04_ScopeNames_R6_F
  rw [r9, r11]
  rw [BK_eqlP uTp, Option.isNone_some]
  try simp only [↓VG_u, ↓UG_u, ↓MG_u, ↓NG_u, ↓PG_u, ↓BG_u, ↓CG_u, ↓IG_u, ↓VGtt, ↓VGtf, ↓VGft, ↓VGff, ↓UGtt, ↓UGtf, ↓UGft, ↓UGff, ↓MGtt, ↓MGtf, ↓MGft, ↓MGff, ↓NGtt, ↓NGtf, ↓NGft, ↓NGff, ↓PGtt, ↓PGtf, ↓PGft, ↓PGff, ↓BGtt, ↓BGtf, ↓BGft, ↓BGff, ↓CGtt, ↓CGtf, ↓CGft, ↓CGff, ↓IGtt, ↓IGtf, ↓IGft, ↓IGff, ↓PKt, ↓PKf, ↓CDt, ↓CDf, ↓NOTt, ↓NOTf, ↓NK_ptr]
  rw [BK_eqlP uTp, Option.isNone_some]
  try simp only [↓VG_u, ↓UG_u, ↓MG_u, ↓NG_u, ↓PG_u, ↓BG_u, ↓CG_u, ↓IG_u, ↓VGtt, ↓VGtf, ↓VGft, ↓VGff, ↓UGtt, ↓UGtf, ↓UGft, ↓UGff, ↓MGtt, ↓MGtf, ↓MGft, ↓MGff, ↓NGtt, ↓NGtf, ↓NGft, ↓NGff, ↓PGtt, ↓PGtf, ↓PGft, ↓PGff, ↓BGtt, ↓BGtf, ↓BGft, ↓BGff, ↓CGtt, ↓CGtf, ↓CGft, ↓CGff, ↓IGtt, ↓IGtf, ↓IGft, ↓IGff, ↓PKt, ↓PKf, ↓CDt, ↓CDf, ↓NOTt, ↓NOTf, ↓NK_ptr]
  refine names7 hm hpd hqd hb2 hb7 hq hno hnz hlen hT hU ?_ ?_ ?_ ?_ ?_ ?_
  · exact r2
  · exact r7
  · exact r5
  · exact r9
  · exact r11
  · rfl
theorem de_fine_rn {d : De} {n o : ByteArray} (h : d.fine) (ho : o.size ≤ maxLen) : (d.rn n o).fine := by
  refine ⟨?_, h.2⟩
  show (rnB n o d.name).size ≤ maxLen
  unfold rnB
  split
  · exact ho
  · exact h.1
/-- Behind the declarations. -/
theorem names3 {w0 w : World} (hg : Gl w0) {p q : Pr} (h : p.Ok w0) (hsz : p.decls.length + St.szL p.body ≤ 1048576) (hm : Mod none_ w0 w) {base b2 b7 : Nat} (hbase : w0.heap.size ≤ base) (hb2 : w.heap[b2]? = some (.cells p.cells.toArray 25 (0, 0))) (hb7 : w.heap[b7]? = some (.cells q.cells.toArray 25 (0, 0)))
    {nm : ByteArray} (hnm : nameP nm = true) (hq : q.decls = p.decls.map (De.rn nm (bs zz))) (hrow : w.ownsRow base 40 4 q.ds q.decls.length (q.decls.flatMap De.cells)) (hqb : q.body.map St.er = p.body.map St.er) (hb : StsOwn w base q.bs q.body) (hnd : (St.blL q.body).Nodup)
    (hno : ∀ d ∈ p.decls, d.name ≠ bs zz) (hnz : nm ≠ bs zz) (hhas : St.hasL (bs zz) p.body = false) {ρ : Sl} (r2 : ρ 2 = pq b2) (r7 : ρ 7 = pq b7) (r5 : ρ 5 = .string nm) (r6 : ρ 6 = .string (bs zz)) :
    sx fn_ Tryd.prog 149 dispatcherlaw04_ScopeNames_R3 (retK Tryd.prog [ResultVar.tmp 4] (namesR w0)) ρ w := by
  rw [dispatcherlaw04_ScopeNames_R3_eq]
  unfold dispatcherlaw04_ScopeNames_R3_F
  rw [r7, r5, r6, r2]
  have f1 : FO Tryd.prog w 25 1 1 ⟨b7, 0, none⟩ 23 q.bs := FO.blk hb7 (by kernel_rfl) uSts rfl rfl
  simp only [↓f1.e]
  have hnb := sts_nb hb hnd
  have hN : StsN w q.bs q.body := ⟨owns_base hb.row (Nat.zero_le _), hb.own, hnb.1⟩
  have hszq : St.szL q.body = St.szL p.body := by rw [← St.szL_er, hqb, St.szL_er]
  refine CK_st Tryd.func21 rfl rfl (namSt (by decide) q.body w _ hN (by omega)) ?_
  rintro _ w1 ⟨hN1, hm1⟩
  have offT : ∀ {g : Nat} {cs : Array Value} {ty : TypeId} {fr : Nat × Nat}, w.heap[g]? = some (.cells cs ty fr) → tE ≠ ty → tS ≠ ty → g ∉ q.bs.ownBlock.toList ++ St.blL q.body := by
    intro g cs ty fr hgb h1 h2 hmem
    rcases List.mem_append.1 hmem with z | z
    · exact owns_ne_blk hb.row hgb h2 (by simpa using z)
    · exact St.inL_bl.1 (fun a ha => (hb.own a ha).ne hgb h1 h2) g z rfl
  have hm01 : Mod none_ w0 w1 := hm.then hm1 fun k hk z => by have := (hnb.2 k z).1; omega
  have hb21 := hm1.blk hb2 (offT hb2 (by decide) (by decide))
  have hb71 := hm1.blk hb7 (offT hb7 (by decide) (by decide))
  have hrow1 : w1.ownsRow base 40 4 q.ds q.decls.length (q.decls.flatMap De.cells) := owns_mod hrow hm1 fun k hk z => by
    obtain ⟨cur, hcur⟩ := owns_blk hrow hk
    exact offT hcur (by decide) (by decide) z
  obtain ⟨q1, hq1⟩ : ∃ q1 : Pr, q1 = ⟨q.ds, q.decls, q.bs, q.body.map (St.rn nm (bs zz))⟩ := ⟨_, rfl⟩
  have hc1 : q.cells = q1.cells := by rw [hq1]; rfl
  rw [hc1] at hb71
  have hdok : DesOk w1 q.ds q.decls := ⟨reads_of_owns hrow1, fun a ha => by
    rw [hq] at ha
    obtain ⟨d, hd, rfl⟩ := List.mem_map.1 ha
    exact de_fine_rn (h.d.2 d hd) (by decide)⟩
  have hq1ok : q1.Ok w1 := by rw [hq1]; exact ⟨hdok, hN1.ok⟩
  have hz1 : St.szL (q.body.map (St.rn nm (bs zz))) ≤ 1099511627776 := by
    have := St.szL_rn (n := nm) (o := bs zz) (by decide) q.body
    omega
  have hq1f : q1.fits := by rw [hq1]; exact ⟨by show q.decls.length ≤ _; rw [hq, List.length_map]; omega, hz1⟩
  have hck : checkP q1 = checkP p := by
    refine checkP_rn hnm (show nameP (bs zz) = true by kernel_rfl) hno hhas (by rw [hq1]; exact hq) ?_
    rw [hq1]
    show (q.body.map (St.rn nm (bs zz))).map St.er = (p.body.map (St.rn nm (bs zz))).map St.er
    rw [List.map_map, List.map_map]
    have e1 : ∀ l : List St, l.map (St.er ∘ St.rn nm (bs zz)) = (l.map St.er).map (St.rn nm (bs zz)) := fun l => by
      rw [List.map_map]; exact List.map_congr_left fun a _ => St.er_rn a
    rw [e1, e1, hqb]
  refine ldS (cs := p.cells.toArray) rfl Tryd.underlying25 rfl iPr hb21 ?_
  refine CK_st Tryd.func13 rfl rfl (New_ok (hg.mod hm01) (h.mod hm01) ⟨by omega, by omega⟩) ?_
  rintro _ w2 ⟨x, rfl, hTd⟩
  rw [extract_ok (v := x) rfl, extract_ok (v := (checkP p).v) rfl]
  have hm2 := hTd.m
  refine lcl_k (cs := (checkP p).cells.toArray) zWrg _ iWrg rfl (wr_one _) fun w3 hb3 hm3 hz3 => ?_
  have hm13 := hm2.trans hm3
  refine ldS (cs := q1.cells.toArray) rfl Tryd.underlying25 rfl iPr (hm13.blk hb71 id) ?_
  refine CK_st Tryd.func13 rfl rfl (New_ok ((hg.mod hm01).mod hm13) (hq1ok.mod hm13) hq1f) ?_
  rintro _ w4 ⟨y, rfl, hUd⟩
  rw [extract_ok (v := y) rfl, extract_ok (v := (checkP q1).v) rfl]
  have hm4 := hUd.m
  rw [hck]
  refine lcl_k (cs := (checkP p).cells.toArray) zWrg _ iWrg rfl (wr_one _) fun w5 hb5 hm5 hz5 => ?_
  have hm35 := hm4.trans hm5
  have hm15 := hm13.trans hm35
  have hm05 := hm01.trans hm15
  have hb35 := hm35.blk hb3 id
  refine ldS (cs := (checkP p).cells.toArray) rfl Tryd.underlying30 rfl iWrg hb35 ?_
  refine ldS (cs := (checkP p).cells.toArray) rfl Tryd.underlying30 rfl iWrg hb5 ?_
  rw [show Value.agg (checkP p).cells.toArray = (checkP p).v from rfl, BK_WrN, decide_eq_true rfl, Bool.not_true]
  have e0 : FO Tryd.prog w5 30 0 0 ⟨w2.heap.size, 0, none⟩ 28 (.int .i64 (checkP p).err) := FO.blk hb35 (by kernel_rfl) Tryd.underlying28 rfl rfl
  simp only [↓VG_u, ↓UG_u, ↓MG_u, ↓NG_u, ↓PG_u, ↓BG_u, ↓CG_u, ↓IG_u, ↓VGtt, ↓VGtf, ↓VGft, ↓VGff, ↓UGtt, ↓UGtf, ↓UGft, ↓UGff, ↓MGtt, ↓MGtf, ↓MGft, ↓MGff, ↓NGtt, ↓NGtf, ↓NGft, ↓NGff, ↓PGtt, ↓PGtf, ↓PGft, ↓PGff, ↓BGtt, ↓BGtf, ↓BGft, ↓BGff, ↓CGtt, ↓CGtf, ↓CGft, ↓CGff, ↓IGtt, ↓IGtf, ↓IGft, ↓IGff, ↓PKt, ↓PKf, ↓CDt, ↓CDf, ↓NOTt, ↓NOTf, ↓NK_ptr, ↓e0.e]
  by_cases hp : (checkP p).err = 0
  · simp only [↓VG_u, ↓UG_u, ↓MG_u, ↓NG_u, ↓PG_u, ↓BG_u, ↓CG_u, ↓IG_u, ↓VGtt, ↓VGtf, ↓VGft, ↓VGff, ↓UGtt, ↓UGtf, ↓UGft, ↓UGff, ↓MGtt, ↓MGtf, ↓MGft, ↓MGff, ↓NGtt, ↓NGtf, ↓NGft, ↓NGff, ↓PGtt, ↓PGtf, ↓PGft, ↓PGff, ↓BGtt, ↓BGtf, ↓BGft, ↓BGff, ↓CGtt, ↓CGtf, ↓CGft, ↓CGff, ↓IGtt, ↓IGtf, ↓IGft, ↓IGff, ↓PKt, ↓PKf, ↓CDt, ↓CDf, ↓NOTt, ↓NOTf, ↓NK_ptr, ↓NEf hp]
    rw [dispatcherlaw04_ScopeNames_R5_eq]
    unfold dispatcherlaw04_ScopeNames_R5_F
    refine condF ?_
    rw [sq_n]
    obtain ⟨_, _, t, rfl, hT⟩ := hTd.ok hp
    obtain ⟨_, _, u, rfl, hU⟩ := hUd.ok (by rw [hck]; exact hp)
    refine names6 (q := q1) (nm := nm) hm05 ((h.mod hm05).d) ((hq1ok.mod hm15).d) (hm15.blk hb21 id) (hm15.blk hb71 id) (by rw [hq1]; exact hq) hno hnz (by omega) (hT.mod (hm3.trans hm35)) (hU.mod hm5) ?_ ?_ ?_ ?_ ?_
    · exact r2
    · exact r7
    · exact r5
    · rfl
    · rfl
  · simp only [↓VG_u, ↓UG_u, ↓MG_u, ↓NG_u, ↓PG_u, ↓BG_u, ↓CG_u, ↓IG_u, ↓VGtt, ↓VGtf, ↓VGft, ↓VGff, ↓UGtt, ↓UGtf, ↓UGft, ↓UGff, ↓MGtt, ↓MGtf, ↓MGft, ↓MGff, ↓NGtt, ↓NGtf, ↓NGft, ↓NGff, ↓PGtt, ↓PGtf, ↓PGft, ↓PGff, ↓BGtt, ↓BGtf, ↓BGft, ↓BGff, ↓CGtt, ↓CGtf, ↓CGft, ↓CGff, ↓IGtt, ↓IGtf, ↓IGft, ↓IGff, ↓PKt, ↓PKf, ↓CDt, ↓CDf, ↓NOTt, ↓NOTf, ↓NK_ptr, ↓NEt hp]
    rw [dispatcherlaw04_ScopeNames_R5_eq]
    unfold dispatcherlaw04_ScopeNames_R5_F
    refine condT ?_
    refine ldS (cs := (checkP p).cells.toArray) rfl Tryd.underlying30 rfl iWrg hb35 ?_
    refine ldS (cs := (checkP p).cells.toArray) rfl Tryd.underlying30 rfl iWrg hb5 ?_
    rw [show Value.agg (checkP p).cells.toArray = (checkP p).v from rfl, BK_WrE, decide_eq_true rfl]
    exact ⟨rfl, hm05⟩
end Go.Proofs.YtbnbcimjapiicaaDoor.Tr
set_option linter.unusedVariables false
set_option linter.unusedSimpArgs false
set_option maxRecDepth 4000
namespace Go.Proofs.YtbnbcimjapiicaaDoor.Tr
open Go Go.X Go.RowKit Go.Proofs.YtbnbcimjapiicaaDoor.XQ Go.Proofs.YtbnbcimjapiicaaDoor.XL Go.Proofs.YtbnbcimjapiicaaDoor.XK
theorem des_rn_cells {l : List De} {n o : ByteArray} {i : Nat} {d : De} (h : l[i]? = some d) {pre post : List De} (hl : l = pre ++ d :: post) (hi : pre.length = i) : (l.flatMap De.cells).set (i * 4 + 0) (.string (rnB n o d.name)) = (pre ++ d.rn n o :: post).flatMap De.cells := by
  rw [fl_set (k := 4) (r' := d.rn n o) De.cells_len h (by omega) rfl, hl, set_mid hi]
/-- The declarations. -/
theorem names2 {w0 w5 : World} (hg : Gl w0) {p q : Pr} (h : p.Ok w0) (hsz : p.decls.length + St.szL p.body ≤ 1048576) (hm : Mod none_ w0 w5) {base b2 b7 : Nat} (hbase : w0.heap.size ≤ base) (hb2 : w5.heap[b2]? = some (.cells p.cells.toArray 25 (0, 0))) (hb7 : w5.heap[b7]? = some (.cells q.cells.toArray 25 (0, 0)))
    {nm : ByteArray} (hnm : nameP nm = true) (hin : ∃ d ∈ p.decls, d.name = nm) (hq : q.decls = p.decls) (hrow : w5.ownsRow base 40 4 q.ds p.decls.length (p.decls.flatMap De.cells)) (hqb : q.body.map St.er = p.body.map St.er) (hb : StsOwn w5 base q.bs q.body) (hnd : (St.blL q.body).Nodup)
    (hhas : St.hasL (bs zz) p.body = false) {ρ : Sl} (r2 : ρ 2 = pq b2) (r7 : ρ 7 = pq b7) (r5 : ρ 5 = .string nm) (r6 : ρ 6 = .string (bs zz)) (r8 : ρ 8 = .int .i64 0) :
    W fn_ Tryd.prog 149 (Code.loop dispatcherlaw04_ScopeNames_L2) (blkK 0 (seqK (sx fn_ Tryd.prog 149 dispatcherlaw04_ScopeNames_R3 (retK Tryd.prog [ResultVar.tmp 4] (namesR w0))) (retK Tryd.prog [ResultVar.tmp 4] (namesR w0)))) ρ w5 := by
  have hbd : ∀ g, q.ds.ownBlock = some g → base ≤ g := fun g hg => owns_low hrow hg
  refine W_loopG dispatcherlaw04_ScopeNames_L2_ok (fun m ρ w' => ∃ i, i + m = p.decls.length ∧ ρ 8 = .int .i64 (i : Nat) ∧ ρ 2 = pq b2 ∧ ρ 7 = pq b7 ∧ ρ 5 = .string nm ∧ ρ 6 = .string (bs zz) ∧ (∀ d ∈ p.decls.take i, d.name ≠ bs zz) ∧
      w'.ownsRow base 40 4 q.ds p.decls.length (((p.decls.take i).map (De.rn nm (bs zz)) ++ p.decls.drop i).flatMap De.cells) ∧ Mod (fun k => q.ds.ownBlock = some k) w5 w') p.decls.length
    ⟨0, by omega, r8, r2, r7, r5, r6, by simp, by simpa using hrow, Mod.refl _ _⟩ ?_
  rintro m ρ w1 ⟨i, hi, q8, q2, q7, q5, q6, hpre, hr, hm1⟩
  have hno7 : ∀ {b : Nat} {cs : Array Value}, w5.heap[b]? = some (.cells cs 25 (0, 0)) → ¬ q.ds.ownBlock = some b := fun hb z => owns_ne_blk hrow hb (by decide) z
  have hb71 := hm1.blk hb7 (hno7 hb7)
  have hm01 : Mod none_ w0 w1 := hm.then hm1 fun k hk z => by have := hbd k z; omega
  obtain ⟨A, c, hds, _⟩ := reads_cap (reads_of_owns hr)
  have f0 : FO Tryd.prog w1 25 0 0 ⟨b7, 0, none⟩ 22 q.ds := FO.blk hb71 (by kernel_rfl) uDes rfl rfl
  rw [dispatcherlaw04_ScopeNames_L2_eq]
  unfold dispatcherlaw04_ScopeNames_L2_F
  rw [q7, q8, q6, q5]
  simp only [↓f0.e]
  have hlen2 : ∀ K, IK Tryd.prog .len #[22] 3 [false] [q.ds] w1 K = K (.int .i64 p.decls.length) w1 := fun K => by rw [hds]; exact len_sl uDes _ _ _ _
  rw [hlen2]
  by_cases hlt : i < p.decls.length
  · simp only [↓VG_u, ↓UG_u, ↓MG_u, ↓NG_u, ↓PG_u, ↓BG_u, ↓CG_u, ↓IG_u, ↓VGtt, ↓VGtf, ↓VGft, ↓VGff, ↓UGtt, ↓UGtf, ↓UGft, ↓UGff, ↓MGtt, ↓MGtf, ↓MGft, ↓MGff, ↓NGtt, ↓NGtf, ↓NGft, ↓NGff, ↓PGtt, ↓PGtf, ↓PGft, ↓PGff, ↓BGtt, ↓BGtf, ↓BGft, ↓BGff, ↓CGtt, ↓CGtf, ↓CGft, ↓CGff, ↓IGtt, ↓IGtf, ↓IGft, ↓IGff, ↓PKt, ↓PKf, ↓CDt, ↓CDf, ↓NOTt, ↓NOTf, ↓NK_ptr, ↓LTt (show (i : Int) < (p.decls.length : Int) by omega), ↓f0.e]
    have hx : p.decls[i]? = some p.decls[i] := List.getElem?_eq_getElem hlt
    have hdr : p.decls.drop i = p.decls[i] :: p.decls.drop (i + 1) := List.drop_eq_getElem_cons hlt
    rw [hdr] at hr
    have hlp : ((p.decls.take i).map (De.rn nm (bs zz))).length = i := by rw [List.length_map, List.length_take]; omega
    have hmem : p.decls[i] ∈ p.decls := List.getElem_mem hlt
    have hll : ((p.decls.take i).map (De.rn nm (bs zz)) ++ p.decls[i] :: p.decls.drop (i + 1)).length = p.decls.length := by rw [List.length_append, hlp, List.length_cons, List.length_drop]; omega
    have hfine : ∀ a ∈ ((p.decls.take i).map (De.rn nm (bs zz)) ++ p.decls[i] :: p.decls.drop (i + 1)), a.fine := by
      intro a ha
      rcases List.mem_append.1 ha with ha | ha
      · obtain ⟨d, hd, rfl⟩ := List.mem_map.1 ha
        exact de_fine_rn (h.d.2 d (List.mem_of_mem_take hd)) (by decide)
      · rw [← hdr] at ha
        exact h.d.2 a (List.mem_of_mem_drop ha)
    have hD : DesOk w1 q.ds ((p.decls.take i).map (De.rn nm (bs zz)) ++ p.decls[i] :: p.decls.drop (i + 1)) := ⟨by rw [hll]; exact reads_of_owns hr, hfine⟩
    have hnext : (p.decls.take i).map (De.rn nm (bs zz)) ++ (p.decls[i].rn nm (bs zz)) :: p.decls.drop (i + 1) = (p.decls.take (i + 1)).map (De.rn nm (bs zz)) ++ p.decls.drop (i + 1) := by
      rw [List.take_add_one, hx, Option.toList_some, List.map_append, List.append_assoc]; rfl
    have hpre2 : p.decls[i].name ≠ bs zz → ∀ d ∈ p.decls.take (i + 1), d.name ≠ bs zz := fun z d hd => by
      rw [List.take_add_one, hx, Option.toList_some] at hd
      rcases List.mem_append.1 hd with hd | hd
      · exact hpre d hd
      · rw [List.mem_singleton.1 hd]; exact z
    refine ixDeA hD (get_mid hlp) fun a ha => ?_
    have d0 : FO Tryd.prog w1 40 0 0 a 9 (.string p.decls[i].name) := FO.mk' (by kernel_rfl) uS rfl (ha 0 _ rfl)
    simp only [↓d0.e]
    by_cases kz : p.decls[i].name = bs zz
    · simp only [↓VG_u, ↓UG_u, ↓MG_u, ↓NG_u, ↓PG_u, ↓BG_u, ↓CG_u, ↓IG_u, ↓VGtt, ↓VGtf, ↓VGft, ↓VGff, ↓UGtt, ↓UGtf, ↓UGft, ↓UGff, ↓MGtt, ↓MGtf, ↓MGft, ↓MGff, ↓NGtt, ↓NGtf, ↓NGft, ↓NGff, ↓PGtt, ↓PGtf, ↓PGft, ↓PGff, ↓BGtt, ↓BGtf, ↓BGft, ↓BGff, ↓CGtt, ↓CGtf, ↓CGft, ↓CGff, ↓IGtt, ↓IGtf, ↓IGft, ↓IGff, ↓PKt, ↓PKf, ↓CDt, ↓CDf, ↓NOTt, ↓NOTf, ↓NK_ptr, ↓SEQt kz]
      exact ⟨rfl, hm01⟩
    · simp only [↓VG_u, ↓UG_u, ↓MG_u, ↓NG_u, ↓PG_u, ↓BG_u, ↓CG_u, ↓IG_u, ↓VGtt, ↓VGtf, ↓VGft, ↓VGff, ↓UGtt, ↓UGtf, ↓UGft, ↓UGff, ↓MGtt, ↓MGtf, ↓MGft, ↓MGff, ↓NGtt, ↓NGtf, ↓NGft, ↓NGff, ↓PGtt, ↓PGtf, ↓PGft, ↓PGff, ↓BGtt, ↓BGtf, ↓BGft, ↓BGff, ↓CGtt, ↓CGtf, ↓CGft, ↓CGff, ↓IGtt, ↓IGtf, ↓IGft, ↓IGff, ↓PKt, ↓PKf, ↓CDt, ↓CDf, ↓NOTt, ↓NOTf, ↓NK_ptr, ↓SEQf kz, ↓f0.e]
      refine ixDeA hD (get_mid hlp) fun a ha => ?_
      have d0 : FO Tryd.prog w1 40 0 0 a 9 (.string p.decls[i].name) := FO.mk' (by kernel_rfl) uS rfl (ha 0 _ rfl)
      simp only [↓d0.e]
      by_cases kn : p.decls[i].name = nm
      · simp only [↓VG_u, ↓UG_u, ↓MG_u, ↓NG_u, ↓PG_u, ↓BG_u, ↓CG_u, ↓IG_u, ↓VGtt, ↓VGtf, ↓VGft, ↓VGff, ↓UGtt, ↓UGtf, ↓UGft, ↓UGff, ↓MGtt, ↓MGtf, ↓MGft, ↓MGff, ↓NGtt, ↓NGtf, ↓NGft, ↓NGff, ↓PGtt, ↓PGtf, ↓PGft, ↓PGff, ↓BGtt, ↓BGtf, ↓BGft, ↓BGff, ↓CGtt, ↓CGtf, ↓CGft, ↓CGff, ↓IGtt, ↓IGtf, ↓IGft, ↓IGff, ↓PKt, ↓PKf, ↓CDt, ↓CDf, ↓NOTt, ↓NOTf, ↓NK_ptr, ↓SEQt kn, ↓f0.e]
        obtain ⟨g, cap, hv, cur, hgb⟩ := owns_some hr (by omega)
        have hr2 := hr
        have hm1' := hm1
        rw [hv] at hr2 hm1' ⊢
        rw [ixa (sz := 3) uDes cDe (by omega) (by omega), add_pl, Nat.zero_add, Int.toNat_natCast, fo (off := 0) (by kernel_rfl), add_pl]
        refine st_row (by kernel_rfl) rfl hr2 (by show i * (3 + 1) + 0 < _; omega) fun w2 ho2 hm2 => ?_
        have hset := des_rn_cells (n := nm) (o := bs zz) (get_mid hlp (post := p.decls.drop (i + 1)) (e := p.decls[i])) rfl hlp
        rw [rnB_t kn, hnext] at hset
        rw [show i * (3 + 1) + 0 = i * 4 + 0 from rfl, hset] at ho2
        rw [dispatcherlaw04_ScopeNames_R4_eq]
        unfold dispatcherlaw04_ScopeNames_R4_F
        refine BKadd (a := i) (b := 1) ?_ rfl (by omega) (by omega) ⟨m - 1, by omega, i + 1, by omega, rfl, ?_, ?_, ?_, ?_, hpre2 kz, ?_, ?_⟩
        · exact q8
        · exact q2
        · exact q7
        · exact q5
        · exact q6
        · exact ho2
        · exact hm1'.trans (hm2.mono fun k _ z => by rw [z]; rfl)
      · simp only [↓VG_u, ↓UG_u, ↓MG_u, ↓NG_u, ↓PG_u, ↓BG_u, ↓CG_u, ↓IG_u, ↓VGtt, ↓VGtf, ↓VGft, ↓VGff, ↓UGtt, ↓UGtf, ↓UGft, ↓UGff, ↓MGtt, ↓MGtf, ↓MGft, ↓MGff, ↓NGtt, ↓NGtf, ↓NGft, ↓NGff, ↓PGtt, ↓PGtf, ↓PGft, ↓PGff, ↓BGtt, ↓BGtf, ↓BGft, ↓BGff, ↓CGtt, ↓CGtf, ↓CGft, ↓CGff, ↓IGtt, ↓IGtf, ↓IGft, ↓IGff, ↓PKt, ↓PKf, ↓CDt, ↓CDf, ↓NOTt, ↓NOTf, ↓NK_ptr, ↓SEQf kn]
        rw [dispatcherlaw04_ScopeNames_R4_eq]
        unfold dispatcherlaw04_ScopeNames_R4_F
        refine BKadd (a := i) (b := 1) ?_ rfl (by omega) (by omega) ⟨m - 1, by omega, i + 1, by omega, rfl, ?_, ?_, ?_, ?_, hpre2 kz, ?_, hm1⟩
        · exact q8
        · exact q2
        · exact q7
        · exact q5
        · exact q6
        · rw [← hnext, show p.decls[i].rn nm (bs zz) = p.decls[i] by unfold De.rn; rw [rnB_f kn]]; exact hr
  · simp only [↓VG_u, ↓UG_u, ↓MG_u, ↓NG_u, ↓PG_u, ↓BG_u, ↓CG_u, ↓IG_u, ↓VGtt, ↓VGtf, ↓VGft, ↓VGff, ↓UGtt, ↓UGtf, ↓UGft, ↓UGff, ↓MGtt, ↓MGtf, ↓MGft, ↓MGff, ↓NGtt, ↓NGtf, ↓NGft, ↓NGff, ↓PGtt, ↓PGtf, ↓PGft, ↓PGff, ↓BGtt, ↓BGtf, ↓BGft, ↓BGff, ↓CGtt, ↓CGtf, ↓CGft, ↓CGff, ↓IGtt, ↓IGtf, ↓IGft, ↓IGff, ↓PKt, ↓PKf, ↓CDt, ↓CDf, ↓NOTt, ↓NOTf, ↓NK_ptr, ↓LTf (show (p.decls.length : Int) ≤ (i : Int) by omega)]
    rw [sq_x, bk_x, sq_n]
    rw [List.take_of_length_le (by omega)] at hr hpre
    rw [List.drop_of_length_le (by omega), List.append_nil] at hr
    obtain ⟨q', hq'⟩ : ∃ q' : Pr, q' = ⟨q.ds, p.decls.map (De.rn nm (bs zz)), q.bs, q.body⟩ := ⟨_, rfl⟩
    have hb1 : StsOwn w1 base q.bs q.body := by
      have hoff : ∀ k, q.ds.ownBlock = some k → ∀ a ∈ q.body, a.In fun j => j ≠ k := fun k hk a ha => by
        obtain ⟨cur, hcur⟩ := owns_blk hrow hk
        exact (hb.own a ha).ne hcur (by decide) (by decide)
      refine ⟨owns_mod hb.row hm1 fun k hk z => owns_ne hb.row hrow (by decide) k hk z.symm, fun a ha => (hb.own a ha).mod hm1 ?_, hb.at_⟩
      rw [St.in_bl]
      intro k hk z
      exact St.in_bl.1 (hoff k z a ha) k hk rfl
    refine names3 (q := q') hg h hsz hm01 hbase (hm1.blk hb2 (hno7 hb2)) (by rw [hq']; exact hb71) hnm (by rw [hq']) (by rw [hq']; simpa using hr) (by rw [hq']; exact hqb) (by rw [hq']; exact hb1) (by rw [hq']; exact hnd) hpre (by obtain ⟨d, hd, hdn⟩ := hin; rw [← hdn]; exact hpre d hd) hhas ?_ ?_ ?_ ?_
    · exact q2
    · exact q7
    · exact q5
    · exact q6
theorem names1 {w0 w : World} (hg : Gl w0) {p : Pr} (h : p.Ok w0) (hsz : p.decls.length + St.szL p.body ≤ 1048576) (hm : Mod none_ w0 w) {b2 : Nat} (hb2 : w.heap[b2]? = some (.cells p.cells.toArray 25 (0, 0))) {nm : ByteArray} (hin : ∃ d ∈ p.decls, d.name = nm) {ρ : Sl} (r2 : ρ 2 = pq b2) (r5 : ρ 5 = .string nm) :
    sx fn_ Tryd.prog 149 dispatcherlaw04_ScopeNames_R1 (retK Tryd.prog [ResultVar.tmp 4] (namesR w0)) ρ w := by
  have hf : p.fits := ⟨by omega, by omega⟩
  have hs0 := hm.size
  rw [dispatcherlaw04_ScopeNames_R1_eq]
  unfold dispatcherlaw04_ScopeNames_R1_F
  rw [r2, r5]
  refine ldS (cs := p.cells.toArray) rfl Tryd.underlying25 rfl iPr hb2 ?_
  refine CK_st Tryd.func11 rfl rfl (CopyD_ok (h.mod hm) hf) ?_
  rintro _ w1 ⟨q, rfl, he, hO, hnd, hm1⟩
  refine lcl_k (cs := q.cells.toArray) zPr _ iPr rfl (oneOk hO.ok) fun w2 hb7 hm2 hz2 => ?_
  have hm02 := (hm.trans hm1).trans hm2
  have hb22 := (hm1.trans hm2).blk hb2 id
  have hO2 := hO.mod0 hm2
  have hqb : q.body.map St.er = p.body.map St.er := by have := congrArg Pr.body he; exact this
  have hqd : q.decls = p.decls := by have := congrArg Pr.decls he; exact this
  have hdone : ∀ {w' : World}, Mod none_ w0 w' → namesR w0 (.bool true) w' := fun hm => ⟨rfl, hm⟩
  have hnz : nm.size ≤ maxLen := by obtain ⟨d, hd, rfl⟩ := hin; exact (h.d.2 d hd).1
  by_cases kn : nm = ⟨#[]⟩
  · simp only [↓VG_u, ↓UG_u, ↓MG_u, ↓NG_u, ↓PG_u, ↓BG_u, ↓CG_u, ↓IG_u, ↓VGtt, ↓VGtf, ↓VGft, ↓VGff, ↓UGtt, ↓UGtf, ↓UGft, ↓UGff, ↓MGtt, ↓MGtf, ↓MGft, ↓MGff, ↓NGtt, ↓NGtf, ↓NGft, ↓NGff, ↓PGtt, ↓PGtf, ↓PGft, ↓PGff, ↓BGtt, ↓BGtf, ↓BGft, ↓BGff, ↓CGtt, ↓CGtf, ↓CGft, ↓CGff, ↓IGtt, ↓IGtf, ↓IGft, ↓IGff, ↓PKt, ↓PKf, ↓CDt, ↓CDf, ↓NOTt, ↓NOTf, ↓NK_ptr, ↓SEQt kn]
    exact hdone hm02
  · have f1 : FO Tryd.prog w2 25 1 1 ⟨b2, 0, none⟩ 23 p.bs := FO.blk hb22 (by kernel_rfl) uSts rfl rfl
    simp only [↓VG_u, ↓UG_u, ↓MG_u, ↓NG_u, ↓PG_u, ↓BG_u, ↓CG_u, ↓IG_u, ↓VGtt, ↓VGtf, ↓VGft, ↓VGff, ↓UGtt, ↓UGtf, ↓UGft, ↓UGff, ↓MGtt, ↓MGtf, ↓MGft, ↓MGff, ↓NGtt, ↓NGtf, ↓NGft, ↓NGff, ↓PGtt, ↓PGtf, ↓PGft, ↓PGff, ↓BGtt, ↓BGtf, ↓BGft, ↓BGff, ↓CGtt, ↓CGtf, ↓CGft, ↓CGff, ↓IGtt, ↓IGtf, ↓IGft, ↓IGff, ↓PKt, ↓PKf, ↓CDt, ↓CDf, ↓NOTt, ↓NOTf, ↓NK_ptr, ↓SEQf kn, ↓f1.e]
    refine CK_st Tryd.func19 rfl rfl (hasS (bs zz) p.body w2 _ (h.mod hm02).b (by omega)) ?_
    rintro _ w3 ⟨rfl, hm3⟩
    cases hh : St.hasL (bs zz) p.body with
    | true => try (try simp only [↓VG_u, ↓UG_u, ↓MG_u, ↓NG_u, ↓PG_u, ↓BG_u, ↓CG_u, ↓IG_u, ↓VGtt, ↓VGtf, ↓VGft, ↓VGff, ↓UGtt, ↓UGtf, ↓UGft, ↓UGff, ↓MGtt, ↓MGtf, ↓MGft, ↓MGff, ↓NGtt, ↓NGtf, ↓NGft, ↓NGff, ↓PGtt, ↓PGtf, ↓PGft, ↓PGff, ↓BGtt, ↓BGtf, ↓BGft, ↓BGff, ↓CGtt, ↓CGtf, ↓CGft, ↓CGff, ↓IGtt, ↓IGtf, ↓IGft, ↓IGff, ↓PKt, ↓PKf, ↓CDt, ↓CDf, ↓NOTt, ↓NOTf, ↓NK_ptr]); exact hdone (hm02.trans hm3)
    | false =>
      try simp only [↓VG_u, ↓UG_u, ↓MG_u, ↓NG_u, ↓PG_u, ↓BG_u, ↓CG_u, ↓IG_u, ↓VGtt, ↓VGtf, ↓VGft, ↓VGff, ↓UGtt, ↓UGtf, ↓UGft, ↓UGff, ↓MGtt, ↓MGtf, ↓MGft, ↓MGff, ↓NGtt, ↓NGtf, ↓NGft, ↓NGff, ↓PGtt, ↓PGtf, ↓PGft, ↓PGff, ↓BGtt, ↓BGtf, ↓BGft, ↓BGff, ↓CGtt, ↓CGtf, ↓CGft, ↓CGff, ↓IGtt, ↓IGtf, ↓IGft, ↓IGff, ↓PKt, ↓PKf, ↓CDt, ↓CDf, ↓NOTt, ↓NOTf, ↓NK_ptr]
      refine CK_st Tryd.func20 rfl rfl (NameR_ok w3 nm hnz) ?_
      rintro _ w4 ⟨rfl, hm4⟩
      have hm24 := hm3.trans hm4
      cases hn : nameP nm with
      | false => (try simp only [↓VG_u, ↓UG_u, ↓MG_u, ↓NG_u, ↓PG_u, ↓BG_u, ↓CG_u, ↓IG_u, ↓VGtt, ↓VGtf, ↓VGft, ↓VGff, ↓UGtt, ↓UGtf, ↓UGft, ↓UGff, ↓MGtt, ↓MGtf, ↓MGft, ↓MGff, ↓NGtt, ↓NGtf, ↓NGft, ↓NGff, ↓PGtt, ↓PGtf, ↓PGft, ↓PGff, ↓BGtt, ↓BGtf, ↓BGft, ↓BGff, ↓CGtt, ↓CGtf, ↓CGft, ↓CGff, ↓IGtt, ↓IGtf, ↓IGft, ↓IGff, ↓PKt, ↓PKf, ↓CDt, ↓CDf, ↓NOTt, ↓NOTf, ↓NK_ptr]); exact hdone (hm02.trans hm24)
      | true =>
        try simp only [↓VG_u, ↓UG_u, ↓MG_u, ↓NG_u, ↓PG_u, ↓BG_u, ↓CG_u, ↓IG_u, ↓VGtt, ↓VGtf, ↓VGft, ↓VGff, ↓UGtt, ↓UGtf, ↓UGft, ↓UGff, ↓MGtt, ↓MGtf, ↓MGft, ↓MGff, ↓NGtt, ↓NGtf, ↓NGft, ↓NGff, ↓PGtt, ↓PGtf, ↓PGft, ↓PGff, ↓BGtt, ↓BGtf, ↓BGft, ↓BGff, ↓CGtt, ↓CGtf, ↓CGft, ↓CGff, ↓IGtt, ↓IGtf, ↓IGft, ↓IGff, ↓PKt, ↓PKf, ↓CDt, ↓CDf, ↓NOTt, ↓NOTf, ↓NK_ptr]
        have hO4 := hO2.mod0 hm24
        refine names2 (q := q) hg h hsz (hm02.trans hm24) (base := w.heap.size) hs0 (hm24.blk hb22 id) (hm24.blk hb7 id) hn hin hqd (hqd ▸ hO4.d) hqb hO4.b hnd hh ?_ ?_ ?_ ?_ ?_
        · exact r2
        · rfl
        · exact r5
        · rfl
        · rfl
theorem pick_at {n : Nat} (h0 : 0 < n) (h1 : n ≤ 1048576) (x : Int) : ∃ i : Nat, i < n ∧ IntKind.i64.wrap ((IntKind.u64.wrap x).tmod (IntKind.u64.wrap n)) = (i : Int) := by
  have e1 : IntKind.u64.wrap (n : Int) = n := by rw [IntKind.wrap_u64]; omega
  have e2 : 0 ≤ IntKind.u64.wrap x := by rw [IntKind.wrap_u64]; omega
  have e3 : (IntKind.u64.wrap x).tmod n = (IntKind.u64.wrap x) % n := Int.tmod_eq_emod_of_nonneg e2
  have h2 := Int.emod_nonneg (IntKind.u64.wrap x) (show (n : Int) ≠ 0 by omega)
  have h3 := Int.emod_lt_of_pos (IntKind.u64.wrap x) (show (0 : Int) < n by omega)
  refine ⟨((IntKind.u64.wrap x) % n).toNat, by omega, ?_⟩
  rw [e1, e3, wrap_i (by omega) (by omega), Int.toNat_of_nonneg h2]
theorem conv_run {w : World} {src dst : TypeId} {q k : IntKind} {n : Int} (hs : (Tryd.prog.underlying src).isSome = true) (hd : Tryd.prog.underlying dst = some (.int k)) : (convert src dst (.int q n)).run Tryd.prog w = .ok (.int k (k.wrap n)) w := by
  have ek : Tryd.prog.intKind dst = k := by simp [Program.intKind, hd]
  have := run_convert_int (P := Tryd.prog) w src dst q n hs (by rw [ek]; exact hd)
  rwa [ek] at this
theorem ScopeNames_ok {w : World} (hg : Gl w) {p : Pr} (h : p.Ok w) (hsz : p.decls.length + St.szL p.body ≤ 1048576) (x : Int) : Rt Tryd.prog 5 #[.agg p.cells.toArray, .int .i64 x] w fun v w' => v = .bool true ∧ Mod none_ w w' := by
  have hf : p.fits := ⟨by omega, by omega⟩
  refine dispatcherlaw04_ScopeNames_calls ?_
  unfold dispatcherlaw04_ScopeNames_F
  refine box_k (cs := p.cells.toArray) rfl fun w1 hb1 hm1 hz1 => ?_
  refine CK_st Tryd.func18 rfl rfl (awake_ok (hg.mod hm1)) ?_
  rintro _ w2 ⟨rfl, hm2⟩
  have hb2 := hm2.blk hb1 id
  have hm02 := hm1.trans hm2
  try simp only [↓VG_u, ↓UG_u, ↓MG_u, ↓NG_u, ↓PG_u, ↓BG_u, ↓CG_u, ↓IG_u, ↓VGtt, ↓VGtf, ↓VGft, ↓VGff, ↓UGtt, ↓UGtf, ↓UGft, ↓UGff, ↓MGtt, ↓MGtf, ↓MGft, ↓MGff, ↓NGtt, ↓NGtf, ↓NGft, ↓NGff, ↓PGtt, ↓PGtf, ↓PGft, ↓PGff, ↓BGtt, ↓BGtf, ↓BGft, ↓BGff, ↓CGtt, ↓CGtf, ↓CGft, ↓CGff, ↓IGtt, ↓IGtf, ↓IGft, ↓IGff, ↓PKt, ↓PKf, ↓CDt, ↓CDf, ↓NOTt, ↓NOTf, ↓NK_ptr]
  refine ldB (cs := p.cells.toArray) Tryd.underlying25 rfl iPr hb2 ?_
  refine CK_st Tryd.func10 rfl rfl (Great_ok (h.mod hm02) hf) ?_
  rintro _ w3 ⟨rfl, hm3⟩
  have hb3 := hm3.blk hb2 id
  have hm03 := hm02.trans hm3
  have hdone : ∀ {w' : World}, Mod none_ w w' → (Value.bool true = .bool true ∧ Mod none_ w w') := fun hm => ⟨rfl, hm⟩
  cases hgr : p.great with
  | true => (try simp only [↓VG_u, ↓UG_u, ↓MG_u, ↓NG_u, ↓PG_u, ↓BG_u, ↓CG_u, ↓IG_u, ↓VGtt, ↓VGtf, ↓VGft, ↓VGff, ↓UGtt, ↓UGtf, ↓UGft, ↓UGff, ↓MGtt, ↓MGtf, ↓MGft, ↓MGff, ↓NGtt, ↓NGtf, ↓NGft, ↓NGff, ↓PGtt, ↓PGtf, ↓PGft, ↓PGff, ↓BGtt, ↓BGtf, ↓BGft, ↓BGff, ↓CGtt, ↓CGtf, ↓CGft, ↓CGff, ↓IGtt, ↓IGtf, ↓IGft, ↓IGff, ↓PKt, ↓PKf, ↓CDt, ↓CDf, ↓NOTt, ↓NOTf, ↓NK_ptr]); first | exact hdone hm03 | exact ⟨trivial, hm03⟩
  | false =>
  obtain ⟨A, c, hds, _⟩ := reads_cap h.d.1
  have cell0 : ∀ w', Mod none_ w3 w' → w'.cell? ((⟨w.heap.size, 0, none⟩ : Addr).add 0) = some (.slice A p.decls.length c) := fun w' hw => by rw [add_pl, cell_blk (hw.blk hb3 id), ← hds]; rfl
  have f0 : FO Tryd.prog w3 25 0 0 ⟨w.heap.size, 0, none⟩ 22 (.slice A p.decls.length c) := FO.mk' (by kernel_rfl) uDes rfl (cell0 w3 (Mod.refl _ _))
  simp only [↓VG_u, ↓UG_u, ↓MG_u, ↓NG_u, ↓PG_u, ↓BG_u, ↓CG_u, ↓IG_u, ↓VGtt, ↓VGtf, ↓VGft, ↓VGff, ↓UGtt, ↓UGtf, ↓UGft, ↓UGff, ↓MGtt, ↓MGtf, ↓MGft, ↓MGff, ↓NGtt, ↓NGtf, ↓NGft, ↓NGff, ↓PGtt, ↓PGtf, ↓PGft, ↓PGff, ↓BGtt, ↓BGtf, ↓BGft, ↓BGff, ↓CGtt, ↓CGtf, ↓CGft, ↓CGff, ↓IGtt, ↓IGtf, ↓IGft, ↓IGff, ↓PKt, ↓PKf, ↓CDt, ↓CDf, ↓NOTt, ↓NOTf, ↓NK_ptr, ↓f0.e]
  rw [len_sl uDes]
  by_cases h0 : (p.decls.length : Int) = 0
  · simp only [↓VG_u, ↓UG_u, ↓MG_u, ↓NG_u, ↓PG_u, ↓BG_u, ↓CG_u, ↓IG_u, ↓VGtt, ↓VGtf, ↓VGft, ↓VGff, ↓UGtt, ↓UGtf, ↓UGft, ↓UGff, ↓MGtt, ↓MGtf, ↓MGft, ↓MGff, ↓NGtt, ↓NGtf, ↓NGft, ↓NGff, ↓PGtt, ↓PGtf, ↓PGft, ↓PGff, ↓BGtt, ↓BGtf, ↓BGft, ↓BGff, ↓CGtt, ↓CGtf, ↓CGft, ↓CGff, ↓IGtt, ↓IGtf, ↓IGft, ↓IGff, ↓PKt, ↓PKf, ↓CDt, ↓CDf, ↓NOTt, ↓NOTf, ↓NK_ptr, ↓EQt h0]; first | exact hdone hm03 | exact ⟨trivial, hm03⟩
  · simp only [↓VG_u, ↓UG_u, ↓MG_u, ↓NG_u, ↓PG_u, ↓BG_u, ↓CG_u, ↓IG_u, ↓VGtt, ↓VGtf, ↓VGft, ↓VGff, ↓UGtt, ↓UGtf, ↓UGft, ↓UGff, ↓MGtt, ↓MGtf, ↓MGft, ↓MGff, ↓NGtt, ↓NGtf, ↓NGft, ↓NGff, ↓PGtt, ↓PGtf, ↓PGft, ↓PGff, ↓BGtt, ↓BGtf, ↓BGft, ↓BGff, ↓CGtt, ↓CGtf, ↓CGft, ↓CGff, ↓IGtt, ↓IGtf, ↓IGft, ↓IGff, ↓PKt, ↓PKf, ↓CDt, ↓CDf, ↓NOTt, ↓NOTf, ↓NK_ptr, ↓EQf h0]
    obtain ⟨i, hi, hpick⟩ := pick_at (n := p.decls.length) (by omega) (by omega) x
    have hx : p.decls[i]? = some p.decls[i] := List.getElem?_eq_getElem hi
    have hD : ∀ w', Mod none_ w3 w' → DesOk w' (.slice A p.decls.length c) p.decls := fun w' hw => hds ▸ (h.mod (hm03.trans hw)).d
    have hne : IntKind.u64.wrap (p.decls.length : Int) ≠ 0 := by rw [IntKind.wrap_u64]; omega
    refine dispatcherlaw04_ScopeNames_R0_quiet (D := []) (fun w' => Mod none_ w3 w') ((Mod.refl _ w3).drawn _) ?_
    unfold dispatcherlaw04_ScopeNames_R0_Q
    refine Qfo (off := 0) (a := ⟨w.heap.size, 0, none⟩) (by kernel_rfl) (Qld uDes rfl (v := .slice A p.decls.length c) cell0 ?_)
    refine QV_of (v := .int .u64 (IntKind.u64.wrap x)) (fun w' _ => conv_run (by kernel_rfl) (by kernel_rfl)) ?_
    refine Qfo (off := 0) (a := ⟨w.heap.size, 0, none⟩) (by kernel_rfl) (Qld uDes rfl (v := .slice A p.decls.length c) cell0 ?_)
    refine QI_len uDes _ _ _ _ ?_
    refine QV_of (v := .int .u64 (IntKind.u64.wrap p.decls.length)) (fun w' _ => conv_run (by kernel_rfl) (by kernel_rfl)) ?_
    refine QB_of (v := .int .u64 ((IntKind.u64.wrap x).tmod (IntKind.u64.wrap p.decls.length))) (fun _ => rfl) (fun w' => by rw [binOp_rem]; simp [Op.intDiv, hne]) ?_
    refine QV_of (v := .int .i64 (i : Nat)) (fun w' _ => by rw [← hpick]; exact conv_run (by kernel_rfl) (by kernel_rfl)) ?_
    refine QixDe (w0 := w3) (Mod.refl _ w3) hD hx fun a ha => ?_
    refine Qfo (off := 0) (by kernel_rfl) (Qld uSt rfl (v := .string p.decls[i].name) (fun w' hw => ha w' hw 0 _ rfl) ?_)
    intro w4 hm4
    rw [sq_n]
    refine names1 hg h hsz (hm03.trans hm4) (hm4.blk hb3 id) ⟨_, List.getElem_mem hi, rfl⟩ ?_ ?_
    · rfl
    · rfl
end Go.Proofs.YtbnbcimjapiicaaDoor.Tr
set_option linter.unusedVariables false
set_option maxRecDepth 10000
namespace Go.Proofs.YtbnbcimjapiicaaDoor.Tr
open Go Go.X Go.RowKit
def argsN : List Int := [5, 5, 5, 5, 5, 3, 3, 1, -1, -1, 1, -1, 3, 3, 1, 3, 3, 2, 3, 1, 3, 1]
theorem gl_of {W : World} (h : laidMetH Tryd.prog [("dispatcher/scan.words", Rows.laid_dispatcher_scan_words), ("dispatcher/tree.args", Rows.laid_dispatcher_tree_args), ("dispatcher/tree.plain", Rows.laid_dispatcher_tree_plain)] W) : Gl W := by
  rw [MakeChecks.laidMetH_plain _ _ _ (by kernel_rfl)] at h
  obtain ⟨ps, ⟨g, t, cs, fuel, p, q, hg, ht, hv, hd, ⟨g2, t2, cs2, fuel2, p2, q2, hg2, ht2, hv2, hd2, ⟨g3, t3, cs3, fuel3, p3, q3, hg3, ht3, hv3, hd3, _, _⟩, _⟩, _⟩, _⟩ := h
  obtain rfl := Option.some.inj ((show Tryd.prog.globalNamed "dispatcher/scan.words" = some 0 by kernel_rfl).symm.trans hg)
  obtain rfl := Option.some.inj ((show (Tryd.prog.globals[0]?).map (·.type) = some 120 by kernel_rfl).symm.trans ht)
  obtain rfl := Option.some.inj ((show Tryd.prog.globalNamed "dispatcher/tree.args" = some 1 by kernel_rfl).symm.trans hg2)
  obtain rfl := Option.some.inj ((show (Tryd.prog.globals[1]?).map (·.type) = some 133 by kernel_rfl).symm.trans ht2)
  obtain rfl := Option.some.inj ((show Tryd.prog.globalNamed "dispatcher/tree.plain" = some 2 by kernel_rfl).symm.trans hg3)
  obtain rfl := Option.some.inj ((show (Tryd.prog.globals[2]?).map (·.type) = some 135 by kernel_rfl).symm.trans ht3)
  refine ⟨?_, ?_, ?_⟩
  · exact laid_arr (xs := wordsL) (val := txt) (dat := fun b => .lit (.string b)) (n := 43) hg hv (show Tryd.prog.underlying 120 = some (.array 43 9) by kernel_rfl) (by kernel_rfl) (by decide) hd (fun m l x b h hx => laid_str uS m l x b h hx)
  · exact laid_arr (xs := argsN) (val := fun n => .int .i64 n) (dat := fun n => .lit (.int .i64 n)) (n := 22) hg2 hv2 (show Tryd.prog.underlying 133 = some (.array 22 3) by kernel_rfl) (by kernel_rfl) (by decide) hd2 (fun m l x b h hx => laid_int uI m l x b h hx)
  · exact laid_arr (xs := plainL) (val := txt) (dat := fun b => .lit (.string b)) (n := 10) hg3 hv3 (show Tryd.prog.underlying 135 = some (.array 10 9) by kernel_rfl) (by kernel_rfl) (by decide) hd3 (fun m l x b h hx => laid_str uS m l x b h hx)
end Go.Proofs.YtbnbcimjapiicaaDoor.Tr
set_option linter.unusedVariables false
set_option maxRecDepth 4000
namespace Go.Proofs.YtbnbcimjapiicaaDoor.Tr
open Go Go.X Go.RowKit
def shDe : ShM De := ⟨⟨4, fun w e cs => cs = e.cells ∧ e.fine⟩, fun _ => 1⟩
def shPr : ShM Pr := ⟨⟨2, fun w e cs => cs = e.cells ∧ e.Ok w⟩, fun p => p.decls.length + St.szL p.body⟩
theorem opensDe (n : Nat) : OpensM U Tryd.prog n shDe 40 :=
  opensM_as (opensM_struct Tryd.underlying40 (by kernel_rfl) (fun m hm => fieldsM_cons rfl (by kernel_rfl) (opensM_string uS) (fieldsM_cons rfl (by kernel_rfl) (opensM_int uI) (fieldsM_cons rfl (by kernel_rfl) (opensM_int uI) (fieldsM_one rfl (by kernel_rfl) (opensM_int uI))))))
    (fun x => (⟨x.1, x.2.1, x.2.2.1, x.2.2.2⟩ : De))
    (fun w v cs h => by
      obtain ⟨c0, d0, rfl, _, ⟨rfl, h0⟩, c1, d1, rfl, _, ⟨rfl, h1⟩, c2, d2, rfl, _, ⟨rfl, h2⟩, rfl, h3⟩ := h
      exact ⟨rfl, h0, h1, h2, h3⟩)
    (fun v => by
      show 1 ≤ _
      exact Nat.le_add_left 1 _)
theorem des_of {w : World} {x : Value × List De} {cs : List Value} (h : (Sh.slice shDe.toSh).K w x cs) : DesOk w x.1 x.2 :=
  ⟨reads_sh h De.cells De.cells_len (fun a d hk => hk.1), fun a ha => by obtain ⟨d, hd⟩ := mem_sh h a ha; exact hd.2⟩
theorem ones_sum (l : List De) : (l.map fun _ => 1).sum = l.length := by
  induction l with
  | nil => rfl
  | cons a r ih => simp only [List.map_cons, List.sum_cons, List.length_cons, ih]; omega
theorem opensPr (n : Nat) : OpensM U Tryd.prog n shPr 25 :=
  opensM_as (opensM_struct Tryd.underlying25 (by kernel_rfl) (fun m hm => fieldsM_cons rfl (by kernel_rfl) (opensM_slice uDes cDe (fun k hk => opensDe k)) (fieldsM_one rfl (by kernel_rfl) (opensM_slice uSts cSt (fun k hk => opensSt k)))))
    (fun x => (⟨x.1.1, x.1.2, x.2.1, x.2.2⟩ : Pr))
    (fun w v cs h => by
      obtain ⟨c0, d0, rfl, _, h0, h1⟩ := h
      have h0' := des_of h0
      have h1' := sts_of h1
      obtain ⟨rfl, _⟩ := h0
      obtain ⟨rfl, _⟩ := h1
      exact ⟨rfl, h0', h1'⟩)
    (fun v => by
      show v.1.2.length + St.szL v.2.2 ≤ (((v.1.2.map fun _ => 1).sum + 1) + ((v.2.2.map St.sz).sum + 1)) + 1
      rw [St.szL_eq, ones_sum]
      omega)
end Go.Proofs.YtbnbcimjapiicaaDoor.Tr
