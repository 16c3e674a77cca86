/- Several texts of this repo, one behind the other, without what is not used here. -/
import Derived.Lib.SliceRun
import Derived.Laws.OwnMore
import Derived.Laws.IdiomStrings
import Derived.Laws.BytesArg
import Derived.Test.YtbnbcimjapiicaaDoorProg
import Derived.Test.YtbnbcimjapiicaaDoorBN2
set_option linter.unusedVariables false
set_option linter.unusedSimpArgs false
set_option maxRecDepth 4000
namespace Go.Proofs.YtbnbcimjapiicaaDoor.Tr
open Go Go.X Go.RowKit Go.Proofs.YtbnbcimjapiicaaDoor.XC Go.Proofs.YtbnbcimjapiicaaDoor.XK
abbrev tE : TypeId := 60
abbrev tS : TypeId := 62
theorem eExs : elemOk Tryd.prog 58 60 6 72 = true := by kernel_rfl
theorem eSts : elemOk Tryd.prog 23 62 10 120 = true := by kernel_rfl
theorem eDes : elemOk Tryd.prog 22 40 4 40 = true := by kernel_rfl
theorem owns_low {w : World} {base : Nat} {e : TypeId} {size : Nat} {v : Value} {n : Nat} {xs : List Value} (h : w.ownsRow base e size v n xs) {g : Nat} (hg : v.ownBlock = some g) : base ≤ g := by
  obtain ⟨_, ⟨rfl, _⟩ | ⟨g', cap, cur, rfl, hb, _⟩⟩ := h
  · cases hg
  · cases hg; exact hb
theorem owns_lt {w : World} {base : Nat} {e : TypeId} {size : Nat} {v : Value} {n : Nat} {xs : List Value} (h : w.ownsRow base e size v n xs) {g : Nat} (hg : v.ownBlock = some g) : g < w.heap.size := by
  obtain ⟨cur, hb⟩ := owns_blk h hg
  exact blk_lt hb
theorem owns_slice {w : World} {base : Nat} {e : TypeId} {size : Nat} {v : Value} {n : Nat} {xs : List Value} (h : w.ownsRow base e size v n xs) : v.oneCell' = true := by
  obtain ⟨_, ⟨rfl, _⟩ | ⟨g', cap, cur, rfl, hb, _⟩⟩ := h <;> rfl
theorem owns_none (w : World) (base : Nat) (e : TypeId) (size : Nat) : w.ownsRow base e size (.slice none 0 0) 0 [] := ⟨by simp, .inl ⟨rfl, rfl⟩⟩
/-- A row of expressions, of statements, of one's own, all the way down. -/
structure ExsOwn (w : World) (base : Nat) (v : Value) (l : List Ex) : Prop where
  row : w.ownsRow base tE 6 v l.length (l.flatMap Ex.cells)
  own : ∀ a ∈ l, a.Own w tE
  at_ : ∀ a ∈ l, a.In fun k => base ≤ k ∧ some k ≠ v.ownBlock
structure StsOwn (w : World) (base : Nat) (v : Value) (l : List St) : Prop where
  row : w.ownsRow base tS 10 v l.length (l.flatMap St.cells)
  own : ∀ a ∈ l, a.Own w tE tS
  at_ : ∀ a ∈ l, a.In fun k => base ≤ k ∧ some k ≠ v.ownBlock
theorem ExsOwn.ok {w : World} {base : Nat} {v : Value} {l : List Ex} (h : ExsOwn w base v l) : ExsOk w v l := ⟨reads_of_owns h.row, fun a ha => (h.own a ha).ok⟩
theorem StsOwn.ok {w : World} {base : Nat} {v : Value} {l : List St} (h : StsOwn w base v l) : StsOk w v l := ⟨reads_of_owns h.row, fun a ha => (h.own a ha).ok⟩
theorem ExsOwn.mod0 {w w' : World} {base : Nat} {v : Value} {l : List Ex} (h : ExsOwn w base v l) (hm : Mod none_ w w') : ExsOwn w' base v l := ⟨owns_mod h.row hm fun _ _ => id, fun a ha => (h.own a ha).mod0 hm, h.at_⟩
theorem StsOwn.mod0 {w w' : World} {base : Nat} {v : Value} {l : List St} (h : StsOwn w base v l) (hm : Mod none_ w w') : StsOwn w' base v l := ⟨owns_mod h.row hm fun _ _ => id, fun a ha => (h.own a ha).mod0 hm, h.at_⟩
/-- Blocks that lie lower are touched. -/
theorem ExsOwn.off {S : Nat → Prop} {w w' : World} {base : Nat} {v : Value} {l : List Ex} (h : ExsOwn w base v l) (hm : Mod S w w') (hS : ∀ k, S k → k < base) : ExsOwn w' base v l :=
  ⟨owns_mod h.row hm fun k hk q => by have := owns_low h.row hk; have := hS k q; omega, fun a ha => (h.own a ha).mod hm ((h.at_ a ha).mono fun k hk q => by have := hS k q; omega), h.at_⟩
theorem StsOwn.off {S : Nat → Prop} {w w' : World} {base : Nat} {v : Value} {l : List St} (h : StsOwn w base v l) (hm : Mod S w w') (hS : ∀ k, S k → k < base) : StsOwn w' base v l :=
  ⟨owns_mod h.row hm fun k hk q => by have := owns_low h.row hk; have := hS k q; omega, fun a ha => (h.own a ha).mod hm ((h.at_ a ha).mono fun k hk q => by have := hS k q; omega), h.at_⟩
theorem ExsOwn.nil (w : World) (base : Nat) : ExsOwn w base (.slice none 0 0) [] := ⟨owns_none _ _ _ _, by simp, by simp⟩
theorem StsOwn.nil (w : World) (base : Nat) : StsOwn w base (.slice none 0 0) [] := ⟨owns_none _ _ _ _, by simp, by simp⟩
theorem ExsOwn.low {w : World} {base base' : Nat} {v : Value} {l : List Ex} (h : ExsOwn w base v l) (hb : base' ≤ base) : ExsOwn w base' v l := ⟨owns_base h.row hb, h.own, fun a ha => (h.at_ a ha).mono fun k hk => ⟨by omega, hk.2⟩⟩
theorem StsOwn.low {w : World} {base base' : Nat} {v : Value} {l : List St} (h : StsOwn w base v l) (hb : base' ≤ base) : StsOwn w base' v l := ⟨owns_base h.row hb, h.own, fun a ha => (h.at_ a ha).mono fun k hk => ⟨by omega, hk.2⟩⟩
/-- Elements more, of one's own. -/
theorem appEx {w : World} {base : Nat} {v y : Value} {l m : List Ex} {ty : TypeId} {K : Value → World → Prop} (hO : ExsOwn w base v l) (hy : reads w 6 y m.length (m.flatMap Ex.cells)) (h0 : 0 < m.length) (hm : ∀ e ∈ m, e.Own w tE ∧ e.In fun k => base ≤ k ∧ some k ≠ v.ownBlock)
    (hlen : l.length + m.length ≤ 1099511627776) (hb : base ≤ w.heap.size) (hk : ∀ v' w', ExsOwn w' base v' (l ++ m) → Mod (fun k => some k = v.ownBlock) w w' → (v'.ownBlock = v.ownBlock ∨ ∃ g, v'.ownBlock = some g ∧ w.heap.size ≤ g) → K v' w') : IK Tryd.prog .append #[58, 58] ty [false, false] [v, y] w K := by
  refine ap_own eExs hO.row hy h0 ?_ (by unfold maxLen; omega) (by omega) hb fun v' w' h1 h2 h3 => ?_
  · intro u hu
    obtain ⟨e, he, hu⟩ := List.mem_flatMap.1 hu
    have := ex_one (hm e he).1.ok
    rw [Array.all_eq_true_iff_forall_mem] at this
    exact this u (by simpa using hu)
  · have lo : ∀ a : Ex, a.Own w tE → a.In (fun k => base ≤ k ∧ some k ≠ v.ownBlock) → a.In fun k => base ≤ k ∧ some k ≠ v'.ownBlock := by
      intro a ha hi
      refine (hi.and ha.lt).mono fun k hk => ⟨hk.1.1, ?_⟩
      rcases h3 with h3 | h3
      · rw [h3]; exact hk.1.2
      · rw [h3]; intro q; cases q; omega
    refine hk _ _ ⟨?_, ?_, ?_⟩ h2 (h3.imp id fun q => ⟨_, q, Nat.le_refl _⟩)
    · rw [List.length_append, List.flatMap_append]; exact h1
    · intro a ha
      rcases List.mem_append.1 ha with ha | ha
      · exact (hO.own a ha).mod h2 ((hO.at_ a ha).mono fun k hk q => hk.2 q)
      · exact (hm a ha).1.mod h2 ((hm a ha).2.mono fun k hk q => hk.2 q)
    · intro a ha
      rcases List.mem_append.1 ha with ha | ha
      · exact lo a (hO.own a ha) (hO.at_ a ha)
      · exact lo a (hm a ha).1 (hm a ha).2
theorem appSt {w : World} {base : Nat} {v y : Value} {l m : List St} {ty : TypeId} {K : Value → World → Prop} (hO : StsOwn w base v l) (hy : reads w 10 y m.length (m.flatMap St.cells)) (h0 : 0 < m.length) (hm : ∀ e ∈ m, e.Own w tE tS ∧ e.In fun k => base ≤ k ∧ some k ≠ v.ownBlock)
    (hlen : l.length + m.length ≤ 1099511627776) (hb : base ≤ w.heap.size) (hk : ∀ v' w', StsOwn w' base v' (l ++ m) → Mod (fun k => some k = v.ownBlock) w w' → (v'.ownBlock = v.ownBlock ∨ ∃ g, v'.ownBlock = some g ∧ w.heap.size ≤ g) → K v' w') : IK Tryd.prog .append #[23, 23] ty [false, false] [v, y] w K := by
  refine ap_own eSts hO.row hy h0 ?_ (by unfold maxLen; omega) (by omega) hb fun v' w' h1 h2 h3 => ?_
  · intro u hu
    obtain ⟨e, he, hu⟩ := List.mem_flatMap.1 hu
    have := st_one (hm e he).1.ok
    rw [Array.all_eq_true_iff_forall_mem] at this
    exact this u (by simpa using hu)
  · have lo : ∀ a : St, a.Own w tE tS → a.In (fun k => base ≤ k ∧ some k ≠ v.ownBlock) → a.In fun k => base ≤ k ∧ some k ≠ v'.ownBlock := by
      intro a ha hi
      refine (hi.and ha.lt).mono fun k hk => ⟨hk.1.1, ?_⟩
      rcases h3 with h3 | h3
      · rw [h3]; exact hk.1.2
      · rw [h3]; intro q; cases q; omega
    refine hk _ _ ⟨?_, ?_, ?_⟩ h2 (h3.imp id fun q => ⟨_, q, Nat.le_refl _⟩)
    · rw [List.length_append, List.flatMap_append]; exact h1
    · intro a ha
      rcases List.mem_append.1 ha with ha | ha
      · exact (hO.own a ha).mod h2 ((hO.at_ a ha).mono fun k hk q => hk.2 q)
      · exact (hm a ha).1.mod h2 ((hm a ha).2.mono fun k hk q => hk.2 q)
    · intro a ha
      rcases List.mem_append.1 ha with ha | ha
      · exact lo a (hO.own a ha) (hO.at_ a ha)
      · exact lo a (hm a ha).1 (hm a ha).2
theorem snocEx {w : World} {base : Nat} {v : Value} {l : List Ex} {e : Ex} {ty : TypeId} {K : Value → Value → World → Prop} (hO : ExsOwn w base v l) (he : e.Own w tE) (hi : e.In fun k => base ≤ k ∧ some k ≠ v.ownBlock)
    (hlen : l.length < 1099511627776) (hb : base ≤ w.heap.size) (hk : ∀ y v' w', ExsOwn w' base v' (l ++ [e]) → Mod (fun k => some k = v.ownBlock) w w' → (v'.ownBlock = v.ownBlock ∨ ∃ g, v'.ownBlock = some g ∧ w.heap.size ≤ g) → K y v' w') :
    VK Tryd.prog (Instr.buildSlice 58 1 [(0, .agg e.cells.toArray)].toArray) w fun y w => IK Tryd.prog .append #[58, 58] ty [false, false] [v, y] w (K y) := by
  refine bs_k (cs := e.cells.toArray) (by kernel_rfl) fun w1 h1 hm1 hz1 => ?_
  refine appEx (m := [e]) (hO.mod0 hm1) (by simpa using reads_blk (size := 6) (n := 1) h1 rfl) (by simp) ?_ (by simp; omega) (by omega) fun v' w' hO' hm' hg' => hk _ _ _ hO' ?_ (hg'.imp id fun ⟨g, q, hg⟩ => ⟨g, q, by omega⟩)
  · intro a ha
    rw [List.mem_singleton.1 ha]
    exact ⟨he.mod0 hm1, hi⟩
  · exact (hm1.mono fun _ _ q => q.elim).trans hm'
theorem snocSt {w : World} {base : Nat} {v : Value} {l : List St} {e : St} {ty : TypeId} {K : Value → Value → World → Prop} (hO : StsOwn w base v l) (he : e.Own w tE tS) (hi : e.In fun k => base ≤ k ∧ some k ≠ v.ownBlock)
    (hlen : l.length < 1099511627776) (hb : base ≤ w.heap.size) (hk : ∀ y v' w', StsOwn w' base v' (l ++ [e]) → Mod (fun k => some k = v.ownBlock) w w' → (v'.ownBlock = v.ownBlock ∨ ∃ g, v'.ownBlock = some g ∧ w.heap.size ≤ g) → K y v' w') :
    VK Tryd.prog (Instr.buildSlice 23 1 [(0, .agg e.cells.toArray)].toArray) w fun y w => IK Tryd.prog .append #[23, 23] ty [false, false] [v, y] w (K y) := by
  refine bs_k (cs := e.cells.toArray) (by kernel_rfl) fun w1 h1 hm1 hz1 => ?_
  refine appSt (m := [e]) (hO.mod0 hm1) (by simpa using reads_blk (size := 10) (n := 1) h1 rfl) (by simp) ?_ (by simp; omega) (by omega) fun v' w' hO' hm' hg' => hk _ _ _ hO' ?_ (hg'.imp id fun ⟨g, q, hg⟩ => ⟨g, q, by omega⟩)
  · intro a ha
    rw [List.mem_singleton.1 ha]
    exact ⟨he.mod0 hm1, hi⟩
  · exact (hm1.mono fun _ _ q => q.elim).trans hm'
def CopyEx (l : List Ex) : Prop := ∀ (w : World) (s : Value), ExsOk w s l → Ex.szL l ≤ 1099511627776 →
  Rt Tryd.prog 56 #[s] w fun v w' => ∃ l', l'.map Ex.er = l.map Ex.er ∧ ExsOwn w' w.heap.size v l' ∧ Mod none_ w w'
theorem copyEx_row {l : List Ex} (ih : ∀ a ∈ l, CopyEx a.args) : CopyEx l := by
  intro w s hok hsz
  obtain ⟨A, c, rfl, _⟩ := reads_cap hok.1
  have hlen := Ex.len_sz l
  refine dispatcherref02_CopyExprs_calls ?_
  unfold dispatcherref02_CopyExprs_F
  refine W_loop dispatcherref02_CopyExprs_L0_ok (fun ρ w' => ∃ (n : Nat) (l' : List Ex), n ≤ l.length ∧ ρ 4 = .int .i64 n ∧ ρ 0 = .slice A l.length c ∧ l'.map Ex.er = (l.take n).map Ex.er ∧ ExsOwn w' w.heap.size (ρ 3) l' ∧ Mod none_ w w') (fun ρ _ => l.length - (intOf (ρ 4)).toNat)
    ⟨0, [], Nat.zero_le _, rfl, rfl, rfl, ExsOwn.nil _ _, Mod.refl _ _⟩ ?_
  rintro ρ w2 ⟨n, l', hn, h4, h0, her, hO, hm⟩
  rw [dispatcherref02_CopyExprs_L0_eq]
  unfold dispatcherref02_CopyExprs_L0_F
  rw [h0, len58, h4]
  refine BKlss (a := n) (b := l.length) rfl rfl ?_
  refine caseC (fun hlt => ?_) (fun hlt => ?_)
  · have hlt : n < l.length := by have := of_decide_eq_true hlt; omega
    have hx : l[n]? = some l[n] := List.getElem?_eq_getElem hlt
    have hmem : l[n] ∈ l := List.getElem_mem hlt
    have hok2 := hok.mod hm
    have hsn := Ex.szL_at hx
    have hse := Ex.sz_eq l[n]
    have hlen' : l'.length = n := by have := congrArg List.length her; simpa [Nat.min_eq_left hn] using this
    refine ixEx hok2 hx fun x14 => ?_
    refine lcl_k (cs := l[n].cells.toArray) zEx _ iEx rfl (ex_one (hok2.at hx)) fun w3 hb3 hm3 hz3 => ?_
    have hblk : ∀ k, (ρ 3).ownBlock = some k → k < w2.heap.size := fun k hk => owns_lt hO.row hk
    have hm03 := hm.trans hm3
    have hO3 := hO.mod0 hm3
    have hws := hm.size
    refine (FAt.mk' (off := 3) (by kernel_rfl) uExs rfl (by rw [add_pl, cell_blk hb3]; rfl) : FAt Tryd.prog w3 60 3 ⟨w2.heap.size, 0, none⟩ 58 l[n].s).vk' fun x16 => ?_
    refine CK_st Tryd.func56 rfl rfl (ih _ hmem w3 _ ((hok2.at hx).args.mod hm3) (by omega)) ?_
    rintro v w4 ⟨la, hla, hOa, hm4⟩
    have hb4 := hm4.blk hb3 id
    have hO4 := hO3.mod0 hm4
    have hs34 := hm4.size
    rw [fo (off := 3) (by kernel_rfl), add_pl]
    refine stC (b := w2.heap.size) (o := 0 + 3) rfl (by kernel_rfl) (owns_slice hOa.row) hb4 (by simp [Ex.cells]) fun w5 hb5 hm5 hz5 => ?_
    have hfine := (hok2.at hx).fine
    have hOa5 := hOa.off hm5 (fun k q => by omega)
    have hO5 : ExsOwn w5 w.heap.size (ρ 3) l' := by
      refine ⟨owns_mod hO4.row hm5 fun k hk q => ?_, fun a ha => (hO4.own a ha).mod hm5 (((hO.own a ha).lt).mono fun k hk q => by omega), hO4.at_⟩
      have := hblk k hk
      omega
    obtain ⟨e', he'⟩ : ∃ e' : Ex, e' = ⟨l[n].op, l[n].num, l[n].name, v, la, l[n].line, l[n].col⟩ := ⟨_, rfl⟩
    have hcs : l[n].cells.toArray.setIfInBounds (0 + 3) v = e'.cells.toArray := by rw [he']; rfl
    rw [hcs] at hb5
    have hown' : e'.Own w5 tE := Ex.own_.2 (by rw [he']; exact ⟨owns_base hOa5.row (Nat.zero_le _), hfine, hOa5.own⟩)
    have hin' : e'.In fun k => w.heap.size ≤ k ∧ some k ≠ (ρ 3).ownBlock := by
      have hg : ∀ k, w3.heap.size ≤ k → w.heap.size ≤ k ∧ some k ≠ (ρ 3).ownBlock := fun k hk => ⟨by omega, fun q => by have := hblk k q.symm; omega⟩
      refine Ex.in_.2 ?_
      rw [he']
      exact ⟨fun k hk => hg k (owns_low hOa.row hk), fun a ha => (hOa.at_ a ha).mono fun k hk => hg k hk.1⟩
    refine ldS (cs := e'.cells.toArray) rfl Tryd.underlying60 rfl iEx hb5 ?_
    refine snocEx hO5 hown' hin' (by omega) (by omega) fun y v' w6 hO6 hm6 _ => ?_
    refine BKadd (a := n) (b := 1) rfl rfl (by omega) (by omega) ?_
    refine ⟨⟨n + 1, l' ++ [e'], hlt, rfl, h0, ?_, hO6, ?_⟩, ?_⟩
    · rw [List.take_add_one, hx, Option.toList_some, List.map_append, List.map_append, her]
      congr 1
      rw [he', List.map_singleton, List.map_singleton, Ex.er_eq, Ex.er_eq, hla]
    · refine ((hm03.trans hm4).then hm5 fun k hk q => ?_).then hm6 fun k hk q => ?_
      · omega
      · have := owns_low hO.row q.symm; omega
    · show l.length - (intOf (Value.int .i64 ((n : Int) + 1))).toNat < _
      simp only [intOf]; omega
  · obtain rfl : n = l.length := by have := of_decide_eq_false hlt; omega
    rw [sq_x, bk_x, sq_n, dispatcherref02_CopyExprs_R1_eq]
    unfold dispatcherref02_CopyExprs_R1_F
    rw [List.take_length] at her
    exact ⟨l', her, hO, hm⟩
theorem copyEx_all : ∀ e : Ex, CopyEx e.args := by
  intro e
  induction e using Ex.ind with
  | h e ih => exact copyEx_row ih
theorem CopyExprs_ok (l : List Ex) : CopyEx l := copyEx_row fun a _ => copyEx_all a
def CopySt (l : List St) : Prop := ∀ (w : World) (s : Value), StsOk w s l → St.szL l ≤ 1099511627776 →
  Rt Tryd.prog 32 #[s] w fun v w' => ∃ l', l'.map St.er = l.map St.er ∧ StsOwn w' w.heap.size v l' ∧ Mod none_ w w'
theorem copySt_row {l : List St} (ih : ∀ a ∈ l, CopySt a.body ∧ CopySt a.els) : CopySt l := by
  intro w s hok hsz
  obtain ⟨A, c, rfl, _⟩ := reads_cap hok.1
  have hlen := St.len_sz l
  refine dispatcherref02_CopyStmts_calls ?_
  unfold dispatcherref02_CopyStmts_F
  refine W_loop dispatcherref02_CopyStmts_L0_ok (fun ρ w' => ∃ (n : Nat) (l' : List St), n ≤ l.length ∧ ρ 4 = .int .i64 n ∧ ρ 0 = .slice A l.length c ∧ l'.map St.er = (l.take n).map St.er ∧ StsOwn w' w.heap.size (ρ 3) l' ∧ Mod none_ w w') (fun ρ _ => l.length - (intOf (ρ 4)).toNat)
    ⟨0, [], Nat.zero_le _, rfl, rfl, rfl, StsOwn.nil _ _, Mod.refl _ _⟩ ?_
  rintro ρ w2 ⟨n, l', hn, h4, h0, her, hO, hm⟩
  rw [dispatcherref02_CopyStmts_L0_eq]
  unfold dispatcherref02_CopyStmts_L0_F
  rw [h0, len23, h4]
  refine BKlss (a := n) (b := l.length) rfl rfl ?_
  refine caseC (fun hlt => ?_) (fun hlt => ?_)
  · have hlt : n < l.length := by have := of_decide_eq_true hlt; omega
    have hx : l[n]? = some l[n] := List.getElem?_eq_getElem hlt
    have hmem : l[n] ∈ l := List.getElem_mem hlt
    have hok2 := hok.mod hm
    have hsn := St.szL_at hx
    have hse := St.sz_eq l[n]
    have hlen' : l'.length = n := by have := congrArg List.length her; simpa [Nat.min_eq_left hn] using this
    have hoke := hok.at hx
    obtain ⟨ihB, ihE⟩ := ih _ hmem
    refine ixSt hok2 hx fun x14 => ?_
    refine lcl_k (cs := l[n].cells.toArray) zSt _ iSt rfl (st_one hoke) fun w3 hb3 hm3 hz3 => ?_
    have hblk : ∀ k, (ρ 3).ownBlock = some k → k < w2.heap.size := fun k hk => owns_lt hO.row hk
    have hm03 := hm.trans hm3
    have hO3 := hO.mod0 hm3
    have hws := hm.size
    have stO : ∀ {wa wb : World}, StsOwn wa w.heap.size (ρ 3) l' → Mod (fun i => i = w2.heap.size) wa wb → StsOwn wb w.heap.size (ρ 3) l' := by
      intro wa wb h hmm
      refine ⟨owns_mod h.row hmm fun k hk q => ?_, fun a ha => (h.own a ha).mod hmm (((hO.own a ha).lt).mono fun k hk q => by omega), h.at_⟩
      have := hblk k hk
      omega
    have st0 : ∀ {wa wb : World}, Mod none_ w wa → Mod (fun i => i = w2.heap.size) wa wb → Mod none_ w wb := fun h hmm => h.then hmm fun k hk q => by omega
    -- the expressions
    refine (FAt.mk' (off := 5) (by kernel_rfl) uExs rfl (by rw [add_pl, cell_blk hb3]; rfl) : FAt Tryd.prog w3 62 5 ⟨w2.heap.size, 0, none⟩ 58 l[n].es).vk' fun x16 => ?_
    refine CK_st Tryd.func56 rfl rfl (CopyExprs_ok _ w3 _ (hoke.exprs.mod hm03) (by omega)) ?_
    rintro v1 w4 ⟨la, hla, hOa, hm4⟩
    have hb4 := hm4.blk hb3 id
    have hs34 := hm4.size
    rw [fo (off := 5) (by kernel_rfl), add_pl]
    refine stC (b := w2.heap.size) (o := 0 + 5) rfl (by kernel_rfl) (owns_slice hOa.row) hb4 (by simp [St.cells]) fun w5 hb5 hm5 hz5 => ?_
    have hOa5 := hOa.off hm5 (fun k q => by omega)
    have hO5 := stO (hO3.mod0 hm4) hm5
    have hm05 := st0 (hm03.trans hm4) hm5
    have hc5 : l[n].cells.toArray.setIfInBounds (0 + 5) v1 = #[.int .u8 l[n].op, .int .u8 l[n].kind, .int .u8 l[n].red, .string l[n].name, .int .i64 l[n].turns, v1, l[n].bs, l[n].ls, .int .i64 l[n].line, .int .i64 l[n].col] := rfl
    rw [hc5] at hb5
    -- the body
    refine (FAt.mk' (off := 6) (by kernel_rfl) uSts rfl (by rw [add_pl, cell_blk hb5]; rfl) : FAt Tryd.prog w5 62 6 ⟨w2.heap.size, 0, none⟩ 23 l[n].bs).vk' fun x20 => ?_
    refine CK_st Tryd.func32 rfl rfl (ihB w5 _ (hoke.body.mod hm05) (by omega)) ?_
    rintro v2 w6 ⟨lb, hlb, hOb, hm6⟩
    have hb6 := hm6.blk hb5 id
    have hs56 := hm6.size
    rw [fo (off := 6) (by kernel_rfl), add_pl]
    refine stC (b := w2.heap.size) (o := 0 + 6) rfl (by kernel_rfl) (owns_slice hOb.row) hb6 (by simp) fun w7 hb7 hm7 hz7 => ?_
    have hOa7 := (hOa5.mod0 hm6).off hm7 (fun k q => by omega)
    have hOb7 := hOb.off hm7 (fun k q => by omega)
    have hO7 := stO (hO5.mod0 hm6) hm7
    have hm07 := st0 (hm05.trans hm6) hm7
    have hc7 : (#[.int .u8 l[n].op, .int .u8 l[n].kind, .int .u8 l[n].red, .string l[n].name, .int .i64 l[n].turns, v1, l[n].bs, l[n].ls, .int .i64 l[n].line, .int .i64 l[n].col] : Array Value).setIfInBounds (0 + 6) v2 = #[.int .u8 l[n].op, .int .u8 l[n].kind, .int .u8 l[n].red, .string l[n].name, .int .i64 l[n].turns, v1, v2, l[n].ls, .int .i64 l[n].line, .int .i64 l[n].col] := rfl
    rw [hc7] at hb7
    -- else
    refine (FAt.mk' (off := 7) (by kernel_rfl) uSts rfl (by rw [add_pl, cell_blk hb7]; rfl) : FAt Tryd.prog w7 62 7 ⟨w2.heap.size, 0, none⟩ 23 l[n].ls).vk' fun x24 => ?_
    refine CK_st Tryd.func32 rfl rfl (ihE w7 _ (hoke.els.mod hm07) (by omega)) ?_
    rintro v3 w8 ⟨lc, hlc, hOc, hm8⟩
    have hb8 := hm8.blk hb7 id
    have hs78 := hm8.size
    rw [fo (off := 7) (by kernel_rfl), add_pl]
    refine stC (b := w2.heap.size) (o := 0 + 7) rfl (by kernel_rfl) (owns_slice hOc.row) hb8 (by simp) fun w9 hb9 hm9 hz9 => ?_
    have hOa9 := (hOa7.mod0 hm8).off hm9 (fun k q => by omega)
    have hOb9 := (hOb7.mod0 hm8).off hm9 (fun k q => by omega)
    have hOc9 := hOc.off hm9 (fun k q => by omega)
    have hO9 := stO (hO7.mod0 hm8) hm9
    have hm09 := st0 (hm07.trans hm8) hm9
    have hfine := hoke.fine
    obtain ⟨e', he'⟩ : ∃ e' : St, e' = ⟨l[n].op, l[n].kind, l[n].red, l[n].name, l[n].turns, v1, la, v2, lb, v3, lc, l[n].line, l[n].col⟩ := ⟨_, rfl⟩
    have hc9 : (#[.int .u8 l[n].op, .int .u8 l[n].kind, .int .u8 l[n].red, .string l[n].name, .int .i64 l[n].turns, v1, v2, l[n].ls, .int .i64 l[n].line, .int .i64 l[n].col] : Array Value).setIfInBounds (0 + 7) v3 = e'.cells.toArray := by rw [he']; rfl
    rw [hc9] at hb9
    have hown' : e'.Own w9 tE tS := St.own_.2 (by rw [he']; exact ⟨⟨owns_base hOa9.row (Nat.zero_le _), hOa9.own⟩, ⟨owns_base hOb9.row (Nat.zero_le _), hOb9.own⟩, ⟨owns_base hOc9.row (Nat.zero_le _), hOc9.own⟩, hfine⟩)
    have hg : ∀ k, w3.heap.size ≤ k → w.heap.size ≤ k ∧ some k ≠ (ρ 3).ownBlock := fun k hk => ⟨by omega, fun q => by have := hblk k q.symm; omega⟩
    have hin' : e'.In fun k => w.heap.size ≤ k ∧ some k ≠ (ρ 3).ownBlock := by
      refine St.in_.2 ?_
      rw [he']
      exact ⟨⟨fun k hk => hg k (owns_low hOa.row hk), fun a ha => (hOa.at_ a ha).mono fun k hk => hg k hk.1⟩, ⟨fun k hk => hg k (by have := owns_low hOb.row hk; omega), fun a ha => (hOb.at_ a ha).mono fun k hk => hg k (by have := hk.1; omega)⟩,
        fun k hk => hg k (by have := owns_low hOc.row hk; omega), fun a ha => (hOc.at_ a ha).mono fun k hk => hg k (by have := hk.1; omega)⟩
    refine ldS (cs := e'.cells.toArray) rfl Tryd.underlying62 rfl iSt hb9 ?_
    refine snocSt hO9 hown' hin' (by omega) (by omega) fun y v' w10 hO10 hm10 _ => ?_
    refine BKadd (a := n) (b := 1) rfl rfl (by omega) (by omega) ?_
    refine ⟨⟨n + 1, l' ++ [e'], hlt, rfl, h0, ?_, hO10, ?_⟩, ?_⟩
    · rw [List.take_add_one, hx, Option.toList_some, List.map_append, List.map_append, her]
      congr 1
      rw [he', List.map_singleton, List.map_singleton, St.er_eq, St.er_eq, hla, hlb, hlc]
    · refine hm09.then hm10 fun k hk q => ?_
      have := owns_low hO.row q.symm
      omega
    · show l.length - (intOf (Value.int .i64 ((n : Int) + 1))).toNat < _
      simp only [intOf]; omega
  · obtain rfl : n = l.length := by have := of_decide_eq_false hlt; omega
    rw [sq_x, bk_x, sq_n, dispatcherref02_CopyStmts_R1_eq]
    unfold dispatcherref02_CopyStmts_R1_F
    rw [List.take_length] at her
    exact ⟨l', her, hO, hm⟩
theorem copySt_all : ∀ e : St, CopySt e.body ∧ CopySt e.els := by
  intro e
  induction e using St.ind with
  | h e ih1 ih2 => exact ⟨copySt_row ih1, copySt_row ih2⟩
theorem CopyStmts_ok (l : List St) : CopySt l := copySt_row fun a _ => copySt_all a
/-- A program's tree of one's own. -/
structure PrOwn (w : World) (base : Nat) (p : Pr) : Prop where
  d : w.ownsRow base 40 4 p.ds p.decls.length (p.decls.flatMap De.cells)
  f : ∀ a ∈ p.decls, a.fine
  b : StsOwn w base p.bs p.body
theorem PrOwn.ok {w : World} {base : Nat} {p : Pr} (h : PrOwn w base p) : p.Ok w := ⟨⟨reads_of_owns h.d, h.f⟩, h.b.ok⟩
theorem PrOwn.mod0 {w w' : World} {base : Nat} {p : Pr} (h : PrOwn w base p) (hm : Mod none_ w w') : PrOwn w' base p := ⟨owns_mod h.d hm fun _ _ => id, h.f, h.b.mod0 hm⟩
end Go.Proofs.YtbnbcimjapiicaaDoor.Tr
set_option linter.unusedVariables false
set_option linter.unusedSimpArgs false
namespace Go.X
open Go Go.RowKit
theorem bytes_inj {a b : ByteArray} (h : a.data.toList = b.data.toList) : a = b := by
  cases a; cases b
  simp only [Array.toList_inj] at h
  rw [h]
section
variable {P : Program} {w : World} {K : Value → World → Prop}
theorem VGtt (s : Sem Value) : VG P (.bool true) true s w K = VK P s w K := by rw [VG_b]; rfl
theorem VGtf (s : Sem Value) : VG P (.bool true) false s w K = K undef w := by rw [VG_b]; rfl
theorem VGft (s : Sem Value) : VG P (.bool false) true s w K = K undef w := by rw [VG_b]; rfl
theorem VGff (s : Sem Value) : VG P (.bool false) false s w K = VK P s w K := by rw [VG_b]; rfl
theorem UGtt (s : Sem Unit) : UG P (.bool true) true s w K = UK P s w K := by rw [UG_b]; rfl
theorem UGtf (s : Sem Unit) : UG P (.bool true) false s w K = K undef w := by rw [UG_b]; rfl
theorem UGft (s : Sem Unit) : UG P (.bool false) true s w K = K undef w := by rw [UG_b]; rfl
theorem UGff (s : Sem Unit) : UG P (.bool false) false s w K = UK P s w K := by rw [UG_b]; rfl
theorem MGtt (v : Value) : MG P (.bool true) true v w K = K v w := by rw [MG_b]; rfl
theorem MGtf (v : Value) : MG P (.bool true) false v w K = K undef w := by rw [MG_b]; rfl
theorem MGft (v : Value) : MG P (.bool false) true v w K = K undef w := by rw [MG_b]; rfl
theorem MGff (v : Value) : MG P (.bool false) false v w K = K v w := by rw [MG_b]; rfl
theorem NGtt (v : Value) : NG P (.bool true) true v w K = NK P v w K := by rw [NG_b]; rfl
theorem NGtf (v : Value) : NG P (.bool true) false v w K = K undef w := by rw [NG_b]; rfl
theorem NGft (v : Value) : NG P (.bool false) true v w K = K undef w := by rw [NG_b]; rfl
theorem NGff (v : Value) : NG P (.bool false) false v w K = NK P v w K := by rw [NG_b]; rfl
theorem PGtt (c a b : Value) : PG P (.bool true) true c a b w K = PK P c a b w K := by rw [PG_b]; rfl
theorem PGtf (c a b : Value) : PG P (.bool true) false c a b w K = K undef w := by rw [PG_b]; rfl
theorem PGft (c a b : Value) : PG P (.bool false) true c a b w K = K undef w := by rw [PG_b]; rfl
theorem PGff (c a b : Value) : PG P (.bool false) false c a b w K = PK P c a b w K := by rw [PG_b]; rfl
theorem BGtt (op : BinOp) (ty : TypeId) (x y : Operand) (a b : Value) : BG P (.bool true) true op ty x y a b w K = BK P op ty x y a b w K := by rw [BG_b]; rfl
theorem BGtf (op : BinOp) (ty : TypeId) (x y : Operand) (a b : Value) : BG P (.bool true) false op ty x y a b w K = K undef w := by rw [BG_b]; rfl
theorem BGft (op : BinOp) (ty : TypeId) (x y : Operand) (a b : Value) : BG P (.bool false) true op ty x y a b w K = K undef w := by rw [BG_b]; rfl
theorem BGff (op : BinOp) (ty : TypeId) (x y : Operand) (a b : Value) : BG P (.bool false) false op ty x y a b w K = BK P op ty x y a b w K := by rw [BG_b]; rfl
theorem CGtt (f : Value) (args : List Value) : CG P (.bool true) true f args w K = CK P f args w K := by rw [CG_b]; rfl
theorem CGtf (f : Value) (args : List Value) : CG P (.bool true) false f args w K = K undef w := by rw [CG_b]; rfl
theorem CGft (f : Value) (args : List Value) : CG P (.bool false) true f args w K = K undef w := by rw [CG_b]; rfl
theorem CGff (f : Value) (args : List Value) : CG P (.bool false) false f args w K = CK P f args w K := by rw [CG_b]; rfl
theorem IGtt (b : Builtin) (ts : Array TypeId) (ty : TypeId) (cs : List Bool) (args : List Value) : IG P (.bool true) true b ts ty cs args w K = IK P b ts ty cs args w K := by rw [IG_b]; rfl
theorem IGtf (b : Builtin) (ts : Array TypeId) (ty : TypeId) (cs : List Bool) (args : List Value) : IG P (.bool true) false b ts ty cs args w K = K undef w := by rw [IG_b]; rfl
theorem IGft (b : Builtin) (ts : Array TypeId) (ty : TypeId) (cs : List Bool) (args : List Value) : IG P (.bool false) true b ts ty cs args w K = K undef w := by rw [IG_b]; rfl
theorem IGff (b : Builtin) (ts : Array TypeId) (ty : TypeId) (cs : List Bool) (args : List Value) : IG P (.bool false) false b ts ty cs args w K = IK P b ts ty cs args w K := by rw [IG_b]; rfl
theorem PKt (a b : Value) : PK P (.bool true) a b w K = K a w := by rw [PK_bool]; rfl
theorem PKf (a b : Value) : PK P (.bool false) a b w K = K b w := by rw [PK_bool]; rfl
theorem CDt (A B : Prop) : CondK (.bool true) A B = A := by rw [CondK_bool]; rfl
theorem CDf (A B : Prop) : CondK (.bool false) A B = B := by rw [CondK_bool]; rfl
theorem NOTt : VK P (Op.unary .not (.bool true)) w K = K (.bool false) w := not_ok true
theorem NOTf : VK P (Op.unary .not (.bool false)) w K = K (.bool true) w := not_ok false
section
variable {k : IntKind} {a b : Int}
theorem EQt (h : a = b) (t : TypeId) (x y : Operand) (K : Value → World → Prop) : BK P .eql t x y (.int k a) (.int k b) w K = K (.bool true) w := by rw [BK_eql, h]; simp
theorem EQf (h : a ≠ b) (t : TypeId) (x y : Operand) (K : Value → World → Prop) : BK P .eql t x y (.int k a) (.int k b) w K = K (.bool false) w := by rw [BK_eql, beq_eq_false_iff_ne.2 h]
theorem NEt (h : a ≠ b) (t : TypeId) (x y : Operand) (K : Value → World → Prop) : BK P .neq t x y (.int k a) (.int k b) w K = K (.bool true) w := by rw [BK_neq, bne_iff_ne.2 h]
theorem NEf (h : a = b) (t : TypeId) (x y : Operand) (K : Value → World → Prop) : BK P .neq t x y (.int k a) (.int k b) w K = K (.bool false) w := by rw [BK_neq, h]; simp
theorem LTt (h : a < b) (t : TypeId) (x y : Operand) (K : Value → World → Prop) : BK P .lss t x y (.int k a) (.int k b) w K = K (.bool true) w := by rw [BK_lss, decide_eq_true h]
theorem LTf (h : b ≤ a) (t : TypeId) (x y : Operand) (K : Value → World → Prop) : BK P .lss t x y (.int k a) (.int k b) w K = K (.bool false) w := by rw [BK_lss, decide_eq_false (by omega)]
theorem GTt (h : b < a) (t : TypeId) (x y : Operand) (K : Value → World → Prop) : BK P .gtr t x y (.int k a) (.int k b) w K = K (.bool true) w := by rw [BK_gtr, decide_eq_true h]
theorem GTf (h : a ≤ b) (t : TypeId) (x y : Operand) (K : Value → World → Prop) : BK P .gtr t x y (.int k a) (.int k b) w K = K (.bool false) w := by rw [BK_gtr, decide_eq_false (by omega)]
theorem GEt (h : b ≤ a) (t : TypeId) (x y : Operand) (K : Value → World → Prop) : BK P .geq t x y (.int k a) (.int k b) w K = K (.bool true) w := by rw [BK_geq, decide_eq_true h]
theorem GEf (h : a < b) (t : TypeId) (x y : Operand) (K : Value → World → Prop) : BK P .geq t x y (.int k a) (.int k b) w K = K (.bool false) w := by rw [BK_geq, decide_eq_false (by omega)]
end
section
variable {a b : ByteArray}
theorem SEQt (h : a = b) (t : TypeId) (x y : Operand) (K : Value → World → Prop) : BK P .eql t x y (.string a) (.string b) w K = K (.bool true) w := by rw [BK_eqlS, h]; simp
theorem SEQf (h : a ≠ b) (t : TypeId) (x y : Operand) (K : Value → World → Prop) : BK P .eql t x y (.string a) (.string b) w K = K (.bool false) w := by
  rw [BK_eqlS, beq_eq_false_iff_ne.2]
  exact fun q => h (bytes_inj (by rw [← ByteArray.toList_eq, ← ByteArray.toList_eq]; exact q))
theorem SNEt (h : a ≠ b) (t : TypeId) (x y : Operand) (K : Value → World → Prop) : BK P .neq t x y (.string a) (.string b) w K = K (.bool true) w := by
  rw [BK_neqS, beq_eq_false_iff_ne.2]
  · rfl
  · exact fun q => h (bytes_inj (by rw [← ByteArray.toList_eq, ← ByteArray.toList_eq]; exact q))
theorem SNEf (h : a = b) (t : TypeId) (x y : Operand) (K : Value → World → Prop) : BK P .neq t x y (.string a) (.string b) w K = K (.bool false) w := by rw [BK_neqS, h]; simp
end
/-- A field that is read, its place known. -/
structure FO (P : Program) (w : World) (t : TypeId) (i off : Nat) (a : Addr) (t' : TypeId) (v : Value) : Prop where
  h1 : fieldOff P t i = some off
  h2 : ∀ K : Value → World → Prop, VK P (Instr.loadAt t' (.pointer (some (a.add off)))) w K = K v w
theorem FO.mk' {t t' : TypeId} {i off : Nat} {a : Addr} {v : Value} {d : TypeDesc} (h1 : fieldOff P t i = some off) (h2 : P.underlying t' = some d) (h3 : (match d with | .struct _ | .array _ _ => true | _ => false) = false) (h4 : w.cell? (a.add off) = some v) : FO P w t i off a t' v :=
  ⟨h1, fun K => VK_eq_of (run_ld1 h2 h3 h4)⟩
/-- Of a block. -/
theorem FO.blk {t t' ty : TypeId} {i off b : Nat} {fr : Nat × Nat} {cs : Array Value} {v : Value} {d : TypeDesc} (hb : w.heap[b]? = some (.cells cs ty fr)) (h1 : fieldOff P t i = some off) (h2 : P.underlying t' = some d) (h3 : (match d with | .struct _ | .array _ _ => true | _ => false) = false) (h4 : cs[off]? = some v) : FO P w t i off ⟨b, 0, none⟩ t' v :=
  FO.mk' h1 h2 h3 (by rw [add_pl, Nat.zero_add, cell_blk hb]; exact h4)
theorem FO.e {t t' : TypeId} {i off : Nat} {a : Addr} {v : Value} (h : FO P w t i off a t' v) (K : Value → Value → World → Prop) :
    (VK P (Instr.fieldAt t (.pointer (some a)) i) w fun x w => VK P (Instr.loadAt t' x) w (K x)) = K (.pointer (some (a.add off))) v w := by
  rw [fo h.h1, h.h2]
end
theorem least_of {p : Nat → Prop} : ∀ n, p n → ∃ m, p m ∧ ∀ k, p k → m ≤ k := by
  intro n
  induction n using Nat.strongRecOn with
  | ind n ih =>
    intro hn
    by_cases h : ∃ k, k < n ∧ p k
    · obtain ⟨k, hk, hp⟩ := h
      exact ih k hk hp
    · exact ⟨n, hn, fun k hk => Nat.le_of_not_lt fun q => h ⟨k, q, hk⟩⟩
open Classical in
theorem W_loopG {P : Program} {z : At} {n : Nat} {c : Code} {K : Exit → Sl → World → Prop} {ρ : Sl} {w : World} (hd : dstOk n c = true) (I : Nat → Sl → World → Prop) (m : Nat) (h0 : I m ρ w)
    (round : ∀ m ρ w, I m ρ w → sx z P n c (seqK (fun ρ' w' => ∃ m', m' < m ∧ I m' ρ' w') K) ρ w) : W z P n (.loop c) K ρ w := by
  intro a hl
  have hmin : ∀ {ρ w}, (∃ m, I m ρ w) → ∃ m, I m ρ w ∧ ∀ k, I k ρ w → m ≤ k := fun ⟨m, h⟩ => least_of m h
  let μ : Sl → World → Nat := fun ρ w => if h : ∃ m, I m ρ w then Classical.choose (hmin h) else 0
  let M : Act → World → Nat := fun a w => μ (fun i => a.tmps.getD i undef) w
  have hM : ∀ a ρ w, Lk z n a ρ → M a w = μ ρ w := by
    intro a ρ w hl
    have : (fun i => a.tmps.getD i undef) = ρ := funext hl.val
    show μ (fun i => a.tmps.getD i undef) w = μ ρ w
    rw [this]
  refine wpIn_loop (fun a w => ∃ ρ, Lk z n a ρ ∧ ∃ m, I m ρ w) M ⟨ρ, hl, m, h0⟩ ?_
  rintro a w ⟨ρ, hl, hI⟩
  obtain ⟨hs, hle⟩ := Classical.choose_spec (hmin hI)
  have hμ : μ ρ w = Classical.choose (hmin hI) := dif_pos hI
  refine wpIn_mono (sx_W c _ ρ w hd (round _ ρ w hs) a hl) ?_
  rintro e a' w' ⟨ρ', hl', hk⟩
  cases e with
  | normal =>
    obtain ⟨m', hlt, hI'⟩ := hk
    refine ⟨⟨ρ', hl', m', hI'⟩, ?_⟩
    rw [hM a' ρ' w' hl', hM a ρ w hl, hμ]
    have h' : ∃ m, I m ρ' w' := ⟨m', hI'⟩
    have : μ ρ' w' = Classical.choose (hmin h') := dif_pos h'
    rw [this]
    exact Nat.lt_of_le_of_lt ((Classical.choose_spec (hmin h')).2 _ hI') hlt
  | exit id => exact ⟨ρ', hl', hk⟩
  | goto l => exact ⟨ρ', hl', hk⟩
  | ret => exact ⟨ρ', hl', hk⟩
  | panic c => exact ⟨ρ', hl', hk⟩
  | outgrown => exact ⟨ρ', hl', hk⟩
end Go.X
set_option linter.unusedVariables false
set_option linter.unusedSimpArgs false
set_option maxRecDepth 4000
namespace Go.X
open Go Go.RowKit
/-- An element's place and its cells, in every world of a class. -/
theorem YHixA {P : Program} {S : World → Prop} {w0 : World} {t e : TypeId} {d : TypeDesc} {sz : Nat} (hu : P.underlying t = some (.slice e)) (hc : P.cellsOf e = sz + 1) (hue : P.underlying e = some d) (hd : (match d with | .struct _ | .array _ _ => true | _ => false) = true) {v : Value} {n : Nat} {xs : List Value} (hw0 : S w0) (h : ∀ w, S w → reads w (sz + 1) v n xs)
    {i : Nat} (h1 : i < n) {K : Value → Value → Prop} (hk : ∀ x, K x (.agg ((xs.drop (i * (sz + 1))).take (sz + 1)).toArray)) : HK P S (do pure (Next.value (← Instr.indexAt t v (.int .i64 (i : Int))))) fun x => HK P S (do pure (Next.value (← Instr.loadAt e x))) (K x) := by
  obtain ⟨hlen, A, c, rfl, hnc, hA⟩ := h w0 hw0
  have hj : i * (sz + 1) < xs.length := by rw [hlen]; exact Nat.mul_lt_mul_of_pos_right h1 (by omega)
  obtain ⟨a, rfl, _⟩ := hA (i * (sz + 1)) _ (List.getElem?_eq_getElem hj)
  refine HV_of (fun w _ => run_ixa hu hc (by omega) (by omega) w) ?_
  refine HV_of (fun w hw => ?_) (hk _)
  have hx := h w hw
  obtain ⟨_, A', c', hA', _, hcell⟩ := hx
  cases hA'
  have hsz : ((xs.drop (i * (sz + 1))).take (sz + 1)).length = sz + 1 := by
    rw [List.length_take, List.length_drop, hlen]
    have : (i + 1) * (sz + 1) ≤ n * (sz + 1) := Nat.mul_le_mul_right _ h1
    rw [Nat.add_mul, Nat.one_mul] at this
    omega
  obtain ⟨z, hz, hzs⟩ := info_of hc
  refine run_ldA hue hd (by rw [hz, hsz, ← hzs]; rfl) fun j u hu' => ?_
  have hj2 : j < sz + 1 := by
    have := (List.getElem?_eq_some_iff.1 hu').1
    omega
  rw [List.getElem?_take_of_lt hj2, List.getElem?_drop] at hu'
  obtain ⟨a', ha', hcell'⟩ := hcell _ _ hu'
  cases ha'
  rw [Int.toNat_natCast, add_add]
  exact hcell'
end Go.X
namespace Go.Proofs.YtbnbcimjapiicaaDoor.Tr
open Go Go.X Go.RowKit Go.Proofs.YtbnbcimjapiicaaDoor.XC Go.Proofs.YtbnbcimjapiicaaDoor.XK
theorem ex_fo {w : World} {b : Nat} {e : Ex} {ty : TypeId} {fr : Nat × Nat} (hb : w.heap[b]? = some (.cells e.cells.toArray ty fr)) : FO Tryd.prog w 60 0 0 ⟨b, 0, none⟩ 5 (.int .u8 e.op) ∧ FO Tryd.prog w 60 1 1 ⟨b, 0, none⟩ 2 (.int .i64 e.num) ∧ FO Tryd.prog w 60 2 2 ⟨b, 0, none⟩ 9 (.string e.name) ∧
    FO Tryd.prog w 60 3 3 ⟨b, 0, none⟩ 58 e.s ∧ FO Tryd.prog w 60 4 4 ⟨b, 0, none⟩ 3 (.int .i64 e.line) ∧ FO Tryd.prog w 60 5 5 ⟨b, 0, none⟩ 3 (.int .i64 e.col) :=
  ⟨FO.blk hb (by kernel_rfl) uU8 rfl rfl, FO.blk hb (by kernel_rfl) uI64 rfl rfl, FO.blk hb (by kernel_rfl) uS rfl rfl, FO.blk hb (by kernel_rfl) uExs rfl rfl, FO.blk hb (by kernel_rfl) uI rfl rfl, FO.blk hb (by kernel_rfl) uI rfl rfl⟩
theorem st_fo {w : World} {b : Nat} {e : St} {ty : TypeId} {fr : Nat × Nat} (hb : w.heap[b]? = some (.cells e.cells.toArray ty fr)) : FO Tryd.prog w 62 0 0 ⟨b, 0, none⟩ 5 (.int .u8 e.op) ∧ FO Tryd.prog w 62 1 1 ⟨b, 0, none⟩ 5 (.int .u8 e.kind) ∧ FO Tryd.prog w 62 2 2 ⟨b, 0, none⟩ 5 (.int .u8 e.red) ∧
    FO Tryd.prog w 62 3 3 ⟨b, 0, none⟩ 9 (.string e.name) ∧ FO Tryd.prog w 62 4 4 ⟨b, 0, none⟩ 3 (.int .i64 e.turns) ∧ FO Tryd.prog w 62 5 5 ⟨b, 0, none⟩ 58 e.es ∧ FO Tryd.prog w 62 6 6 ⟨b, 0, none⟩ 23 e.bs ∧ FO Tryd.prog w 62 7 7 ⟨b, 0, none⟩ 23 e.ls ∧
    FO Tryd.prog w 62 8 8 ⟨b, 0, none⟩ 3 (.int .i64 e.line) ∧ FO Tryd.prog w 62 9 9 ⟨b, 0, none⟩ 3 (.int .i64 e.col) :=
  ⟨FO.blk hb (by kernel_rfl) uU8 rfl rfl, FO.blk hb (by kernel_rfl) uU8 rfl rfl, FO.blk hb (by kernel_rfl) uU8 rfl rfl, FO.blk hb (by kernel_rfl) uS rfl rfl, FO.blk hb (by kernel_rfl) uI rfl rfl, FO.blk hb (by kernel_rfl) uExs rfl rfl, FO.blk hb (by kernel_rfl) uSts rfl rfl, FO.blk hb (by kernel_rfl) uSts rfl rfl, FO.blk hb (by kernel_rfl) uI rfl rfl, FO.blk hb (by kernel_rfl) uI rfl rfl⟩
end Go.Proofs.YtbnbcimjapiicaaDoor.Tr
set_option linter.unusedVariables false
set_option linter.unusedSimpArgs false
set_option maxRecDepth 4000
namespace Go.X
open Go Go.RowKit
theorem run_append_none {P : Program} (w : World) (base : Nat) (t ty e : TypeId) (i : TypeInfo) (size c2 : Nat) (ht : P.underlying t = some (.slice e)) (hi : P.info? e = some i) (v : Value) (n : Nat) (xs : List Value) (hown : w.ownsRow base e size v n xs) :
    (Builtin.append_ #[t, t] ty #[v, .slice none 0 c2]).run P w = .ok v w := by
  rcases hown.2 with ⟨rfl, rfl⟩ | ⟨g, cap, cur, rfl, _, _, hnc, _⟩
  · simp [Builtin.append_, run_underlying ht, sizeOf, typeInfo, hi, Builtin.lenOf, Builtin.firstCells]
  · simp [Builtin.append_, run_underlying ht, sizeOf, typeInfo, hi, Builtin.lenOf, Builtin.firstCells, hnc, storeCells]
/-- Elements of any slice, behind one's own. -/
theorem ap_any {P : Program} {w : World} {K : Value → World → Prop} {t ty e : TypeId} {size bytes base : Nat} (hE : elemOk P t e size bytes = true) {v : Value} {n : Nat} {xs : List Value} (hown : w.ownsRow base e size v n xs) {v2 : Value} {m : Nat} {news : List Value} (hr : reads w size v2 m news) (h1 : ∀ u ∈ news, u.oneCell' = true)
    (h63 : n + m ≤ maxLen) (hbytes : (n + m) * bytes ≤ 140737488355328) (hbase : base ≤ w.heap.size)
    (hk : ∀ v' w', w'.ownsRow base e size v' (n + m) (xs ++ news) → Mod (fun k => some k = v.ownBlock) w w' → (v'.ownBlock = v.ownBlock ∨ v'.ownBlock = some w.heap.size) → K v' w') : IK P .append #[t, t] ty [false, false] [v, v2] w K := by
  have hE' := hE
  unfold elemOk at hE
  split at hE
  · rename_i e' i hu hi
    simp only [Bool.and_eq_true, beq_iff_eq] at hE
    obtain ⟨⟨⟨⟨rfl, hz⟩, hs⟩, hb⟩, hp⟩ := hE
    split at hz
    · rename_i z hzz
      have hz : z.cells.size = size := by simpa using hz
      have hpos : 0 < size := Nat.le_of_ble_eq_true hp
      obtain ⟨hl, A, c, rfl, _, hrd⟩ := hr
      cases A with
      | none =>
        have h0 : news = [] := by
          rcases Nat.eq_zero_or_pos news.length with q | q
          · exact List.length_eq_zero_iff.1 q
          · obtain ⟨a, ha, _⟩ := hrd 0 _ (List.getElem?_eq_getElem q)
            cases ha
        subst h0
        have hm0 : m = 0 := by
          rcases Nat.eq_zero_or_pos m with q | q
          · exact q
          · have := Nat.mul_pos q hpos; simp at hl; omega
        subst hm0
        refine IK_of (s := Builtin.append_ #[t, t] ty #[v, .slice none 0 c]) rfl (run_append_none w base t ty _ i size c hu hi v n xs hown) (hk v w (by simpa using hown) (Mod.refl _ _) (.inl rfl))
      | some a =>
        obtain ⟨v', w', hrun, h2, h3, h4, h5⟩ := run_append_own_at (P := P) w base t ty _ i z size bytes hu hi hzz hs hb hz hpos v n xs hown a m c news hl (fun j u hj => by obtain ⟨a', ha, hc⟩ := hrd j u hj; cases ha; exact hc) h1 h63 hbytes hbase
        exact IK_of (s := Builtin.append_ #[t, t] ty #[v, .slice (some a) m c]) rfl hrun (hk v' w' h2 (Mod.ofGrown h3) h5)
    · cases hz
  · cases hE
/-- A slice's part. -/
theorem cut_lh {P : Program} {w : World} {K : Value → World → Prop} {t e : TypeId} {sz : Nat} (hu : P.underlying t = some (.slice e)) (hc : P.cellsOf e = sz + 1) {v : Value} {n i j : Nat} {xs : List Value} (h : reads w (sz + 1) v n xs) (hij : i ≤ j) (hj : j ≤ n)
    (hk : ∀ v', reads w (sz + 1) v' (j - i) ((xs.take (j * (sz + 1))).drop (i * (sz + 1))) → K v' w) : VK P (Instr.sliceAt t v (some (.int .i64 (i : Int))) (some (.int .i64 (j : Int))) none) w K := by
  obtain ⟨hl, A, c, rfl, hnc, hr⟩ := h
  obtain ⟨z, hz, hzs⟩ := info_of hc
  have he : P.elem t = e := by simp [Program.elem, hu]
  have hrun : (Instr.sliceAt t (.slice A n c) (some (.int .i64 (i : Int))) (some (.int .i64 (j : Int))) none).run P w = .ok (sliced A i j c (sz + 1)) w := by
    rw [run_sliceAt_slice (h := elem_of hu), run_slice_lh w t A n c (elem_of hu) .i64 .i64 _ _ (by omega) (by omega) (by omega), he]
    simp [sizeOf, typeInfo, hz, hzs]
  have hmul : j * (sz + 1) ≤ n * (sz + 1) := Nat.mul_le_mul_right _ hj
  refine VK_of hrun (hk _ ⟨?_, ?_⟩)
  · rw [List.length_drop, List.length_take, hl, Nat.min_eq_left hmul, ← Nat.sub_mul]
  · refine ⟨_, _, rfl, by omega, fun k u hku => ?_⟩
    rw [List.getElem?_drop] at hku
    have hlt : i * (sz + 1) + k < j * (sz + 1) := by
      have := (List.getElem?_eq_some_iff.1 hku).1
      rw [List.length_take] at this
      omega
    rw [List.getElem?_take_of_lt hlt] at hku
    obtain ⟨a, rfl, hcell⟩ := hr _ u hku
    by_cases hci : c = i
    · have : i < j := Nat.lt_of_mul_lt_mul_right (a := sz + 1) (by omega)
      omega
    · refine ⟨a.add (i * (sz + 1)), by simp [sliced, hci], ?_⟩
      rw [add_add]
      exact hcell
def byteV (c : UInt8) : Value := .int .u8 (c.toNat : Int)
/-- A text out of bytes. -/
theorem str_of {P : Program} {w : World} {K : Value → World → Prop} {src dst e : TypeId} (hs : P.underlying src = some (.slice e)) (he : P.underlying e = some (.int .u8)) (hd : P.underlying dst = some .string) {v : Value} {n : Nat} {b : List UInt8} (h : reads w 1 v n (b.map byteV)) (hk : K (.string ⟨b.toArray⟩) w) : VK P (convert src dst v) w K := by
  obtain ⟨hl, A, c, rfl, _, hr⟩ := h
  have hn : n = b.length := by simpa using hl.symm
  subst hn
  cases A with
  | none =>
    have h0 : b = [] := by
      cases b with
      | nil => rfl
      | cons x r => obtain ⟨a, ha, _⟩ := hr 0 (byteV x) rfl; cases ha
    subst h0
    exact VK_of (run_convert_bytes_nil w src e hs he _ _ dst hd) hk
  | some a =>
    refine VK_of (run_convert_bytes_back w src dst e a c b hs he hd fun j hj => ?_) hk
    obtain ⟨a', ha, hcell⟩ := hr j (byteV b[j]) (by rw [List.getElem?_map, List.getElem?_eq_getElem hj]; rfl)
    cases ha
    exact hcell
/-- A struct's field, stored. -/
theorem fst_k {P : Program} {w : World} {K : Value → Value → World → Prop} {t t' ty : TypeId} {i off b : Nat} {cs cs' : Array Value} {v : Value} (h1 : fieldOff P t i = some off) (hc1 : P.cellsOf t' = 1) (hv : v.oneCell' = true) (hb : w.heap[b]? = some (.cells cs ty (0, 0))) (ho : off < cs.size) (hcs : cs.setIfInBounds off v = cs')
    (hk : ∀ x w', w'.heap[b]? = some (.cells cs' ty (0, 0)) → Mod (fun j => j = b) w w' → w'.heap.size = w.heap.size → K x undef w') : VK P (Instr.fieldAt t (.pointer (some ⟨b, 0, none⟩)) i) w fun x w => UK P (Instr.storeAt t' x v) w (K x) := by
  rw [fo h1, add_pl, Nat.zero_add]
  exact stC rfl hc1 hv hb ho fun w' h2 h3 h4 => hk _ _ (hcs ▸ h2) h3 h4
/-- A new struct's own variable, made out of a literal or not. -/
theorem Mod.fresh {w w' w'' : World} {b : Nat} (h : Mod none_ w w') (hm : Mod (fun i => i = b) w' w'') (hb : w.heap.size ≤ b) : Mod none_ w w'' := h.then hm fun i hi q => by omega
end Go.X
set_option linter.unusedVariables false
set_option linter.unusedSimpArgs false
set_option maxRecDepth 4000
namespace Go.Proofs.YtbnbcimjapiicaaDoor.Tr
open Go Go.X Go.RowKit Go.Proofs.YtbnbcimjapiicaaDoor.XC Go.Proofs.YtbnbcimjapiicaaDoor.XK
theorem bPrZ (a b : Value) (ha : a.oneCell' = true) (hb : b.oneCell' = true) : Tryd.prog.built 25 [(0, a), (1, b)] = some #[a, b] := by
  cases a <;> first | (simp [Value.oneCell'] at ha; done) | (cases b <;> first | (simp [Value.oneCell'] at hb; done) | kernel_rfl)
theorem zPr : (Tryd.prog.info? 25).bind (·.zero) = some (.agg #[.slice none 0 0, .slice none 0 0]) := by kernel_rfl
theorem Copy_ok {w : World} {p : Pr} (h : p.Ok w) (hf : p.fits) : Rt Tryd.prog 11 #[.agg p.cells.toArray] w fun v w' => ∃ q : Pr, v = .agg q.cells.toArray ∧ q.er = p.er ∧ PrOwn w' w.heap.size q ∧ Mod none_ w w' := by
  refine dispatcherref02_Copy_calls ?_
  unfold dispatcherref02_Copy_F
  refine box_k (cs := p.cells.toArray) rfl fun w1 hb1 hm1 hz1 => ?_
  refine al_k (cs := #[.slice none 0 0, .slice none 0 0]) zPr rfl _ fun w2 hb2 hm2 hz2 => ?_
  have hm02 := hm1.trans hm2
  have hb12 := hm2.blk hb1 id
  have hm2' : Mod none_ w2 { w2 with drawn := w2.drawn + 1 } := (Mod.refl _ w2).drawn _
  have hz12 : w1.heap.size = w.heap.size + 1 := hz1
  refine dispatcherref02_Copy_R0_held (D := []) (fun w' => w'.heap[w.heap.size]? = some (.cells p.cells.toArray 25 (0, 0))) hb12 ?_
  unfold dispatcherref02_Copy_R0_H
  refine HV_of (fun w' hw => run_fo (off := 0) (by kernel_rfl) _ w') ?_
  refine HV_of (v := p.ds) (fun w' hw => run_ld1 uDes rfl (by rw [add_pl, cell_blk hw]; rfl)) ?_
  refine HV_of (fun w' hw => run_fo (off := 1) (by kernel_rfl) _ w') ?_
  refine HV_of (v := p.bs) (fun w' hw => run_ld1 uSts rfl (by rw [add_pl, cell_blk hw]; rfl)) ?_
  have hf1 := hf.1
  have h2 := h.mod (hm02.trans hm2')
  have hs2 : w2.heap.size = w.heap.size + 2 := by omega
  refine ap_any (base := w.heap.size) eDes (owns_none _ _ _ _) h2.d.1 ?_ (by unfold maxLen; omega) (by omega) (by show w.heap.size ≤ w2.heap.size; omega) fun v3 w3 ho3 hm3 ha3 => ?_
  · intro u hu
    obtain ⟨e, he, hu⟩ := List.mem_flatMap.1 hu
    have := de_one e
    rw [Array.all_eq_true_iff_forall_mem] at this
    exact this u (by simpa using hu)
  have hm3' : Mod none_ { w2 with drawn := w2.drawn + 1 } w3 := hm3.mono fun k _ q => by simp [Value.ownBlock] at q
  have hm03 := (hm02.trans hm2').trans hm3'
  have hb3 := (hm2'.trans hm3').blk hb2 id
  have hb13 := (hm2'.trans hm3').blk hb12 id
  refine ⟨hb13, ?_⟩
  refine CK_st Tryd.func32 rfl rfl (CopyStmts_ok _ w3 _ (h.b.mod hm03) hf.2) ?_
  rintro v4 w4 ⟨l', her, hO, hm4⟩
  have hb4 := hm4.blk hb3 id
  have hb14 := hm4.blk hb13 id
  refine ⟨hb14, ?_⟩
  simp only [Nat.zero_add, List.nil_append] at ho3
  have ho4 := owns_mod ho3 hm4 fun _ _ => id
  refine HV_of (v := .agg #[v3, v4]) (fun w' _ => by have := run_build (P := Tryd.prog) w' 25 [(0, v3), (1, v4)].toArray #[v3, v4] (by simpa using bPrZ v3 v4 (owns_slice ho3) (owns_slice hO.row)); exact this) ?_
  have hone : ((#[v3, v4] : Array Value).all (·.oneCell')) = true := by simp [owns_slice ho3, owns_slice hO.row]
  refine stS (old := #[.slice none 0 0, .slice none 0 0]) (cs := #[v3, v4]) rfl rfl iPr rfl hone hb4 fun w5 hb5 hm5 hz5 => ?_
  have hs3 := hm3'.size
  have hs34 := hm4.size
  have hs3' : w2.heap.size ≤ w3.heap.size := hs3
  have hb15 := hm5.blk hb14 (by omega)
  refine ⟨hb15, ?_⟩
  rw [sq_n, dispatcherref02_Copy_R1_eq]
  unfold dispatcherref02_Copy_R1_F
  refine rtCell (cs := #[v3, v4]) rfl Tryd.underlying25 rfl iPr hb5 ?_
  refine ⟨⟨v3, p.decls, v4, l'⟩, rfl, ?_, ⟨?_, h.d.2, ?_⟩, (hm03.trans hm4).then hm5 fun i hi q => by omega⟩
  · show (⟨_, _, _, _⟩ : Pr) = ⟨_, _, _, _⟩
    rw [her]
  · refine owns_mod ho4 hm5 fun k hk q => ?_
    rcases ha3 with ha | ha
    · rw [ha] at hk; cases hk
    · rw [ha] at hk
      have : w2.heap.size = k := by simpa using hk
      omega
  · exact (hO.off hm5 fun k q => by omega).low (by omega)
end Go.Proofs.YtbnbcimjapiicaaDoor.Tr
set_option linter.unusedVariables false
namespace Go.X
open Go Go.RowKit Go.Proofs.YtbnbcimjapiicaaDoor.Tr
abbrev Bs := List UInt8
def bs (b : Bs) : ByteArray := ⟨b.toArray⟩
structure Tk where
  kind : Int
  text : Bs
  num : Int
  line : Int
  col : Int
def Tk.cells (t : Tk) : List Value := [.int .u8 t.kind, txt t.text, .int .i64 t.num, .int .i64 t.line, .int .i64 t.col]
theorem Tk.cells_len (t : Tk) : t.cells.length = 5 := rfl
def zTk : Tk := ⟨0, [], 0, 0, 0⟩
def signL : List Bs := [[40], [41], [123], [125], [91], [93], [59], [44], [61], [43], [45], [42], [47], [37], [60], [60, 61], [62], [62, 61], [61, 61], [33, 61], [38, 38], [124, 124], [33]]
def numF : Bs → Int → Int
  | [], n => n
  | c :: r, n => numF r (10 * n + ((c.toNat : Int) - 48))
def numOk (b : Bs) : Bool := decide (1 ≤ b.length) && decide (b.length ≤ 18) && !(decide (b.head? = some 48) && decide (1 < b.length)) && b.all digitP
def numP (b : Bs) : Int := if numOk b then numF b 0 else 0
def tokP (b : Bs) : Int × Int := if wordsL.contains b then (3, 0) else if nameP (bs b) then (1, 0) else if numOk b then (2, numF b 0) else if signL.contains b then (4, 0) else (0, 0)
/-- Behind a row of bytes of a kind. -/
def runP (p : UInt8 → Bool) (b : Bs) (k : Nat) : Nat := k + ((b.drop k).takeWhile p).length
def endP (b : Bs) (at_ : Nat) : Nat :=
  let c := b.getD at_ 0
  if letterP c then runP alnumP b (at_ + 1) else if digitP c then runP digitP b (at_ + 1) else if at_ + 1 < b.length ∧ signL.contains ((b.take (at_ + 2)).drop at_) then at_ + 2 else at_ + 1
def scanL (b : Bs) : Nat → Nat → Int → Int → List Tk → Option (List Tk)
  | 0, _, _, _, _ => none
  | n + 1, a, line, col, acc =>
    if a < b.length then
      let c := b.getD a 0
      if c = 32 then scanL b n (a + 1) line (col + 1) acc
      else if c = 10 ∨ c = 9 ∨ c = 13 ∨ c = 35 then none
      else
        let k := endP b a
        let t := (b.take k).drop a
        if (tokP t).1 = 0 then none else scanL b n k line (col + k - a) (acc ++ [⟨(tokP t).1, t, (tokP t).2, line, col⟩])
    else some acc
def scanP (b : Bs) : Option (List Tk) := if b.length ≤ 20000 then scanL b (b.length + 1) 0 1 1 [] else none
def Tk.good (t : Tk) : Bool := decide ((tokP t.text).1 = t.kind) && decide ((tokP t.text).2 = t.num) && decide (t.text.length ≤ 20000) && decide (t.kind ≠ 0) && ((Lit.int .i64 t.num).wf && (Lit.int .i64 t.line).wf && (Lit.int .i64 t.col).wf)
def tkAt (l : List Tk) (a : Nat) : Tk := l.getD a zTk
def mayP (l : List Tk) (a : Nat) (s : Bs) : Bool := decide ((tkAt l a).kind ≠ 0) && decide ((tkAt l a).text = s)
def needP (l : List Tk) (a : Nat) (s : Bs) : Option Nat := if mayP l a s then some (a + 1) else none
def twoL : List (Bs × Int × Nat) := [([124, 124], 20, 0), ([38, 38], 19, 1), ([60], 13, 2), ([60, 61], 14, 2), ([62], 15, 2), ([62, 61], 16, 2), ([61, 61], 17, 2), ([33, 61], 18, 2), ([43], 11, 3), ([45], 12, 3), ([42], 8, 4), ([47], 9, 4), ([37], 10, 4)]
def findT : List (Bs × Int × Nat) → Bs → Int × Int
  | [], _ => (0, -1)
  | (t, o, s) :: r, b => if b = t then (o, s) else findT r b
def twoP (b : Bs) : Int × Int := findT twoL b
def nl : Value := .slice none 0 0
mutual
def exprTk (l : List Tk) : Nat → Nat → Nat → Option (Ex × Nat)
  | 0, _, _ => none
  | n + 1, k, a => if 4 < k then singleP l n a else
    match exprTk l n (k + 1) a with
    | none => none
    | some (e, a) => loopP l n k e a
def loopP (l : List Tk) : Nat → Nat → Ex → Nat → Option (Ex × Nat)
  | 0, _, _, _ => none
  | n + 1, k, e, a =>
    let t := tkAt l a
    if t.kind = 0 ∨ (twoP t.text).1 = 0 ∨ (twoP t.text).2 ≠ (k : Int) then some (e, a) else
    match exprTk l n (k + 1) (a + 1) with
    | none => none
    | some (r, a') => if k = 2 then some (⟨(twoP t.text).1, 0, bs [], nl, [e, r], t.line, t.col⟩, a') else loopP l n k ⟨(twoP t.text).1, 0, bs [], nl, [e, r], t.line, t.col⟩ a'
def singleP (l : List Tk) : Nat → Nat → Option (Ex × Nat)
  | 0, _ => none
  | n + 1, a =>
    let t := tkAt l a
    if t.kind = 0 then none
    else if t.kind = 2 then some (⟨1, t.num, bs [], nl, [], t.line, t.col⟩, a + 1)
    else if t.kind = 1 then
      if mayP l (a + 1) [91] then none else some (⟨2, 0, bs t.text, nl, [], t.line, t.col⟩, a + 1)
    else if plainP (bs t.text) then some (⟨5, 0, bs t.text, nl, [], t.line, t.col⟩, a + 1)
    else if mayP l a [114, 111, 119] then
      match needP l (a + 1) [91] with
      | none => none
      | some a =>
        match exprTk l n 0 a with
        | none => none
        | some (e, a) =>
          match needP l a [93] with
          | none => none
          | some a => some (⟨4, 0, bs [], nl, [e], t.line, t.col⟩, a)
    else if mayP l a [45] ∨ mayP l a [33] then none
    else if mayP l a [40] then
      match exprTk l n 0 (a + 1) with
      | none => none
      | some (e, a) =>
        match needP l a [41] with
        | none => none
        | some a => some (e, a)
    else none
end
/-- A call's arguments. -/
def argsLoop (l : List Tk) (fuel least most : Nat) : Nat → List Ex → Nat → Option (List Ex × Nat)
  | 0, _, _ => none
  | n + 1, es, a =>
    if es.length < most then
      if 0 < es.length then
        if least ≤ es.length ∧ (tkAt l a).text = [41] then some (es, a) else
        match needP l a [44] with
        | none => none
        | some a =>
          match exprTk l fuel 0 a with
          | none => none
          | some (e, a) => argsLoop l fuel least most n (es ++ [e]) a
      else
        match exprTk l fuel 0 a with
        | none => none
        | some (e, a) => argsLoop l fuel least most n (es ++ [e]) a
    else some (es, a)
def callL : List Bs := [[115, 101, 110, 100], [115, 115, 101, 110, 100], [98, 115, 101, 110, 100], [105, 115, 101, 110, 100], [105, 115, 115, 101, 110, 100], [114, 101, 99, 118], [105, 114, 101, 99, 118], [119, 97, 105, 116], [119, 97, 105, 116, 97, 108, 108], [119, 97, 105, 116, 97, 110, 121], [116, 101, 115, 116], [116, 101, 115, 116, 97, 110, 121], [112, 114, 111, 98, 101], [105, 112, 114, 111, 98, 101], [98, 97, 114, 114, 105, 101, 114], [98, 99, 97, 115, 116], [114, 101, 100, 117, 99, 101], [97, 108, 108, 114, 101, 100, 117, 99, 101], [103, 97, 116, 104, 101, 114], [100, 117, 112], [115, 112, 108, 105, 116], [102, 114, 101, 101]]
def idxP : List Bs → Bs → Nat → Int
  | [], _, _ => 0
  | t :: r, b, n => if t = b then n + 1 else idxP r b (n + 1)
def callK (b : Bs) : Int := idxP callL b 0
def callP (l : List Tk) (n : Nat) (k : Int) (a : Nat) : Option (List Ex × Nat) :=
  match needP l a [40] with
  | none => none
  | some a =>
    match argsLoop l n (argsP k).1 (argsP k).2 10 [] a with
    | none => none
    | some (es, a) => if redsP k then none else
      match needP l a [41] with
      | none => none
      | some a => some (es, a)
mutual
def blockP (l : List Tk) : Nat → Nat → Option (List St × Nat)
  | 0, _ => none
  | n + 1, a =>
    match needP l a [123] with
    | none => none
    | some a => stmtsP l n [] a
def stmtsP (l : List Tk) : Nat → List St → Nat → Option (List St × Nat)
  | 0, _, _ => none
  | n + 1, acc, a => if mayP l a [125] then some (acc, a + 1) else
    match stmtP l n a with
    | none => none
    | some (s, a) => stmtsP l n (acc ++ [s]) a
def stmtP (l : List Tk) : Nat → Nat → Option (St × Nat)
  | 0, _ => none
  | n + 1, a =>
    let t := tkAt l a
    if t.kind = 1 then
      if mayP l (a + 1) [91] then none else
      match needP l (a + 1) [61] with
      | none => none
      | some a =>
        match exprTk l n 0 a with
        | none => none
        | some (e, a) =>
          match needP l a [59] with
          | none => none
          | some a => some (⟨1, 0, 0, bs t.text, 0, nl, [e], nl, [], nl, [], t.line, t.col⟩, a)
    else if mayP l a [105, 102] then none
    else if mayP l a [119, 104, 105, 108, 101] then
      match exprTk l n 0 (a + 1) with
      | none => none
      | some (e, a) =>
        match blockP l n a with
        | none => none
        | some (b, a) => some (⟨4, 0, 0, bs [], 0, nl, [e], nl, b, nl, [], t.line, t.col⟩, a)
    else if mayP l a [102, 111, 114] then
      if (tkAt l (a + 1)).kind = 1 then
        match needP l (a + 2) [60] with
        | none => none
        | some a1 => if mayP l a1 [115, 105, 122, 101] then none else
          if (tkAt l a1).kind = 2 ∧ 1 ≤ (tkAt l a1).num ∧ (tkAt l a1).num ≤ 1000 then
            match blockP l n (a1 + 1) with
            | none => none
            | some (b, a2) => some (⟨5, 0, 0, bs (tkAt l (a + 1)).text, (tkAt l a1).num, nl, [], nl, b, nl, [], t.line, t.col⟩, a2)
          else none
      else none
    else if mayP l a [97, 115, 115, 101, 114, 116] then
      match exprTk l n 0 (a + 1) with
      | none => none
      | some (e, a) =>
        match needP l a [59] with
        | none => none
        | some a => some (⟨6, 0, 0, bs [], 0, nl, [e], nl, [], nl, [], t.line, t.col⟩, a)
    else if mayP l a [115, 116, 111, 112] then none
    else if t.kind = 3 ∧ 0 < callK t.text then
      match callP l n (callK t.text) (a + 1) with
      | none => none
      | some (es, a) =>
        match needP l a [59] with
        | none => none
        | some a => some (⟨8, callK t.text, 0, bs [], 0, nl, es, nl, [], nl, [], t.line, t.col⟩, a)
    else none
end
def declsP (l : List Tk) : Nat → List De → Nat → Option (List De × Nat)
  | 0, _, _ => none
  | n + 1, ds, a => if mayP l a [105, 110, 116] then
      let t := tkAt l (a + 1)
      if t.kind = 1 then
        if mayP l (a + 2) [91] then
          if (tkAt l (a + 3)).kind = 2 ∧ 1 ≤ (tkAt l (a + 3)).num ∧ (tkAt l (a + 3)).num ≤ 1000 then
            match needP l (a + 4) [93] with
            | none => none
            | some a =>
              match needP l a [59] with
              | none => none
              | some a1 => declsP l n (ds ++ [⟨bs t.text, (tkAt l (a - 2)).num, t.line, t.col⟩]) a1
          else none
        else
          match needP l (a + 2) [59] with
          | none => none
          | some a => declsP l n (ds ++ [⟨bs t.text, 0, t.line, t.col⟩]) a
      else none
    else some (ds, a)
def bodyP (l : List Tk) (fuel : Nat) : Nat → List St → Nat → Option (List St)
  | 0, _, _ => none
  | n + 1, ss, a => if a < l.length then
      match stmtP l fuel a with
      | none => none
      | some (s, a) => bodyP l fuel n (ss ++ [s]) a
    else some ss
def parseP (l : List Tk) (fuel : Nat) : Option Pr :=
  match declsP l (l.length + 1) [] 0 with
  | none => none
  | some (ds, a) =>
    match bodyP l fuel (l.length + 1) [] a with
    | none => none
    | some ss => if St.deepAt ss 1 ≤ 32 then some ⟨nl, ds, nl, ss⟩ else none
/-- The tree of a text. -/
def readP (b : Bs) : Option Pr :=
  match scanP b with
  | none => none
  | some l => if l.all Tk.good ∧ l.length ≤ 20000 then parseP l 40 else none
end Go.X
set_option linter.unusedVariables false
set_option maxRecDepth 100000
namespace Go.Proofs.YtbnbcimjapiicaaDoor.XD
open Go Go.X
/-- dispatcher/dispatcherref01.Scan -/
noncomputable def dispatcherref01_Scan_b : Code := (Tryd.f64.body).getD .skip
noncomputable def dispatcherref01_Scan_L0 : Code := cAt [1, 1, 1, 1, 0, 0, 0] dispatcherref01_Scan_b
noncomputable def dispatcherref01_Scan_R1 : Code := cAt [1, 1, 1, 1, 1] dispatcherref01_Scan_b
noncomputable def dispatcherref01_Scan_L2 : Code := cAt [1, 1, 1, 1, 0, 0, 0, 1, 0, 1, 0, 1, 1, 1, 1, 1, 0, 0, 0] dispatcherref01_Scan_b
noncomputable def dispatcherref01_Scan_L0_F (z : At) (K : Exit → Sl → World → Prop) (ρ : Sl) (w : World) : Prop :=
  IK Tryd.prog Builtin.len #[95] 3 [false] [(ρ 0)] w fun x18 w => BK Tryd.prog BinOp.lss 3 (Operand.tmp 16) (Operand.tmp 18) (ρ 7) x18 w fun x19 w => CondK x19 (VK Tryd.prog (Instr.indexAt 95 (ρ 0) (ρ 7)) w fun x22 w => VK Tryd.prog (Instr.loadAt 5 x22) w fun x23 w => BK Tryd.prog BinOp.eql 5 (Operand.tmp 53) (Operand.const (Value.int IntKind.u8 10)) x23 (Value.int IntKind.u8 10) w fun x54 w => CondK x54 (BK Tryd.prog BinOp.add 3 (Operand.tmp 55) (Operand.const (Value.int IntKind.i64 1)) (ρ 7) (Value.int IntKind.i64 1) w fun x56 w => BK Tryd.prog BinOp.add 3 (Operand.tmp 57) (Operand.const (Value.int IntKind.i64 1)) (ρ 8) (Value.int IntKind.i64 1) w fun x58 w => K Exit.normal (up (up (up (up (up (up (up (up (up (up (up (up (up (up (up (up (up (up (up ρ 16 (ρ 7)) 17 (ρ 0)) 18 x18) 19 x19) 20 (ρ 0)) 21 (ρ 7)) 22 x22) 23 x23) 10 x23) 53 x23) 54 x54) 52 x54) 55 (ρ 7)) 56 x56) 7 x56) 57 (ρ 8)) 58 x58) 8 x58) 9 (Value.int IntKind.i64 1)) w) (BK Tryd.prog BinOp.eql 5 (Operand.tmp 60) (Operand.const (Value.int IntKind.u8 32)) x23 (Value.int IntKind.u8 32) w fun x61 w => MG Tryd.prog x61 false x23 w fun x63 w => BG Tryd.prog x61 false BinOp.eql 5 (Operand.tmp 63) (Operand.const (Value.int IntKind.u8 9)) x63 (Value.int IntKind.u8 9) w fun x64 w => PK Tryd.prog x61 (Value.bool true) x64 w fun x65 w => MG Tryd.prog x65 false x23 w fun x67 w => BG Tryd.prog x65 false BinOp.eql 5 (Operand.tmp 67) (Operand.const (Value.int IntKind.u8 13)) x67 (Value.int IntKind.u8 13) w fun x68 w => PK Tryd.prog x65 (Value.bool true) x68 w fun x69 w => CondK x69 (BK Tryd.prog BinOp.add 3 (Operand.tmp 70) (Operand.const (Value.int IntKind.i64 1)) (ρ 7) (Value.int IntKind.i64 1) w fun x71 w => BK Tryd.prog BinOp.add 3 (Operand.tmp 72) (Operand.const (Value.int IntKind.i64 1)) (ρ 9) (Value.int IntKind.i64 1) w fun x73 w => K Exit.normal (up (up (up (up (up (up (up (up (up (up (up (up (up (up (up (up (up (up (up (up (up (up (up (up (up (up (up (up (up ρ 16 (ρ 7)) 17 (ρ 0)) 18 x18) 19 x19) 20 (ρ 0)) 21 (ρ 7)) 22 x22) 23 x23) 10 x23) 53 x23) 54 x54) 52 x54) 60 x23) 61 x61) 62 x61) 63 x63) 64 x64) 65 x65) 66 x65) 67 x67) 68 x68) 69 x69) 59 x69) 70 (ρ 7)) 71 x71) 7 x71) 72 (ρ 9)) 73 x73) 9 x73) w) (BK Tryd.prog BinOp.eql 5 (Operand.tmp 75) (Operand.const (Value.int IntKind.u8 35)) x23 (Value.int IntKind.u8 35) w fun x76 w => CondK x76 (W z Tryd.prog 93 (Code.loop dispatcherref01_Scan_L2) (blkK 3 (blkK 2 (blkK 1 K))) (up (up (up (up (up (up (up (up (up (up (up (up (up (up (up (up (up (up (up (up (up (up (up (up (up (up ρ 16 (ρ 7)) 17 (ρ 0)) 18 x18) 19 x19) 20 (ρ 0)) 21 (ρ 7)) 22 x22) 23 x23) 10 x23) 53 x23) 54 x54) 52 x54) 60 x23) 61 x61) 62 x61) 63 x63) 64 x64) 65 x65) 66 x65) 67 x67) 68 x68) 69 x69) 59 x69) 75 x23) 76 x76) 74 x76) w) (CK Tryd.prog (Value.func (Fn.func 80) #[] #[]) [(ρ 0), (ρ 7)] w fun x26 w => VK Tryd.prog (Instr.sliceAt 95 (ρ 0) (some (ρ 7)) (some x26) none) w fun x30 w => VK Tryd.prog (convert 95 9 x30) w fun x31 w => CK Tryd.prog (Value.func (Fn.func 81) #[] #[]) [x31] w fun x32 w => VK Tryd.prog (Instr.alloc 109 true (.tuple #[])) w fun x12 w => UK Tryd.prog (Instr.storeAt 109 x12 x32) w fun _ w => VK Tryd.prog (Instr.fieldAt 109 x12 0) w fun x33 w => VK Tryd.prog (Instr.loadAt 5 x33) w fun x34 w => BK Tryd.prog BinOp.eql 5 (Operand.tmp 34) (Operand.const (Value.int IntKind.u8 0)) x34 (Value.int IntKind.u8 0) w fun x35 w => CondK x35 (K Exit.ret (up (up (up (up (up (up (up (up (up (up (up (up (up (up (up (up (up (up (up (up (up (up (up (up (up (up (up (up (up (up (up (up (up (up (up (up (up (up (up (up (up (up (up (up (up (up ρ 16 (ρ 7)) 17 (ρ 0)) 18 x18) 19 x19) 20 (ρ 0)) 21 (ρ 7)) 22 x22) 23 x23) 10 x23) 53 x23) 54 x54) 52 x54) 60 x23) 61 x61) 62 x61) 63 x63) 64 x64) 65 x65) 66 x65) 67 x67) 68 x68) 69 x69) 59 x69) 75 x23) 76 x76) 74 x76) 24 (ρ 0)) 25 (ρ 7)) 26 x26) 11 x26) 27 (ρ 0)) 28 (ρ 7)) 29 x26) 30 x30) 31 x31) 32 x32) 12 x12) 33 x33) 34 x34) 35 x35) 36 (ρ 8)) 37 (ρ 9)) 2 (Value.slice none 0 0)) 3 (ρ 8)) 4 (ρ 9)) 5 (Value.int IntKind.i64 10)) w) (VK Tryd.prog (Instr.fieldAt 109 x12 3) w fun x39 w => UK Tryd.prog (Instr.storeAt 3 x39 (ρ 8)) w fun _ w => VK Tryd.prog (Instr.fieldAt 109 x12 4) w fun x41 w => UK Tryd.prog (Instr.storeAt 3 x41 (ρ 9)) w fun _ w => VK Tryd.prog (Instr.loadAt 109 x12) w fun x43 w => VK Tryd.prog (Instr.buildSlice 92 1 [(0, x43)].toArray) w fun x44 w => IK Tryd.prog Builtin.append #[92, 92] 92 [false, false] [(ρ 6), x44] w fun x45 w => BK Tryd.prog BinOp.add 3 (Operand.tmp 46) (Operand.tmp 47) (ρ 9) x26 w fun x48 w => BK Tryd.prog BinOp.sub 3 (Operand.tmp 48) (Operand.tmp 49) x48 (ρ 7) w fun x50 w => K Exit.normal (up (up (up (up (up (up (up (up (up (up (up (up (up (up (up (up (up (up (up (up (up (up (up (up (up (up (up (up (up (up (up (up (up (up (up (up (up (up (up (up (up (up (up (up (up (up (up (up (up (up (up (up (up (up (up (up (up ρ 16 (ρ 7)) 17 (ρ 0)) 18 x18) 19 x19) 20 (ρ 0)) 21 (ρ 7)) 22 x22) 23 x23) 10 x23) 53 x23) 54 x54) 52 x54) 60 x23) 61 x61) 62 x61) 63 x63) 64 x64) 65 x65) 66 x65) 67 x67) 68 x68) 69 x69) 59 x69) 75 x23) 76 x76) 74 x76) 24 (ρ 0)) 25 (ρ 7)) 26 x26) 11 x26) 27 (ρ 0)) 28 (ρ 7)) 29 x26) 30 x30) 31 x31) 32 x32) 12 x12) 33 x33) 34 x34) 35 x35) 38 (ρ 8)) 39 x39) 40 (ρ 9)) 41 x41) 42 (ρ 6)) 43 x43) 44 x44) 45 x45) 6 x45) 46 (ρ 9)) 47 x26) 48 x48) 49 (ρ 7)) 50 x50) 9 x50) 51 x26) 7 x26) w))))) (K (Exit.exit 0) (up (up (up (up ρ 16 (ρ 7)) 17 (ρ 0)) 18 x18) 19 x19) w)
theorem dispatcherref01_Scan_L0_eq (z : At) (K : Exit → Sl → World → Prop) (ρ : Sl) (w : World) : sx z Tryd.prog 93 dispatcherref01_Scan_L0 K ρ w = dispatcherref01_Scan_L0_F z K ρ w := by kernel_rfl
theorem dispatcherref01_Scan_L0_ok : dstOk 93 dispatcherref01_Scan_L0 = true := by kernel_rfl
noncomputable def dispatcherref01_Scan_R1_F (z : At) (K : Exit → Sl → World → Prop) (ρ : Sl) (w : World) : Prop :=
  K Exit.ret (up (up (up (up (up ρ 92 (ρ 6)) 2 (ρ 6)) 3 (Value.int IntKind.i64 0)) 4 (Value.int IntKind.i64 0)) 5 (Value.int IntKind.i64 0)) w
theorem dispatcherref01_Scan_R1_eq (z : At) (K : Exit → Sl → World → Prop) (ρ : Sl) (w : World) : sx z Tryd.prog 93 dispatcherref01_Scan_R1 K ρ w = dispatcherref01_Scan_R1_F z K ρ w := by kernel_rfl
noncomputable def dispatcherref01_Scan_F (a0 : Value) (w : World) (R : Value → World → Prop) : Prop :=
  IK Tryd.prog Builtin.len #[95] 3 [false] [a0] w fun x14 w => BK Tryd.prog BinOp.gtr 3 (Operand.tmp 14) (Operand.const (Value.int IntKind.i64 20000)) x14 (Value.int IntKind.i64 20000) w fun x15 w => CondK x15 (R (Value.tuple #[(Value.slice none 0 0), (Value.int IntKind.i64 0), (Value.int IntKind.i64 0), (Value.int IntKind.i64 3)]) w) (W fn_ Tryd.prog 93 (Code.loop dispatcherref01_Scan_L0) (blkK 0 (seqK (sx fn_ Tryd.prog 93 dispatcherref01_Scan_R1 (retK Tryd.prog [ResultVar.tmp 2, ResultVar.tmp 3, ResultVar.tmp 4, ResultVar.tmp 5] R)) (retK Tryd.prog [ResultVar.tmp 2, ResultVar.tmp 3, ResultVar.tmp 4, ResultVar.tmp 5] R))) (up (up (up (up (up (up (up (up (up (up (up (rho0 [a0]) 2 (Value.slice none 0 0)) 3 (Value.int IntKind.i64 0)) 4 (Value.int IntKind.i64 0)) 5 (Value.int IntKind.i64 0)) 13 a0) 14 x14) 15 x15) 6 (Value.slice none 0 0)) 7 (Value.int IntKind.i64 0)) 8 (Value.int IntKind.i64 1)) 9 (Value.int IntKind.i64 1)) w)
theorem dispatcherref01_Scan_eq (a0 : Value) (w : World) (R : Value → World → Prop) : sx fn_ Tryd.prog 93 dispatcherref01_Scan_b (retK Tryd.prog Tryd.f64.results.toList R) (rho0 [a0]) w = dispatcherref01_Scan_F a0 w R := by kernel_rfl
theorem dispatcherref01_Scan_calls {a0 : Value} {w : World} {R : Value → World → Prop} (h : dispatcherref01_Scan_F a0 w R) : Calls Tryd.prog 64 #[a0] w fun e w' => ∃ v, e = .returned v ∧ R v w' :=
  Go.X.calls_of_sx (n := 93) (c := dispatcherref01_Scan_b) Tryd.func64 (by kernel_rfl) (by kernel_rfl) (Nat.le_of_ble_eq_true rfl) (by kernel_rfl) (Eq.mpr (dispatcherref01_Scan_eq a0 w R) h)
/-- dispatcher/dispatcherref02.Parse -/
noncomputable def dispatcherref02_Parse_b : Code := (Tryd.f65.body).getD .skip
noncomputable def dispatcherref02_Parse_L0 : Code := cAt [1, 1, 1, 0, 0, 0] dispatcherref02_Parse_b
noncomputable def dispatcherref02_Parse_R1 : Code := cAt [1, 1, 1, 1] dispatcherref02_Parse_b
noncomputable def dispatcherref02_Parse_R2 : Code := cAt [1, 1, 1, 0, 0, 0, 1, 0, 1, 0] dispatcherref02_Parse_b
noncomputable def dispatcherref02_Parse_R3 : Code := cAt [1, 1, 1, 0, 0, 0, 1, 0, 1, 1] dispatcherref02_Parse_b
noncomputable def dispatcherref02_Parse_L4 : Code := cAt [1, 1, 1, 1, 0, 0, 0] dispatcherref02_Parse_b
noncomputable def dispatcherref02_Parse_R5 : Code := cAt [1, 1, 1, 1, 1] dispatcherref02_Parse_b
noncomputable def dispatcherref02_Parse_R6 : Code := cAt [1, 1, 1, 0, 0, 0, 1, 0, 1, 1, 1] dispatcherref02_Parse_b
noncomputable def dispatcherref02_Parse_R7 : Code := cAt [1, 1, 1, 1, 0, 0, 0, 1, 0] dispatcherref02_Parse_b
noncomputable def dispatcherref02_Parse_R8 : Code := cAt [1, 1, 1, 1, 1, 1, 0, 0, 1, 0, 0] dispatcherref02_Parse_b
noncomputable def dispatcherref02_Parse_R9 : Code := cAt [1, 1, 1, 1, 1, 1, 0, 0, 1, 0, 1] dispatcherref02_Parse_b
noncomputable def dispatcherref02_Parse_R10 : Code := cAt [1, 1, 1, 1, 1, 1, 1] dispatcherref02_Parse_b
noncomputable def dispatcherref02_Parse_R11 : Code := cAt [1, 1, 1, 1, 1, 1, 0, 0, 1, 1, 1, 0, 0] dispatcherref02_Parse_b
noncomputable def dispatcherref02_Parse_R12 : Code := cAt [1, 1, 1, 1, 1, 1, 0, 0, 1, 1, 1, 0, 1] dispatcherref02_Parse_b
noncomputable def dispatcherref02_Parse_R13 : Code := cAt [1, 1, 1, 1, 1, 1, 0, 0, 1, 1, 1, 1, 1, 0, 1, 0] dispatcherref02_Parse_b
noncomputable def dispatcherref02_Parse_R14 : Code := cAt [1, 1, 1, 1, 1, 1, 0, 0, 1, 1, 1, 1, 1, 0, 1, 1] dispatcherref02_Parse_b
noncomputable def dispatcherref02_Parse_L0_F (z : At) (K : Exit → Sl → World → Prop) (ρ : Sl) (w : World) : Prop :=
  CK Tryd.prog (Value.func (Fn.func 82) #[] #[]) [(ρ 4), (Value.string { data := #[105, 110, 116] })] w fun x13 w => CondK x13 (CK Tryd.prog (Value.func (Fn.func 83) #[] #[]) [(ρ 4)] w fun x15 w => VK Tryd.prog (Instr.alloc 109 true (.tuple #[])) w fun x6 w => UK Tryd.prog (Instr.storeAt 109 x6 x15) w fun _ w => W z Tryd.prog 105 dispatcherref02_Parse_R2 (seqK (sx z Tryd.prog 105 dispatcherref02_Parse_R3 (blkK 1 K)) (blkK 1 K)) (up (up (up (up (up ρ 12 (ρ 4)) 13 x13) 14 (ρ 4)) 15 x15) 6 x6) w) (K (Exit.exit 0) (up (up ρ 12 (ρ 4)) 13 x13) w)
theorem dispatcherref02_Parse_L0_eq (z : At) (K : Exit → Sl → World → Prop) (ρ : Sl) (w : World) : sx z Tryd.prog 105 dispatcherref02_Parse_L0 K ρ w = dispatcherref02_Parse_L0_F z K ρ w := by kernel_rfl
theorem dispatcherref02_Parse_L0_ok : dstOk 105 dispatcherref02_Parse_L0 = true := by kernel_rfl
noncomputable def dispatcherref02_Parse_R1_F (z : At) (K : Exit → Sl → World → Prop) (ρ : Sl) (w : World) : Prop :=
  W z Tryd.prog 105 (Code.loop dispatcherref02_Parse_L4) (blkK 2 (seqK (sx z Tryd.prog 105 dispatcherref02_Parse_R5 K) K)) ρ w
theorem dispatcherref02_Parse_R1_eq (z : At) (K : Exit → Sl → World → Prop) (ρ : Sl) (w : World) : sx z Tryd.prog 105 dispatcherref02_Parse_R1 K ρ w = dispatcherref02_Parse_R1_F z K ρ w := by kernel_rfl
noncomputable def dispatcherref02_Parse_R2_ops : Array Oper := opsOf dispatcherref02_Parse_R2
def dispatcherref02_Parse_R2_H (S : World → Prop) (K : Exit → Sl → World → Prop) (ρ : Sl) (w : World) : Prop :=
  HK Tryd.prog S (do pure (Next.value (← Instr.fieldAt 109 (ρ 6) 3))) fun x18 => HK Tryd.prog S (do pure (Next.value (← Instr.loadAt 3 x18))) fun x19 => HK Tryd.prog S (do pure (Next.value (← Instr.fieldAt 109 (ρ 6) 4))) fun x20 => HK Tryd.prog S (do pure (Next.value (← Instr.loadAt 3 x20))) fun x21 => (CK Tryd.prog (Value.func (Fn.func 84) #[] #[]) [(ρ 4)] w fun x17 w => S w ∧ (HK Tryd.prog S (do pure (Next.value (← Instr.build 40 [(0, x17), (2, x19), (3, x21)].toArray))) fun x22 => VK Tryd.prog (Instr.alloc 40 true (.tuple #[])) w fun x7 w => S w ∧ (UK Tryd.prog (Instr.storeAt 40 x7 x22) w fun _ w => S w ∧ (K Exit.normal (up (up (up (up (up (up (up (up ρ 16 (ρ 4)) 18 x18) 19 x19) 20 x20) 21 x21) 17 x17) 22 x22) 7 x7) w)))) ∧ (VK Tryd.prog (Instr.alloc 40 true (.tuple #[])) w fun x7_1 w => S w ∧ (CK Tryd.prog (Value.func (Fn.func 84) #[] #[]) [(ρ 4)] w fun x17_1 w => S w ∧ (HK Tryd.prog S (do pure (Next.value (← Instr.build 40 [(0, x17_1), (2, x19), (3, x21)].toArray))) fun x22_1 => UK Tryd.prog (Instr.storeAt 40 x7_1 x22_1) w fun _ w => S w ∧ (K Exit.normal (up (up (up (up (up (up (up (up ρ 16 (ρ 4)) 18 x18) 19 x19) 20 x20) 21 x21) 7 x7_1) 17 x17_1) 22 x22_1) w))))
theorem dispatcherref02_Parse_R2_held {D : List Deferred} (S : World → Prop) {K : Exit → Sl → World → Prop} {ρ : Sl} {w : World} (hS : S { w with drawn := w.drawn + 1 }) (h : dispatcherref02_Parse_R2_H S K ρ { w with drawn := w.drawn + 1 }) : W ⟨none, D⟩ Tryd.prog 105 dispatcherref02_Parse_R2 K ρ w := by
  have e : dispatcherref02_Parse_R2 = .region (idOf dispatcherref02_Parse_R2) dispatcherref02_Parse_R2_ops true := by kernel_rfl
  have q : sxp Tryd.prog S dispatcherref02_Parse_R2_ops (K .normal) (Pl.take 0 (Pl.take 2 (Pl.take 3 (Pl.take 4 (Pl.take 5 (Pl.two 1 7 (Pl.take 6 (Pl.only 7 (Pl.only 8 Pl.done))) (Pl.only 1 (Pl.take 6 (Pl.only 8 Pl.done))))))))) ρ { w with drawn := w.drawn + 1 } = dispatcherref02_Parse_R2_H S K ρ { w with drawn := w.drawn + 1 } := by kernel_rfl
  rw [e]
  exact W_plan S (Pl.take 0 (Pl.take 2 (Pl.take 3 (Pl.take 4 (Pl.take 5 (Pl.two 1 7 (Pl.take 6 (Pl.only 7 (Pl.only 8 Pl.done))) (Pl.only 1 (Pl.take 6 (Pl.only 8 Pl.done))))))))) (by kernel_rfl) (by kernel_rfl) (by kernel_rfl) (by kernel_rfl) hS (Eq.mpr q h)
noncomputable def dispatcherref02_Parse_R3_F (z : At) (K : Exit → Sl → World → Prop) (ρ : Sl) (w : World) : Prop :=
  CK Tryd.prog (Value.func (Fn.func 82) #[] #[]) [(ρ 4), (Value.string { data := #[91] })] w fun x24 w => CondK x24 (CK Tryd.prog (Value.func (Fn.func 85) #[] #[]) [(ρ 4), (Value.int IntKind.i64 1000)] w fun x26 w => VK Tryd.prog (Instr.fieldAt 40 (ρ 7) 1) w fun x27 w => UK Tryd.prog (Instr.storeAt 3 x27 x26) w fun _ w => CK Tryd.prog (Value.func (Fn.func 86) #[] #[]) [(ρ 4), (Value.string { data := #[93] })] w fun x29 w => sx z Tryd.prog 105 dispatcherref02_Parse_R6 K (up (up (up (up (up (up (up ρ 23 (ρ 4)) 24 x24) 25 (ρ 4)) 26 x26) 27 x27) 28 (ρ 4)) 29 x29) w) (sx z Tryd.prog 105 dispatcherref02_Parse_R6 K (up (up ρ 23 (ρ 4)) 24 x24) w)
theorem dispatcherref02_Parse_R3_eq (z : At) (K : Exit → Sl → World → Prop) (ρ : Sl) (w : World) : sx z Tryd.prog 105 dispatcherref02_Parse_R3 K ρ w = dispatcherref02_Parse_R3_F z K ρ w := by kernel_rfl
noncomputable def dispatcherref02_Parse_L4_F (z : At) (K : Exit → Sl → World → Prop) (ρ : Sl) (w : World) : Prop :=
  CK Tryd.prog (Value.func (Fn.func 87) #[] #[]) [(ρ 4)] w fun x39 w => MG Tryd.prog x39 true (ρ 4) w fun x41 w => NG Tryd.prog x39 true x41 w fun x42 w => VG Tryd.prog x39 true (Instr.fieldAt 113 x42 1) w fun x43 w => VG Tryd.prog x39 true (Instr.loadAt 3 x43) w fun x44 w => MG Tryd.prog x39 true (ρ 0) w fun x45 w => IG Tryd.prog x39 true Builtin.len #[92] 3 [false] [x45] w fun x46 w => BG Tryd.prog x39 true BinOp.lss 3 (Operand.tmp 44) (Operand.tmp 46) x44 x46 w fun x47 w => PK Tryd.prog x39 x47 (Value.bool false) w fun x48 w => CondK x48 (W z Tryd.prog 105 dispatcherref02_Parse_R7 (blkK 3 K) (up (up (up (up (up (up (up (up (up (up (up ρ 38 (ρ 4)) 39 x39) 40 x39) 41 x41) 42 x42) 43 x43) 44 x44) 45 x45) 46 x46) 47 x47) 48 x48) w) (K (Exit.exit 2) (up (up (up (up (up (up (up (up (up (up (up ρ 38 (ρ 4)) 39 x39) 40 x39) 41 x41) 42 x42) 43 x43) 44 x44) 45 x45) 46 x46) 47 x47) 48 x48) w)
theorem dispatcherref02_Parse_L4_eq (z : At) (K : Exit → Sl → World → Prop) (ρ : Sl) (w : World) : sx z Tryd.prog 105 dispatcherref02_Parse_L4 K ρ w = dispatcherref02_Parse_L4_F z K ρ w := by kernel_rfl
theorem dispatcherref02_Parse_L4_ok : dstOk 105 dispatcherref02_Parse_L4 = true := by kernel_rfl
noncomputable def dispatcherref02_Parse_R5_FR (R : Value → World → Prop) (ρ : Sl) (w : World) : Prop :=
  VK Tryd.prog (Instr.build 30 [(0, (Value.int IntKind.i64 20))].toArray) w fun x56_1 w => VK Tryd.prog (Instr.alloc 30 true (.tuple #[])) w fun x8_1 w => UK Tryd.prog (Instr.storeAt 30 x8_1 x56_1) w fun _ w => CK Tryd.prog (Value.func (Fn.func 87) #[] #[]) [(ρ 4)] w fun x59_1 w => VK Tryd.prog (Op.unary UnOp.not x59_1) w fun x60_1 w => MG Tryd.prog x60_1 true (ρ 4) w fun x62_1 w => NG Tryd.prog x60_1 true x62_1 w fun x63_1 w => VG Tryd.prog x60_1 true (Instr.fieldAt 113 x63_1 2) w fun x64_1 w => VG Tryd.prog x60_1 true (Instr.loadAt 3 x64_1) w fun x65_1 w => MG Tryd.prog x60_1 true (ρ 0) w fun x66_1 w => IG Tryd.prog x60_1 true Builtin.len #[92] 3 [false] [x66_1] w fun x67_1 w => BG Tryd.prog x60_1 true BinOp.lss 3 (Operand.tmp 65) (Operand.tmp 67) x65_1 x67_1 w fun x68_1 w => PK Tryd.prog x60_1 x68_1 (Value.bool false) w fun x69_1 w => CondK x69_1 (W fn_ Tryd.prog 105 dispatcherref02_Parse_R8 (seqK (sx fn_ Tryd.prog 105 dispatcherref02_Parse_R9 (blkK 4 (seqK (sx fn_ Tryd.prog 105 dispatcherref02_Parse_R10 (retK Tryd.prog [ResultVar.cell 2 25, ResultVar.cell 3 30] R)) (retK Tryd.prog [ResultVar.cell 2 25, ResultVar.cell 3 30] R)))) (blkK 4 (seqK (sx fn_ Tryd.prog 105 dispatcherref02_Parse_R10 (retK Tryd.prog [ResultVar.cell 2 25, ResultVar.cell 3 30] R)) (retK Tryd.prog [ResultVar.cell 2 25, ResultVar.cell 3 30] R)))) (up (up (up (up (up (up (up (up (up (up (up (up (up (up (up ρ 56 x56_1) 8 x8_1) 58 (ρ 4)) 59 x59_1) 60 x60_1) 61 x60_1) 62 x62_1) 63 x63_1) 64 x64_1) 65 x65_1) 66 x66_1) 67 x67_1) 68 x68_1) 69 x69_1) 57 x69_1) w) (CK Tryd.prog (Value.func (Fn.func 87) #[] #[]) [(ρ 4)] w fun x92_1 w => VK Tryd.prog (Op.unary UnOp.not x92_1) w fun x93_1 w => CondK x93_1 (W fn_ Tryd.prog 105 dispatcherref02_Parse_R11 (seqK (sx fn_ Tryd.prog 105 dispatcherref02_Parse_R12 (blkK 4 (seqK (sx fn_ Tryd.prog 105 dispatcherref02_Parse_R10 (retK Tryd.prog [ResultVar.cell 2 25, ResultVar.cell 3 30] R)) (retK Tryd.prog [ResultVar.cell 2 25, ResultVar.cell 3 30] R)))) (blkK 4 (seqK (sx fn_ Tryd.prog 105 dispatcherref02_Parse_R10 (retK Tryd.prog [ResultVar.cell 2 25, ResultVar.cell 3 30] R)) (retK Tryd.prog [ResultVar.cell 2 25, ResultVar.cell 3 30] R)))) (up (up (up (up (up (up (up (up (up (up (up (up (up (up (up (up (up (up (up ρ 56 x56_1) 8 x8_1) 58 (ρ 4)) 59 x59_1) 60 x60_1) 61 x60_1) 62 x62_1) 63 x63_1) 64 x64_1) 65 x65_1) 66 x66_1) 67 x67_1) 68 x68_1) 69 x69_1) 57 x69_1) 91 (ρ 4)) 92 x92_1) 93 x93_1) 90 x93_1) w) (VK Tryd.prog (Instr.loadAt 25 (ρ 5)) w fun x97_1 w => CK Tryd.prog (Value.func (Fn.func 57) #[] #[]) [x97_1] w fun x98_1 w => BK Tryd.prog BinOp.gtr 3 (Operand.tmp 98) (Operand.const (Value.int IntKind.i64 32)) x98_1 (Value.int IntKind.i64 32) w fun x99_1 w => CondK x99_1 (VK Tryd.prog (Instr.fieldAt 30 x8_1 0) w fun x100_1 w => UK Tryd.prog (Instr.storeAt 28 x100_1 (Value.int IntKind.i64 4)) w fun _ w => W fn_ Tryd.prog 105 dispatcherref02_Parse_R13 (seqK (sx fn_ Tryd.prog 105 dispatcherref02_Parse_R14 (blkK 4 (seqK (sx fn_ Tryd.prog 105 dispatcherref02_Parse_R10 (retK Tryd.prog [ResultVar.cell 2 25, ResultVar.cell 3 30] R)) (retK Tryd.prog [ResultVar.cell 2 25, ResultVar.cell 3 30] R)))) (blkK 4 (seqK (sx fn_ Tryd.prog 105 dispatcherref02_Parse_R10 (retK Tryd.prog [ResultVar.cell 2 25, ResultVar.cell 3 30] R)) (retK Tryd.prog [ResultVar.cell 2 25, ResultVar.cell 3 30] R)))) (up (up (up (up (up (up (up (up (up (up (up (up (up (up (up (up (up (up (up (up (up (up (up (up ρ 56 x56_1) 8 x8_1) 58 (ρ 4)) 59 x59_1) 60 x60_1) 61 x60_1) 62 x62_1) 63 x63_1) 64 x64_1) 65 x65_1) 66 x66_1) 67 x67_1) 68 x68_1) 69 x69_1) 57 x69_1) 91 (ρ 4)) 92 x92_1) 93 x93_1) 90 x93_1) 97 x97_1) 98 x98_1) 99 x99_1) 96 x99_1) 100 x100_1) w) (VK Tryd.prog (Instr.loadAt 25 (ρ 5)) w fun x103_1 w => VK Tryd.prog (Instr.build 30 [].toArray) w fun x104_1 w => UK Tryd.prog (Instr.storeAt 25 (ρ 2) x103_1) w fun _ w => UK Tryd.prog (Instr.storeAt 30 (ρ 3) x104_1) w fun _ w => ∃ x2_1, (do loadVar 25 (← asAddr (ρ 2)) : Sem Value).run Tryd.prog w = .ok x2_1 w ∧ ∃ x3_1, (do loadVar 30 (← asAddr (ρ 3)) : Sem Value).run Tryd.prog w = .ok x3_1 w ∧ R (Value.tuple #[x2_1, x3_1]) w)))
theorem dispatcherref02_Parse_R5_eqR (R : Value → World → Prop) (ρ : Sl) (w : World) : sx fn_ Tryd.prog 105 dispatcherref02_Parse_R5 (retK Tryd.prog [ResultVar.cell 2 25, ResultVar.cell 3 30] R) ρ w = dispatcherref02_Parse_R5_FR R ρ w := by kernel_rfl
noncomputable def dispatcherref02_Parse_R6_F (z : At) (K : Exit → Sl → World → Prop) (ρ : Sl) (w : World) : Prop :=
  CK Tryd.prog (Value.func (Fn.func 86) #[] #[]) [(ρ 4), (Value.string { data := #[59] })] w fun x31 w => VK Tryd.prog (Instr.fieldAt 25 (ρ 5) 0) w fun x32 w => VK Tryd.prog (Instr.loadAt 22 x32) w fun x33 w => VK Tryd.prog (Instr.loadAt 40 (ρ 7)) w fun x34 w => VK Tryd.prog (Instr.buildSlice 22 1 [(0, x34)].toArray) w fun x35 w => IK Tryd.prog Builtin.append #[22, 22] 22 [false, false] [x33, x35] w fun x36 w => VK Tryd.prog (Instr.fieldAt 25 (ρ 5) 0) w fun x37 w => UK Tryd.prog (Instr.storeAt 22 x37 x36) w fun _ w => K Exit.normal (up (up (up (up (up (up (up (up ρ 30 (ρ 4)) 31 x31) 32 x32) 33 x33) 34 x34) 35 x35) 36 x36) 37 x37) w
theorem dispatcherref02_Parse_R6_eq (z : At) (K : Exit → Sl → World → Prop) (ρ : Sl) (w : World) : sx z Tryd.prog 105 dispatcherref02_Parse_R6 K ρ w = dispatcherref02_Parse_R6_F z K ρ w := by kernel_rfl
noncomputable def dispatcherref02_Parse_R7_ops : Array Oper := opsOf dispatcherref02_Parse_R7
def dispatcherref02_Parse_R7_H (S : World → Prop) (K : Exit → Sl → World → Prop) (ρ : Sl) (w : World) : Prop :=
  HK Tryd.prog S (do pure (Next.value (← Instr.fieldAt 25 (ρ 5) 1))) fun x49 => (VK Tryd.prog (Instr.loadAt 23 x49) w fun x50 w => S w ∧ (CK Tryd.prog (Value.func (Fn.func 88) #[] #[]) [(ρ 4)] w fun x52 w => S w ∧ (VK Tryd.prog (Instr.buildSlice 23 1 [(0, x52)].toArray) w fun x53 w => S w ∧ (IK Tryd.prog Builtin.append #[23, 23] 23 [false, false] [x50, x53] w fun x54 w => S w ∧ (HK Tryd.prog S (do pure (Next.value (← Instr.fieldAt 25 (ρ 5) 1))) fun x55 => UK Tryd.prog (Instr.storeAt 23 x55 x54) w fun _ w => S w ∧ (K Exit.normal (up (up (up (up (up (up (up ρ 49 x49) 51 (ρ 4)) 50 x50) 52 x52) 53 x53) 54 x54) 55 x55) w)))))) ∧ (CK Tryd.prog (Value.func (Fn.func 88) #[] #[]) [(ρ 4)] w fun x52_1 w => S w ∧ ((VK Tryd.prog (Instr.loadAt 23 x49) w fun x50_1 w => S w ∧ (VK Tryd.prog (Instr.buildSlice 23 1 [(0, x52_1)].toArray) w fun x53_1 w => S w ∧ (IK Tryd.prog Builtin.append #[23, 23] 23 [false, false] [x50_1, x53_1] w fun x54_1 w => S w ∧ (HK Tryd.prog S (do pure (Next.value (← Instr.fieldAt 25 (ρ 5) 1))) fun x55_1 => UK Tryd.prog (Instr.storeAt 23 x55_1 x54_1) w fun _ w => S w ∧ (K Exit.normal (up (up (up (up (up (up (up ρ 49 x49) 51 (ρ 4)) 52 x52_1) 50 x50_1) 53 x53_1) 54 x54_1) 55 x55_1) w))))) ∧ (VK Tryd.prog (Instr.buildSlice 23 1 [(0, x52_1)].toArray) w fun x53_2 w => S w ∧ (VK Tryd.prog (Instr.loadAt 23 x49) w fun x50_2 w => S w ∧ (IK Tryd.prog Builtin.append #[23, 23] 23 [false, false] [x50_2, x53_2] w fun x54_2 w => S w ∧ (HK Tryd.prog S (do pure (Next.value (← Instr.fieldAt 25 (ρ 5) 1))) fun x55_2 => UK Tryd.prog (Instr.storeAt 23 x55_2 x54_2) w fun _ w => S w ∧ (K Exit.normal (up (up (up (up (up (up (up ρ 49 x49) 51 (ρ 4)) 52 x52_1) 53 x53_2) 50 x50_2) 54 x54_2) 55 x55_2) w)))))))
theorem dispatcherref02_Parse_R7_held {D : List Deferred} (S : World → Prop) {K : Exit → Sl → World → Prop} {ρ : Sl} {w : World} (hS : S { w with drawn := w.drawn + 1 }) (h : dispatcherref02_Parse_R7_H S K ρ { w with drawn := w.drawn + 1 }) : W ⟨none, D⟩ Tryd.prog 105 dispatcherref02_Parse_R7 K ρ w := by
  have e : dispatcherref02_Parse_R7 = .region (idOf dispatcherref02_Parse_R7) dispatcherref02_Parse_R7_ops true := by kernel_rfl
  have q : sxp Tryd.prog S dispatcherref02_Parse_R7_ops (K .normal) (Pl.take 0 (Pl.take 2 (Pl.two 1 3 (Pl.only 3 (Pl.only 4 (Pl.only 5 (Pl.take 6 (Pl.only 7 Pl.done))))) (Pl.two 1 4 (Pl.only 4 (Pl.only 5 (Pl.take 6 (Pl.only 7 Pl.done)))) (Pl.only 1 (Pl.only 5 (Pl.take 6 (Pl.only 7 Pl.done)))))))) ρ { w with drawn := w.drawn + 1 } = dispatcherref02_Parse_R7_H S K ρ { w with drawn := w.drawn + 1 } := by kernel_rfl
  rw [e]
  exact W_plan S (Pl.take 0 (Pl.take 2 (Pl.two 1 3 (Pl.only 3 (Pl.only 4 (Pl.only 5 (Pl.take 6 (Pl.only 7 Pl.done))))) (Pl.two 1 4 (Pl.only 4 (Pl.only 5 (Pl.take 6 (Pl.only 7 Pl.done)))) (Pl.only 1 (Pl.only 5 (Pl.take 6 (Pl.only 7 Pl.done)))))))) (by kernel_rfl) (by kernel_rfl) (by kernel_rfl) (by kernel_rfl) hS (Eq.mpr q h)
noncomputable def dispatcherref02_Parse_F (a0 : Value) (w : World) (R : Value → World → Prop) : Prop :=
  VK Tryd.prog (Instr.alloc 25 true (.tuple #[])) w fun x2 w => VK Tryd.prog (Instr.alloc 30 true (.tuple #[])) w fun x3 w => VK Tryd.prog (Instr.build 113 [(0, a0), (2, (Value.int IntKind.i64 (-1)))].toArray) w fun x10 w => VK Tryd.prog (Instr.box 113 x10) w fun x11 w => VK Tryd.prog (Instr.alloc 25 true (.tuple #[])) w fun x5 w => W fn_ Tryd.prog 105 (Code.loop dispatcherref02_Parse_L0) (blkK 0 (seqK (sx fn_ Tryd.prog 105 dispatcherref02_Parse_R1 (retK Tryd.prog [ResultVar.cell 2 25, ResultVar.cell 3 30] R)) (retK Tryd.prog [ResultVar.cell 2 25, ResultVar.cell 3 30] R))) (up (up (up (up (up (up (up (rho0 [a0]) 2 x2) 3 x3) 9 a0) 10 x10) 11 x11) 4 x11) 5 x5) w
theorem dispatcherref02_Parse_eq (a0 : Value) (w : World) (R : Value → World → Prop) : sx fn_ Tryd.prog 105 dispatcherref02_Parse_b (retK Tryd.prog Tryd.f65.results.toList R) (rho0 [a0]) w = dispatcherref02_Parse_F a0 w R := by kernel_rfl
theorem dispatcherref02_Parse_calls {a0 : Value} {w : World} {R : Value → World → Prop} (h : dispatcherref02_Parse_F a0 w R) : Calls Tryd.prog 65 #[a0] w fun e w' => ∃ v, e = .returned v ∧ R v w' :=
  Go.X.calls_of_sx (n := 105) (c := dispatcherref02_Parse_b) Tryd.func65 (by kernel_rfl) (by kernel_rfl) (Nat.le_of_ble_eq_true rfl) (by kernel_rfl) (Eq.mpr (dispatcherref02_Parse_eq a0 w R) h)
/-- dispatcher/dispatcherref01.end -/
noncomputable def dispatcherref01_end_b : Code := (Tryd.f80.body).getD .skip
noncomputable def dispatcherref01_end_R0 : Code := cAt [1, 1, 1] dispatcherref01_end_b
noncomputable def dispatcherref01_end_L1 : Code := cAt [1, 1, 0, 0, 1, 0, 0, 0] dispatcherref01_end_b
noncomputable def dispatcherref01_end_L2 : Code := cAt [1, 1, 0, 0, 1, 1, 1, 0, 0, 0] dispatcherref01_end_b
noncomputable def dispatcherref01_end_R0_F (z : At) (K : Exit → Sl → World → Prop) (ρ : Sl) (w : World) : Prop :=
  K Exit.ret (up (up ρ 69 (ρ 5)) 4 (ρ 5)) w
theorem dispatcherref01_end_R0_eq (z : At) (K : Exit → Sl → World → Prop) (ρ : Sl) (w : World) : sx z Tryd.prog 70 dispatcherref01_end_R0 K ρ w = dispatcherref01_end_R0_F z K ρ w := by kernel_rfl
noncomputable def dispatcherref01_end_L1_F (z : At) (K : Exit → Sl → World → Prop) (ρ : Sl) (w : World) : Prop :=
  IK Tryd.prog Builtin.len #[95] 3 [false] [(ρ 0)] w fun x16 w => BK Tryd.prog BinOp.lss 3 (Operand.tmp 14) (Operand.tmp 16) (ρ 5) x16 w fun x17 w => MG Tryd.prog x17 true (ρ 0) w fun x19 w => MG Tryd.prog x17 true (ρ 5) w fun x20 w => VG Tryd.prog x17 true (Instr.indexAt 95 x19 x20) w fun x21 w => VG Tryd.prog x17 true (Instr.loadAt 5 x21) w fun x22 w => CG Tryd.prog x17 true (Value.func (Fn.func 43) #[] #[]) [x22] w fun x23 w => MG Tryd.prog x17 true x23 w fun x24 w => MG Tryd.prog x24 false (ρ 0) w fun x25 w => MG Tryd.prog x24 false (ρ 5) w fun x26 w => VG Tryd.prog x24 false (Instr.indexAt 95 x25 x26) w fun x27 w => VG Tryd.prog x24 false (Instr.loadAt 5 x27) w fun x28 w => CG Tryd.prog x24 false (Value.func (Fn.func 45) #[] #[]) [x28] w fun x29 w => PG Tryd.prog x17 true x24 (Value.bool true) x29 w fun x30 w => PK Tryd.prog x17 x30 (Value.bool false) w fun x31 w => CondK x31 (BK Tryd.prog BinOp.add 3 (Operand.tmp 32) (Operand.const (Value.int IntKind.i64 1)) (ρ 5) (Value.int IntKind.i64 1) w fun x33 w => K Exit.normal (up (up (up (up (up (up (up (up (up (up (up (up (up (up (up (up (up (up (up (up (up ρ 14 (ρ 5)) 15 (ρ 0)) 16 x16) 17 x17) 18 x17) 19 x19) 20 x20) 21 x21) 22 x22) 23 x23) 24 x24) 25 x25) 26 x26) 27 x27) 28 x28) 29 x29) 30 x30) 31 x31) 32 (ρ 5)) 33 x33) 5 x33) w) (K (Exit.exit 1) (up (up (up (up (up (up (up (up (up (up (up (up (up (up (up (up (up (up ρ 14 (ρ 5)) 15 (ρ 0)) 16 x16) 17 x17) 18 x17) 19 x19) 20 x20) 21 x21) 22 x22) 23 x23) 24 x24) 25 x25) 26 x26) 27 x27) 28 x28) 29 x29) 30 x30) 31 x31) w)
theorem dispatcherref01_end_L1_eq (z : At) (K : Exit → Sl → World → Prop) (ρ : Sl) (w : World) : sx z Tryd.prog 70 dispatcherref01_end_L1 K ρ w = dispatcherref01_end_L1_F z K ρ w := by kernel_rfl
theorem dispatcherref01_end_L1_ok : dstOk 70 dispatcherref01_end_L1 = true := by kernel_rfl
noncomputable def dispatcherref01_end_L2_F (z : At) (K : Exit → Sl → World → Prop) (ρ : Sl) (w : World) : Prop :=
  IK Tryd.prog Builtin.len #[95] 3 [false] [(ρ 0)] w fun x42 w => BK Tryd.prog BinOp.lss 3 (Operand.tmp 40) (Operand.tmp 42) (ρ 5) x42 w fun x43 w => MG Tryd.prog x43 true (ρ 0) w fun x45 w => MG Tryd.prog x43 true (ρ 5) w fun x46 w => VG Tryd.prog x43 true (Instr.indexAt 95 x45 x46) w fun x47 w => VG Tryd.prog x43 true (Instr.loadAt 5 x47) w fun x48 w => CG Tryd.prog x43 true (Value.func (Fn.func 45) #[] #[]) [x48] w fun x49 w => PK Tryd.prog x43 x49 (Value.bool false) w fun x50 w => CondK x50 (BK Tryd.prog BinOp.add 3 (Operand.tmp 51) (Operand.const (Value.int IntKind.i64 1)) (ρ 5) (Value.int IntKind.i64 1) w fun x52 w => K Exit.normal (up (up (up (up (up (up (up (up (up (up (up (up (up (up ρ 40 (ρ 5)) 41 (ρ 0)) 42 x42) 43 x43) 44 x43) 45 x45) 46 x46) 47 x47) 48 x48) 49 x49) 50 x50) 51 (ρ 5)) 52 x52) 5 x52) w) (K (Exit.exit 3) (up (up (up (up (up (up (up (up (up (up (up ρ 40 (ρ 5)) 41 (ρ 0)) 42 x42) 43 x43) 44 x43) 45 x45) 46 x46) 47 x47) 48 x48) 49 x49) 50 x50) w)
theorem dispatcherref01_end_L2_eq (z : At) (K : Exit → Sl → World → Prop) (ρ : Sl) (w : World) : sx z Tryd.prog 70 dispatcherref01_end_L2 K ρ w = dispatcherref01_end_L2_F z K ρ w := by kernel_rfl
theorem dispatcherref01_end_L2_ok : dstOk 70 dispatcherref01_end_L2 = true := by kernel_rfl
noncomputable def dispatcherref01_end_F (a0 a1 : Value) (w : World) (R : Value → World → Prop) : Prop :=
  BK Tryd.prog BinOp.add 3 (Operand.tmp 6) (Operand.const (Value.int IntKind.i64 1)) a1 (Value.int IntKind.i64 1) w fun x7 w => VK Tryd.prog (Instr.indexAt 95 a0 a1) w fun x11 w => VK Tryd.prog (Instr.loadAt 5 x11) w fun x12 w => CK Tryd.prog (Value.func (Fn.func 43) #[] #[]) [x12] w fun x13 w => CondK x13 (W fn_ Tryd.prog 70 (Code.loop dispatcherref01_end_L1) (blkK 1 (blkK 0 (seqK (sx fn_ Tryd.prog 70 dispatcherref01_end_R0 (retK Tryd.prog [ResultVar.tmp 4] R)) (retK Tryd.prog [ResultVar.tmp 4] R)))) (up (up (up (up (up (up (up (up (up (up (rho0 [a0, a1]) 4 (Value.int IntKind.i64 0)) 6 a1) 7 x7) 5 x7) 9 a0) 10 a1) 11 x11) 12 x12) 13 x13) 8 x13) w) (VK Tryd.prog (Instr.indexAt 95 a0 a1) w fun x37 w => VK Tryd.prog (Instr.loadAt 5 x37) w fun x38 w => CK Tryd.prog (Value.func (Fn.func 45) #[] #[]) [x38] w fun x39 w => CondK x39 (W fn_ Tryd.prog 70 (Code.loop dispatcherref01_end_L2) (blkK 3 (blkK 0 (seqK (sx fn_ Tryd.prog 70 dispatcherref01_end_R0 (retK Tryd.prog [ResultVar.tmp 4] R)) (retK Tryd.prog [ResultVar.tmp 4] R)))) (up (up (up (up (up (up (up (up (up (up (up (up (up (up (up (up (rho0 [a0, a1]) 4 (Value.int IntKind.i64 0)) 6 a1) 7 x7) 5 x7) 9 a0) 10 a1) 11 x11) 12 x12) 13 x13) 8 x13) 35 a0) 36 a1) 37 x37) 38 x38) 39 x39) 34 x39) w) (IK Tryd.prog Builtin.len #[95] 3 [false] [a0] w fun x56 w => BK Tryd.prog BinOp.lss 3 (Operand.tmp 54) (Operand.tmp 56) x7 x56 w fun x57 w => MG Tryd.prog x57 true a0 w fun x59 w => MG Tryd.prog x57 true a1 w fun x60 w => MG Tryd.prog x57 true x7 w fun x61 w => BG Tryd.prog x57 true BinOp.add 3 (Operand.tmp 61) (Operand.const (Value.int IntKind.i64 1)) x61 (Value.int IntKind.i64 1) w fun x62 w => VG Tryd.prog x57 true (Instr.sliceAt 95 x59 (some x60) (some x62) none) w fun x63 w => VG Tryd.prog x57 true (convert 95 9 x63) w fun x64 w => CG Tryd.prog x57 true (Value.func (Fn.func 102) #[] #[]) [x64] w fun x65 w => PK Tryd.prog x57 x65 (Value.bool false) w fun x66 w => CondK x66 (BK Tryd.prog BinOp.add 3 (Operand.tmp 67) (Operand.const (Value.int IntKind.i64 1)) x7 (Value.int IntKind.i64 1) w fun x68 w => sx fn_ Tryd.prog 70 dispatcherref01_end_R0 (retK Tryd.prog [ResultVar.tmp 4] R) (up (up (up (up (up (up (up (up (up (up (up (up (up (up (up (up (up (up (up (up (up (up (up (up (up (up (up (up (up (up (up (up (up (rho0 [a0, a1]) 4 (Value.int IntKind.i64 0)) 6 a1) 7 x7) 5 x7) 9 a0) 10 a1) 11 x11) 12 x12) 13 x13) 8 x13) 35 a0) 36 a1) 37 x37) 38 x38) 39 x39) 34 x39) 54 x7) 55 a0) 56 x56) 57 x57) 58 x57) 59 x59) 60 x60) 61 x61) 62 x62) 63 x63) 64 x64) 65 x65) 66 x66) 53 x66) 67 x7) 68 x68) 5 x68) w) (sx fn_ Tryd.prog 70 dispatcherref01_end_R0 (retK Tryd.prog [ResultVar.tmp 4] R) (up (up (up (up (up (up (up (up (up (up (up (up (up (up (up (up (up (up (up (up (up (up (up (up (up (up (up (up (up (up (rho0 [a0, a1]) 4 (Value.int IntKind.i64 0)) 6 a1) 7 x7) 5 x7) 9 a0) 10 a1) 11 x11) 12 x12) 13 x13) 8 x13) 35 a0) 36 a1) 37 x37) 38 x38) 39 x39) 34 x39) 54 x7) 55 a0) 56 x56) 57 x57) 58 x57) 59 x59) 60 x60) 61 x61) 62 x62) 63 x63) 64 x64) 65 x65) 66 x66) 53 x66) w)))
theorem dispatcherref01_end_eq (a0 a1 : Value) (w : World) (R : Value → World → Prop) : sx fn_ Tryd.prog 70 dispatcherref01_end_b (retK Tryd.prog Tryd.f80.results.toList R) (rho0 [a0, a1]) w = dispatcherref01_end_F a0 a1 w R := by kernel_rfl
theorem dispatcherref01_end_calls {a0 a1 : Value} {w : World} {R : Value → World → Prop} (h : dispatcherref01_end_F a0 a1 w R) : Calls Tryd.prog 80 #[a0, a1] w fun e w' => ∃ v, e = .returned v ∧ R v w' :=
  Go.X.calls_of_sx (n := 70) (c := dispatcherref01_end_b) Tryd.func80 (by kernel_rfl) (by kernel_rfl) (Nat.le_of_ble_eq_true rfl) (by kernel_rfl) (Eq.mpr (dispatcherref01_end_eq a0 a1 w R) h)
/-- dispatcher/dispatcherref01.Of -/
noncomputable def dispatcherref01_Of_b : Code := (Tryd.f81.body).getD .skip
noncomputable def dispatcherref01_Of_R0 : Code := cAt [1, 1, 1, 1] dispatcherref01_Of_b
noncomputable def dispatcherref01_Of_R0_F (z : At) (K : Exit → Sl → World → Prop) (ρ : Sl) (w : World) : Prop :=
  VK Tryd.prog (Instr.loadAt 109 (ρ 3)) w fun x30 w => UK Tryd.prog (Instr.storeAt 109 (ρ 2) x30) w fun _ w => K Exit.ret (up ρ 30 x30) w
theorem dispatcherref01_Of_R0_eq (z : At) (K : Exit → Sl → World → Prop) (ρ : Sl) (w : World) : sx z Tryd.prog 31 dispatcherref01_Of_R0 K ρ w = dispatcherref01_Of_R0_F z K ρ w := by kernel_rfl
noncomputable def dispatcherref01_Of_F (a0 : Value) (w : World) (R : Value → World → Prop) : Prop :=
  VK Tryd.prog (Instr.alloc 109 true (.tuple #[])) w fun x2 w => VK Tryd.prog (Instr.build 109 [(1, a0)].toArray) w fun x7 w => VK Tryd.prog (Instr.alloc 109 true (.tuple #[])) w fun x3 w => UK Tryd.prog (Instr.storeAt 109 x3 x7) w fun _ w => CK Tryd.prog (Value.func (Fn.func 103) #[] #[]) [a0] w fun x10 w => VK Tryd.prog (Instr.extract x10 0) w fun x11 w => VK Tryd.prog (Instr.extract x10 1) w fun x12 w => CK Tryd.prog (Value.func (Fn.func 44) #[] #[]) [a0] w fun x15 w => CondK x15 (VK Tryd.prog (Instr.fieldAt 109 x3 0) w fun x16 w => UK Tryd.prog (Instr.storeAt 5 x16 (Value.int IntKind.u8 3)) w fun _ w => sx fn_ Tryd.prog 31 dispatcherref01_Of_R0 (retK Tryd.prog [ResultVar.cell 2 109] R) (up (up (up (up (up (up (up (up (up (up (up (up (up (up (up (rho0 [a0]) 2 x2) 6 a0) 7 x7) 3 x3) 9 a0) 10 x10) 8 x10) 11 x11) 12 x12) 4 x11) 5 x12) 14 a0) 15 x15) 13 x15) 16 x16) w) (CK Tryd.prog (Value.func (Fn.func 20) #[] #[]) [a0] w fun x19 w => CondK x19 (VK Tryd.prog (Instr.fieldAt 109 x3 0) w fun x20 w => UK Tryd.prog (Instr.storeAt 5 x20 (Value.int IntKind.u8 1)) w fun _ w => sx fn_ Tryd.prog 31 dispatcherref01_Of_R0 (retK Tryd.prog [ResultVar.cell 2 109] R) (up (up (up (up (up (up (up (up (up (up (up (up (up (up (up (up (up (up (rho0 [a0]) 2 x2) 6 a0) 7 x7) 3 x3) 9 a0) 10 x10) 8 x10) 11 x11) 12 x12) 4 x11) 5 x12) 14 a0) 15 x15) 13 x15) 18 a0) 19 x19) 17 x19) 20 x20) w) (CondK x12 (VK Tryd.prog (Instr.fieldAt 109 x3 0) w fun x23 w => UK Tryd.prog (Instr.storeAt 5 x23 (Value.int IntKind.u8 2)) w fun _ w => VK Tryd.prog (Instr.fieldAt 109 x3 2) w fun x25 w => UK Tryd.prog (Instr.storeAt 2 x25 x11) w fun _ w => sx fn_ Tryd.prog 31 dispatcherref01_Of_R0 (retK Tryd.prog [ResultVar.cell 2 109] R) (up (up (up (up (up (up (up (up (up (up (up (up (up (up (up (up (up (up (up (up (up (up (rho0 [a0]) 2 x2) 6 a0) 7 x7) 3 x3) 9 a0) 10 x10) 8 x10) 11 x11) 12 x12) 4 x11) 5 x12) 14 a0) 15 x15) 13 x15) 18 a0) 19 x19) 17 x19) 22 x12) 21 x12) 23 x23) 24 x11) 25 x25) w) (CK Tryd.prog (Value.func (Fn.func 102) #[] #[]) [a0] w fun x28 w => CondK x28 (VK Tryd.prog (Instr.fieldAt 109 x3 0) w fun x29 w => UK Tryd.prog (Instr.storeAt 5 x29 (Value.int IntKind.u8 4)) w fun _ w => sx fn_ Tryd.prog 31 dispatcherref01_Of_R0 (retK Tryd.prog [ResultVar.cell 2 109] R) (up (up (up (up (up (up (up (up (up (up (up (up (up (up (up (up (up (up (up (up (up (up (up (rho0 [a0]) 2 x2) 6 a0) 7 x7) 3 x3) 9 a0) 10 x10) 8 x10) 11 x11) 12 x12) 4 x11) 5 x12) 14 a0) 15 x15) 13 x15) 18 a0) 19 x19) 17 x19) 22 x12) 21 x12) 27 a0) 28 x28) 26 x28) 29 x29) w) (sx fn_ Tryd.prog 31 dispatcherref01_Of_R0 (retK Tryd.prog [ResultVar.cell 2 109] R) (up (up (up (up (up (up (up (up (up (up (up (up (up (up (up (up (up (up (up (up (up (up (rho0 [a0]) 2 x2) 6 a0) 7 x7) 3 x3) 9 a0) 10 x10) 8 x10) 11 x11) 12 x12) 4 x11) 5 x12) 14 a0) 15 x15) 13 x15) 18 a0) 19 x19) 17 x19) 22 x12) 21 x12) 27 a0) 28 x28) 26 x28) w))))
theorem dispatcherref01_Of_eq (a0 : Value) (w : World) (R : Value → World → Prop) : sx fn_ Tryd.prog 31 dispatcherref01_Of_b (retK Tryd.prog Tryd.f81.results.toList R) (rho0 [a0]) w = dispatcherref01_Of_F a0 w R := by kernel_rfl
theorem dispatcherref01_Of_calls {a0 : Value} {w : World} {R : Value → World → Prop} (h : dispatcherref01_Of_F a0 w R) : Calls Tryd.prog 81 #[a0] w fun e w' => ∃ v, e = .returned v ∧ R v w' :=
  Go.X.calls_of_sx (n := 31) (c := dispatcherref01_Of_b) Tryd.func81 (by kernel_rfl) (by kernel_rfl) (Nat.le_of_ble_eq_true rfl) (by kernel_rfl) (Eq.mpr (dispatcherref01_Of_eq a0 w R) h)
/-- (*dispatcher/dispatcherref02.cursor).may -/
noncomputable def dispatcherref02_cursor_may_b : Code := (Tryd.f82.body).getD .skip
noncomputable def dispatcherref02_cursor_may_F (a0 a1 : Value) (w : World) (R : Value → World → Prop) : Prop :=
  CK Tryd.prog (Value.func (Fn.func 83) #[] #[]) [a0] w fun x7 w => VK Tryd.prog (Instr.alloc 109 true (.tuple #[])) w fun x5 w => UK Tryd.prog (Instr.storeAt 109 x5 x7) w fun _ w => VK Tryd.prog (Instr.fieldAt 109 x5 0) w fun x8 w => VK Tryd.prog (Instr.loadAt 5 x8) w fun x9 w => BK Tryd.prog BinOp.eql 5 (Operand.tmp 9) (Operand.const (Value.int IntKind.u8 0)) x9 (Value.int IntKind.u8 0) w fun x10 w => VG Tryd.prog x10 false (Instr.fieldAt 109 x5 1) w fun x12 w => VG Tryd.prog x10 false (Instr.loadAt 9 x12) w fun x13 w => MG Tryd.prog x10 false a1 w fun x14 w => BG Tryd.prog x10 false BinOp.neq 9 (Operand.tmp 13) (Operand.tmp 14) x13 x14 w fun x15 w => PK Tryd.prog x10 (Value.bool true) x15 w fun x16 w => CondK x16 (R (Value.bool false) w) (NK Tryd.prog a0 w fun x18 w => VK Tryd.prog (Instr.fieldAt 113 x18 1) w fun x19 w => VK Tryd.prog (Instr.loadAt 3 x19) w fun x20 w => BK Tryd.prog BinOp.add 3 (Operand.tmp 20) (Operand.const (Value.int IntKind.i64 1)) x20 (Value.int IntKind.i64 1) w fun x21 w => NK Tryd.prog a0 w fun x22 w => VK Tryd.prog (Instr.fieldAt 113 x22 1) w fun x23 w => UK Tryd.prog (Instr.storeAt 3 x23 x21) w fun _ w => R (Value.bool true) w)
theorem dispatcherref02_cursor_may_eq (a0 a1 : Value) (w : World) (R : Value → World → Prop) : sx fn_ Tryd.prog 24 dispatcherref02_cursor_may_b (retK Tryd.prog Tryd.f82.results.toList R) (rho0 [a0, a1]) w = dispatcherref02_cursor_may_F a0 a1 w R := by kernel_rfl
theorem dispatcherref02_cursor_may_calls {a0 a1 : Value} {w : World} {R : Value → World → Prop} (h : dispatcherref02_cursor_may_F a0 a1 w R) : Calls Tryd.prog 82 #[a0, a1] w fun e w' => ∃ v, e = .returned v ∧ R v w' :=
  Go.X.calls_of_sx (n := 24) (c := dispatcherref02_cursor_may_b) Tryd.func82 (by kernel_rfl) (by kernel_rfl) (Nat.le_of_ble_eq_true rfl) (by kernel_rfl) (Eq.mpr (dispatcherref02_cursor_may_eq a0 a1 w R) h)
/-- (*dispatcher/dispatcherref02.cursor).next -/
noncomputable def dispatcherref02_cursor_next_b : Code := (Tryd.f83.body).getD .skip
noncomputable def dispatcherref02_cursor_next_R0 : Code := cAt [1, 1, 0, 0] dispatcherref02_cursor_next_b
noncomputable def dispatcherref02_cursor_next_R1 : Code := cAt [1, 1, 0, 1] dispatcherref02_cursor_next_b
noncomputable def dispatcherref02_cursor_next_R2 : Code := cAt [1, 1, 1] dispatcherref02_cursor_next_b
noncomputable def dispatcherref02_cursor_next_R3 : Code := cAt [1, 1, 1, 0] dispatcherref02_cursor_next_b
noncomputable def dispatcherref02_cursor_next_R4 : Code := cAt [1, 1, 1, 1] dispatcherref02_cursor_next_b
noncomputable def dispatcherref02_cursor_next_R0_ops : Array Oper := opsOf dispatcherref02_cursor_next_R0
def dispatcherref02_cursor_next_R0_Q (C : World → Prop) (K : Exit → Sl → World → Prop) (ρ : Sl) : Prop :=
  QK Tryd.prog C (do let d ← Deferred.ofValue (Value.func (Fn.func 87) #[] #[]) [(ρ 0)].toArray; invoke d.target d.args) fun x8 => QK Tryd.prog C (do pure (Next.value (← Op.unary UnOp.not x8))) fun x9 => QG Tryd.prog C x9 false  (pure (Next.value (ρ 0))) fun x11 => QG Tryd.prog C x9 false  (nilCk x11) fun x12 => QG Tryd.prog C x9 false  (do pure (Next.value (← Instr.fieldAt 113 x12 1))) fun x13 => QG Tryd.prog C x9 false  (do pure (Next.value (← Instr.loadAt 3 x13))) fun x14 => QG Tryd.prog C x9 false  (pure (Next.value (ρ 0))) fun x15 => QG Tryd.prog C x9 false  (nilCk x15) fun x16 => QG Tryd.prog C x9 false  (do pure (Next.value (← Instr.fieldAt 113 x16 0))) fun x17 => QG Tryd.prog C x9 false  (do pure (Next.value (← Instr.loadAt 92 x17))) fun x18 => QG Tryd.prog C x9 false  (builtin Builtin.len #[92] 3 [false].toArray [x18].toArray) fun x19 => QG Tryd.prog C x9 false  (do pure (Next.value (← (do eqGuard BinOp.geq 3 (Operand.tmp 14) (Operand.tmp 19) x14 x19; binOp BinOp.geq 3 x14 x19)))) fun x20 => QK Tryd.prog C (do pure (Next.value (if ← asBool x9 then (Value.bool true) else x20))) fun x21 => ∀ w', C w' → K Exit.normal (up (up (up (up (up (up (up (up (up (up (up (up (up (up (up ρ 7 (ρ 0)) 8 x8) 9 x9) 10 x9) 11 x11) 12 x12) 13 x13) 14 x14) 15 x15) 16 x16) 17 x17) 18 x18) 19 x19) 20 x20) 21 x21) w'
theorem dispatcherref02_cursor_next_R0_quiet {D : List Deferred} (C : World → Prop) {K : Exit → Sl → World → Prop} {ρ : Sl} {w : World} (hC : C { w with drawn := w.drawn + 1 }) (h : dispatcherref02_cursor_next_R0_Q C K ρ) : W ⟨none, D⟩ Tryd.prog 50 dispatcherref02_cursor_next_R0 K ρ w := by
  have e : dispatcherref02_cursor_next_R0 = .region (idOf dispatcherref02_cursor_next_R0) dispatcherref02_cursor_next_R0_ops true := by kernel_rfl
  have q : sxq Tryd.prog C dispatcherref02_cursor_next_R0_ops (fun ρ' => ∀ w', C w' → K .normal ρ' w') dispatcherref02_cursor_next_R0_ops.toList ρ = dispatcherref02_cursor_next_R0_Q C K ρ := by kernel_rfl
  rw [e]
  exact W_quiet C (by kernel_rfl) (by kernel_rfl) (by kernel_rfl) hC (Eq.mpr q h)
noncomputable def dispatcherref02_cursor_next_R1_F (z : At) (K : Exit → Sl → World → Prop) (ρ : Sl) (w : World) : Prop :=
  CondK (ρ 21) (VK Tryd.prog (Instr.loadAt 109 (ρ 3)) w fun x22 w => UK Tryd.prog (Instr.storeAt 109 (ρ 2) x22) w fun _ w => K Exit.ret (up ρ 22 x22) w) (K Exit.normal ρ w)
theorem dispatcherref02_cursor_next_R1_eq (z : At) (K : Exit → Sl → World → Prop) (ρ : Sl) (w : World) : sx z Tryd.prog 50 dispatcherref02_cursor_next_R1 K ρ w = dispatcherref02_cursor_next_R1_F z K ρ w := by kernel_rfl
noncomputable def dispatcherref02_cursor_next_R2_F (z : At) (K : Exit → Sl → World → Prop) (ρ : Sl) (w : World) : Prop :=
  W z Tryd.prog 50 dispatcherref02_cursor_next_R3 (seqK (sx z Tryd.prog 50 dispatcherref02_cursor_next_R4 K) K) ρ w
theorem dispatcherref02_cursor_next_R2_eq (z : At) (K : Exit → Sl → World → Prop) (ρ : Sl) (w : World) : sx z Tryd.prog 50 dispatcherref02_cursor_next_R2 K ρ w = dispatcherref02_cursor_next_R2_F z K ρ w := by kernel_rfl
noncomputable def dispatcherref02_cursor_next_R3_ops : Array Oper := opsOf dispatcherref02_cursor_next_R3
def dispatcherref02_cursor_next_R3_H (S : World → Prop) (K : Exit → Sl → World → Prop) (ρ : Sl) (w : World) : Prop :=
  HK Tryd.prog S (nilCk (ρ 0)) fun x24 => HK Tryd.prog S (do pure (Next.value (← Instr.fieldAt 113 x24 0))) fun x25 => HK Tryd.prog S (do pure (Next.value (← Instr.loadAt 92 x25))) fun x26 => HK Tryd.prog S (nilCk (ρ 0)) fun x28 => HK Tryd.prog S (do pure (Next.value (← Instr.fieldAt 113 x28 1))) fun x29 => HK Tryd.prog S (do pure (Next.value (← Instr.loadAt 3 x29))) fun x30 => HK Tryd.prog S (do pure (Next.value (← Instr.indexAt 92 x26 x30))) fun x31 => HK Tryd.prog S (do pure (Next.value (← Instr.loadAt 109 x31))) fun x32 => VK Tryd.prog (Instr.alloc 109 true (.tuple #[])) w fun x4 w => S w ∧ (UK Tryd.prog (Instr.storeAt 109 x4 x32) w fun _ w => S w ∧ (K Exit.normal (up (up (up (up (up (up (up (up (up (up (up ρ 23 (ρ 0)) 24 x24) 25 x25) 26 x26) 27 (ρ 0)) 28 x28) 29 x29) 30 x30) 31 x31) 32 x32) 4 x4) w))
theorem dispatcherref02_cursor_next_R3_held {D : List Deferred} (S : World → Prop) {K : Exit → Sl → World → Prop} {ρ : Sl} {w : World} (hS : S { w with drawn := w.drawn + 1 }) (h : dispatcherref02_cursor_next_R3_H S K ρ { w with drawn := w.drawn + 1 }) : W ⟨none, D⟩ Tryd.prog 50 dispatcherref02_cursor_next_R3 K ρ w := by
  have e : dispatcherref02_cursor_next_R3 = .region (idOf dispatcherref02_cursor_next_R3) dispatcherref02_cursor_next_R3_ops true := by kernel_rfl
  have q : sxh Tryd.prog S dispatcherref02_cursor_next_R3_ops (K .normal) [(0, true), (1, true), (2, true), (3, true), (4, true), (5, true), (6, true), (7, true), (8, true), (9, true), (10, false), (11, false)] ρ { w with drawn := w.drawn + 1 } = dispatcherref02_cursor_next_R3_H S K ρ { w with drawn := w.drawn + 1 } := by kernel_rfl
  rw [e]
  exact W_held S [(0, true), (1, true), (2, true), (3, true), (4, true), (5, true), (6, true), (7, true), (8, true), (9, true), (10, false), (11, false)] (by kernel_rfl) (by kernel_rfl) (by kernel_rfl) (by kernel_rfl) hS (Eq.mpr q h)
noncomputable def dispatcherref02_cursor_next_R4_F (z : At) (K : Exit → Sl → World → Prop) (ρ : Sl) (w : World) : Prop :=
  VK Tryd.prog (Instr.fieldAt 109 (ρ 4) 1) w fun x33 w => VK Tryd.prog (Instr.loadAt 9 x33) w fun x34 w => CK Tryd.prog (Value.func (Fn.func 81) #[] #[]) [x34] w fun x35 w => VK Tryd.prog (Instr.alloc 109 true (.tuple #[])) w fun x5 w => UK Tryd.prog (Instr.storeAt 109 x5 x35) w fun _ w => VK Tryd.prog (Instr.fieldAt 109 x5 0) w fun x36 w => VK Tryd.prog (Instr.loadAt 5 x36) w fun x37 w => VK Tryd.prog (Instr.fieldAt 109 (ρ 4) 0) w fun x38 w => VK Tryd.prog (Instr.loadAt 5 x38) w fun x39 w => BK Tryd.prog BinOp.neq 5 (Operand.tmp 37) (Operand.tmp 39) x37 x39 w fun x40 w => VG Tryd.prog x40 false (Instr.fieldAt 109 x5 2) w fun x42 w => VG Tryd.prog x40 false (Instr.loadAt 2 x42) w fun x43 w => VG Tryd.prog x40 false (Instr.fieldAt 109 (ρ 4) 2) w fun x44 w => VG Tryd.prog x40 false (Instr.loadAt 2 x44) w fun x45 w => BG Tryd.prog x40 false BinOp.neq 2 (Operand.tmp 43) (Operand.tmp 45) x43 x45 w fun x46 w => PK Tryd.prog x40 (Value.bool true) x46 w fun x47 w => CondK x47 (VK Tryd.prog (Instr.loadAt 109 (ρ 3)) w fun x48 w => UK Tryd.prog (Instr.storeAt 109 (ρ 2) x48) w fun _ w => K Exit.ret (up (up (up (up (up (up (up (up (up (up (up (up (up (up (up (up (up ρ 33 x33) 34 x34) 35 x35) 5 x5) 36 x36) 37 x37) 38 x38) 39 x39) 40 x40) 41 x40) 42 x42) 43 x43) 44 x44) 45 x45) 46 x46) 47 x47) 48 x48) w) (VK Tryd.prog (Instr.loadAt 109 (ρ 4)) w fun x49 w => UK Tryd.prog (Instr.storeAt 109 (ρ 2) x49) w fun _ w => K Exit.ret (up (up (up (up (up (up (up (up (up (up (up (up (up (up (up (up (up ρ 33 x33) 34 x34) 35 x35) 5 x5) 36 x36) 37 x37) 38 x38) 39 x39) 40 x40) 41 x40) 42 x42) 43 x43) 44 x44) 45 x45) 46 x46) 47 x47) 49 x49) w)
theorem dispatcherref02_cursor_next_R4_eq (z : At) (K : Exit → Sl → World → Prop) (ρ : Sl) (w : World) : sx z Tryd.prog 50 dispatcherref02_cursor_next_R4 K ρ w = dispatcherref02_cursor_next_R4_F z K ρ w := by kernel_rfl
noncomputable def dispatcherref02_cursor_next_F (a0 : Value) (w : World) (R : Value → World → Prop) : Prop :=
  VK Tryd.prog (Instr.alloc 109 true (.tuple #[])) w fun x2 w => VK Tryd.prog (Instr.build 109 [].toArray) w fun x6 w => VK Tryd.prog (Instr.alloc 109 true (.tuple #[])) w fun x3 w => UK Tryd.prog (Instr.storeAt 109 x3 x6) w fun _ w => W fn_ Tryd.prog 50 dispatcherref02_cursor_next_R0 (seqK (sx fn_ Tryd.prog 50 dispatcherref02_cursor_next_R1 (seqK (sx fn_ Tryd.prog 50 dispatcherref02_cursor_next_R2 (retK Tryd.prog [ResultVar.cell 2 109] R)) (retK Tryd.prog [ResultVar.cell 2 109] R))) (seqK (sx fn_ Tryd.prog 50 dispatcherref02_cursor_next_R2 (retK Tryd.prog [ResultVar.cell 2 109] R)) (retK Tryd.prog [ResultVar.cell 2 109] R))) (up (up (up (rho0 [a0]) 2 x2) 6 x6) 3 x3) w
theorem dispatcherref02_cursor_next_eq (a0 : Value) (w : World) (R : Value → World → Prop) : sx fn_ Tryd.prog 50 dispatcherref02_cursor_next_b (retK Tryd.prog Tryd.f83.results.toList R) (rho0 [a0]) w = dispatcherref02_cursor_next_F a0 w R := by kernel_rfl
theorem dispatcherref02_cursor_next_calls {a0 : Value} {w : World} {R : Value → World → Prop} (h : dispatcherref02_cursor_next_F a0 w R) : Calls Tryd.prog 83 #[a0] w fun e w' => ∃ v, e = .returned v ∧ R v w' :=
  Go.X.calls_of_sx (n := 50) (c := dispatcherref02_cursor_next_b) Tryd.func83 (by kernel_rfl) (by kernel_rfl) (Nat.le_of_ble_eq_true rfl) (by kernel_rfl) (Eq.mpr (dispatcherref02_cursor_next_eq a0 w R) h)
/-- (*dispatcher/dispatcherref02.cursor).name -/
noncomputable def dispatcherref02_cursor_name_b : Code := (Tryd.f84.body).getD .skip
noncomputable def dispatcherref02_cursor_name_F (a0 : Value) (w : World) (R : Value → World → Prop) : Prop :=
  CK Tryd.prog (Value.func (Fn.func 83) #[] #[]) [a0] w fun x5 w => VK Tryd.prog (Instr.alloc 109 true (.tuple #[])) w fun x3 w => UK Tryd.prog (Instr.storeAt 109 x3 x5) w fun _ w => VK Tryd.prog (Instr.fieldAt 109 x3 0) w fun x6 w => VK Tryd.prog (Instr.loadAt 5 x6) w fun x7 w => BK Tryd.prog BinOp.neq 5 (Operand.tmp 7) (Operand.const (Value.int IntKind.u8 1)) x7 (Value.int IntKind.u8 1) w fun x8 w => CondK x8 (CK Tryd.prog (Value.func (Fn.func 104) #[] #[]) [a0] w fun x10 w => R (Value.string { data := #[] }) w) (NK Tryd.prog a0 w fun x12 w => VK Tryd.prog (Instr.fieldAt 113 x12 1) w fun x13 w => VK Tryd.prog (Instr.loadAt 3 x13) w fun x14 w => BK Tryd.prog BinOp.add 3 (Operand.tmp 14) (Operand.const (Value.int IntKind.i64 1)) x14 (Value.int IntKind.i64 1) w fun x15 w => NK Tryd.prog a0 w fun x16 w => VK Tryd.prog (Instr.fieldAt 113 x16 1) w fun x17 w => UK Tryd.prog (Instr.storeAt 3 x17 x15) w fun _ w => VK Tryd.prog (Instr.fieldAt 109 x3 1) w fun x18 w => VK Tryd.prog (Instr.loadAt 9 x18) w fun x19 w => R x19 w)
theorem dispatcherref02_cursor_name_eq (a0 : Value) (w : World) (R : Value → World → Prop) : sx fn_ Tryd.prog 20 dispatcherref02_cursor_name_b (retK Tryd.prog Tryd.f84.results.toList R) (rho0 [a0]) w = dispatcherref02_cursor_name_F a0 w R := by kernel_rfl
theorem dispatcherref02_cursor_name_calls {a0 : Value} {w : World} {R : Value → World → Prop} (h : dispatcherref02_cursor_name_F a0 w R) : Calls Tryd.prog 84 #[a0] w fun e w' => ∃ v, e = .returned v ∧ R v w' :=
  Go.X.calls_of_sx (n := 20) (c := dispatcherref02_cursor_name_b) Tryd.func84 (by kernel_rfl) (by kernel_rfl) (Nat.le_of_ble_eq_true rfl) (by kernel_rfl) (Eq.mpr (dispatcherref02_cursor_name_eq a0 w R) h)
/-- (*dispatcher/dispatcherref02.cursor).number -/
noncomputable def dispatcherref02_cursor_number_b : Code := (Tryd.f85.body).getD .skip
noncomputable def dispatcherref02_cursor_number_F (a0 a1 : Value) (w : World) (R : Value → World → Prop) : Prop :=
  CK Tryd.prog (Value.func (Fn.func 83) #[] #[]) [a0] w fun x7 w => VK Tryd.prog (Instr.alloc 109 true (.tuple #[])) w fun x5 w => UK Tryd.prog (Instr.storeAt 109 x5 x7) w fun _ w => VK Tryd.prog (Instr.fieldAt 109 x5 0) w fun x8 w => VK Tryd.prog (Instr.loadAt 5 x8) w fun x9 w => BK Tryd.prog BinOp.neq 5 (Operand.tmp 9) (Operand.const (Value.int IntKind.u8 2)) x9 (Value.int IntKind.u8 2) w fun x10 w => VG Tryd.prog x10 false (Instr.fieldAt 109 x5 2) w fun x12 w => VG Tryd.prog x10 false (Instr.loadAt 2 x12) w fun x13 w => BG Tryd.prog x10 false BinOp.lss 2 (Operand.tmp 13) (Operand.const (Value.int IntKind.i64 1)) x13 (Value.int IntKind.i64 1) w fun x14 w => PK Tryd.prog x10 (Value.bool true) x14 w fun x15 w => VG Tryd.prog x15 false (Instr.fieldAt 109 x5 2) w fun x17 w => VG Tryd.prog x15 false (Instr.loadAt 2 x17) w fun x18 w => MG Tryd.prog x15 false a1 w fun x19 w => BG Tryd.prog x15 false BinOp.gtr 2 (Operand.tmp 18) (Operand.tmp 19) x18 x19 w fun x20 w => PK Tryd.prog x15 (Value.bool true) x20 w fun x21 w => CondK x21 (CK Tryd.prog (Value.func (Fn.func 104) #[] #[]) [a0] w fun x23 w => R (Value.int IntKind.i64 0) w) (NK Tryd.prog a0 w fun x25 w => VK Tryd.prog (Instr.fieldAt 113 x25 1) w fun x26 w => VK Tryd.prog (Instr.loadAt 3 x26) w fun x27 w => BK Tryd.prog BinOp.add 3 (Operand.tmp 27) (Operand.const (Value.int IntKind.i64 1)) x27 (Value.int IntKind.i64 1) w fun x28 w => NK Tryd.prog a0 w fun x29 w => VK Tryd.prog (Instr.fieldAt 113 x29 1) w fun x30 w => UK Tryd.prog (Instr.storeAt 3 x30 x28) w fun _ w => VK Tryd.prog (Instr.fieldAt 109 x5 2) w fun x31 w => VK Tryd.prog (Instr.loadAt 2 x31) w fun x32 w => R x32 w)
theorem dispatcherref02_cursor_number_eq (a0 a1 : Value) (w : World) (R : Value → World → Prop) : sx fn_ Tryd.prog 33 dispatcherref02_cursor_number_b (retK Tryd.prog Tryd.f85.results.toList R) (rho0 [a0, a1]) w = dispatcherref02_cursor_number_F a0 a1 w R := by kernel_rfl
theorem dispatcherref02_cursor_number_calls {a0 a1 : Value} {w : World} {R : Value → World → Prop} (h : dispatcherref02_cursor_number_F a0 a1 w R) : Calls Tryd.prog 85 #[a0, a1] w fun e w' => ∃ v, e = .returned v ∧ R v w' :=
  Go.X.calls_of_sx (n := 33) (c := dispatcherref02_cursor_number_b) Tryd.func85 (by kernel_rfl) (by kernel_rfl) (Nat.le_of_ble_eq_true rfl) (by kernel_rfl) (Eq.mpr (dispatcherref02_cursor_number_eq a0 a1 w R) h)
/-- (*dispatcher/dispatcherref02.cursor).need -/
noncomputable def dispatcherref02_cursor_need_b : Code := (Tryd.f86.body).getD .skip
noncomputable def dispatcherref02_cursor_need_F (a0 a1 : Value) (w : World) (R : Value → World → Prop) : Prop :=
  CK Tryd.prog (Value.func (Fn.func 82) #[] #[]) [a0, a1] w fun x6 w => VK Tryd.prog (Op.unary UnOp.not x6) w fun x7 w => CondK x7 (CK Tryd.prog (Value.func (Fn.func 104) #[] #[]) [a0] w fun x9 w => R (Value.tuple #[]) w) (R (Value.tuple #[]) w)
theorem dispatcherref02_cursor_need_eq (a0 a1 : Value) (w : World) (R : Value → World → Prop) : sx fn_ Tryd.prog 10 dispatcherref02_cursor_need_b (retK Tryd.prog Tryd.f86.results.toList R) (rho0 [a0, a1]) w = dispatcherref02_cursor_need_F a0 a1 w R := by kernel_rfl
theorem dispatcherref02_cursor_need_calls {a0 a1 : Value} {w : World} {R : Value → World → Prop} (h : dispatcherref02_cursor_need_F a0 a1 w R) : Calls Tryd.prog 86 #[a0, a1] w fun e w' => ∃ v, e = .returned v ∧ R v w' :=
  Go.X.calls_of_sx (n := 10) (c := dispatcherref02_cursor_need_b) Tryd.func86 (by kernel_rfl) (by kernel_rfl) (Nat.le_of_ble_eq_true rfl) (by kernel_rfl) (Eq.mpr (dispatcherref02_cursor_need_eq a0 a1 w R) h)
/-- (*dispatcher/dispatcherref02.cursor).good -/
noncomputable def dispatcherref02_cursor_good_b : Code := (Tryd.f87.body).getD .skip
noncomputable def dispatcherref02_cursor_good_F (a0 : Value) (w : World) (R : Value → World → Prop) : Prop :=
  NK Tryd.prog a0 w fun x4 w => VK Tryd.prog (Instr.fieldAt 113 x4 2) w fun x5 w => VK Tryd.prog (Instr.loadAt 3 x5) w fun x6 w => BK Tryd.prog BinOp.lss 3 (Operand.tmp 6) (Operand.const (Value.int IntKind.i64 0)) x6 (Value.int IntKind.i64 0) w fun x7 w => R x7 w
theorem dispatcherref02_cursor_good_eq (a0 : Value) (w : World) (R : Value → World → Prop) : sx fn_ Tryd.prog 8 dispatcherref02_cursor_good_b (retK Tryd.prog Tryd.f87.results.toList R) (rho0 [a0]) w = dispatcherref02_cursor_good_F a0 w R := by kernel_rfl
theorem dispatcherref02_cursor_good_calls {a0 : Value} {w : World} {R : Value → World → Prop} (h : dispatcherref02_cursor_good_F a0 w R) : Calls Tryd.prog 87 #[a0] w fun e w' => ∃ v, e = .returned v ∧ R v w' :=
  Go.X.calls_of_sx (n := 8) (c := dispatcherref02_cursor_good_b) Tryd.func87 (by kernel_rfl) (by kernel_rfl) (Nat.le_of_ble_eq_true rfl) (by kernel_rfl) (Eq.mpr (dispatcherref02_cursor_good_eq a0 w R) h)
/-- (*dispatcher/dispatcherref02.cursor).stmt -/
noncomputable def dispatcherref02_cursor_stmt_b : Code := (Tryd.f88.body).getD .skip
noncomputable def dispatcherref02_cursor_stmt_R0 : Code := cAt [1, 1, 1, 1] dispatcherref02_cursor_stmt_b
noncomputable def dispatcherref02_cursor_stmt_R1 : Code := cAt [1, 1, 1, 0, 0, 1, 0, 1, 1, 1] dispatcherref02_cursor_stmt_b
noncomputable def dispatcherref02_cursor_stmt_R2 : Code := cAt [1, 1, 1, 0, 0, 1, 0, 1, 1, 0, 1, 0, 1, 0] dispatcherref02_cursor_stmt_b
noncomputable def dispatcherref02_cursor_stmt_R3 : Code := cAt [1, 1, 1, 0, 0, 1, 0, 1, 1, 0, 1, 0, 1, 1] dispatcherref02_cursor_stmt_b
noncomputable def dispatcherref02_cursor_stmt_R4 : Code := cAt [1, 1, 1, 0, 0, 1, 1, 1, 0, 1, 0] dispatcherref02_cursor_stmt_b
noncomputable def dispatcherref02_cursor_stmt_R5 : Code := cAt [1, 1, 1, 0, 0, 1, 1, 1, 0, 1, 1] dispatcherref02_cursor_stmt_b
noncomputable def dispatcherref02_cursor_stmt_R6 : Code := cAt [1, 1, 1, 0, 0, 1, 1, 1, 1, 1, 0, 1, 0] dispatcherref02_cursor_stmt_b
noncomputable def dispatcherref02_cursor_stmt_R7 : Code := cAt [1, 1, 1, 0, 0, 1, 1, 1, 1, 1, 0, 1, 1] dispatcherref02_cursor_stmt_b
noncomputable def dispatcherref02_cursor_stmt_R8 : Code := cAt [1, 1, 1, 0, 0, 1, 1, 1, 1, 1, 1, 1, 0, 1, 1, 1, 1] dispatcherref02_cursor_stmt_b
noncomputable def dispatcherref02_cursor_stmt_R9 : Code := cAt [1, 1, 1, 0, 0, 1, 1, 1, 1, 1, 1, 1, 1, 1, 0, 1] dispatcherref02_cursor_stmt_b
noncomputable def dispatcherref02_cursor_stmt_R10 : Code := cAt [1, 1, 1, 0, 0, 1, 0, 1, 1, 1, 1] dispatcherref02_cursor_stmt_b
noncomputable def dispatcherref02_cursor_stmt_R0_F (z : At) (K : Exit → Sl → World → Prop) (ρ : Sl) (w : World) : Prop :=
  CK Tryd.prog (Value.func (Fn.func 86) #[] #[]) [(ρ 0), (Value.string { data := #[59] })] w fun x139 w => VK Tryd.prog (Instr.loadAt 62 (ρ 4)) w fun x140 w => UK Tryd.prog (Instr.storeAt 62 (ρ 2) x140) w fun _ w => K Exit.ret (up (up (up ρ 138 (ρ 0)) 139 x139) 140 x140) w
theorem dispatcherref02_cursor_stmt_R0_eq (z : At) (K : Exit → Sl → World → Prop) (ρ : Sl) (w : World) : sx z Tryd.prog 141 dispatcherref02_cursor_stmt_R0 K ρ w = dispatcherref02_cursor_stmt_R0_F z K ρ w := by kernel_rfl
noncomputable def dispatcherref02_cursor_stmt_R1_F (z : At) (K : Exit → Sl → World → Prop) (ρ : Sl) (w : World) : Prop :=
  CK Tryd.prog (Value.func (Fn.func 86) #[] #[]) [(ρ 0), (Value.string { data := #[61] })] w fun x36 w => W z Tryd.prog 141 dispatcherref02_cursor_stmt_R10 K (up (up ρ 35 (ρ 0)) 36 x36) w
theorem dispatcherref02_cursor_stmt_R1_eq (z : At) (K : Exit → Sl → World → Prop) (ρ : Sl) (w : World) : sx z Tryd.prog 141 dispatcherref02_cursor_stmt_R1 K ρ w = dispatcherref02_cursor_stmt_R1_F z K ρ w := by kernel_rfl
noncomputable def dispatcherref02_cursor_stmt_R6_ops : Array Oper := opsOf dispatcherref02_cursor_stmt_R6
def dispatcherref02_cursor_stmt_R6_H (S : World → Prop) (K : Exit → Sl → World → Prop) (ρ : Sl) (w : World) : Prop :=
  HK Tryd.prog S (do pure (Next.value (← Instr.fieldAt 62 (ρ 4) 5))) fun x68 => (VK Tryd.prog (Instr.loadAt 58 x68) w fun x69 w => S w ∧ (CK Tryd.prog (Value.func (Fn.func 105) #[] #[]) [(ρ 0), (Value.int IntKind.i64 0)] w fun x71 w => S w ∧ (VK Tryd.prog (Instr.buildSlice 58 1 [(0, x71)].toArray) w fun x72 w => S w ∧ (IK Tryd.prog Builtin.append #[58, 58] 58 [false, false] [x69, x72] w fun x73 w => S w ∧ (HK Tryd.prog S (do pure (Next.value (← Instr.fieldAt 62 (ρ 4) 5))) fun x74 => UK Tryd.prog (Instr.storeAt 58 x74 x73) w fun _ w => S w ∧ (K Exit.normal (up (up (up (up (up (up (up ρ 68 x68) 70 (ρ 0)) 69 x69) 71 x71) 72 x72) 73 x73) 74 x74) w)))))) ∧ (CK Tryd.prog (Value.func (Fn.func 105) #[] #[]) [(ρ 0), (Value.int IntKind.i64 0)] w fun x71_1 w => S w ∧ ((VK Tryd.prog (Instr.loadAt 58 x68) w fun x69_1 w => S w ∧ (VK Tryd.prog (Instr.buildSlice 58 1 [(0, x71_1)].toArray) w fun x72_1 w => S w ∧ (IK Tryd.prog Builtin.append #[58, 58] 58 [false, false] [x69_1, x72_1] w fun x73_1 w => S w ∧ (HK Tryd.prog S (do pure (Next.value (← Instr.fieldAt 62 (ρ 4) 5))) fun x74_1 => UK Tryd.prog (Instr.storeAt 58 x74_1 x73_1) w fun _ w => S w ∧ (K Exit.normal (up (up (up (up (up (up (up ρ 68 x68) 70 (ρ 0)) 71 x71_1) 69 x69_1) 72 x72_1) 73 x73_1) 74 x74_1) w))))) ∧ (VK Tryd.prog (Instr.buildSlice 58 1 [(0, x71_1)].toArray) w fun x72_2 w => S w ∧ (VK Tryd.prog (Instr.loadAt 58 x68) w fun x69_2 w => S w ∧ (IK Tryd.prog Builtin.append #[58, 58] 58 [false, false] [x69_2, x72_2] w fun x73_2 w => S w ∧ (HK Tryd.prog S (do pure (Next.value (← Instr.fieldAt 62 (ρ 4) 5))) fun x74_2 => UK Tryd.prog (Instr.storeAt 58 x74_2 x73_2) w fun _ w => S w ∧ (K Exit.normal (up (up (up (up (up (up (up ρ 68 x68) 70 (ρ 0)) 71 x71_1) 72 x72_2) 69 x69_2) 73 x73_2) 74 x74_2) w)))))))
theorem dispatcherref02_cursor_stmt_R6_held {D : List Deferred} (S : World → Prop) {K : Exit → Sl → World → Prop} {ρ : Sl} {w : World} (hS : S { w with drawn := w.drawn + 1 }) (h : dispatcherref02_cursor_stmt_R6_H S K ρ { w with drawn := w.drawn + 1 }) : W ⟨none, D⟩ Tryd.prog 141 dispatcherref02_cursor_stmt_R6 K ρ w := by
  have e : dispatcherref02_cursor_stmt_R6 = .region (idOf dispatcherref02_cursor_stmt_R6) dispatcherref02_cursor_stmt_R6_ops true := by kernel_rfl
  have q : sxp Tryd.prog S dispatcherref02_cursor_stmt_R6_ops (K .normal) (Pl.take 0 (Pl.take 2 (Pl.two 1 3 (Pl.only 3 (Pl.only 4 (Pl.only 5 (Pl.take 6 (Pl.only 7 Pl.done))))) (Pl.two 1 4 (Pl.only 4 (Pl.only 5 (Pl.take 6 (Pl.only 7 Pl.done)))) (Pl.only 1 (Pl.only 5 (Pl.take 6 (Pl.only 7 Pl.done)))))))) ρ { w with drawn := w.drawn + 1 } = dispatcherref02_cursor_stmt_R6_H S K ρ { w with drawn := w.drawn + 1 } := by kernel_rfl
  rw [e]
  exact W_plan S (Pl.take 0 (Pl.take 2 (Pl.two 1 3 (Pl.only 3 (Pl.only 4 (Pl.only 5 (Pl.take 6 (Pl.only 7 Pl.done))))) (Pl.two 1 4 (Pl.only 4 (Pl.only 5 (Pl.take 6 (Pl.only 7 Pl.done)))) (Pl.only 1 (Pl.only 5 (Pl.take 6 (Pl.only 7 Pl.done)))))))) (by kernel_rfl) (by kernel_rfl) (by kernel_rfl) (by kernel_rfl) hS (Eq.mpr q h)
noncomputable def dispatcherref02_cursor_stmt_R7_F (z : At) (K : Exit → Sl → World → Prop) (ρ : Sl) (w : World) : Prop :=
  CK Tryd.prog (Value.func (Fn.func 106) #[] #[]) [(ρ 0)] w fun x76 w => VK Tryd.prog (Instr.fieldAt 62 (ρ 4) 6) w fun x77 w => UK Tryd.prog (Instr.storeAt 23 x77 x76) w fun _ w => VK Tryd.prog (Instr.loadAt 62 (ρ 4)) w fun x78 w => UK Tryd.prog (Instr.storeAt 62 (ρ 2) x78) w fun _ w => K Exit.ret (up (up (up (up ρ 75 (ρ 0)) 76 x76) 77 x77) 78 x78) w
theorem dispatcherref02_cursor_stmt_R7_eq (z : At) (K : Exit → Sl → World → Prop) (ρ : Sl) (w : World) : sx z Tryd.prog 141 dispatcherref02_cursor_stmt_R7 K ρ w = dispatcherref02_cursor_stmt_R7_F z K ρ w := by kernel_rfl
noncomputable def dispatcherref02_cursor_stmt_R8_F (z : At) (K : Exit → Sl → World → Prop) (ρ : Sl) (w : World) : Prop :=
  CK Tryd.prog (Value.func (Fn.func 106) #[] #[]) [(ρ 0)] w fun x95 w => VK Tryd.prog (Instr.fieldAt 62 (ρ 4) 6) w fun x96 w => UK Tryd.prog (Instr.storeAt 23 x96 x95) w fun _ w => VK Tryd.prog (Instr.loadAt 62 (ρ 4)) w fun x97 w => UK Tryd.prog (Instr.storeAt 62 (ρ 2) x97) w fun _ w => K Exit.ret (up (up (up (up ρ 94 (ρ 0)) 95 x95) 96 x96) 97 x97) w
theorem dispatcherref02_cursor_stmt_R8_eq (z : At) (K : Exit → Sl → World → Prop) (ρ : Sl) (w : World) : sx z Tryd.prog 141 dispatcherref02_cursor_stmt_R8 K ρ w = dispatcherref02_cursor_stmt_R8_F z K ρ w := by kernel_rfl
noncomputable def dispatcherref02_cursor_stmt_R9_ops : Array Oper := opsOf dispatcherref02_cursor_stmt_R9
def dispatcherref02_cursor_stmt_R9_H (S : World → Prop) (K : Exit → Sl → World → Prop) (ρ : Sl) (w : World) : Prop :=
  HK Tryd.prog S (do pure (Next.value (← Instr.fieldAt 62 (ρ 4) 5))) fun x102 => (VK Tryd.prog (Instr.loadAt 58 x102) w fun x103 w => S w ∧ (CK Tryd.prog (Value.func (Fn.func 105) #[] #[]) [(ρ 0), (Value.int IntKind.i64 0)] w fun x105 w => S w ∧ (VK Tryd.prog (Instr.buildSlice 58 1 [(0, x105)].toArray) w fun x106 w => S w ∧ (IK Tryd.prog Builtin.append #[58, 58] 58 [false, false] [x103, x106] w fun x107 w => S w ∧ (HK Tryd.prog S (do pure (Next.value (← Instr.fieldAt 62 (ρ 4) 5))) fun x108 => UK Tryd.prog (Instr.storeAt 58 x108 x107) w fun _ w => S w ∧ (K Exit.normal (up (up (up (up (up (up (up ρ 102 x102) 104 (ρ 0)) 103 x103) 105 x105) 106 x106) 107 x107) 108 x108) w)))))) ∧ (CK Tryd.prog (Value.func (Fn.func 105) #[] #[]) [(ρ 0), (Value.int IntKind.i64 0)] w fun x105_1 w => S w ∧ ((VK Tryd.prog (Instr.loadAt 58 x102) w fun x103_1 w => S w ∧ (VK Tryd.prog (Instr.buildSlice 58 1 [(0, x105_1)].toArray) w fun x106_1 w => S w ∧ (IK Tryd.prog Builtin.append #[58, 58] 58 [false, false] [x103_1, x106_1] w fun x107_1 w => S w ∧ (HK Tryd.prog S (do pure (Next.value (← Instr.fieldAt 62 (ρ 4) 5))) fun x108_1 => UK Tryd.prog (Instr.storeAt 58 x108_1 x107_1) w fun _ w => S w ∧ (K Exit.normal (up (up (up (up (up (up (up ρ 102 x102) 104 (ρ 0)) 105 x105_1) 103 x103_1) 106 x106_1) 107 x107_1) 108 x108_1) w))))) ∧ (VK Tryd.prog (Instr.buildSlice 58 1 [(0, x105_1)].toArray) w fun x106_2 w => S w ∧ (VK Tryd.prog (Instr.loadAt 58 x102) w fun x103_2 w => S w ∧ (IK Tryd.prog Builtin.append #[58, 58] 58 [false, false] [x103_2, x106_2] w fun x107_2 w => S w ∧ (HK Tryd.prog S (do pure (Next.value (← Instr.fieldAt 62 (ρ 4) 5))) fun x108_2 => UK Tryd.prog (Instr.storeAt 58 x108_2 x107_2) w fun _ w => S w ∧ (K Exit.normal (up (up (up (up (up (up (up ρ 102 x102) 104 (ρ 0)) 105 x105_1) 106 x106_2) 103 x103_2) 107 x107_2) 108 x108_2) w)))))))
theorem dispatcherref02_cursor_stmt_R9_held {D : List Deferred} (S : World → Prop) {K : Exit → Sl → World → Prop} {ρ : Sl} {w : World} (hS : S { w with drawn := w.drawn + 1 }) (h : dispatcherref02_cursor_stmt_R9_H S K ρ { w with drawn := w.drawn + 1 }) : W ⟨none, D⟩ Tryd.prog 141 dispatcherref02_cursor_stmt_R9 K ρ w := by
  have e : dispatcherref02_cursor_stmt_R9 = .region (idOf dispatcherref02_cursor_stmt_R9) dispatcherref02_cursor_stmt_R9_ops true := by kernel_rfl
  have q : sxp Tryd.prog S dispatcherref02_cursor_stmt_R9_ops (K .normal) (Pl.take 0 (Pl.take 2 (Pl.two 1 3 (Pl.only 3 (Pl.only 4 (Pl.only 5 (Pl.take 6 (Pl.only 7 Pl.done))))) (Pl.two 1 4 (Pl.only 4 (Pl.only 5 (Pl.take 6 (Pl.only 7 Pl.done)))) (Pl.only 1 (Pl.only 5 (Pl.take 6 (Pl.only 7 Pl.done)))))))) ρ { w with drawn := w.drawn + 1 } = dispatcherref02_cursor_stmt_R9_H S K ρ { w with drawn := w.drawn + 1 } := by kernel_rfl
  rw [e]
  exact W_plan S (Pl.take 0 (Pl.take 2 (Pl.two 1 3 (Pl.only 3 (Pl.only 4 (Pl.only 5 (Pl.take 6 (Pl.only 7 Pl.done))))) (Pl.two 1 4 (Pl.only 4 (Pl.only 5 (Pl.take 6 (Pl.only 7 Pl.done)))) (Pl.only 1 (Pl.only 5 (Pl.take 6 (Pl.only 7 Pl.done)))))))) (by kernel_rfl) (by kernel_rfl) (by kernel_rfl) (by kernel_rfl) hS (Eq.mpr q h)
noncomputable def dispatcherref02_cursor_stmt_R10_ops : Array Oper := opsOf dispatcherref02_cursor_stmt_R10
def dispatcherref02_cursor_stmt_R10_H (S : World → Prop) (K : Exit → Sl → World → Prop) (ρ : Sl) (w : World) : Prop :=
  HK Tryd.prog S (do pure (Next.value (← Instr.fieldAt 62 (ρ 4) 5))) fun x37 => (VK Tryd.prog (Instr.loadAt 58 x37) w fun x38 w => S w ∧ (CK Tryd.prog (Value.func (Fn.func 105) #[] #[]) [(ρ 0), (Value.int IntKind.i64 0)] w fun x40 w => S w ∧ (VK Tryd.prog (Instr.buildSlice 58 1 [(0, x40)].toArray) w fun x41 w => S w ∧ (IK Tryd.prog Builtin.append #[58, 58] 58 [false, false] [x38, x41] w fun x42 w => S w ∧ (HK Tryd.prog S (do pure (Next.value (← Instr.fieldAt 62 (ρ 4) 5))) fun x43 => UK Tryd.prog (Instr.storeAt 58 x43 x42) w fun _ w => S w ∧ (K Exit.normal (up (up (up (up (up (up (up ρ 37 x37) 39 (ρ 0)) 38 x38) 40 x40) 41 x41) 42 x42) 43 x43) w)))))) ∧ (CK Tryd.prog (Value.func (Fn.func 105) #[] #[]) [(ρ 0), (Value.int IntKind.i64 0)] w fun x40_1 w => S w ∧ ((VK Tryd.prog (Instr.loadAt 58 x37) w fun x38_1 w => S w ∧ (VK Tryd.prog (Instr.buildSlice 58 1 [(0, x40_1)].toArray) w fun x41_1 w => S w ∧ (IK Tryd.prog Builtin.append #[58, 58] 58 [false, false] [x38_1, x41_1] w fun x42_1 w => S w ∧ (HK Tryd.prog S (do pure (Next.value (← Instr.fieldAt 62 (ρ 4) 5))) fun x43_1 => UK Tryd.prog (Instr.storeAt 58 x43_1 x42_1) w fun _ w => S w ∧ (K Exit.normal (up (up (up (up (up (up (up ρ 37 x37) 39 (ρ 0)) 40 x40_1) 38 x38_1) 41 x41_1) 42 x42_1) 43 x43_1) w))))) ∧ (VK Tryd.prog (Instr.buildSlice 58 1 [(0, x40_1)].toArray) w fun x41_2 w => S w ∧ (VK Tryd.prog (Instr.loadAt 58 x37) w fun x38_2 w => S w ∧ (IK Tryd.prog Builtin.append #[58, 58] 58 [false, false] [x38_2, x41_2] w fun x42_2 w => S w ∧ (HK Tryd.prog S (do pure (Next.value (← Instr.fieldAt 62 (ρ 4) 5))) fun x43_2 => UK Tryd.prog (Instr.storeAt 58 x43_2 x42_2) w fun _ w => S w ∧ (K Exit.normal (up (up (up (up (up (up (up ρ 37 x37) 39 (ρ 0)) 40 x40_1) 41 x41_2) 38 x38_2) 42 x42_2) 43 x43_2) w)))))))
theorem dispatcherref02_cursor_stmt_R10_held {D : List Deferred} (S : World → Prop) {K : Exit → Sl → World → Prop} {ρ : Sl} {w : World} (hS : S { w with drawn := w.drawn + 1 }) (h : dispatcherref02_cursor_stmt_R10_H S K ρ { w with drawn := w.drawn + 1 }) : W ⟨none, D⟩ Tryd.prog 141 dispatcherref02_cursor_stmt_R10 K ρ w := by
  have e : dispatcherref02_cursor_stmt_R10 = .region (idOf dispatcherref02_cursor_stmt_R10) dispatcherref02_cursor_stmt_R10_ops true := by kernel_rfl
  have q : sxp Tryd.prog S dispatcherref02_cursor_stmt_R10_ops (K .normal) (Pl.take 0 (Pl.take 2 (Pl.two 1 3 (Pl.only 3 (Pl.only 4 (Pl.only 5 (Pl.take 6 (Pl.only 7 Pl.done))))) (Pl.two 1 4 (Pl.only 4 (Pl.only 5 (Pl.take 6 (Pl.only 7 Pl.done)))) (Pl.only 1 (Pl.only 5 (Pl.take 6 (Pl.only 7 Pl.done)))))))) ρ { w with drawn := w.drawn + 1 } = dispatcherref02_cursor_stmt_R10_H S K ρ { w with drawn := w.drawn + 1 } := by kernel_rfl
  rw [e]
  exact W_plan S (Pl.take 0 (Pl.take 2 (Pl.two 1 3 (Pl.only 3 (Pl.only 4 (Pl.only 5 (Pl.take 6 (Pl.only 7 Pl.done))))) (Pl.two 1 4 (Pl.only 4 (Pl.only 5 (Pl.take 6 (Pl.only 7 Pl.done)))) (Pl.only 1 (Pl.only 5 (Pl.take 6 (Pl.only 7 Pl.done)))))))) (by kernel_rfl) (by kernel_rfl) (by kernel_rfl) (by kernel_rfl) hS (Eq.mpr q h)
noncomputable def dispatcherref02_cursor_stmt_F (a0 : Value) (w : World) (R : Value → World → Prop) : Prop :=
  VK Tryd.prog (Instr.alloc 62 true (.tuple #[])) w fun x2 w => CK Tryd.prog (Value.func (Fn.func 83) #[] #[]) [a0] w fun x6 w => VK Tryd.prog (Instr.alloc 109 true (.tuple #[])) w fun x3 w => UK Tryd.prog (Instr.storeAt 109 x3 x6) w fun _ w => VK Tryd.prog (Instr.fieldAt 109 x3 3) w fun x7 w => VK Tryd.prog (Instr.loadAt 3 x7) w fun x8 w => VK Tryd.prog (Instr.fieldAt 109 x3 4) w fun x9 w => VK Tryd.prog (Instr.loadAt 3 x9) w fun x10 w => VK Tryd.prog (Instr.build 62 [(8, x8), (9, x10)].toArray) w fun x11 w => VK Tryd.prog (Instr.alloc 62 true (.tuple #[])) w fun x4 w => UK Tryd.prog (Instr.storeAt 62 x4 x11) w fun _ w => VK Tryd.prog (Instr.fieldAt 109 x3 0) w fun x16 w => VK Tryd.prog (Instr.loadAt 5 x16) w fun x17 w => BK Tryd.prog BinOp.eql 5 (Operand.tmp 17) (Operand.const (Value.int IntKind.u8 1)) x17 (Value.int IntKind.u8 1) w fun x18 w => CondK x18 (VK Tryd.prog (Instr.fieldAt 62 x4 0) w fun x19 w => UK Tryd.prog (Instr.storeAt 5 x19 (Value.int IntKind.u8 1)) w fun _ w => CK Tryd.prog (Value.func (Fn.func 84) #[] #[]) [a0] w fun x21 w => VK Tryd.prog (Instr.fieldAt 62 x4 3) w fun x22 w => UK Tryd.prog (Instr.storeAt 9 x22 x21) w fun _ w => CK Tryd.prog (Value.func (Fn.func 82) #[] #[]) [a0, (Value.string { data := #[91] })] w fun x24 w => CondK x24 (VK Tryd.prog (Instr.fieldAt 62 x4 0) w fun x25 w => UK Tryd.prog (Instr.storeAt 5 x25 (Value.int IntKind.u8 2)) w fun _ w => W fn_ Tryd.prog 141 dispatcherref02_cursor_stmt_R2 (seqK (sx fn_ Tryd.prog 141 dispatcherref02_cursor_stmt_R3 (seqK (sx fn_ Tryd.prog 141 dispatcherref02_cursor_stmt_R1 (blkK 0 (seqK (sx fn_ Tryd.prog 141 dispatcherref02_cursor_stmt_R0 (retK Tryd.prog [ResultVar.cell 2 62] R)) (retK Tryd.prog [ResultVar.cell 2 62] R)))) (blkK 0 (seqK (sx fn_ Tryd.prog 141 dispatcherref02_cursor_stmt_R0 (retK Tryd.prog [ResultVar.cell 2 62] R)) (retK Tryd.prog [ResultVar.cell 2 62] R))))) (seqK (sx fn_ Tryd.prog 141 dispatcherref02_cursor_stmt_R1 (blkK 0 (seqK (sx fn_ Tryd.prog 141 dispatcherref02_cursor_stmt_R0 (retK Tryd.prog [ResultVar.cell 2 62] R)) (retK Tryd.prog [ResultVar.cell 2 62] R)))) (blkK 0 (seqK (sx fn_ Tryd.prog 141 dispatcherref02_cursor_stmt_R0 (retK Tryd.prog [ResultVar.cell 2 62] R)) (retK Tryd.prog [ResultVar.cell 2 62] R))))) (up (up (up (up (up (up (up (up (up (up (up (up (up (up (up (up (up (up (up (up (up (rho0 [a0]) 2 x2) 5 a0) 6 x6) 3 x3) 7 x7) 8 x8) 9 x9) 10 x10) 11 x11) 4 x4) 16 x16) 17 x17) 18 x18) 15 x18) 19 x19) 20 a0) 21 x21) 22 x22) 23 a0) 24 x24) 25 x25) w) (sx fn_ Tryd.prog 141 dispatcherref02_cursor_stmt_R1 (blkK 0 (seqK (sx fn_ Tryd.prog 141 dispatcherref02_cursor_stmt_R0 (retK Tryd.prog [ResultVar.cell 2 62] R)) (retK Tryd.prog [ResultVar.cell 2 62] R))) (up (up (up (up (up (up (up (up (up (up (up (up (up (up (up (up (up (up (up (up (rho0 [a0]) 2 x2) 5 a0) 6 x6) 3 x3) 7 x7) 8 x8) 9 x9) 10 x10) 11 x11) 4 x4) 16 x16) 17 x17) 18 x18) 15 x18) 19 x19) 20 a0) 21 x21) 22 x22) 23 a0) 24 x24) w)) (CK Tryd.prog (Value.func (Fn.func 82) #[] #[]) [a0, (Value.string { data := #[105, 102] })] w fun x46 w => CondK x46 (VK Tryd.prog (Instr.fieldAt 62 x4 0) w fun x47 w => UK Tryd.prog (Instr.storeAt 5 x47 (Value.int IntKind.u8 3)) w fun _ w => W fn_ Tryd.prog 141 dispatcherref02_cursor_stmt_R4 (seqK (sx fn_ Tryd.prog 141 dispatcherref02_cursor_stmt_R5 (blkK 0 (seqK (sx fn_ Tryd.prog 141 dispatcherref02_cursor_stmt_R0 (retK Tryd.prog [ResultVar.cell 2 62] R)) (retK Tryd.prog [ResultVar.cell 2 62] R)))) (blkK 0 (seqK (sx fn_ Tryd.prog 141 dispatcherref02_cursor_stmt_R0 (retK Tryd.prog [ResultVar.cell 2 62] R)) (retK Tryd.prog [ResultVar.cell 2 62] R)))) (up (up (up (up (up (up (up (up (up (up (up (up (up (up (up (up (up (up (rho0 [a0]) 2 x2) 5 a0) 6 x6) 3 x3) 7 x7) 8 x8) 9 x9) 10 x10) 11 x11) 4 x4) 16 x16) 17 x17) 18 x18) 15 x18) 45 a0) 46 x46) 44 x46) 47 x47) w) (CK Tryd.prog (Value.func (Fn.func 82) #[] #[]) [a0, (Value.string { data := #[119, 104, 105, 108, 101] })] w fun x66 w => CondK x66 (VK Tryd.prog (Instr.fieldAt 62 x4 0) w fun x67 w => UK Tryd.prog (Instr.storeAt 5 x67 (Value.int IntKind.u8 4)) w fun _ w => W fn_ Tryd.prog 141 dispatcherref02_cursor_stmt_R6 (seqK (sx fn_ Tryd.prog 141 dispatcherref02_cursor_stmt_R7 (blkK 0 (seqK (sx fn_ Tryd.prog 141 dispatcherref02_cursor_stmt_R0 (retK Tryd.prog [ResultVar.cell 2 62] R)) (retK Tryd.prog [ResultVar.cell 2 62] R)))) (blkK 0 (seqK (sx fn_ Tryd.prog 141 dispatcherref02_cursor_stmt_R0 (retK Tryd.prog [ResultVar.cell 2 62] R)) (retK Tryd.prog [ResultVar.cell 2 62] R)))) (up (up (up (up (up (up (up (up (up (up (up (up (up (up (up (up (up (up (up (up (up (rho0 [a0]) 2 x2) 5 a0) 6 x6) 3 x3) 7 x7) 8 x8) 9 x9) 10 x10) 11 x11) 4 x4) 16 x16) 17 x17) 18 x18) 15 x18) 45 a0) 46 x46) 44 x46) 65 a0) 66 x66) 64 x66) 67 x67) w) (CK Tryd.prog (Value.func (Fn.func 82) #[] #[]) [a0, (Value.string { data := #[102, 111, 114] })] w fun x81 w => CondK x81 (VK Tryd.prog (Instr.fieldAt 62 x4 0) w fun x82 w => UK Tryd.prog (Instr.storeAt 5 x82 (Value.int IntKind.u8 5)) w fun _ w => CK Tryd.prog (Value.func (Fn.func 84) #[] #[]) [a0] w fun x84 w => VK Tryd.prog (Instr.fieldAt 62 x4 3) w fun x85 w => UK Tryd.prog (Instr.storeAt 9 x85 x84) w fun _ w => CK Tryd.prog (Value.func (Fn.func 86) #[] #[]) [a0, (Value.string { data := #[60] })] w fun x87 w => CK Tryd.prog (Value.func (Fn.func 82) #[] #[]) [a0, (Value.string { data := #[115, 105, 122, 101] })] w fun x89 w => VK Tryd.prog (Op.unary UnOp.not x89) w fun x90 w => CondK x90 (CK Tryd.prog (Value.func (Fn.func 85) #[] #[]) [a0, (Value.int IntKind.i64 1000)] w fun x92 w => VK Tryd.prog (Instr.fieldAt 62 x4 4) w fun x93 w => UK Tryd.prog (Instr.storeAt 3 x93 x92) w fun _ w => sx fn_ Tryd.prog 141 dispatcherref02_cursor_stmt_R8 (blkK 0 (seqK (sx fn_ Tryd.prog 141 dispatcherref02_cursor_stmt_R0 (retK Tryd.prog [ResultVar.cell 2 62] R)) (retK Tryd.prog [ResultVar.cell 2 62] R))) (up (up (up (up (up (up (up (up (up (up (up (up (up (up (up (up (up (up (up (up (up (up (up (up (up (up (up (up (up (up (up (up (up (up (up (rho0 [a0]) 2 x2) 5 a0) 6 x6) 3 x3) 7 x7) 8 x8) 9 x9) 10 x10) 11 x11) 4 x4) 16 x16) 17 x17) 18 x18) 15 x18) 45 a0) 46 x46) 44 x46) 65 a0) 66 x66) 64 x66) 80 a0) 81 x81) 79 x81) 82 x82) 83 a0) 84 x84) 85 x85) 86 a0) 87 x87) 88 a0) 89 x89) 90 x90) 91 a0) 92 x92) 93 x93) w) (sx fn_ Tryd.prog 141 dispatcherref02_cursor_stmt_R8 (blkK 0 (seqK (sx fn_ Tryd.prog 141 dispatcherref02_cursor_stmt_R0 (retK Tryd.prog [ResultVar.cell 2 62] R)) (retK Tryd.prog [ResultVar.cell 2 62] R))) (up (up (up (up (up (up (up (up (up (up (up (up (up (up (up (up (up (up (up (up (up (up (up (up (up (up (up (up (up (up (up (up (rho0 [a0]) 2 x2) 5 a0) 6 x6) 3 x3) 7 x7) 8 x8) 9 x9) 10 x10) 11 x11) 4 x4) 16 x16) 17 x17) 18 x18) 15 x18) 45 a0) 46 x46) 44 x46) 65 a0) 66 x66) 64 x66) 80 a0) 81 x81) 79 x81) 82 x82) 83 a0) 84 x84) 85 x85) 86 a0) 87 x87) 88 a0) 89 x89) 90 x90) w)) (CK Tryd.prog (Value.func (Fn.func 82) #[] #[]) [a0, (Value.string { data := #[97, 115, 115, 101, 114, 116] })] w fun x100 w => CondK x100 (VK Tryd.prog (Instr.fieldAt 62 x4 0) w fun x101 w => UK Tryd.prog (Instr.storeAt 5 x101 (Value.int IntKind.u8 6)) w fun _ w => W fn_ Tryd.prog 141 dispatcherref02_cursor_stmt_R9 (blkK 0 (seqK (sx fn_ Tryd.prog 141 dispatcherref02_cursor_stmt_R0 (retK Tryd.prog [ResultVar.cell 2 62] R)) (retK Tryd.prog [ResultVar.cell 2 62] R))) (up (up (up (up (up (up (up (up (up (up (up (up (up (up (up (up (up (up (up (up (up (up (up (up (up (up (up (rho0 [a0]) 2 x2) 5 a0) 6 x6) 3 x3) 7 x7) 8 x8) 9 x9) 10 x10) 11 x11) 4 x4) 16 x16) 17 x17) 18 x18) 15 x18) 45 a0) 46 x46) 44 x46) 65 a0) 66 x66) 64 x66) 80 a0) 81 x81) 79 x81) 99 a0) 100 x100) 98 x100) 101 x101) w) (CK Tryd.prog (Value.func (Fn.func 82) #[] #[]) [a0, (Value.string { data := #[115, 116, 111, 112] })] w fun x111 w => CondK x111 (VK Tryd.prog (Instr.fieldAt 62 x4 0) w fun x112 w => UK Tryd.prog (Instr.storeAt 5 x112 (Value.int IntKind.u8 7)) w fun _ w => sx fn_ Tryd.prog 141 dispatcherref02_cursor_stmt_R0 (retK Tryd.prog [ResultVar.cell 2 62] R) (up (up (up (up (up (up (up (up (up (up (up (up (up (up (up (up (up (up (up (up (up (up (up (up (up (up (up (up (up (up (rho0 [a0]) 2 x2) 5 a0) 6 x6) 3 x3) 7 x7) 8 x8) 9 x9) 10 x10) 11 x11) 4 x4) 16 x16) 17 x17) 18 x18) 15 x18) 45 a0) 46 x46) 44 x46) 65 a0) 66 x66) 64 x66) 80 a0) 81 x81) 79 x81) 99 a0) 100 x100) 98 x100) 110 a0) 111 x111) 109 x111) 112 x112) w) (VK Tryd.prog (Instr.fieldAt 109 x3 0) w fun x114 w => VK Tryd.prog (Instr.loadAt 5 x114) w fun x115 w => BK Tryd.prog BinOp.eql 5 (Operand.tmp 115) (Operand.const (Value.int IntKind.u8 3)) x115 (Value.int IntKind.u8 3) w fun x116 w => VG Tryd.prog x116 true (Instr.fieldAt 109 x3 1) w fun x118 w => VG Tryd.prog x116 true (Instr.loadAt 9 x118) w fun x119 w => CG Tryd.prog x116 true (Value.func (Fn.func 107) #[] #[]) [x119] w fun x120 w => BG Tryd.prog x116 true BinOp.gtr 5 (Operand.tmp 120) (Operand.const (Value.int IntKind.u8 0)) x120 (Value.int IntKind.u8 0) w fun x121 w => PK Tryd.prog x116 x121 (Value.bool false) w fun x122 w => CondK x122 (NK Tryd.prog a0 w fun x124 w => VK Tryd.prog (Instr.fieldAt 113 x124 1) w fun x125 w => VK Tryd.prog (Instr.loadAt 3 x125) w fun x126 w => BK Tryd.prog BinOp.add 3 (Operand.tmp 126) (Operand.const (Value.int IntKind.i64 1)) x126 (Value.int IntKind.i64 1) w fun x127 w => NK Tryd.prog a0 w fun x128 w => VK Tryd.prog (Instr.fieldAt 113 x128 1) w fun x129 w => UK Tryd.prog (Instr.storeAt 3 x129 x127) w fun _ w => VK Tryd.prog (Instr.fieldAt 62 x4 0) w fun x130 w => UK Tryd.prog (Instr.storeAt 5 x130 (Value.int IntKind.u8 8)) w fun _ w => VK Tryd.prog (Instr.fieldAt 109 x3 1) w fun x131 w => VK Tryd.prog (Instr.loadAt 9 x131) w fun x132 w => CK Tryd.prog (Value.func (Fn.func 107) #[] #[]) [x132] w fun x133 w => VK Tryd.prog (Instr.fieldAt 62 x4 1) w fun x134 w => UK Tryd.prog (Instr.storeAt 5 x134 x133) w fun _ w => VK Tryd.prog (Instr.loadAt 62 x4) w fun x136 w => CK Tryd.prog (Value.func (Fn.func 108) #[] #[]) [a0, x136] w fun x137 w => UK Tryd.prog (Instr.storeAt 62 x4 x137) w fun _ w => sx fn_ Tryd.prog 141 dispatcherref02_cursor_stmt_R0 (retK Tryd.prog [ResultVar.cell 2 62] R) (up (up (up (up (up (up (up (up (up (up (up (up (up (up (up (up (up (up (up (up (up (up (up (up (up (up (up (up (up (up (up (up (up (up (up (up (up (up (up (up (up (up (up (up (up (up (up (up (up (up (up (up (up (up (rho0 [a0]) 2 x2) 5 a0) 6 x6) 3 x3) 7 x7) 8 x8) 9 x9) 10 x10) 11 x11) 4 x4) 16 x16) 17 x17) 18 x18) 15 x18) 45 a0) 46 x46) 44 x46) 65 a0) 66 x66) 64 x66) 80 a0) 81 x81) 79 x81) 99 a0) 100 x100) 98 x100) 110 a0) 111 x111) 109 x111) 114 x114) 115 x115) 116 x116) 117 x116) 118 x118) 119 x119) 120 x120) 121 x121) 122 x122) 113 x122) 123 a0) 124 x124) 125 x125) 126 x126) 127 x127) 128 x128) 129 x129) 130 x130) 131 x131) 132 x132) 133 x133) 134 x134) 135 a0) 136 x136) 137 x137) w) (CK Tryd.prog (Value.func (Fn.func 104) #[] #[]) [a0] w fun x13 w => VK Tryd.prog (Instr.loadAt 62 x4) w fun x14 w => UK Tryd.prog (Instr.storeAt 62 x2 x14) w fun _ w => ∃ x2_1, (do loadVar 62 (← asAddr x2) : Sem Value).run Tryd.prog w = .ok x2_1 w ∧ R x2_1 w)))))))
theorem dispatcherref02_cursor_stmt_eq (a0 : Value) (w : World) (R : Value → World → Prop) : sx fn_ Tryd.prog 141 dispatcherref02_cursor_stmt_b (retK Tryd.prog Tryd.f88.results.toList R) (rho0 [a0]) w = dispatcherref02_cursor_stmt_F a0 w R := by kernel_rfl
theorem dispatcherref02_cursor_stmt_calls {a0 : Value} {w : World} {R : Value → World → Prop} (h : dispatcherref02_cursor_stmt_F a0 w R) : Calls Tryd.prog 88 #[a0] w fun e w' => ∃ v, e = .returned v ∧ R v w' :=
  Go.X.calls_of_sx (n := 141) (c := dispatcherref02_cursor_stmt_b) Tryd.func88 (by kernel_rfl) (by kernel_rfl) (Nat.le_of_ble_eq_true rfl) (by kernel_rfl) (Eq.mpr (dispatcherref02_cursor_stmt_eq a0 w R) h)
/-- dispatcher/dispatcherref01.Sign -/
noncomputable def dispatcherref01_Sign_b : Code := (Tryd.f102.body).getD .skip
noncomputable def dispatcherref01_Sign_R0 : Code := cAt [1, 0, 1, 0, 1] dispatcherref01_Sign_b
noncomputable def dispatcherref01_Sign_R1 : Code := cAt [1, 1] dispatcherref01_Sign_b
noncomputable def dispatcherref01_Sign_R0_F (z : At) (K : Exit → Sl → World → Prop) (ρ : Sl) (w : World) : Prop :=
  CondK (ρ 4) (K Exit.ret (up ρ 2 (Value.bool true)) w) (K Exit.normal ρ w)
theorem dispatcherref01_Sign_R0_eq (z : At) (K : Exit → Sl → World → Prop) (ρ : Sl) (w : World) : sx z Tryd.prog 28 dispatcherref01_Sign_R0 K ρ w = dispatcherref01_Sign_R0_F z K ρ w := by kernel_rfl
noncomputable def dispatcherref01_Sign_R1_F (z : At) (K : Exit → Sl → World → Prop) (ρ : Sl) (w : World) : Prop :=
  K Exit.ret (up ρ 2 (Value.bool false)) w
theorem dispatcherref01_Sign_R1_eq (z : At) (K : Exit → Sl → World → Prop) (ρ : Sl) (w : World) : sx z Tryd.prog 28 dispatcherref01_Sign_R1 K ρ w = dispatcherref01_Sign_R1_F z K ρ w := by kernel_rfl
noncomputable def dispatcherref01_Sign_F (a0 : Value) (w : World) (R : Value → World → Prop) : Prop :=
  BK Tryd.prog BinOp.eql 9 (Operand.tmp 3) (Operand.const (Value.string { data := #[40] })) a0 (Value.string { data := #[40] }) w fun x5 w => CondK x5 (sx fn_ Tryd.prog 28 dispatcherref01_Sign_R0 (blkK 0 (seqK (sx fn_ Tryd.prog 28 dispatcherref01_Sign_R1 (retK Tryd.prog [ResultVar.tmp 2] R)) (retK Tryd.prog [ResultVar.tmp 2] R))) (up (up (up (up (rho0 [a0]) 2 (Value.bool false)) 3 a0) 5 x5) 4 x5) w) (BK Tryd.prog BinOp.eql 9 (Operand.tmp 3) (Operand.const (Value.string { data := #[41] })) a0 (Value.string { data := #[41] }) w fun x6 w => CondK x6 (sx fn_ Tryd.prog 28 dispatcherref01_Sign_R0 (blkK 0 (seqK (sx fn_ Tryd.prog 28 dispatcherref01_Sign_R1 (retK Tryd.prog [ResultVar.tmp 2] R)) (retK Tryd.prog [ResultVar.tmp 2] R))) (up (up (up (up (up (up (rho0 [a0]) 2 (Value.bool false)) 3 a0) 5 x5) 4 x5) 6 x6) 4 x6) w) (BK Tryd.prog BinOp.eql 9 (Operand.tmp 3) (Operand.const (Value.string { data := #[123] })) a0 (Value.string { data := #[123] }) w fun x7 w => CondK x7 (sx fn_ Tryd.prog 28 dispatcherref01_Sign_R0 (blkK 0 (seqK (sx fn_ Tryd.prog 28 dispatcherref01_Sign_R1 (retK Tryd.prog [ResultVar.tmp 2] R)) (retK Tryd.prog [ResultVar.tmp 2] R))) (up (up (up (up (up (up (up (up (rho0 [a0]) 2 (Value.bool false)) 3 a0) 5 x5) 4 x5) 6 x6) 4 x6) 7 x7) 4 x7) w) (BK Tryd.prog BinOp.eql 9 (Operand.tmp 3) (Operand.const (Value.string { data := #[125] })) a0 (Value.string { data := #[125] }) w fun x8 w => CondK x8 (sx fn_ Tryd.prog 28 dispatcherref01_Sign_R0 (blkK 0 (seqK (sx fn_ Tryd.prog 28 dispatcherref01_Sign_R1 (retK Tryd.prog [ResultVar.tmp 2] R)) (retK Tryd.prog [ResultVar.tmp 2] R))) (up (up (up (up (up (up (up (up (up (up (rho0 [a0]) 2 (Value.bool false)) 3 a0) 5 x5) 4 x5) 6 x6) 4 x6) 7 x7) 4 x7) 8 x8) 4 x8) w) (BK Tryd.prog BinOp.eql 9 (Operand.tmp 3) (Operand.const (Value.string { data := #[91] })) a0 (Value.string { data := #[91] }) w fun x9 w => CondK x9 (sx fn_ Tryd.prog 28 dispatcherref01_Sign_R0 (blkK 0 (seqK (sx fn_ Tryd.prog 28 dispatcherref01_Sign_R1 (retK Tryd.prog [ResultVar.tmp 2] R)) (retK Tryd.prog [ResultVar.tmp 2] R))) (up (up (up (up (up (up (up (up (up (up (up (up (rho0 [a0]) 2 (Value.bool false)) 3 a0) 5 x5) 4 x5) 6 x6) 4 x6) 7 x7) 4 x7) 8 x8) 4 x8) 9 x9) 4 x9) w) (BK Tryd.prog BinOp.eql 9 (Operand.tmp 3) (Operand.const (Value.string { data := #[93] })) a0 (Value.string { data := #[93] }) w fun x10 w => CondK x10 (sx fn_ Tryd.prog 28 dispatcherref01_Sign_R0 (blkK 0 (seqK (sx fn_ Tryd.prog 28 dispatcherref01_Sign_R1 (retK Tryd.prog [ResultVar.tmp 2] R)) (retK Tryd.prog [ResultVar.tmp 2] R))) (up (up (up (up (up (up (up (up (up (up (up (up (up (up (rho0 [a0]) 2 (Value.bool false)) 3 a0) 5 x5) 4 x5) 6 x6) 4 x6) 7 x7) 4 x7) 8 x8) 4 x8) 9 x9) 4 x9) 10 x10) 4 x10) w) (BK Tryd.prog BinOp.eql 9 (Operand.tmp 3) (Operand.const (Value.string { data := #[59] })) a0 (Value.string { data := #[59] }) w fun x11 w => CondK x11 (sx fn_ Tryd.prog 28 dispatcherref01_Sign_R0 (blkK 0 (seqK (sx fn_ Tryd.prog 28 dispatcherref01_Sign_R1 (retK Tryd.prog [ResultVar.tmp 2] R)) (retK Tryd.prog [ResultVar.tmp 2] R))) (up (up (up (up (up (up (up (up (up (up (up (up (up (up (up (up (rho0 [a0]) 2 (Value.bool false)) 3 a0) 5 x5) 4 x5) 6 x6) 4 x6) 7 x7) 4 x7) 8 x8) 4 x8) 9 x9) 4 x9) 10 x10) 4 x10) 11 x11) 4 x11) w) (BK Tryd.prog BinOp.eql 9 (Operand.tmp 3) (Operand.const (Value.string { data := #[44] })) a0 (Value.string { data := #[44] }) w fun x12 w => CondK x12 (sx fn_ Tryd.prog 28 dispatcherref01_Sign_R0 (blkK 0 (seqK (sx fn_ Tryd.prog 28 dispatcherref01_Sign_R1 (retK Tryd.prog [ResultVar.tmp 2] R)) (retK Tryd.prog [ResultVar.tmp 2] R))) (up (up (up (up (up (up (up (up (up (up (up (up (up (up (up (up (up (up (rho0 [a0]) 2 (Value.bool false)) 3 a0) 5 x5) 4 x5) 6 x6) 4 x6) 7 x7) 4 x7) 8 x8) 4 x8) 9 x9) 4 x9) 10 x10) 4 x10) 11 x11) 4 x11) 12 x12) 4 x12) w) (BK Tryd.prog BinOp.eql 9 (Operand.tmp 3) (Operand.const (Value.string { data := #[61] })) a0 (Value.string { data := #[61] }) w fun x13 w => CondK x13 (sx fn_ Tryd.prog 28 dispatcherref01_Sign_R0 (blkK 0 (seqK (sx fn_ Tryd.prog 28 dispatcherref01_Sign_R1 (retK Tryd.prog [ResultVar.tmp 2] R)) (retK Tryd.prog [ResultVar.tmp 2] R))) (up (up (up (up (up (up (up (up (up (up (up (up (up (up (up (up (up (up (up (up (rho0 [a0]) 2 (Value.bool false)) 3 a0) 5 x5) 4 x5) 6 x6) 4 x6) 7 x7) 4 x7) 8 x8) 4 x8) 9 x9) 4 x9) 10 x10) 4 x10) 11 x11) 4 x11) 12 x12) 4 x12) 13 x13) 4 x13) w) (BK Tryd.prog BinOp.eql 9 (Operand.tmp 3) (Operand.const (Value.string { data := #[43] })) a0 (Value.string { data := #[43] }) w fun x14 w => CondK x14 (sx fn_ Tryd.prog 28 dispatcherref01_Sign_R0 (blkK 0 (seqK (sx fn_ Tryd.prog 28 dispatcherref01_Sign_R1 (retK Tryd.prog [ResultVar.tmp 2] R)) (retK Tryd.prog [ResultVar.tmp 2] R))) (up (up (up (up (up (up (up (up (up (up (up (up (up (up (up (up (up (up (up (up (up (up (rho0 [a0]) 2 (Value.bool false)) 3 a0) 5 x5) 4 x5) 6 x6) 4 x6) 7 x7) 4 x7) 8 x8) 4 x8) 9 x9) 4 x9) 10 x10) 4 x10) 11 x11) 4 x11) 12 x12) 4 x12) 13 x13) 4 x13) 14 x14) 4 x14) w) (BK Tryd.prog BinOp.eql 9 (Operand.tmp 3) (Operand.const (Value.string { data := #[45] })) a0 (Value.string { data := #[45] }) w fun x15 w => CondK x15 (sx fn_ Tryd.prog 28 dispatcherref01_Sign_R0 (blkK 0 (seqK (sx fn_ Tryd.prog 28 dispatcherref01_Sign_R1 (retK Tryd.prog [ResultVar.tmp 2] R)) (retK Tryd.prog [ResultVar.tmp 2] R))) (up (up (up (up (up (up (up (up (up (up (up (up (up (up (up (up (up (up (up (up (up (up (up (up (rho0 [a0]) 2 (Value.bool false)) 3 a0) 5 x5) 4 x5) 6 x6) 4 x6) 7 x7) 4 x7) 8 x8) 4 x8) 9 x9) 4 x9) 10 x10) 4 x10) 11 x11) 4 x11) 12 x12) 4 x12) 13 x13) 4 x13) 14 x14) 4 x14) 15 x15) 4 x15) w) (BK Tryd.prog BinOp.eql 9 (Operand.tmp 3) (Operand.const (Value.string { data := #[42] })) a0 (Value.string { data := #[42] }) w fun x16 w => CondK x16 (sx fn_ Tryd.prog 28 dispatcherref01_Sign_R0 (blkK 0 (seqK (sx fn_ Tryd.prog 28 dispatcherref01_Sign_R1 (retK Tryd.prog [ResultVar.tmp 2] R)) (retK Tryd.prog [ResultVar.tmp 2] R))) (up (up (up (up (up (up (up (up (up (up (up (up (up (up (up (up (up (up (up (up (up (up (up (up (up (up (rho0 [a0]) 2 (Value.bool false)) 3 a0) 5 x5) 4 x5) 6 x6) 4 x6) 7 x7) 4 x7) 8 x8) 4 x8) 9 x9) 4 x9) 10 x10) 4 x10) 11 x11) 4 x11) 12 x12) 4 x12) 13 x13) 4 x13) 14 x14) 4 x14) 15 x15) 4 x15) 16 x16) 4 x16) w) (BK Tryd.prog BinOp.eql 9 (Operand.tmp 3) (Operand.const (Value.string { data := #[47] })) a0 (Value.string { data := #[47] }) w fun x17 w => CondK x17 (sx fn_ Tryd.prog 28 dispatcherref01_Sign_R0 (blkK 0 (seqK (sx fn_ Tryd.prog 28 dispatcherref01_Sign_R1 (retK Tryd.prog [ResultVar.tmp 2] R)) (retK Tryd.prog [ResultVar.tmp 2] R))) (up (up (up (up (up (up (up (up (up (up (up (up (up (up (up (up (up (up (up (up (up (up (up (up (up (up (up (up (rho0 [a0]) 2 (Value.bool false)) 3 a0) 5 x5) 4 x5) 6 x6) 4 x6) 7 x7) 4 x7) 8 x8) 4 x8) 9 x9) 4 x9) 10 x10) 4 x10) 11 x11) 4 x11) 12 x12) 4 x12) 13 x13) 4 x13) 14 x14) 4 x14) 15 x15) 4 x15) 16 x16) 4 x16) 17 x17) 4 x17) w) (BK Tryd.prog BinOp.eql 9 (Operand.tmp 3) (Operand.const (Value.string { data := #[37] })) a0 (Value.string { data := #[37] }) w fun x18 w => CondK x18 (sx fn_ Tryd.prog 28 dispatcherref01_Sign_R0 (blkK 0 (seqK (sx fn_ Tryd.prog 28 dispatcherref01_Sign_R1 (retK Tryd.prog [ResultVar.tmp 2] R)) (retK Tryd.prog [ResultVar.tmp 2] R))) (up (up (up (up (up (up (up (up (up (up (up (up (up (up (up (up (up (up (up (up (up (up (up (up (up (up (up (up (up (up (rho0 [a0]) 2 (Value.bool false)) 3 a0) 5 x5) 4 x5) 6 x6) 4 x6) 7 x7) 4 x7) 8 x8) 4 x8) 9 x9) 4 x9) 10 x10) 4 x10) 11 x11) 4 x11) 12 x12) 4 x12) 13 x13) 4 x13) 14 x14) 4 x14) 15 x15) 4 x15) 16 x16) 4 x16) 17 x17) 4 x17) 18 x18) 4 x18) w) (BK Tryd.prog BinOp.eql 9 (Operand.tmp 3) (Operand.const (Value.string { data := #[60] })) a0 (Value.string { data := #[60] }) w fun x19 w => CondK x19 (sx fn_ Tryd.prog 28 dispatcherref01_Sign_R0 (blkK 0 (seqK (sx fn_ Tryd.prog 28 dispatcherref01_Sign_R1 (retK Tryd.prog [ResultVar.tmp 2] R)) (retK Tryd.prog [ResultVar.tmp 2] R))) (up (up (up (up (up (up (up (up (up (up (up (up (up (up (up (up (up (up (up (up (up (up (up (up (up (up (up (up (up (up (up (up (rho0 [a0]) 2 (Value.bool false)) 3 a0) 5 x5) 4 x5) 6 x6) 4 x6) 7 x7) 4 x7) 8 x8) 4 x8) 9 x9) 4 x9) 10 x10) 4 x10) 11 x11) 4 x11) 12 x12) 4 x12) 13 x13) 4 x13) 14 x14) 4 x14) 15 x15) 4 x15) 16 x16) 4 x16) 17 x17) 4 x17) 18 x18) 4 x18) 19 x19) 4 x19) w) (BK Tryd.prog BinOp.eql 9 (Operand.tmp 3) (Operand.const (Value.string { data := #[60, 61] })) a0 (Value.string { data := #[60, 61] }) w fun x20 w => CondK x20 (sx fn_ Tryd.prog 28 dispatcherref01_Sign_R0 (blkK 0 (seqK (sx fn_ Tryd.prog 28 dispatcherref01_Sign_R1 (retK Tryd.prog [ResultVar.tmp 2] R)) (retK Tryd.prog [ResultVar.tmp 2] R))) (up (up (up (up (up (up (up (up (up (up (up (up (up (up (up (up (up (up (up (up (up (up (up (up (up (up (up (up (up (up (up (up (up (up (rho0 [a0]) 2 (Value.bool false)) 3 a0) 5 x5) 4 x5) 6 x6) 4 x6) 7 x7) 4 x7) 8 x8) 4 x8) 9 x9) 4 x9) 10 x10) 4 x10) 11 x11) 4 x11) 12 x12) 4 x12) 13 x13) 4 x13) 14 x14) 4 x14) 15 x15) 4 x15) 16 x16) 4 x16) 17 x17) 4 x17) 18 x18) 4 x18) 19 x19) 4 x19) 20 x20) 4 x20) w) (BK Tryd.prog BinOp.eql 9 (Operand.tmp 3) (Operand.const (Value.string { data := #[62] })) a0 (Value.string { data := #[62] }) w fun x21 w => CondK x21 (sx fn_ Tryd.prog 28 dispatcherref01_Sign_R0 (blkK 0 (seqK (sx fn_ Tryd.prog 28 dispatcherref01_Sign_R1 (retK Tryd.prog [ResultVar.tmp 2] R)) (retK Tryd.prog [ResultVar.tmp 2] R))) (up (up (up (up (up (up (up (up (up (up (up (up (up (up (up (up (up (up (up (up (up (up (up (up (up (up (up (up (up (up (up (up (up (up (up (up (rho0 [a0]) 2 (Value.bool false)) 3 a0) 5 x5) 4 x5) 6 x6) 4 x6) 7 x7) 4 x7) 8 x8) 4 x8) 9 x9) 4 x9) 10 x10) 4 x10) 11 x11) 4 x11) 12 x12) 4 x12) 13 x13) 4 x13) 14 x14) 4 x14) 15 x15) 4 x15) 16 x16) 4 x16) 17 x17) 4 x17) 18 x18) 4 x18) 19 x19) 4 x19) 20 x20) 4 x20) 21 x21) 4 x21) w) (BK Tryd.prog BinOp.eql 9 (Operand.tmp 3) (Operand.const (Value.string { data := #[62, 61] })) a0 (Value.string { data := #[62, 61] }) w fun x22 w => CondK x22 (sx fn_ Tryd.prog 28 dispatcherref01_Sign_R0 (blkK 0 (seqK (sx fn_ Tryd.prog 28 dispatcherref01_Sign_R1 (retK Tryd.prog [ResultVar.tmp 2] R)) (retK Tryd.prog [ResultVar.tmp 2] R))) (up (up (up (up (up (up (up (up (up (up (up (up (up (up (up (up (up (up (up (up (up (up (up (up (up (up (up (up (up (up (up (up (up (up (up (up (up (up (rho0 [a0]) 2 (Value.bool false)) 3 a0) 5 x5) 4 x5) 6 x6) 4 x6) 7 x7) 4 x7) 8 x8) 4 x8) 9 x9) 4 x9) 10 x10) 4 x10) 11 x11) 4 x11) 12 x12) 4 x12) 13 x13) 4 x13) 14 x14) 4 x14) 15 x15) 4 x15) 16 x16) 4 x16) 17 x17) 4 x17) 18 x18) 4 x18) 19 x19) 4 x19) 20 x20) 4 x20) 21 x21) 4 x21) 22 x22) 4 x22) w) (BK Tryd.prog BinOp.eql 9 (Operand.tmp 3) (Operand.const (Value.string { data := #[61, 61] })) a0 (Value.string { data := #[61, 61] }) w fun x23 w => CondK x23 (sx fn_ Tryd.prog 28 dispatcherref01_Sign_R0 (blkK 0 (seqK (sx fn_ Tryd.prog 28 dispatcherref01_Sign_R1 (retK Tryd.prog [ResultVar.tmp 2] R)) (retK Tryd.prog [ResultVar.tmp 2] R))) (up (up (up (up (up (up (up (up (up (up (up (up (up (up (up (up (up (up (up (up (up (up (up (up (up (up (up (up (up (up (up (up (up (up (up (up (up (up (up (up (rho0 [a0]) 2 (Value.bool false)) 3 a0) 5 x5) 4 x5) 6 x6) 4 x6) 7 x7) 4 x7) 8 x8) 4 x8) 9 x9) 4 x9) 10 x10) 4 x10) 11 x11) 4 x11) 12 x12) 4 x12) 13 x13) 4 x13) 14 x14) 4 x14) 15 x15) 4 x15) 16 x16) 4 x16) 17 x17) 4 x17) 18 x18) 4 x18) 19 x19) 4 x19) 20 x20) 4 x20) 21 x21) 4 x21) 22 x22) 4 x22) 23 x23) 4 x23) w) (BK Tryd.prog BinOp.eql 9 (Operand.tmp 3) (Operand.const (Value.string { data := #[33, 61] })) a0 (Value.string { data := #[33, 61] }) w fun x24 w => CondK x24 (sx fn_ Tryd.prog 28 dispatcherref01_Sign_R0 (blkK 0 (seqK (sx fn_ Tryd.prog 28 dispatcherref01_Sign_R1 (retK Tryd.prog [ResultVar.tmp 2] R)) (retK Tryd.prog [ResultVar.tmp 2] R))) (up (up (up (up (up (up (up (up (up (up (up (up (up (up (up (up (up (up (up (up (up (up (up (up (up (up (up (up (up (up (up (up (up (up (up (up (up (up (up (up (up (up (rho0 [a0]) 2 (Value.bool false)) 3 a0) 5 x5) 4 x5) 6 x6) 4 x6) 7 x7) 4 x7) 8 x8) 4 x8) 9 x9) 4 x9) 10 x10) 4 x10) 11 x11) 4 x11) 12 x12) 4 x12) 13 x13) 4 x13) 14 x14) 4 x14) 15 x15) 4 x15) 16 x16) 4 x16) 17 x17) 4 x17) 18 x18) 4 x18) 19 x19) 4 x19) 20 x20) 4 x20) 21 x21) 4 x21) 22 x22) 4 x22) 23 x23) 4 x23) 24 x24) 4 x24) w) (BK Tryd.prog BinOp.eql 9 (Operand.tmp 3) (Operand.const (Value.string { data := #[38, 38] })) a0 (Value.string { data := #[38, 38] }) w fun x25 w => CondK x25 (sx fn_ Tryd.prog 28 dispatcherref01_Sign_R0 (blkK 0 (seqK (sx fn_ Tryd.prog 28 dispatcherref01_Sign_R1 (retK Tryd.prog [ResultVar.tmp 2] R)) (retK Tryd.prog [ResultVar.tmp 2] R))) (up (up (up (up (up (up (up (up (up (up (up (up (up (up (up (up (up (up (up (up (up (up (up (up (up (up (up (up (up (up (up (up (up (up (up (up (up (up (up (up (up (up (up (up (rho0 [a0]) 2 (Value.bool false)) 3 a0) 5 x5) 4 x5) 6 x6) 4 x6) 7 x7) 4 x7) 8 x8) 4 x8) 9 x9) 4 x9) 10 x10) 4 x10) 11 x11) 4 x11) 12 x12) 4 x12) 13 x13) 4 x13) 14 x14) 4 x14) 15 x15) 4 x15) 16 x16) 4 x16) 17 x17) 4 x17) 18 x18) 4 x18) 19 x19) 4 x19) 20 x20) 4 x20) 21 x21) 4 x21) 22 x22) 4 x22) 23 x23) 4 x23) 24 x24) 4 x24) 25 x25) 4 x25) w) (BK Tryd.prog BinOp.eql 9 (Operand.tmp 3) (Operand.const (Value.string { data := #[124, 124] })) a0 (Value.string { data := #[124, 124] }) w fun x26 w => CondK x26 (sx fn_ Tryd.prog 28 dispatcherref01_Sign_R0 (blkK 0 (seqK (sx fn_ Tryd.prog 28 dispatcherref01_Sign_R1 (retK Tryd.prog [ResultVar.tmp 2] R)) (retK Tryd.prog [ResultVar.tmp 2] R))) (up (up (up (up (up (up (up (up (up (up (up (up (up (up (up (up (up (up (up (up (up (up (up (up (up (up (up (up (up (up (up (up (up (up (up (up (up (up (up (up (up (up (up (up (up (up (rho0 [a0]) 2 (Value.bool false)) 3 a0) 5 x5) 4 x5) 6 x6) 4 x6) 7 x7) 4 x7) 8 x8) 4 x8) 9 x9) 4 x9) 10 x10) 4 x10) 11 x11) 4 x11) 12 x12) 4 x12) 13 x13) 4 x13) 14 x14) 4 x14) 15 x15) 4 x15) 16 x16) 4 x16) 17 x17) 4 x17) 18 x18) 4 x18) 19 x19) 4 x19) 20 x20) 4 x20) 21 x21) 4 x21) 22 x22) 4 x22) 23 x23) 4 x23) 24 x24) 4 x24) 25 x25) 4 x25) 26 x26) 4 x26) w) (BK Tryd.prog BinOp.eql 9 (Operand.tmp 3) (Operand.const (Value.string { data := #[33] })) a0 (Value.string { data := #[33] }) w fun x27 w => sx fn_ Tryd.prog 28 dispatcherref01_Sign_R0 (blkK 0 (seqK (sx fn_ Tryd.prog 28 dispatcherref01_Sign_R1 (retK Tryd.prog [ResultVar.tmp 2] R)) (retK Tryd.prog [ResultVar.tmp 2] R))) (up (up (up (up (up (up (up (up (up (up (up (up (up (up (up (up (up (up (up (up (up (up (up (up (up (up (up (up (up (up (up (up (up (up (up (up (up (up (up (up (up (up (up (up (up (up (up (up (rho0 [a0]) 2 (Value.bool false)) 3 a0) 5 x5) 4 x5) 6 x6) 4 x6) 7 x7) 4 x7) 8 x8) 4 x8) 9 x9) 4 x9) 10 x10) 4 x10) 11 x11) 4 x11) 12 x12) 4 x12) 13 x13) 4 x13) 14 x14) 4 x14) 15 x15) 4 x15) 16 x16) 4 x16) 17 x17) 4 x17) 18 x18) 4 x18) 19 x19) 4 x19) 20 x20) 4 x20) 21 x21) 4 x21) 22 x22) 4 x22) 23 x23) 4 x23) 24 x24) 4 x24) 25 x25) 4 x25) 26 x26) 4 x26) 27 x27) 4 x27) w))))))))))))))))))))))
theorem dispatcherref01_Sign_eq (a0 : Value) (w : World) (R : Value → World → Prop) : sx fn_ Tryd.prog 28 dispatcherref01_Sign_b (retK Tryd.prog Tryd.f102.results.toList R) (rho0 [a0]) w = dispatcherref01_Sign_F a0 w R := by kernel_rfl
theorem dispatcherref01_Sign_calls {a0 : Value} {w : World} {R : Value → World → Prop} (h : dispatcherref01_Sign_F a0 w R) : Calls Tryd.prog 102 #[a0] w fun e w' => ∃ v, e = .returned v ∧ R v w' :=
  Go.X.calls_of_sx (n := 28) (c := dispatcherref01_Sign_b) Tryd.func102 (by kernel_rfl) (by kernel_rfl) (Nat.le_of_ble_eq_true rfl) (by kernel_rfl) (Eq.mpr (dispatcherref01_Sign_eq a0 w R) h)
/-- dispatcher/dispatcherref01.Number -/
noncomputable def dispatcherref01_Number_b : Code := (Tryd.f103.body).getD .skip
noncomputable def dispatcherref01_Number_L0 : Code := cAt [1, 1, 1, 0, 1, 0, 0] dispatcherref01_Number_b
noncomputable def dispatcherref01_Number_R1 : Code := cAt [1, 1, 1, 1] dispatcherref01_Number_b
noncomputable def dispatcherref01_Number_L0_F (z : At) (K : Exit → Sl → World → Prop) (ρ : Sl) (w : World) : Prop :=
  IK Tryd.prog Builtin.len #[9] 3 [false] [(ρ 0)] w fun x26 w => BK Tryd.prog BinOp.lss 3 (Operand.tmp 24) (Operand.tmp 26) (ρ 5) x26 w fun x27 w => CondK x27 (VK Tryd.prog (Instr.index 9 (ρ 0) (ρ 5)) w fun x32 w => CK Tryd.prog (Value.func (Fn.func 45) #[] #[]) [x32] w fun x33 w => VK Tryd.prog (Op.unary UnOp.not x33) w fun x34 w => CondK x34 (K Exit.ret (up (up (up (up (up (up (up (up (up (up (up ρ 24 (ρ 5)) 25 (ρ 0)) 26 x26) 27 x27) 30 (ρ 0)) 31 (ρ 5)) 32 x32) 33 x33) 34 x34) 2 (Value.int IntKind.i64 0)) 3 (Value.bool false)) w) (BK Tryd.prog BinOp.mul 2 (Operand.const (Value.int IntKind.i64 10)) (Operand.tmp 35) (Value.int IntKind.i64 10) (ρ 4) w fun x36 w => VK Tryd.prog (Instr.index 9 (ρ 0) (ρ 5)) w fun x39 w => BK Tryd.prog BinOp.sub 5 (Operand.tmp 39) (Operand.const (Value.int IntKind.u8 48)) x39 (Value.int IntKind.u8 48) w fun x40 w => VK Tryd.prog (convert 5 2 x40) w fun x41 w => BK Tryd.prog BinOp.add 2 (Operand.tmp 36) (Operand.tmp 41) x36 x41 w fun x42 w => BK Tryd.prog BinOp.add 3 (Operand.tmp 28) (Operand.const (Value.int IntKind.i64 1)) (ρ 5) (Value.int IntKind.i64 1) w fun x29 w => K Exit.normal (up (up (up (up (up (up (up (up (up (up (up (up (up (up (up (up (up (up (up (up (up ρ 24 (ρ 5)) 25 (ρ 0)) 26 x26) 27 x27) 30 (ρ 0)) 31 (ρ 5)) 32 x32) 33 x33) 34 x34) 35 (ρ 4)) 36 x36) 37 (ρ 0)) 38 (ρ 5)) 39 x39) 40 x40) 41 x41) 42 x42) 4 x42) 28 (ρ 5)) 29 x29) 5 x29) w)) (K (Exit.exit 0) (up (up (up (up ρ 24 (ρ 5)) 25 (ρ 0)) 26 x26) 27 x27) w)
theorem dispatcherref01_Number_L0_eq (z : At) (K : Exit → Sl → World → Prop) (ρ : Sl) (w : World) : sx z Tryd.prog 44 dispatcherref01_Number_L0 K ρ w = dispatcherref01_Number_L0_F z K ρ w := by kernel_rfl
theorem dispatcherref01_Number_L0_ok : dstOk 44 dispatcherref01_Number_L0 = true := by kernel_rfl
noncomputable def dispatcherref01_Number_R1_F (z : At) (K : Exit → Sl → World → Prop) (ρ : Sl) (w : World) : Prop :=
  K Exit.ret (up (up (up ρ 43 (ρ 4)) 2 (ρ 4)) 3 (Value.bool true)) w
theorem dispatcherref01_Number_R1_eq (z : At) (K : Exit → Sl → World → Prop) (ρ : Sl) (w : World) : sx z Tryd.prog 44 dispatcherref01_Number_R1 K ρ w = dispatcherref01_Number_R1_F z K ρ w := by kernel_rfl
noncomputable def dispatcherref01_Number_F (a0 : Value) (w : World) (R : Value → World → Prop) : Prop :=
  IK Tryd.prog Builtin.len #[9] 3 [false] [a0] w fun x7 w => BK Tryd.prog BinOp.lss 3 (Operand.tmp 7) (Operand.const (Value.int IntKind.i64 1)) x7 (Value.int IntKind.i64 1) w fun x8 w => MG Tryd.prog x8 false a0 w fun x10 w => IG Tryd.prog x8 false Builtin.len #[9] 3 [false] [x10] w fun x11 w => BG Tryd.prog x8 false BinOp.gtr 3 (Operand.tmp 11) (Operand.const (Value.int IntKind.i64 18)) x11 (Value.int IntKind.i64 18) w fun x12 w => PK Tryd.prog x8 (Value.bool true) x12 w fun x13 w => MG Tryd.prog x13 false a0 w fun x15 w => VG Tryd.prog x13 false (Instr.index 9 x15 (Value.int IntKind.i64 0)) w fun x16 w => BG Tryd.prog x13 false BinOp.eql 5 (Operand.tmp 16) (Operand.const (Value.int IntKind.u8 48)) x16 (Value.int IntKind.u8 48) w fun x17 w => MG Tryd.prog x13 false x17 w fun x18 w => MG Tryd.prog x18 true a0 w fun x19 w => IG Tryd.prog x18 true Builtin.len #[9] 3 [false] [x19] w fun x20 w => BG Tryd.prog x18 true BinOp.gtr 3 (Operand.tmp 20) (Operand.const (Value.int IntKind.i64 1)) x20 (Value.int IntKind.i64 1) w fun x21 w => PG Tryd.prog x13 false x18 x21 (Value.bool false) w fun x22 w => PK Tryd.prog x13 (Value.bool true) x22 w fun x23 w => CondK x23 (R (Value.tuple #[(Value.int IntKind.i64 0), (Value.bool false)]) w) (W fn_ Tryd.prog 44 (Code.loop dispatcherref01_Number_L0) (blkK 0 (seqK (sx fn_ Tryd.prog 44 dispatcherref01_Number_R1 (retK Tryd.prog [ResultVar.tmp 2, ResultVar.tmp 3] R)) (retK Tryd.prog [ResultVar.tmp 2, ResultVar.tmp 3] R))) (up (up (up (up (up (up (up (up (up (up (up (up (up (up (up (up (up (up (up (up (up (up (rho0 [a0]) 2 (Value.int IntKind.i64 0)) 3 (Value.bool false)) 6 a0) 7 x7) 8 x8) 9 x8) 10 x10) 11 x11) 12 x12) 13 x13) 14 x13) 15 x15) 16 x16) 17 x17) 18 x18) 19 x19) 20 x20) 21 x21) 22 x22) 23 x23) 4 (Value.int IntKind.i64 0)) 5 (Value.int IntKind.i64 0)) w)
theorem dispatcherref01_Number_eq (a0 : Value) (w : World) (R : Value → World → Prop) : sx fn_ Tryd.prog 44 dispatcherref01_Number_b (retK Tryd.prog Tryd.f103.results.toList R) (rho0 [a0]) w = dispatcherref01_Number_F a0 w R := by kernel_rfl
theorem dispatcherref01_Number_calls {a0 : Value} {w : World} {R : Value → World → Prop} (h : dispatcherref01_Number_F a0 w R) : Calls Tryd.prog 103 #[a0] w fun e w' => ∃ v, e = .returned v ∧ R v w' :=
  Go.X.calls_of_sx (n := 44) (c := dispatcherref01_Number_b) Tryd.func103 (by kernel_rfl) (by kernel_rfl) (Nat.le_of_ble_eq_true rfl) (by kernel_rfl) (Eq.mpr (dispatcherref01_Number_eq a0 w R) h)
/-- (*dispatcher/dispatcherref02.cursor).expr -/
noncomputable def dispatcherref02_cursor_expr_b : Code := (Tryd.f105.body).getD .skip
noncomputable def dispatcherref02_cursor_expr_L0 : Code := cAt [1, 1, 1, 1, 0, 0, 0] dispatcherref02_cursor_expr_b
noncomputable def dispatcherref02_cursor_expr_R1 : Code := cAt [1, 1, 1, 1, 1] dispatcherref02_cursor_expr_b
noncomputable def dispatcherref02_cursor_expr_L0_F (z : At) (K : Exit → Sl → World → Prop) (ρ : Sl) (w : World) : Prop :=
  CK Tryd.prog (Value.func (Fn.func 87) #[] #[]) [(ρ 0)] w fun x24 w => CondK x24 (CK Tryd.prog (Value.func (Fn.func 83) #[] #[]) [(ρ 0)] w fun x26 w => VK Tryd.prog (Instr.alloc 109 true (.tuple #[])) w fun x6 w => UK Tryd.prog (Instr.storeAt 109 x6 x26) w fun _ w => VK Tryd.prog (Instr.fieldAt 109 x6 1) w fun x28 w => VK Tryd.prog (Instr.loadAt 9 x28) w fun x29 w => CK Tryd.prog (Value.func (Fn.func 114) #[] #[]) [x29] w fun x30 w => VK Tryd.prog (Instr.extract x30 0) w fun x31 w => VK Tryd.prog (Instr.extract x30 1) w fun x32 w => VK Tryd.prog (Instr.fieldAt 109 x6 0) w fun x33 w => VK Tryd.prog (Instr.loadAt 5 x33) w fun x34 w => BK Tryd.prog BinOp.eql 5 (Operand.tmp 34) (Operand.const (Value.int IntKind.u8 0)) x34 (Value.int IntKind.u8 0) w fun x35 w => MG Tryd.prog x35 false x31 w fun x37 w => BG Tryd.prog x35 false BinOp.eql 5 (Operand.tmp 37) (Operand.const (Value.int IntKind.u8 0)) x37 (Value.int IntKind.u8 0) w fun x38 w => PK Tryd.prog x35 (Value.bool true) x38 w fun x39 w => MG Tryd.prog x39 false x32 w fun x41 w => MG Tryd.prog x39 false (ρ 1) w fun x42 w => BG Tryd.prog x39 false BinOp.neq 3 (Operand.tmp 41) (Operand.tmp 42) x41 x42 w fun x43 w => PK Tryd.prog x39 (Value.bool true) x43 w fun x44 w => CondK x44 (VK Tryd.prog (Instr.loadAt 60 (ρ 5)) w fun x45 w => UK Tryd.prog (Instr.storeAt 60 (ρ 4) x45) w fun _ w => K Exit.ret (up (up (up (up (up (up (up (up (up (up (up (up (up (up (up (up (up (up (up (up (up (up (up (up (up (up ρ 23 (ρ 0)) 24 x24) 25 (ρ 0)) 26 x26) 6 x6) 28 x28) 29 x29) 30 x30) 27 x30) 31 x31) 32 x32) 7 x31) 8 x32) 33 x33) 34 x34) 35 x35) 36 x35) 37 x37) 38 x38) 39 x39) 40 x39) 41 x41) 42 x42) 43 x43) 44 x44) 45 x45) w) (NK Tryd.prog (ρ 0) w fun x47 w => VK Tryd.prog (Instr.fieldAt 113 x47 1) w fun x48 w => VK Tryd.prog (Instr.loadAt 3 x48) w fun x49 w => BK Tryd.prog BinOp.add 3 (Operand.tmp 49) (Operand.const (Value.int IntKind.i64 1)) x49 (Value.int IntKind.i64 1) w fun x50 w => NK Tryd.prog (ρ 0) w fun x51 w => VK Tryd.prog (Instr.fieldAt 113 x51 1) w fun x52 w => UK Tryd.prog (Instr.storeAt 3 x52 x50) w fun _ w => BK Tryd.prog BinOp.add 3 (Operand.tmp 54) (Operand.const (Value.int IntKind.i64 1)) (ρ 1) (Value.int IntKind.i64 1) w fun x55 w => CK Tryd.prog (Value.func (Fn.func 105) #[] #[]) [(ρ 0), x55] w fun x56 w => VK Tryd.prog (Instr.alloc 60 true (.tuple #[])) w fun x9 w => UK Tryd.prog (Instr.storeAt 60 x9 x56) w fun _ w => VK Tryd.prog (Instr.fieldAt 109 x6 3) w fun x58 w => VK Tryd.prog (Instr.loadAt 3 x58) w fun x59 w => VK Tryd.prog (Instr.fieldAt 109 x6 4) w fun x60 w => VK Tryd.prog (Instr.loadAt 3 x60) w fun x61 w => VK Tryd.prog (Instr.build 60 [(0, x31), (4, x59), (5, x61)].toArray) w fun x62 w => VK Tryd.prog (Instr.alloc 60 true (.tuple #[])) w fun x10 w => UK Tryd.prog (Instr.storeAt 60 x10 x62) w fun _ w => VK Tryd.prog (Instr.fieldAt 60 x10 3) w fun x63 w => VK Tryd.prog (Instr.loadAt 58 x63) w fun x64 w => VK Tryd.prog (Instr.loadAt 60 (ρ 5)) w fun x65 w => VK Tryd.prog (Instr.loadAt 60 x9) w fun x66 w => VK Tryd.prog (Instr.buildSlice 58 2 [(0, x65), (1, x66)].toArray) w fun x67 w => IK Tryd.prog Builtin.append #[58, 58] 58 [false, false] [x64, x67] w fun x68 w => VK Tryd.prog (Instr.fieldAt 60 x10 3) w fun x69 w => UK Tryd.prog (Instr.storeAt 58 x69 x68) w fun _ w => VK Tryd.prog (Instr.loadAt 60 x10) w fun x70 w => UK Tryd.prog (Instr.storeAt 60 (ρ 5) x70) w fun _ w => BK Tryd.prog BinOp.eql 3 (Operand.tmp 71) (Operand.const (Value.int IntKind.i64 2)) (ρ 1) (Value.int IntKind.i64 2) w fun x72 w => CondK x72 (VK Tryd.prog (Instr.loadAt 60 (ρ 5)) w fun x73 w => UK Tryd.prog (Instr.storeAt 60 (ρ 4) x73) w fun _ w => K Exit.ret (up (up (up (up (up (up (up (up (up (up (up (up (up (up (up (up (up (up (up (up (up (up (up (up (up (up (up (up (up (up (up (up (up (up (up (up (up (up (up (up (up (up (up (up (up (up (up (up (up (up (up (up (up (up (up ρ 23 (ρ 0)) 24 x24) 25 (ρ 0)) 26 x26) 6 x6) 28 x28) 29 x29) 30 x30) 27 x30) 31 x31) 32 x32) 7 x31) 8 x32) 33 x33) 34 x34) 35 x35) 36 x35) 37 x37) 38 x38) 39 x39) 40 x39) 41 x41) 42 x42) 43 x43) 44 x44) 46 (ρ 0)) 47 x47) 48 x48) 49 x49) 50 x50) 51 x51) 52 x52) 53 (ρ 0)) 54 (ρ 1)) 55 x55) 56 x56) 9 x9) 57 x31) 58 x58) 59 x59) 60 x60) 61 x61) 62 x62) 10 x10) 63 x63) 64 x64) 65 x65) 66 x66) 67 x67) 68 x68) 69 x69) 70 x70) 71 (ρ 1)) 72 x72) 73 x73) w) (K Exit.normal (up (up (up (up (up (up (up (up (up (up (up (up (up (up (up (up (up (up (up (up (up (up (up (up (up (up (up (up (up (up (up (up (up (up (up (up (up (up (up (up (up (up (up (up (up (up (up (up (up (up (up (up (up (up ρ 23 (ρ 0)) 24 x24) 25 (ρ 0)) 26 x26) 6 x6) 28 x28) 29 x29) 30 x30) 27 x30) 31 x31) 32 x32) 7 x31) 8 x32) 33 x33) 34 x34) 35 x35) 36 x35) 37 x37) 38 x38) 39 x39) 40 x39) 41 x41) 42 x42) 43 x43) 44 x44) 46 (ρ 0)) 47 x47) 48 x48) 49 x49) 50 x50) 51 x51) 52 x52) 53 (ρ 0)) 54 (ρ 1)) 55 x55) 56 x56) 9 x9) 57 x31) 58 x58) 59 x59) 60 x60) 61 x61) 62 x62) 10 x10) 63 x63) 64 x64) 65 x65) 66 x66) 67 x67) 68 x68) 69 x69) 70 x70) 71 (ρ 1)) 72 x72) w))) (K (Exit.exit 0) (up (up ρ 23 (ρ 0)) 24 x24) w)
theorem dispatcherref02_cursor_expr_L0_eq (z : At) (K : Exit → Sl → World → Prop) (ρ : Sl) (w : World) : sx z Tryd.prog 75 dispatcherref02_cursor_expr_L0 K ρ w = dispatcherref02_cursor_expr_L0_F z K ρ w := by kernel_rfl
theorem dispatcherref02_cursor_expr_L0_ok : dstOk 75 dispatcherref02_cursor_expr_L0 = true := by kernel_rfl
noncomputable def dispatcherref02_cursor_expr_F (a0 a1 : Value) (w : World) (R : Value → World → Prop) : Prop :=
  VK Tryd.prog (Instr.alloc 60 true (.tuple #[])) w fun x4 w => CK Tryd.prog (Value.func (Fn.func 87) #[] #[]) [a0] w fun x12 w => VK Tryd.prog (Op.unary UnOp.not x12) w fun x13 w => CondK x13 (VK Tryd.prog (Instr.build 60 [].toArray) w fun x14 w => UK Tryd.prog (Instr.storeAt 60 x4 x14) w fun _ w => ∃ x4_1, (do loadVar 60 (← asAddr x4) : Sem Value).run Tryd.prog w = .ok x4_1 w ∧ R x4_1 w) (BK Tryd.prog BinOp.gtr 3 (Operand.tmp 15) (Operand.const (Value.int IntKind.i64 4)) a1 (Value.int IntKind.i64 4) w fun x16 w => CondK x16 (CK Tryd.prog (Value.func (Fn.func 113) #[] #[]) [a0] w fun x18 w => UK Tryd.prog (Instr.storeAt 60 x4 x18) w fun _ w => ∃ x4_2, (do loadVar 60 (← asAddr x4) : Sem Value).run Tryd.prog w = .ok x4_2 w ∧ R x4_2 w) (BK Tryd.prog BinOp.add 3 (Operand.tmp 20) (Operand.const (Value.int IntKind.i64 1)) a1 (Value.int IntKind.i64 1) w fun x21 w => CK Tryd.prog (Value.func (Fn.func 105) #[] #[]) [a0, x21] w fun x22 w => VK Tryd.prog (Instr.alloc 60 true (.tuple #[])) w fun x5 w => UK Tryd.prog (Instr.storeAt 60 x5 x22) w fun _ w => W fn_ Tryd.prog 75 (Code.loop dispatcherref02_cursor_expr_L0) (blkK 0 (seqK (sx fn_ Tryd.prog 75 dispatcherref02_cursor_expr_R1 (retK Tryd.prog [ResultVar.cell 4 60] R)) (retK Tryd.prog [ResultVar.cell 4 60] R))) (up (up (up (up (up (up (up (up (up (up (up (rho0 [a0, a1]) 4 x4) 11 a0) 12 x12) 13 x13) 15 a1) 16 x16) 19 a0) 20 a1) 21 x21) 22 x22) 5 x5) w))
theorem dispatcherref02_cursor_expr_eq (a0 a1 : Value) (w : World) (R : Value → World → Prop) : sx fn_ Tryd.prog 75 dispatcherref02_cursor_expr_b (retK Tryd.prog Tryd.f105.results.toList R) (rho0 [a0, a1]) w = dispatcherref02_cursor_expr_F a0 a1 w R := by kernel_rfl
theorem dispatcherref02_cursor_expr_calls {a0 a1 : Value} {w : World} {R : Value → World → Prop} (h : dispatcherref02_cursor_expr_F a0 a1 w R) : Calls Tryd.prog 105 #[a0, a1] w fun e w' => ∃ v, e = .returned v ∧ R v w' :=
  Go.X.calls_of_sx (n := 75) (c := dispatcherref02_cursor_expr_b) Tryd.func105 (by kernel_rfl) (by kernel_rfl) (Nat.le_of_ble_eq_true rfl) (by kernel_rfl) (Eq.mpr (dispatcherref02_cursor_expr_eq a0 a1 w R) h)
/-- (*dispatcher/dispatcherref02.cursor).block -/
noncomputable def dispatcherref02_cursor_block_b : Code := (Tryd.f106.body).getD .skip
noncomputable def dispatcherref02_cursor_block_L0 : Code := cAt [1, 1, 1, 0, 0, 0] dispatcherref02_cursor_block_b
noncomputable def dispatcherref02_cursor_block_R1 : Code := cAt [1, 1, 1, 1] dispatcherref02_cursor_block_b
noncomputable def dispatcherref02_cursor_block_L0_F (z : At) (K : Exit → Sl → World → Prop) (ρ : Sl) (w : World) : Prop :=
  CK Tryd.prog (Value.func (Fn.func 87) #[] #[]) [(ρ 0)] w fun x7 w => MG Tryd.prog x7 true (ρ 0) w fun x9 w => CG Tryd.prog x7 true (Value.func (Fn.func 82) #[] #[]) [x9, (Value.string { data := #[125] })] w fun x10 w => VG Tryd.prog x7 true (Op.unary UnOp.not x10) w fun x11 w => PK Tryd.prog x7 x11 (Value.bool false) w fun x12 w => CondK x12 (CK Tryd.prog (Value.func (Fn.func 88) #[] #[]) [(ρ 0)] w fun x15 w => VK Tryd.prog (Instr.buildSlice 23 1 [(0, x15)].toArray) w fun x16 w => IK Tryd.prog Builtin.append #[23, 23] 23 [false, false] [(ρ 3), x16] w fun x17 w => K Exit.normal (up (up (up (up (up (up (up (up (up (up (up (up (up ρ 6 (ρ 0)) 7 x7) 8 x7) 9 x9) 10 x10) 11 x11) 12 x12) 13 (ρ 3)) 14 (ρ 0)) 15 x15) 16 x16) 17 x17) 3 x17) w) (K (Exit.exit 0) (up (up (up (up (up (up (up ρ 6 (ρ 0)) 7 x7) 8 x7) 9 x9) 10 x10) 11 x11) 12 x12) w)
theorem dispatcherref02_cursor_block_L0_eq (z : At) (K : Exit → Sl → World → Prop) (ρ : Sl) (w : World) : sx z Tryd.prog 19 dispatcherref02_cursor_block_L0 K ρ w = dispatcherref02_cursor_block_L0_F z K ρ w := by kernel_rfl
theorem dispatcherref02_cursor_block_L0_ok : dstOk 19 dispatcherref02_cursor_block_L0 = true := by kernel_rfl
noncomputable def dispatcherref02_cursor_block_R1_F (z : At) (K : Exit → Sl → World → Prop) (ρ : Sl) (w : World) : Prop :=
  K Exit.ret (up (up ρ 18 (ρ 3)) 2 (ρ 3)) w
theorem dispatcherref02_cursor_block_R1_eq (z : At) (K : Exit → Sl → World → Prop) (ρ : Sl) (w : World) : sx z Tryd.prog 19 dispatcherref02_cursor_block_R1 K ρ w = dispatcherref02_cursor_block_R1_F z K ρ w := by kernel_rfl
noncomputable def dispatcherref02_cursor_block_F (a0 : Value) (w : World) (R : Value → World → Prop) : Prop :=
  CK Tryd.prog (Value.func (Fn.func 86) #[] #[]) [a0, (Value.string { data := #[123] })] w fun x5 w => W fn_ Tryd.prog 19 (Code.loop dispatcherref02_cursor_block_L0) (blkK 0 (seqK (sx fn_ Tryd.prog 19 dispatcherref02_cursor_block_R1 (retK Tryd.prog [ResultVar.tmp 2] R)) (retK Tryd.prog [ResultVar.tmp 2] R))) (up (up (up (up (rho0 [a0]) 2 (Value.slice none 0 0)) 4 a0) 5 x5) 3 (Value.slice none 0 0)) w
theorem dispatcherref02_cursor_block_eq (a0 : Value) (w : World) (R : Value → World → Prop) : sx fn_ Tryd.prog 19 dispatcherref02_cursor_block_b (retK Tryd.prog Tryd.f106.results.toList R) (rho0 [a0]) w = dispatcherref02_cursor_block_F a0 w R := by kernel_rfl
theorem dispatcherref02_cursor_block_calls {a0 : Value} {w : World} {R : Value → World → Prop} (h : dispatcherref02_cursor_block_F a0 w R) : Calls Tryd.prog 106 #[a0] w fun e w' => ∃ v, e = .returned v ∧ R v w' :=
  Go.X.calls_of_sx (n := 19) (c := dispatcherref02_cursor_block_b) Tryd.func106 (by kernel_rfl) (by kernel_rfl) (Nat.le_of_ble_eq_true rfl) (by kernel_rfl) (Eq.mpr (dispatcherref02_cursor_block_eq a0 w R) h)
/-- dispatcher/dispatcherref02.Call -/
noncomputable def dispatcherref02_Call_b : Code := (Tryd.f107.body).getD .skip
noncomputable def dispatcherref02_Call_L0 : Code := cAt [1, 1, 0, 1, 0, 0] dispatcherref02_Call_b
noncomputable def dispatcherref02_Call_R1 : Code := cAt [1, 1, 1] dispatcherref02_Call_b
noncomputable def dispatcherref02_Call_L0_F (z : At) (K : Exit → Sl → World → Prop) (ρ : Sl) (w : World) : Prop :=
  IK Tryd.prog Builtin.len #[52] 3 [false] [(ρ 3)] w fun x8 w => BK Tryd.prog BinOp.lss 3 (Operand.tmp 6) (Operand.tmp 8) (ρ 4) x8 w fun x9 w => CondK x9 (VK Tryd.prog (Instr.indexAt 52 (ρ 3) (ρ 4)) w fun x14 w => VK Tryd.prog (Instr.loadAt 9 x14) w fun x15 w => BK Tryd.prog BinOp.eql 9 (Operand.tmp 15) (Operand.tmp 16) x15 (ρ 0) w fun x17 w => CondK x17 (BK Tryd.prog BinOp.add 3 (Operand.tmp 18) (Operand.const (Value.int IntKind.i64 1)) (ρ 4) (Value.int IntKind.i64 1) w fun x19 w => VK Tryd.prog (convert 3 5 x19) w fun x20 w => K Exit.ret (up (up (up (up (up (up (up (up (up (up (up (up (up (up ρ 6 (ρ 4)) 7 (ρ 3)) 8 x8) 9 x9) 12 (ρ 3)) 13 (ρ 4)) 14 x14) 15 x15) 16 (ρ 0)) 17 x17) 18 (ρ 4)) 19 x19) 20 x20) 2 x20) w) (BK Tryd.prog BinOp.add 3 (Operand.tmp 10) (Operand.const (Value.int IntKind.i64 1)) (ρ 4) (Value.int IntKind.i64 1) w fun x11 w => K Exit.normal (up (up (up (up (up (up (up (up (up (up (up (up (up ρ 6 (ρ 4)) 7 (ρ 3)) 8 x8) 9 x9) 12 (ρ 3)) 13 (ρ 4)) 14 x14) 15 x15) 16 (ρ 0)) 17 x17) 10 (ρ 4)) 11 x11) 4 x11) w)) (K (Exit.exit 0) (up (up (up (up ρ 6 (ρ 4)) 7 (ρ 3)) 8 x8) 9 x9) w)
theorem dispatcherref02_Call_L0_eq (z : At) (K : Exit → Sl → World → Prop) (ρ : Sl) (w : World) : sx z Tryd.prog 21 dispatcherref02_Call_L0 K ρ w = dispatcherref02_Call_L0_F z K ρ w := by kernel_rfl
theorem dispatcherref02_Call_L0_ok : dstOk 21 dispatcherref02_Call_L0 = true := by kernel_rfl
noncomputable def dispatcherref02_Call_R1_F (z : At) (K : Exit → Sl → World → Prop) (ρ : Sl) (w : World) : Prop :=
  K Exit.ret (up ρ 2 (Value.int IntKind.u8 0)) w
theorem dispatcherref02_Call_R1_eq (z : At) (K : Exit → Sl → World → Prop) (ρ : Sl) (w : World) : sx z Tryd.prog 21 dispatcherref02_Call_R1 K ρ w = dispatcherref02_Call_R1_F z K ρ w := by kernel_rfl
noncomputable def dispatcherref02_Call_F (a0 : Value) (w : World) (R : Value → World → Prop) : Prop :=
  VK Tryd.prog (Instr.buildSlice 52 22 [(0, (Value.string { data := #[115, 101, 110, 100] })), (1, (Value.string { data := #[115, 115, 101, 110, 100] })), (2, (Value.string { data := #[98, 115, 101, 110, 100] })), (3, (Value.string { data := #[105, 115, 101, 110, 100] })), (4, (Value.string { data := #[105, 115, 115, 101, 110, 100] })), (5, (Value.string { data := #[114, 101, 99, 118] })), (6, (Value.string { data := #[105, 114, 101, 99, 118] })), (7, (Value.string { data := #[119, 97, 105, 116] })), (8, (Value.string { data := #[119, 97, 105, 116, 97, 108, 108] })), (9, (Value.string { data := #[119, 97, 105, 116, 97, 110, 121] })), (10, (Value.string { data := #[116, 101, 115, 116] })), (11, (Value.string { data := #[116, 101, 115, 116, 97, 110, 121] })), (12, (Value.string { data := #[112, 114, 111, 98, 101] })), (13, (Value.string { data := #[105, 112, 114, 111, 98, 101] })), (14, (Value.string { data := #[98, 97, 114, 114, 105, 101, 114] })), (15, (Value.string { data := #[98, 99, 97, 115, 116] })), (16, (Value.string { data := #[114, 101, 100, 117, 99, 101] })), (17, (Value.string { data := #[97, 108, 108, 114, 101, 100, 117, 99, 101] })), (18, (Value.string { data := #[103, 97, 116, 104, 101, 114] })), (19, (Value.string { data := #[100, 117, 112] })), (20, (Value.string { data := #[115, 112, 108, 105, 116] })), (21, (Value.string { data := #[102, 114, 101, 101] }))].toArray) w fun x5 w => W fn_ Tryd.prog 21 (Code.loop dispatcherref02_Call_L0) (blkK 0 (seqK (sx fn_ Tryd.prog 21 dispatcherref02_Call_R1 (retK Tryd.prog [ResultVar.tmp 2] R)) (retK Tryd.prog [ResultVar.tmp 2] R))) (up (up (up (up (rho0 [a0]) 2 (Value.int IntKind.u8 0)) 5 x5) 3 x5) 4 (Value.int IntKind.i64 0)) w
theorem dispatcherref02_Call_eq (a0 : Value) (w : World) (R : Value → World → Prop) : sx fn_ Tryd.prog 21 dispatcherref02_Call_b (retK Tryd.prog Tryd.f107.results.toList R) (rho0 [a0]) w = dispatcherref02_Call_F a0 w R := by kernel_rfl
theorem dispatcherref02_Call_calls {a0 : Value} {w : World} {R : Value → World → Prop} (h : dispatcherref02_Call_F a0 w R) : Calls Tryd.prog 107 #[a0] w fun e w' => ∃ v, e = .returned v ∧ R v w' :=
  Go.X.calls_of_sx (n := 21) (c := dispatcherref02_Call_b) Tryd.func107 (by kernel_rfl) (by kernel_rfl) (Nat.le_of_ble_eq_true rfl) (by kernel_rfl) (Eq.mpr (dispatcherref02_Call_eq a0 w R) h)
/-- (*dispatcher/dispatcherref02.cursor).call -/
noncomputable def dispatcherref02_cursor_call_b : Code := (Tryd.f108.body).getD .skip
noncomputable def dispatcherref02_cursor_call_R0 : Code := cAt [1, 1, 1, 1, 1] dispatcherref02_cursor_call_b
noncomputable def dispatcherref02_cursor_call_L1 : Code := cAt [1, 1, 1, 1, 0, 0, 0] dispatcherref02_cursor_call_b
noncomputable def dispatcherref02_cursor_call_R2 : Code := cAt [1, 1, 1, 1, 1, 1] dispatcherref02_cursor_call_b
noncomputable def dispatcherref02_cursor_call_R3 : Code := cAt [1, 1, 1, 1, 0, 0, 0, 1, 0, 1] dispatcherref02_cursor_call_b
noncomputable def dispatcherref02_cursor_call_R0_F (z : At) (K : Exit → Sl → World → Prop) (ρ : Sl) (w : World) : Prop :=
  VK Tryd.prog (Instr.fieldAt 62 (ρ 3) 1) w fun x57 w => VK Tryd.prog (Instr.loadAt 5 x57) w fun x58 w => CK Tryd.prog (Value.func (Fn.func 99) #[] #[]) [x58] w fun x59 w => CondK x59 (CK Tryd.prog (Value.func (Fn.func 86) #[] #[]) [(ρ 0), (Value.string { data := #[44] })] w fun x61 w => CK Tryd.prog (Value.func (Fn.func 83) #[] #[]) [(ρ 0)] w fun x63 w => VK Tryd.prog (Instr.alloc 109 true (.tuple #[])) w fun x9 w => UK Tryd.prog (Instr.storeAt 109 x9 x63) w fun _ w => VK Tryd.prog (Instr.fieldAt 109 x9 1) w fun x64 w => VK Tryd.prog (Instr.loadAt 9 x64) w fun x65 w => CK Tryd.prog (Value.func (Fn.func 115) #[] #[]) [x65] w fun x66 w => VK Tryd.prog (Instr.fieldAt 62 (ρ 3) 2) w fun x67 w => UK Tryd.prog (Instr.storeAt 5 x67 x66) w fun _ w => VK Tryd.prog (Instr.fieldAt 62 (ρ 3) 2) w fun x68 w => VK Tryd.prog (Instr.loadAt 5 x68) w fun x69 w => BK Tryd.prog BinOp.gtr 5 (Operand.tmp 69) (Operand.const (Value.int IntKind.u8 2)) x69 (Value.int IntKind.u8 2) w fun x70 w => CondK x70 (VK Tryd.prog (Instr.fieldAt 62 (ρ 3) 2) w fun x71 w => UK Tryd.prog (Instr.storeAt 5 x71 (Value.int IntKind.u8 0)) w fun _ w => CK Tryd.prog (Value.func (Fn.func 104) #[] #[]) [(ρ 0)] w fun x73 w => sx z Tryd.prog 84 dispatcherref02_cursor_call_R2 K (up (up (up (up (up (up (up (up (up (up (up (up (up (up (up (up (up (up ρ 57 x57) 58 x58) 59 x59) 60 (ρ 0)) 61 x61) 62 (ρ 0)) 63 x63) 9 x9) 64 x64) 65 x65) 66 x66) 67 x67) 68 x68) 69 x69) 70 x70) 71 x71) 72 (ρ 0)) 73 x73) w) (NK Tryd.prog (ρ 0) w fun x75 w => VK Tryd.prog (Instr.fieldAt 113 x75 1) w fun x76 w => VK Tryd.prog (Instr.loadAt 3 x76) w fun x77 w => BK Tryd.prog BinOp.add 3 (Operand.tmp 77) (Operand.const (Value.int IntKind.i64 1)) x77 (Value.int IntKind.i64 1) w fun x78 w => NK Tryd.prog (ρ 0) w fun x79 w => VK Tryd.prog (Instr.fieldAt 113 x79 1) w fun x80 w => UK Tryd.prog (Instr.storeAt 3 x80 x78) w fun _ w => sx z Tryd.prog 84 dispatcherref02_cursor_call_R2 K (up (up (up (up (up (up (up (up (up (up (up (up (up (up (up (up (up (up (up (up (up (up ρ 57 x57) 58 x58) 59 x59) 60 (ρ 0)) 61 x61) 62 (ρ 0)) 63 x63) 9 x9) 64 x64) 65 x65) 66 x66) 67 x67) 68 x68) 69 x69) 70 x70) 74 (ρ 0)) 75 x75) 76 x76) 77 x77) 78 x78) 79 x79) 80 x80) w)) (sx z Tryd.prog 84 dispatcherref02_cursor_call_R2 K (up (up (up ρ 57 x57) 58 x58) 59 x59) w)
theorem dispatcherref02_cursor_call_R0_eq (z : At) (K : Exit → Sl → World → Prop) (ρ : Sl) (w : World) : sx z Tryd.prog 84 dispatcherref02_cursor_call_R0 K ρ w = dispatcherref02_cursor_call_R0_F z K ρ w := by kernel_rfl
noncomputable def dispatcherref02_cursor_call_L1_F (z : At) (K : Exit → Sl → World → Prop) (ρ : Sl) (w : World) : Prop :=
  CK Tryd.prog (Value.func (Fn.func 87) #[] #[]) [(ρ 0)] w fun x25 w => VG Tryd.prog x25 true (Instr.fieldAt 62 (ρ 3) 5) w fun x27 w => VG Tryd.prog x25 true (Instr.loadAt 58 x27) w fun x28 w => IG Tryd.prog x25 true Builtin.len #[58] 3 [false] [x28] w fun x29 w => MG Tryd.prog x25 true (ρ 6) w fun x30 w => BG Tryd.prog x25 true BinOp.lss 3 (Operand.tmp 29) (Operand.tmp 30) x29 x30 w fun x31 w => PK Tryd.prog x25 x31 (Value.bool false) w fun x32 w => CondK x32 (VK Tryd.prog (Instr.fieldAt 62 (ρ 3) 5) w fun x33 w => VK Tryd.prog (Instr.loadAt 58 x33) w fun x34 w => IK Tryd.prog Builtin.len #[58] 3 [false] [x34] w fun x35 w => BK Tryd.prog BinOp.gtr 3 (Operand.tmp 35) (Operand.const (Value.int IntKind.i64 0)) x35 (Value.int IntKind.i64 0) w fun x36 w => CondK x36 (VK Tryd.prog (Instr.fieldAt 62 (ρ 3) 5) w fun x37 w => VK Tryd.prog (Instr.loadAt 58 x37) w fun x38 w => IK Tryd.prog Builtin.len #[58] 3 [false] [x38] w fun x39 w => BK Tryd.prog BinOp.geq 3 (Operand.tmp 39) (Operand.tmp 40) x39 (ρ 7) w fun x41 w => MG Tryd.prog x41 true (ρ 0) w fun x43 w => CG Tryd.prog x41 true (Value.func (Fn.func 83) #[] #[]) [x43] w fun x44 w => VG Tryd.prog x41 true (Instr.field 109 x44 1) w fun x45 w => BG Tryd.prog x41 true BinOp.eql 9 (Operand.tmp 45) (Operand.const (Value.string { data := #[41] })) x45 (Value.string { data := #[41] }) w fun x46 w => PK Tryd.prog x41 x46 (Value.bool false) w fun x47 w => CondK x47 (K (Exit.exit 0) (up (up (up (up (up (up (up (up (up (up (up (up (up (up (up (up (up (up (up (up (up (up (up (up ρ 24 (ρ 0)) 25 x25) 26 x25) 27 x27) 28 x28) 29 x29) 30 x30) 31 x31) 32 x32) 33 x33) 34 x34) 35 x35) 36 x36) 37 x37) 38 x38) 39 x39) 40 (ρ 7)) 41 x41) 42 x41) 43 x43) 44 x44) 45 x45) 46 x46) 47 x47) w) (CK Tryd.prog (Value.func (Fn.func 86) #[] #[]) [(ρ 0), (Value.string { data := #[44] })] w fun x49 w => sx z Tryd.prog 84 dispatcherref02_cursor_call_R3 (blkK 1 K) (up (up (up (up (up (up (up (up (up (up (up (up (up (up (up (up (up (up (up (up (up (up (up (up (up (up ρ 24 (ρ 0)) 25 x25) 26 x25) 27 x27) 28 x28) 29 x29) 30 x30) 31 x31) 32 x32) 33 x33) 34 x34) 35 x35) 36 x36) 37 x37) 38 x38) 39 x39) 40 (ρ 7)) 41 x41) 42 x41) 43 x43) 44 x44) 45 x45) 46 x46) 47 x47) 48 (ρ 0)) 49 x49) w)) (sx z Tryd.prog 84 dispatcherref02_cursor_call_R3 (blkK 1 K) (up (up (up (up (up (up (up (up (up (up (up (up (up ρ 24 (ρ 0)) 25 x25) 26 x25) 27 x27) 28 x28) 29 x29) 30 x30) 31 x31) 32 x32) 33 x33) 34 x34) 35 x35) 36 x36) w)) (K (Exit.exit 0) (up (up (up (up (up (up (up (up (up ρ 24 (ρ 0)) 25 x25) 26 x25) 27 x27) 28 x28) 29 x29) 30 x30) 31 x31) 32 x32) w)
theorem dispatcherref02_cursor_call_L1_eq (z : At) (K : Exit → Sl → World → Prop) (ρ : Sl) (w : World) : sx z Tryd.prog 84 dispatcherref02_cursor_call_L1 K ρ w = dispatcherref02_cursor_call_L1_F z K ρ w := by kernel_rfl
theorem dispatcherref02_cursor_call_L1_ok : dstOk 84 dispatcherref02_cursor_call_L1 = true := by kernel_rfl
noncomputable def dispatcherref02_cursor_call_R2_F (z : At) (K : Exit → Sl → World → Prop) (ρ : Sl) (w : World) : Prop :=
  CK Tryd.prog (Value.func (Fn.func 86) #[] #[]) [(ρ 0), (Value.string { data := #[41] })] w fun x82 w => VK Tryd.prog (Instr.loadAt 62 (ρ 3)) w fun x83 w => UK Tryd.prog (Instr.storeAt 62 (ρ 4) x83) w fun _ w => K Exit.ret (up (up (up ρ 81 (ρ 0)) 82 x82) 83 x83) w
theorem dispatcherref02_cursor_call_R2_eq (z : At) (K : Exit → Sl → World → Prop) (ρ : Sl) (w : World) : sx z Tryd.prog 84 dispatcherref02_cursor_call_R2 K ρ w = dispatcherref02_cursor_call_R2_F z K ρ w := by kernel_rfl
noncomputable def dispatcherref02_cursor_call_R3_ops : Array Oper := opsOf dispatcherref02_cursor_call_R3
def dispatcherref02_cursor_call_R3_H (S : World → Prop) (K : Exit → Sl → World → Prop) (ρ : Sl) (w : World) : Prop :=
  HK Tryd.prog S (do pure (Next.value (← Instr.fieldAt 62 (ρ 3) 5))) fun x50 => (VK Tryd.prog (Instr.loadAt 58 x50) w fun x51 w => S w ∧ (CK Tryd.prog (Value.func (Fn.func 105) #[] #[]) [(ρ 0), (Value.int IntKind.i64 0)] w fun x53 w => S w ∧ (VK Tryd.prog (Instr.buildSlice 58 1 [(0, x53)].toArray) w fun x54 w => S w ∧ (IK Tryd.prog Builtin.append #[58, 58] 58 [false, false] [x51, x54] w fun x55 w => S w ∧ (HK Tryd.prog S (do pure (Next.value (← Instr.fieldAt 62 (ρ 3) 5))) fun x56 => UK Tryd.prog (Instr.storeAt 58 x56 x55) w fun _ w => S w ∧ (K Exit.normal (up (up (up (up (up (up (up ρ 50 x50) 52 (ρ 0)) 51 x51) 53 x53) 54 x54) 55 x55) 56 x56) w)))))) ∧ (CK Tryd.prog (Value.func (Fn.func 105) #[] #[]) [(ρ 0), (Value.int IntKind.i64 0)] w fun x53_1 w => S w ∧ ((VK Tryd.prog (Instr.loadAt 58 x50) w fun x51_1 w => S w ∧ (VK Tryd.prog (Instr.buildSlice 58 1 [(0, x53_1)].toArray) w fun x54_1 w => S w ∧ (IK Tryd.prog Builtin.append #[58, 58] 58 [false, false] [x51_1, x54_1] w fun x55_1 w => S w ∧ (HK Tryd.prog S (do pure (Next.value (← Instr.fieldAt 62 (ρ 3) 5))) fun x56_1 => UK Tryd.prog (Instr.storeAt 58 x56_1 x55_1) w fun _ w => S w ∧ (K Exit.normal (up (up (up (up (up (up (up ρ 50 x50) 52 (ρ 0)) 53 x53_1) 51 x51_1) 54 x54_1) 55 x55_1) 56 x56_1) w))))) ∧ (VK Tryd.prog (Instr.buildSlice 58 1 [(0, x53_1)].toArray) w fun x54_2 w => S w ∧ (VK Tryd.prog (Instr.loadAt 58 x50) w fun x51_2 w => S w ∧ (IK Tryd.prog Builtin.append #[58, 58] 58 [false, false] [x51_2, x54_2] w fun x55_2 w => S w ∧ (HK Tryd.prog S (do pure (Next.value (← Instr.fieldAt 62 (ρ 3) 5))) fun x56_2 => UK Tryd.prog (Instr.storeAt 58 x56_2 x55_2) w fun _ w => S w ∧ (K Exit.normal (up (up (up (up (up (up (up ρ 50 x50) 52 (ρ 0)) 53 x53_1) 54 x54_2) 51 x51_2) 55 x55_2) 56 x56_2) w)))))))
theorem dispatcherref02_cursor_call_R3_held {D : List Deferred} (S : World → Prop) {K : Exit → Sl → World → Prop} {ρ : Sl} {w : World} (hS : S { w with drawn := w.drawn + 1 }) (h : dispatcherref02_cursor_call_R3_H S K ρ { w with drawn := w.drawn + 1 }) : W ⟨none, D⟩ Tryd.prog 84 dispatcherref02_cursor_call_R3 K ρ w := by
  have e : dispatcherref02_cursor_call_R3 = .region (idOf dispatcherref02_cursor_call_R3) dispatcherref02_cursor_call_R3_ops true := by kernel_rfl
  have q : sxp Tryd.prog S dispatcherref02_cursor_call_R3_ops (K .normal) (Pl.take 0 (Pl.take 2 (Pl.two 1 3 (Pl.only 3 (Pl.only 4 (Pl.only 5 (Pl.take 6 (Pl.only 7 Pl.done))))) (Pl.two 1 4 (Pl.only 4 (Pl.only 5 (Pl.take 6 (Pl.only 7 Pl.done)))) (Pl.only 1 (Pl.only 5 (Pl.take 6 (Pl.only 7 Pl.done)))))))) ρ { w with drawn := w.drawn + 1 } = dispatcherref02_cursor_call_R3_H S K ρ { w with drawn := w.drawn + 1 } := by kernel_rfl
  rw [e]
  exact W_plan S (Pl.take 0 (Pl.take 2 (Pl.two 1 3 (Pl.only 3 (Pl.only 4 (Pl.only 5 (Pl.take 6 (Pl.only 7 Pl.done))))) (Pl.two 1 4 (Pl.only 4 (Pl.only 5 (Pl.take 6 (Pl.only 7 Pl.done)))) (Pl.only 1 (Pl.only 5 (Pl.take 6 (Pl.only 7 Pl.done)))))))) (by kernel_rfl) (by kernel_rfl) (by kernel_rfl) (by kernel_rfl) hS (Eq.mpr q h)
noncomputable def dispatcherref02_cursor_call_F (a0 a1 : Value) (w : World) (R : Value → World → Prop) : Prop :=
  VK Tryd.prog (Instr.box 62 a1) w fun x3 w => VK Tryd.prog (Instr.alloc 62 true (.tuple #[])) w fun x4 w => VK Tryd.prog (Instr.fieldAt 62 x3 1) w fun x11 w => VK Tryd.prog (Instr.loadAt 5 x11) w fun x12 w => CK Tryd.prog (Value.func (Fn.func 77) #[] #[]) [x12] w fun x13 w => VK Tryd.prog (Instr.extract x13 0) w fun x14 w => VK Tryd.prog (Instr.extract x13 1) w fun x15 w => VK Tryd.prog (Instr.fieldAt 62 x3 1) w fun x17 w => VK Tryd.prog (Instr.loadAt 5 x17) w fun x18 w => CK Tryd.prog (Value.func (Fn.func 77) #[] #[]) [x18] w fun x19 w => VK Tryd.prog (Instr.extract x19 0) w fun x20 w => VK Tryd.prog (Instr.extract x19 1) w fun x21 w => CK Tryd.prog (Value.func (Fn.func 86) #[] #[]) [a0, (Value.string { data := #[40] })] w fun x23 w => W fn_ Tryd.prog 84 (Code.loop dispatcherref02_cursor_call_L1) (blkK 0 (seqK (sx fn_ Tryd.prog 84 dispatcherref02_cursor_call_R0 (retK Tryd.prog [ResultVar.cell 4 62] R)) (retK Tryd.prog [ResultVar.cell 4 62] R))) (up (up (up (up (up (up (up (up (up (up (up (up (up (up (up (up (up (up (up (up (rho0 [a0, a1]) 3 x3) 4 x4) 11 x11) 12 x12) 13 x13) 10 x13) 14 x14) 15 x15) 5 x14) 6 x15) 17 x17) 18 x18) 19 x19) 16 x19) 20 x20) 21 x21) 7 x20) 8 x21) 22 a0) 23 x23) w
theorem dispatcherref02_cursor_call_eq (a0 a1 : Value) (w : World) (R : Value → World → Prop) : sx fn_ Tryd.prog 84 dispatcherref02_cursor_call_b (retK Tryd.prog Tryd.f108.results.toList R) (rho0 [a0, a1]) w = dispatcherref02_cursor_call_F a0 a1 w R := by kernel_rfl
theorem dispatcherref02_cursor_call_calls {a0 a1 : Value} {w : World} {R : Value → World → Prop} (h : dispatcherref02_cursor_call_F a0 a1 w R) : Calls Tryd.prog 108 #[a0, a1] w fun e w' => ∃ v, e = .returned v ∧ R v w' :=
  Go.X.calls_of_sx (n := 84) (c := dispatcherref02_cursor_call_b) Tryd.func108 (by kernel_rfl) (by kernel_rfl) (Nat.le_of_ble_eq_true rfl) (by kernel_rfl) (Eq.mpr (dispatcherref02_cursor_call_eq a0 a1 w R) h)
/-- (*dispatcher/dispatcherref02.cursor).single -/
noncomputable def dispatcherref02_cursor_single_b : Code := (Tryd.f113.body).getD .skip
noncomputable def dispatcherref02_cursor_single_R0 : Code := cAt [1, 1, 1, 1, 0, 0, 1, 1, 1, 0, 1, 1, 1, 0] dispatcherref02_cursor_single_b
noncomputable def dispatcherref02_cursor_single_R1 : Code := cAt [1, 1, 1, 1, 0, 0, 1, 1, 1, 0, 1, 1, 1, 1] dispatcherref02_cursor_single_b
noncomputable def dispatcherref02_cursor_single_R2 : Code := cAt [1, 1, 1, 1, 1] dispatcherref02_cursor_single_b
noncomputable def dispatcherref02_cursor_single_R3 : Code := cAt [1, 1, 1, 1, 0, 0, 1, 1, 1, 1, 1, 1, 1, 0, 1, 0] dispatcherref02_cursor_single_b
noncomputable def dispatcherref02_cursor_single_R4 : Code := cAt [1, 1, 1, 1, 0, 0, 1, 1, 1, 1, 1, 1, 1, 0, 1, 1] dispatcherref02_cursor_single_b
noncomputable def dispatcherref02_cursor_single_R5 : Code := cAt [1, 1, 1, 1, 0, 0, 1, 1, 1, 1, 1, 1, 1, 1, 1, 0, 0] dispatcherref02_cursor_single_b
noncomputable def dispatcherref02_cursor_single_R6 : Code := cAt [1, 1, 1, 1, 0, 0, 1, 1, 1, 1, 1, 1, 1, 1, 1, 0, 1] dispatcherref02_cursor_single_b
noncomputable def dispatcherref02_cursor_single_R7 : Code := cAt [1, 1, 1, 1, 0, 0, 1, 1, 1, 1, 1, 1, 1, 1, 1, 1, 1, 0, 0] dispatcherref02_cursor_single_b
noncomputable def dispatcherref02_cursor_single_R8 : Code := cAt [1, 1, 1, 1, 0, 0, 1, 1, 1, 1, 1, 1, 1, 1, 1, 1, 1, 0, 1] dispatcherref02_cursor_single_b
noncomputable def dispatcherref02_cursor_single_R3_ops : Array Oper := opsOf dispatcherref02_cursor_single_R3
def dispatcherref02_cursor_single_R3_H (S : World → Prop) (K : Exit → Sl → World → Prop) (ρ : Sl) (w : World) : Prop :=
  (VK Tryd.prog (Instr.loadAt 60 (ρ 4)) w fun x86_1 w => S w ∧ (CK Tryd.prog (Value.func (Fn.func 105) #[] #[]) [(ρ 0), (Value.int IntKind.i64 0)] w fun x88_1 w => S w ∧ (CK Tryd.prog (Value.func (Fn.func 116) #[] #[]) [x86_1, (Value.int IntKind.u8 4), x88_1] w fun x89_1 w => S w ∧ (UK Tryd.prog (Instr.storeAt 60 (ρ 4) x89_1) w fun _ w => S w ∧ (K Exit.normal (up (up (up (up ρ 87 (ρ 0)) 86 x86_1) 88 x88_1) 89 x89_1) w))))) ∧ (CK Tryd.prog (Value.func (Fn.func 105) #[] #[]) [(ρ 0), (Value.int IntKind.i64 0)] w fun x88_2 w => S w ∧ (VK Tryd.prog (Instr.loadAt 60 (ρ 4)) w fun x86_2 w => S w ∧ (CK Tryd.prog (Value.func (Fn.func 116) #[] #[]) [x86_2, (Value.int IntKind.u8 4), x88_2] w fun x89_2 w => S w ∧ (UK Tryd.prog (Instr.storeAt 60 (ρ 4) x89_2) w fun _ w => S w ∧ (K Exit.normal (up (up (up (up ρ 87 (ρ 0)) 88 x88_2) 86 x86_2) 89 x89_2) w)))))
theorem dispatcherref02_cursor_single_R3_held {D : List Deferred} (S : World → Prop) {K : Exit → Sl → World → Prop} {ρ : Sl} {w : World} (hS : S { w with drawn := w.drawn + 1 }) (h : dispatcherref02_cursor_single_R3_H S K ρ { w with drawn := w.drawn + 1 }) : W ⟨none, D⟩ Tryd.prog 118 dispatcherref02_cursor_single_R3 K ρ w := by
  have e : dispatcherref02_cursor_single_R3 = .region (idOf dispatcherref02_cursor_single_R3) dispatcherref02_cursor_single_R3_ops true := by kernel_rfl
  have q : sxp Tryd.prog S dispatcherref02_cursor_single_R3_ops (K .normal) (Pl.take 1 (Pl.two 0 2 (Pl.only 2 (Pl.only 3 (Pl.only 4 Pl.done))) (Pl.only 0 (Pl.only 3 (Pl.only 4 Pl.done))))) ρ { w with drawn := w.drawn + 1 } = dispatcherref02_cursor_single_R3_H S K ρ { w with drawn := w.drawn + 1 } := by kernel_rfl
  rw [e]
  exact W_plan S (Pl.take 1 (Pl.two 0 2 (Pl.only 2 (Pl.only 3 (Pl.only 4 Pl.done))) (Pl.only 0 (Pl.only 3 (Pl.only 4 Pl.done))))) (by kernel_rfl) (by kernel_rfl) (by kernel_rfl) (by kernel_rfl) hS (Eq.mpr q h)
noncomputable def dispatcherref02_cursor_single_R4_F (z : At) (K : Exit → Sl → World → Prop) (ρ : Sl) (w : World) : Prop :=
  CK Tryd.prog (Value.func (Fn.func 86) #[] #[]) [(ρ 0), (Value.string { data := #[93] })] w fun x91 w => VK Tryd.prog (Instr.loadAt 60 (ρ 4)) w fun x92 w => UK Tryd.prog (Instr.storeAt 60 (ρ 2) x92) w fun _ w => K Exit.ret (up (up (up ρ 90 (ρ 0)) 91 x91) 92 x92) w
theorem dispatcherref02_cursor_single_R4_eq (z : At) (K : Exit → Sl → World → Prop) (ρ : Sl) (w : World) : sx z Tryd.prog 118 dispatcherref02_cursor_single_R4 K ρ w = dispatcherref02_cursor_single_R4_F z K ρ w := by kernel_rfl
noncomputable def dispatcherref02_cursor_single_F (a0 : Value) (w : World) (R : Value → World → Prop) : Prop :=
  VK Tryd.prog (Instr.alloc 60 true (.tuple #[])) w fun x2 w => CK Tryd.prog (Value.func (Fn.func 83) #[] #[]) [a0] w fun x6 w => VK Tryd.prog (Instr.alloc 109 true (.tuple #[])) w fun x3 w => UK Tryd.prog (Instr.storeAt 109 x3 x6) w fun _ w => VK Tryd.prog (Instr.fieldAt 109 x3 3) w fun x7 w => VK Tryd.prog (Instr.loadAt 3 x7) w fun x8 w => VK Tryd.prog (Instr.fieldAt 109 x3 4) w fun x9 w => VK Tryd.prog (Instr.loadAt 3 x9) w fun x10 w => VK Tryd.prog (Instr.build 60 [(4, x8), (5, x10)].toArray) w fun x11 w => VK Tryd.prog (Instr.alloc 60 true (.tuple #[])) w fun x4 w => UK Tryd.prog (Instr.storeAt 60 x4 x11) w fun _ w => CK Tryd.prog (Value.func (Fn.func 87) #[] #[]) [a0] w fun x13 w => VK Tryd.prog (Op.unary UnOp.not x13) w fun x14 w => VG Tryd.prog x14 false (Instr.fieldAt 109 x3 0) w fun x16 w => VG Tryd.prog x14 false (Instr.loadAt 5 x16) w fun x17 w => BG Tryd.prog x14 false BinOp.eql 5 (Operand.tmp 17) (Operand.const (Value.int IntKind.u8 0)) x17 (Value.int IntKind.u8 0) w fun x18 w => PK Tryd.prog x14 (Value.bool true) x18 w fun x19 w => CondK x19 (CK Tryd.prog (Value.func (Fn.func 104) #[] #[]) [a0] w fun x21 w => VK Tryd.prog (Instr.loadAt 60 x4) w fun x22 w => UK Tryd.prog (Instr.storeAt 60 x2 x22) w fun _ w => ∃ x2_1, (do loadVar 60 (← asAddr x2) : Sem Value).run Tryd.prog w = .ok x2_1 w ∧ R x2_1 w) (VK Tryd.prog (Instr.fieldAt 109 x3 0) w fun x24 w => VK Tryd.prog (Instr.loadAt 5 x24) w fun x25 w => BK Tryd.prog BinOp.eql 5 (Operand.tmp 25) (Operand.const (Value.int IntKind.u8 2)) x25 (Value.int IntKind.u8 2) w fun x26 w => CondK x26 (NK Tryd.prog a0 w fun x28 w => VK Tryd.prog (Instr.fieldAt 113 x28 1) w fun x29 w => VK Tryd.prog (Instr.loadAt 3 x29) w fun x30 w => BK Tryd.prog BinOp.add 3 (Operand.tmp 30) (Operand.const (Value.int IntKind.i64 1)) x30 (Value.int IntKind.i64 1) w fun x31 w => NK Tryd.prog a0 w fun x32 w => VK Tryd.prog (Instr.fieldAt 113 x32 1) w fun x33 w => UK Tryd.prog (Instr.storeAt 3 x33 x31) w fun _ w => VK Tryd.prog (Instr.fieldAt 60 x4 0) w fun x34 w => UK Tryd.prog (Instr.storeAt 5 x34 (Value.int IntKind.u8 1)) w fun _ w => VK Tryd.prog (Instr.fieldAt 109 x3 2) w fun x35 w => VK Tryd.prog (Instr.loadAt 2 x35) w fun x36 w => VK Tryd.prog (Instr.fieldAt 60 x4 1) w fun x37 w => UK Tryd.prog (Instr.storeAt 2 x37 x36) w fun _ w => VK Tryd.prog (Instr.loadAt 60 x4) w fun x38 w => UK Tryd.prog (Instr.storeAt 60 x2 x38) w fun _ w => ∃ x2_2, (do loadVar 60 (← asAddr x2) : Sem Value).run Tryd.prog w = .ok x2_2 w ∧ R x2_2 w) (VK Tryd.prog (Instr.fieldAt 109 x3 0) w fun x40 w => VK Tryd.prog (Instr.loadAt 5 x40) w fun x41 w => BK Tryd.prog BinOp.eql 5 (Operand.tmp 41) (Operand.const (Value.int IntKind.u8 1)) x41 (Value.int IntKind.u8 1) w fun x42 w => CondK x42 (NK Tryd.prog a0 w fun x44 w => VK Tryd.prog (Instr.fieldAt 113 x44 1) w fun x45 w => VK Tryd.prog (Instr.loadAt 3 x45) w fun x46 w => BK Tryd.prog BinOp.add 3 (Operand.tmp 46) (Operand.const (Value.int IntKind.i64 1)) x46 (Value.int IntKind.i64 1) w fun x47 w => NK Tryd.prog a0 w fun x48 w => VK Tryd.prog (Instr.fieldAt 113 x48 1) w fun x49 w => UK Tryd.prog (Instr.storeAt 3 x49 x47) w fun _ w => VK Tryd.prog (Instr.fieldAt 109 x3 1) w fun x50 w => VK Tryd.prog (Instr.loadAt 9 x50) w fun x51 w => VK Tryd.prog (Instr.fieldAt 60 x4 2) w fun x52 w => UK Tryd.prog (Instr.storeAt 9 x52 x51) w fun _ w => CK Tryd.prog (Value.func (Fn.func 82) #[] #[]) [a0, (Value.string { data := #[91] })] w fun x54 w => VK Tryd.prog (Op.unary UnOp.not x54) w fun x55 w => CondK x55 (VK Tryd.prog (Instr.fieldAt 60 x4 0) w fun x56 w => UK Tryd.prog (Instr.storeAt 5 x56 (Value.int IntKind.u8 2)) w fun _ w => VK Tryd.prog (Instr.loadAt 60 x4) w fun x57 w => UK Tryd.prog (Instr.storeAt 60 x2 x57) w fun _ w => ∃ x2_3, (do loadVar 60 (← asAddr x2) : Sem Value).run Tryd.prog w = .ok x2_3 w ∧ R x2_3 w) (W fn_ Tryd.prog 118 dispatcherref02_cursor_single_R0 (seqK (sx fn_ Tryd.prog 118 dispatcherref02_cursor_single_R1 (blkK 0 (seqK (sx fn_ Tryd.prog 118 dispatcherref02_cursor_single_R2 (retK Tryd.prog [ResultVar.cell 2 60] R)) (retK Tryd.prog [ResultVar.cell 2 60] R)))) (blkK 0 (seqK (sx fn_ Tryd.prog 118 dispatcherref02_cursor_single_R2 (retK Tryd.prog [ResultVar.cell 2 60] R)) (retK Tryd.prog [ResultVar.cell 2 60] R)))) (up (up (up (up (up (up (up (up (up (up (up (up (up (up (up (up (up (up (up (up (up (up (up (up (up (up (up (up (up (up (up (up (up (up (up (up (up (up (up (rho0 [a0]) 2 x2) 5 a0) 6 x6) 3 x3) 7 x7) 8 x8) 9 x9) 10 x10) 11 x11) 4 x4) 12 a0) 13 x13) 14 x14) 15 x14) 16 x16) 17 x17) 18 x18) 19 x19) 24 x24) 25 x25) 26 x26) 23 x26) 40 x40) 41 x41) 42 x42) 39 x42) 43 a0) 44 x44) 45 x45) 46 x46) 47 x47) 48 x48) 49 x49) 50 x50) 51 x51) 52 x52) 53 a0) 54 x54) 55 x55) w)) (VK Tryd.prog (Instr.fieldAt 109 x3 1) w fun x66 w => VK Tryd.prog (Instr.loadAt 9 x66) w fun x67 w => CK Tryd.prog (Value.func (Fn.func 101) #[] #[]) [x67] w fun x68 w => CondK x68 (NK Tryd.prog a0 w fun x70 w => VK Tryd.prog (Instr.fieldAt 113 x70 1) w fun x71 w => VK Tryd.prog (Instr.loadAt 3 x71) w fun x72 w => BK Tryd.prog BinOp.add 3 (Operand.tmp 72) (Operand.const (Value.int IntKind.i64 1)) x72 (Value.int IntKind.i64 1) w fun x73 w => NK Tryd.prog a0 w fun x74 w => VK Tryd.prog (Instr.fieldAt 113 x74 1) w fun x75 w => UK Tryd.prog (Instr.storeAt 3 x75 x73) w fun _ w => VK Tryd.prog (Instr.fieldAt 60 x4 0) w fun x76 w => UK Tryd.prog (Instr.storeAt 5 x76 (Value.int IntKind.u8 5)) w fun _ w => VK Tryd.prog (Instr.fieldAt 109 x3 1) w fun x77 w => VK Tryd.prog (Instr.loadAt 9 x77) w fun x78 w => VK Tryd.prog (Instr.fieldAt 60 x4 2) w fun x79 w => UK Tryd.prog (Instr.storeAt 9 x79 x78) w fun _ w => VK Tryd.prog (Instr.loadAt 60 x4) w fun x80 w => UK Tryd.prog (Instr.storeAt 60 x2 x80) w fun _ w => ∃ x2_4, (do loadVar 60 (← asAddr x2) : Sem Value).run Tryd.prog w = .ok x2_4 w ∧ R x2_4 w) (CK Tryd.prog (Value.func (Fn.func 82) #[] #[]) [a0, (Value.string { data := #[114, 111, 119] })] w fun x83 w => CondK x83 (CK Tryd.prog (Value.func (Fn.func 86) #[] #[]) [a0, (Value.string { data := #[91] })] w fun x85 w => W fn_ Tryd.prog 118 dispatcherref02_cursor_single_R3 (seqK (sx fn_ Tryd.prog 118 dispatcherref02_cursor_single_R4 (blkK 0 (seqK (sx fn_ Tryd.prog 118 dispatcherref02_cursor_single_R2 (retK Tryd.prog [ResultVar.cell 2 60] R)) (retK Tryd.prog [ResultVar.cell 2 60] R)))) (blkK 0 (seqK (sx fn_ Tryd.prog 118 dispatcherref02_cursor_single_R2 (retK Tryd.prog [ResultVar.cell 2 60] R)) (retK Tryd.prog [ResultVar.cell 2 60] R)))) (up (up (up (up (up (up (up (up (up (up (up (up (up (up (up (up (up (up (up (up (up (up (up (up (up (up (up (up (up (up (up (up (up (up (up (rho0 [a0]) 2 x2) 5 a0) 6 x6) 3 x3) 7 x7) 8 x8) 9 x9) 10 x10) 11 x11) 4 x4) 12 a0) 13 x13) 14 x14) 15 x14) 16 x16) 17 x17) 18 x18) 19 x19) 24 x24) 25 x25) 26 x26) 23 x26) 40 x40) 41 x41) 42 x42) 39 x42) 66 x66) 67 x67) 68 x68) 65 x68) 82 a0) 83 x83) 81 x83) 84 a0) 85 x85) w) (CK Tryd.prog (Value.func (Fn.func 82) #[] #[]) [a0, (Value.string { data := #[45] })] w fun x95 w => CondK x95 (W fn_ Tryd.prog 118 dispatcherref02_cursor_single_R5 (seqK (sx fn_ Tryd.prog 118 dispatcherref02_cursor_single_R6 (blkK 0 (seqK (sx fn_ Tryd.prog 118 dispatcherref02_cursor_single_R2 (retK Tryd.prog [ResultVar.cell 2 60] R)) (retK Tryd.prog [ResultVar.cell 2 60] R)))) (blkK 0 (seqK (sx fn_ Tryd.prog 118 dispatcherref02_cursor_single_R2 (retK Tryd.prog [ResultVar.cell 2 60] R)) (retK Tryd.prog [ResultVar.cell 2 60] R)))) (up (up (up (up (up (up (up (up (up (up (up (up (up (up (up (up (up (up (up (up (up (up (up (up (up (up (up (up (up (up (up (up (up (up (up (up (rho0 [a0]) 2 x2) 5 a0) 6 x6) 3 x3) 7 x7) 8 x8) 9 x9) 10 x10) 11 x11) 4 x4) 12 a0) 13 x13) 14 x14) 15 x14) 16 x16) 17 x17) 18 x18) 19 x19) 24 x24) 25 x25) 26 x26) 23 x26) 40 x40) 41 x41) 42 x42) 39 x42) 66 x66) 67 x67) 68 x68) 65 x68) 82 a0) 83 x83) 81 x83) 94 a0) 95 x95) 93 x95) w) (CK Tryd.prog (Value.func (Fn.func 82) #[] #[]) [a0, (Value.string { data := #[33] })] w fun x102 w => CondK x102 (W fn_ Tryd.prog 118 dispatcherref02_cursor_single_R7 (seqK (sx fn_ Tryd.prog 118 dispatcherref02_cursor_single_R8 (blkK 0 (seqK (sx fn_ Tryd.prog 118 dispatcherref02_cursor_single_R2 (retK Tryd.prog [ResultVar.cell 2 60] R)) (retK Tryd.prog [ResultVar.cell 2 60] R)))) (blkK 0 (seqK (sx fn_ Tryd.prog 118 dispatcherref02_cursor_single_R2 (retK Tryd.prog [ResultVar.cell 2 60] R)) (retK Tryd.prog [ResultVar.cell 2 60] R)))) (up (up (up (up (up (up (up (up (up (up (up (up (up (up (up (up (up (up (up (up (up (up (up (up (up (up (up (up (up (up (up (up (up (up (up (up (up (up (up (rho0 [a0]) 2 x2) 5 a0) 6 x6) 3 x3) 7 x7) 8 x8) 9 x9) 10 x10) 11 x11) 4 x4) 12 a0) 13 x13) 14 x14) 15 x14) 16 x16) 17 x17) 18 x18) 19 x19) 24 x24) 25 x25) 26 x26) 23 x26) 40 x40) 41 x41) 42 x42) 39 x42) 66 x66) 67 x67) 68 x68) 65 x68) 82 a0) 83 x83) 81 x83) 94 a0) 95 x95) 93 x95) 101 a0) 102 x102) 100 x102) w) (CK Tryd.prog (Value.func (Fn.func 82) #[] #[]) [a0, (Value.string { data := #[40] })] w fun x109 w => CondK x109 (CK Tryd.prog (Value.func (Fn.func 105) #[] #[]) [a0, (Value.int IntKind.i64 0)] w fun x111 w => UK Tryd.prog (Instr.storeAt 60 x4 x111) w fun _ w => CK Tryd.prog (Value.func (Fn.func 86) #[] #[]) [a0, (Value.string { data := #[41] })] w fun x113 w => VK Tryd.prog (Instr.loadAt 60 x4) w fun x114 w => UK Tryd.prog (Instr.storeAt 60 x2 x114) w fun _ w => ∃ x2_5, (do loadVar 60 (← asAddr x2) : Sem Value).run Tryd.prog w = .ok x2_5 w ∧ R x2_5 w) (CK Tryd.prog (Value.func (Fn.func 104) #[] #[]) [a0] w fun x116 w => VK Tryd.prog (Instr.loadAt 60 x4) w fun x117 w => UK Tryd.prog (Instr.storeAt 60 x2 x117) w fun _ w => ∃ x2_6, (do loadVar 60 (← asAddr x2) : Sem Value).run Tryd.prog w = .ok x2_6 w ∧ R x2_6 w))))))))
theorem dispatcherref02_cursor_single_eq (a0 : Value) (w : World) (R : Value → World → Prop) : sx fn_ Tryd.prog 118 dispatcherref02_cursor_single_b (retK Tryd.prog Tryd.f113.results.toList R) (rho0 [a0]) w = dispatcherref02_cursor_single_F a0 w R := by kernel_rfl
theorem dispatcherref02_cursor_single_calls {a0 : Value} {w : World} {R : Value → World → Prop} (h : dispatcherref02_cursor_single_F a0 w R) : Calls Tryd.prog 113 #[a0] w fun e w' => ∃ v, e = .returned v ∧ R v w' :=
  Go.X.calls_of_sx (n := 118) (c := dispatcherref02_cursor_single_b) Tryd.func113 (by kernel_rfl) (by kernel_rfl) (Nat.le_of_ble_eq_true rfl) (by kernel_rfl) (Eq.mpr (dispatcherref02_cursor_single_eq a0 w R) h)
/-- dispatcher/dispatcherref02.Two -/
noncomputable def dispatcherref02_Two_b : Code := (Tryd.f114.body).getD .skip
noncomputable def dispatcherref02_Two_F (a0 : Value) (w : World) (R : Value → World → Prop) : Prop :=
  BK Tryd.prog BinOp.eql 9 (Operand.tmp 4) (Operand.const (Value.string { data := #[124, 124] })) a0 (Value.string { data := #[124, 124] }) w fun x6 w => CondK x6 (R (Value.tuple #[(Value.int IntKind.u8 20), (Value.int IntKind.i64 0)]) w) (BK Tryd.prog BinOp.eql 9 (Operand.tmp 4) (Operand.const (Value.string { data := #[38, 38] })) a0 (Value.string { data := #[38, 38] }) w fun x8 w => CondK x8 (R (Value.tuple #[(Value.int IntKind.u8 19), (Value.int IntKind.i64 1)]) w) (BK Tryd.prog BinOp.eql 9 (Operand.tmp 4) (Operand.const (Value.string { data := #[60] })) a0 (Value.string { data := #[60] }) w fun x10 w => CondK x10 (R (Value.tuple #[(Value.int IntKind.u8 13), (Value.int IntKind.i64 2)]) w) (BK Tryd.prog BinOp.eql 9 (Operand.tmp 4) (Operand.const (Value.string { data := #[60, 61] })) a0 (Value.string { data := #[60, 61] }) w fun x12 w => CondK x12 (R (Value.tuple #[(Value.int IntKind.u8 14), (Value.int IntKind.i64 2)]) w) (BK Tryd.prog BinOp.eql 9 (Operand.tmp 4) (Operand.const (Value.string { data := #[62] })) a0 (Value.string { data := #[62] }) w fun x14 w => CondK x14 (R (Value.tuple #[(Value.int IntKind.u8 15), (Value.int IntKind.i64 2)]) w) (BK Tryd.prog BinOp.eql 9 (Operand.tmp 4) (Operand.const (Value.string { data := #[62, 61] })) a0 (Value.string { data := #[62, 61] }) w fun x16 w => CondK x16 (R (Value.tuple #[(Value.int IntKind.u8 16), (Value.int IntKind.i64 2)]) w) (BK Tryd.prog BinOp.eql 9 (Operand.tmp 4) (Operand.const (Value.string { data := #[61, 61] })) a0 (Value.string { data := #[61, 61] }) w fun x18 w => CondK x18 (R (Value.tuple #[(Value.int IntKind.u8 17), (Value.int IntKind.i64 2)]) w) (BK Tryd.prog BinOp.eql 9 (Operand.tmp 4) (Operand.const (Value.string { data := #[33, 61] })) a0 (Value.string { data := #[33, 61] }) w fun x20 w => CondK x20 (R (Value.tuple #[(Value.int IntKind.u8 18), (Value.int IntKind.i64 2)]) w) (BK Tryd.prog BinOp.eql 9 (Operand.tmp 4) (Operand.const (Value.string { data := #[43] })) a0 (Value.string { data := #[43] }) w fun x22 w => CondK x22 (R (Value.tuple #[(Value.int IntKind.u8 11), (Value.int IntKind.i64 3)]) w) (BK Tryd.prog BinOp.eql 9 (Operand.tmp 4) (Operand.const (Value.string { data := #[45] })) a0 (Value.string { data := #[45] }) w fun x24 w => CondK x24 (R (Value.tuple #[(Value.int IntKind.u8 12), (Value.int IntKind.i64 3)]) w) (BK Tryd.prog BinOp.eql 9 (Operand.tmp 4) (Operand.const (Value.string { data := #[42] })) a0 (Value.string { data := #[42] }) w fun x26 w => CondK x26 (R (Value.tuple #[(Value.int IntKind.u8 8), (Value.int IntKind.i64 4)]) w) (BK Tryd.prog BinOp.eql 9 (Operand.tmp 4) (Operand.const (Value.string { data := #[47] })) a0 (Value.string { data := #[47] }) w fun x28 w => CondK x28 (R (Value.tuple #[(Value.int IntKind.u8 9), (Value.int IntKind.i64 4)]) w) (BK Tryd.prog BinOp.eql 9 (Operand.tmp 4) (Operand.const (Value.string { data := #[37] })) a0 (Value.string { data := #[37] }) w fun x30 w => CondK x30 (R (Value.tuple #[(Value.int IntKind.u8 10), (Value.int IntKind.i64 4)]) w) (R (Value.tuple #[(Value.int IntKind.u8 0), (Value.int IntKind.i64 (-1))]) w)))))))))))))
theorem dispatcherref02_Two_eq (a0 : Value) (w : World) (R : Value → World → Prop) : sx fn_ Tryd.prog 31 dispatcherref02_Two_b (retK Tryd.prog Tryd.f114.results.toList R) (rho0 [a0]) w = dispatcherref02_Two_F a0 w R := by kernel_rfl
theorem dispatcherref02_Two_calls {a0 : Value} {w : World} {R : Value → World → Prop} (h : dispatcherref02_Two_F a0 w R) : Calls Tryd.prog 114 #[a0] w fun e w' => ∃ v, e = .returned v ∧ R v w' :=
  Go.X.calls_of_sx (n := 31) (c := dispatcherref02_Two_b) Tryd.func114 (by kernel_rfl) (by kernel_rfl) (Nat.le_of_ble_eq_true rfl) (by kernel_rfl) (Eq.mpr (dispatcherref02_Two_eq a0 w R) h)
/-- dispatcher/dispatcherref02.one -/
noncomputable def dispatcherref02_one_b : Code := (Tryd.f116.body).getD .skip
noncomputable def dispatcherref02_one_F (a0 a1 a2 : Value) (w : World) (R : Value → World → Prop) : Prop :=
  VK Tryd.prog (Instr.box 60 a0) w fun x3 w => VK Tryd.prog (Instr.box 60 a2) w fun x5 w => VK Tryd.prog (Instr.alloc 60 true (.tuple #[])) w fun x6 w => VK Tryd.prog (Instr.fieldAt 60 x3 0) w fun x8 w => UK Tryd.prog (Instr.storeAt 5 x8 a1) w fun _ w => VK Tryd.prog (Instr.fieldAt 60 x3 3) w fun x9 w => VK Tryd.prog (Instr.loadAt 58 x9) w fun x10 w => VK Tryd.prog (Instr.loadAt 60 x5) w fun x11 w => VK Tryd.prog (Instr.buildSlice 58 1 [(0, x11)].toArray) w fun x12 w => IK Tryd.prog Builtin.append #[58, 58] 58 [false, false] [x10, x12] w fun x13 w => VK Tryd.prog (Instr.fieldAt 60 x3 3) w fun x14 w => UK Tryd.prog (Instr.storeAt 58 x14 x13) w fun _ w => VK Tryd.prog (Instr.loadAt 60 x3) w fun x15 w => UK Tryd.prog (Instr.storeAt 60 x6 x15) w fun _ w => ∃ x6_1, (do loadVar 60 (← asAddr x6) : Sem Value).run Tryd.prog w = .ok x6_1 w ∧ R x6_1 w
theorem dispatcherref02_one_eq (a0 a1 a2 : Value) (w : World) (R : Value → World → Prop) : sx fn_ Tryd.prog 16 dispatcherref02_one_b (retK Tryd.prog Tryd.f116.results.toList R) (rho0 [a0, a1, a2]) w = dispatcherref02_one_F a0 a1 a2 w R := by kernel_rfl
theorem dispatcherref02_one_calls {a0 a1 a2 : Value} {w : World} {R : Value → World → Prop} (h : dispatcherref02_one_F a0 a1 a2 w R) : Calls Tryd.prog 116 #[a0, a1, a2] w fun e w' => ∃ v, e = .returned v ∧ R v w' :=
  Go.X.calls_of_sx (n := 16) (c := dispatcherref02_one_b) Tryd.func116 (by kernel_rfl) (by kernel_rfl) (Nat.le_of_ble_eq_true rfl) (by kernel_rfl) (Eq.mpr (dispatcherref02_one_eq a0 a1 a2 w R) h)
end Go.Proofs.YtbnbcimjapiicaaDoor.XD
set_option linter.unusedVariables false
set_option linter.unusedSimpArgs false
set_option maxRecDepth 4000
namespace Go.Proofs.YtbnbcimjapiicaaDoor.Tr
open Go Go.X Go.RowKit Go.Proofs.YtbnbcimjapiicaaDoor.XD Go.Proofs.YtbnbcimjapiicaaDoor.XK
theorem Sign_ok (b : Bs) (w : World) : Rt Tryd.prog 102 #[txt b] w fun v w' => v = .bool (signL.contains b) ∧ w' = w := by
  refine dispatcherref01_Sign_calls ?_
  unfold dispatcherref01_Sign_F
  refine caseS (fun hc0 => ?_) (fun hc0 => ?_)
  · obtain rfl : b = [40] := by simpa using hc0
    refine condT ?_; rw [dispatcherref01_Sign_R0_eq]; unfold dispatcherref01_Sign_R0_F; refine condT ?_; exact ⟨by first | rfl | (rw [show signL.contains _ = true from by decide +kernel]), rfl⟩
  replace hc0 : b ≠ [40] := fun q => hc0 (by rw [q])
  refine condF ?_
  refine caseS (fun hc1 => ?_) (fun hc1 => ?_)
  · obtain rfl : b = [41] := by simpa using hc1
    refine condT ?_; rw [dispatcherref01_Sign_R0_eq]; unfold dispatcherref01_Sign_R0_F; refine condT ?_; exact ⟨by first | rfl | (rw [show signL.contains _ = true from by decide +kernel]), rfl⟩
  replace hc1 : b ≠ [41] := fun q => hc1 (by rw [q])
  refine condF ?_
  refine caseS (fun hc2 => ?_) (fun hc2 => ?_)
  · obtain rfl : b = [123] := by simpa using hc2
    refine condT ?_; rw [dispatcherref01_Sign_R0_eq]; unfold dispatcherref01_Sign_R0_F; refine condT ?_; exact ⟨by first | rfl | (rw [show signL.contains _ = true from by decide +kernel]), rfl⟩
  replace hc2 : b ≠ [123] := fun q => hc2 (by rw [q])
  refine condF ?_
  refine caseS (fun hc3 => ?_) (fun hc3 => ?_)
  · obtain rfl : b = [125] := by simpa using hc3
    refine condT ?_; rw [dispatcherref01_Sign_R0_eq]; unfold dispatcherref01_Sign_R0_F; refine condT ?_; exact ⟨by first | rfl | (rw [show signL.contains _ = true from by decide +kernel]), rfl⟩
  replace hc3 : b ≠ [125] := fun q => hc3 (by rw [q])
  refine condF ?_
  refine caseS (fun hc4 => ?_) (fun hc4 => ?_)
  · obtain rfl : b = [91] := by simpa using hc4
    refine condT ?_; rw [dispatcherref01_Sign_R0_eq]; unfold dispatcherref01_Sign_R0_F; refine condT ?_; exact ⟨by first | rfl | (rw [show signL.contains _ = true from by decide +kernel]), rfl⟩
  replace hc4 : b ≠ [91] := fun q => hc4 (by rw [q])
  refine condF ?_
  refine caseS (fun hc5 => ?_) (fun hc5 => ?_)
  · obtain rfl : b = [93] := by simpa using hc5
    refine condT ?_; rw [dispatcherref01_Sign_R0_eq]; unfold dispatcherref01_Sign_R0_F; refine condT ?_; exact ⟨by first | rfl | (rw [show signL.contains _ = true from by decide +kernel]), rfl⟩
  replace hc5 : b ≠ [93] := fun q => hc5 (by rw [q])
  refine condF ?_
  refine caseS (fun hc6 => ?_) (fun hc6 => ?_)
  · obtain rfl : b = [59] := by simpa using hc6
    refine condT ?_; rw [dispatcherref01_Sign_R0_eq]; unfold dispatcherref01_Sign_R0_F; refine condT ?_; exact ⟨by first | rfl | (rw [show signL.contains _ = true from by decide +kernel]), rfl⟩
  replace hc6 : b ≠ [59] := fun q => hc6 (by rw [q])
  refine condF ?_
  refine caseS (fun hc7 => ?_) (fun hc7 => ?_)
  · obtain rfl : b = [44] := by simpa using hc7
    refine condT ?_; rw [dispatcherref01_Sign_R0_eq]; unfold dispatcherref01_Sign_R0_F; refine condT ?_; exact ⟨by first | rfl | (rw [show signL.contains _ = true from by decide +kernel]), rfl⟩
  replace hc7 : b ≠ [44] := fun q => hc7 (by rw [q])
  refine condF ?_
  refine caseS (fun hc8 => ?_) (fun hc8 => ?_)
  · obtain rfl : b = [61] := by simpa using hc8
    refine condT ?_; rw [dispatcherref01_Sign_R0_eq]; unfold dispatcherref01_Sign_R0_F; refine condT ?_; exact ⟨by first | rfl | (rw [show signL.contains _ = true from by decide +kernel]), rfl⟩
  replace hc8 : b ≠ [61] := fun q => hc8 (by rw [q])
  refine condF ?_
  refine caseS (fun hc9 => ?_) (fun hc9 => ?_)
  · obtain rfl : b = [43] := by simpa using hc9
    refine condT ?_; rw [dispatcherref01_Sign_R0_eq]; unfold dispatcherref01_Sign_R0_F; refine condT ?_; exact ⟨by first | rfl | (rw [show signL.contains _ = true from by decide +kernel]), rfl⟩
  replace hc9 : b ≠ [43] := fun q => hc9 (by rw [q])
  refine condF ?_
  refine caseS (fun hc10 => ?_) (fun hc10 => ?_)
  · obtain rfl : b = [45] := by simpa using hc10
    refine condT ?_; rw [dispatcherref01_Sign_R0_eq]; unfold dispatcherref01_Sign_R0_F; refine condT ?_; exact ⟨by first | rfl | (rw [show signL.contains _ = true from by decide +kernel]), rfl⟩
  replace hc10 : b ≠ [45] := fun q => hc10 (by rw [q])
  refine condF ?_
  refine caseS (fun hc11 => ?_) (fun hc11 => ?_)
  · obtain rfl : b = [42] := by simpa using hc11
    refine condT ?_; rw [dispatcherref01_Sign_R0_eq]; unfold dispatcherref01_Sign_R0_F; refine condT ?_; exact ⟨by first | rfl | (rw [show signL.contains _ = true from by decide +kernel]), rfl⟩
  replace hc11 : b ≠ [42] := fun q => hc11 (by rw [q])
  refine condF ?_
  refine caseS (fun hc12 => ?_) (fun hc12 => ?_)
  · obtain rfl : b = [47] := by simpa using hc12
    refine condT ?_; rw [dispatcherref01_Sign_R0_eq]; unfold dispatcherref01_Sign_R0_F; refine condT ?_; exact ⟨by first | rfl | (rw [show signL.contains _ = true from by decide +kernel]), rfl⟩
  replace hc12 : b ≠ [47] := fun q => hc12 (by rw [q])
  refine condF ?_
  refine caseS (fun hc13 => ?_) (fun hc13 => ?_)
  · obtain rfl : b = [37] := by simpa using hc13
    refine condT ?_; rw [dispatcherref01_Sign_R0_eq]; unfold dispatcherref01_Sign_R0_F; refine condT ?_; exact ⟨by first | rfl | (rw [show signL.contains _ = true from by decide +kernel]), rfl⟩
  replace hc13 : b ≠ [37] := fun q => hc13 (by rw [q])
  refine condF ?_
  refine caseS (fun hc14 => ?_) (fun hc14 => ?_)
  · obtain rfl : b = [60] := by simpa using hc14
    refine condT ?_; rw [dispatcherref01_Sign_R0_eq]; unfold dispatcherref01_Sign_R0_F; refine condT ?_; exact ⟨by first | rfl | (rw [show signL.contains _ = true from by decide +kernel]), rfl⟩
  replace hc14 : b ≠ [60] := fun q => hc14 (by rw [q])
  refine condF ?_
  refine caseS (fun hc15 => ?_) (fun hc15 => ?_)
  · obtain rfl : b = [60, 61] := by simpa using hc15
    refine condT ?_; rw [dispatcherref01_Sign_R0_eq]; unfold dispatcherref01_Sign_R0_F; refine condT ?_; exact ⟨by first | rfl | (rw [show signL.contains _ = true from by decide +kernel]), rfl⟩
  replace hc15 : b ≠ [60, 61] := fun q => hc15 (by rw [q])
  refine condF ?_
  refine caseS (fun hc16 => ?_) (fun hc16 => ?_)
  · obtain rfl : b = [62] := by simpa using hc16
    refine condT ?_; rw [dispatcherref01_Sign_R0_eq]; unfold dispatcherref01_Sign_R0_F; refine condT ?_; exact ⟨by first | rfl | (rw [show signL.contains _ = true from by decide +kernel]), rfl⟩
  replace hc16 : b ≠ [62] := fun q => hc16 (by rw [q])
  refine condF ?_
  refine caseS (fun hc17 => ?_) (fun hc17 => ?_)
  · obtain rfl : b = [62, 61] := by simpa using hc17
    refine condT ?_; rw [dispatcherref01_Sign_R0_eq]; unfold dispatcherref01_Sign_R0_F; refine condT ?_; exact ⟨by first | rfl | (rw [show signL.contains _ = true from by decide +kernel]), rfl⟩
  replace hc17 : b ≠ [62, 61] := fun q => hc17 (by rw [q])
  refine condF ?_
  refine caseS (fun hc18 => ?_) (fun hc18 => ?_)
  · obtain rfl : b = [61, 61] := by simpa using hc18
    refine condT ?_; rw [dispatcherref01_Sign_R0_eq]; unfold dispatcherref01_Sign_R0_F; refine condT ?_; exact ⟨by first | rfl | (rw [show signL.contains _ = true from by decide +kernel]), rfl⟩
  replace hc18 : b ≠ [61, 61] := fun q => hc18 (by rw [q])
  refine condF ?_
  refine caseS (fun hc19 => ?_) (fun hc19 => ?_)
  · obtain rfl : b = [33, 61] := by simpa using hc19
    refine condT ?_; rw [dispatcherref01_Sign_R0_eq]; unfold dispatcherref01_Sign_R0_F; refine condT ?_; exact ⟨by first | rfl | (rw [show signL.contains _ = true from by decide +kernel]), rfl⟩
  replace hc19 : b ≠ [33, 61] := fun q => hc19 (by rw [q])
  refine condF ?_
  refine caseS (fun hc20 => ?_) (fun hc20 => ?_)
  · obtain rfl : b = [38, 38] := by simpa using hc20
    refine condT ?_; rw [dispatcherref01_Sign_R0_eq]; unfold dispatcherref01_Sign_R0_F; refine condT ?_; exact ⟨by first | rfl | (rw [show signL.contains _ = true from by decide +kernel]), rfl⟩
  replace hc20 : b ≠ [38, 38] := fun q => hc20 (by rw [q])
  refine condF ?_
  refine caseS (fun hc21 => ?_) (fun hc21 => ?_)
  · obtain rfl : b = [124, 124] := by simpa using hc21
    refine condT ?_; rw [dispatcherref01_Sign_R0_eq]; unfold dispatcherref01_Sign_R0_F; refine condT ?_; exact ⟨by first | rfl | (rw [show signL.contains _ = true from by decide +kernel]), rfl⟩
  replace hc21 : b ≠ [124, 124] := fun q => hc21 (by rw [q])
  refine condF ?_
  refine caseS (fun hc22 => ?_) (fun hc22 => ?_)
  · obtain rfl : b = [33] := by simpa using hc22
    rw [dispatcherref01_Sign_R0_eq]; unfold dispatcherref01_Sign_R0_F; refine condT ?_; exact ⟨by first | rfl | (rw [show signL.contains _ = true from by decide +kernel]), rfl⟩
  replace hc22 : b ≠ [33] := fun q => hc22 (by rw [q])
  rw [dispatcherref01_Sign_R0_eq]; unfold dispatcherref01_Sign_R0_F; refine condF ?_
  rw [bk_n, sq_n, dispatcherref01_Sign_R1_eq]; unfold dispatcherref01_Sign_R1_F
  rw [show signL.contains b = false by unfold signL; simp only [List.contains_cons, List.contains_nil, Bool.or_false, Bool.or_eq_false_iff, beq_eq_false_iff_ne]; exact ⟨hc0, hc1, hc2, hc3, hc4, hc5, hc6, hc7, hc8, hc9, hc10, hc11, hc12, hc13, hc14, hc15, hc16, hc17, hc18, hc19, hc20, hc21, hc22⟩]
  exact ⟨rfl, rfl⟩
theorem Two_ok (b : Bs) (w : World) : Rt Tryd.prog 114 #[txt b] w fun v w' => v = .tuple #[.int .u8 (twoP b).1, .int .i64 (twoP b).2] ∧ w' = w := by
  refine dispatcherref02_Two_calls ?_
  unfold dispatcherref02_Two_F
  refine caseS (fun hc0 => ?_) (fun hc0 => ?_)
  · obtain rfl : b = [124, 124] := by simpa using hc0
    refine condT ?_; exact ⟨rfl, rfl⟩
  replace hc0 : b ≠ [124, 124] := fun q => hc0 (by rw [q])
  refine condF ?_
  refine caseS (fun hc1 => ?_) (fun hc1 => ?_)
  · obtain rfl : b = [38, 38] := by simpa using hc1
    refine condT ?_; exact ⟨rfl, rfl⟩
  replace hc1 : b ≠ [38, 38] := fun q => hc1 (by rw [q])
  refine condF ?_
  refine caseS (fun hc2 => ?_) (fun hc2 => ?_)
  · obtain rfl : b = [60] := by simpa using hc2
    refine condT ?_; exact ⟨rfl, rfl⟩
  replace hc2 : b ≠ [60] := fun q => hc2 (by rw [q])
  refine condF ?_
  refine caseS (fun hc3 => ?_) (fun hc3 => ?_)
  · obtain rfl : b = [60, 61] := by simpa using hc3
    refine condT ?_; exact ⟨rfl, rfl⟩
  replace hc3 : b ≠ [60, 61] := fun q => hc3 (by rw [q])
  refine condF ?_
  refine caseS (fun hc4 => ?_) (fun hc4 => ?_)
  · obtain rfl : b = [62] := by simpa using hc4
    refine condT ?_; exact ⟨rfl, rfl⟩
  replace hc4 : b ≠ [62] := fun q => hc4 (by rw [q])
  refine condF ?_
  refine caseS (fun hc5 => ?_) (fun hc5 => ?_)
  · obtain rfl : b = [62, 61] := by simpa using hc5
    refine condT ?_; exact ⟨rfl, rfl⟩
  replace hc5 : b ≠ [62, 61] := fun q => hc5 (by rw [q])
  refine condF ?_
  refine caseS (fun hc6 => ?_) (fun hc6 => ?_)
  · obtain rfl : b = [61, 61] := by simpa using hc6
    refine condT ?_; exact ⟨rfl, rfl⟩
  replace hc6 : b ≠ [61, 61] := fun q => hc6 (by rw [q])
  refine condF ?_
  refine caseS (fun hc7 => ?_) (fun hc7 => ?_)
  · obtain rfl : b = [33, 61] := by simpa using hc7
    refine condT ?_; exact ⟨rfl, rfl⟩
  replace hc7 : b ≠ [33, 61] := fun q => hc7 (by rw [q])
  refine condF ?_
  refine caseS (fun hc8 => ?_) (fun hc8 => ?_)
  · obtain rfl : b = [43] := by simpa using hc8
    refine condT ?_; exact ⟨rfl, rfl⟩
  replace hc8 : b ≠ [43] := fun q => hc8 (by rw [q])
  refine condF ?_
  refine caseS (fun hc9 => ?_) (fun hc9 => ?_)
  · obtain rfl : b = [45] := by simpa using hc9
    refine condT ?_; exact ⟨rfl, rfl⟩
  replace hc9 : b ≠ [45] := fun q => hc9 (by rw [q])
  refine condF ?_
  refine caseS (fun hc10 => ?_) (fun hc10 => ?_)
  · obtain rfl : b = [42] := by simpa using hc10
    refine condT ?_; exact ⟨rfl, rfl⟩
  replace hc10 : b ≠ [42] := fun q => hc10 (by rw [q])
  refine condF ?_
  refine caseS (fun hc11 => ?_) (fun hc11 => ?_)
  · obtain rfl : b = [47] := by simpa using hc11
    refine condT ?_; exact ⟨rfl, rfl⟩
  replace hc11 : b ≠ [47] := fun q => hc11 (by rw [q])
  refine condF ?_
  refine caseS (fun hc12 => ?_) (fun hc12 => ?_)
  · obtain rfl : b = [37] := by simpa using hc12
    refine condT ?_; exact ⟨rfl, rfl⟩
  replace hc12 : b ≠ [37] := fun q => hc12 (by rw [q])
  refine condF ?_
  rw [show twoP b = (0, -1) by unfold twoP twoL; simp only [findT]; rw [if_neg hc0, if_neg hc1, if_neg hc2, if_neg hc3, if_neg hc4, if_neg hc5, if_neg hc6, if_neg hc7, if_neg hc8, if_neg hc9, if_neg hc10, if_neg hc11, if_neg hc12]]
  exact ⟨rfl, rfl⟩
theorem numF_lim : ∀ (l : Bs) (n : Int), l.all digitP = true → 0 ≤ n → n * 10 ^ l.length ≤ numF l n ∧ numF l n < (n + 1) * 10 ^ l.length
  | [], n, _, h => by simp [numF]; omega
  | c :: r, n, ha, h => by
    simp only [List.all_cons, Bool.and_eq_true] at ha
    obtain ⟨hc, hr⟩ := ha
    unfold digitP at hc
    simp only [Bool.and_eq_true, decide_eq_true_eq] at hc
    obtain ⟨h1, h2⟩ := numF_lim r (10 * n + ((c.toNat : Int) - 48)) hr (by omega)
    have hp : (0 : Int) ≤ 10 ^ r.length := Int.pow_nonneg (by omega)
    simp only [numF, List.length_cons]
    rw [Int.pow_succ]
    constructor
    · refine Int.le_trans ?_ h1
      rw [show n * (10 ^ r.length * 10) = (10 * n) * 10 ^ r.length by rw [Int.mul_comm (10 ^ r.length) 10, ← Int.mul_assoc, Int.mul_comm n 10]]
      exact Int.mul_le_mul_of_nonneg_right (by omega) hp
    · refine Int.lt_of_lt_of_le h2 ?_
      rw [show (n + 1) * (10 ^ r.length * 10) = (10 * (n + 1)) * 10 ^ r.length by rw [Int.mul_comm (10 ^ r.length) 10, ← Int.mul_assoc, Int.mul_comm (n + 1) 10]]
      exact Int.mul_le_mul_of_nonneg_right (by omega) hp
theorem numF_snoc : ∀ (l : Bs) (n : Int) (c : UInt8), numF (l ++ [c]) n = 10 * numF l n + ((c.toNat : Int) - 48)
  | [], n, c => rfl
  | d :: r, n, c => by rw [List.cons_append, numF, numF, numF_snoc r]
theorem pow_le18 {n : Nat} (h : n ≤ 17) : (10 : Int) ^ n ≤ 100000000000000000 := by
  have : (10 : Nat) ^ n ≤ 10 ^ 17 := Nat.pow_le_pow_right (by omega) h
  have h2 : ((10 ^ n : Nat) : Int) ≤ ((10 ^ 17 : Nat) : Int) := Int.ofNat_le.2 this
  simpa using h2
theorem len_strB (b : Bs) (cs : List Bool) {w : World} {K : Value → World → Prop} : IK Tryd.prog .len #[9] 3 cs [txt b] w K = K (.int .i64 b.length) w := by
  show IK Tryd.prog .len #[9] 3 cs [.string ⟨b.toArray⟩] w K = _
  rw [len_str uS]
  simp [ByteArray.size]
theorem ixB {b : Bs} {n : Nat} {c : UInt8} (h : b[n]? = some c) {w : World} (K : Value → World → Prop) : VK Tryd.prog (Instr.index 9 (txt b) (.int .i64 (n : Int))) w K = K (.int .u8 c.toNat) w := by
  have hs : n < (⟨b.toArray⟩ : ByteArray).size := by
    have := (List.getElem?_eq_some_iff.1 h).1
    simpa [ByteArray.size] using this
  have hv : (Instr.index 9 (txt b) (.int .i64 (n : Int))).run Tryd.prog w = .ok (.int .u8 c.toNat) w := by
    show (Instr.index 9 (.string ⟨b.toArray⟩) (.int .i64 (n : Int))).run Tryd.prog w = _
    rw [run_index_string w _ _ _ _ uS, dif_pos ⟨by omega, by omega⟩]
    have : (⟨b.toArray⟩ : ByteArray)[n]'hs = c := by
      obtain ⟨h1, h2⟩ := List.getElem?_eq_some_iff.1 h
      show (b.toArray)[n] = c
      simpa using h2
    simp [this]
  exact VK_eq_of hv
theorem Number_ok (b : Bs) (w : World) (hb : b.length ≤ 1099511627776) : Rt Tryd.prog 103 #[txt b] w fun v w' => v = .tuple #[.int .i64 (numP b), .bool (numOk b)] ∧ Mod none_ w w' := by
  refine dispatcherref01_Number_calls ?_
  unfold dispatcherref01_Number_F
  have bad : numOk b = false → numP b = 0 := fun h => by unfold numP; rw [h]; rfl
  rw [len_strB]
  have no : ¬ (1 ≤ b.length ∧ b.length ≤ 18 ∧ ¬ (b.head? = some 48 ∧ 1 < b.length)) → numOk b = false := by
    intro h
    cases hq : numOk b with
    | false => rfl
    | true =>
      unfold numOk at hq
      simp only [Bool.and_eq_true, decide_eq_true_eq, Bool.not_eq_true', Bool.and_eq_false_iff, decide_eq_false_iff_not] at hq
      exact absurd ⟨hq.1.1.1, hq.1.1.2, fun q => hq.1.2.elim (fun r => r q.1) (fun r => r q.2)⟩ h
  have stop : numOk b = false → (Value.tuple #[.int .i64 0, .bool false] = .tuple #[.int .i64 (numP b), .bool (numOk b)] ∧ Mod none_ w w) := fun h => ⟨by rw [bad h, h], Mod.refl _ _⟩
  by_cases h1 : b.length < 1
  · simp only [↓VG_u, ↓UG_u, ↓MG_u, ↓NG_u, ↓PG_u, ↓BG_u, ↓CG_u, ↓IG_u, ↓VGtt, ↓VGtf, ↓VGft, ↓VGff, ↓UGtt, ↓UGtf, ↓UGft, ↓UGff, ↓MGtt, ↓MGtf, ↓MGft, ↓MGff, ↓NGtt, ↓NGtf, ↓NGft, ↓NGff, ↓PGtt, ↓PGtf, ↓PGft, ↓PGff, ↓BGtt, ↓BGtf, ↓BGft, ↓BGff, ↓CGtt, ↓CGtf, ↓CGft, ↓CGff, ↓IGtt, ↓IGtf, ↓IGft, ↓IGff, ↓PKt, ↓PKf, ↓CDt, ↓CDf, ↓NOTt, ↓NOTf, ↓NK_ptr, ↓LTt (show (b.length : Int) < 1 by omega)]
    exact stop (no (by omega))
  · simp only [↓VG_u, ↓UG_u, ↓MG_u, ↓NG_u, ↓PG_u, ↓BG_u, ↓CG_u, ↓IG_u, ↓VGtt, ↓VGtf, ↓VGft, ↓VGff, ↓UGtt, ↓UGtf, ↓UGft, ↓UGff, ↓MGtt, ↓MGtf, ↓MGft, ↓MGff, ↓NGtt, ↓NGtf, ↓NGft, ↓NGff, ↓PGtt, ↓PGtf, ↓PGft, ↓PGff, ↓BGtt, ↓BGtf, ↓BGft, ↓BGff, ↓CGtt, ↓CGtf, ↓CGft, ↓CGff, ↓IGtt, ↓IGtf, ↓IGft, ↓IGff, ↓PKt, ↓PKf, ↓CDt, ↓CDf, ↓NOTt, ↓NOTf, ↓NK_ptr, ↓LTf (show (1 : Int) ≤ b.length by omega), ↓len_strB]
    by_cases h2 : 18 < b.length
    · simp only [↓VG_u, ↓UG_u, ↓MG_u, ↓NG_u, ↓PG_u, ↓BG_u, ↓CG_u, ↓IG_u, ↓VGtt, ↓VGtf, ↓VGft, ↓VGff, ↓UGtt, ↓UGtf, ↓UGft, ↓UGff, ↓MGtt, ↓MGtf, ↓MGft, ↓MGff, ↓NGtt, ↓NGtf, ↓NGft, ↓NGff, ↓PGtt, ↓PGtf, ↓PGft, ↓PGff, ↓BGtt, ↓BGtf, ↓BGft, ↓BGff, ↓CGtt, ↓CGtf, ↓CGft, ↓CGff, ↓IGtt, ↓IGtf, ↓IGft, ↓IGff, ↓PKt, ↓PKf, ↓CDt, ↓CDf, ↓NOTt, ↓NOTf, ↓NK_ptr, ↓GTt (show (18 : Int) < b.length by omega)]
      exact stop (no (by omega))
    · simp only [↓VG_u, ↓UG_u, ↓MG_u, ↓NG_u, ↓PG_u, ↓BG_u, ↓CG_u, ↓IG_u, ↓VGtt, ↓VGtf, ↓VGft, ↓VGff, ↓UGtt, ↓UGtf, ↓UGft, ↓UGff, ↓MGtt, ↓MGtf, ↓MGft, ↓MGff, ↓NGtt, ↓NGtf, ↓NGft, ↓NGff, ↓PGtt, ↓PGtf, ↓PGft, ↓PGff, ↓BGtt, ↓BGtf, ↓BGft, ↓BGff, ↓CGtt, ↓CGtf, ↓CGft, ↓CGff, ↓IGtt, ↓IGtf, ↓IGft, ↓IGff, ↓PKt, ↓PKf, ↓CDt, ↓CDf, ↓NOTt, ↓NOTf, ↓NK_ptr, ↓GTf (show (b.length : Int) ≤ 18 by omega)]
      obtain ⟨c, hc⟩ : ∃ c, b[0]? = some c := ⟨b[0], List.getElem?_eq_getElem (by omega)⟩
      have hix : ∀ K : Value → World → Prop, VK Tryd.prog (Instr.index 9 (txt b) (.int .i64 0)) w K = K (.int .u8 c.toNat) w := fun K => ixB hc K
      have hh : b.head? = some c := by rw [List.head?_eq_getElem?]; exact hc
      have loop : ∀ (ρ : Sl), ρ 0 = txt b → ρ 4 = .int .i64 0 → ρ 5 = .int .i64 0 → ¬ (c = 48 ∧ 1 < b.length) → W fn_ Tryd.prog 44 (Code.loop dispatcherref01_Number_L0) (blkK 0 (seqK (sx fn_ Tryd.prog 44 dispatcherref01_Number_R1 (retK Tryd.prog [ResultVar.tmp 2, ResultVar.tmp 3] fun v w' => v = .tuple #[.int .i64 (numP b), .bool (numOk b)] ∧ Mod none_ w w')) (retK Tryd.prog [ResultVar.tmp 2, ResultVar.tmp 3] fun v w' => v = .tuple #[.int .i64 (numP b), .bool (numOk b)] ∧ Mod none_ w w'))) ρ w := by
        intro ρ q0 q4 q5 hz
        refine W_loopG dispatcherref01_Number_L0_ok (fun m ρ w' => ∃ n : Nat, n ≤ b.length ∧ m = b.length - n ∧ ρ 0 = txt b ∧ ρ 4 = .int .i64 (numF (b.take n) 0) ∧ ρ 5 = .int .i64 n ∧ (b.take n).all digitP = true ∧ Mod none_ w w') (b.length - 0) ⟨0, by omega, rfl, q0, q4, q5, rfl, Mod.refl _ _⟩ ?_
        rintro m ρ w2 ⟨n, hn, rfl, q0, q4, q5, hall, hm⟩
        rw [dispatcherref01_Number_L0_eq]
        unfold dispatcherref01_Number_L0_F
        rw [q0, q5, q4, len_strB]
        refine BKlss (a := n) (b := b.length) rfl rfl ?_
        refine caseC (fun hlt => ?_) (fun hlt => ?_)
        · have hlt : n < b.length := by have := of_decide_eq_true hlt; omega
          have hx : b[n]? = some b[n] := List.getElem?_eq_getElem hlt
          rw [ixB hx]
          refine CK_st Tryd.func45 rfl rfl (digitR_ok _ w2) ?_
          rintro _ w3 ⟨rfl, rfl⟩
          rw [digit_nat, not_ok]
          cases hd : digitP b[n] with
          | false =>
            refine condT ?_
            have hf : numOk b = false := by
              unfold numOk
              rw [show b.all digitP = false from List.all_eq_false.2 ⟨b[n], List.getElem_mem hlt, by simp [hd]⟩, Bool.and_false]
            exact ⟨by rw [bad hf, hf]; rfl, hm⟩
          | true =>
            refine condF ?_
            have hd' := hd
            unfold digitP at hd'
            simp only [Bool.and_eq_true, decide_eq_true_eq] at hd'
            have hlim := numF_lim (b.take n) 0 hall (by omega)
            have hp := pow_le18 (n := (b.take n).length) (by rw [List.length_take]; omega)
            rw [BK_mul, wrap_i (n := 10 * numF (b.take n) 0) (by omega) (by omega), ixB hx, BK_sub, IntWalk.u8_in _ (by omega)]
            rw [conv_i (k := .i64) (by kernel_rfl) (by kernel_rfl), wrap_i (n := ((b[n].toNat : Int) - 48)) (by omega) (by omega), BK_add, wrap_i (n := 10 * numF (b.take n) 0 + ((b[n].toNat : Int) - 48)) (by omega) (by omega)]
            refine BKadd (a := n) (b := 1) rfl rfl (by omega) (by omega) ?_
            refine ⟨b.length - (n + 1), by omega, n + 1, hlt, rfl, q0, ?_, rfl, ?_, hm⟩
            · rw [List.take_add_one, hx, Option.toList_some, numF_snoc]; rfl
            · rw [List.take_add_one, hx, Option.toList_some, List.all_append, hall]; simp [hd]
        · obtain rfl : n = b.length := by have := of_decide_eq_false hlt; omega
          rw [sq_x, bk_x, sq_n, dispatcherref01_Number_R1_eq]
          unfold dispatcherref01_Number_R1_F
          rw [List.take_length] at q4 hall
          have hok : numOk b = true := by
            unfold numOk
            rw [hall, hh]
            by_cases hcz : c = 48
            · simp [hcz, show 1 ≤ b.length by omega, show b.length ≤ 18 by omega, show ¬ 1 < b.length from fun q => hz ⟨hcz, q⟩]
            · simp [hcz, show 1 ≤ b.length by omega, show b.length ≤ 18 by omega]
          exact ⟨by unfold numP; rw [hok, if_pos rfl, ← q4]; rfl, hm⟩
      by_cases hcz : c = 48
      · subst hcz
        by_cases hl : 1 < b.length
        · simp only [↓VG_u, ↓UG_u, ↓MG_u, ↓NG_u, ↓PG_u, ↓BG_u, ↓CG_u, ↓IG_u, ↓VGtt, ↓VGtf, ↓VGft, ↓VGff, ↓UGtt, ↓UGtf, ↓UGft, ↓UGff, ↓MGtt, ↓MGtf, ↓MGft, ↓MGff, ↓NGtt, ↓NGtf, ↓NGft, ↓NGff, ↓PGtt, ↓PGtf, ↓PGft, ↓PGff, ↓BGtt, ↓BGtf, ↓BGft, ↓BGff, ↓CGtt, ↓CGtf, ↓CGft, ↓CGff, ↓IGtt, ↓IGtf, ↓IGft, ↓IGff, ↓PKt, ↓PKf, ↓CDt, ↓CDf, ↓NOTt, ↓NOTf, ↓NK_ptr, ↓hix, ↓EQt (show (((48 : UInt8).toNat : Nat) : Int) = 48 by rfl), ↓len_strB, ↓GTt (show (1 : Int) < b.length by omega)]
          exact stop (no (fun q => q.2.2 ⟨hh, hl⟩))
        · simp only [↓VG_u, ↓UG_u, ↓MG_u, ↓NG_u, ↓PG_u, ↓BG_u, ↓CG_u, ↓IG_u, ↓VGtt, ↓VGtf, ↓VGft, ↓VGff, ↓UGtt, ↓UGtf, ↓UGft, ↓UGff, ↓MGtt, ↓MGtf, ↓MGft, ↓MGff, ↓NGtt, ↓NGtf, ↓NGft, ↓NGff, ↓PGtt, ↓PGtf, ↓PGft, ↓PGff, ↓BGtt, ↓BGtf, ↓BGft, ↓BGff, ↓CGtt, ↓CGtf, ↓CGft, ↓CGff, ↓IGtt, ↓IGtf, ↓IGft, ↓IGff, ↓PKt, ↓PKf, ↓CDt, ↓CDf, ↓NOTt, ↓NOTf, ↓NK_ptr, ↓hix, ↓EQt (show (((48 : UInt8).toNat : Nat) : Int) = 48 by rfl), ↓len_strB, ↓GTf (show (b.length : Int) ≤ 1 by omega)]
          exact loop _ rfl rfl rfl (fun q => hl q.2)
      · have hne : ((c.toNat : Nat) : Int) ≠ 48 := fun q => hcz (UInt8.toNat.inj (by show c.toNat = 48; omega))
        simp only [↓VG_u, ↓UG_u, ↓MG_u, ↓NG_u, ↓PG_u, ↓BG_u, ↓CG_u, ↓IG_u, ↓VGtt, ↓VGtf, ↓VGft, ↓VGff, ↓UGtt, ↓UGtf, ↓UGft, ↓UGff, ↓MGtt, ↓MGtf, ↓MGft, ↓MGff, ↓NGtt, ↓NGtf, ↓NGft, ↓NGff, ↓PGtt, ↓PGtf, ↓PGft, ↓PGff, ↓BGtt, ↓BGtf, ↓BGft, ↓BGff, ↓CGtt, ↓CGtf, ↓CGft, ↓CGff, ↓IGtt, ↓IGtf, ↓IGft, ↓IGff, ↓PKt, ↓PKf, ↓CDt, ↓CDf, ↓NOTt, ↓NOTf, ↓NK_ptr, ↓hix, ↓EQf hne]
        exact loop _ rfl rfl rfl (fun q => hcz q.1)
abbrev tT : TypeId := 109
theorem zTkg : (Tryd.prog.info? 109).bind (·.zero) = some (.agg zTk.cells.toArray) := by kernel_rfl
theorem iTk : (Tryd.prog.info? 109).map (·.size) = some 5 := by kernel_rfl
theorem bTk (b : Bs) : Tryd.prog.built 109 [(1, txt b)] = some (Tk.mk 0 b 0 0 0).cells.toArray := by kernel_rfl
theorem tk_one (t : Tk) : (t.cells.toArray.all (·.oneCell')) = true := by simp [Tk.cells, txt, Value.oneCell']
theorem uTks : Tryd.prog.underlying 92 = some (.slice 109) := by kernel_rfl
theorem cTk : Tryd.prog.cellsOf 109 = 4 + 1 := by kernel_rfl
theorem eTks : elemOk Tryd.prog 92 109 5 48 = true := by kernel_rfl
theorem uBytes : Tryd.prog.underlying 95 = some (.slice 5) := by kernel_rfl
theorem cB : Tryd.prog.cellsOf 5 = 0 + 1 := by kernel_rfl
theorem tk_fo {w : World} {b : Nat} {e : Tk} {ty : TypeId} {fr : Nat × Nat} (hb : w.heap[b]? = some (.cells e.cells.toArray ty fr)) : FO Tryd.prog w 109 0 0 ⟨b, 0, none⟩ 5 (.int .u8 e.kind) ∧ FO Tryd.prog w 109 1 1 ⟨b, 0, none⟩ 9 (txt e.text) ∧ FO Tryd.prog w 109 2 2 ⟨b, 0, none⟩ 2 (.int .i64 e.num) ∧ FO Tryd.prog w 109 3 3 ⟨b, 0, none⟩ 3 (.int .i64 e.line) ∧ FO Tryd.prog w 109 4 4 ⟨b, 0, none⟩ 3 (.int .i64 e.col) :=
  ⟨FO.blk hb (by kernel_rfl) uU8 rfl rfl, FO.blk hb (by kernel_rfl) uS rfl rfl, FO.blk hb (by kernel_rfl) uI64 rfl rfl, FO.blk hb (by kernel_rfl) uI rfl rfl, FO.blk hb (by kernel_rfl) uI rfl rfl⟩
theorem OfTx_ok (b : Bs) (w : World) (hb : b.length ≤ 1099511627776) : Rt Tryd.prog 81 #[txt b] w fun v w' => v = .agg (Tk.mk (tokP b).1 b (tokP b).2 0 0).cells.toArray ∧ Mod none_ w w' := by
  refine dispatcherref01_Of_calls ?_
  unfold dispatcherref01_Of_F
  refine al_k (cs := zTk.cells.toArray) zTkg rfl _ fun w1 hb1 hm1 hz1 => ?_
  rw [build_ok (bTk b)]
  refine lcl_k (cs := (Tk.mk 0 b 0 0 0).cells.toArray) zTkg _ iTk rfl (tk_one _) fun w2 hb2 hm2 hz2 => ?_
  have hb12 := hm2.blk hb1 id
  have hm02 := hm1.trans hm2
  refine CK_st Tryd.func103 rfl rfl (Number_ok b w2 hb) ?_
  rintro _ w3 ⟨rfl, hm3⟩
  rw [extract_ok (v := .int .i64 (numP b)) rfl, extract_ok (v := .bool (numOk b)) rfl]
  refine CK_st Tryd.func44 rfl rfl (WordR_ok w3 ⟨b.toArray⟩) ?_
  rintro _ w4 ⟨rfl, hm4⟩
  have hm24 := hm3.trans hm4
  have hb14 := hm24.blk hb12 id
  have hb24 := hm24.blk hb2 id
  have hm04 := hm02.trans hm24
  have hsz : w1.heap.size ≤ w4.heap.size := Nat.le_trans hm2.size hm24.size
  have fin : ∀ (ρ : Sl) (w5 : World) (t : Tk), ρ 3 = .pointer (some ⟨w1.heap.size, 0, none⟩) → ρ 2 = .pointer (some ⟨w.heap.size, 0, none⟩) → w5.heap[w1.heap.size]? = some (.cells t.cells.toArray tT (0, 0)) → w5.heap[w.heap.size]? = some (.cells zTk.cells.toArray tT (0, 0)) → Mod none_ w w5 → t = Tk.mk (tokP b).1 b (tokP b).2 0 0 →
      sx fn_ Tryd.prog 31 dispatcherref01_Of_R0 (retK Tryd.prog [ResultVar.cell 2 109] fun v w' => v = .agg (Tk.mk (tokP b).1 b (tokP b).2 0 0).cells.toArray ∧ Mod none_ w w') ρ w5 := by
    intro ρ w5 t q3 q2 h1 h2 hm ht
    subst ht
    rw [dispatcherref01_Of_R0_eq]
    unfold dispatcherref01_Of_R0_F
    rw [q3, q2]
    refine ldB (cs := (Tk.mk (tokP b).1 b (tokP b).2 0 0).cells.toArray) Tryd.underlying109 rfl iTk h1 ?_
    refine stS (old := zTk.cells.toArray) rfl rfl iTk rfl (tk_one _) h2 fun w6 h6 hm6 hz6 => ?_
    exact rtCell (cs := (Tk.mk (tokP b).1 b (tokP b).2 0 0).cells.toArray) (b := w.heap.size) q2 Tryd.underlying109 rfl iTk h6 ⟨rfl, hm.fresh hm6 (Nat.le_refl _)⟩
  have hne : w.heap.size ≠ w1.heap.size := by omega
  refine caseC (fun hw => ?_) (fun hw => ?_)
  · refine fst_k (off := 0) (by kernel_rfl) (by kernel_rfl) rfl hb24 (by simp [Tk.cells]) (cs' := (Tk.mk 3 b 0 0 0).cells.toArray) rfl fun x w5 h5 hm5 hz5 => ?_
    refine fin _ w5 _ rfl rfl h5 (hm5.blk hb14 hne) (hm04.fresh hm5 (by omega)) ?_
    have : wordsL.contains b = true := hw
    unfold tokP
    rw [if_pos this]
  · have hw : wordsL.contains b = false := hw
    refine CK_st Tryd.func20 rfl rfl (NameR_ok w4 ⟨b.toArray⟩ (by unfold maxLen; simp [ByteArray.size]; omega)) ?_
    rintro _ w5 ⟨rfl, hm5⟩
    have hb15 := hm5.blk hb14 id
    have hb25 := hm5.blk hb24 id
    have hm05 := hm04.trans hm5
    have hs5 := hm5.size
    refine caseC (fun hn => ?_) (fun hn => ?_)
    · refine fst_k (off := 0) (by kernel_rfl) (by kernel_rfl) rfl hb25 (by simp [Tk.cells]) (cs' := (Tk.mk 1 b 0 0 0).cells.toArray) rfl fun x w6 h6 hm6 hz6 => ?_
      refine fin _ w6 _ rfl rfl h6 (hm6.blk hb15 hne) (hm05.fresh hm6 (by omega)) ?_
      have : nameP (bs b) = true := hn
      unfold tokP
      rw [hw, if_neg (by simp), if_pos this]
    · have hn : nameP (bs b) = false := hn
      cases hk : numOk b with
      | true =>
        refine condT ?_
        refine fst_k (off := 0) (by kernel_rfl) (by kernel_rfl) rfl hb25 (by simp [Tk.cells]) (cs' := (Tk.mk 2 b 0 0 0).cells.toArray) rfl fun x w6 h6 hm6 hz6 => ?_
        refine fst_k (off := 2) (by kernel_rfl) (by kernel_rfl) rfl h6 (by simp [Tk.cells]) (cs' := (Tk.mk 2 b (numP b) 0 0).cells.toArray) rfl fun x w7 h7 hm7 hz7 => ?_
        refine fin _ w7 _ rfl rfl h7 (hm7.blk (hm6.blk hb15 hne) hne) ((hm05.fresh hm6 (by omega)).fresh hm7 (by omega)) ?_
        unfold tokP
        rw [hw, hn, hk, if_neg (by simp), if_neg (by simp), if_pos rfl]
        unfold numP
        rw [hk, if_pos rfl]
      | false =>
        refine condF ?_
        refine CK_st Tryd.func102 rfl rfl (Sign_ok b w5) ?_
        rintro _ w6 ⟨rfl, rfl⟩
        cases hs : signL.contains b with
        | true =>
          refine condT ?_
          refine fst_k (off := 0) (by kernel_rfl) (by kernel_rfl) rfl hb25 (by simp [Tk.cells]) (cs' := (Tk.mk 4 b 0 0 0).cells.toArray) rfl fun x w6 h6 hm6 hz6 => ?_
          refine fin _ w6 _ rfl rfl h6 (hm6.blk hb15 hne) (hm05.fresh hm6 (by omega)) ?_
          unfold tokP
          rw [hw, hn, hk, hs, if_neg (by simp), if_neg (by simp), if_neg (by simp), if_pos rfl]
        | false =>
          refine condF ?_
          refine fin _ w6 _ rfl rfl hb25 hb15 hm05 ?_
          unfold tokP
          rw [hw, hn, hk, hs, if_neg (by simp), if_neg (by simp), if_neg (by simp), if_neg (by simp)]
end Go.Proofs.YtbnbcimjapiicaaDoor.Tr
set_option linter.unusedVariables false
set_option linter.unusedSimpArgs false
set_option maxRecDepth 4000
namespace Go.X
open Go
theorem runP_yes {p : UInt8 → Bool} {b : Bs} {k : Nat} {c : UInt8} (h : b[k]? = some c) (hp : p c = true) : runP p b k = runP p b (k + 1) := by
  unfold runP
  obtain ⟨hk, hv⟩ := List.getElem?_eq_some_iff.1 h
  rw [List.drop_eq_getElem_cons hk, List.takeWhile_cons, hv, hp, if_pos rfl, List.length_cons]
  omega
theorem runP_no {p : UInt8 → Bool} {b : Bs} {k : Nat} (h : ∀ c, b[k]? = some c → p c = false) : runP p b k = k := by
  unfold runP
  by_cases hk : k < b.length
  · rw [List.drop_eq_getElem_cons hk, List.takeWhile_cons, h _ (List.getElem?_eq_getElem hk), if_neg (by simp)]
    rfl
  · rw [List.drop_of_length_le (by omega)]
    rfl
theorem runP_le {p : UInt8 → Bool} {b : Bs} {k : Nat} (h : k ≤ b.length) : k ≤ runP p b k ∧ runP p b k ≤ b.length := by
  unfold runP
  have h1 := List.Sublist.length_le (List.takeWhile_sublist p (l := b.drop k))
  rw [List.length_drop] at h1
  omega
theorem endP_le {b : Bs} {a : Nat} (h : a < b.length) : a < endP b a ∧ endP b a ≤ b.length := by
  unfold endP
  have h1 := runP_le (p := alnumP) (b := b) (k := a + 1) (by omega)
  have h2 := runP_le (p := digitP) (b := b) (k := a + 1) (by omega)
  dsimp only
  split
  · omega
  · split
    · omega
    · split <;> omega
end Go.X
namespace Go.Proofs.YtbnbcimjapiicaaDoor.Tr
open Go Go.X Go.RowKit Go.Proofs.YtbnbcimjapiicaaDoor.XD Go.Proofs.YtbnbcimjapiicaaDoor.XK
theorem len_sl8 {A : Option Addr} {n c : Nat} (cs : List Bool) {w : World} {K : Value → World → Prop} : IK Tryd.prog .len #[95] 3 cs [.slice A n c] w K = K (.int .i64 n) w := len_sl uBytes cs A n c
theorem byte_at {w : World} {v : Value} {b : Bs} {n : Nat} {c : UInt8} (h : reads w 1 v b.length (b.map byteV)) (hc : b[n]? = some c) {K : Value → Value → World → Prop} (hk : ∀ x, K x (.int .u8 c.toNat) w) :
    VK Tryd.prog (Instr.indexAt 95 v (.int .i64 (n : Int))) w fun x w => VK Tryd.prog (Instr.loadAt 5 x) w (K x) := by
  refine ixld uBytes cB uU8 rfl h (by omega) ?_ hk
  rw [Int.toNat_natCast, List.getElem?_map, hc]
  rfl
theorem letter_call {w : World} {c : UInt8} {K : Value → World → Prop} (hk : K (.bool (letterP c)) w) : CK Tryd.prog (.func (.func 43) #[] #[]) [.int .u8 c.toNat] w K := by
  refine CK_st Tryd.func43 rfl rfl (letterR_ok _ w) ?_
  rintro _ w ⟨rfl, rfl⟩
  rw [letter_nat]
  exact hk
theorem digit_call {w : World} {c : UInt8} {K : Value → World → Prop} (hk : K (.bool (digitP c)) w) : CK Tryd.prog (.func (.func 45) #[] #[]) [.int .u8 c.toNat] w K := by
  refine CK_st Tryd.func45 rfl rfl (digitR_ok _ w) ?_
  rintro _ w ⟨rfl, rfl⟩
  rw [digit_nat]
  exact hk
theorem end_ok {w : World} {v : Value} {b : Bs} {a : Nat} (h : reads w 1 v b.length (b.map byteV)) (ha : a < b.length) (hb : b.length ≤ 1099511627776) : Rt Tryd.prog 80 #[v, .int .i64 (a : Int)] w fun r w' => r = .int .i64 (endP b a) ∧ Mod none_ w w' := by
  obtain ⟨A, cp, rfl, _⟩ := reads_cap h
  have hx : b[a]? = some b[a] := List.getElem?_eq_getElem ha
  have hg : b.getD a 0 = b[a] := by rw [List.getD_eq_getElem?_getD, hx]; rfl
  refine dispatcherref01_end_calls ?_
  unfold dispatcherref01_end_F
  refine BKadd (a := a) (b := 1) rfl rfl (by omega) (by omega) ?_
  refine byte_at h hx fun x11 => ?_
  refine letter_call ?_
  have fin : ∀ (ρ : Sl) (w' : World) (k : Nat), ρ 5 = .int .i64 k → k = endP b a → Mod none_ w w' → sx fn_ Tryd.prog 70 dispatcherref01_end_R0 (retK Tryd.prog [ResultVar.tmp 4] fun r w' => r = .int .i64 (endP b a) ∧ Mod none_ w w') ρ w' := by
    intro ρ w' k h5 hk hm
    rw [dispatcherref01_end_R0_eq]
    unfold dispatcherref01_end_R0_F
    exact ⟨by rw [← hk]; exact h5, hm⟩
  cases hl : letterP b[a] with
  | true =>
    refine condT ?_
    have he : endP b a = runP alnumP b (a + 1) := by unfold endP; rw [hg]; dsimp only; rw [hl]; rfl
    refine W_loopG dispatcherref01_end_L1_ok (fun m ρ w' => ∃ k : Nat, k ≤ b.length ∧ m = b.length - k ∧ ρ 0 = .slice A b.length cp ∧ ρ 5 = .int .i64 k ∧ runP alnumP b k = endP b a ∧ w' = w) (b.length - (a + 1)) ⟨a + 1, by omega, rfl, rfl, rfl, he.symm, rfl⟩ ?_
    rintro m ρ w2 ⟨k, hk, rfl, q0, q5, hr, rfl⟩
    rw [dispatcherref01_end_L1_eq]
    unfold dispatcherref01_end_L1_F
    rw [q0, q5, len_sl8]
    by_cases hkl : k < b.length
    · have hxk : b[k]? = some b[k] := List.getElem?_eq_getElem hkl
      simp only [↓VG_u, ↓UG_u, ↓MG_u, ↓NG_u, ↓PG_u, ↓BG_u, ↓CG_u, ↓IG_u, ↓VGtt, ↓VGtf, ↓VGft, ↓VGff, ↓UGtt, ↓UGtf, ↓UGft, ↓UGff, ↓MGtt, ↓MGtf, ↓MGft, ↓MGff, ↓NGtt, ↓NGtf, ↓NGft, ↓NGff, ↓PGtt, ↓PGtf, ↓PGft, ↓PGff, ↓BGtt, ↓BGtf, ↓BGft, ↓BGff, ↓CGtt, ↓CGtf, ↓CGft, ↓CGff, ↓IGtt, ↓IGtf, ↓IGft, ↓IGff, ↓PKt, ↓PKf, ↓CDt, ↓CDf, ↓NOTt, ↓NOTf, ↓NK_ptr, ↓LTt (show (k : Int) < b.length by omega)]
      refine byte_at h hxk fun x21 => ?_
      refine letter_call ?_
      have step : ∀ ρ' : Sl, ρ' 0 = .slice A b.length cp → ρ' 5 = .int .i64 ((k : Int) + 1) → alnumP b[k] = true → ∃ m', m' < b.length - k ∧ ∃ k : Nat, k ≤ b.length ∧ m' = b.length - k ∧ ρ' 0 = .slice A b.length cp ∧ ρ' 5 = .int .i64 k ∧ runP alnumP b k = endP b a ∧ w2 = w2 := by
        intro ρ' p0 p5 hal
        exact ⟨_, by omega, k + 1, hkl, rfl, p0, p5, by rw [← runP_yes hxk hal]; exact hr, rfl⟩
      cases hlk : letterP b[k] with
      | true =>
        simp only [↓VG_u, ↓UG_u, ↓MG_u, ↓NG_u, ↓PG_u, ↓BG_u, ↓CG_u, ↓IG_u, ↓VGtt, ↓VGtf, ↓VGft, ↓VGff, ↓UGtt, ↓UGtf, ↓UGft, ↓UGff, ↓MGtt, ↓MGtf, ↓MGft, ↓MGff, ↓NGtt, ↓NGtf, ↓NGft, ↓NGff, ↓PGtt, ↓PGtf, ↓PGft, ↓PGff, ↓BGtt, ↓BGtf, ↓BGft, ↓BGff, ↓CGtt, ↓CGtf, ↓CGft, ↓CGff, ↓IGtt, ↓IGtf, ↓IGft, ↓IGff, ↓PKt, ↓PKf, ↓CDt, ↓CDf, ↓NOTt, ↓NOTf, ↓NK_ptr]
        refine BKadd (a := k) (b := 1) rfl rfl (by omega) (by omega) ?_
        exact step _ q0 rfl (by unfold alnumP; rw [hlk]; rfl)
      | false =>
        simp only [↓VG_u, ↓UG_u, ↓MG_u, ↓NG_u, ↓PG_u, ↓BG_u, ↓CG_u, ↓IG_u, ↓VGtt, ↓VGtf, ↓VGft, ↓VGff, ↓UGtt, ↓UGtf, ↓UGft, ↓UGff, ↓MGtt, ↓MGtf, ↓MGft, ↓MGff, ↓NGtt, ↓NGtf, ↓NGft, ↓NGff, ↓PGtt, ↓PGtf, ↓PGft, ↓PGff, ↓BGtt, ↓BGtf, ↓BGft, ↓BGff, ↓CGtt, ↓CGtf, ↓CGft, ↓CGff, ↓IGtt, ↓IGtf, ↓IGft, ↓IGff, ↓PKt, ↓PKf, ↓CDt, ↓CDf, ↓NOTt, ↓NOTf, ↓NK_ptr]
        refine byte_at h hxk fun x27 => ?_
        refine digit_call ?_
        cases hdk : digitP b[k] with
        | true =>
          simp only [↓VG_u, ↓UG_u, ↓MG_u, ↓NG_u, ↓PG_u, ↓BG_u, ↓CG_u, ↓IG_u, ↓VGtt, ↓VGtf, ↓VGft, ↓VGff, ↓UGtt, ↓UGtf, ↓UGft, ↓UGff, ↓MGtt, ↓MGtf, ↓MGft, ↓MGff, ↓NGtt, ↓NGtf, ↓NGft, ↓NGff, ↓PGtt, ↓PGtf, ↓PGft, ↓PGff, ↓BGtt, ↓BGtf, ↓BGft, ↓BGff, ↓CGtt, ↓CGtf, ↓CGft, ↓CGff, ↓IGtt, ↓IGtf, ↓IGft, ↓IGff, ↓PKt, ↓PKf, ↓CDt, ↓CDf, ↓NOTt, ↓NOTf, ↓NK_ptr]
          refine BKadd (a := k) (b := 1) rfl rfl (by omega) (by omega) ?_
          exact step _ q0 rfl (by unfold alnumP; rw [hlk, hdk]; rfl)
        | false =>
          simp only [↓VG_u, ↓UG_u, ↓MG_u, ↓NG_u, ↓PG_u, ↓BG_u, ↓CG_u, ↓IG_u, ↓VGtt, ↓VGtf, ↓VGft, ↓VGff, ↓UGtt, ↓UGtf, ↓UGft, ↓UGff, ↓MGtt, ↓MGtf, ↓MGft, ↓MGff, ↓NGtt, ↓NGtf, ↓NGft, ↓NGff, ↓PGtt, ↓PGtf, ↓PGft, ↓PGff, ↓BGtt, ↓BGtf, ↓BGft, ↓BGff, ↓CGtt, ↓CGtf, ↓CGft, ↓CGff, ↓IGtt, ↓IGtf, ↓IGft, ↓IGff, ↓PKt, ↓PKf, ↓CDt, ↓CDf, ↓NOTt, ↓NOTf, ↓NK_ptr]
          rw [sq_x, bk_x, bk_n, sq_n]
          refine fin _ w2 k q5 ?_ (Mod.refl _ _)
          rw [← hr, runP_no]
          intro c hc
          rw [hxk] at hc
          cases hc
          unfold alnumP
          rw [hlk, hdk]; rfl
    · simp only [↓VG_u, ↓UG_u, ↓MG_u, ↓NG_u, ↓PG_u, ↓BG_u, ↓CG_u, ↓IG_u, ↓VGtt, ↓VGtf, ↓VGft, ↓VGff, ↓UGtt, ↓UGtf, ↓UGft, ↓UGff, ↓MGtt, ↓MGtf, ↓MGft, ↓MGff, ↓NGtt, ↓NGtf, ↓NGft, ↓NGff, ↓PGtt, ↓PGtf, ↓PGft, ↓PGff, ↓BGtt, ↓BGtf, ↓BGft, ↓BGff, ↓CGtt, ↓CGtf, ↓CGft, ↓CGff, ↓IGtt, ↓IGtf, ↓IGft, ↓IGff, ↓PKt, ↓PKf, ↓CDt, ↓CDf, ↓NOTt, ↓NOTf, ↓NK_ptr, ↓LTf (show (b.length : Int) ≤ k by omega)]
      rw [sq_x, bk_x, bk_n, sq_n]
      refine fin _ w2 k q5 ?_ (Mod.refl _ _)
      rw [← hr, runP_no]
      intro c hc
      rw [List.getElem?_eq_none (by omega)] at hc
      cases hc
  | false =>
    refine condF ?_
    refine byte_at h hx fun x37 => ?_
    refine digit_call ?_
    cases hd : digitP b[a] with
    | true =>
      refine condT ?_
      have he : endP b a = runP digitP b (a + 1) := by unfold endP; rw [hg]; dsimp only; rw [hl, hd]; rfl
      refine W_loopG dispatcherref01_end_L2_ok (fun m ρ w' => ∃ k : Nat, k ≤ b.length ∧ m = b.length - k ∧ ρ 0 = .slice A b.length cp ∧ ρ 5 = .int .i64 k ∧ runP digitP b k = endP b a ∧ w' = w) (b.length - (a + 1)) ⟨a + 1, by omega, rfl, rfl, rfl, he.symm, rfl⟩ ?_
      rintro m ρ w2 ⟨k, hk, rfl, q0, q5, hr, rfl⟩
      rw [dispatcherref01_end_L2_eq]
      unfold dispatcherref01_end_L2_F
      rw [q0, q5, len_sl8]
      by_cases hkl : k < b.length
      · have hxk : b[k]? = some b[k] := List.getElem?_eq_getElem hkl
        simp only [↓VG_u, ↓UG_u, ↓MG_u, ↓NG_u, ↓PG_u, ↓BG_u, ↓CG_u, ↓IG_u, ↓VGtt, ↓VGtf, ↓VGft, ↓VGff, ↓UGtt, ↓UGtf, ↓UGft, ↓UGff, ↓MGtt, ↓MGtf, ↓MGft, ↓MGff, ↓NGtt, ↓NGtf, ↓NGft, ↓NGff, ↓PGtt, ↓PGtf, ↓PGft, ↓PGff, ↓BGtt, ↓BGtf, ↓BGft, ↓BGff, ↓CGtt, ↓CGtf, ↓CGft, ↓CGff, ↓IGtt, ↓IGtf, ↓IGft, ↓IGff, ↓PKt, ↓PKf, ↓CDt, ↓CDf, ↓NOTt, ↓NOTf, ↓NK_ptr, ↓LTt (show (k : Int) < b.length by omega)]
        refine byte_at h hxk fun x21 => ?_
        refine digit_call ?_
        cases hdk : digitP b[k] with
        | true =>
          simp only [↓VG_u, ↓UG_u, ↓MG_u, ↓NG_u, ↓PG_u, ↓BG_u, ↓CG_u, ↓IG_u, ↓VGtt, ↓VGtf, ↓VGft, ↓VGff, ↓UGtt, ↓UGtf, ↓UGft, ↓UGff, ↓MGtt, ↓MGtf, ↓MGft, ↓MGff, ↓NGtt, ↓NGtf, ↓NGft, ↓NGff, ↓PGtt, ↓PGtf, ↓PGft, ↓PGff, ↓BGtt, ↓BGtf, ↓BGft, ↓BGff, ↓CGtt, ↓CGtf, ↓CGft, ↓CGff, ↓IGtt, ↓IGtf, ↓IGft, ↓IGff, ↓PKt, ↓PKf, ↓CDt, ↓CDf, ↓NOTt, ↓NOTf, ↓NK_ptr]
          refine BKadd (a := k) (b := 1) rfl rfl (by omega) (by omega) ?_
          exact ⟨b.length - (k + 1), by omega, k + 1, hkl, rfl, q0, rfl, by rw [← runP_yes hxk hdk]; exact hr, rfl⟩
        | false =>
          simp only [↓VG_u, ↓UG_u, ↓MG_u, ↓NG_u, ↓PG_u, ↓BG_u, ↓CG_u, ↓IG_u, ↓VGtt, ↓VGtf, ↓VGft, ↓VGff, ↓UGtt, ↓UGtf, ↓UGft, ↓UGff, ↓MGtt, ↓MGtf, ↓MGft, ↓MGff, ↓NGtt, ↓NGtf, ↓NGft, ↓NGff, ↓PGtt, ↓PGtf, ↓PGft, ↓PGff, ↓BGtt, ↓BGtf, ↓BGft, ↓BGff, ↓CGtt, ↓CGtf, ↓CGft, ↓CGff, ↓IGtt, ↓IGtf, ↓IGft, ↓IGff, ↓PKt, ↓PKf, ↓CDt, ↓CDf, ↓NOTt, ↓NOTf, ↓NK_ptr]
          rw [sq_x, bk_x, bk_n, sq_n]
          refine fin _ w2 k q5 ?_ (Mod.refl _ _)
          rw [← hr, runP_no]
          intro c hc
          rw [hxk] at hc
          cases hc
          exact hdk
      · simp only [↓VG_u, ↓UG_u, ↓MG_u, ↓NG_u, ↓PG_u, ↓BG_u, ↓CG_u, ↓IG_u, ↓VGtt, ↓VGtf, ↓VGft, ↓VGff, ↓UGtt, ↓UGtf, ↓UGft, ↓UGff, ↓MGtt, ↓MGtf, ↓MGft, ↓MGff, ↓NGtt, ↓NGtf, ↓NGft, ↓NGff, ↓PGtt, ↓PGtf, ↓PGft, ↓PGff, ↓BGtt, ↓BGtf, ↓BGft, ↓BGff, ↓CGtt, ↓CGtf, ↓CGft, ↓CGff, ↓IGtt, ↓IGtf, ↓IGft, ↓IGff, ↓PKt, ↓PKf, ↓CDt, ↓CDf, ↓NOTt, ↓NOTf, ↓NK_ptr, ↓LTf (show (b.length : Int) ≤ k by omega)]
        rw [sq_x, bk_x, bk_n, sq_n]
        refine fin _ w2 k q5 ?_ (Mod.refl _ _)
        rw [← hr, runP_no]
        intro c hc
        rw [List.getElem?_eq_none (by omega)] at hc
        cases hc
    | false =>
      refine condF ?_
      rw [len_sl8]
      have he : endP b a = if a + 1 < b.length ∧ signL.contains ((b.take (a + 2)).drop a) then a + 2 else a + 1 := by unfold endP; rw [hg]; dsimp only; rw [hl, hd]; rfl
      by_cases hk : a + 1 < b.length
      · simp only [↓VG_u, ↓UG_u, ↓MG_u, ↓NG_u, ↓PG_u, ↓BG_u, ↓CG_u, ↓IG_u, ↓VGtt, ↓VGtf, ↓VGft, ↓VGff, ↓UGtt, ↓UGtf, ↓UGft, ↓UGff, ↓MGtt, ↓MGtf, ↓MGft, ↓MGff, ↓NGtt, ↓NGtf, ↓NGft, ↓NGff, ↓PGtt, ↓PGtf, ↓PGft, ↓PGff, ↓BGtt, ↓BGtf, ↓BGft, ↓BGff, ↓CGtt, ↓CGtf, ↓CGft, ↓CGff, ↓IGtt, ↓IGtf, ↓IGft, ↓IGff, ↓PKt, ↓PKf, ↓CDt, ↓CDf, ↓NOTt, ↓NOTf, ↓NK_ptr, ↓LTt (show ((a : Int) + 1) < b.length by omega)]
        refine BKadd (a := (a : Int) + 1) (b := 1) rfl rfl (by omega) (by omega) ?_
        rw [show ((a : Int) + 1 + 1) = ((a + 2 : Nat) : Int) by omega]
        refine cut_lh uBytes cB h (by omega) (by omega) fun v' hv' => ?_
        have hcut : ((b.map byteV).take ((a + 2) * (0 + 1))).drop (a * (0 + 1)) = ((b.take (a + 2)).drop a).map byteV := by
          rw [Nat.mul_one, Nat.mul_one, List.map_drop, List.map_take]
        rw [hcut] at hv'
        refine str_of uBytes uU8 uS hv' ?_
        refine CK_st Tryd.func102 rfl rfl (Sign_ok ((b.take (a + 2)).drop a) w) ?_
        rintro _ w ⟨rfl, rfl⟩
        cases hs : signL.contains ((b.take (a + 2)).drop a) with
        | true =>
          simp only [↓VG_u, ↓UG_u, ↓MG_u, ↓NG_u, ↓PG_u, ↓BG_u, ↓CG_u, ↓IG_u, ↓VGtt, ↓VGtf, ↓VGft, ↓VGff, ↓UGtt, ↓UGtf, ↓UGft, ↓UGff, ↓MGtt, ↓MGtf, ↓MGft, ↓MGff, ↓NGtt, ↓NGtf, ↓NGft, ↓NGff, ↓PGtt, ↓PGtf, ↓PGft, ↓PGff, ↓BGtt, ↓BGtf, ↓BGft, ↓BGff, ↓CGtt, ↓CGtf, ↓CGft, ↓CGff, ↓IGtt, ↓IGtf, ↓IGft, ↓IGff, ↓PKt, ↓PKf, ↓CDt, ↓CDf, ↓NOTt, ↓NOTf, ↓NK_ptr]
          refine BKadd (a := (a : Int) + 1) (b := 1) rfl rfl (by omega) (by omega) ?_
          refine fin _ w (a + 2) ?_ (by rw [he, if_pos ⟨hk, hs⟩]) (Mod.refl _ _)
          show Value.int .i64 ((a : Int) + 1 + 1) = _
          congr 1
        | false =>
          simp only [↓VG_u, ↓UG_u, ↓MG_u, ↓NG_u, ↓PG_u, ↓BG_u, ↓CG_u, ↓IG_u, ↓VGtt, ↓VGtf, ↓VGft, ↓VGff, ↓UGtt, ↓UGtf, ↓UGft, ↓UGff, ↓MGtt, ↓MGtf, ↓MGft, ↓MGff, ↓NGtt, ↓NGtf, ↓NGft, ↓NGff, ↓PGtt, ↓PGtf, ↓PGft, ↓PGff, ↓BGtt, ↓BGtf, ↓BGft, ↓BGff, ↓CGtt, ↓CGtf, ↓CGft, ↓CGff, ↓IGtt, ↓IGtf, ↓IGft, ↓IGff, ↓PKt, ↓PKf, ↓CDt, ↓CDf, ↓NOTt, ↓NOTf, ↓NK_ptr]
          refine fin _ w (a + 1) rfl (by rw [he, if_neg (fun q => by rw [hs] at q; exact absurd q.2 (by simp))]) (Mod.refl _ _)
      · simp only [↓VG_u, ↓UG_u, ↓MG_u, ↓NG_u, ↓PG_u, ↓BG_u, ↓CG_u, ↓IG_u, ↓VGtt, ↓VGtf, ↓VGft, ↓VGff, ↓UGtt, ↓UGtf, ↓UGft, ↓UGff, ↓MGtt, ↓MGtf, ↓MGft, ↓MGff, ↓NGtt, ↓NGtf, ↓NGft, ↓NGff, ↓PGtt, ↓PGtf, ↓PGft, ↓PGff, ↓BGtt, ↓BGtf, ↓BGft, ↓BGff, ↓CGtt, ↓CGtf, ↓CGft, ↓CGff, ↓IGtt, ↓IGtf, ↓IGft, ↓IGff, ↓PKt, ↓PKf, ↓CDt, ↓CDf, ↓NOTt, ↓NOTf, ↓NK_ptr, ↓LTf (show (b.length : Int) ≤ (a : Int) + 1 by omega)]
        refine fin _ w (a + 1) rfl (by rw [he, if_neg (fun q => hk q.1)]) (Mod.refl _ _)
theorem Scan_ok {w : World} {v : Value} {b : Bs} {l : List Tk} (h : reads w 1 v b.length (b.map byteV)) (hs : scanP b = some l) : Rt Tryd.prog 64 #[v] w fun r w' => ∃ lv, r = .tuple #[lv, .int .i64 0, .int .i64 0, .int .i64 0] ∧ w'.ownsRow w.heap.size tT 5 lv l.length (l.flatMap Tk.cells) ∧ Mod none_ w w' := by
  unfold scanP at hs
  split at hs
  · rename_i hb
    obtain ⟨A, cp, rfl, _⟩ := reads_cap h
    refine dispatcherref01_Scan_calls ?_
    unfold dispatcherref01_Scan_F
    rw [len_sl8]
    simp only [↓VG_u, ↓UG_u, ↓MG_u, ↓NG_u, ↓PG_u, ↓BG_u, ↓CG_u, ↓IG_u, ↓VGtt, ↓VGtf, ↓VGft, ↓VGff, ↓UGtt, ↓UGtf, ↓UGft, ↓UGff, ↓MGtt, ↓MGtf, ↓MGft, ↓MGff, ↓NGtt, ↓NGtf, ↓NGft, ↓NGff, ↓PGtt, ↓PGtf, ↓PGft, ↓PGff, ↓BGtt, ↓BGtf, ↓BGft, ↓BGff, ↓CGtt, ↓CGtf, ↓CGft, ↓CGff, ↓IGtt, ↓IGtf, ↓IGft, ↓IGff, ↓PKt, ↓PKf, ↓CDt, ↓CDf, ↓NOTt, ↓NOTf, ↓NK_ptr, ↓GTf (show (b.length : Int) ≤ 20000 by omega)]
    refine W_loopG dispatcherref01_Scan_L0_ok (fun m ρ w' => ∃ (a : Nat) (acc : List Tk), a ≤ b.length ∧ scanL b m a 1 (a + 1) acc = some l ∧ acc.length ≤ a ∧ ρ 0 = .slice A b.length cp ∧ ρ 7 = .int .i64 a ∧ ρ 8 = .int .i64 1 ∧ ρ 9 = .int .i64 ((a : Int) + 1) ∧ w'.ownsRow w.heap.size tT 5 (ρ 6) acc.length (acc.flatMap Tk.cells) ∧ Mod none_ w w') (b.length + 1)
      ⟨0, [], Nat.zero_le _, hs, Nat.le_refl _, rfl, rfl, rfl, rfl, owns_none _ _ _ _, Mod.refl _ _⟩ ?_
    rintro m ρ w2 ⟨a, acc, ha, hsc, hacc, q0, q7, q8, q9, ho, hm⟩
    cases m with
    | zero => simp [scanL] at hsc
    | succ m =>
      rw [dispatcherref01_Scan_L0_eq]
      unfold dispatcherref01_Scan_L0_F
      rw [q0, q7, q8, q9, len_sl8]
      rw [scanL] at hsc
      by_cases hal : a < b.length
      · have hx : b[a]? = some b[a] := List.getElem?_eq_getElem hal
        have hg : b.getD a 0 = b[a] := by rw [List.getD_eq_getElem?_getD, hx]; rfl
        have h2 := reads_mod h hm (fun _ _ _ => id)
        rw [if_pos hal] at hsc
        dsimp only at hsc
        rw [hg] at hsc
        simp only [↓VG_u, ↓UG_u, ↓MG_u, ↓NG_u, ↓PG_u, ↓BG_u, ↓CG_u, ↓IG_u, ↓VGtt, ↓VGtf, ↓VGft, ↓VGff, ↓UGtt, ↓UGtf, ↓UGft, ↓UGff, ↓MGtt, ↓MGtf, ↓MGft, ↓MGff, ↓NGtt, ↓NGtf, ↓NGft, ↓NGff, ↓PGtt, ↓PGtf, ↓PGft, ↓PGff, ↓BGtt, ↓BGtf, ↓BGft, ↓BGff, ↓CGtt, ↓CGtf, ↓CGft, ↓CGff, ↓IGtt, ↓IGtf, ↓IGft, ↓IGff, ↓PKt, ↓PKf, ↓CDt, ↓CDf, ↓NOTt, ↓NOTf, ↓NK_ptr, ↓LTt (show (a : Int) < b.length by omega)]
        refine byte_at h2 hx fun x22 => ?_
        have ne : ∀ (c : UInt8) (z : Int), (c.toNat : Int) = z → b[a] ≠ c → ((b[a].toNat : Nat) : Int) ≠ z := fun c z hz hc q => hc (UInt8.toNat.inj (by omega))
        by_cases h32 : b[a] = 32
        · rw [if_pos h32] at hsc
          simp only [↓VG_u, ↓UG_u, ↓MG_u, ↓NG_u, ↓PG_u, ↓BG_u, ↓CG_u, ↓IG_u, ↓VGtt, ↓VGtf, ↓VGft, ↓VGff, ↓UGtt, ↓UGtf, ↓UGft, ↓UGff, ↓MGtt, ↓MGtf, ↓MGft, ↓MGff, ↓NGtt, ↓NGtf, ↓NGft, ↓NGff, ↓PGtt, ↓PGtf, ↓PGft, ↓PGff, ↓BGtt, ↓BGtf, ↓BGft, ↓BGff, ↓CGtt, ↓CGtf, ↓CGft, ↓CGff, ↓IGtt, ↓IGtf, ↓IGft, ↓IGff, ↓PKt, ↓PKf, ↓CDt, ↓CDf, ↓NOTt, ↓NOTf, ↓NK_ptr, ↓EQf (ne 10 10 rfl (by rw [h32]; decide)), ↓EQt (show ((b[a].toNat : Nat) : Int) = 32 by rw [h32]; rfl)]
          refine BKadd (a := a) (b := 1) rfl rfl (by omega) (by omega) ?_
          refine BKadd (a := (a : Int) + 1) (b := 1) rfl rfl (by omega) (by omega) ?_
          exact ⟨m, Nat.lt_succ_self m, a + 1, acc, hal, by rw [← hsc]; congr 1, by omega, q0, rfl, q8, by show Value.int .i64 ((a : Int) + 1 + 1) = _; congr 1, ho, hm⟩
        · rw [if_neg h32] at hsc
          by_cases hno : b[a] = 10 ∨ b[a] = 9 ∨ b[a] = 13 ∨ b[a] = 35
          · rw [if_pos hno] at hsc; cases hsc
          · rw [if_neg hno] at hsc
            have n1 := ne 10 10 rfl (fun q => hno (.inl q))
            have n2 := ne 32 32 rfl h32
            have n3 := ne 9 9 rfl (fun q => hno (.inr (.inl q)))
            have n4 := ne 13 13 rfl (fun q => hno (.inr (.inr (.inl q))))
            have n5 := ne 35 35 rfl (fun q => hno (.inr (.inr (.inr q))))
            simp only [↓VG_u, ↓UG_u, ↓MG_u, ↓NG_u, ↓PG_u, ↓BG_u, ↓CG_u, ↓IG_u, ↓VGtt, ↓VGtf, ↓VGft, ↓VGff, ↓UGtt, ↓UGtf, ↓UGft, ↓UGff, ↓MGtt, ↓MGtf, ↓MGft, ↓MGff, ↓NGtt, ↓NGtf, ↓NGft, ↓NGff, ↓PGtt, ↓PGtf, ↓PGft, ↓PGff, ↓BGtt, ↓BGtf, ↓BGft, ↓BGff, ↓CGtt, ↓CGtf, ↓CGft, ↓CGff, ↓IGtt, ↓IGtf, ↓IGft, ↓IGff, ↓PKt, ↓PKf, ↓CDt, ↓CDf, ↓NOTt, ↓NOTf, ↓NK_ptr, ↓EQf n1, ↓EQf n2, ↓EQf n3, ↓EQf n4, ↓EQf n5]
            obtain ⟨hlt, hle⟩ := endP_le hal
            refine CK_st Tryd.func80 rfl rfl (end_ok h2 hal (by omega)) ?_
            rintro _ w3 ⟨rfl, hm3⟩
            have h3 := reads_mod h2 hm3 (fun _ _ _ => id)
            refine cut_lh uBytes cB h3 (by omega) hle fun v' hv' => ?_
            have hcut : ((b.map byteV).take (endP b a * (0 + 1))).drop (a * (0 + 1)) = ((b.take (endP b a)).drop a).map byteV := by
              rw [Nat.mul_one, Nat.mul_one, List.map_drop, List.map_take]
            rw [hcut] at hv'
            refine str_of uBytes uU8 uS hv' ?_
            obtain ⟨t, ht⟩ : ∃ t, t = (b.take (endP b a)).drop a := ⟨_, rfl⟩
            have htl : t.length ≤ 20000 := by rw [ht, List.length_drop, List.length_take]; omega
            rw [← ht] at hsc ⊢
            refine CK_st Tryd.func81 rfl rfl (OfTx_ok t w3 (by omega)) ?_
            rintro _ w4 ⟨rfl, hm4⟩
            refine lcl_k (cs := (Tk.mk (tokP t).1 t (tokP t).2 0 0).cells.toArray) zTkg _ iTk rfl (tk_one _) fun w5 hb5 hm5 hz5 => ?_
            have hm25 := (hm3.trans hm4).trans hm5
            have hm05 := hm.trans hm25
            have hz : (tokP t).1 ≠ 0 := by
              intro q
              rw [if_pos q] at hsc
              cases hsc
            rw [if_neg hz] at hsc
            obtain ⟨k0, k1, k2, k3, k4⟩ := tk_fo hb5
            simp only [↓VG_u, ↓UG_u, ↓MG_u, ↓NG_u, ↓PG_u, ↓BG_u, ↓CG_u, ↓IG_u, ↓VGtt, ↓VGtf, ↓VGft, ↓VGff, ↓UGtt, ↓UGtf, ↓UGft, ↓UGff, ↓MGtt, ↓MGtf, ↓MGft, ↓MGff, ↓NGtt, ↓NGtf, ↓NGft, ↓NGff, ↓PGtt, ↓PGtf, ↓PGft, ↓PGff, ↓BGtt, ↓BGtf, ↓BGft, ↓BGff, ↓CGtt, ↓CGtf, ↓CGft, ↓CGff, ↓IGtt, ↓IGtf, ↓IGft, ↓IGff, ↓PKt, ↓PKf, ↓CDt, ↓CDf, ↓NOTt, ↓NOTf, ↓NK_ptr, ↓k0.e, ↓EQf hz]
            have hsz := hm4.size
            have hsz3 := hm3.size
            have hsz2 := hm.size
            refine fst_k (off := 3) (by kernel_rfl) (by kernel_rfl) rfl hb5 (by simp [Tk.cells]) (cs' := (Tk.mk (tokP t).1 t (tokP t).2 1 0).cells.toArray) rfl fun x w6 h6 hm6 hz6 => ?_
            refine fst_k (off := 4) (by kernel_rfl) (by kernel_rfl) rfl h6 (by simp [Tk.cells]) (cs' := (Tk.mk (tokP t).1 t (tokP t).2 1 ((a : Int) + 1)).cells.toArray) rfl fun x w7 h7 hm7 hz7 => ?_
            refine ldB (cs := (Tk.mk (tokP t).1 t (tokP t).2 1 ((a : Int) + 1)).cells.toArray) Tryd.underlying109 rfl iTk h7 ?_
            have hm07 := (hm05.fresh hm6 (by omega)).fresh hm7 (by omega)
            have ho5 := owns_mod ho hm25 (fun _ _ => id)
            have ho7 : w7.ownsRow w.heap.size tT 5 (ρ 6) acc.length (acc.flatMap Tk.cells) := by
              have hlo : ∀ k, (ρ 6).ownBlock = some k → k < w4.heap.size := fun k hk => by have := owns_lt ho hk; omega
              exact owns_mod (owns_mod ho5 hm6 fun k hk q => by have := hlo k hk; omega) hm7 fun k hk q => by have := hlo k hk; omega
            refine snoc (cs := (Tk.mk (tokP t).1 t (tokP t).2 1 ((a : Int) + 1)).cells.toArray) eTks ho7 (by kernel_rfl) rfl (by intro u hu; simp [Tk.cells, txt] at hu; rcases hu with rfl | rfl | rfl | rfl | rfl <;> rfl) (by unfold maxLen; omega) (by omega) hm07.size fun y v8 w8 ho8 hm8 _ => ?_
            refine BKadd (a := (a : Int) + 1) (b := endP b a) rfl rfl (by omega) (by omega) ?_
            rw [BK_sub, wrap_i (n := (a : Int) + 1 + endP b a - a) (by omega) (by omega)]
            refine ⟨m, Nat.lt_succ_self m, endP b a, acc ++ [Tk.mk (tokP t).1 t (tokP t).2 1 ((a : Int) + 1)], hle, ?_, by rw [List.length_append]; simp; omega, q0, rfl, q8, ?_, ?_, ?_⟩
            · rw [← hsc]
              congr 1
              omega
            · show Value.int .i64 ((a : Int) + 1 + endP b a - a) = _
              congr 1
              omega
            · show w8.ownsRow w.heap.size tT 5 v8 _ _
              rw [List.length_append, List.flatMap_append]
              simpa using ho8
            · exact hm07.then hm8 fun i hi q => by have := owns_low ho q.symm; omega
      · rw [if_neg hal] at hsc
        obtain rfl : acc = l := by simpa using hsc
        simp only [↓VG_u, ↓UG_u, ↓MG_u, ↓NG_u, ↓PG_u, ↓BG_u, ↓CG_u, ↓IG_u, ↓VGtt, ↓VGtf, ↓VGft, ↓VGff, ↓UGtt, ↓UGtf, ↓UGft, ↓UGff, ↓MGtt, ↓MGtf, ↓MGft, ↓MGff, ↓NGtt, ↓NGtf, ↓NGft, ↓NGff, ↓PGtt, ↓PGtf, ↓PGft, ↓PGff, ↓BGtt, ↓BGtf, ↓BGft, ↓BGff, ↓CGtt, ↓CGtf, ↓CGft, ↓CGff, ↓IGtt, ↓IGtf, ↓IGft, ↓IGff, ↓PKt, ↓PKf, ↓CDt, ↓CDf, ↓NOTt, ↓NOTf, ↓NK_ptr, ↓LTf (show (b.length : Int) ≤ a by omega)]
        rw [sq_x, bk_x, sq_n, dispatcherref01_Scan_R1_eq]
        unfold dispatcherref01_Scan_R1_F
        exact ⟨_, rfl, ho, hm⟩
  · cases hs
end Go.Proofs.YtbnbcimjapiicaaDoor.Tr
