/- The chapter's copies of trees: rows of one's own. -/
import Derived.Test.YtbnbcimjapiicaaDoorV
import Derived.Test.YtbnbcimjapiicaaDoorXC
import Derived.Test.YtbnbcimjapiicaaDoorXK2
import Derived.Test.YtbnbcimjapiicaaDoorXSlot
set_option linter.unusedVariables false
set_option linter.unusedSimpArgs false
set_option maxRecDepth 4000
namespace Go.Proofs.YtbnbcimjapiicaaDoor.Tr
open Go Go.X Go.RowKit Go.Proofs.YtbnbcimjapiicaaDoor.XC Go.Proofs.YtbnbcimjapiicaaDoor.XK

abbrev tE : TypeId := 60
abbrev tS : TypeId := 62
theorem eExs : elemOk Tryd.prog 58 60 6 72 = true := by kernel_rfl
theorem eSts : elemOk Tryd.prog 23 62 10 120 = true := by kernel_rfl
theorem eDes : elemOk Tryd.prog 22 40 4 40 = true := by kernel_rfl
theorem owns_low {w : World} {base : Nat} {e : TypeId} {size : Nat} {v : Value} {n : Nat} {xs : List Value} (h : w.ownsRow base e size v n xs) {g : Nat} (hg : v.ownBlock = some g) : base ≤ g := by
  obtain ⟨_, ⟨rfl, _⟩ | ⟨g', cap, cur, rfl, hb, _⟩⟩ := h
  · cases hg
  · cases hg; exact hb
theorem owns_lt {w : World} {base : Nat} {e : TypeId} {size : Nat} {v : Value} {n : Nat} {xs : List Value} (h : w.ownsRow base e size v n xs) {g : Nat} (hg : v.ownBlock = some g) : g < w.heap.size := by
  obtain ⟨cur, hb⟩ := owns_blk h hg
  exact blk_lt hb
theorem owns_slice {w : World} {base : Nat} {e : TypeId} {size : Nat} {v : Value} {n : Nat} {xs : List Value} (h : w.ownsRow base e size v n xs) : v.oneCell' = true := by
  obtain ⟨_, ⟨rfl, _⟩ | ⟨g', cap, cur, rfl, hb, _⟩⟩ := h <;> rfl
theorem owns_none (w : World) (base : Nat) (e : TypeId) (size : Nat) : w.ownsRow base e size (.slice none 0 0) 0 [] := ⟨by simp, .inl ⟨rfl, rfl⟩⟩
/-- A row of expressions, of statements, of one's own, all the way down. -/
structure ExsOwn (w : World) (base : Nat) (v : Value) (l : List Ex) : Prop where
  row : w.ownsRow base tE 6 v l.length (l.flatMap Ex.cells)
  own : ∀ a ∈ l, a.Own w tE
  at_ : ∀ a ∈ l, a.In fun k => base ≤ k ∧ some k ≠ v.ownBlock
structure StsOwn (w : World) (base : Nat) (v : Value) (l : List St) : Prop where
  row : w.ownsRow base tS 10 v l.length (l.flatMap St.cells)
  own : ∀ a ∈ l, a.Own w tE tS
  at_ : ∀ a ∈ l, a.In fun k => base ≤ k ∧ some k ≠ v.ownBlock
theorem ExsOwn.ok {w : World} {base : Nat} {v : Value} {l : List Ex} (h : ExsOwn w base v l) : ExsOk w v l := ⟨reads_of_owns h.row, fun a ha => (h.own a ha).ok⟩
theorem StsOwn.ok {w : World} {base : Nat} {v : Value} {l : List St} (h : StsOwn w base v l) : StsOk w v l := ⟨reads_of_owns h.row, fun a ha => (h.own a ha).ok⟩
theorem ExsOwn.mod0 {w w' : World} {base : Nat} {v : Value} {l : List Ex} (h : ExsOwn w base v l) (hm : Mod none_ w w') : ExsOwn w' base v l := ⟨owns_mod h.row hm fun _ _ => id, fun a ha => (h.own a ha).mod0 hm, h.at_⟩
theorem StsOwn.mod0 {w w' : World} {base : Nat} {v : Value} {l : List St} (h : StsOwn w base v l) (hm : Mod none_ w w') : StsOwn w' base v l := ⟨owns_mod h.row hm fun _ _ => id, fun a ha => (h.own a ha).mod0 hm, h.at_⟩
/-- Blocks that lie lower are touched. -/
theorem ExsOwn.off {S : Nat → Prop} {w w' : World} {base : Nat} {v : Value} {l : List Ex} (h : ExsOwn w base v l) (hm : Mod S w w') (hS : ∀ k, S k → k < base) : ExsOwn w' base v l :=
  ⟨owns_mod h.row hm fun k hk q => by have := owns_low h.row hk; have := hS k q; omega, fun a ha => (h.own a ha).mod hm ((h.at_ a ha).mono fun k hk q => by have := hS k q; omega), h.at_⟩
theorem StsOwn.off {S : Nat → Prop} {w w' : World} {base : Nat} {v : Value} {l : List St} (h : StsOwn w base v l) (hm : Mod S w w') (hS : ∀ k, S k → k < base) : StsOwn w' base v l :=
  ⟨owns_mod h.row hm fun k hk q => by have := owns_low h.row hk; have := hS k q; omega, fun a ha => (h.own a ha).mod hm ((h.at_ a ha).mono fun k hk q => by have := hS k q; omega), h.at_⟩
theorem ExsOwn.nil (w : World) (base : Nat) : ExsOwn w base (.slice none 0 0) [] := ⟨owns_none _ _ _ _, by simp, by simp⟩
theorem StsOwn.nil (w : World) (base : Nat) : StsOwn w base (.slice none 0 0) [] := ⟨owns_none _ _ _ _, by simp, by simp⟩
theorem ExsOwn.low {w : World} {base base' : Nat} {v : Value} {l : List Ex} (h : ExsOwn w base v l) (hb : base' ≤ base) : ExsOwn w base' v l := ⟨owns_base h.row hb, h.own, fun a ha => (h.at_ a ha).mono fun k hk => ⟨by omega, hk.2⟩⟩
theorem StsOwn.low {w : World} {base base' : Nat} {v : Value} {l : List St} (h : StsOwn w base v l) (hb : base' ≤ base) : StsOwn w base' v l := ⟨owns_base h.row hb, h.own, fun a ha => (h.at_ a ha).mono fun k hk => ⟨by omega, hk.2⟩⟩
/-- Elements more, of one's own. -/
theorem appEx {w : World} {base : Nat} {v y : Value} {l m : List Ex} {ty : TypeId} {K : Value → World → Prop} (hO : ExsOwn w base v l) (hy : reads w 6 y m.length (m.flatMap Ex.cells)) (h0 : 0 < m.length) (hm : ∀ e ∈ m, e.Own w tE ∧ e.In fun k => base ≤ k ∧ some k ≠ v.ownBlock)
    (hlen : l.length + m.length ≤ 1099511627776) (hb : base ≤ w.heap.size) (hk : ∀ v' w', ExsOwn w' base v' (l ++ m) → Mod (fun k => some k = v.ownBlock) w w' → K v' w') : IK Tryd.prog .append #[58, 58] ty [false, false] [v, y] w K := by
  refine ap_own eExs hO.row hy h0 ?_ (by unfold maxLen; omega) (by omega) hb fun v' w' h1 h2 h3 => ?_
  · intro u hu
    obtain ⟨e, he, hu⟩ := List.mem_flatMap.1 hu
    have := ex_one (hm e he).1.ok
    rw [Array.all_eq_true_iff_forall_mem] at this
    exact this u (by simpa using hu)
  · have lo : ∀ a : Ex, a.Own w tE → a.In (fun k => base ≤ k ∧ some k ≠ v.ownBlock) → a.In fun k => base ≤ k ∧ some k ≠ v'.ownBlock := by
      intro a ha hi
      refine (hi.and ha.lt).mono fun k hk => ⟨hk.1.1, ?_⟩
      rcases h3 with h3 | h3
      · rw [h3]; exact hk.1.2
      · rw [h3]; intro q; cases q; omega
    refine hk _ _ ⟨?_, ?_, ?_⟩ h2
    · rw [List.length_append, List.flatMap_append]; exact h1
    · intro a ha
      rcases List.mem_append.1 ha with ha | ha
      · exact (hO.own a ha).mod h2 ((hO.at_ a ha).mono fun k hk q => hk.2 q)
      · exact (hm a ha).1.mod h2 ((hm a ha).2.mono fun k hk q => hk.2 q)
    · intro a ha
      rcases List.mem_append.1 ha with ha | ha
      · exact lo a (hO.own a ha) (hO.at_ a ha)
      · exact lo a (hm a ha).1 (hm a ha).2
theorem appSt {w : World} {base : Nat} {v y : Value} {l m : List St} {ty : TypeId} {K : Value → World → Prop} (hO : StsOwn w base v l) (hy : reads w 10 y m.length (m.flatMap St.cells)) (h0 : 0 < m.length) (hm : ∀ e ∈ m, e.Own w tE tS ∧ e.In fun k => base ≤ k ∧ some k ≠ v.ownBlock)
    (hlen : l.length + m.length ≤ 1099511627776) (hb : base ≤ w.heap.size) (hk : ∀ v' w', StsOwn w' base v' (l ++ m) → Mod (fun k => some k = v.ownBlock) w w' → K v' w') : IK Tryd.prog .append #[23, 23] ty [false, false] [v, y] w K := by
  refine ap_own eSts hO.row hy h0 ?_ (by unfold maxLen; omega) (by omega) hb fun v' w' h1 h2 h3 => ?_
  · intro u hu
    obtain ⟨e, he, hu⟩ := List.mem_flatMap.1 hu
    have := st_one (hm e he).1.ok
    rw [Array.all_eq_true_iff_forall_mem] at this
    exact this u (by simpa using hu)
  · have lo : ∀ a : St, a.Own w tE tS → a.In (fun k => base ≤ k ∧ some k ≠ v.ownBlock) → a.In fun k => base ≤ k ∧ some k ≠ v'.ownBlock := by
      intro a ha hi
      refine (hi.and ha.lt).mono fun k hk => ⟨hk.1.1, ?_⟩
      rcases h3 with h3 | h3
      · rw [h3]; exact hk.1.2
      · rw [h3]; intro q; cases q; omega
    refine hk _ _ ⟨?_, ?_, ?_⟩ h2
    · rw [List.length_append, List.flatMap_append]; exact h1
    · intro a ha
      rcases List.mem_append.1 ha with ha | ha
      · exact (hO.own a ha).mod h2 ((hO.at_ a ha).mono fun k hk q => hk.2 q)
      · exact (hm a ha).1.mod h2 ((hm a ha).2.mono fun k hk q => hk.2 q)
    · intro a ha
      rcases List.mem_append.1 ha with ha | ha
      · exact lo a (hO.own a ha) (hO.at_ a ha)
      · exact lo a (hm a ha).1 (hm a ha).2
theorem snocEx {w : World} {base : Nat} {v : Value} {l : List Ex} {e : Ex} {ty : TypeId} {K : Value → Value → World → Prop} (hO : ExsOwn w base v l) (he : e.Own w tE) (hi : e.In fun k => base ≤ k ∧ some k ≠ v.ownBlock)
    (hlen : l.length < 1099511627776) (hb : base ≤ w.heap.size) (hk : ∀ y v' w', ExsOwn w' base v' (l ++ [e]) → Mod (fun k => some k = v.ownBlock) w w' → K y v' w') :
    VK Tryd.prog (Instr.buildSlice 58 1 [(0, .agg e.cells.toArray)].toArray) w fun y w => IK Tryd.prog .append #[58, 58] ty [false, false] [v, y] w (K y) := by
  refine bs_k (cs := e.cells.toArray) (by kernel_rfl) fun w1 h1 hm1 hz1 => ?_
  refine appEx (m := [e]) (hO.mod0 hm1) (by simpa using reads_blk (size := 6) (n := 1) h1 rfl) (by simp) ?_ (by simp; omega) (by omega) fun v' w' hO' hm' => hk _ _ _ hO' ?_
  · intro a ha
    rw [List.mem_singleton.1 ha]
    exact ⟨he.mod0 hm1, hi⟩
  · exact (hm1.mono fun _ _ q => q.elim).trans hm'
theorem snocSt {w : World} {base : Nat} {v : Value} {l : List St} {e : St} {ty : TypeId} {K : Value → Value → World → Prop} (hO : StsOwn w base v l) (he : e.Own w tE tS) (hi : e.In fun k => base ≤ k ∧ some k ≠ v.ownBlock)
    (hlen : l.length < 1099511627776) (hb : base ≤ w.heap.size) (hk : ∀ y v' w', StsOwn w' base v' (l ++ [e]) → Mod (fun k => some k = v.ownBlock) w w' → K y v' w') :
    VK Tryd.prog (Instr.buildSlice 23 1 [(0, .agg e.cells.toArray)].toArray) w fun y w => IK Tryd.prog .append #[23, 23] ty [false, false] [v, y] w (K y) := by
  refine bs_k (cs := e.cells.toArray) (by kernel_rfl) fun w1 h1 hm1 hz1 => ?_
  refine appSt (m := [e]) (hO.mod0 hm1) (by simpa using reads_blk (size := 10) (n := 1) h1 rfl) (by simp) ?_ (by simp; omega) (by omega) fun v' w' hO' hm' => hk _ _ _ hO' ?_
  · intro a ha
    rw [List.mem_singleton.1 ha]
    exact ⟨he.mod0 hm1, hi⟩
  · exact (hm1.mono fun _ _ q => q.elim).trans hm'
theorem len_of_er {l l' : List Ex} (h : l'.map Ex.er = l.map Ex.er) : l'.length = l.length := by have := congrArg List.length h; simpa using this
theorem len_of_erS {l l' : List St} (h : l'.map St.er = l.map St.er) : l'.length = l.length := by have := congrArg List.length h; simpa using this
def CopyEx (l : List Ex) : Prop := ∀ (w : World) (s : Value), ExsOk w s l → Ex.szL l ≤ 1099511627776 →
  Rt Tryd.prog 56 #[s] w fun v w' => ∃ l', l'.map Ex.er = l.map Ex.er ∧ ExsOwn w' w.heap.size v l' ∧ Mod none_ w w'
theorem copyEx_row {l : List Ex} (ih : ∀ a ∈ l, CopyEx a.args) : CopyEx l := by
  intro w s hok hsz
  obtain ⟨A, c, rfl, _⟩ := reads_cap hok.1
  have hlen := Ex.len_sz l
  refine dispatcherref02_CopyExprs_calls ?_
  unfold dispatcherref02_CopyExprs_F
  refine W_loop dispatcherref02_CopyExprs_L0_ok (fun ρ w' => ∃ (n : Nat) (l' : List Ex), n ≤ l.length ∧ ρ 4 = .int .i64 n ∧ ρ 0 = .slice A l.length c ∧ l'.map Ex.er = (l.take n).map Ex.er ∧ ExsOwn w' w.heap.size (ρ 3) l' ∧ Mod none_ w w') (fun ρ _ => l.length - (intOf (ρ 4)).toNat)
    ⟨0, [], Nat.zero_le _, rfl, rfl, rfl, ExsOwn.nil _ _, Mod.refl _ _⟩ ?_
  rintro ρ w2 ⟨n, l', hn, h4, h0, her, hO, hm⟩
  rw [dispatcherref02_CopyExprs_L0_eq]
  unfold dispatcherref02_CopyExprs_L0_F
  rw [h0, len58, h4]
  refine BKlss (a := n) (b := l.length) rfl rfl ?_
  refine caseC (fun hlt => ?_) (fun hlt => ?_)
  · have hlt : n < l.length := by have := of_decide_eq_true hlt; omega
    have hx : l[n]? = some l[n] := List.getElem?_eq_getElem hlt
    have hmem : l[n] ∈ l := List.getElem_mem hlt
    have hok2 := hok.mod hm
    have hsn := Ex.szL_at hx
    have hse := Ex.sz_eq l[n]
    have hlen' : l'.length = n := by have := congrArg List.length her; simpa [Nat.min_eq_left hn] using this
    refine ixEx hok2 hx fun x14 => ?_
    refine lcl_k (cs := l[n].cells.toArray) zEx _ iEx rfl (ex_one (hok2.at hx)) fun w3 hb3 hm3 hz3 => ?_
    have hblk : ∀ k, (ρ 3).ownBlock = some k → k < w2.heap.size := fun k hk => owns_lt hO.row hk
    have hm03 := hm.trans hm3
    have hO3 := hO.mod0 hm3
    have hws := hm.size
    refine (FAt.mk' (off := 3) (by kernel_rfl) uExs rfl (by rw [add_pl, cell_blk hb3]; rfl) : FAt Tryd.prog w3 60 3 ⟨w2.heap.size, 0, none⟩ 58 l[n].s).vk' fun x16 => ?_
    refine CK_st Tryd.func56 rfl rfl (ih _ hmem w3 _ ((hok2.at hx).args.mod hm3) (by omega)) ?_
    rintro v w4 ⟨la, hla, hOa, hm4⟩
    have hb4 := hm4.blk hb3 id
    have hO4 := hO3.mod0 hm4
    have hs34 := hm4.size
    rw [fo (off := 3) (by kernel_rfl), add_pl]
    refine stC (b := w2.heap.size) (o := 0 + 3) rfl (by kernel_rfl) (owns_slice hOa.row) hb4 (by simp [Ex.cells]) fun w5 hb5 hm5 hz5 => ?_
    have hfine := (hok2.at hx).fine
    have hOa5 := hOa.off hm5 (fun k q => by omega)
    have hO5 : ExsOwn w5 w.heap.size (ρ 3) l' := by
      refine ⟨owns_mod hO4.row hm5 fun k hk q => ?_, fun a ha => (hO4.own a ha).mod hm5 (((hO.own a ha).lt).mono fun k hk q => by omega), hO4.at_⟩
      have := hblk k hk
      omega
    obtain ⟨e', he'⟩ : ∃ e' : Ex, e' = ⟨l[n].op, l[n].num, l[n].name, v, la, l[n].line, l[n].col⟩ := ⟨_, rfl⟩
    have hcs : l[n].cells.toArray.setIfInBounds (0 + 3) v = e'.cells.toArray := by rw [he']; rfl
    rw [hcs] at hb5
    have hown' : e'.Own w5 tE := Ex.own_.2 (by rw [he']; exact ⟨owns_base hOa5.row (Nat.zero_le _), hfine, hOa5.own⟩)
    have hin' : e'.In fun k => w.heap.size ≤ k ∧ some k ≠ (ρ 3).ownBlock := by
      have hg : ∀ k, w3.heap.size ≤ k → w.heap.size ≤ k ∧ some k ≠ (ρ 3).ownBlock := fun k hk => ⟨by omega, fun q => by have := hblk k q.symm; omega⟩
      refine Ex.in_.2 ?_
      rw [he']
      exact ⟨fun k hk => hg k (owns_low hOa.row hk), fun a ha => (hOa.at_ a ha).mono fun k hk => hg k hk.1⟩
    refine ldS (cs := e'.cells.toArray) rfl Tryd.underlying60 rfl iEx hb5 ?_
    refine snocEx hO5 hown' hin' (by omega) (by omega) fun y v' w6 hO6 hm6 => ?_
    refine BKadd (a := n) (b := 1) rfl rfl (by omega) (by omega) ?_
    refine ⟨⟨n + 1, l' ++ [e'], hlt, rfl, h0, ?_, hO6, ?_⟩, ?_⟩
    · rw [List.take_add_one, hx, Option.toList_some, List.map_append, List.map_append, her]
      congr 1
      rw [he', List.map_singleton, List.map_singleton, Ex.er_eq, Ex.er_eq, hla]
    · refine ((hm03.trans hm4).then hm5 fun k hk q => ?_).then hm6 fun k hk q => ?_
      · omega
      · have := owns_low hO.row q.symm; omega
    · show l.length - (intOf (Value.int .i64 ((n : Int) + 1))).toNat < _
      simp only [intOf]; omega
  · obtain rfl : n = l.length := by have := of_decide_eq_false hlt; omega
    rw [sq_x, bk_x, sq_n, dispatcherref02_CopyExprs_R1_eq]
    unfold dispatcherref02_CopyExprs_R1_F
    rw [List.take_length] at her
    exact ⟨l', her, hO, hm⟩
theorem copyEx_all : ∀ e : Ex, CopyEx e.args := by
  intro e
  induction e using Ex.ind with
  | h e ih => exact copyEx_row ih
theorem CopyExprs_ok (l : List Ex) : CopyEx l := copyEx_row fun a _ => copyEx_all a
def CopySt (l : List St) : Prop := ∀ (w : World) (s : Value), StsOk w s l → St.szL l ≤ 1099511627776 →
  Rt Tryd.prog 32 #[s] w fun v w' => ∃ l', l'.map St.er = l.map St.er ∧ StsOwn w' w.heap.size v l' ∧ Mod none_ w w'
theorem copySt_row {l : List St} (ih : ∀ a ∈ l, CopySt a.body ∧ CopySt a.els) : CopySt l := by
  intro w s hok hsz
  obtain ⟨A, c, rfl, _⟩ := reads_cap hok.1
  have hlen := St.len_sz l
  refine dispatcherref02_CopyStmts_calls ?_
  unfold dispatcherref02_CopyStmts_F
  refine W_loop dispatcherref02_CopyStmts_L0_ok (fun ρ w' => ∃ (n : Nat) (l' : List St), n ≤ l.length ∧ ρ 4 = .int .i64 n ∧ ρ 0 = .slice A l.length c ∧ l'.map St.er = (l.take n).map St.er ∧ StsOwn w' w.heap.size (ρ 3) l' ∧ Mod none_ w w') (fun ρ _ => l.length - (intOf (ρ 4)).toNat)
    ⟨0, [], Nat.zero_le _, rfl, rfl, rfl, StsOwn.nil _ _, Mod.refl _ _⟩ ?_
  rintro ρ w2 ⟨n, l', hn, h4, h0, her, hO, hm⟩
  rw [dispatcherref02_CopyStmts_L0_eq]
  unfold dispatcherref02_CopyStmts_L0_F
  rw [h0, len23, h4]
  refine BKlss (a := n) (b := l.length) rfl rfl ?_
  refine caseC (fun hlt => ?_) (fun hlt => ?_)
  · have hlt : n < l.length := by have := of_decide_eq_true hlt; omega
    have hx : l[n]? = some l[n] := List.getElem?_eq_getElem hlt
    have hmem : l[n] ∈ l := List.getElem_mem hlt
    have hok2 := hok.mod hm
    have hsn := St.szL_at hx
    have hse := St.sz_eq l[n]
    have hlen' : l'.length = n := by have := congrArg List.length her; simpa [Nat.min_eq_left hn] using this
    have hoke := hok.at hx
    obtain ⟨ihB, ihE⟩ := ih _ hmem
    refine ixSt hok2 hx fun x14 => ?_
    refine lcl_k (cs := l[n].cells.toArray) zSt _ iSt rfl (st_one hoke) fun w3 hb3 hm3 hz3 => ?_
    have hblk : ∀ k, (ρ 3).ownBlock = some k → k < w2.heap.size := fun k hk => owns_lt hO.row hk
    have hm03 := hm.trans hm3
    have hO3 := hO.mod0 hm3
    have hws := hm.size
    have stO : ∀ {wa wb : World}, StsOwn wa w.heap.size (ρ 3) l' → Mod (fun i => i = w2.heap.size) wa wb → StsOwn wb w.heap.size (ρ 3) l' := by
      intro wa wb h hmm
      refine ⟨owns_mod h.row hmm fun k hk q => ?_, fun a ha => (h.own a ha).mod hmm (((hO.own a ha).lt).mono fun k hk q => by omega), h.at_⟩
      have := hblk k hk
      omega
    have st0 : ∀ {wa wb : World}, Mod none_ w wa → Mod (fun i => i = w2.heap.size) wa wb → Mod none_ w wb := fun h hmm => h.then hmm fun k hk q => by omega
    -- the expressions
    refine (FAt.mk' (off := 5) (by kernel_rfl) uExs rfl (by rw [add_pl, cell_blk hb3]; rfl) : FAt Tryd.prog w3 62 5 ⟨w2.heap.size, 0, none⟩ 58 l[n].es).vk' fun x16 => ?_
    refine CK_st Tryd.func56 rfl rfl (CopyExprs_ok _ w3 _ (hoke.exprs.mod hm03) (by omega)) ?_
    rintro v1 w4 ⟨la, hla, hOa, hm4⟩
    have hb4 := hm4.blk hb3 id
    have hs34 := hm4.size
    rw [fo (off := 5) (by kernel_rfl), add_pl]
    refine stC (b := w2.heap.size) (o := 0 + 5) rfl (by kernel_rfl) (owns_slice hOa.row) hb4 (by simp [St.cells]) fun w5 hb5 hm5 hz5 => ?_
    have hOa5 := hOa.off hm5 (fun k q => by omega)
    have hO5 := stO (hO3.mod0 hm4) hm5
    have hm05 := st0 (hm03.trans hm4) hm5
    have hc5 : l[n].cells.toArray.setIfInBounds (0 + 5) v1 = #[.int .u8 l[n].op, .int .u8 l[n].kind, .int .u8 l[n].red, .string l[n].name, .int .i64 l[n].turns, v1, l[n].bs, l[n].ls, .int .i64 l[n].line, .int .i64 l[n].col] := rfl
    rw [hc5] at hb5
    -- the body
    refine (FAt.mk' (off := 6) (by kernel_rfl) uSts rfl (by rw [add_pl, cell_blk hb5]; rfl) : FAt Tryd.prog w5 62 6 ⟨w2.heap.size, 0, none⟩ 23 l[n].bs).vk' fun x20 => ?_
    refine CK_st Tryd.func32 rfl rfl (ihB w5 _ (hoke.body.mod hm05) (by omega)) ?_
    rintro v2 w6 ⟨lb, hlb, hOb, hm6⟩
    have hb6 := hm6.blk hb5 id
    have hs56 := hm6.size
    rw [fo (off := 6) (by kernel_rfl), add_pl]
    refine stC (b := w2.heap.size) (o := 0 + 6) rfl (by kernel_rfl) (owns_slice hOb.row) hb6 (by simp) fun w7 hb7 hm7 hz7 => ?_
    have hOa7 := (hOa5.mod0 hm6).off hm7 (fun k q => by omega)
    have hOb7 := hOb.off hm7 (fun k q => by omega)
    have hO7 := stO (hO5.mod0 hm6) hm7
    have hm07 := st0 (hm05.trans hm6) hm7
    have hc7 : (#[.int .u8 l[n].op, .int .u8 l[n].kind, .int .u8 l[n].red, .string l[n].name, .int .i64 l[n].turns, v1, l[n].bs, l[n].ls, .int .i64 l[n].line, .int .i64 l[n].col] : Array Value).setIfInBounds (0 + 6) v2 = #[.int .u8 l[n].op, .int .u8 l[n].kind, .int .u8 l[n].red, .string l[n].name, .int .i64 l[n].turns, v1, v2, l[n].ls, .int .i64 l[n].line, .int .i64 l[n].col] := rfl
    rw [hc7] at hb7
    -- else
    refine (FAt.mk' (off := 7) (by kernel_rfl) uSts rfl (by rw [add_pl, cell_blk hb7]; rfl) : FAt Tryd.prog w7 62 7 ⟨w2.heap.size, 0, none⟩ 23 l[n].ls).vk' fun x24 => ?_
    refine CK_st Tryd.func32 rfl rfl (ihE w7 _ (hoke.els.mod hm07) (by omega)) ?_
    rintro v3 w8 ⟨lc, hlc, hOc, hm8⟩
    have hb8 := hm8.blk hb7 id
    have hs78 := hm8.size
    rw [fo (off := 7) (by kernel_rfl), add_pl]
    refine stC (b := w2.heap.size) (o := 0 + 7) rfl (by kernel_rfl) (owns_slice hOc.row) hb8 (by simp) fun w9 hb9 hm9 hz9 => ?_
    have hOa9 := (hOa7.mod0 hm8).off hm9 (fun k q => by omega)
    have hOb9 := (hOb7.mod0 hm8).off hm9 (fun k q => by omega)
    have hOc9 := hOc.off hm9 (fun k q => by omega)
    have hO9 := stO (hO7.mod0 hm8) hm9
    have hm09 := st0 (hm07.trans hm8) hm9
    have hfine := hoke.fine
    obtain ⟨e', he'⟩ : ∃ e' : St, e' = ⟨l[n].op, l[n].kind, l[n].red, l[n].name, l[n].turns, v1, la, v2, lb, v3, lc, l[n].line, l[n].col⟩ := ⟨_, rfl⟩
    have hc9 : (#[.int .u8 l[n].op, .int .u8 l[n].kind, .int .u8 l[n].red, .string l[n].name, .int .i64 l[n].turns, v1, v2, l[n].ls, .int .i64 l[n].line, .int .i64 l[n].col] : Array Value).setIfInBounds (0 + 7) v3 = e'.cells.toArray := by rw [he']; rfl
    rw [hc9] at hb9
    have hown' : e'.Own w9 tE tS := St.own_.2 (by rw [he']; exact ⟨⟨owns_base hOa9.row (Nat.zero_le _), hOa9.own⟩, ⟨owns_base hOb9.row (Nat.zero_le _), hOb9.own⟩, ⟨owns_base hOc9.row (Nat.zero_le _), hOc9.own⟩, hfine⟩)
    have hg : ∀ k, w3.heap.size ≤ k → w.heap.size ≤ k ∧ some k ≠ (ρ 3).ownBlock := fun k hk => ⟨by omega, fun q => by have := hblk k q.symm; omega⟩
    have hin' : e'.In fun k => w.heap.size ≤ k ∧ some k ≠ (ρ 3).ownBlock := by
      refine St.in_.2 ?_
      rw [he']
      exact ⟨⟨fun k hk => hg k (owns_low hOa.row hk), fun a ha => (hOa.at_ a ha).mono fun k hk => hg k hk.1⟩, ⟨fun k hk => hg k (by have := owns_low hOb.row hk; omega), fun a ha => (hOb.at_ a ha).mono fun k hk => hg k (by have := hk.1; omega)⟩,
        fun k hk => hg k (by have := owns_low hOc.row hk; omega), fun a ha => (hOc.at_ a ha).mono fun k hk => hg k (by have := hk.1; omega)⟩
    refine ldS (cs := e'.cells.toArray) rfl Tryd.underlying62 rfl iSt hb9 ?_
    refine snocSt hO9 hown' hin' (by omega) (by omega) fun y v' w10 hO10 hm10 => ?_
    refine BKadd (a := n) (b := 1) rfl rfl (by omega) (by omega) ?_
    refine ⟨⟨n + 1, l' ++ [e'], hlt, rfl, h0, ?_, hO10, ?_⟩, ?_⟩
    · rw [List.take_add_one, hx, Option.toList_some, List.map_append, List.map_append, her]
      congr 1
      rw [he', List.map_singleton, List.map_singleton, St.er_eq, St.er_eq, hla, hlb, hlc]
    · refine hm09.then hm10 fun k hk q => ?_
      have := owns_low hO.row q.symm
      omega
    · show l.length - (intOf (Value.int .i64 ((n : Int) + 1))).toNat < _
      simp only [intOf]; omega
  · obtain rfl : n = l.length := by have := of_decide_eq_false hlt; omega
    rw [sq_x, bk_x, sq_n, dispatcherref02_CopyStmts_R1_eq]
    unfold dispatcherref02_CopyStmts_R1_F
    rw [List.take_length] at her
    exact ⟨l', her, hO, hm⟩
theorem copySt_all : ∀ e : St, CopySt e.body ∧ CopySt e.els := by
  intro e
  induction e using St.ind with
  | h e ih1 ih2 => exact ⟨copySt_row ih1, copySt_row ih2⟩
theorem CopyStmts_ok (l : List St) : CopySt l := copySt_row fun a _ => copySt_all a
/-- A program's tree of one's own. -/
structure PrOwn (w : World) (base : Nat) (p : Pr) : Prop where
  d : w.ownsRow base 40 4 p.ds p.decls.length (p.decls.flatMap De.cells)
  f : ∀ a ∈ p.decls, a.fine
  b : StsOwn w base p.bs p.body
theorem PrOwn.ok {w : World} {base : Nat} {p : Pr} (h : PrOwn w base p) : p.Ok w := ⟨⟨reads_of_owns h.d, h.f⟩, h.b.ok⟩
theorem PrOwn.mod0 {w w' : World} {base : Nat} {p : Pr} (h : PrOwn w base p) (hm : Mod none_ w w') : PrOwn w' base p := ⟨owns_mod h.d hm fun _ _ => id, h.f, h.b.mod0 hm⟩
end Go.Proofs.YtbnbcimjapiicaaDoor.Tr
