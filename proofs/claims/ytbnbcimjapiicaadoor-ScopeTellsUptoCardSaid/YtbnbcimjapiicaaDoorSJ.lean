/- Tables: stores, in parts. -/
import Derived.Test.YtbnbcimjapiicaaDoorSH
set_option linter.unusedVariables false
set_option linter.unusedSimpArgs false
set_option maxRecDepth 4000
namespace Go.Proofs.YtbnbcimjapiicaaDoor.Tr
open Go Go.X Go.RowKit Go.Proofs.YtbnbcimjapiicaaDoor.XG Go.Proofs.YtbnbcimjapiicaaDoor.XK

theorem findF_yes {k : Key} : ∀ (l pre r : List De), (∃ a ∈ l, a.key = k) → (findF pre l k).kind ≠ 0 ∧ findF pre (l ++ r) k = findF pre l k
  | [], pre, r, h => by obtain ⟨a, ha, _⟩ := h; cases ha
  | d :: l, pre, r, h => by
    rw [List.cons_append, findF, findF]
    by_cases q : d.key = k
    · rw [if_pos q, if_pos q]; exact ⟨nu_kind _ _, rfl⟩
    · rw [if_neg q, if_neg q]
      refine findF_yes l _ r ?_
      obtain ⟨a, ha, hk⟩ := h
      rcases List.mem_cons.1 ha with rfl | ha
      · exact absurd hk q
      · exact ⟨a, ha, hk⟩
theorem findP_none {l : List De} {k : Key} (h : ∀ a ∈ l, a.key ≠ k) : findP l k = zEn := by
  have := findF_no k l [] [] h
  rw [List.append_nil] at this
  unfold findP
  rw [this]; rfl
theorem findP_snoc {ds : List De} {d : De} (h : (findP ds d.key).kind = 0) (k : Key) : findP (ds ++ [d]) k = if k = d.key then nu ds d else findP ds k := by
  by_cases q : ∃ a ∈ ds, a.key = k
  · obtain ⟨h1, h2⟩ := findF_yes ds [] [d] q
    have hne : k ≠ d.key := by rintro rfl; exact h1 h
    rw [if_neg hne]; exact h2
  · have q' : ∀ a ∈ ds, a.key ≠ k := fun a ha e => q ⟨a, ha, e⟩
    have e1 : findP (ds ++ [d]) k = findF ds [d] k := by unfold findP; rw [findF_no k ds [] [d] q', List.nil_append]
    rw [e1, findF]
    by_cases e : d.key = k
    · rw [if_pos e, if_pos e.symm]
    · rw [if_neg e, if_neg (fun x => e x.symm), findP_none q']; rfl
theorem findP_zero {ds : List De} {k : Key} (h : (findP ds k).kind = 0) : findP ds k = zEn := by
  by_cases q : ∃ a ∈ ds, a.key = k
  · exact absurd h (findF_yes ds [] [] q).1
  · exact findP_none fun a ha e => q ⟨a, ha, e⟩
theorem findE_app {k' k : Key} {v : Value} {c : Nat} : ∀ (l : List (Ent Key)) (n : Nat), findE k' (l ++ [⟨k, v, c⟩]) n = match findE k' l n with | some p => some p | none => if k' = k then some (n + l.length, v) else none
  | [], n => by simp [findE]
  | e :: r, n => by
    rw [List.cons_append, findE, findE]
    by_cases h : k' = e.k
    · simp [h]
    · rw [if_neg h, if_neg h, findE_app r (n + 1)]
      cases findE k' r (n + 1) with
      | some p => rfl
      | none => simp only [List.length_cons]; rw [show n + 1 + r.length = n + (r.length + 1) by omega]
theorem findE_ge {k : Key} {u : Value} : ∀ (l : List (Ent Key)) (n i : Nat), findE k l n = some (i, u) → n ≤ i
  | [], n, i, h => by simp [findE] at h
  | e :: r, n, i, h => by
    rw [findE] at h
    split at h
    · cases h; exact Nat.le_refl _
    · have := findE_ge r (n + 1) i h; omega
theorem findE_mod {k' k : Key} {v u : Value} : ∀ (l : List (Ent Key)) (n i : Nat), findE k l n = some (n + i, u) → findE k' (l.modify i fun e => ⟨e.k, v, e.b⟩) n = if k' = k then some (n + i, v) else findE k' l n
  | [], n, i, h => by simp [findE] at h
  | e :: r, n, 0, h => by
    rw [findE] at h
    split at h
    · rename_i hk
      subst hk
      show findE k' (⟨e.k, v, e.b⟩ :: r) n = _
      rw [findE, findE]
      by_cases q : k' = e.k <;> simp [q]
    · have := findE_ge _ _ _ h; omega
  | e :: r, n, i + 1, h => by
    rw [findE] at h
    split at h
    · simp at h
    · rename_i hk
      show findE k' (e :: r.modify i fun e => ⟨e.k, v, e.b⟩) n = _
      rw [findE, findE, findE_mod (k' := k') r (n + 1) i (by rw [show n + 1 + i = n + (i + 1) by omega]; exact h)]
      by_cases q : k' = e.k
      · rw [if_pos q, if_pos q, if_neg (by rintro rfl; exact hk q)]
      · rw [if_neg q, if_neg q, show n + 1 + i = n + (i + 1) by omega]
theorem valE_put (k' k : Key) (v : Value) (c : Nat) (l : List (Ent Key)) : valE k' (putE k v c l) = if k' = k then v else valE k' l := by
  unfold valE putE
  cases h : findE k l 0 with
  | none =>
    dsimp only
    rw [findE_app]
    by_cases q : k' = k
    · subst q; rw [h]; simp
    · cases findE k' l 0 <;> simp [q]
  | some p =>
    obtain ⟨i, u⟩ := p
    dsimp only
    rw [findE_mod l 0 i (by simpa using h)]
    by_cases q : k' = k <;> simp [q]
/-- A table in memory, in parts. -/
structure Raw (w : World) (base t m : Nat) (nv av : Value) (vs cl : Int) (ns es : List Value) (l : List (Ent Key)) (c : Nat) : Prop where
  bt : w.heap[t]? = some (.cells #[nv, .map (some m), .int .i64 vs, av, .int .i64 cl] 71 (0, 0))
  bm : IsMap encK w m l c
  lt : base ≤ t
  lm : base ≤ m
  on : w.ownsRow base 9 1 nv ns.length ns
  oa : w.ownsRow base 3 1 av es.length es
section
variable {w w' : World} {base t m : Nat} {nv av : Value} {vs cl : Int} {ns es : List Value} {l : List (Ent Key)} {c : Nat}
theorem Raw.mod (h : Raw w base t m nv av vs cl ns es l c) (hm : Mod none_ w w') : Raw w' base t m nv av vs cl ns es l c :=
  ⟨hm.blk h.bt id, h.bm.mod hm id, h.lt, h.lm, owns_mod h.on hm (fun _ _ => id), owns_mod h.oa hm (fun _ _ => id)⟩
theorem Raw.tm (h : Raw w base t m nv av vs cl ns es l c) : m ≠ t := by
  rintro rfl
  have := h.bm.symm.trans h.bt
  cases this
theorem Raw.nt (h : Raw w base t m nv av vs cl ns es l c) : nv.ownBlock ≠ some t := owns_ne_blk h.on h.bt (by decide)
theorem Raw.at (h : Raw w base t m nv av vs cl ns es l c) : av.ownBlock ≠ some t := owns_ne_blk h.oa h.bt (by decide)
theorem Raw.nm (h : Raw w base t m nv av vs cl ns es l c) : nv.ownBlock ≠ some m := fun q => by
  obtain ⟨cur, hc⟩ := owns_blk h.on q
  have := h.bm.symm.trans hc
  cases this
theorem Raw.am (h : Raw w base t m nv av vs cl ns es l c) : av.ownBlock ≠ some m := fun q => by
  obtain ⟨cur, hc⟩ := owns_blk h.oa q
  have := h.bm.symm.trans hc
  cases this
/-- The table's own block stored over. -/
theorem Raw.setT (h : Raw w base t m nv av vs cl ns es l c) (hm : Mod (fun i => i = t) w w') {nv' av' : Value} {vs' cl' : Int} (hb : w'.heap[t]? = some (.cells #[nv', .map (some m), .int .i64 vs', av', .int .i64 cl'] 71 (0, 0)))
    (hn : nv' = nv) (ha : av' = av) : Raw w' base t m nv' av' vs' cl' ns es l c := by
  subst hn ha
  exact ⟨hb, h.bm.mod hm h.tm, h.lt, h.lm, owns_mod h.on hm (fun k hk q => h.nt (q ▸ hk)), owns_mod h.oa hm (fun k hk q => h.at (q ▸ hk))⟩
theorem Raw.fld (h : Raw w base t m nv av vs cl ns es l c) : t < w.heap.size := X.blk_lt h.bt
end
end Go.Proofs.YtbnbcimjapiicaaDoor.Tr
/-! declare. -/
set_option linter.unusedVariables false
set_option linter.unusedSimpArgs false
set_option maxRecDepth 4000
namespace Go.Proofs.YtbnbcimjapiicaaDoor.Tr
open Go Go.X Go.RowKit Go.Proofs.YtbnbcimjapiicaaDoor.XG Go.Proofs.YtbnbcimjapiicaaDoor.XK

def full (ds : List De) (d : De) : Bool := if d.places = 0 then decide (vars ds = 64) else decide (1000 < cellsP ds + d.places)
/-- What a declaration more is told. -/
def dstep (ds : List De) (d : De) : Int := if (findP ds d.key).kind ≠ 0 then 40 else if full ds d then 4 else 0
theorem look_run {w : World} {b : Nat} {l : List (Ent Key)} {c : Nat} (h : IsMap encK w b l c) (k : ByteArray) : (Instr.lookup 69 (.map (some b)) (.string k) false).run Tryd.prog w = .ok (valE k.data.toList l) w := by
  have hr := run_look KT uMap h zEnt k.data.toList false
  rw [encK_of] at hr
  rw [hr]
  unfold valE
  cases findE k.data.toList l 0 with
  | none => rfl
  | some p => obtain ⟨i, v⟩ := p; rfl
theorem build_run {t : TypeId} {parts : List (Nat × Value)} {cs : Array Value} {w : World} (h : Tryd.prog.built t parts = some cs) : (Instr.build t parts.toArray).run Tryd.prog w = .ok (.agg cs) w :=
  run_build (P := Tryd.prog) w t parts.toArray cs (by simpa using h)
theorem uIs : Tryd.prog.underlying 50 = some (.slice 3) := by kernel_rfl
theorem eIs : elemOk Tryd.prog 50 3 1 8 = true := by kernel_rfl
theorem eSs : elemOk Tryd.prog 52 9 1 16 = true := by kernel_rfl
theorem owns_ge {w : World} {base : Nat} {e : TypeId} {size : Nat} {v : Value} {n : Nat} {xs : List Value} (h : w.ownsRow base e size v n xs) {g : Nat} (hg : v.ownBlock = some g) : base ≤ g := by
  obtain ⟨_, ⟨rfl, _⟩ | ⟨g', cap, cur, rfl, hb, _⟩⟩ := h
  · cases hg
  · have : g' = g := by simpa [Value.ownBlock] using hg
    omega
/-- One of the names more. -/
theorem app_names {w : World} {base t m : Nat} {nv av : Value} {vs cl : Int} {ns es : List Value} {l : List (Ent Key)} {c : Nat} {S : World → Prop} {N : Value → Value → Value → World → Prop} (hR : Raw w base t m nv av vs cl ns es l c) {x u : Value} (hx : reads w 1 x 1 [u]) (hu : u.oneCell' = true) (hlen : ns.length < 1099511627776)
    (hS : ∀ w', Mod (fun i => some i = nv.ownBlock ∨ i = t) w w' → S w')
    (hN : ∀ x1 x2 v' w', Raw w' base t m v' av vs cl (ns ++ [u]) es l c → S w' → Mod (fun i => some i = nv.ownBlock ∨ i = t) w w' → N x1 x2 v' w') :
    IK Tryd.prog .append #[52, 52] 52 [false, false] [nv, x] w fun v' w => S w ∧ (HK Tryd.prog S (nilCk (pt t)) fun x1 => HK Tryd.prog S (do pure (Next.value (← Instr.fieldAt 71 x1 0))) fun x2 => UK Tryd.prog (Instr.storeAt 52 x2 v') w fun _ w => S w ∧ N x1 x2 v' w) := by
  have ht := hR.fld
  refine ap_own eSs hR.on hx (by decide) (by simpa using hu) (by unfold maxLen; omega) (by omega) (Nat.le_of_lt (Nat.lt_of_le_of_lt hR.lt ht)) fun v' w2 h2 hm2 h4 => ?_
  have hbt2 := hm2.blk hR.bt (fun q => hR.nt q.symm)
  refine ⟨hS _ (hm2.mono fun _ _ q => Or.inl q), HN_ptr (HV_of (fun w' _ => run_fo (off := 0) (by kernel_rfl) _ w') ?_)⟩
  rw [add_pl]
  have h1 : v'.oneCell' = true := by obtain ⟨_, ⟨rfl, _⟩ | ⟨g, cap, cur, rfl, _⟩⟩ := h2 <;> rfl
  refine stC (b := t) (o := 0 + 0) rfl (by kernel_rfl) h1 hbt2 (by simp) fun w3 hb3' hm3 hz3 => ?_
  have hvt : v'.ownBlock ≠ some t := by
    rcases h4 with h4 | h4
    · rw [h4]; exact hR.nt
    · rw [h4]; intro q; injection q with q; omega
  have hm13 : Mod (fun i => some i = nv.ownBlock ∨ i = t) w w3 := (hm2.mono fun _ _ q => Or.inl q).then hm3 fun _ _ q => Or.inr q
  have hs3 := hS w3 hm13
  refine ⟨hs3, hN _ _ _ _ ?_ hs3 hm13⟩
  refine ⟨hb3', (hR.bm.mod hm2 fun q => hR.nm q.symm).mod hm3 hR.tm, hR.lt, hR.lm, ?_, ?_⟩
  · rw [List.length_append]; exact owns_mod h2 hm3 (fun k hk q => hvt (q ▸ hk))
  · exact owns_mod (owns_mod hR.oa hm2 (fun k hk q => owns_ne hR.oa hR.on (by decide) k hk q)) hm3 (fun k hk q => hR.at (q ▸ hk))

/-- One of the arrs more. -/
theorem app_arrs {w : World} {base t m : Nat} {nv av : Value} {vs cl : Int} {ns es : List Value} {l : List (Ent Key)} {c : Nat} {S : World → Prop} {N : Value → Value → Value → World → Prop} (hR : Raw w base t m nv av vs cl ns es l c) {x u : Value} (hx : reads w 1 x 1 [u]) (hu : u.oneCell' = true) (hlen : es.length < 1099511627776)
    (hS : ∀ w', Mod (fun i => some i = av.ownBlock ∨ i = t) w w' → S w')
    (hN : ∀ x1 x2 v' w', Raw w' base t m nv v' vs cl ns (es ++ [u]) l c → S w' → Mod (fun i => some i = av.ownBlock ∨ i = t) w w' → N x1 x2 v' w') :
    IK Tryd.prog .append #[50, 50] 50 [false, false] [av, x] w fun v' w => S w ∧ (HK Tryd.prog S (nilCk (pt t)) fun x1 => HK Tryd.prog S (do pure (Next.value (← Instr.fieldAt 71 x1 3))) fun x2 => UK Tryd.prog (Instr.storeAt 50 x2 v') w fun _ w => S w ∧ N x1 x2 v' w) := by
  have ht := hR.fld
  refine ap_own eIs hR.oa hx (by decide) (by simpa using hu) (by unfold maxLen; omega) (by omega) (Nat.le_of_lt (Nat.lt_of_le_of_lt hR.lt ht)) fun v' w2 h2 hm2 h4 => ?_
  have hbt2 := hm2.blk hR.bt (fun q => hR.at q.symm)
  refine ⟨hS _ (hm2.mono fun _ _ q => Or.inl q), HN_ptr (HV_of (fun w' _ => run_fo (off := 3) (by kernel_rfl) _ w') ?_)⟩
  rw [add_pl]
  have h1 : v'.oneCell' = true := by obtain ⟨_, ⟨rfl, _⟩ | ⟨g, cap, cur, rfl, _⟩⟩ := h2 <;> rfl
  refine stC (b := t) (o := 0 + 3) rfl (by kernel_rfl) h1 hbt2 (by simp) fun w3 hb3' hm3 hz3 => ?_
  have hvt : v'.ownBlock ≠ some t := by
    rcases h4 with h4 | h4
    · rw [h4]; exact hR.at
    · rw [h4]; intro q; injection q with q; omega
  have hm13 : Mod (fun i => some i = av.ownBlock ∨ i = t) w w3 := (hm2.mono fun _ _ q => Or.inl q).then hm3 fun _ _ q => Or.inr q
  have hs3 := hS w3 hm13
  refine ⟨hs3, hN _ _ _ _ ?_ hs3 hm13⟩
  refine ⟨hb3', (hR.bm.mod hm2 fun q => hR.am q.symm).mod hm3 hR.tm, hR.lt, hR.lm, ?_, ?_⟩
  · exact owns_mod (owns_mod hR.on hm2 (fun k hk q => owns_ne hR.on hR.oa (by decide) k hk q)) hm3 (fun k hk q => hR.nt (q ▸ hk))
  · rw [List.length_append]; exact owns_mod h2 hm3 (fun k hk q => hvt (q ▸ hk))

theorem TbAt.raw {w : World} {base t : Nat} {ds : List De} (h : TbAt w base t ds) : ∃ nv av m l c, Raw w base t m nv av (vars ds) (cellsP ds) (ds.map fun d => .string d.name) ((arrs ds).map (.int .i64)) l c ∧ ∀ k, valE k l = (findP ds k).v := by
  obtain ⟨nv, av, m, l, c, h1, h2, h3, h4, h5, h6, h7⟩ := h.at'
  exact ⟨nv, av, m, l, c, ⟨h1, h2, h4, h5, by rw [List.length_map]; exact h6, by rw [List.length_map]; exact h7⟩, h3⟩
theorem Raw.tb {w : World} {base t : Nat} {ds : List De} {nv av : Value} {m : Nat} {l : List (Ent Key)} {c : Nat} (h : Raw w base t m nv av (vars ds) (cellsP ds) (ds.map fun d => .string d.name) ((arrs ds).map (.int .i64)) l c) (hv : ∀ k, valE k l = (findP ds k).v) : TbAt w base t ds :=
  ⟨⟨nv, av, m, l, c, h.bt, h.bm, hv, h.lt, h.lm, by have := h.on; rw [List.length_map] at this; exact this, by have := h.oa; rw [List.length_map] at this; exact this⟩⟩
theorem NKs {P : Program} {w : World} {K : Value → World → Prop} {x : Value} {a : Addr} (hx : x = .pointer (some a)) (hk : K (.pointer (some a)) w) : NK P x w K := by rw [hx, NK_ptr]; exact hk
theorem R10_W (z : Go.X.At) (K : Exit → Sl → World → Prop) (ρ : Sl) (w : World) : sx z Tryd.prog 101 scope_Table_declare_R10 K ρ w = W z Tryd.prog 101 scope_Table_declare_R10 K ρ w := by kernel_rfl
/-- Blocks that a table may have for its own: no declaration's. -/
def Own (w : World) (base i : Nat) : Prop := base ≤ i ∧ ∀ cs fr, w.heap[i]? ≠ some (.cells cs 40 fr)
theorem declare_ok {w : World} {base t : Nat} {ds : List De} {d : De} (ht : TbAt w base t ds) (hD : Decls ds) (hl : ds.length < 1099511627776) (hv : vars ds ≤ 64) (hc : cellsP ds ≤ 1000) (hdm : d.may = true) :
    Rt Tryd.prog 37 #[pt t, .agg d.cells.toArray] w fun v w' => v = .int .i64 (dstep ds d) ∧ (dstep ds d = 0 → TbAt w' base t (ds ++ [d])) ∧ Mod (Own w base) w w' := by
  obtain ⟨nv, av, m, l, c, hR, hval⟩ := ht.raw
  have hOt : Own w base t := ⟨hR.lt, fun cs fr q => by
    have := hR.bt.symm.trans q
    injection this with this
    injection this with _ this
    exact absurd this (by decide)⟩
  have hOm : Own w base m := ⟨hR.lm, fun cs fr q => by have := hR.bm.symm.trans q; cases this⟩
  have hOn : ∀ i, some i = nv.ownBlock → Own w base i := fun i q => ⟨owns_ge hR.on q.symm, fun cs fr q2 => owns_ne_blk hR.on q2 (by decide) q.symm⟩
  have hOa : ∀ i, some i = av.ownBlock → Own w base i := fun i q => ⟨owns_ge hR.oa q.symm, fun cs fr q2 => owns_ne_blk hR.oa q2 (by decide) q.symm⟩
  have hc0 := (cellsP_le hD.may).1
  have hp := may_places hdm
  refine scope_Table_declare_calls ?_
  unfold scope_Table_declare_F
  refine box_k (cs := d.cells.toArray) rfl fun w1 hb1 hm1 hz1 => ?_
  have hR1 := hR.mod hm1
  have hbt : base ≤ t := hR.lt
  have hltw : t < w.heap.size := hR.fld
  generalize hb3 : w.heap.size = b3 at *
  refine scope_Table_declare_R0_quiet (D := []) (fun w' => Mod none_ w1 w') ((Mod.refl _ w1).drawn _) ?_
  unfold scope_Table_declare_R0_Q
  refine QN_ptr (a := ⟨t, 0, none⟩) ?_
  refine Qfo (off := 1) (a := ⟨t, 0, none⟩) (by kernel_rfl) (Qld uMp rfl (v := .map (some m)) (fun w' hw => by rw [add_pl, cell_blk (hR1.mod hw).bt]; rfl) ?_)
  refine Qfo (off := 0) (a := ⟨b3, 0, none⟩) (by kernel_rfl) (Qld uSt rfl (v := .string d.name) (fun w' hw => by rw [add_pl, cell_blk (hw.blk hb1 id)]; rfl) ?_)
  refine QV_of (fun w' hw => look_run (hR1.mod hw).bm d.name) ?_
  refine QV_of (fun w' hw => build_run bEnt0) ?_
  rw [hval]
  refine QB_of (v := .bool (!decide (findP ds d.name.data.toList = zEn))) (fun w => run_eqGuard_agg w .neq _ _ _ _ _ gEn) (fun w => rEnN _ _ w) ?_
  intro w2 hm2
  have hR2 := hR1.mod hm2
  have hb2 := hm2.blk hb1 id
  have hm02 := hm1.trans hm2
  have up1 : ∀ {w'}, Mod none_ w w' → Mod (Own w base) w w' := fun h => h.mono fun _ _ q => q.elim
  rw [sq_n, scope_Table_declare_R1_eq]
  unfold scope_Table_declare_R1_F
  refine caseC (fun hq => ?_) (fun hq => ?_)
  · have hk : (findP ds d.key).kind ≠ 0 := fun e => by rw [show d.name.data.toList = d.key from rfl, findP_zero e] at hq; simp at hq
    have hs : dstep ds d = 40 := by unfold dstep; rw [if_pos hk]
    rw [hs]
    exact ⟨rfl, fun q => by simp at q, up1 hm02⟩
  have hk : (findP ds d.key).kind = 0 := by
    have : findP ds d.name.data.toList = zEn := by simpa using hq
    rw [show d.key = d.name.data.toList from rfl, this]; rfl
  have hds : dstep ds d = if full ds d then 4 else 0 := by unfold dstep; rw [if_neg (by simp [hk])]
  rw [hds]
  clear hm1 hm2 hR1 hb1 hq hds
  have hfld2 : ∀ (w' : World) (nv av : Value) (vs cl : Int) (ns es : List Value) (l : List (Ent Key)) (c : Nat), Raw w' base t m nv av vs cl ns es l c → ∀ (j : Nat) (v : Value), (#[nv, .map (some m), .int .i64 vs, av, .int .i64 cl] : Array Value)[j]? = some v → w'.cell? ⟨t, 0 + j, none⟩ = some v := fun w' nv av vs cl ns es l c h j v hj => by
    rw [cell_blk h.bt, Nat.zero_add]; exact hj
  -- names, the end
  have r8 : ∀ (ρ' : Sl) (w5 : World) (av' : Value) (l' : List (Ent Key)) (c' : Nat), Raw w5 base t m nv av' (vars (ds ++ [d])) (cellsP (ds ++ [d])) (ds.map fun d => .string d.name) ((arrs (ds ++ [d])).map (.int .i64)) l' c' → w5.heap[b3]? = some (.cells d.cells.toArray 40 (0, 0)) → Mod (Own w base) w w5 → (∀ k, valE k l' = (findP (ds ++ [d]) k).v) → full ds d = false → ρ' 0 = pt t → ρ' 3 = pt b3 →
      sx fn_ Tryd.prog 101 scope_Table_declare_R8 (retK Tryd.prog [ResultVar.tmp 4] fun v w' => v = .int .i64 (if full ds d then 4 else 0) ∧ ((if full ds d then (4 : Int) else 0) = 0 → TbAt w' base t (ds ++ [d])) ∧ Mod (Own w base) w w') ρ' w5 := by
    intro ρ' w5 av' l' c' hR5 hb5 hm5 hval5 hfull q0 q3
    rw [hfull, show (if (false : Bool) = true then (4 : Int) else 0) = 0 from rfl]
    rw [scope_Table_declare_R8_eq]
    unfold scope_Table_declare_R8_F
    have hRd := hR5.mod ((Mod.refl none_ w5).drawn (w5.drawn + 1))
    have hbd : ({ w5 with drawn := w5.drawn + 1 } : World).heap[b3]? = some (.cells d.cells.toArray 40 (0, 0)) := hb5
    have hmd : Mod (Own w base) w { w5 with drawn := w5.drawn + 1 } := hm5.drawn _
    refine scope_Table_declare_R11_held (D := []) (fun w' => w'.heap[b3]? = some (.cells d.cells.toArray 40 (0, 0))) hb5 ?_
    unfold scope_Table_declare_R11_H
    generalize ({ w5 with drawn := w5.drawn + 1 } : World) = wd at hRd hbd hmd ⊢
    rw [q0, q3]
    have hend : ∀ (ρ2 : Sl) (x' : Value) (w' : World), Raw w' base t m x' av' (vars (ds ++ [d])) (cellsP (ds ++ [d])) ((ds.map fun d => .string d.name) ++ [.string d.name]) ((arrs (ds ++ [d])).map (.int .i64)) l' c' → Mod (Own w base) wd w' →
        seqK (sx fn_ Tryd.prog 101 scope_Table_declare_R12 (retK Tryd.prog [ResultVar.tmp 4] fun v w' => v = .int .i64 0 ∧ ((0 : Int) = 0 → TbAt w' base t (ds ++ [d])) ∧ Mod (Own w base) w w')) (retK Tryd.prog [ResultVar.tmp 4] fun v w' => v = .int .i64 0 ∧ ((0 : Int) = 0 → TbAt w' base t (ds ++ [d])) ∧ Mod (Own w base) w w') .normal ρ2 w' := by
      intro ρ2 x' w' hRe hme
      rw [sq_n, scope_Table_declare_R12_eq]
      unfold scope_Table_declare_R12_F
      have hRe' : Raw w' base t m x' av' (vars (ds ++ [d])) (cellsP (ds ++ [d])) ((ds ++ [d]).map fun d => .string d.name) ((arrs (ds ++ [d])).map (.int .i64)) l' c' := by rw [List.map_append]; exact hRe
      exact ⟨rfl, fun _ => hRe'.tb hval5, hmd.trans hme⟩
    have hn3 : t ≠ b3 := by omega
    have hnb : nv.ownBlock ≠ some b3 := owns_ne_blk hRd.on hbd (by decide)
    refine HN_ptr (HV_of (fun w' _ => run_fo (off := 0) (by kernel_rfl) _ w') (HV_of (fun w' _ => run_fo (off := 0) (by kernel_rfl) _ w') (HV_of (fun w' hw => run_ld1 uSt rfl (v := .string d.name) (by rw [add_pl, cell_blk hw]; rfl)) ⟨?_, ?_⟩)))
    · refine ld1 (v := nv) uSs rfl (by rw [add_pl]; exact hfld2 _ _ _ _ _ _ _ _ _ hRd 0 nv rfl) ⟨hbd, ?_⟩
      refine bs_k (cs := #[.string d.name]) (by kernel_rfl) fun w6 hb6 hm6 hz6 => ⟨hm6.blk hbd id, ?_⟩
      exact app_names (hRd.mod hm6) (by simpa using reads_blk (size := 1) (n := 1) hb6 rfl) rfl (by rw [List.length_map]; omega) (fun w' h => h.blk (hm6.blk hbd id) (by rintro (q | q); exact hnb q.symm; exact hn3 q.symm)) fun x1 x2 v' w' hRe hS hme => hend _ v' w' hRe ((hm6.mono fun _ _ q => q.elim).trans (hme.mono fun i _ q => q.elim (hOn i) fun e => by rw [e]; exact hOt))
    · refine bs_k (cs := #[.string d.name]) (by kernel_rfl) fun w6 hb6 hm6 hz6 => ⟨hm6.blk hbd id, ?_⟩
      refine ld1 (v := nv) uSs rfl (by rw [add_pl]; exact hfld2 _ _ _ _ _ _ _ _ _ (hRd.mod hm6) 0 nv rfl) ⟨hm6.blk hbd id, ?_⟩
      exact app_names (hRd.mod hm6) (by simpa using reads_blk (size := 1) (n := 1) hb6 rfl) rfl (by rw [List.length_map]; omega) (fun w' h => h.blk (hm6.blk hbd id) (by rintro (q | q); exact hnb q.symm; exact hn3 q.symm)) fun x1 x2 v' w' hRe hS hme => hend _ v' w' hRe ((hm6.mono fun _ _ q => q.elim).trans (hme.mono fun i _ q => q.elim (hOn i) fun e => by rw [e]; exact hOt))
  -- the map
  have r5 : ∀ (ρ' : Sl) (w4 : World) (av' : Value) (b5 : Nat), Raw w4 base t m nv av' (vars (ds ++ [d])) (cellsP (ds ++ [d])) (ds.map fun d => .string d.name) ((arrs (ds ++ [d])).map (.int .i64)) l c → w4.heap[b3]? = some (.cells d.cells.toArray 40 (0, 0)) → w4.heap[b5]? = some (.cells (nu ds d).cells.toArray 37 (0, 0)) → Mod (Own w base) w w4 → full ds d = false → ρ' 0 = pt t → ρ' 3 = pt b3 → ρ' 5 = pt b5 →
      sx fn_ Tryd.prog 101 scope_Table_declare_R5 (retK Tryd.prog [ResultVar.tmp 4] fun v w' => v = .int .i64 (if full ds d then 4 else 0) ∧ ((if full ds d then (4 : Int) else 0) = 0 → TbAt w' base t (ds ++ [d])) ∧ Mod (Own w base) w w') ρ' w4 := by
    intro ρ' w4 av' b5 hR4 hb4 hb5 hm4 hfull q0 q3 q5
    rw [scope_Table_declare_R5_eq]
    unfold scope_Table_declare_R5_F
    refine scope_Table_declare_R7_tail (D := []) ?_
    unfold scope_Table_declare_R7_T
    have hRd := hR4.mod ((Mod.refl none_ w4).drawn (w4.drawn + 1))
    have hbd : ({ w4 with drawn := w4.drawn + 1 } : World).heap[b3]? = some (.cells d.cells.toArray 40 (0, 0)) := hb4
    have hbd5 : ({ w4 with drawn := w4.drawn + 1 } : World).heap[b5]? = some (.cells (nu ds d).cells.toArray 37 (0, 0)) := hb5
    have hmd : Mod (Own w base) w { w4 with drawn := w4.drawn + 1 } := hm4.drawn _
    generalize ({ w4 with drawn := w4.drawn + 1 } : World) = wd at hRd hbd hbd5 hmd ⊢
    rw [q0, q3, q5]
    dsimp only
    refine QN_ptr (a := ⟨t, 0, none⟩) ?_
    refine Qfo (off := 1) (a := ⟨t, 0, none⟩) (by kernel_rfl) (Qld uMp rfl (v := .map (some m)) (fun w' hw => by rw [hw, add_pl]; exact hfld2 _ _ _ _ _ _ _ _ _ hRd 1 _ rfl) ?_)
    refine Qfo (off := 0) (a := ⟨b3, 0, none⟩) (by kernel_rfl) (Qld uSt rfl (v := .string d.name) (fun w' hw => by rw [hw, add_pl, cell_blk hbd]; rfl) ?_)
    refine QV_of (v := (nu ds d).v) (fun w' hw => by rw [hw]; exact run_ldB (cs := (nu ds d).cells.toArray) Tryd.underlying37 rfl iEnt hbd5) ?_
    obtain ⟨w5, hrun, hIs, hm5⟩ := run_put KT uMap hRd.bm d.key (nu ds d).v
    rw [show encK d.key = .string d.name from encK_of d.name] at hrun
    refine UK_of hrun ?_
    have hn0 : m ≠ b3 := by
      rintro rfl
      have := hRd.bm.symm.trans hbd
      cases this
    rw [sq_n]
    refine r8 _ w5 av' _ _ ⟨hm5.blk hRd.bt (fun q => hRd.tm q.symm), hIs, hRd.lt, hRd.lm, owns_mod hRd.on hm5 (fun k hk q => hRd.nm (q ▸ hk)), owns_mod hRd.oa hm5 (fun k hk q => hRd.am (q ▸ hk))⟩ (hm5.blk hbd fun q => hn0 q.symm) (hmd.then hm5 fun i _ q => by rw [q]; exact hOm) ?_ hfull ?_ ?_
    · intro k
      rw [valE_put, findP_snoc hk, hval]
      by_cases q : k = d.key <;> simp [q]
    · exact q0
    · exact q3
  have hnotV : ∀ (q : d.places ≠ 0), isV d = false := fun q => decide_eq_false q
  have hisV : ∀ (q : d.places = 0), isV d = true := fun q => decide_eq_true q
  -- the counters
  have r6 : ∀ (ρ' : Sl) (w4 : World) (b5 : Nat) (f : Bool), Raw w4 base t m nv av (vars ds) (cellsP ds) (ds.map fun d => .string d.name) ((arrs ds).map (.int .i64)) l c → w4.heap[b3]? = some (.cells d.cells.toArray 40 (0, 0)) → w4.heap[b5]? = some (.cells (nu ds d).cells.toArray 37 (0, 0)) → Mod (Own w base) w w4 → f = full ds d → ρ' 55 = .bool f → ρ' 0 = pt t → ρ' 3 = pt b3 → ρ' 5 = pt b5 →
      sx fn_ Tryd.prog 101 scope_Table_declare_R6 (blkK 0 (seqK (sx fn_ Tryd.prog 101 scope_Table_declare_R5 (retK Tryd.prog [ResultVar.tmp 4] fun v w' => v = .int .i64 (if full ds d then 4 else 0) ∧ ((if full ds d then (4 : Int) else 0) = 0 → TbAt w' base t (ds ++ [d])) ∧ Mod (Own w base) w w')) (retK Tryd.prog [ResultVar.tmp 4] fun v w' => v = .int .i64 (if full ds d then 4 else 0) ∧ ((if full ds d then (4 : Int) else 0) = 0 → TbAt w' base t (ds ++ [d])) ∧ Mod (Own w base) w w'))) ρ' w4 := by
    intro ρ' w4 b5 f hR4 hb4 hb5 hm4 hf q55 q0 q3 q5
    rw [scope_Table_declare_R6_eq]
    unfold scope_Table_declare_R6_F
    have hn5 : t ≠ b5 := by
      rintro rfl
      have := hR4.bt.symm.trans hb5
      injection this with this
      injection this with _ this
      exact absurd this (by decide)
    have hn3 : t ≠ b3 := by omega
    refine caseN q55 (fun hp => ?_) (fun hp => ?_)
    · rw [bk_r, sq_r]
      rw [← hf, hp]
      exact ⟨rfl, fun q => by simp at q, hm4⟩
    · rw [hp] at hf
      have g0 : FAt Tryd.prog w4 37 0 ⟨b5, 0, none⟩ 5 (.int .u8 (nu ds d).kind) := FAt.mk' (off := 0) (by kernel_rfl) uU8 rfl (by rw [add_pl, cell_blk hb5]; rfl)
      refine g0.vs q5 fun x73 => ?_
      by_cases hpl : d.places = 0
      · have hnu : nu ds d = ⟨1, vars ds, 0, 0⟩ := by unfold nu; rw [if_pos hpl]
        rw [hnu]
        refine BKeqI (a := 1) (b := 1) rfl rfl (fun _ => condT ?_) (fun q => absurd rfl q)
        rw [q0, NK_ptr]
        have g2 : FAt Tryd.prog w4 71 2 ⟨t, 0, none⟩ 3 (.int .i64 (vars ds)) := FAt.mk' (off := 2) (by kernel_rfl) uI rfl (by rw [add_pl]; exact hfld2 _ _ _ _ _ _ _ _ _ hR4 2 _ rfl)
        refine g2.vk' fun x78 => ?_
        refine BKadd (a := vars ds) (b := 1) rfl rfl (by omega) (by omega) ?_
        rw [NK_ptr, fo71_2, add_pl]
        refine stC (b := t) (o := 0 + 2) rfl (by kernel_rfl) rfl hR4.bt (by simp) fun w5 hb5' hm5 _ => ?_
        have hR5 := hR4.setT (nv' := nv) (av' := av) (vs' := (vars ds : Int) + 1) (cl' := cellsP ds) hm5 hb5' rfl rfl
        rw [bk_n, sq_n]
        refine r5 _ w5 av b5 ?_ (hm5.blk hb4 fun q => hn3 q.symm) (hm5.blk hb5 fun q => hn5 q.symm) (hm4.then hm5 fun i _ q => by rw [q]; exact hOt) hf.symm ?_ ?_ ?_
        · have e1 : (vars (ds ++ [d]) : Int) = (vars ds : Int) + 1 := by rw [vars_snoc, hisV hpl]; simp
          have e2 : cellsP (ds ++ [d]) = cellsP ds := by rw [cellsP_snoc, hpl, Int.add_zero]
          have e3 : arrs (ds ++ [d]) = arrs ds := by rw [arrs_snoc, hisV hpl]; simp
          rw [e1, e2, e3]; exact hR5
        · exact q0
        · exact q3
        · exact q5
      · have hnu : nu ds d = ⟨2, (arrs ds).length, cellsP ds, d.places⟩ := by unfold nu; rw [if_neg hpl]
        have hle : cellsP ds + d.places ≤ 1000 := by
          unfold full at hf
          rw [if_neg hpl] at hf
          have := of_decide_eq_false hf.symm
          omega
        rw [show (nu ds d).kind = 2 by rw [hnu]]
        refine BKeqI (a := 2) (b := 1) rfl rfl (fun q => absurd q (by decide)) (fun _ => condF ?_)
        have h9 : ∀ (KK : Exit → Sl → World → Prop), (∀ (ρ2 : Sl) (w6 : World) (x' : Value), ρ2 0 = pt t → ρ2 3 = pt b3 → ρ2 5 = pt b5 → Raw w6 base t m nv x' (vars (ds ++ [d])) (cellsP (ds ++ [d])) (ds.map fun d => .string d.name) ((arrs (ds ++ [d])).map (.int .i64)) l c → w6.heap[b3]? = some (.cells d.cells.toArray 40 (0, 0)) → w6.heap[b5]? = some (.cells (nu ds d).cells.toArray 37 (0, 0)) → Mod (Own w base) w w6 → KK .normal ρ2 w6) →
            ∀ (ρ9 : Sl), ρ9 0 = pt t → ρ9 3 = pt b3 → ρ9 5 = pt b5 → W fn_ Tryd.prog 101 scope_Table_declare_R9 (seqK (sx fn_ Tryd.prog 101 scope_Table_declare_R10 KK) KK) ρ9 w4 := by
          intro KK kN ρ9 q0 q3 q5
          refine scope_Table_declare_R9_held (D := []) (fun w' => w'.heap[b3]? = some (.cells d.cells.toArray 40 (0, 0)) ∧ w'.heap[b5]? = some (.cells (nu ds d).cells.toArray 37 (0, 0))) ⟨hb4, hb5⟩ ?_
          unfold scope_Table_declare_R9_H
          have hRd := hR4.mod ((Mod.refl none_ w4).drawn (w4.drawn + 1))
          have hbd : ({ w4 with drawn := w4.drawn + 1 } : World).heap[b3]? = some (.cells d.cells.toArray 40 (0, 0)) := hb4
          have hbd5 : ({ w4 with drawn := w4.drawn + 1 } : World).heap[b5]? = some (.cells (nu ds d).cells.toArray 37 (0, 0)) := hb5
          have hmd : Mod (Own w base) w { w4 with drawn := w4.drawn + 1 } := hm4.drawn _
          generalize ({ w4 with drawn := w4.drawn + 1 } : World) = wd at hRd hbd hbd5 hmd ⊢
          have e1 : (vars (ds ++ [d]) : Int) = (vars ds : Int) := by rw [vars_snoc, hnotV hpl]; simp
          have e2 : cellsP (ds ++ [d]) = cellsP ds + d.places := by rw [cellsP_snoc]
          have e3 : (arrs (ds ++ [d])).map (.int .i64) = (arrs ds).map (Value.int .i64) ++ [.int .i64 d.places] := by rw [arrs_snoc, hnotV hpl]; simp
          have hav5 : av.ownBlock ≠ some b5 := owns_ne_blk hRd.oa hbd5 (by decide)
          have hend : ∀ (ρ2 : Sl) (x' : Value) (w5 : World), ρ2 0 = pt t → ρ2 3 = pt b3 → ρ2 5 = pt b5 → Raw w5 base t m nv x' (vars ds) (cellsP ds) (ds.map fun d => .string d.name) ((arrs ds).map (Value.int .i64) ++ [.int .i64 d.places]) l c → w5.heap[b3]? = some (.cells d.cells.toArray 40 (0, 0)) → w5.heap[b5]? = some (.cells (nu ds d).cells.toArray 37 (0, 0)) → Mod (Own w base) w w5 →
              sx fn_ Tryd.prog 101 scope_Table_declare_R10 KK ρ2 w5 := by
            intro ρ2 x' w5 q0 q3 q5 hR5 hb53 hb55 hm5
            rw [R10_W]
            refine scope_Table_declare_R10_held (D := []) (fun w' => w'.heap[b3]? = some (.cells d.cells.toArray 40 (0, 0))) hb53 ?_
            unfold scope_Table_declare_R10_H
            have hRd := hR5.mod ((Mod.refl none_ w5).drawn (w5.drawn + 1))
            have hbd : ({ w5 with drawn := w5.drawn + 1 } : World).heap[b3]? = some (.cells d.cells.toArray 40 (0, 0)) := hb53
            have hbd5 : ({ w5 with drawn := w5.drawn + 1 } : World).heap[b5]? = some (.cells (nu ds d).cells.toArray 37 (0, 0)) := hb55
            have hmd : Mod (Own w base) w { w5 with drawn := w5.drawn + 1 } := hm5.drawn _
            generalize ({ w5 with drawn := w5.drawn + 1 } : World) = wd at hRd hbd hbd5 hmd ⊢
            rw [q0, q3]
            refine HN_ptr (HV_of (fun w' _ => run_fo (off := 4) (by kernel_rfl) _ w') (HV_of (fun w' _ => run_fo (off := 1) (by kernel_rfl) _ w') (HV_of (fun w' hw => run_ld1 uI rfl (v := .int .i64 d.places) (by rw [add_pl, cell_blk hw]; rfl)) ?_)))
            refine ld1 (v := .int .i64 (cellsP ds)) uI rfl (by rw [add_pl]; exact hfld2 _ _ _ _ _ _ _ _ _ hRd 4 _ rfl) ⟨hbd, ?_⟩
            refine HB_of (v := .int .i64 (cellsP ds + d.places)) (fun _ => rfl) (fun w => by have := wrap_i (n := cellsP ds + d.places) (by omega) (by omega); simp [go_sem, this]) ?_
            refine HN_ptr (HV_of (fun w' _ => run_fo (off := 4) (by kernel_rfl) _ w') ?_)
            rw [add_pl]
            refine stC (b := t) (o := 0 + 4) rfl (by kernel_rfl) rfl hRd.bt (by simp) fun w6 hb6 hm6 _ => ?_
            refine ⟨hm6.blk hbd fun q => hn3 q.symm, ?_⟩
            have hR6 := hRd.setT (nv' := nv) (av' := x') (vs' := (vars ds : Int)) (cl' := cellsP ds + d.places) hm6 hb6 rfl rfl
            refine kN _ w6 x' ?_ ?_ ?_ ?_ (hm6.blk hbd fun q => hn3 q.symm) (hm6.blk hbd5 fun q => hn5 q.symm) (hmd.then hm6 fun i _ q => by rw [q]; exact hOt)
            · exact q0
            · exact q3
            · exact q5
            · rw [e1, e2, e3]; exact hR6
          have hnb : av.ownBlock ≠ some b3 := owns_ne_blk hRd.oa hbd (by decide)
          have keep : ∀ w6, Mod none_ wd w6 → ∀ w', Mod (fun i => some i = av.ownBlock ∨ i = t) w6 w' → w'.heap[b3]? = some (.cells d.cells.toArray 40 (0, 0)) ∧ w'.heap[b5]? = some (.cells (nu ds d).cells.toArray 37 (0, 0)) := fun w6 h6 w' h => ⟨h.blk (h6.blk hbd id) (by rintro (q | q); exact hnb q.symm; exact hn3 q.symm), h.blk (h6.blk hbd5 id) (by rintro (q | q); exact hav5 q.symm; exact hn5 q.symm)⟩
          rw [q0, q3]
          refine HN_ptr (HV_of (fun w' _ => run_fo (off := 3) (by kernel_rfl) _ w') (HV_of (fun w' _ => run_fo (off := 1) (by kernel_rfl) _ w') (HV_of (fun w' hw => run_ld1 uI rfl (v := .int .i64 d.places) (by rw [add_pl, cell_blk hw.1]; rfl)) ⟨?_, ?_⟩)))
          · refine ld1 (v := av) uIs rfl (by rw [add_pl]; exact hfld2 _ _ _ _ _ _ _ _ _ hRd 3 _ rfl) ⟨⟨hbd, hbd5⟩, ?_⟩
            refine bs_k (cs := #[.int .i64 d.places]) (by kernel_rfl) fun w6 hb6 hm6 hz6 => ⟨⟨hm6.blk hbd id, hm6.blk hbd5 id⟩, ?_⟩
            refine app_arrs (hRd.mod hm6) (by simpa using reads_blk (size := 1) (n := 1) hb6 rfl) rfl (by have := arrs_le ds; rw [List.length_map]; omega) (keep w6 hm6) fun x1 x2 v' w' hRe hS hme => ?_
            rw [sq_n]
            refine hend _ v' w' ?_ ?_ ?_ hRe hS.1 hS.2 (hmd.trans ((hm6.mono fun _ _ q => q.elim).trans (hme.mono fun i _ q => q.elim (hOa i) fun e => by rw [e]; exact hOt)))
            · exact q0
            · exact q3
            · exact q5
          · refine bs_k (cs := #[.int .i64 d.places]) (by kernel_rfl) fun w6 hb6 hm6 hz6 => ⟨⟨hm6.blk hbd id, hm6.blk hbd5 id⟩, ?_⟩
            refine ld1 (v := av) uIs rfl (by rw [add_pl]; exact hfld2 _ _ _ _ _ _ _ _ _ (hRd.mod hm6) 3 _ rfl) ⟨⟨hm6.blk hbd id, hm6.blk hbd5 id⟩, ?_⟩
            refine app_arrs (hRd.mod hm6) (by simpa using reads_blk (size := 1) (n := 1) hb6 rfl) rfl (by have := arrs_le ds; rw [List.length_map]; omega) (keep w6 hm6) fun x1 x2 v' w' hRe hS hme => ?_
            rw [sq_n]
            refine hend _ v' w' ?_ ?_ ?_ hRe hS.1 hS.2 (hmd.trans ((hm6.mono fun _ _ q => q.elim).trans (hme.mono fun i _ q => q.elim (hOa i) fun e => by rw [e]; exact hOt)))
            · exact q0
            · exact q3
            · exact q5
        refine h9 _ (fun ρ2 w6 x' q0 q3 q5 hR6 h3 h5 hm6 => ?_) _ ?_ ?_ ?_
        · rw [bk_n, sq_n]
          exact r5 _ w6 x' b5 hR6 h3 h5 hm6 hf.symm q0 q3 q5
        · exact q0
        · exact q3
        · exact q5
  have kv : ∀ (q : d.places = 0), nu ds d = ⟨1, vars ds, 0, 0⟩ := fun q => by unfold nu; rw [if_pos q]
  have ka : ∀ (q : d.places ≠ 0), nu ds d = ⟨2, (arrs ds).length, cellsP ds, d.places⟩ := fun q => by unfold nu; rw [if_neg q]
  have r3 : ∀ (ρ' : Sl) (w4 : World) (b5 : Nat), Raw w4 base t m nv av (vars ds) (cellsP ds) (ds.map fun d => .string d.name) ((arrs ds).map (.int .i64)) l c → w4.heap[b3]? = some (.cells d.cells.toArray 40 (0, 0)) → w4.heap[b5]? = some (.cells (nu ds d).cells.toArray 37 (0, 0)) → Mod (Own w base) w w4 → ρ' 0 = pt t → ρ' 3 = pt b3 → ρ' 5 = pt b5 →
      sx fn_ Tryd.prog 101 scope_Table_declare_R3 (retK Tryd.prog [ResultVar.tmp 4] fun v w' => v = .int .i64 (if full ds d then 4 else 0) ∧ ((if full ds d then (4 : Int) else 0) = 0 → TbAt w' base t (ds ++ [d])) ∧ Mod (Own w base) w w') ρ' w4 := by
    intro ρ' w4 b5 hR4 hb4 hb5 hm4 q0 q3 q5
    rw [scope_Table_declare_R3_eq]
    unfold scope_Table_declare_R3_F
    have g0 : FAt Tryd.prog w4 37 0 ⟨b5, 0, none⟩ 5 (.int .u8 (nu ds d).kind) := FAt.mk' (off := 0) (by kernel_rfl) uU8 rfl (by rw [add_pl, cell_blk hb5]; rfl)
    have g2 : FAt Tryd.prog w4 37 2 ⟨b5, 0, none⟩ 3 (.int .i64 (nu ds d).base) := FAt.mk' (off := 2) (by kernel_rfl) uI rfl (by rw [add_pl, cell_blk hb5]; rfl)
    have g3 : FAt Tryd.prog w4 37 3 ⟨b5, 0, none⟩ 3 (.int .i64 (nu ds d).places) := FAt.mk' (off := 3) (by kernel_rfl) uI rfl (by rw [add_pl, cell_blk hb5]; rfl)
    have gv : FAt Tryd.prog w4 71 2 ⟨t, 0, none⟩ 3 (.int .i64 (vars ds)) := FAt.mk' (off := 2) (by kernel_rfl) uI rfl (by rw [add_pl]; exact hfld2 _ _ _ _ _ _ _ _ _ hR4 2 _ rfl)
    refine g0.vs q5 fun x56 => ?_
    by_cases hpl : d.places = 0
    · rw [show (nu ds d).kind = 1 by rw [kv hpl]]
      refine BKeqI (a := 1) (b := 1) rfl rfl (fun _ => ?_) (fun q => absurd rfl q)
      rw [q0]
      simp only [CondK_bool, MG_u, NG_u, VG_u, UG_u, PG_u, BG_u, CG_u, IG_u, MG_b, NG_b, VG_b, UG_b, PG_b, BG_b, CG_b, IG_b, PK_bool, NK_ptr, not_ok, reduceCtorEq, if_true, if_false, Bool.true_eq_false, Bool.false_eq_true, Bool.not_true, Bool.not_false]
      refine gv.vk' fun x62 => ?_
      have hfull : full ds d = decide (vars ds = 64) := by unfold full; rw [if_pos hpl]
      refine BKeqI (a := vars ds) (b := 64) rfl rfl (fun q => ?_) (fun q => ?_)
      · have hq : vars ds = 64 := by omega
        simp only [CondK_bool, MG_u, NG_u, VG_u, UG_u, PG_u, BG_u, CG_u, IG_u, MG_b, NG_b, VG_b, UG_b, PG_b, BG_b, CG_b, IG_b, PK_bool, NK_ptr, not_ok, reduceCtorEq, if_true, if_false, Bool.true_eq_false, Bool.false_eq_true, Bool.not_true, Bool.not_false]
        refine r6 _ w4 b5 true hR4 hb4 hb5 hm4 (by rw [hfull, decide_eq_true hq]) rfl ?_ ?_ ?_
        · exact q0
        · exact q3
        · exact q5
      · have hq : vars ds ≠ 64 := by omega
        simp only [CondK_bool, MG_u, NG_u, VG_u, UG_u, PG_u, BG_u, CG_u, IG_u, MG_b, NG_b, VG_b, UG_b, PG_b, BG_b, CG_b, IG_b, PK_bool, NK_ptr, not_ok, reduceCtorEq, if_true, if_false, Bool.true_eq_false, Bool.false_eq_true, Bool.not_true, Bool.not_false]
        refine g2.vs q5 fun x66 => g3.vs q5 fun x68 => ?_
        rw [show (nu ds d).base = 0 by rw [kv hpl], show (nu ds d).places = 0 by rw [kv hpl]]
        refine BKadd (a := 0) (b := 0) rfl rfl (by decide) (by decide) ?_
        refine BKgtr (a := 0 + 0) (b := 1000) rfl rfl ?_
        refine r6 _ w4 b5 false hR4 hb4 hb5 hm4 (by rw [hfull, decide_eq_false hq]) rfl ?_ ?_ ?_
        · exact q0
        · exact q3
        · exact q5
    · rw [show (nu ds d).kind = 2 by rw [ka hpl]]
      refine BKeqI (a := 2) (b := 1) rfl rfl (fun q => absurd q (by decide)) (fun _ => ?_)
      simp only [CondK_bool, MG_u, NG_u, VG_u, UG_u, PG_u, BG_u, CG_u, IG_u, MG_b, NG_b, VG_b, UG_b, PG_b, BG_b, CG_b, IG_b, PK_bool, NK_ptr, not_ok, reduceCtorEq, if_true, if_false, Bool.true_eq_false, Bool.false_eq_true, Bool.not_true, Bool.not_false]
      have hfull : full ds d = decide (1000 < cellsP ds + d.places) := by unfold full; rw [if_neg hpl]
      refine g2.vs q5 fun x66 => g3.vs q5 fun x68 => ?_
      rw [show (nu ds d).base = cellsP ds by rw [ka hpl], show (nu ds d).places = d.places by rw [ka hpl]]
      refine BKadd (a := cellsP ds) (b := d.places) rfl rfl (by omega) (by omega) ?_
      refine BKgtr (a := cellsP ds + d.places) (b := 1000) rfl rfl ?_
      refine r6 _ w4 b5 (decide (1000 < cellsP ds + d.places)) hR4 hb4 hb5 hm4 hfull.symm rfl ?_ ?_ ?_
      · exact q0
      · exact q3
      · exact q5
  have r2 : ∀ (ρ' : Sl), ρ' 0 = pt t → ρ' 3 = pt b3 →
      sx fn_ Tryd.prog 101 scope_Table_declare_R2 (retK Tryd.prog [ResultVar.tmp 4] fun v w' => v = .int .i64 (if full ds d then 4 else 0) ∧ ((if full ds d then (4 : Int) else 0) = 0 → TbAt w' base t (ds ++ [d])) ∧ Mod (Own w base) w w') ρ' w2 := by
    intro ρ' q0 q3
    rw [scope_Table_declare_R2_eq]
    unfold scope_Table_declare_R2_F
    have gv : FAt Tryd.prog w2 71 2 ⟨t, 0, none⟩ 3 (.int .i64 (vars ds)) := FAt.mk' (off := 2) (by kernel_rfl) uI rfl (by rw [add_pl]; exact hfld2 _ _ _ _ _ _ _ _ _ hR2 2 _ rfl)
    refine NKs q0 ?_
    refine gv.vk' fun x17 => ?_
    rw [build_ok (bEnt1 _)]
    refine lcl_k (cs := (En.mk 1 (vars ds) 0 0).cells.toArray) zEnt _ iEnt rfl (en_one _) fun w3 hb3' hm3 hz3 => ?_
    have hR3 := hR2.mod hm3
    have hb23 := hm3.blk hb2 id
    have hm03 := hm02.trans hm3
    have hlt5 : b3 < w2.heap.size := X.blk_lt hb2
    generalize w2.heap.size = b5 at *
    have gp : FAt Tryd.prog w3 40 1 ⟨b3, 0, none⟩ 3 (.int .i64 d.places) := FAt.mk' (off := 1) (by kernel_rfl) uI rfl (by rw [add_pl, cell_blk hb23]; rfl)
    refine gp.vs q3 fun x20 => ?_
    refine BKgtr (a := d.places) (b := 0) rfl rfl ?_
    refine caseC (fun hpp => ?_) (fun hpp => ?_)
    · have hpl : d.places ≠ 0 := by have := of_decide_eq_true hpp; omega
      have h4 : ∀ (KK : Exit → Sl → World → Prop), (∀ (ρ5 : Sl) (w5 : World), ρ5 0 = pt t → ρ5 3 = pt b3 → ρ5 5 = pt b5 → Raw w5 base t m nv av (vars ds) (cellsP ds) (ds.map fun d => .string d.name) ((arrs ds).map (.int .i64)) l c → w5.heap[b3]? = some (.cells d.cells.toArray 40 (0, 0)) → w5.heap[b5]? = some (.cells (nu ds d).cells.toArray 37 (0, 0)) → Mod (Own w base) w w5 → KK .normal ρ5 w5) →
          ∀ (ρ4 : Sl), ρ4 0 = pt t → ρ4 3 = pt b3 → ρ4 5 = pt b5 → W fn_ Tryd.prog 101 scope_Table_declare_R4 KK ρ4 w3 := by
        intro KK kN ρ4 q0 q3 q5
        refine scope_Table_declare_R4_tail (D := []) ?_
        unfold scope_Table_declare_R4_T
        have hRd := hR3.mod ((Mod.refl none_ w3).drawn (w3.drawn + 1))
        have hbd : ({ w3 with drawn := w3.drawn + 1 } : World).heap[b3]? = some (.cells d.cells.toArray 40 (0, 0)) := hb23
        have hbd5 : ({ w3 with drawn := w3.drawn + 1 } : World).heap[b5]? = some (.cells (En.mk 1 (vars ds) 0 0).cells.toArray 37 (0, 0)) := hb3'
        have hmd : Mod none_ w { w3 with drawn := w3.drawn + 1 } := hm03.drawn _
        generalize ({ w3 with drawn := w3.drawn + 1 } : World) = wd at hRd hbd hbd5 hmd ⊢
        obtain ⟨Aa, ca, hav, _⟩ := reads_cap (reads_of_owns hRd.oa)
        dsimp only
        rw [q0, q3]
        refine QN_ptr (a := ⟨t, 0, none⟩) ?_
        refine Qfo (off := 3) (a := ⟨t, 0, none⟩) (by kernel_rfl) (Qld uIs rfl (v := .slice Aa ((arrs ds).map (Value.int .i64)).length ca) (fun w' hw => by rw [hw, add_pl, ← hav]; exact hfld2 _ _ _ _ _ _ _ _ _ hRd 3 _ rfl) ?_)
        refine QI_len uIs _ _ _ _ ?_
        refine QN_ptr (a := ⟨t, 0, none⟩) ?_
        refine Qfo (off := 4) (a := ⟨t, 0, none⟩) (by kernel_rfl) (Qld uI rfl (v := .int .i64 (cellsP ds)) (fun w' hw => by rw [hw, add_pl]; exact hfld2 _ _ _ _ _ _ _ _ _ hRd 4 _ rfl) ?_)
        refine Qfo (off := 1) (a := ⟨b3, 0, none⟩) (by kernel_rfl) (Qld uI rfl (v := .int .i64 d.places) (fun w' hw => by rw [hw, add_pl, cell_blk hbd]; rfl) ?_)
        rw [build_ok (bEnt2 _ _ _), List.length_map]
        refine stS (b := b5) (old := (En.mk 1 (vars ds) 0 0).cells.toArray) (cs := (nu ds d).cells.toArray) ?_ ?_ iEnt rfl (en_one _) hbd5 fun w5 hb55 hm5 _ => ?_
        · exact q5
        · rw [ka hpl]
        have hn5 : b5 ≠ t ∧ b5 ≠ b3 ∧ b5 ≠ m := by
          refine ⟨?_, ?_, ?_⟩
          · rintro rfl
            have := hRd.bt.symm.trans hbd5
            injection this with this
            injection this with _ this
            exact absurd this (by decide)
          · rintro rfl
            have := hbd.symm.trans hbd5
            injection this with this
            injection this with _ this
            exact absurd this (by decide)
          · rintro rfl
            have := hRd.bm.symm.trans hbd5
            cases this
        have hR5 : Raw w5 base t m nv av (vars ds) (cellsP ds) (ds.map fun d => .string d.name) ((arrs ds).map (.int .i64)) l c :=
          ⟨hm5.blk hRd.bt hn5.1.symm, hRd.bm.mod hm5 hn5.2.2.symm, hRd.lt, hRd.lm, owns_mod hRd.on hm5 (fun k hk q => owns_ne_blk hRd.on hbd5 (by decide) (q ▸ hk)), owns_mod hRd.oa hm5 (fun k hk q => owns_ne_blk hRd.oa hbd5 (by decide) (q ▸ hk))⟩
        refine kN _ w5 ?_ ?_ ?_ hR5 (hm5.blk hbd hn5.2.1.symm) hb55 ((up1 hmd).then hm5 fun i _ q => by omega)
        · exact q0
        · exact q3
        · exact q5
      refine h4 _ (fun ρ5 w5 a b c' h1 h2 h3 h4 => ?_) _ ?_ ?_ ?_
      · rw [sq_n]
        exact r3 _ w5 b5 h1 h2 h3 h4 a b c'
      · exact q0
      · exact q3
      · rfl
    · have hpl : d.places = 0 := by have := of_decide_eq_false hpp; omega
      refine r3 _ w3 b5 hR3 hb23 (by rw [kv hpl]; exact hb3') (up1 hm03) ?_ ?_ rfl
      · exact q0
      · exact q3
  rw [sq_n]
  exact r2 _ rfl rfl
end Go.Proofs.YtbnbcimjapiicaaDoor.Tr
