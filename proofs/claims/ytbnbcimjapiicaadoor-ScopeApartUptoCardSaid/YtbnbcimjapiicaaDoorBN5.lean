/- Several texts of this repo, one behind the other, without what is not used here. -/
import Derived.Lib.SliceRun
import Derived.Test.YtbnbcimjapiicaaDoorProg
import Derived.Laws.MakeOwn
import Derived.Laws.OwnMore
import Derived.Test.YtbnbcimjapiicaaDoorRows
import Derived.Test.YtbnbcimjapiicaaDoorBN4
set_option linter.unusedVariables false
set_option linter.unusedSimpArgs false
set_option maxRecDepth 4000
namespace Go.Proofs.YtbnbcimjapiicaaDoor.Tr
open Go Go.X Go.RowKit Go.Proofs.YtbnbcimjapiicaaDoor.XG Go.Proofs.YtbnbcimjapiicaaDoor.XK
theorem findF_yes {k : Key} : ∀ (l pre r : List De), (∃ a ∈ l, a.key = k) → (findF pre l k).kind ≠ 0 ∧ findF pre (l ++ r) k = findF pre l k
  | [], pre, r, h => by obtain ⟨a, ha, _⟩ := h; cases ha
  | d :: l, pre, r, h => by
    rw [List.cons_append, findF, findF]
    by_cases q : d.key = k
    · rw [if_pos q, if_pos q]; exact ⟨nu_kind _ _, rfl⟩
    · rw [if_neg q, if_neg q]
      refine findF_yes l _ r ?_
      obtain ⟨a, ha, hk⟩ := h
      rcases List.mem_cons.1 ha with rfl | ha
      · exact absurd hk q
      · exact ⟨a, ha, hk⟩
theorem findP_none {l : List De} {k : Key} (h : ∀ a ∈ l, a.key ≠ k) : findP l k = zEn := by
  have := findF_no k l [] [] h
  rw [List.append_nil] at this
  unfold findP
  rw [this]; rfl
theorem findP_snoc {ds : List De} {d : De} (h : (findP ds d.key).kind = 0) (k : Key) : findP (ds ++ [d]) k = if k = d.key then nu ds d else findP ds k := by
  by_cases q : ∃ a ∈ ds, a.key = k
  · obtain ⟨h1, h2⟩ := findF_yes ds [] [d] q
    have hne : k ≠ d.key := by rintro rfl; exact h1 h
    rw [if_neg hne]; exact h2
  · have q' : ∀ a ∈ ds, a.key ≠ k := fun a ha e => q ⟨a, ha, e⟩
    have e1 : findP (ds ++ [d]) k = findF ds [d] k := by unfold findP; rw [findF_no k ds [] [d] q', List.nil_append]
    rw [e1, findF]
    by_cases e : d.key = k
    · rw [if_pos e, if_pos e.symm]
    · rw [if_neg e, if_neg (fun x => e x.symm), findP_none q']; rfl
theorem findP_zero {ds : List De} {k : Key} (h : (findP ds k).kind = 0) : findP ds k = zEn := by
  by_cases q : ∃ a ∈ ds, a.key = k
  · exact absurd h (findF_yes ds [] [] q).1
  · exact findP_none fun a ha e => q ⟨a, ha, e⟩
theorem findE_app {k' k : Key} {v : Value} {c : Nat} : ∀ (l : List (Ent Key)) (n : Nat), findE k' (l ++ [⟨k, v, c⟩]) n = match findE k' l n with | some p => some p | none => if k' = k then some (n + l.length, v) else none
  | [], n => by simp [findE]
  | e :: r, n => by
    rw [List.cons_append, findE, findE]
    by_cases h : k' = e.k
    · simp [h]
    · rw [if_neg h, if_neg h, findE_app r (n + 1)]
      cases findE k' r (n + 1) with
      | some p => rfl
      | none => simp only [List.length_cons]; rw [show n + 1 + r.length = n + (r.length + 1) by omega]
theorem findE_ge {k : Key} {u : Value} : ∀ (l : List (Ent Key)) (n i : Nat), findE k l n = some (i, u) → n ≤ i
  | [], n, i, h => by simp [findE] at h
  | e :: r, n, i, h => by
    rw [findE] at h
    split at h
    · cases h; exact Nat.le_refl _
    · have := findE_ge r (n + 1) i h; omega
theorem findE_mod {k' k : Key} {v u : Value} : ∀ (l : List (Ent Key)) (n i : Nat), findE k l n = some (n + i, u) → findE k' (l.modify i fun e => ⟨e.k, v, e.b⟩) n = if k' = k then some (n + i, v) else findE k' l n
  | [], n, i, h => by simp [findE] at h
  | e :: r, n, 0, h => by
    rw [findE] at h
    split at h
    · rename_i hk
      subst hk
      show findE k' (⟨e.k, v, e.b⟩ :: r) n = _
      rw [findE, findE]
      by_cases q : k' = e.k <;> simp [q]
    · have := findE_ge _ _ _ h; omega
  | e :: r, n, i + 1, h => by
    rw [findE] at h
    split at h
    · simp at h
    · rename_i hk
      show findE k' (e :: r.modify i fun e => ⟨e.k, v, e.b⟩) n = _
      rw [findE, findE, findE_mod (k' := k') r (n + 1) i (by rw [show n + 1 + i = n + (i + 1) by omega]; exact h)]
      by_cases q : k' = e.k
      · rw [if_pos q, if_pos q, if_neg (by rintro rfl; exact hk q)]
      · rw [if_neg q, if_neg q, show n + 1 + i = n + (i + 1) by omega]
theorem valE_put (k' k : Key) (v : Value) (c : Nat) (l : List (Ent Key)) : valE k' (putE k v c l) = if k' = k then v else valE k' l := by
  unfold valE putE
  cases h : findE k l 0 with
  | none =>
    dsimp only
    rw [findE_app]
    by_cases q : k' = k
    · subst q; rw [h]; simp
    · cases findE k' l 0 <;> simp [q]
  | some p =>
    obtain ⟨i, u⟩ := p
    dsimp only
    rw [findE_mod l 0 i (by simpa using h)]
    by_cases q : k' = k <;> simp [q]
/-- A table in memory, in parts. -/
structure Raw (w : World) (base t m : Nat) (nv av : Value) (vs cl : Int) (ns es : List Value) (l : List (Ent Key)) (c : Nat) : Prop where
  bt : w.heap[t]? = some (.cells #[nv, .map (some m), .int .i64 vs, av, .int .i64 cl] 71 (0, 0))
  bm : IsMap encK w m l c
  lt : base ≤ t
  lm : base ≤ m
  on : w.ownsRow base 9 1 nv ns.length ns
  oa : w.ownsRow base 3 1 av es.length es
section
variable {w w' : World} {base t m : Nat} {nv av : Value} {vs cl : Int} {ns es : List Value} {l : List (Ent Key)} {c : Nat}
theorem Raw.mod (h : Raw w base t m nv av vs cl ns es l c) (hm : Mod none_ w w') : Raw w' base t m nv av vs cl ns es l c :=
  ⟨hm.blk h.bt id, h.bm.mod hm id, h.lt, h.lm, owns_mod h.on hm (fun _ _ => id), owns_mod h.oa hm (fun _ _ => id)⟩
theorem Raw.tm (h : Raw w base t m nv av vs cl ns es l c) : m ≠ t := by
  rintro rfl
  have := h.bm.symm.trans h.bt
  cases this
theorem Raw.nt (h : Raw w base t m nv av vs cl ns es l c) : nv.ownBlock ≠ some t := owns_ne_blk h.on h.bt (by decide)
theorem Raw.at (h : Raw w base t m nv av vs cl ns es l c) : av.ownBlock ≠ some t := owns_ne_blk h.oa h.bt (by decide)
theorem Raw.nm (h : Raw w base t m nv av vs cl ns es l c) : nv.ownBlock ≠ some m := fun q => by
  obtain ⟨cur, hc⟩ := owns_blk h.on q
  have := h.bm.symm.trans hc
  cases this
theorem Raw.am (h : Raw w base t m nv av vs cl ns es l c) : av.ownBlock ≠ some m := fun q => by
  obtain ⟨cur, hc⟩ := owns_blk h.oa q
  have := h.bm.symm.trans hc
  cases this
/-- The table's own block stored over. -/
theorem Raw.setT (h : Raw w base t m nv av vs cl ns es l c) (hm : Mod (fun i => i = t) w w') {nv' av' : Value} {vs' cl' : Int} (hb : w'.heap[t]? = some (.cells #[nv', .map (some m), .int .i64 vs', av', .int .i64 cl'] 71 (0, 0)))
    (hn : nv' = nv) (ha : av' = av) : Raw w' base t m nv' av' vs' cl' ns es l c := by
  subst hn ha
  exact ⟨hb, h.bm.mod hm h.tm, h.lt, h.lm, owns_mod h.on hm (fun k hk q => h.nt (q ▸ hk)), owns_mod h.oa hm (fun k hk q => h.at (q ▸ hk))⟩
theorem Raw.fld (h : Raw w base t m nv av vs cl ns es l c) : t < w.heap.size := X.blk_lt h.bt
end
end Go.Proofs.YtbnbcimjapiicaaDoor.Tr
set_option linter.unusedVariables false
set_option linter.unusedSimpArgs false
set_option maxRecDepth 4000
namespace Go.Proofs.YtbnbcimjapiicaaDoor.Tr
open Go Go.X Go.RowKit Go.Proofs.YtbnbcimjapiicaaDoor.XG Go.Proofs.YtbnbcimjapiicaaDoor.XK
def full (ds : List De) (d : De) : Bool := if d.places = 0 then decide (vars ds = 64) else decide (1000 < cellsP ds + d.places)
/-- What a declaration more is told. -/
def dstep (ds : List De) (d : De) : Int := if (findP ds d.key).kind ≠ 0 then 40 else if full ds d then 4 else 0
theorem look_run {w : World} {b : Nat} {l : List (Ent Key)} {c : Nat} (h : IsMap encK w b l c) (k : ByteArray) : (Instr.lookup 69 (.map (some b)) (.string k) false).run Tryd.prog w = .ok (valE k.data.toList l) w := by
  have hr := run_look KT uMap h zEnt k.data.toList false
  rw [encK_of] at hr
  rw [hr]
  unfold valE
  cases findE k.data.toList l 0 with
  | none => rfl
  | some p => obtain ⟨i, v⟩ := p; rfl
theorem build_run {t : TypeId} {parts : List (Nat × Value)} {cs : Array Value} {w : World} (h : Tryd.prog.built t parts = some cs) : (Instr.build t parts.toArray).run Tryd.prog w = .ok (.agg cs) w :=
  run_build (P := Tryd.prog) w t parts.toArray cs (by simpa using h)
theorem uIs : Tryd.prog.underlying 50 = some (.slice 3) := by kernel_rfl
theorem eIs : elemOk Tryd.prog 50 3 1 8 = true := by kernel_rfl
theorem eSs : elemOk Tryd.prog 52 9 1 16 = true := by kernel_rfl
theorem owns_ge {w : World} {base : Nat} {e : TypeId} {size : Nat} {v : Value} {n : Nat} {xs : List Value} (h : w.ownsRow base e size v n xs) {g : Nat} (hg : v.ownBlock = some g) : base ≤ g := by
  obtain ⟨_, ⟨rfl, _⟩ | ⟨g', cap, cur, rfl, hb, _⟩⟩ := h
  · cases hg
  · have : g' = g := by simpa [Value.ownBlock] using hg
    omega
/-- One of the names more. -/
theorem app_names {w : World} {base t m : Nat} {nv av : Value} {vs cl : Int} {ns es : List Value} {l : List (Ent Key)} {c : Nat} {S : World → Prop} {N : Value → Value → Value → World → Prop} (hR : Raw w base t m nv av vs cl ns es l c) {x u : Value} (hx : reads w 1 x 1 [u]) (hu : u.oneCell' = true) (hlen : ns.length < 1099511627776)
    (hS : ∀ w', Mod (fun i => some i = nv.ownBlock ∨ i = t) w w' → S w')
    (hN : ∀ x1 x2 v' w', Raw w' base t m v' av vs cl (ns ++ [u]) es l c → S w' → Mod (fun i => some i = nv.ownBlock ∨ i = t) w w' → N x1 x2 v' w') :
    IK Tryd.prog .append #[52, 52] 52 [false, false] [nv, x] w fun v' w => S w ∧ (HK Tryd.prog S (nilCk (pt t)) fun x1 => HK Tryd.prog S (do pure (Next.value (← Instr.fieldAt 71 x1 0))) fun x2 => UK Tryd.prog (Instr.storeAt 52 x2 v') w fun _ w => S w ∧ N x1 x2 v' w) := by
  have ht := hR.fld
  refine ap_own eSs hR.on hx (by decide) (by simpa using hu) (by unfold maxLen; omega) (by omega) (Nat.le_of_lt (Nat.lt_of_le_of_lt hR.lt ht)) fun v' w2 h2 hm2 h4 => ?_
  have hbt2 := hm2.blk hR.bt (fun q => hR.nt q.symm)
  refine ⟨hS _ (hm2.mono fun _ _ q => Or.inl q), HN_ptr (HV_of (fun w' _ => run_fo (off := 0) (by kernel_rfl) _ w') ?_)⟩
  rw [add_pl]
  have h1 : v'.oneCell' = true := by obtain ⟨_, ⟨rfl, _⟩ | ⟨g, cap, cur, rfl, _⟩⟩ := h2 <;> rfl
  refine stC (b := t) (o := 0 + 0) rfl (by kernel_rfl) h1 hbt2 (by simp) fun w3 hb3' hm3 hz3 => ?_
  have hvt : v'.ownBlock ≠ some t := by
    rcases h4 with h4 | h4
    · rw [h4]; exact hR.nt
    · rw [h4]; intro q; injection q with q; omega
  have hm13 : Mod (fun i => some i = nv.ownBlock ∨ i = t) w w3 := (hm2.mono fun _ _ q => Or.inl q).then hm3 fun _ _ q => Or.inr q
  have hs3 := hS w3 hm13
  refine ⟨hs3, hN _ _ _ _ ?_ hs3 hm13⟩
  refine ⟨hb3', (hR.bm.mod hm2 fun q => hR.nm q.symm).mod hm3 hR.tm, hR.lt, hR.lm, ?_, ?_⟩
  · rw [List.length_append]; exact owns_mod h2 hm3 (fun k hk q => hvt (q ▸ hk))
  · exact owns_mod (owns_mod hR.oa hm2 (fun k hk q => owns_ne hR.oa hR.on (by decide) k hk q)) hm3 (fun k hk q => hR.at (q ▸ hk))
/-- One of the arrs more. -/
theorem app_arrs {w : World} {base t m : Nat} {nv av : Value} {vs cl : Int} {ns es : List Value} {l : List (Ent Key)} {c : Nat} {S : World → Prop} {N : Value → Value → Value → World → Prop} (hR : Raw w base t m nv av vs cl ns es l c) {x u : Value} (hx : reads w 1 x 1 [u]) (hu : u.oneCell' = true) (hlen : es.length < 1099511627776)
    (hS : ∀ w', Mod (fun i => some i = av.ownBlock ∨ i = t) w w' → S w')
    (hN : ∀ x1 x2 v' w', Raw w' base t m nv v' vs cl ns (es ++ [u]) l c → S w' → Mod (fun i => some i = av.ownBlock ∨ i = t) w w' → N x1 x2 v' w') :
    IK Tryd.prog .append #[50, 50] 50 [false, false] [av, x] w fun v' w => S w ∧ (HK Tryd.prog S (nilCk (pt t)) fun x1 => HK Tryd.prog S (do pure (Next.value (← Instr.fieldAt 71 x1 3))) fun x2 => UK Tryd.prog (Instr.storeAt 50 x2 v') w fun _ w => S w ∧ N x1 x2 v' w) := by
  have ht := hR.fld
  refine ap_own eIs hR.oa hx (by decide) (by simpa using hu) (by unfold maxLen; omega) (by omega) (Nat.le_of_lt (Nat.lt_of_le_of_lt hR.lt ht)) fun v' w2 h2 hm2 h4 => ?_
  have hbt2 := hm2.blk hR.bt (fun q => hR.at q.symm)
  refine ⟨hS _ (hm2.mono fun _ _ q => Or.inl q), HN_ptr (HV_of (fun w' _ => run_fo (off := 3) (by kernel_rfl) _ w') ?_)⟩
  rw [add_pl]
  have h1 : v'.oneCell' = true := by obtain ⟨_, ⟨rfl, _⟩ | ⟨g, cap, cur, rfl, _⟩⟩ := h2 <;> rfl
  refine stC (b := t) (o := 0 + 3) rfl (by kernel_rfl) h1 hbt2 (by simp) fun w3 hb3' hm3 hz3 => ?_
  have hvt : v'.ownBlock ≠ some t := by
    rcases h4 with h4 | h4
    · rw [h4]; exact hR.at
    · rw [h4]; intro q; injection q with q; omega
  have hm13 : Mod (fun i => some i = av.ownBlock ∨ i = t) w w3 := (hm2.mono fun _ _ q => Or.inl q).then hm3 fun _ _ q => Or.inr q
  have hs3 := hS w3 hm13
  refine ⟨hs3, hN _ _ _ _ ?_ hs3 hm13⟩
  refine ⟨hb3', (hR.bm.mod hm2 fun q => hR.am q.symm).mod hm3 hR.tm, hR.lt, hR.lm, ?_, ?_⟩
  · exact owns_mod (owns_mod hR.on hm2 (fun k hk q => owns_ne hR.on hR.oa (by decide) k hk q)) hm3 (fun k hk q => hR.nt (q ▸ hk))
  · rw [List.length_append]; exact owns_mod h2 hm3 (fun k hk q => hvt (q ▸ hk))
theorem TbAt.raw {w : World} {base t : Nat} {ds : List De} (h : TbAt w base t ds) : ∃ nv av m l c, Raw w base t m nv av (vars ds) (cellsP ds) (ds.map fun d => .string d.name) ((arrs ds).map (.int .i64)) l c ∧ ∀ k, valE k l = (findP ds k).v := by
  obtain ⟨nv, av, m, l, c, h1, h2, h3, h4, h5, h6, h7⟩ := h.at'
  exact ⟨nv, av, m, l, c, ⟨h1, h2, h4, h5, by rw [List.length_map]; exact h6, by rw [List.length_map]; exact h7⟩, h3⟩
theorem Raw.tb {w : World} {base t : Nat} {ds : List De} {nv av : Value} {m : Nat} {l : List (Ent Key)} {c : Nat} (h : Raw w base t m nv av (vars ds) (cellsP ds) (ds.map fun d => .string d.name) ((arrs ds).map (.int .i64)) l c) (hv : ∀ k, valE k l = (findP ds k).v) : TbAt w base t ds :=
  ⟨⟨nv, av, m, l, c, h.bt, h.bm, hv, h.lt, h.lm, by have := h.on; rw [List.length_map] at this; exact this, by have := h.oa; rw [List.length_map] at this; exact this⟩⟩
theorem NKs {P : Program} {w : World} {K : Value → World → Prop} {x : Value} {a : Addr} (hx : x = .pointer (some a)) (hk : K (.pointer (some a)) w) : NK P x w K := by rw [hx, NK_ptr]; exact hk
theorem R10_W (z : Go.X.At) (K : Exit → Sl → World → Prop) (ρ : Sl) (w : World) : sx z Tryd.prog 101 scope_Table_declare_R10 K ρ w = W z Tryd.prog 101 scope_Table_declare_R10 K ρ w := by kernel_rfl
/-- Blocks that a table may have for its own: no declaration's. -/
def Own (w : World) (base i : Nat) : Prop := base ≤ i ∧ ∀ cs fr, w.heap[i]? ≠ some (.cells cs 40 fr)
theorem declare_ok {w : World} {base t : Nat} {ds : List De} {d : De} (ht : TbAt w base t ds) (hD : Decls ds) (hl : ds.length < 1099511627776) (hv : vars ds ≤ 64) (hc : cellsP ds ≤ 1000) (hdm : d.may = true) :
    Rt Tryd.prog 37 #[pt t, .agg d.cells.toArray] w fun v w' => v = .int .i64 (dstep ds d) ∧ (dstep ds d = 0 → TbAt w' base t (ds ++ [d])) ∧ Mod (Own w base) w w' := by
  obtain ⟨nv, av, m, l, c, hR, hval⟩ := ht.raw
  have hOt : Own w base t := ⟨hR.lt, fun cs fr q => by
    have := hR.bt.symm.trans q
    injection this with this
    injection this with _ this
    exact absurd this (by decide)⟩
  have hOm : Own w base m := ⟨hR.lm, fun cs fr q => by have := hR.bm.symm.trans q; cases this⟩
  have hOn : ∀ i, some i = nv.ownBlock → Own w base i := fun i q => ⟨owns_ge hR.on q.symm, fun cs fr q2 => owns_ne_blk hR.on q2 (by decide) q.symm⟩
  have hOa : ∀ i, some i = av.ownBlock → Own w base i := fun i q => ⟨owns_ge hR.oa q.symm, fun cs fr q2 => owns_ne_blk hR.oa q2 (by decide) q.symm⟩
  have hc0 := (cellsP_le hD.may).1
  have hp := may_places hdm
  refine scope_Table_declare_calls ?_
  unfold scope_Table_declare_F
  refine box_k (cs := d.cells.toArray) rfl fun w1 hb1 hm1 hz1 => ?_
  have hR1 := hR.mod hm1
  have hbt : base ≤ t := hR.lt
  have hltw : t < w.heap.size := hR.fld
  generalize hb3 : w.heap.size = b3 at *
  refine scope_Table_declare_R0_quiet (D := []) (fun w' => Mod none_ w1 w') ((Mod.refl _ w1).drawn _) ?_
  unfold scope_Table_declare_R0_Q
  refine QN_ptr (a := ⟨t, 0, none⟩) ?_
  refine Qfo (off := 1) (a := ⟨t, 0, none⟩) (by kernel_rfl) (Qld uMp rfl (v := .map (some m)) (fun w' hw => by rw [add_pl, cell_blk (hR1.mod hw).bt]; rfl) ?_)
  refine Qfo (off := 0) (a := ⟨b3, 0, none⟩) (by kernel_rfl) (Qld uSt rfl (v := .string d.name) (fun w' hw => by rw [add_pl, cell_blk (hw.blk hb1 id)]; rfl) ?_)
  refine QV_of (fun w' hw => look_run (hR1.mod hw).bm d.name) ?_
  refine QV_of (fun w' hw => build_run bEnt0) ?_
  rw [hval]
  refine QB_of (v := .bool (!decide (findP ds d.name.data.toList = zEn))) (fun w => run_eqGuard_agg w .neq _ _ _ _ _ gEn) (fun w => rEnN _ _ w) ?_
  intro w2 hm2
  have hR2 := hR1.mod hm2
  have hb2 := hm2.blk hb1 id
  have hm02 := hm1.trans hm2
  have up1 : ∀ {w'}, Mod none_ w w' → Mod (Own w base) w w' := fun h => h.mono fun _ _ q => q.elim
  rw [sq_n, scope_Table_declare_R1_eq]
  unfold scope_Table_declare_R1_F
  refine caseC (fun hq => ?_) (fun hq => ?_)
  · have hk : (findP ds d.key).kind ≠ 0 := fun e => by rw [show d.name.data.toList = d.key from rfl, findP_zero e] at hq; simp at hq
    have hs : dstep ds d = 40 := by unfold dstep; rw [if_pos hk]
    rw [hs]
    exact ⟨rfl, fun q => by simp at q, up1 hm02⟩
  have hk : (findP ds d.key).kind = 0 := by
    have : findP ds d.name.data.toList = zEn := by simpa using hq
    rw [show d.key = d.name.data.toList from rfl, this]; rfl
  have hds : dstep ds d = if full ds d then 4 else 0 := by unfold dstep; rw [if_neg (by simp [hk])]
  rw [hds]
  clear hm1 hm2 hR1 hb1 hq hds
  have hfld2 : ∀ (w' : World) (nv av : Value) (vs cl : Int) (ns es : List Value) (l : List (Ent Key)) (c : Nat), Raw w' base t m nv av vs cl ns es l c → ∀ (j : Nat) (v : Value), (#[nv, .map (some m), .int .i64 vs, av, .int .i64 cl] : Array Value)[j]? = some v → w'.cell? ⟨t, 0 + j, none⟩ = some v := fun w' nv av vs cl ns es l c h j v hj => by
    rw [cell_blk h.bt, Nat.zero_add]; exact hj
  -- names, the end
  have r8 : ∀ (ρ' : Sl) (w5 : World) (av' : Value) (l' : List (Ent Key)) (c' : Nat), Raw w5 base t m nv av' (vars (ds ++ [d])) (cellsP (ds ++ [d])) (ds.map fun d => .string d.name) ((arrs (ds ++ [d])).map (.int .i64)) l' c' → w5.heap[b3]? = some (.cells d.cells.toArray 40 (0, 0)) → Mod (Own w base) w w5 → (∀ k, valE k l' = (findP (ds ++ [d]) k).v) → full ds d = false → ρ' 0 = pt t → ρ' 3 = pt b3 →
      sx fn_ Tryd.prog 101 scope_Table_declare_R8 (retK Tryd.prog [ResultVar.tmp 4] fun v w' => v = .int .i64 (if full ds d then 4 else 0) ∧ ((if full ds d then (4 : Int) else 0) = 0 → TbAt w' base t (ds ++ [d])) ∧ Mod (Own w base) w w') ρ' w5 := by
    intro ρ' w5 av' l' c' hR5 hb5 hm5 hval5 hfull q0 q3
    rw [hfull, show (if (false : Bool) = true then (4 : Int) else 0) = 0 from rfl]
    rw [scope_Table_declare_R8_eq]
    unfold scope_Table_declare_R8_F
    have hRd := hR5.mod ((Mod.refl none_ w5).drawn (w5.drawn + 1))
    have hbd : ({ w5 with drawn := w5.drawn + 1 } : World).heap[b3]? = some (.cells d.cells.toArray 40 (0, 0)) := hb5
    have hmd : Mod (Own w base) w { w5 with drawn := w5.drawn + 1 } := hm5.drawn _
    refine scope_Table_declare_R11_held (D := []) (fun w' => w'.heap[b3]? = some (.cells d.cells.toArray 40 (0, 0))) hb5 ?_
    unfold scope_Table_declare_R11_H
    generalize ({ w5 with drawn := w5.drawn + 1 } : World) = wd at hRd hbd hmd ⊢
    rw [q0, q3]
    have hend : ∀ (ρ2 : Sl) (x' : Value) (w' : World), Raw w' base t m x' av' (vars (ds ++ [d])) (cellsP (ds ++ [d])) ((ds.map fun d => .string d.name) ++ [.string d.name]) ((arrs (ds ++ [d])).map (.int .i64)) l' c' → Mod (Own w base) wd w' →
        seqK (sx fn_ Tryd.prog 101 scope_Table_declare_R12 (retK Tryd.prog [ResultVar.tmp 4] fun v w' => v = .int .i64 0 ∧ ((0 : Int) = 0 → TbAt w' base t (ds ++ [d])) ∧ Mod (Own w base) w w')) (retK Tryd.prog [ResultVar.tmp 4] fun v w' => v = .int .i64 0 ∧ ((0 : Int) = 0 → TbAt w' base t (ds ++ [d])) ∧ Mod (Own w base) w w') .normal ρ2 w' := by
      intro ρ2 x' w' hRe hme
      rw [sq_n, scope_Table_declare_R12_eq]
      unfold scope_Table_declare_R12_F
      have hRe' : Raw w' base t m x' av' (vars (ds ++ [d])) (cellsP (ds ++ [d])) ((ds ++ [d]).map fun d => .string d.name) ((arrs (ds ++ [d])).map (.int .i64)) l' c' := by rw [List.map_append]; exact hRe
      exact ⟨rfl, fun _ => hRe'.tb hval5, hmd.trans hme⟩
    have hn3 : t ≠ b3 := by omega
    have hnb : nv.ownBlock ≠ some b3 := owns_ne_blk hRd.on hbd (by decide)
    refine HN_ptr (HV_of (fun w' _ => run_fo (off := 0) (by kernel_rfl) _ w') (HV_of (fun w' _ => run_fo (off := 0) (by kernel_rfl) _ w') (HV_of (fun w' hw => run_ld1 uSt rfl (v := .string d.name) (by rw [add_pl, cell_blk hw]; rfl)) ⟨?_, ?_⟩)))
    · refine ld1 (v := nv) uSs rfl (by rw [add_pl]; exact hfld2 _ _ _ _ _ _ _ _ _ hRd 0 nv rfl) ⟨hbd, ?_⟩
      refine bs_k (cs := #[.string d.name]) (by kernel_rfl) fun w6 hb6 hm6 hz6 => ⟨hm6.blk hbd id, ?_⟩
      exact app_names (hRd.mod hm6) (by simpa using reads_blk (size := 1) (n := 1) hb6 rfl) rfl (by rw [List.length_map]; omega) (fun w' h => h.blk (hm6.blk hbd id) (by rintro (q | q); exact hnb q.symm; exact hn3 q.symm)) fun x1 x2 v' w' hRe hS hme => hend _ v' w' hRe ((hm6.mono fun _ _ q => q.elim).trans (hme.mono fun i _ q => q.elim (hOn i) fun e => by rw [e]; exact hOt))
    · refine bs_k (cs := #[.string d.name]) (by kernel_rfl) fun w6 hb6 hm6 hz6 => ⟨hm6.blk hbd id, ?_⟩
      refine ld1 (v := nv) uSs rfl (by rw [add_pl]; exact hfld2 _ _ _ _ _ _ _ _ _ (hRd.mod hm6) 0 nv rfl) ⟨hm6.blk hbd id, ?_⟩
      exact app_names (hRd.mod hm6) (by simpa using reads_blk (size := 1) (n := 1) hb6 rfl) rfl (by rw [List.length_map]; omega) (fun w' h => h.blk (hm6.blk hbd id) (by rintro (q | q); exact hnb q.symm; exact hn3 q.symm)) fun x1 x2 v' w' hRe hS hme => hend _ v' w' hRe ((hm6.mono fun _ _ q => q.elim).trans (hme.mono fun i _ q => q.elim (hOn i) fun e => by rw [e]; exact hOt))
  -- the map
  have r5 : ∀ (ρ' : Sl) (w4 : World) (av' : Value) (b5 : Nat), Raw w4 base t m nv av' (vars (ds ++ [d])) (cellsP (ds ++ [d])) (ds.map fun d => .string d.name) ((arrs (ds ++ [d])).map (.int .i64)) l c → w4.heap[b3]? = some (.cells d.cells.toArray 40 (0, 0)) → w4.heap[b5]? = some (.cells (nu ds d).cells.toArray 37 (0, 0)) → Mod (Own w base) w w4 → full ds d = false → ρ' 0 = pt t → ρ' 3 = pt b3 → ρ' 5 = pt b5 →
      sx fn_ Tryd.prog 101 scope_Table_declare_R5 (retK Tryd.prog [ResultVar.tmp 4] fun v w' => v = .int .i64 (if full ds d then 4 else 0) ∧ ((if full ds d then (4 : Int) else 0) = 0 → TbAt w' base t (ds ++ [d])) ∧ Mod (Own w base) w w') ρ' w4 := by
    intro ρ' w4 av' b5 hR4 hb4 hb5 hm4 hfull q0 q3 q5
    rw [scope_Table_declare_R5_eq]
    unfold scope_Table_declare_R5_F
    refine scope_Table_declare_R7_tail (D := []) ?_
    unfold scope_Table_declare_R7_T
    have hRd := hR4.mod ((Mod.refl none_ w4).drawn (w4.drawn + 1))
    have hbd : ({ w4 with drawn := w4.drawn + 1 } : World).heap[b3]? = some (.cells d.cells.toArray 40 (0, 0)) := hb4
    have hbd5 : ({ w4 with drawn := w4.drawn + 1 } : World).heap[b5]? = some (.cells (nu ds d).cells.toArray 37 (0, 0)) := hb5
    have hmd : Mod (Own w base) w { w4 with drawn := w4.drawn + 1 } := hm4.drawn _
    generalize ({ w4 with drawn := w4.drawn + 1 } : World) = wd at hRd hbd hbd5 hmd ⊢
    rw [q0, q3, q5]
    dsimp only
    refine QN_ptr (a := ⟨t, 0, none⟩) ?_
    refine Qfo (off := 1) (a := ⟨t, 0, none⟩) (by kernel_rfl) (Qld uMp rfl (v := .map (some m)) (fun w' hw => by rw [hw, add_pl]; exact hfld2 _ _ _ _ _ _ _ _ _ hRd 1 _ rfl) ?_)
    refine Qfo (off := 0) (a := ⟨b3, 0, none⟩) (by kernel_rfl) (Qld uSt rfl (v := .string d.name) (fun w' hw => by rw [hw, add_pl, cell_blk hbd]; rfl) ?_)
    refine QV_of (v := (nu ds d).v) (fun w' hw => by rw [hw]; exact run_ldB (cs := (nu ds d).cells.toArray) Tryd.underlying37 rfl iEnt hbd5) ?_
    obtain ⟨w5, hrun, hIs, hm5⟩ := run_put KT uMap hRd.bm d.key (nu ds d).v
    rw [show encK d.key = .string d.name from encK_of d.name] at hrun
    refine UK_of hrun ?_
    have hn0 : m ≠ b3 := by
      rintro rfl
      have := hRd.bm.symm.trans hbd
      cases this
    rw [sq_n]
    refine r8 _ w5 av' _ _ ⟨hm5.blk hRd.bt (fun q => hRd.tm q.symm), hIs, hRd.lt, hRd.lm, owns_mod hRd.on hm5 (fun k hk q => hRd.nm (q ▸ hk)), owns_mod hRd.oa hm5 (fun k hk q => hRd.am (q ▸ hk))⟩ (hm5.blk hbd fun q => hn0 q.symm) (hmd.then hm5 fun i _ q => by rw [q]; exact hOm) ?_ hfull ?_ ?_
    · intro k
      rw [valE_put, findP_snoc hk, hval]
      by_cases q : k = d.key <;> simp [q]
    · exact q0
    · exact q3
  have hnotV : ∀ (q : d.places ≠ 0), isV d = false := fun q => decide_eq_false q
  have hisV : ∀ (q : d.places = 0), isV d = true := fun q => decide_eq_true q
  -- the counters
  have r6 : ∀ (ρ' : Sl) (w4 : World) (b5 : Nat) (f : Bool), Raw w4 base t m nv av (vars ds) (cellsP ds) (ds.map fun d => .string d.name) ((arrs ds).map (.int .i64)) l c → w4.heap[b3]? = some (.cells d.cells.toArray 40 (0, 0)) → w4.heap[b5]? = some (.cells (nu ds d).cells.toArray 37 (0, 0)) → Mod (Own w base) w w4 → f = full ds d → ρ' 55 = .bool f → ρ' 0 = pt t → ρ' 3 = pt b3 → ρ' 5 = pt b5 →
      sx fn_ Tryd.prog 101 scope_Table_declare_R6 (blkK 0 (seqK (sx fn_ Tryd.prog 101 scope_Table_declare_R5 (retK Tryd.prog [ResultVar.tmp 4] fun v w' => v = .int .i64 (if full ds d then 4 else 0) ∧ ((if full ds d then (4 : Int) else 0) = 0 → TbAt w' base t (ds ++ [d])) ∧ Mod (Own w base) w w')) (retK Tryd.prog [ResultVar.tmp 4] fun v w' => v = .int .i64 (if full ds d then 4 else 0) ∧ ((if full ds d then (4 : Int) else 0) = 0 → TbAt w' base t (ds ++ [d])) ∧ Mod (Own w base) w w'))) ρ' w4 := by
    intro ρ' w4 b5 f hR4 hb4 hb5 hm4 hf q55 q0 q3 q5
    rw [scope_Table_declare_R6_eq]
    unfold scope_Table_declare_R6_F
    have hn5 : t ≠ b5 := by
      rintro rfl
      have := hR4.bt.symm.trans hb5
      injection this with this
      injection this with _ this
      exact absurd this (by decide)
    have hn3 : t ≠ b3 := by omega
    refine caseN q55 (fun hp => ?_) (fun hp => ?_)
    · rw [bk_r, sq_r]
      rw [← hf, hp]
      exact ⟨rfl, fun q => by simp at q, hm4⟩
    · rw [hp] at hf
      have g0 : FAt Tryd.prog w4 37 0 ⟨b5, 0, none⟩ 5 (.int .u8 (nu ds d).kind) := FAt.mk' (off := 0) (by kernel_rfl) uU8 rfl (by rw [add_pl, cell_blk hb5]; rfl)
      refine g0.vs q5 fun x73 => ?_
      by_cases hpl : d.places = 0
      · have hnu : nu ds d = ⟨1, vars ds, 0, 0⟩ := by unfold nu; rw [if_pos hpl]
        rw [hnu]
        refine BKeqI (a := 1) (b := 1) rfl rfl (fun _ => condT ?_) (fun q => absurd rfl q)
        rw [q0, NK_ptr]
        have g2 : FAt Tryd.prog w4 71 2 ⟨t, 0, none⟩ 3 (.int .i64 (vars ds)) := FAt.mk' (off := 2) (by kernel_rfl) uI rfl (by rw [add_pl]; exact hfld2 _ _ _ _ _ _ _ _ _ hR4 2 _ rfl)
        refine g2.vk' fun x78 => ?_
        refine BKadd (a := vars ds) (b := 1) rfl rfl (by omega) (by omega) ?_
        rw [NK_ptr, fo71_2, add_pl]
        refine stC (b := t) (o := 0 + 2) rfl (by kernel_rfl) rfl hR4.bt (by simp) fun w5 hb5' hm5 _ => ?_
        have hR5 := hR4.setT (nv' := nv) (av' := av) (vs' := (vars ds : Int) + 1) (cl' := cellsP ds) hm5 hb5' rfl rfl
        rw [bk_n, sq_n]
        refine r5 _ w5 av b5 ?_ (hm5.blk hb4 fun q => hn3 q.symm) (hm5.blk hb5 fun q => hn5 q.symm) (hm4.then hm5 fun i _ q => by rw [q]; exact hOt) hf.symm ?_ ?_ ?_
        · have e1 : (vars (ds ++ [d]) : Int) = (vars ds : Int) + 1 := by rw [vars_snoc, hisV hpl]; simp
          have e2 : cellsP (ds ++ [d]) = cellsP ds := by rw [cellsP_snoc, hpl, Int.add_zero]
          have e3 : arrs (ds ++ [d]) = arrs ds := by rw [arrs_snoc, hisV hpl]; simp
          rw [e1, e2, e3]; exact hR5
        · exact q0
        · exact q3
        · exact q5
      · have hnu : nu ds d = ⟨2, (arrs ds).length, cellsP ds, d.places⟩ := by unfold nu; rw [if_neg hpl]
        have hle : cellsP ds + d.places ≤ 1000 := by
          unfold full at hf
          rw [if_neg hpl] at hf
          have := of_decide_eq_false hf.symm
          omega
        rw [show (nu ds d).kind = 2 by rw [hnu]]
        refine BKeqI (a := 2) (b := 1) rfl rfl (fun q => absurd q (by decide)) (fun _ => condF ?_)
        have h9 : ∀ (KK : Exit → Sl → World → Prop), (∀ (ρ2 : Sl) (w6 : World) (x' : Value), ρ2 0 = pt t → ρ2 3 = pt b3 → ρ2 5 = pt b5 → Raw w6 base t m nv x' (vars (ds ++ [d])) (cellsP (ds ++ [d])) (ds.map fun d => .string d.name) ((arrs (ds ++ [d])).map (.int .i64)) l c → w6.heap[b3]? = some (.cells d.cells.toArray 40 (0, 0)) → w6.heap[b5]? = some (.cells (nu ds d).cells.toArray 37 (0, 0)) → Mod (Own w base) w w6 → KK .normal ρ2 w6) →
            ∀ (ρ9 : Sl), ρ9 0 = pt t → ρ9 3 = pt b3 → ρ9 5 = pt b5 → W fn_ Tryd.prog 101 scope_Table_declare_R9 (seqK (sx fn_ Tryd.prog 101 scope_Table_declare_R10 KK) KK) ρ9 w4 := by
          intro KK kN ρ9 q0 q3 q5
          refine scope_Table_declare_R9_held (D := []) (fun w' => w'.heap[b3]? = some (.cells d.cells.toArray 40 (0, 0)) ∧ w'.heap[b5]? = some (.cells (nu ds d).cells.toArray 37 (0, 0))) ⟨hb4, hb5⟩ ?_
          unfold scope_Table_declare_R9_H
          have hRd := hR4.mod ((Mod.refl none_ w4).drawn (w4.drawn + 1))
          have hbd : ({ w4 with drawn := w4.drawn + 1 } : World).heap[b3]? = some (.cells d.cells.toArray 40 (0, 0)) := hb4
          have hbd5 : ({ w4 with drawn := w4.drawn + 1 } : World).heap[b5]? = some (.cells (nu ds d).cells.toArray 37 (0, 0)) := hb5
          have hmd : Mod (Own w base) w { w4 with drawn := w4.drawn + 1 } := hm4.drawn _
          generalize ({ w4 with drawn := w4.drawn + 1 } : World) = wd at hRd hbd hbd5 hmd ⊢
          have e1 : (vars (ds ++ [d]) : Int) = (vars ds : Int) := by rw [vars_snoc, hnotV hpl]; simp
          have e2 : cellsP (ds ++ [d]) = cellsP ds + d.places := by rw [cellsP_snoc]
          have e3 : (arrs (ds ++ [d])).map (.int .i64) = (arrs ds).map (Value.int .i64) ++ [.int .i64 d.places] := by rw [arrs_snoc, hnotV hpl]; simp
          have hav5 : av.ownBlock ≠ some b5 := owns_ne_blk hRd.oa hbd5 (by decide)
          have hend : ∀ (ρ2 : Sl) (x' : Value) (w5 : World), ρ2 0 = pt t → ρ2 3 = pt b3 → ρ2 5 = pt b5 → Raw w5 base t m nv x' (vars ds) (cellsP ds) (ds.map fun d => .string d.name) ((arrs ds).map (Value.int .i64) ++ [.int .i64 d.places]) l c → w5.heap[b3]? = some (.cells d.cells.toArray 40 (0, 0)) → w5.heap[b5]? = some (.cells (nu ds d).cells.toArray 37 (0, 0)) → Mod (Own w base) w w5 →
              sx fn_ Tryd.prog 101 scope_Table_declare_R10 KK ρ2 w5 := by
            intro ρ2 x' w5 q0 q3 q5 hR5 hb53 hb55 hm5
            rw [R10_W]
            refine scope_Table_declare_R10_held (D := []) (fun w' => w'.heap[b3]? = some (.cells d.cells.toArray 40 (0, 0))) hb53 ?_
            unfold scope_Table_declare_R10_H
            have hRd := hR5.mod ((Mod.refl none_ w5).drawn (w5.drawn + 1))
            have hbd : ({ w5 with drawn := w5.drawn + 1 } : World).heap[b3]? = some (.cells d.cells.toArray 40 (0, 0)) := hb53
            have hbd5 : ({ w5 with drawn := w5.drawn + 1 } : World).heap[b5]? = some (.cells (nu ds d).cells.toArray 37 (0, 0)) := hb55
            have hmd : Mod (Own w base) w { w5 with drawn := w5.drawn + 1 } := hm5.drawn _
            generalize ({ w5 with drawn := w5.drawn + 1 } : World) = wd at hRd hbd hbd5 hmd ⊢
            rw [q0, q3]
            refine HN_ptr (HV_of (fun w' _ => run_fo (off := 4) (by kernel_rfl) _ w') (HV_of (fun w' _ => run_fo (off := 1) (by kernel_rfl) _ w') (HV_of (fun w' hw => run_ld1 uI rfl (v := .int .i64 d.places) (by rw [add_pl, cell_blk hw]; rfl)) ?_)))
            refine ld1 (v := .int .i64 (cellsP ds)) uI rfl (by rw [add_pl]; exact hfld2 _ _ _ _ _ _ _ _ _ hRd 4 _ rfl) ⟨hbd, ?_⟩
            refine HB_of (v := .int .i64 (cellsP ds + d.places)) (fun _ => rfl) (fun w => by have := wrap_i (n := cellsP ds + d.places) (by omega) (by omega); simp [go_sem, this]) ?_
            refine HN_ptr (HV_of (fun w' _ => run_fo (off := 4) (by kernel_rfl) _ w') ?_)
            rw [add_pl]
            refine stC (b := t) (o := 0 + 4) rfl (by kernel_rfl) rfl hRd.bt (by simp) fun w6 hb6 hm6 _ => ?_
            refine ⟨hm6.blk hbd fun q => hn3 q.symm, ?_⟩
            have hR6 := hRd.setT (nv' := nv) (av' := x') (vs' := (vars ds : Int)) (cl' := cellsP ds + d.places) hm6 hb6 rfl rfl
            refine kN _ w6 x' ?_ ?_ ?_ ?_ (hm6.blk hbd fun q => hn3 q.symm) (hm6.blk hbd5 fun q => hn5 q.symm) (hmd.then hm6 fun i _ q => by rw [q]; exact hOt)
            · exact q0
            · exact q3
            · exact q5
            · rw [e1, e2, e3]; exact hR6
          have hnb : av.ownBlock ≠ some b3 := owns_ne_blk hRd.oa hbd (by decide)
          have keep : ∀ w6, Mod none_ wd w6 → ∀ w', Mod (fun i => some i = av.ownBlock ∨ i = t) w6 w' → w'.heap[b3]? = some (.cells d.cells.toArray 40 (0, 0)) ∧ w'.heap[b5]? = some (.cells (nu ds d).cells.toArray 37 (0, 0)) := fun w6 h6 w' h => ⟨h.blk (h6.blk hbd id) (by rintro (q | q); exact hnb q.symm; exact hn3 q.symm), h.blk (h6.blk hbd5 id) (by rintro (q | q); exact hav5 q.symm; exact hn5 q.symm)⟩
          rw [q0, q3]
          refine HN_ptr (HV_of (fun w' _ => run_fo (off := 3) (by kernel_rfl) _ w') (HV_of (fun w' _ => run_fo (off := 1) (by kernel_rfl) _ w') (HV_of (fun w' hw => run_ld1 uI rfl (v := .int .i64 d.places) (by rw [add_pl, cell_blk hw.1]; rfl)) ⟨?_, ?_⟩)))
          · refine ld1 (v := av) uIs rfl (by rw [add_pl]; exact hfld2 _ _ _ _ _ _ _ _ _ hRd 3 _ rfl) ⟨⟨hbd, hbd5⟩, ?_⟩
            refine bs_k (cs := #[.int .i64 d.places]) (by kernel_rfl) fun w6 hb6 hm6 hz6 => ⟨⟨hm6.blk hbd id, hm6.blk hbd5 id⟩, ?_⟩
            refine app_arrs (hRd.mod hm6) (by simpa using reads_blk (size := 1) (n := 1) hb6 rfl) rfl (by have := arrs_le ds; rw [List.length_map]; omega) (keep w6 hm6) fun x1 x2 v' w' hRe hS hme => ?_
            rw [sq_n]
            refine hend _ v' w' ?_ ?_ ?_ hRe hS.1 hS.2 (hmd.trans ((hm6.mono fun _ _ q => q.elim).trans (hme.mono fun i _ q => q.elim (hOa i) fun e => by rw [e]; exact hOt)))
            · exact q0
            · exact q3
            · exact q5
          · refine bs_k (cs := #[.int .i64 d.places]) (by kernel_rfl) fun w6 hb6 hm6 hz6 => ⟨⟨hm6.blk hbd id, hm6.blk hbd5 id⟩, ?_⟩
            refine ld1 (v := av) uIs rfl (by rw [add_pl]; exact hfld2 _ _ _ _ _ _ _ _ _ (hRd.mod hm6) 3 _ rfl) ⟨⟨hm6.blk hbd id, hm6.blk hbd5 id⟩, ?_⟩
            refine app_arrs (hRd.mod hm6) (by simpa using reads_blk (size := 1) (n := 1) hb6 rfl) rfl (by have := arrs_le ds; rw [List.length_map]; omega) (keep w6 hm6) fun x1 x2 v' w' hRe hS hme => ?_
            rw [sq_n]
            refine hend _ v' w' ?_ ?_ ?_ hRe hS.1 hS.2 (hmd.trans ((hm6.mono fun _ _ q => q.elim).trans (hme.mono fun i _ q => q.elim (hOa i) fun e => by rw [e]; exact hOt)))
            · exact q0
            · exact q3
            · exact q5
        refine h9 _ (fun ρ2 w6 x' q0 q3 q5 hR6 h3 h5 hm6 => ?_) _ ?_ ?_ ?_
        · rw [bk_n, sq_n]
          exact r5 _ w6 x' b5 hR6 h3 h5 hm6 hf.symm q0 q3 q5
        · exact q0
        · exact q3
        · exact q5
  have kv : ∀ (q : d.places = 0), nu ds d = ⟨1, vars ds, 0, 0⟩ := fun q => by unfold nu; rw [if_pos q]
  have ka : ∀ (q : d.places ≠ 0), nu ds d = ⟨2, (arrs ds).length, cellsP ds, d.places⟩ := fun q => by unfold nu; rw [if_neg q]
  have r3 : ∀ (ρ' : Sl) (w4 : World) (b5 : Nat), Raw w4 base t m nv av (vars ds) (cellsP ds) (ds.map fun d => .string d.name) ((arrs ds).map (.int .i64)) l c → w4.heap[b3]? = some (.cells d.cells.toArray 40 (0, 0)) → w4.heap[b5]? = some (.cells (nu ds d).cells.toArray 37 (0, 0)) → Mod (Own w base) w w4 → ρ' 0 = pt t → ρ' 3 = pt b3 → ρ' 5 = pt b5 →
      sx fn_ Tryd.prog 101 scope_Table_declare_R3 (retK Tryd.prog [ResultVar.tmp 4] fun v w' => v = .int .i64 (if full ds d then 4 else 0) ∧ ((if full ds d then (4 : Int) else 0) = 0 → TbAt w' base t (ds ++ [d])) ∧ Mod (Own w base) w w') ρ' w4 := by
    intro ρ' w4 b5 hR4 hb4 hb5 hm4 q0 q3 q5
    rw [scope_Table_declare_R3_eq]
    unfold scope_Table_declare_R3_F
    have g0 : FAt Tryd.prog w4 37 0 ⟨b5, 0, none⟩ 5 (.int .u8 (nu ds d).kind) := FAt.mk' (off := 0) (by kernel_rfl) uU8 rfl (by rw [add_pl, cell_blk hb5]; rfl)
    have g2 : FAt Tryd.prog w4 37 2 ⟨b5, 0, none⟩ 3 (.int .i64 (nu ds d).base) := FAt.mk' (off := 2) (by kernel_rfl) uI rfl (by rw [add_pl, cell_blk hb5]; rfl)
    have g3 : FAt Tryd.prog w4 37 3 ⟨b5, 0, none⟩ 3 (.int .i64 (nu ds d).places) := FAt.mk' (off := 3) (by kernel_rfl) uI rfl (by rw [add_pl, cell_blk hb5]; rfl)
    have gv : FAt Tryd.prog w4 71 2 ⟨t, 0, none⟩ 3 (.int .i64 (vars ds)) := FAt.mk' (off := 2) (by kernel_rfl) uI rfl (by rw [add_pl]; exact hfld2 _ _ _ _ _ _ _ _ _ hR4 2 _ rfl)
    refine g0.vs q5 fun x56 => ?_
    by_cases hpl : d.places = 0
    · rw [show (nu ds d).kind = 1 by rw [kv hpl]]
      refine BKeqI (a := 1) (b := 1) rfl rfl (fun _ => ?_) (fun q => absurd rfl q)
      rw [q0]
      simp only [CondK_bool, MG_u, NG_u, VG_u, UG_u, PG_u, BG_u, CG_u, IG_u, MG_b, NG_b, VG_b, UG_b, PG_b, BG_b, CG_b, IG_b, PK_bool, NK_ptr, not_ok, reduceCtorEq, if_true, if_false, Bool.true_eq_false, Bool.false_eq_true, Bool.not_true, Bool.not_false]
      refine gv.vk' fun x62 => ?_
      have hfull : full ds d = decide (vars ds = 64) := by unfold full; rw [if_pos hpl]
      refine BKeqI (a := vars ds) (b := 64) rfl rfl (fun q => ?_) (fun q => ?_)
      · have hq : vars ds = 64 := by omega
        simp only [CondK_bool, MG_u, NG_u, VG_u, UG_u, PG_u, BG_u, CG_u, IG_u, MG_b, NG_b, VG_b, UG_b, PG_b, BG_b, CG_b, IG_b, PK_bool, NK_ptr, not_ok, reduceCtorEq, if_true, if_false, Bool.true_eq_false, Bool.false_eq_true, Bool.not_true, Bool.not_false]
        refine r6 _ w4 b5 true hR4 hb4 hb5 hm4 (by rw [hfull, decide_eq_true hq]) rfl ?_ ?_ ?_
        · exact q0
        · exact q3
        · exact q5
      · have hq : vars ds ≠ 64 := by omega
        simp only [CondK_bool, MG_u, NG_u, VG_u, UG_u, PG_u, BG_u, CG_u, IG_u, MG_b, NG_b, VG_b, UG_b, PG_b, BG_b, CG_b, IG_b, PK_bool, NK_ptr, not_ok, reduceCtorEq, if_true, if_false, Bool.true_eq_false, Bool.false_eq_true, Bool.not_true, Bool.not_false]
        refine g2.vs q5 fun x66 => g3.vs q5 fun x68 => ?_
        rw [show (nu ds d).base = 0 by rw [kv hpl], show (nu ds d).places = 0 by rw [kv hpl]]
        refine BKadd (a := 0) (b := 0) rfl rfl (by decide) (by decide) ?_
        refine BKgtr (a := 0 + 0) (b := 1000) rfl rfl ?_
        refine r6 _ w4 b5 false hR4 hb4 hb5 hm4 (by rw [hfull, decide_eq_false hq]) rfl ?_ ?_ ?_
        · exact q0
        · exact q3
        · exact q5
    · rw [show (nu ds d).kind = 2 by rw [ka hpl]]
      refine BKeqI (a := 2) (b := 1) rfl rfl (fun q => absurd q (by decide)) (fun _ => ?_)
      simp only [CondK_bool, MG_u, NG_u, VG_u, UG_u, PG_u, BG_u, CG_u, IG_u, MG_b, NG_b, VG_b, UG_b, PG_b, BG_b, CG_b, IG_b, PK_bool, NK_ptr, not_ok, reduceCtorEq, if_true, if_false, Bool.true_eq_false, Bool.false_eq_true, Bool.not_true, Bool.not_false]
      have hfull : full ds d = decide (1000 < cellsP ds + d.places) := by unfold full; rw [if_neg hpl]
      refine g2.vs q5 fun x66 => g3.vs q5 fun x68 => ?_
      rw [show (nu ds d).base = cellsP ds by rw [ka hpl], show (nu ds d).places = d.places by rw [ka hpl]]
      refine BKadd (a := cellsP ds) (b := d.places) rfl rfl (by omega) (by omega) ?_
      refine BKgtr (a := cellsP ds + d.places) (b := 1000) rfl rfl ?_
      refine r6 _ w4 b5 (decide (1000 < cellsP ds + d.places)) hR4 hb4 hb5 hm4 hfull.symm rfl ?_ ?_ ?_
      · exact q0
      · exact q3
      · exact q5
  have r2 : ∀ (ρ' : Sl), ρ' 0 = pt t → ρ' 3 = pt b3 →
      sx fn_ Tryd.prog 101 scope_Table_declare_R2 (retK Tryd.prog [ResultVar.tmp 4] fun v w' => v = .int .i64 (if full ds d then 4 else 0) ∧ ((if full ds d then (4 : Int) else 0) = 0 → TbAt w' base t (ds ++ [d])) ∧ Mod (Own w base) w w') ρ' w2 := by
    intro ρ' q0 q3
    rw [scope_Table_declare_R2_eq]
    unfold scope_Table_declare_R2_F
    have gv : FAt Tryd.prog w2 71 2 ⟨t, 0, none⟩ 3 (.int .i64 (vars ds)) := FAt.mk' (off := 2) (by kernel_rfl) uI rfl (by rw [add_pl]; exact hfld2 _ _ _ _ _ _ _ _ _ hR2 2 _ rfl)
    refine NKs q0 ?_
    refine gv.vk' fun x17 => ?_
    rw [build_ok (bEnt1 _)]
    refine lcl_k (cs := (En.mk 1 (vars ds) 0 0).cells.toArray) zEnt _ iEnt rfl (en_one _) fun w3 hb3' hm3 hz3 => ?_
    have hR3 := hR2.mod hm3
    have hb23 := hm3.blk hb2 id
    have hm03 := hm02.trans hm3
    have hlt5 : b3 < w2.heap.size := X.blk_lt hb2
    generalize w2.heap.size = b5 at *
    have gp : FAt Tryd.prog w3 40 1 ⟨b3, 0, none⟩ 3 (.int .i64 d.places) := FAt.mk' (off := 1) (by kernel_rfl) uI rfl (by rw [add_pl, cell_blk hb23]; rfl)
    refine gp.vs q3 fun x20 => ?_
    refine BKgtr (a := d.places) (b := 0) rfl rfl ?_
    refine caseC (fun hpp => ?_) (fun hpp => ?_)
    · have hpl : d.places ≠ 0 := by have := of_decide_eq_true hpp; omega
      have h4 : ∀ (KK : Exit → Sl → World → Prop), (∀ (ρ5 : Sl) (w5 : World), ρ5 0 = pt t → ρ5 3 = pt b3 → ρ5 5 = pt b5 → Raw w5 base t m nv av (vars ds) (cellsP ds) (ds.map fun d => .string d.name) ((arrs ds).map (.int .i64)) l c → w5.heap[b3]? = some (.cells d.cells.toArray 40 (0, 0)) → w5.heap[b5]? = some (.cells (nu ds d).cells.toArray 37 (0, 0)) → Mod (Own w base) w w5 → KK .normal ρ5 w5) →
          ∀ (ρ4 : Sl), ρ4 0 = pt t → ρ4 3 = pt b3 → ρ4 5 = pt b5 → W fn_ Tryd.prog 101 scope_Table_declare_R4 KK ρ4 w3 := by
        intro KK kN ρ4 q0 q3 q5
        refine scope_Table_declare_R4_tail (D := []) ?_
        unfold scope_Table_declare_R4_T
        have hRd := hR3.mod ((Mod.refl none_ w3).drawn (w3.drawn + 1))
        have hbd : ({ w3 with drawn := w3.drawn + 1 } : World).heap[b3]? = some (.cells d.cells.toArray 40 (0, 0)) := hb23
        have hbd5 : ({ w3 with drawn := w3.drawn + 1 } : World).heap[b5]? = some (.cells (En.mk 1 (vars ds) 0 0).cells.toArray 37 (0, 0)) := hb3'
        have hmd : Mod none_ w { w3 with drawn := w3.drawn + 1 } := hm03.drawn _
        generalize ({ w3 with drawn := w3.drawn + 1 } : World) = wd at hRd hbd hbd5 hmd ⊢
        obtain ⟨Aa, ca, hav, _⟩ := reads_cap (reads_of_owns hRd.oa)
        dsimp only
        rw [q0, q3]
        refine QN_ptr (a := ⟨t, 0, none⟩) ?_
        refine Qfo (off := 3) (a := ⟨t, 0, none⟩) (by kernel_rfl) (Qld uIs rfl (v := .slice Aa ((arrs ds).map (Value.int .i64)).length ca) (fun w' hw => by rw [hw, add_pl, ← hav]; exact hfld2 _ _ _ _ _ _ _ _ _ hRd 3 _ rfl) ?_)
        refine QI_len uIs _ _ _ _ ?_
        refine QN_ptr (a := ⟨t, 0, none⟩) ?_
        refine Qfo (off := 4) (a := ⟨t, 0, none⟩) (by kernel_rfl) (Qld uI rfl (v := .int .i64 (cellsP ds)) (fun w' hw => by rw [hw, add_pl]; exact hfld2 _ _ _ _ _ _ _ _ _ hRd 4 _ rfl) ?_)
        refine Qfo (off := 1) (a := ⟨b3, 0, none⟩) (by kernel_rfl) (Qld uI rfl (v := .int .i64 d.places) (fun w' hw => by rw [hw, add_pl, cell_blk hbd]; rfl) ?_)
        rw [build_ok (bEnt2 _ _ _), List.length_map]
        refine stS (b := b5) (old := (En.mk 1 (vars ds) 0 0).cells.toArray) (cs := (nu ds d).cells.toArray) ?_ ?_ iEnt rfl (en_one _) hbd5 fun w5 hb55 hm5 _ => ?_
        · exact q5
        · rw [ka hpl]
        have hn5 : b5 ≠ t ∧ b5 ≠ b3 ∧ b5 ≠ m := by
          refine ⟨?_, ?_, ?_⟩
          · rintro rfl
            have := hRd.bt.symm.trans hbd5
            injection this with this
            injection this with _ this
            exact absurd this (by decide)
          · rintro rfl
            have := hbd.symm.trans hbd5
            injection this with this
            injection this with _ this
            exact absurd this (by decide)
          · rintro rfl
            have := hRd.bm.symm.trans hbd5
            cases this
        have hR5 : Raw w5 base t m nv av (vars ds) (cellsP ds) (ds.map fun d => .string d.name) ((arrs ds).map (.int .i64)) l c :=
          ⟨hm5.blk hRd.bt hn5.1.symm, hRd.bm.mod hm5 hn5.2.2.symm, hRd.lt, hRd.lm, owns_mod hRd.on hm5 (fun k hk q => owns_ne_blk hRd.on hbd5 (by decide) (q ▸ hk)), owns_mod hRd.oa hm5 (fun k hk q => owns_ne_blk hRd.oa hbd5 (by decide) (q ▸ hk))⟩
        refine kN _ w5 ?_ ?_ ?_ hR5 (hm5.blk hbd hn5.2.1.symm) hb55 ((up1 hmd).then hm5 fun i _ q => by omega)
        · exact q0
        · exact q3
        · exact q5
      refine h4 _ (fun ρ5 w5 a b c' h1 h2 h3 h4 => ?_) _ ?_ ?_ ?_
      · rw [sq_n]
        exact r3 _ w5 b5 h1 h2 h3 h4 a b c'
      · exact q0
      · exact q3
      · rfl
    · have hpl : d.places = 0 := by have := of_decide_eq_false hpp; omega
      refine r3 _ w3 b5 hR3 hb23 (by rw [kv hpl]; exact hb3') (up1 hm03) ?_ ?_ rfl
      · exact q0
      · exact q3
  rw [sq_n]
  exact r2 _ rfl rfl
end Go.Proofs.YtbnbcimjapiicaaDoor.Tr
set_option linter.unusedVariables false
set_option linter.unusedSimpArgs false
set_option maxRecDepth 4000
namespace Go.Proofs.YtbnbcimjapiicaaDoor.Tr
open Go Go.X Go.RowKit Go.Proofs.YtbnbcimjapiicaaDoor.XG Go.Proofs.YtbnbcimjapiicaaDoor.XK
def declsW (pre : List De) : List De → Wr
  | [] => zWr
  | d :: r => if dstep pre d = 0 then declsW (pre ++ [d]) r else ⟨dstep pre d, d.line, d.col⟩
def checkP (p : Pr) : Wr := if p.may then (if (declsW [] p.decls).err = 0 then St.wrL (kindP p.decls) p.body else declsW [] p.decls) else ⟨2, 0, 0⟩
theorem dstep_zero {pre : List De} {d : De} (h : dstep pre d = 0) : (findP pre d.key).kind = 0 ∧ full pre d = false := by
  unfold dstep at h
  split at h
  · simp at h
  · rename_i q
    split at h
    · simp at h
    · rename_i q2; exact ⟨by simpa using q, by simpa using q2⟩
theorem lim_snoc {pre : List De} {d : De} (h : full pre d = false) (hp : 0 ≤ d.places) (hv : vars pre ≤ 64) (hc : cellsP pre ≤ 1000) : vars (pre ++ [d]) ≤ 64 ∧ cellsP (pre ++ [d]) ≤ 1000 := by
  unfold full at h
  rw [vars_snoc, cellsP_snoc]
  by_cases q : d.places = 0
  · rw [if_pos q] at h
    have := of_decide_eq_false h
    rw [show isV d = true from decide_eq_true q]
    simp only [if_true]
    omega
  · rw [if_neg q] at h
    have := of_decide_eq_false h
    rw [show isV d = false from decide_eq_false q]
    simp only [Bool.false_eq_true, if_false]
    omega
theorem bTb (m : Nat) : Tryd.prog.built 71 [(1, .map (some m))] = some #[.slice none 0 0, .map (some m), .int .i64 0, .slice none 0 0, .int .i64 0] := by kernel_rfl
theorem TbAt.low {w : World} {base base' t : Nat} {ds : List De} (h : TbAt w base t ds) (hb : base' ≤ base) : TbAt w base' t ds := by
  obtain ⟨nv, av, m, l, c, h1, h2, h3, h4, h5, h6, h7⟩ := h.at'
  exact ⟨⟨nv, av, m, l, c, h1, h2, h3, by omega, by omega, owns_base h6 hb, owns_base h7 hb⟩⟩
theorem TbAt.off {w w' : World} {S : Nat → Prop} {base t : Nat} {ds : List De} (h : TbAt w base t ds) (hm : Mod S w w') (hS : ∀ i, S i → i < base) : TbAt w' base t ds := by
  obtain ⟨nv, av, m, l, c, h1, h2, h3, h4, h5, h6, h7⟩ := h.at'
  have hn : ∀ {i}, base ≤ i → ¬ S i := fun h q => by have := hS _ q; omega
  exact ⟨⟨nv, av, m, l, c, hm.blk h1 (hn h4), h2.mod hm (hn h5), h3, h4, h5, owns_mod h6 hm (fun k hk => hn (owns_ge h6 hk)), owns_mod h7 hm (fun k hk => hn (owns_ge h7 hk))⟩⟩
/-- What New tells. -/
structure Told (p : Pr) (w : World) (x : Value) (w' : World) : Prop where
  m : Mod none_ w w'
  ok : (checkP p).err = 0 → p.may = true ∧ (declsW [] p.decls).err = 0 ∧ ∃ t, x = pt t ∧ TbAt w' w.heap.size t p.decls
  bad : (checkP p).err ≠ 0 → x = .pointer none
theorem New_ok {w : World} (hg : Gl w) {p : Pr} (h : p.Ok w) (hf : p.fits) : Rt Tryd.prog 13 #[.agg p.cells.toArray] w fun v w' => ∃ x, v = .tuple #[x, (checkP p).v] ∧ Told p w x w' := by
  refine scope_New_calls ?_
  unfold scope_New_F
  refine box_k (cs := p.cells.toArray) rfl fun w1 hb1 hm1 hz1 => ?_
  refine al_k zWrg rfl _ fun w2 hb2 hm2 hz2 => ?_
  have hb12 := hm2.blk hb1 id
  have hm12 := hm1.trans hm2
  refine ldB (cs := p.cells.toArray) Tryd.underlying25 rfl iPr hb12 ?_
  refine CK_st Tryd.func29 rfl rfl (May_ok (hg.mod hm12) (h.mod hm12) hf) ?_
  rintro _ w3 ⟨rfl, hm3⟩
  rw [not_ok]
  have hm13 := hm12.trans hm3
  have hb13 := hm3.blk hb12 id
  have hb23 := hm3.blk hb2 id
  generalize hx3 : w1.heap.size = b3 at *
  cases hmay : p.may with
  | false =>
    refine condT ?_
    rw [build_ok (bWr1 2)]
    refine stS (b := b3) (old := zWr.cells.toArray) (cs := (Wr.mk 2 0 0).cells.toArray) rfl rfl iWrg rfl (wr_one _) hb23 fun w4 hb4 hm4 _ => ?_
    have hcp : checkP p = ⟨2, 0, 0⟩ := by unfold checkP; rw [hmay]; rfl
    refine ⟨_, res_ld (run_ldB (cs := (Wr.mk 2 0 0).cells.toArray) Tryd.underlying30 rfl iWrg hb4), _, by rw [hcp]; rfl, hm13.then hm4 (fun i hi q => absurd q (by omega)), fun q => ?_, fun _ => rfl⟩
    rw [hcp] at q; simp at q
  | true =>
    refine condF ?_
    have hmays : ∀ d ∈ p.decls, d.may = true := by
      unfold Pr.may at hmay
      simp only [Bool.and_eq_true, List.all_eq_true] at hmay
      exact hmay.1.2
    refine make_ok (enc := encK) 69 fun w4 hIs hm4 hz4 => ?_
    rw [build_ok (bTb _)]
    refine box_k (cs := #[.slice none 0 0, .map (some w3.heap.size), .int .i64 0, .slice none 0 0, .int .i64 0]) rfl fun w5 hb5 hm5 hz5 => ?_
    have hlt3 : w3.heap.size < w4.heap.size := by omega
    have hbase : b3 < w3.heap.size := X.blk_lt hb23
    have hT0 : TbAt w5 w3.heap.size w4.heap.size [] :=
      ⟨⟨_, _, _, [], 0, hb5, hIs.mod hm5 id, fun k => rfl, by omega, by omega, ⟨rfl, .inl ⟨rfl, rfl⟩⟩, ⟨rfl, .inl ⟨rfl, rfl⟩⟩⟩⟩
    have hm35 := hm4.trans hm5
    have hm15 := hm13.trans hm35
    have hb15 := hm35.blk hb13 id
    have hb25 := hm35.blk hb23 id
    have hb1lt : w.heap.size < b3 := by omega
    have h5 := h.mod hm15
    obtain ⟨A, c, hs, _⟩ := reads_cap h.d.1
    generalize w3.heap.size = base at *
    generalize w4.heap.size = t at *
    have f0 : FAt Tryd.prog w5 25 0 ⟨w.heap.size, 0, none⟩ 22 (.slice A p.decls.length c) := FAt.mk' (off := 0) (by kernel_rfl) uDes rfl (by rw [add_pl, cell_blk hb15, ← hs]; rfl)
    refine f0.vk' fun x16 => ?_
    rw [len22]
    have hcp : checkP p = (if (declsW [] p.decls).err = 0 then St.wrL (kindP p.decls) p.body else declsW [] p.decls) := by unfold checkP; rw [hmay]; rfl
    clear hm1 hz1 hb1 hm2 hz2 hb2 hm12 hb12 hb13 hb23 hm3 hIs hm4 hz4 hb5 hm5 hz5 hm13 hm35
    refine W_loop scope_New_L0_ok (fun ρ w' => ∃ n : Nat, n ≤ p.decls.length ∧ ρ 19 = .int .i64 n ∧ ρ 18 = .int .i64 p.decls.length ∧ ρ 17 = .slice A p.decls.length c ∧ ρ 1 = pt w.heap.size ∧ ρ 3 = pt b3 ∧ ρ 4 = pt t ∧ TbAt w' base t (p.decls.take n) ∧ vars (p.decls.take n) ≤ 64 ∧ cellsP (p.decls.take n) ≤ 1000 ∧ declsW [] p.decls = declsW (p.decls.take n) (p.decls.drop n) ∧ Mod (fun i => base ≤ i) w5 w') (fun ρ _ => p.decls.length - (intOf (ρ 19)).toNat)
      ⟨0, Nat.zero_le _, rfl, rfl, rfl, rfl, rfl, rfl, hT0, Nat.zero_le _, (by rw [List.take_zero]; decide), rfl, Mod.refl _ _⟩ ?_
    rintro ρ w6 ⟨n, hn, h19, h18, h17, h1, h3, h4, hT, hv, hc, hdW, hm6⟩
    have hb16 := hm6.blk hb15 (by omega)
    have hb26 := hm6.blk hb25 (by omega)
    have hm06 : Mod none_ w w6 := hm15.then hm6 fun i hi q => by omega
    rw [scope_New_L0_eq]
    unfold scope_New_L0_F
    rw [h19, h18, h17]
    refine BKlss (a := n) (b := p.decls.length) rfl rfl ?_
    by_cases hlt : n < p.decls.length
    · rw [show decide ((n : Int) < (p.decls.length : Int)) = true by rw [decide_eq_true_eq]; omega]
      refine condT ?_
      have hx : p.decls[n]? = some p.decls[n] := List.getElem?_eq_getElem hlt
      have hmem : p.decls[n] ∈ p.decls := List.getElem_mem hlt
      have hds6 := h.d.mod hm06
      rw [hs] at hds6
      refine ixDe hds6 hx fun y => ?_
      refine lcl_k (cs := p.decls[n].cells.toArray) zDe _ iDe rfl (de_one _) fun w7 hb7 hm7 hz7 => ?_
      refine ldS (b := w6.heap.size) (cs := p.decls[n].cells.toArray) rfl Tryd.underlying40 rfl iDe hb7 ?_
      rw [h4]
      have hlen' := hf.1
      have htl : (p.decls.take n).length = n := by rw [List.length_take]; omega
      have htake : p.decls.take (n + 1) = p.decls.take n ++ [p.decls[n]] := by rw [List.take_add_one, hx, Option.toList_some]
      have hdrop : p.decls.drop n = p.decls[n] :: p.decls.drop (n + 1) := (List.getElem_cons_drop hlt).symm
      have hp := may_places (hmays _ hmem)
      have hb17 := hm7.blk hb16 id
      have hb27 := hm7.blk hb26 id
      have hlt6 : base < w6.heap.size := by have := hm6.size; have := hT.raw; obtain ⟨_, _, m, _, _, hR, _⟩ := this; have := hR.fld; have := hR.lt; have := hR.bm; have := X.blk_lt this; have := hR.lm; omega
      refine CK_st Tryd.func37 rfl rfl (declare_ok (hT.mod hm7) ⟨by omega, fun d hd => hmays d (List.mem_of_mem_take hd)⟩ (by omega) hv hc (hmays _ hmem)) ?_
      rintro _ w8 ⟨rfl, hTn, hm8⟩
      have hdl : w8.heap[w6.heap.size]? = some (.cells p.decls[n].cells.toArray 40 (0, 0)) := hm8.blk hb7 fun q => q.2 _ _ hb7
      have hm58 : Mod (fun i => base ≤ i) w5 w8 := (hm6.trans (hm7.mono fun _ _ q => q.elim)).trans (hm8.mono fun _ _ q => q.1)
      rw [hdrop, declsW] at hdW
      refine BKneI (a := dstep (p.decls.take n) p.decls[n]) (b := 0) rfl rfl (fun hz => condF ?_) (fun hz => condT ?_)
      · obtain ⟨_, hfull⟩ := dstep_zero hz
        obtain ⟨hv', hc'⟩ := lim_snoc hfull hp.1 hv hc
        rw [if_pos hz] at hdW
        refine BKadd (a := n) (b := 1) rfl rfl (by omega) (by omega) ?_
        refine ⟨⟨n + 1, hlt, rfl, h18, h17, h1, h3, h4, ?_, ?_, ?_, ?_, hm58⟩, ?_⟩
        · rw [htake]; exact hTn hz
        · rw [htake]; exact hv'
        · rw [htake]; exact hc'
        · rw [htake]; exact hdW
        · show p.decls.length - (intOf (Value.int .i64 ((n : Int) + 1))).toNat < _
          simp only [intOf]; omega
      · rw [if_neg hz] at hdW
        have hcp' : checkP p = ⟨dstep (p.decls.take n) p.decls[n], p.decls[n].line, p.decls[n].col⟩ := by rw [hcp, hdW, if_neg hz]
        have hb18 := hm8.blk hb17 (fun q => by have := q.1; omega)
        have hb28 := hm8.blk hb27 (fun q => by have := q.1; omega)
        have hm08 : Mod none_ w w8 := hm15.then hm58 fun i hi q => by omega
        have e2 : ∀ (KK : Exit → Sl → World → Prop), (∀ (ρ3 : Sl) (w9 : World), ρ3 3 = pt b3 → ρ3 2 = .pointer none → w9.heap[b3]? = some (.cells (checkP p).cells.toArray 30 (0, 0)) → Mod (fun i => i = b3) w8 w9 → KK .normal ρ3 w9) → ∀ (ρ2 : Sl), ρ2 3 = pt b3 → ρ2 6 = pt w6.heap.size → ρ2 7 = .int .i64 (dstep (p.decls.take n) p.decls[n]) → W fn_ Tryd.prog 45 scope_New_R2 KK ρ2 w8 := by
          intro KK kN ρ2 q3 q6 q7
          refine scope_New_R2_tail (D := []) ?_
          unfold scope_New_R2_T
          have hbd : ({ w8 with drawn := w8.drawn + 1 } : World).heap[w6.heap.size]? = some (.cells p.decls[n].cells.toArray 40 (0, 0)) := hdl
          have hbd3 : ({ w8 with drawn := w8.drawn + 1 } : World).heap[b3]? = some (.cells zWr.cells.toArray 30 (0, 0)) := hb28
          have hmd : Mod (fun i => i = b3) w8 { w8 with drawn := w8.drawn + 1 } := (Mod.refl _ w8).drawn _
          generalize ({ w8 with drawn := w8.drawn + 1 } : World) = wd at hbd hbd3 hmd ⊢
          dsimp only
          rw [q6, q7]
          refine Qfo (off := 2) (a := ⟨w6.heap.size, 0, none⟩) (by kernel_rfl) (Qld uI rfl (v := .int .i64 p.decls[n].line) (fun w' hw => by rw [hw, add_pl, cell_blk hbd]; rfl) ?_)
          refine Qfo (off := 3) (a := ⟨w6.heap.size, 0, none⟩) (by kernel_rfl) (Qld uI rfl (v := .int .i64 p.decls[n].col) (fun w' hw => by rw [hw, add_pl, cell_blk hbd]; rfl) ?_)
          refine QV_of (fun w' _ => build_run (bWr3 _ _ _)) ?_
          refine stS (b := b3) (old := zWr.cells.toArray) (cs := (checkP p).cells.toArray) q3 (by rw [hcp']) iWrg rfl (wr_one _) hbd3 fun w9 hb9 hm9 _ => ?_
          refine kN _ w9 ?_ rfl hb9 (hmd.trans hm9)
          exact q3
        refine e2 _ (fun ρ3 w9 q3 q2 hb9 hm9 => ?_) _ ?_ ?_ rfl
        · rw [sq_n, scope_New_R3_eq]
          unfold scope_New_R3_F
          rw [bk_r, sq_r, sq_r, bk_r, sq_r]
          refine rtTC (b := b3) (cs := (checkP p).cells.toArray) q3 Tryd.underlying30 rfl iWrg hb9 ?_
          refine ⟨_, by rw [q2]; rfl, hm08.then hm9 (fun i hi q => absurd q (by omega)), fun q => ?_, fun _ => rfl⟩
          rw [hcp'] at q; exact absurd q hz
        · exact h3
        · rfl
    · obtain rfl : n = p.decls.length := by omega
      rw [show decide (((p.decls.length : Nat) : Int) < (p.decls.length : Int)) = false by simp]
      refine condF ?_
      rw [List.take_length] at hT hv hc
      rw [List.drop_length, List.take_length, declsW] at hdW
      rw [hdW] at hcp
      rw [if_pos (show zWr.err = 0 from rfl)] at hcp
      rw [sq_x, bk_x, sq_n, scope_New_R1_eq]
      unfold scope_New_R1_F
      have f1 : FAt Tryd.prog w6 25 1 ⟨w.heap.size, 0, none⟩ 23 p.bs := FAt.mk' (off := 1) (by kernel_rfl) uSts rfl (by rw [add_pl, cell_blk hb16]; rfl)
      refine f1.vs h1 fun x36 => ?_
      refine CK_eq (bs := [pt t, p.bs]) rfl ?_ (CK_st Tryd.func38 rfl rfl (look_ok' hT (h.b.mod hm06) hf.2) ?_)
      · exact congrArg (fun z => [z, p.bs]) h4
      rintro _ w7 ⟨rfl, hm7⟩
      refine lcl_k (cs := (St.wrL (kindP p.decls) p.body).cells.toArray) zWrg _ iWrg rfl (wr_one _) fun w8 hb8 hm8 hz8 => ?_
      have hb28 := (hm7.trans hm8).blk hb26 id
      have hm08 := (hm06.trans hm7).trans hm8
      have hT8 := (hT.mod hm7).mod hm8
      have hlt8 : b3 < w7.heap.size := by have := X.blk_lt hb26; have := hm7.size; omega
      generalize w7.heap.size = b8 at *
      have g0 : FAt Tryd.prog w8 30 0 ⟨b8, 0, none⟩ 28 (.int .i64 (St.wrL (kindP p.decls) p.body).err) := FAt.mk' (off := 0) (by kernel_rfl) uErrI rfl (by rw [add_pl, cell_blk hb8]; rfl)
      refine g0.vk' fun x39 => ?_
      refine BKneI (a := (St.wrL (kindP p.decls) p.body).err) (b := 0) rfl rfl (fun hz => condF ?_) (fun hz => condT ?_)
      · have he : (checkP p).err = 0 := by rw [hcp]; exact hz
        have hcz : checkP p = zWr := by rw [hcp]; exact St.wrL_z _ (fun a _ => St.wr_z a) hz
        rw [build_ok bWr0]
        refine stS (b := b3) (old := zWr.cells.toArray) (cs := zWr.cells.toArray) h3 rfl iWrg rfl (wr_one _) hb28 fun w9 hb9 hm9 _ => ?_
        refine rtTC (b := b3) (cs := zWr.cells.toArray) ?_ Tryd.underlying30 rfl iWrg hb9 ?_
        · exact h3
        · refine ⟨_, by rw [hcz]; rfl, hm08.then hm9 (fun i hi q => absurd q (by omega)), fun _ => ⟨hmay, by rw [hdW]; rfl, t, ?_, ?_⟩, fun q => absurd he q⟩
          · exact h4
          · exact (hT8.off hm9 fun i q => by omega).low (by omega)
      · have he : (checkP p).err ≠ 0 := by rw [hcp]; exact hz
        have e5 : ∀ (KK : Exit → Sl → World → Prop), (∀ (ρ3 : Sl) (w9 : World), ρ3 3 = pt b3 → ρ3 2 = .pointer none → w9.heap[b3]? = some (.cells (checkP p).cells.toArray 30 (0, 0)) → Mod (fun i => i = b3) w8 w9 → KK .normal ρ3 w9) → ∀ (ρ2 : Sl), ρ2 3 = pt b3 → ρ2 8 = pt b8 → W fn_ Tryd.prog 45 scope_New_R5 KK ρ2 w8 := by
          intro KK kN ρ2 q3 q8
          refine scope_New_R5_tail (D := []) ?_
          unfold scope_New_R5_T
          have hbd : ({ w8 with drawn := w8.drawn + 1 } : World).heap[b8]? = some (.cells (St.wrL (kindP p.decls) p.body).cells.toArray 30 (0, 0)) := hb8
          have hbd3 : ({ w8 with drawn := w8.drawn + 1 } : World).heap[b3]? = some (.cells zWr.cells.toArray 30 (0, 0)) := hb28
          have hmd : Mod (fun i => i = b3) w8 { w8 with drawn := w8.drawn + 1 } := (Mod.refl _ w8).drawn _
          generalize ({ w8 with drawn := w8.drawn + 1 } : World) = wd at hbd hbd3 hmd ⊢
          dsimp only
          rw [q8]
          refine QV_of (v := (checkP p).v) (fun w' hw => by rw [hw, hcp]; exact run_ldB (cs := (St.wrL (kindP p.decls) p.body).cells.toArray) Tryd.underlying30 rfl iWrg hbd) ?_
          refine stS (b := b3) (old := zWr.cells.toArray) (cs := (checkP p).cells.toArray) q3 rfl iWrg rfl (wr_one _) hbd3 fun w9 hb9 hm9 _ => ?_
          refine kN _ w9 ?_ rfl hb9 (hmd.trans hm9)
          exact q3
        refine e5 _ (fun ρ3 w9 q3 q2 hb9 hm9 => ?_) _ ?_ ?_
        · rw [sq_n, scope_New_R6_eq]
          unfold scope_New_R6_F
          rw [sq_r]
          refine rtTC (b := b3) (cs := (checkP p).cells.toArray) q3 Tryd.underlying30 rfl iWrg hb9 ?_
          exact ⟨_, by rw [q2]; rfl, hm08.then hm9 (fun i hi q => absurd q (by omega)), fun q => absurd q he, fun _ => rfl⟩
        · exact h3
        · rfl
end Go.Proofs.YtbnbcimjapiicaaDoor.Tr
set_option linter.unusedVariables false
set_option linter.unusedSimpArgs false
set_option maxRecDepth 4000
namespace Go.Proofs.YtbnbcimjapiicaaDoor.Tr
open Go Go.X Go.RowKit Go.Proofs.YtbnbcimjapiicaaDoor.XG Go.Proofs.YtbnbcimjapiicaaDoor.XK
theorem fldK_run {w : World} (e : En) : (Instr.field 37 e.v 0).run Tryd.prog w = .ok (.int .u8 e.kind) w := by
  unfold Instr.field
  simp [Sem.run_bind, run_underlying Tryd.underlying37, part, isU, En.v, En.cells, asAgg]
end Go.Proofs.YtbnbcimjapiicaaDoor.Tr
set_option linter.unusedVariables false
set_option linter.unusedSimpArgs false
set_option maxRecDepth 4000
namespace Go.Proofs.YtbnbcimjapiicaaDoor.Tr
open Go Go.X Go.RowKit Go.Proofs.YtbnbcimjapiicaaDoor.XG Go.Proofs.YtbnbcimjapiicaaDoor.XK
theorem uTp : Tryd.prog.underlying 32 = some (.pointer 71) := by kernel_rfl
theorem FindT_ok {w : World} {base t : Nat} {ds : List De} (h : TbAt w base t ds) (k : ByteArray) : Rt Tryd.prog 16 #[pt t, .string k] w fun v w' => v = (findP ds k.data.toList).v ∧ Mod none_ w w' := by
  obtain ⟨nv, av, m, l, c, hR, hval⟩ := h.raw
  refine scope_Table_Find_calls ?_
  unfold scope_Table_Find_F
  refine al_k zEnt rfl _ fun w1 hb1 hm1 hz1 => ?_
  have hR1 := hR.mod hm1
  rw [BK_eqlP uTp]
  refine condF ?_
  rw [NK_ptr]
  have f1 : FAt Tryd.prog w1 71 1 ⟨t, 0, none⟩ 69 (.map (some m)) := FAt.mk' (off := 1) (by kernel_rfl) uMp rfl (by rw [add_pl, cell_blk hR1.bt]; rfl)
  refine f1.vk' fun x10 => ?_
  refine look_ok hR1.bm k ?_
  rw [hval]
  refine stS (b := w.heap.size) (old := zEn.cells.toArray) (cs := (findP ds k.data.toList).cells.toArray) rfl rfl iEnt rfl (en_one _) hb1 fun w2 hb2 hm2 _ => ?_
  exact ⟨_, res_ld (run_ldB (cs := (findP ds k.data.toList).cells.toArray) Tryd.underlying37 rfl iEnt hb2), rfl, hm1.then hm2 (fun i hi q => absurd q (by omega))⟩
end Go.Proofs.YtbnbcimjapiicaaDoor.Tr
set_option linter.unusedVariables false
set_option linter.unusedSimpArgs false
set_option maxRecDepth 4000
namespace Go.X
open Go Go.RowKit
/-- Elements of a slice that is there, behind one's own; none is as well. -/
theorem ap_some {P : Program} {w : World} {K : Value → World → Prop} {t ty e : TypeId} {size bytes base : Nat} (hE : elemOk P t e size bytes = true) {v : Value} {n : Nat} {xs : List Value} (hown : w.ownsRow base e size v n xs) {a : Addr} {m c : Nat} {news : List Value} (hr : reads w size (.slice (some a) m c) m news) (h1 : ∀ u ∈ news, u.oneCell' = true)
    (h63 : n + m ≤ maxLen) (hbytes : (n + m) * bytes ≤ 140737488355328) (hbase : base ≤ w.heap.size)
    (hk : ∀ v' w', w'.ownsRow base e size v' (n + m) (xs ++ news) → Mod (fun k => some k = v.ownBlock) w w' → K v' w') : IK P .append #[t, t] ty [false, false] [v, .slice (some a) m c] w K := by
  unfold elemOk at hE
  split at hE
  · rename_i e' i hu hi
    simp only [Bool.and_eq_true, beq_iff_eq] at hE
    obtain ⟨⟨⟨⟨rfl, hz⟩, hs⟩, hb⟩, hp⟩ := hE
    split at hz
    · rename_i z hzz
      have hz : z.cells.size = size := by simpa using hz
      have hpos : 0 < size := Nat.le_of_ble_eq_true hp
      obtain ⟨hl, A, c', q, _, hrd⟩ := hr
      cases q
      obtain ⟨v', w', hrun, h2, h3, h4, h5⟩ := run_append_own_at (P := P) w base t ty _ i z size bytes hu hi hzz hs hb hz hpos v n xs hown a m c news hl (fun j u hj => by obtain ⟨a', ha, hc⟩ := hrd j u hj; cases ha; exact hc) h1 h63 hbytes hbase
      exact IK_of (s := Builtin.append_ #[t, t] ty #[v, .slice (some a) m c]) rfl hrun (hk v' w' h2 (Mod.ofGrown h3))
    · cases hz
  · cases hE
/-- A slice literal without elements. -/
theorem bs0_k {P : Program} {w : World} {K : Value → World → Prop} {t e : TypeId} {n : Nat} (hu : P.underlying t = some (.slice e)) (hi : (P.info? e).map (·.size) = some n)
    (hk : ∀ w', w'.heap[w.heap.size]? = some (.cells #[] e (0, 0)) → Mod none_ w w' → w'.heap.size = w.heap.size + 1 → K (.slice (some ⟨w.heap.size, 0, none⟩) 0 0) w') : VK P (Instr.buildSlice t 0 [].toArray) w K := by
  obtain ⟨ie, hie, _⟩ := Option.map_eq_some_iff.1 hi
  have hr : (Instr.buildSlice t 0 [].toArray).run P w = .ok (.slice (some ⟨w.heap.size, 0, none⟩) 0 0) (w.alloc (.cells #[] e)) := by
    simp [Instr.buildSlice, Sem.run_bind, run_underlying hu, sizeOf, typeInfo, hie, Instr.fill, newRow]
    rw [Array.eq_empty_of_size_eq_zero (xs := Array.map _ (Array.range 0)) (by simp)]
  exact VK_of hr (new_k w _ hk)
/-- A row of one's own, without elements. -/
theorem owns_zero {w : World} {b : Nat} {e : TypeId} {size base : Nat} (h : w.heap[b]? = some (.cells #[] e (0, 0))) (hb : base ≤ b) : w.ownsRow base e size (.slice (some ⟨b, 0, none⟩) 0 0) 0 [] :=
  ⟨by simp, .inr ⟨b, 0, #[], rfl, hb, h, Nat.le_refl _, Nat.zero_le _, by simp, by simp⟩⟩
/-- One cell of a row of one's own, stored. -/
theorem put_row {P : Program} {w : World} {K : Value → Value → World → Prop} {t e : TypeId} {base n i : Nat} {v u : Value} {xs : List Value} (hu : P.underlying t = some (.slice e)) (hc : P.cellsOf e = 0 + 1) (hv : u.oneCell' = true) (hown : w.ownsRow base e 1 v n xs) (hi : i < n)
    (hk : ∀ x w', w'.ownsRow base e 1 v n (xs.set i u) → Mod (fun b => some b = v.ownBlock) w w' → K x undef w') : VK P (Instr.indexAt t v (.int .i64 (i : Int))) w fun x w => UK P (Instr.storeAt e x u) w (K x) := by
  obtain ⟨g, cap, rfl, cur, hb⟩ := owns_some hown (by omega)
  rw [ixa hu hc (by omega) (by omega), add_pl]
  simp only [Int.toNat_natCast, Nat.zero_add, Nat.mul_one]
  refine st_row hc hv hown (by omega) fun w' h1 h2 => hk _ _ h1 (h2.mono fun _ _ q => by rw [q]; rfl)
end Go.X
namespace Go.Proofs.YtbnbcimjapiicaaDoor.Tr
open Go Go.X Go.RowKit Go.Proofs.YtbnbcimjapiicaaDoor.XG Go.Proofs.YtbnbcimjapiicaaDoor.XK
theorem BK_slN {t e : TypeId} (h : Tryd.prog.underlying t = some (.slice e)) {w : World} {K : Value → World → Prop} {x y : Operand} (a : Option Addr) (n c : Nat) : BK Tryd.prog .eql t x y (.slice a n c) (.slice none 0 0) w K = K (.bool a.isNone) w :=
  BK_of rfl (Lib.run_eql_slice_nil w t e a n c 0 0 h)
theorem CloneI_ok {w : World} {v : Value} {n : Nat} {xs : List Int} (h : reads w 1 v n (xs.map (.int .i64))) (hn : n ≤ 1099511627776) : Rt Tryd.prog 47 #[v] w fun v' w' => w'.ownsRow w.heap.size 3 1 v' n (xs.map (.int .i64)) ∧ Mod none_ w w' := by
  obtain ⟨A, c, rfl, hnc⟩ := reads_cap h
  refine slices_Clone_int_int_calls ?_
  unfold slices_Clone_int_int_F
  rw [BK_slN uIs]
  cases A with
  | none =>
    refine condT ⟨?_, Mod.refl _ _⟩
    have h0 : (xs.map (Value.int .i64)) = [] := by
      obtain ⟨hl, A', c', q, _, hr⟩ := h
      cases q
      rcases Nat.eq_zero_or_pos (xs.map (Value.int .i64)).length with q | q
      · exact List.length_eq_zero_iff.1 q
      · obtain ⟨a, ha, _⟩ := hr 0 _ (List.getElem?_eq_getElem q)
        cases ha
    have hn0 : n = 0 := by have := h.1; rw [h0] at this; simp at this; omega
    rw [h0, hn0]
    exact ⟨rfl, .inl ⟨rfl, rfl⟩⟩
  | some a =>
    refine condF ?_
    refine bs0_k uIs (show (Tryd.prog.info? 3).map (·.size) = some 1 by kernel_rfl) fun w1 hb1 hm1 hz1 => ?_
    have hown : w1.ownsRow w.heap.size 3 1 (.slice (some ⟨w.heap.size, 0, none⟩) 0 0) 0 [] := owns_zero hb1 (Nat.le_refl _)
    refine ap_some eIs hown (reads_mod h hm1 (fun _ _ _ => id)) (by simp [Value.oneCell']) (by unfold maxLen; omega) (by omega) (by omega) fun v' w' h2 hm2 => ?_
    refine ⟨by simpa using h2, hm1.then hm2 fun i hi q => ?_⟩
    have : i = w.heap.size := by simpa [Value.ownBlock] using q
    omega
section
variable {w : World} {base t : Nat} {ds : List De}
theorem VarsT_ok (h : TbAt w base t ds) : Rt Tryd.prog 22 #[pt t] w fun v w' => v = .int .i64 (vars ds) ∧ Mod none_ w w' := by
  obtain ⟨nv, av, m, l, c, hR, _⟩ := h.raw
  refine scope_Table_Vars_calls ?_
  unfold scope_Table_Vars_F
  rw [BK_eqlP uTp]
  refine condF ?_
  rw [NK_ptr]
  have f : FAt Tryd.prog w 71 2 ⟨t, 0, none⟩ 3 (.int .i64 (vars ds)) := FAt.mk' (off := 2) (by kernel_rfl) uI rfl (by rw [add_pl, cell_blk hR.bt]; rfl)
  refine f.vk' fun _ => ⟨rfl, Mod.refl _ _⟩
theorem ArraysT_ok (h : TbAt w base t ds) (hl : ds.length ≤ 1099511627776) : Rt Tryd.prog 23 #[pt t] w fun v w' => w'.ownsRow w.heap.size 3 1 v (arrs ds).length ((arrs ds).map (.int .i64)) ∧ Mod none_ w w' := by
  obtain ⟨nv, av, m, l, c, hR, _⟩ := h.raw
  refine scope_Table_Arrays_calls ?_
  unfold scope_Table_Arrays_F
  rw [BK_eqlP uTp]
  refine condF ?_
  rw [NK_ptr]
  have f : FAt Tryd.prog w 71 3 ⟨t, 0, none⟩ 50 av := FAt.mk' (off := 3) (by kernel_rfl) uIs rfl (by rw [add_pl, cell_blk hR.bt]; rfl)
  refine f.vk' fun _ => ?_
  have hoa := reads_of_owns hR.oa
  rw [List.length_map] at hoa
  have := arrs_le ds
  exact CK_st Tryd.func47 rfl rfl (CloneI_ok hoa (by omega)) fun v w' h => h
end
end Go.Proofs.YtbnbcimjapiicaaDoor.Tr
set_option linter.unusedVariables false
set_option linter.unusedSimpArgs false
set_option maxRecDepth 4000
namespace Go.X
open Go Go.Proofs.YtbnbcimjapiicaaDoor.Tr
theorem Ex.er_bad (f : Key → Int) (e : Ex) : e.er.bad f = e.bad f := by rw [Ex.er_eq]; rfl
theorem Ex.er_wr (f : Key → Int) : ∀ e : Ex, e.er.wr f = e.wr f := by
  intro e
  induction e using Ex.ind with
  | h e ih =>
    have : ∀ l : List Ex, (∀ a ∈ l, a.er.wr f = a.wr f) → Ex.wrL f (l.map Ex.er) = Ex.wrL f l := by
      intro l
      induction l with
      | nil => intro _; rfl
      | cons a r ihr =>
        intro h
        rw [List.map_cons, Ex.wrL, Ex.wrL, h a (List.mem_cons_self ..), ihr fun b hb => h b (List.mem_cons_of_mem _ hb)]
    rw [Ex.wr_eq, Ex.wr_eq, Ex.er_bad, Ex.er_line, Ex.er_col, Ex.er_args, this e.args ih]
theorem Ex.wrL_er (f : Key → Int) : ∀ l : List Ex, Ex.wrL f (l.map Ex.er) = Ex.wrL f l
  | [] => rfl
  | a :: r => by rw [List.map_cons, Ex.wrL, Ex.wrL, Ex.er_wr, Ex.wrL_er f r]
theorem St.er_bad (f : Key → Int) (e : St) : e.er.bad f = e.bad f := by rw [St.er_eq]; rfl
theorem St.er_wr (f : Key → Int) : ∀ e : St, e.er.wr f = e.wr f := by
  intro e
  induction e using St.ind with
  | h e ih1 ih2 =>
    have : ∀ l : List St, (∀ a ∈ l, a.er.wr f = a.wr f) → St.wrL f (l.map St.er) = St.wrL f l := by
      intro l
      induction l with
      | nil => intro _; rfl
      | cons a r ihr =>
        intro h
        rw [List.map_cons, St.wrL, St.wrL, h a (List.mem_cons_self ..), ihr fun b hb => h b (List.mem_cons_of_mem _ hb)]
    rw [St.wr_eq, St.wr_eq, St.er_bad, St.er_line, St.er_col, St.er_exprs, St.er_body, St.er_els, Ex.wrL_er, this _ ih1, this _ ih2]
theorem St.wrL_er (f : Key → Int) : ∀ l : List St, St.wrL f (l.map St.er) = St.wrL f l
  | [] => rfl
  | a :: r => by rw [List.map_cons, St.wrL, St.wrL, St.er_wr, St.wrL_er f r]
theorem QGf {P : Program} {C : World → Prop} {s : Sem Next} {K : Value → Prop} : QG P C (.bool false) false s K = QK P C s K := by rw [QG_b, if_pos rfl]
end Go.X
namespace Go.Proofs.YtbnbcimjapiicaaDoor.Tr
open Go Go.X Go.RowKit Go.Proofs.YtbnbcimjapiicaaDoor.XG Go.Proofs.YtbnbcimjapiicaaDoor.XK
theorem checkP_er (p : Pr) : checkP p.er = checkP p := by
  unfold checkP
  rw [Pr.er_may]
  show (if p.may = true then if (declsW [] p.decls).err = 0 then St.wrL (kindP p.decls) (p.body.map St.er) else _ else _) = _
  rw [St.wrL_er]
  rfl
theorem checkP_of {p q : Pr} (h : q.er = p.er) : checkP q = checkP p := by rw [← checkP_er q, h, checkP_er]
theorem fits_of {p q : Pr} (h : q.er = p.er) (hf : p.fits) : q.fits := by
  have h1 : q.decls = p.decls := by have := congrArg Pr.decls h; exact this
  have h2 : q.body.map St.er = p.body.map St.er := by have := congrArg Pr.body h; exact this
  refine ⟨by rw [h1]; exact hf.1, ?_⟩
  rw [← St.szL_er, h2, St.szL_er]
  exact hf.2
end Go.Proofs.YtbnbcimjapiicaaDoor.Tr
set_option linter.unusedVariables false
set_option linter.unusedSimpArgs false
set_option maxRecDepth 4000
namespace Go.Proofs.YtbnbcimjapiicaaDoor.Tr
open Go Go.X Go.RowKit Go.Proofs.YtbnbcimjapiicaaDoor.XC Go.Proofs.YtbnbcimjapiicaaDoor.XK
end Go.Proofs.YtbnbcimjapiicaaDoor.Tr
set_option linter.unusedVariables false
set_option linter.unusedSimpArgs false
set_option maxRecDepth 4000
namespace Go.Proofs.YtbnbcimjapiicaaDoor.Tr
open Go Go.X Go.RowKit Go.Proofs.YtbnbcimjapiicaaDoor.XC Go.Proofs.YtbnbcimjapiicaaDoor.XK
end Go.Proofs.YtbnbcimjapiicaaDoor.Tr
set_option linter.unusedVariables false
set_option linter.unusedSimpArgs false
set_option maxRecDepth 4000
namespace Go.Proofs.YtbnbcimjapiicaaDoor.Tr
open Go Go.X Go.RowKit Go.Proofs.YtbnbcimjapiicaaDoor.XG Go.Proofs.YtbnbcimjapiicaaDoor.XK
theorem Check_ok {w : World} (hg : Gl w) {p : Pr} (h : p.Ok w) (hf : p.fits) : Rt Tryd.prog 14 #[.agg p.cells.toArray] w fun v w' => v = (checkP p).v ∧ Mod none_ w w' := by
  refine scope_Check_calls ?_
  unfold scope_Check_F
  refine box_k (cs := p.cells.toArray) rfl fun w1 hb1 hm1 hz1 => ?_
  refine al_k (cs := zWr.cells.toArray) zWrg rfl _ fun w2 hb2 hm2 hz2 => ?_
  have hb12 := hm2.blk hb1 id
  have hm02 := hm1.trans hm2
  refine ldB (cs := p.cells.toArray) Tryd.underlying25 rfl iPr hb12 ?_
  refine CK_st Tryd.func13 rfl rfl (New_ok (hg.mod hm02) (h.mod hm02) hf) ?_
  rintro _ w3 ⟨x, rfl, hT⟩
  rw [extract_ok (v := x) rfl, extract_ok (v := (checkP p).v) rfl]
  have hm3 := hT.m
  have hb23 := hm3.blk hb2 id
  refine lcl_k (cs := (checkP p).cells.toArray) zWrg _ iWrg rfl (wr_one _) fun w4 hb4 hm4 hz4 => ?_
  have hb24 := hm4.blk hb23 id
  have hm04 := (hm02.trans hm3).trans hm4
  refine ldB (cs := (checkP p).cells.toArray) Tryd.underlying30 rfl iWrg hb4 ?_
  refine stS (old := zWr.cells.toArray) (cs := (checkP p).cells.toArray) rfl rfl iWrg rfl (wr_one _) hb24 fun w5 hb5 hm5 hz5 => ?_
  refine rsCell (R := fun v w' => v = (checkP p).v ∧ Mod none_ w w') (cs := (checkP p).cells.toArray) rfl Tryd.underlying30 rfl iWrg hb5 ⟨rfl, hm04.then hm5 fun i hi q => by omega⟩
end Go.Proofs.YtbnbcimjapiicaaDoor.Tr
set_option linter.unusedVariables false
set_option maxRecDepth 100000
namespace Go.Proofs.YtbnbcimjapiicaaDoor.Tr
open Go Go.X Go.RowKit
def tellB (b : Bs) (e : Wr) : Bool := (readP b).any fun p => p.fitsB && decide (checkP p = e)
theorem tx1 : tellB [105, 110, 116, 32, 120, 59, 32, 120, 32, 61, 32, 121, 59] ⟨40, 1, 12⟩ = true := by kernel_rfl
theorem tx2 : tellB [105, 110, 116, 32, 97, 91, 50, 93, 59, 32, 97, 32, 61, 32, 49, 59] ⟨40, 1, 11⟩ = true := by kernel_rfl
theorem tx3 : tellB [105, 110, 116, 32, 120, 59, 32, 105, 110, 116, 32, 120, 59] ⟨40, 1, 12⟩ = true := by kernel_rfl
def newB (b : Bs) (f : Pr → Bool) : Bool := (readP b).any fun p => p.fitsB && decide (checkP p = ⟨0, 0, 0⟩) && f p
theorem tx0 : newB [105, 110, 116, 32, 120, 59, 32, 105, 110, 116, 32, 97, 91, 51, 93, 59, 32, 105, 110, 116, 32, 121, 59, 32, 105, 110, 116, 32, 98, 91, 50, 93, 59] (fun p => decide (findP p.decls [121] = ⟨1, 1, 0, 0⟩) && decide (findP p.decls [98] = ⟨2, 1, 3, 2⟩)) = true := by kernel_rfl
end Go.Proofs.YtbnbcimjapiicaaDoor.Tr
set_option linter.unusedVariables false
set_option maxRecDepth 100000
namespace Go.Proofs.YtbnbcimjapiicaaDoor.XL
open Go Go.X
/-- dispatcher/dispatcherlaw04.read -/
noncomputable def dispatcherlaw04_read_b : Code := (Tryd.f40.body).getD .skip
noncomputable def dispatcherlaw04_read_F (a0 : Value) (w : World) (R : Value → World → Prop) : Prop :=
  VK Tryd.prog (Instr.alloc 25 true (.tuple #[])) w fun x2 w => VK Tryd.prog (convert 9 95 a0) w fun x11 w => CK Tryd.prog (Value.func (Fn.func 64) #[] #[]) [x11] w fun x12 w => VK Tryd.prog (Instr.extract x12 0) w fun x13 w => VK Tryd.prog (Instr.extract x12 1) w fun x14 w => VK Tryd.prog (Instr.extract x12 2) w fun x15 w => VK Tryd.prog (Instr.extract x12 3) w fun x16 w => CK Tryd.prog (Value.func (Fn.func 65) #[] #[]) [x13] w fun x19 w => VK Tryd.prog (Instr.extract x19 0) w fun x20 w => VK Tryd.prog (Instr.extract x19 1) w fun x21 w => VK Tryd.prog (Instr.alloc 25 true (.tuple #[])) w fun x7 w => VK Tryd.prog (Instr.alloc 30 true (.tuple #[])) w fun x8 w => UK Tryd.prog (Instr.storeAt 25 x7 x20) w fun _ w => UK Tryd.prog (Instr.storeAt 30 x8 x21) w fun _ w => VK Tryd.prog (Instr.loadAt 25 x7) w fun x22 w => UK Tryd.prog (Instr.storeAt 25 x2 x22) w fun _ w => ∃ x2_1, (do loadVar 25 (← asAddr x2) : Sem Value).run Tryd.prog w = .ok x2_1 w ∧ R x2_1 w
theorem dispatcherlaw04_read_eq (a0 : Value) (w : World) (R : Value → World → Prop) : sx fn_ Tryd.prog 23 dispatcherlaw04_read_b (retK Tryd.prog Tryd.f40.results.toList R) (rho0 [a0]) w = dispatcherlaw04_read_F a0 w R := by kernel_rfl
theorem dispatcherlaw04_read_calls {a0 : Value} {w : World} {R : Value → World → Prop} (h : dispatcherlaw04_read_F a0 w R) : Calls Tryd.prog 40 #[a0] w fun e w' => ∃ v, e = .returned v ∧ R v w' :=
  Go.X.calls_of_sx (n := 23) (c := dispatcherlaw04_read_b) Tryd.func40 (by kernel_rfl) (by kernel_rfl) (Nat.le_of_ble_eq_true rfl) (by kernel_rfl) (Eq.mpr (dispatcherlaw04_read_eq a0 w R) h)
/-- dispatcher/dispatcherlaw04.told -/
noncomputable def dispatcherlaw04_told_b : Code := (Tryd.f41.body).getD .skip
noncomputable def dispatcherlaw04_told_F (a0 a1 a2 a3 : Value) (w : World) (R : Value → World → Prop) : Prop :=
  CK Tryd.prog (Value.func (Fn.func 40) #[] #[]) [a0] w fun x10 w => CK Tryd.prog (Value.func (Fn.func 14) #[] #[]) [x10] w fun x11 w => VK Tryd.prog (Instr.build 30 [(0, a1), (1, a2), (2, a3)].toArray) w fun x15 w => BK Tryd.prog BinOp.eql 30 (Operand.tmp 11) (Operand.tmp 15) x11 x15 w fun x16 w => R x16 w
theorem dispatcherlaw04_told_eq (a0 a1 a2 a3 : Value) (w : World) (R : Value → World → Prop) : sx fn_ Tryd.prog 17 dispatcherlaw04_told_b (retK Tryd.prog Tryd.f41.results.toList R) (rho0 [a0, a1, a2, a3]) w = dispatcherlaw04_told_F a0 a1 a2 a3 w R := by kernel_rfl
theorem dispatcherlaw04_told_calls {a0 a1 a2 a3 : Value} {w : World} {R : Value → World → Prop} (h : dispatcherlaw04_told_F a0 a1 a2 a3 w R) : Calls Tryd.prog 41 #[a0, a1, a2, a3] w fun e w' => ∃ v, e = .returned v ∧ R v w' :=
  Go.X.calls_of_sx (n := 17) (c := dispatcherlaw04_told_b) Tryd.func41 (by kernel_rfl) (by kernel_rfl) (Nat.le_of_ble_eq_true rfl) (by kernel_rfl) (Eq.mpr (dispatcherlaw04_told_eq a0 a1 a2 a3 w R) h)
/-- dispatcher/dispatcherlaw04.awake -/
noncomputable def dispatcherlaw04_awake_b : Code := (Tryd.f18.body).getD .skip
noncomputable def dispatcherlaw04_awake_F (w : World) (R : Value → World → Prop) : Prop :=
  CK Tryd.prog (Value.func (Fn.func 40) #[] #[]) [(Value.string { data := #[105, 110, 116, 32, 120, 59, 32, 105, 110, 116, 32, 97, 91, 51, 93, 59, 32, 105, 110, 116, 32, 121, 59, 32, 105, 110, 116, 32, 98, 91, 50, 93, 59] })] w fun x4 w => CK Tryd.prog (Value.func (Fn.func 13) #[] #[]) [x4] w fun x5 w => VK Tryd.prog (Instr.extract x5 0) w fun x6 w => VK Tryd.prog (Instr.extract x5 1) w fun x7 w => VK Tryd.prog (Instr.alloc 30 true (.tuple #[])) w fun x2 w => UK Tryd.prog (Instr.storeAt 30 x2 x7) w fun _ w => VK Tryd.prog (Instr.fieldAt 30 x2 0) w fun x8 w => VK Tryd.prog (Instr.loadAt 28 x8) w fun x9 w => BK Tryd.prog BinOp.neq 28 (Operand.tmp 9) (Operand.const (Value.int IntKind.i64 0)) x9 (Value.int IntKind.i64 0) w fun x10 w => MG Tryd.prog x10 false x6 w fun x12 w => BG Tryd.prog x10 false BinOp.eql 32 (Operand.tmp 12) (Operand.const (Value.pointer none)) x12 (Value.pointer none) w fun x13 w => PK Tryd.prog x10 (Value.bool true) x13 w fun x14 w => CondK x14 (R (Value.bool false) w) (CK Tryd.prog (Value.func (Fn.func 16) #[] #[]) [x6, (Value.string { data := #[121] })] w fun x16 w => VK Tryd.prog (Instr.build 37 [(0, (Value.int IntKind.u8 1)), (1, (Value.int IntKind.i64 1))].toArray) w fun x17 w => BK Tryd.prog BinOp.eql 37 (Operand.tmp 16) (Operand.tmp 17) x16 x17 w fun x18 w => MG Tryd.prog x18 true x6 w fun x20 w => CG Tryd.prog x18 true (Value.func (Fn.func 16) #[] #[]) [x20, (Value.string { data := #[98] })] w fun x21 w => VG Tryd.prog x18 true (Instr.build 37 [(0, (Value.int IntKind.u8 2)), (1, (Value.int IntKind.i64 1)), (2, (Value.int IntKind.i64 3)), (3, (Value.int IntKind.i64 2))].toArray) w fun x22 w => BG Tryd.prog x18 true BinOp.eql 37 (Operand.tmp 21) (Operand.tmp 22) x21 x22 w fun x23 w => PK Tryd.prog x18 x23 (Value.bool false) w fun x24 w => CG Tryd.prog x24 true (Value.func (Fn.func 41) #[] #[]) [(Value.string { data := #[105, 110, 116, 32, 120, 59, 32, 120, 32, 61, 32, 121, 59] }), (Value.int IntKind.i64 40), (Value.int IntKind.i64 1), (Value.int IntKind.i64 12)] w fun x26 w => PK Tryd.prog x24 x26 (Value.bool false) w fun x27 w => CG Tryd.prog x27 true (Value.func (Fn.func 41) #[] #[]) [(Value.string { data := #[105, 110, 116, 32, 97, 91, 50, 93, 59, 32, 97, 32, 61, 32, 49, 59] }), (Value.int IntKind.i64 40), (Value.int IntKind.i64 1), (Value.int IntKind.i64 11)] w fun x29 w => PK Tryd.prog x27 x29 (Value.bool false) w fun x30 w => CG Tryd.prog x30 true (Value.func (Fn.func 41) #[] #[]) [(Value.string { data := #[105, 110, 116, 32, 120, 59, 32, 105, 110, 116, 32, 120, 59] }), (Value.int IntKind.i64 40), (Value.int IntKind.i64 1), (Value.int IntKind.i64 12)] w fun x32 w => PK Tryd.prog x30 x32 (Value.bool false) w fun x33 w => R x33 w)
theorem dispatcherlaw04_awake_eq (w : World) (R : Value → World → Prop) : sx fn_ Tryd.prog 34 dispatcherlaw04_awake_b (retK Tryd.prog Tryd.f18.results.toList R) (rho0 []) w = dispatcherlaw04_awake_F  w R := by kernel_rfl
theorem dispatcherlaw04_awake_calls {w : World} {R : Value → World → Prop} (h : dispatcherlaw04_awake_F  w R) : Calls Tryd.prog 18 #[] w fun e w' => ∃ v, e = .returned v ∧ R v w' :=
  Go.X.calls_of_sx (n := 34) (c := dispatcherlaw04_awake_b) Tryd.func18 (by kernel_rfl) (by kernel_rfl) (Nat.le_of_ble_eq_true rfl) (by kernel_rfl) (Eq.mpr (dispatcherlaw04_awake_eq  w R) h)
/-- dispatcher/dispatcherlaw04.ScopeApart -/
noncomputable def dispatcherlaw04_ScopeApart_b : Code := (Tryd.f7.body).getD .skip
noncomputable def dispatcherlaw04_ScopeApart_R0 : Code := cAt [1, 1, 1, 1, 1, 1, 0] dispatcherlaw04_ScopeApart_b
noncomputable def dispatcherlaw04_ScopeApart_R1 : Code := cAt [1, 1, 1, 1, 1, 1, 1] dispatcherlaw04_ScopeApart_b
noncomputable def dispatcherlaw04_ScopeApart_L2 : Code := cAt [1, 1, 1, 1, 1, 1, 1, 1, 1, 0, 1, 0, 0] dispatcherlaw04_ScopeApart_b
noncomputable def dispatcherlaw04_ScopeApart_R3 : Code := cAt [1, 1, 1, 1, 1, 1, 1, 1, 1, 1] dispatcherlaw04_ScopeApart_b
noncomputable def dispatcherlaw04_ScopeApart_R5 : Code := cAt [1, 1, 1, 1, 1, 1, 1, 1, 1, 0, 1, 0, 0, 1, 0, 0, 1, 1, 1, 0, 1, 0, 0, 0] dispatcherlaw04_ScopeApart_b
noncomputable def dispatcherlaw04_ScopeApart_R6 : Code := cAt [1, 1, 1, 1, 1, 1, 1, 1, 1, 0, 1, 0, 0, 1, 0, 0, 1, 1, 1, 0, 1, 0, 0, 1] dispatcherlaw04_ScopeApart_b
noncomputable def dispatcherlaw04_ScopeApart_R7 : Code := cAt [1, 1, 1, 1, 1, 1, 1, 1, 1, 0, 1, 0, 0, 1, 0, 0, 1, 1, 1, 0, 1, 0, 1] dispatcherlaw04_ScopeApart_b
noncomputable def dispatcherlaw04_ScopeApart_R8 : Code := cAt [1, 1, 1, 1, 1, 1, 1, 1, 1, 0, 1, 0, 0, 1, 0, 0, 1, 1, 1, 1] dispatcherlaw04_ScopeApart_b
noncomputable def dispatcherlaw04_ScopeApart_R9 : Code := cAt [1, 1, 1, 1, 1, 1, 1, 1, 1, 0, 1, 0, 0, 1, 0, 0, 1, 1, 1, 1, 0, 0] dispatcherlaw04_ScopeApart_b
noncomputable def dispatcherlaw04_ScopeApart_R10 : Code := cAt [1, 1, 1, 1, 1, 1, 1, 1, 1, 0, 1, 0, 0, 1, 0, 0, 1, 1, 1, 1, 0, 1] dispatcherlaw04_ScopeApart_b
noncomputable def dispatcherlaw04_ScopeApart_R11 : Code := cAt [1, 1, 1, 1, 1, 1, 1, 1, 1, 0, 1, 0, 0, 1, 0, 0, 1, 1, 1, 1, 1] dispatcherlaw04_ScopeApart_b
noncomputable def dispatcherlaw04_ScopeApart_R1_F (z : At) (K : Exit → Sl → World → Prop) (ρ : Sl) (w : World) : Prop :=
  CK Tryd.prog (Value.func (Fn.func 23) #[] #[]) [(ρ 5)] w fun x51 w => W z Tryd.prog 207 (Code.loop dispatcherlaw04_ScopeApart_L2) (blkK 0 (seqK (sx z Tryd.prog 207 dispatcherlaw04_ScopeApart_R3 K) K)) (up (up (up (up (up ρ 50 (ρ 5)) 51 x51) 10 x51) 11 (Value.bool false)) 12 (Value.int IntKind.i64 0)) w
theorem dispatcherlaw04_ScopeApart_R1_eq (z : At) (K : Exit → Sl → World → Prop) (ρ : Sl) (w : World) : sx z Tryd.prog 207 dispatcherlaw04_ScopeApart_R1 K ρ w = dispatcherlaw04_ScopeApart_R1_F z K ρ w := by kernel_rfl
noncomputable def dispatcherlaw04_ScopeApart_R3_F (z : At) (K : Exit → Sl → World → Prop) (ρ : Sl) (w : World) : Prop :=
  CK Tryd.prog (Value.func (Fn.func 22) #[] #[]) [(ρ 5)] w fun x184 w => CK Tryd.prog (Value.func (Fn.func 27) #[] #[]) [(ρ 7), x184] w fun x185 w => MG Tryd.prog x185 true (ρ 8) w fun x187 w => MG Tryd.prog x185 true (ρ 10) w fun x188 w => IG Tryd.prog x185 true Builtin.len #[50] 3 [false] [x188] w fun x189 w => CG Tryd.prog x185 true (Value.func (Fn.func 27) #[] #[]) [x187, x189] w fun x190 w => PK Tryd.prog x185 x190 (Value.bool false) w fun x191 w => MG Tryd.prog x191 true (ρ 9) w fun x193 w => MG Tryd.prog x191 true (ρ 10) w fun x194 w => CG Tryd.prog x191 true (Value.func (Fn.func 28) #[] #[]) [x194] w fun x195 w => CG Tryd.prog x191 true (Value.func (Fn.func 27) #[] #[]) [x193, x195] w fun x196 w => PK Tryd.prog x191 x196 (Value.bool false) w fun x197 w => MG Tryd.prog x197 true (ρ 11) w fun x199 w => MG Tryd.prog x197 true (ρ 5) w fun x200 w => MG Tryd.prog x197 true (ρ 1) w fun x201 w => CG Tryd.prog x197 true (Value.func (Fn.func 16) #[] #[]) [x200, x201] w fun x202 w => VG Tryd.prog x197 true (Instr.field 37 x202 0) w fun x203 w => BG Tryd.prog x197 true BinOp.neq 5 (Operand.tmp 203) (Operand.const (Value.int IntKind.u8 0)) x203 (Value.int IntKind.u8 0) w fun x204 w => BG Tryd.prog x197 true BinOp.eql 4 (Operand.tmp 199) (Operand.tmp 204) x199 x204 w fun x205 w => PK Tryd.prog x197 x205 (Value.bool false) w fun x206 w => K Exit.ret (up (up (up (up (up (up (up (up (up (up (up (up (up (up (up (up (up (up (up (up (up (up (up (up (up (up ρ 182 (ρ 7)) 183 (ρ 5)) 184 x184) 185 x185) 186 x185) 187 x187) 188 x188) 189 x189) 190 x190) 191 x191) 192 x191) 193 x193) 194 x194) 195 x195) 196 x196) 197 x197) 198 x197) 199 x199) 200 x200) 201 x201) 202 x202) 203 x203) 204 x204) 205 x205) 206 x206) 4 x206) w
theorem dispatcherlaw04_ScopeApart_R3_eq (z : At) (K : Exit → Sl → World → Prop) (ρ : Sl) (w : World) : sx z Tryd.prog 207 dispatcherlaw04_ScopeApart_R3 K ρ w = dispatcherlaw04_ScopeApart_R3_F z K ρ w := by kernel_rfl
noncomputable def dispatcherlaw04_ScopeApart_R6_F (z : At) (K : Exit → Sl → World → Prop) (ρ : Sl) (w : World) : Prop :=
  CondK (ρ 102) (K Exit.ret (up ρ 4 (Value.bool false)) w) (K Exit.normal ρ w)
theorem dispatcherlaw04_ScopeApart_R6_eq (z : At) (K : Exit → Sl → World → Prop) (ρ : Sl) (w : World) : sx z Tryd.prog 207 dispatcherlaw04_ScopeApart_R6 K ρ w = dispatcherlaw04_ScopeApart_R6_F z K ρ w := by kernel_rfl
noncomputable def dispatcherlaw04_ScopeApart_R7_F (z : At) (K : Exit → Sl → World → Prop) (ρ : Sl) (w : World) : Prop :=
  VK Tryd.prog (Instr.fieldAt 37 (ρ 14) 1) w fun x104 w => VK Tryd.prog (Instr.loadAt 3 x104) w fun x105 w => VK Tryd.prog (Instr.indexAt 50 (ρ 7) x105) w fun x106 w => VK Tryd.prog (Instr.loadAt 3 x106) w fun x107 w => BK Tryd.prog BinOp.add 3 (Operand.tmp 107) (Operand.const (Value.int IntKind.i64 1)) x107 (Value.int IntKind.i64 1) w fun x108 w => VK Tryd.prog (Instr.indexAt 50 (ρ 7) x105) w fun x109 w => UK Tryd.prog (Instr.storeAt 3 x109 x108) w fun _ w => K (Exit.exit 1) (up (up (up (up (up (up (up ρ 103 (ρ 7)) 104 x104) 105 x105) 106 x106) 107 x107) 108 x108) 109 x109) w
theorem dispatcherlaw04_ScopeApart_R7_eq (z : At) (K : Exit → Sl → World → Prop) (ρ : Sl) (w : World) : sx z Tryd.prog 207 dispatcherlaw04_ScopeApart_R7 K ρ w = dispatcherlaw04_ScopeApart_R7_F z K ρ w := by kernel_rfl
noncomputable def dispatcherlaw04_ScopeApart_R10_F (z : At) (K : Exit → Sl → World → Prop) (ρ : Sl) (w : World) : Prop :=
  CondK (ρ 159) (K Exit.ret (up ρ 4 (Value.bool false)) w) (K Exit.normal ρ w)
theorem dispatcherlaw04_ScopeApart_R10_eq (z : At) (K : Exit → Sl → World → Prop) (ρ : Sl) (w : World) : sx z Tryd.prog 207 dispatcherlaw04_ScopeApart_R10 K ρ w = dispatcherlaw04_ScopeApart_R10_F z K ρ w := by kernel_rfl
noncomputable def dispatcherlaw04_ScopeApart_F (a0 a1 : Value) (w : World) (R : Value → World → Prop) : Prop :=
  VK Tryd.prog (Instr.box 25 a0) w fun x2 w => CK Tryd.prog (Value.func (Fn.func 18) #[] #[]) [] w fun x16 w => VK Tryd.prog (Op.unary UnOp.not x16) w fun x17 w => CondK x17 (R (Value.bool false) w) (VK Tryd.prog (Instr.loadAt 25 x2) w fun x18 w => CK Tryd.prog (Value.func (Fn.func 10) #[] #[]) [x18] w fun x19 w => MG Tryd.prog x19 false a1 w fun x21 w => IG Tryd.prog x19 false Builtin.len #[9] 3 [false] [x21] w fun x22 w => BG Tryd.prog x19 false BinOp.gtr 3 (Operand.tmp 22) (Operand.const (Value.int IntKind.i64 30)) x22 (Value.int IntKind.i64 30) w fun x23 w => PK Tryd.prog x19 (Value.bool true) x23 w fun x24 w => CondK x24 (R (Value.bool true) w) (VK Tryd.prog (Instr.loadAt 25 x2) w fun x26 w => CK Tryd.prog (Value.func (Fn.func 13) #[] #[]) [x26] w fun x27 w => VK Tryd.prog (Instr.extract x27 0) w fun x28 w => VK Tryd.prog (Instr.extract x27 1) w fun x29 w => VK Tryd.prog (Instr.alloc 30 true (.tuple #[])) w fun x6 w => UK Tryd.prog (Instr.storeAt 30 x6 x29) w fun _ w => VK Tryd.prog (Instr.fieldAt 30 x6 0) w fun x30 w => VK Tryd.prog (Instr.loadAt 28 x30) w fun x31 w => BK Tryd.prog BinOp.neq 28 (Operand.tmp 31) (Operand.const (Value.int IntKind.i64 0)) x31 (Value.int IntKind.i64 0) w fun x32 w => CondK x32 (BK Tryd.prog BinOp.eql 32 (Operand.tmp 33) (Operand.const (Value.pointer none)) x28 (Value.pointer none) w fun x34 w => R x34 w) (BK Tryd.prog BinOp.eql 32 (Operand.tmp 35) (Operand.const (Value.pointer none)) x28 (Value.pointer none) w fun x36 w => MG Tryd.prog x36 false x28 w fun x38 w => CG Tryd.prog x36 false (Value.func (Fn.func 22) #[] #[]) [x38] w fun x39 w => BG Tryd.prog x36 false BinOp.lss 3 (Operand.tmp 39) (Operand.const (Value.int IntKind.i64 0)) x39 (Value.int IntKind.i64 0) w fun x40 w => PK Tryd.prog x36 (Value.bool true) x40 w fun x41 w => MG Tryd.prog x41 false x28 w fun x43 w => CG Tryd.prog x41 false (Value.func (Fn.func 22) #[] #[]) [x43] w fun x44 w => BG Tryd.prog x41 false BinOp.gtr 3 (Operand.tmp 44) (Operand.const (Value.int IntKind.i64 64)) x44 (Value.int IntKind.i64 64) w fun x45 w => PK Tryd.prog x41 (Value.bool true) x45 w fun x46 w => CondK x46 (R (Value.bool false) w) (W fn_ Tryd.prog 207 dispatcherlaw04_ScopeApart_R0 (seqK (sx fn_ Tryd.prog 207 dispatcherlaw04_ScopeApart_R1 (retK Tryd.prog [ResultVar.tmp 4] R)) (retK Tryd.prog [ResultVar.tmp 4] R)) (up (up (up (up (up (up (up (up (up (up (up (up (up (up (up (up (up (up (up (up (up (up (up (up (up (up (up (up (up (up (up (up (up (rho0 [a0, a1]) 2 x2) 4 (Value.bool false)) 16 x16) 17 x17) 18 x18) 19 x19) 20 x19) 21 x21) 22 x22) 23 x23) 24 x24) 26 x26) 27 x27) 25 x27) 28 x28) 29 x29) 6 x6) 5 x28) 30 x30) 31 x31) 32 x32) 35 x28) 36 x36) 37 x36) 38 x38) 39 x39) 40 x40) 41 x41) 42 x41) 43 x43) 44 x44) 45 x45) 46 x46) w))))
theorem dispatcherlaw04_ScopeApart_eq (a0 a1 : Value) (w : World) (R : Value → World → Prop) : sx fn_ Tryd.prog 207 dispatcherlaw04_ScopeApart_b (retK Tryd.prog Tryd.f7.results.toList R) (rho0 [a0, a1]) w = dispatcherlaw04_ScopeApart_F a0 a1 w R := by kernel_rfl
theorem dispatcherlaw04_ScopeApart_calls {a0 a1 : Value} {w : World} {R : Value → World → Prop} (h : dispatcherlaw04_ScopeApart_F a0 a1 w R) : Calls Tryd.prog 7 #[a0, a1] w fun e w' => ∃ v, e = .returned v ∧ R v w' :=
  Go.X.calls_of_sx (n := 207) (c := dispatcherlaw04_ScopeApart_b) Tryd.func7 (by kernel_rfl) (by kernel_rfl) (Nat.le_of_ble_eq_true rfl) (by kernel_rfl) (Eq.mpr (dispatcherlaw04_ScopeApart_eq a0 a1 w R) h)
/-- dispatcher/dispatcherlaw04.ones -/
noncomputable def dispatcherlaw04_ones_b : Code := (Tryd.f27.body).getD .skip
noncomputable def dispatcherlaw04_ones_L0 : Code := cAt [1, 0, 1, 0, 0] dispatcherlaw04_ones_b
noncomputable def dispatcherlaw04_ones_R1 : Code := cAt [1, 1] dispatcherlaw04_ones_b
noncomputable def dispatcherlaw04_ones_L0_F (z : At) (K : Exit → Sl → World → Prop) (ρ : Sl) (w : World) : Prop :=
  IK Tryd.prog Builtin.len #[50] 3 [false] [(ρ 0)] w fun x8 w => BK Tryd.prog BinOp.lss 3 (Operand.tmp 6) (Operand.tmp 8) (ρ 5) x8 w fun x9 w => CondK x9 (VK Tryd.prog (Instr.indexAt 50 (ρ 0) (ρ 5)) w fun x14 w => VK Tryd.prog (Instr.loadAt 3 x14) w fun x15 w => BK Tryd.prog BinOp.gtr 3 (Operand.tmp 15) (Operand.const (Value.int IntKind.i64 1)) x15 (Value.int IntKind.i64 1) w fun x16 w => MG Tryd.prog x16 false (ρ 0) w fun x18 w => MG Tryd.prog x16 false (ρ 5) w fun x19 w => VG Tryd.prog x16 false (Instr.indexAt 50 x18 x19) w fun x20 w => VG Tryd.prog x16 false (Instr.loadAt 3 x20) w fun x21 w => BG Tryd.prog x16 false BinOp.eql 3 (Operand.tmp 21) (Operand.const (Value.int IntKind.i64 1)) x21 (Value.int IntKind.i64 1) w fun x22 w => MG Tryd.prog x16 false (ρ 5) w fun x23 w => MG Tryd.prog x16 false (ρ 1) w fun x24 w => BG Tryd.prog x16 false BinOp.lss 3 (Operand.tmp 23) (Operand.tmp 24) x23 x24 w fun x25 w => BG Tryd.prog x16 false BinOp.neq 4 (Operand.tmp 22) (Operand.tmp 25) x22 x25 w fun x26 w => PK Tryd.prog x16 (Value.bool true) x26 w fun x27 w => CondK x27 (K Exit.ret (up (up (up (up (up (up (up (up (up (up (up (up (up (up (up (up (up (up (up (up (up ρ 6 (ρ 5)) 7 (ρ 0)) 8 x8) 9 x9) 12 (ρ 0)) 13 (ρ 5)) 14 x14) 15 x15) 16 x16) 17 x16) 18 x18) 19 x19) 20 x20) 21 x21) 22 x22) 23 x23) 24 x24) 25 x25) 26 x26) 27 x27) 4 (Value.bool false)) w) (BK Tryd.prog BinOp.add 3 (Operand.tmp 10) (Operand.const (Value.int IntKind.i64 1)) (ρ 5) (Value.int IntKind.i64 1) w fun x11 w => K Exit.normal (up (up (up (up (up (up (up (up (up (up (up (up (up (up (up (up (up (up (up (up (up (up (up ρ 6 (ρ 5)) 7 (ρ 0)) 8 x8) 9 x9) 12 (ρ 0)) 13 (ρ 5)) 14 x14) 15 x15) 16 x16) 17 x16) 18 x18) 19 x19) 20 x20) 21 x21) 22 x22) 23 x23) 24 x24) 25 x25) 26 x26) 27 x27) 10 (ρ 5)) 11 x11) 5 x11) w)) (K (Exit.exit 0) (up (up (up (up ρ 6 (ρ 5)) 7 (ρ 0)) 8 x8) 9 x9) w)
theorem dispatcherlaw04_ones_L0_eq (z : At) (K : Exit → Sl → World → Prop) (ρ : Sl) (w : World) : sx z Tryd.prog 32 dispatcherlaw04_ones_L0 K ρ w = dispatcherlaw04_ones_L0_F z K ρ w := by kernel_rfl
theorem dispatcherlaw04_ones_L0_ok : dstOk 32 dispatcherlaw04_ones_L0 = true := by kernel_rfl
noncomputable def dispatcherlaw04_ones_R1_F (z : At) (K : Exit → Sl → World → Prop) (ρ : Sl) (w : World) : Prop :=
  IK Tryd.prog Builtin.len #[50] 3 [false] [(ρ 0)] w fun x30 w => BK Tryd.prog BinOp.leq 3 (Operand.tmp 28) (Operand.tmp 30) (ρ 1) x30 w fun x31 w => K Exit.ret (up (up (up (up (up ρ 28 (ρ 1)) 29 (ρ 0)) 30 x30) 31 x31) 4 x31) w
theorem dispatcherlaw04_ones_R1_eq (z : At) (K : Exit → Sl → World → Prop) (ρ : Sl) (w : World) : sx z Tryd.prog 32 dispatcherlaw04_ones_R1 K ρ w = dispatcherlaw04_ones_R1_F z K ρ w := by kernel_rfl
noncomputable def dispatcherlaw04_ones_F (a0 a1 : Value) (w : World) (R : Value → World → Prop) : Prop :=
  W fn_ Tryd.prog 32 (Code.loop dispatcherlaw04_ones_L0) (blkK 0 (seqK (sx fn_ Tryd.prog 32 dispatcherlaw04_ones_R1 (retK Tryd.prog [ResultVar.tmp 4] R)) (retK Tryd.prog [ResultVar.tmp 4] R))) (up (up (rho0 [a0, a1]) 4 (Value.bool false)) 5 (Value.int IntKind.i64 0)) w
theorem dispatcherlaw04_ones_eq (a0 a1 : Value) (w : World) (R : Value → World → Prop) : sx fn_ Tryd.prog 32 dispatcherlaw04_ones_b (retK Tryd.prog Tryd.f27.results.toList R) (rho0 [a0, a1]) w = dispatcherlaw04_ones_F a0 a1 w R := by kernel_rfl
theorem dispatcherlaw04_ones_calls {a0 a1 : Value} {w : World} {R : Value → World → Prop} (h : dispatcherlaw04_ones_F a0 a1 w R) : Calls Tryd.prog 27 #[a0, a1] w fun e w' => ∃ v, e = .returned v ∧ R v w' :=
  Go.X.calls_of_sx (n := 32) (c := dispatcherlaw04_ones_b) Tryd.func27 (by kernel_rfl) (by kernel_rfl) (Nat.le_of_ble_eq_true rfl) (by kernel_rfl) (Eq.mpr (dispatcherlaw04_ones_eq a0 a1 w R) h)
/-- dispatcher/dispatcherlaw04.sum -/
noncomputable def dispatcherlaw04_sum_b : Code := (Tryd.f28.body).getD .skip
noncomputable def dispatcherlaw04_sum_L0 : Code := cAt [1, 1, 0, 1, 0, 0] dispatcherlaw04_sum_b
noncomputable def dispatcherlaw04_sum_R1 : Code := cAt [1, 1, 1] dispatcherlaw04_sum_b
noncomputable def dispatcherlaw04_sum_L0_F (z : At) (K : Exit → Sl → World → Prop) (ρ : Sl) (w : World) : Prop :=
  IK Tryd.prog Builtin.len #[50] 3 [false] [(ρ 0)] w fun x7 w => BK Tryd.prog BinOp.lss 3 (Operand.tmp 5) (Operand.tmp 7) (ρ 4) x7 w fun x8 w => CondK x8 (VK Tryd.prog (Instr.indexAt 50 (ρ 0) (ρ 4)) w fun x14 w => VK Tryd.prog (Instr.loadAt 3 x14) w fun x15 w => BK Tryd.prog BinOp.add 3 (Operand.tmp 11) (Operand.tmp 15) (ρ 3) x15 w fun x16 w => BK Tryd.prog BinOp.add 3 (Operand.tmp 9) (Operand.const (Value.int IntKind.i64 1)) (ρ 4) (Value.int IntKind.i64 1) w fun x10 w => K Exit.normal (up (up (up (up (up (up (up (up (up (up (up (up (up (up ρ 5 (ρ 4)) 6 (ρ 0)) 7 x7) 8 x8) 11 (ρ 3)) 12 (ρ 0)) 13 (ρ 4)) 14 x14) 15 x15) 16 x16) 3 x16) 9 (ρ 4)) 10 x10) 4 x10) w) (K (Exit.exit 0) (up (up (up (up ρ 5 (ρ 4)) 6 (ρ 0)) 7 x7) 8 x8) w)
theorem dispatcherlaw04_sum_L0_eq (z : At) (K : Exit → Sl → World → Prop) (ρ : Sl) (w : World) : sx z Tryd.prog 18 dispatcherlaw04_sum_L0 K ρ w = dispatcherlaw04_sum_L0_F z K ρ w := by kernel_rfl
theorem dispatcherlaw04_sum_L0_ok : dstOk 18 dispatcherlaw04_sum_L0 = true := by kernel_rfl
noncomputable def dispatcherlaw04_sum_R1_F (z : At) (K : Exit → Sl → World → Prop) (ρ : Sl) (w : World) : Prop :=
  K Exit.ret (up (up ρ 17 (ρ 3)) 2 (ρ 3)) w
theorem dispatcherlaw04_sum_R1_eq (z : At) (K : Exit → Sl → World → Prop) (ρ : Sl) (w : World) : sx z Tryd.prog 18 dispatcherlaw04_sum_R1 K ρ w = dispatcherlaw04_sum_R1_F z K ρ w := by kernel_rfl
noncomputable def dispatcherlaw04_sum_F (a0 : Value) (w : World) (R : Value → World → Prop) : Prop :=
  W fn_ Tryd.prog 18 (Code.loop dispatcherlaw04_sum_L0) (blkK 0 (seqK (sx fn_ Tryd.prog 18 dispatcherlaw04_sum_R1 (retK Tryd.prog [ResultVar.tmp 2] R)) (retK Tryd.prog [ResultVar.tmp 2] R))) (up (up (up (rho0 [a0]) 2 (Value.int IntKind.i64 0)) 3 (Value.int IntKind.i64 0)) 4 (Value.int IntKind.i64 0)) w
theorem dispatcherlaw04_sum_eq (a0 : Value) (w : World) (R : Value → World → Prop) : sx fn_ Tryd.prog 18 dispatcherlaw04_sum_b (retK Tryd.prog Tryd.f28.results.toList R) (rho0 [a0]) w = dispatcherlaw04_sum_F a0 w R := by kernel_rfl
theorem dispatcherlaw04_sum_calls {a0 : Value} {w : World} {R : Value → World → Prop} (h : dispatcherlaw04_sum_F a0 w R) : Calls Tryd.prog 28 #[a0] w fun e w' => ∃ v, e = .returned v ∧ R v w' :=
  Go.X.calls_of_sx (n := 18) (c := dispatcherlaw04_sum_b) Tryd.func28 (by kernel_rfl) (by kernel_rfl) (Nat.le_of_ble_eq_true rfl) (by kernel_rfl) (Eq.mpr (dispatcherlaw04_sum_eq a0 w R) h)
end Go.Proofs.YtbnbcimjapiicaaDoor.XL
set_option linter.unusedVariables false
set_option linter.unusedSimpArgs false
set_option maxRecDepth 4000
namespace Go.Proofs.YtbnbcimjapiicaaDoor.Tr
open Go Go.X Go.RowKit Go.Proofs.YtbnbcimjapiicaaDoor.XL Go.Proofs.YtbnbcimjapiicaaDoor.XK
theorem read_ok {b : Bs} {pr : Pr} (h : readP b = some pr) (hf : pr.fits) {w : World} : Rt Tryd.prog 40 #[.string (bs b)] w fun v w' => ∃ q : Pr, v = .agg q.cells.toArray ∧ q.er = pr ∧ q.Ok w' ∧ Mod none_ w w' := by
  refine dispatcherlaw04_read_calls ?_
  unfold dispatcherlaw04_read_F
  refine al_k (cs := zPc) zPr rfl _ fun w1 hb1 hm1 hz1 => ?_
  refine bytes_k Tryd.underlying9 Tryd.underlying95 Tryd.underlying5 b fun v w2 hr hm2 => ?_
  refine Parse_tx h hf hr fun x q w3 he hO hm3 => ?_
  have hq := hO.ok
  have hb3 := hm3.blk (hm2.blk hb1 id) id
  have hm03 := (hm1.trans hm2).trans hm3
  rw [extract_ok (v := .agg q.cells.toArray) rfl, extract_ok (v := .agg zWc) rfl]
  refine al_k (cs := zPc) zPr rfl _ fun w4 hb4 hm4 hz4 => ?_
  refine al_k (cs := zWc) zWr' rfl _ fun w5 hb5 hm5 hz5 => ?_
  have hb35 := hm5.blk (hm4.blk hb3 id) id
  have hlt := blk_lt hb3
  refine stS (old := zPc) (cs := q.cells.toArray) rfl rfl iPr' rfl (oneOk hq) (hm5.blk hb4 id) fun w6 hb6 hm6 hz6 => ?_
  refine stS (old := zWc) (cs := zWc) rfl rfl iWr' rfl (by kernel_rfl) (hm6.blk hb5 (by omega)) fun w7 hb7 hm7 hz7 => ?_
  have hb67 := hm7.blk hb6 (by omega)
  refine ldS (cs := q.cells.toArray) rfl Tryd.underlying25 rfl iPr' hb67 ?_
  refine stS (old := zPc) (cs := q.cells.toArray) rfl rfl iPr' rfl (oneOk hq) (hm7.blk (hm6.blk hb35 (by omega)) (by omega)) fun w8 hb8 hm8 hz8 => ?_
  have hm38 : Mod none_ w w8 := ((((hm03.trans hm4).trans hm5).then hm6 fun i hi q => by have := hm03.size; omega).then hm7 fun i hi q => by have := hm03.size; omega).then hm8 fun i hi q => by omega
  have hm37 : Mod none_ w3 w7 := ((hm4.trans hm5).then hm6 fun i hi q => by omega).then hm7 fun i hi q => by omega
  have hs2 := hm2.size
  have hq8 : PrOwn w8 w2.heap.size q := (hO.mod0 hm37).off hm8 fun k q => by omega
  exact rsCell (R := fun v w' => ∃ q : Pr, v = .agg q.cells.toArray ∧ q.er = pr ∧ q.Ok w' ∧ Mod none_ w w') (cs := q.cells.toArray) rfl Tryd.underlying25 rfl iPr' hb8 ⟨q, rfl, he, hq8.ok, hm38⟩
theorem told_ok {w : World} (hg : Gl w) {b : Bs} {e : Wr} (h : tellB b e = true) : Rt Tryd.prog 41 #[.string (bs b), .int .i64 e.err, .int .i64 e.line, .int .i64 e.col] w fun v w' => v = .bool true ∧ Mod none_ w w' := by
  obtain ⟨pr, hr, hf⟩ := got h
  rw [Bool.and_eq_true, decide_eq_true_iff] at hf
  have hfit := Pr.fits_of hf.1
  refine dispatcherlaw04_told_calls ?_
  unfold dispatcherlaw04_told_F
  refine CK_st Tryd.func40 rfl rfl (read_ok hr hfit) ?_
  rintro _ w1 ⟨q, rfl, he, hq, hm1⟩
  have hpe : q.er = pr.er := by
    rw [← he, Pr.er_er]
  refine CK_st Tryd.func14 rfl rfl (Check_ok (hg.mod hm1) hq (fits_of hpe hfit)) ?_
  rintro _ w2 ⟨rfl, hm2⟩
  rw [build_ok (bWr3 _ _ _), checkP_of hpe, hf.2]
  show BK Tryd.prog .eql 30 _ _ e.v e.v w2 _
  rw [BK_WrE, decide_eq_true rfl]
  exact ⟨rfl, hm1.trans hm2⟩
theorem awake_ok {w : World} (hg : Gl w) : Rt Tryd.prog 18 #[] w fun v w' => v = .bool true ∧ Mod none_ w w' := by
  obtain ⟨pr, hr, hf⟩ := got tx0
  rw [Bool.and_eq_true, Bool.and_eq_true, Bool.and_eq_true, decide_eq_true_iff, decide_eq_true_iff, decide_eq_true_iff] at hf
  obtain ⟨⟨h1, h2⟩, h3, h4⟩ := hf
  have hfit := Pr.fits_of h1
  refine dispatcherlaw04_awake_calls ?_
  unfold dispatcherlaw04_awake_F
  refine CK_st Tryd.func40 rfl rfl (read_ok hr hfit) ?_
  rintro _ w1 ⟨q, rfl, he, hq, hm1⟩
  have hpe : q.er = pr.er := by
    rw [← he, Pr.er_er]
  refine CK_st Tryd.func13 rfl rfl (New_ok (hg.mod hm1) hq (fits_of hpe hfit)) ?_
  rintro _ w2 ⟨x, rfl, hT⟩
  rw [checkP_of hpe, h2, extract_ok (v := x) rfl, extract_ok (v := (Wr.mk 0 0 0).v) rfl]
  have hm2 := hT.m
  obtain ⟨_, _, t, rfl, hTb⟩ := hT.ok (by rw [checkP_of hpe, h2])
  refine lcl_k (cs := (Wr.mk 0 0 0).cells.toArray) zWrg _ iWrg rfl (wr_one _) fun w3 hb3 hm3 hz3 => ?_
  have e0 : FO Tryd.prog w3 30 0 0 ⟨w2.heap.size, 0, none⟩ 28 (.int .i64 0) := FO.blk hb3 (by kernel_rfl) Tryd.underlying28 rfl rfl
  have hd : q.decls = pr.decls := by have := congrArg Pr.decls hpe; exact this
  have hTb3 := hTb.mod hm3
  rw [hd] at hTb3
  simp only [↓VG_u, ↓UG_u, ↓MG_u, ↓NG_u, ↓PG_u, ↓BG_u, ↓CG_u, ↓IG_u, ↓VGtt, ↓VGtf, ↓VGft, ↓VGff, ↓UGtt, ↓UGtf, ↓UGft, ↓UGff, ↓MGtt, ↓MGtf, ↓MGft, ↓MGff, ↓NGtt, ↓NGtf, ↓NGft, ↓NGff, ↓PGtt, ↓PGtf, ↓PGft, ↓PGff, ↓BGtt, ↓BGtf, ↓BGft, ↓BGff, ↓CGtt, ↓CGtf, ↓CGft, ↓CGff, ↓IGtt, ↓IGtf, ↓IGft, ↓IGff, ↓PKt, ↓PKf, ↓CDt, ↓CDf, ↓NOTt, ↓NOTf, ↓NK_ptr, ↓e0.e, ↓NEf (rfl : (0 : Int) = 0)]
  rw [BK_eqlP uTp, Option.isNone_some]
  try simp only [↓VG_u, ↓UG_u, ↓MG_u, ↓NG_u, ↓PG_u, ↓BG_u, ↓CG_u, ↓IG_u, ↓VGtt, ↓VGtf, ↓VGft, ↓VGff, ↓UGtt, ↓UGtf, ↓UGft, ↓UGff, ↓MGtt, ↓MGtf, ↓MGft, ↓MGff, ↓NGtt, ↓NGtf, ↓NGft, ↓NGff, ↓PGtt, ↓PGtf, ↓PGft, ↓PGff, ↓BGtt, ↓BGtf, ↓BGft, ↓BGff, ↓CGtt, ↓CGtf, ↓CGft, ↓CGff, ↓IGtt, ↓IGtf, ↓IGft, ↓IGff, ↓PKt, ↓PKf, ↓CDt, ↓CDf, ↓NOTt, ↓NOTf, ↓NK_ptr]
  refine CK_st Tryd.func16 rfl rfl (FindT_ok hTb3 (bs [121])) ?_
  rintro _ w4 ⟨rfl, hm4⟩
  have e3 : (findP pr.decls (bs [121]).data.toList).v = (En.mk 1 1 0 0).v := by rw [show (bs [121]).data.toList = [121] from rfl, h3]
  rw [build_ok (bEnt1 _), e3]
  have eq1 : ∀ {x y : Operand} {e : En} {w : World} {K : Value → World → Prop}, BK Tryd.prog .eql 37 x y e.v e.v w K = K (.bool true) w := by
    intro x y e w K; rw [BK_EnE, decide_eq_true rfl]
  rw [show Value.agg (En.mk 1 1 0 0).cells.toArray = (En.mk 1 1 0 0).v from rfl, eq1]
  try simp only [↓VG_u, ↓UG_u, ↓MG_u, ↓NG_u, ↓PG_u, ↓BG_u, ↓CG_u, ↓IG_u, ↓VGtt, ↓VGtf, ↓VGft, ↓VGff, ↓UGtt, ↓UGtf, ↓UGft, ↓UGff, ↓MGtt, ↓MGtf, ↓MGft, ↓MGff, ↓NGtt, ↓NGtf, ↓NGft, ↓NGff, ↓PGtt, ↓PGtf, ↓PGft, ↓PGff, ↓BGtt, ↓BGtf, ↓BGft, ↓BGff, ↓CGtt, ↓CGtf, ↓CGft, ↓CGff, ↓IGtt, ↓IGtf, ↓IGft, ↓IGff, ↓PKt, ↓PKf, ↓CDt, ↓CDf, ↓NOTt, ↓NOTf, ↓NK_ptr]
  refine CK_st Tryd.func16 rfl rfl (FindT_ok (hTb3.mod hm4) (bs [98])) ?_
  rintro _ w5 ⟨rfl, hm5⟩
  have e4 : (findP pr.decls (bs [98]).data.toList).v = (En.mk 2 1 3 2).v := by rw [show (bs [98]).data.toList = [98] from rfl, h4]
  try simp only [↓VG_u, ↓UG_u, ↓MG_u, ↓NG_u, ↓PG_u, ↓BG_u, ↓CG_u, ↓IG_u, ↓VGtt, ↓VGtf, ↓VGft, ↓VGff, ↓UGtt, ↓UGtf, ↓UGft, ↓UGff, ↓MGtt, ↓MGtf, ↓MGft, ↓MGff, ↓NGtt, ↓NGtf, ↓NGft, ↓NGff, ↓PGtt, ↓PGtf, ↓PGft, ↓PGff, ↓BGtt, ↓BGtf, ↓BGft, ↓BGff, ↓CGtt, ↓CGtf, ↓CGft, ↓CGff, ↓IGtt, ↓IGtf, ↓IGft, ↓IGff, ↓PKt, ↓PKf, ↓CDt, ↓CDf, ↓NOTt, ↓NOTf, ↓NK_ptr]
  rw [build_ok (bEnt2 _ _ _), e4, show Value.agg (En.mk 2 1 3 2).cells.toArray = (En.mk 2 1 3 2).v from rfl, eq1]
  try simp only [↓VG_u, ↓UG_u, ↓MG_u, ↓NG_u, ↓PG_u, ↓BG_u, ↓CG_u, ↓IG_u, ↓VGtt, ↓VGtf, ↓VGft, ↓VGff, ↓UGtt, ↓UGtf, ↓UGft, ↓UGff, ↓MGtt, ↓MGtf, ↓MGft, ↓MGff, ↓NGtt, ↓NGtf, ↓NGft, ↓NGff, ↓PGtt, ↓PGtf, ↓PGft, ↓PGff, ↓BGtt, ↓BGtf, ↓BGft, ↓BGff, ↓CGtt, ↓CGtf, ↓CGft, ↓CGff, ↓IGtt, ↓IGtf, ↓IGft, ↓IGff, ↓PKt, ↓PKf, ↓CDt, ↓CDf, ↓NOTt, ↓NOTf, ↓NK_ptr]
  have hm05 := (((hm1.trans hm2).trans hm3).trans hm4).trans hm5
  refine CK_st Tryd.func41 rfl rfl (told_ok (hg.mod hm05) (e := ⟨40, 1, 12⟩) tx1) ?_
  rintro _ w6 ⟨rfl, hm6⟩
  try simp only [↓VG_u, ↓UG_u, ↓MG_u, ↓NG_u, ↓PG_u, ↓BG_u, ↓CG_u, ↓IG_u, ↓VGtt, ↓VGtf, ↓VGft, ↓VGff, ↓UGtt, ↓UGtf, ↓UGft, ↓UGff, ↓MGtt, ↓MGtf, ↓MGft, ↓MGff, ↓NGtt, ↓NGtf, ↓NGft, ↓NGff, ↓PGtt, ↓PGtf, ↓PGft, ↓PGff, ↓BGtt, ↓BGtf, ↓BGft, ↓BGff, ↓CGtt, ↓CGtf, ↓CGft, ↓CGff, ↓IGtt, ↓IGtf, ↓IGft, ↓IGff, ↓PKt, ↓PKf, ↓CDt, ↓CDf, ↓NOTt, ↓NOTf, ↓NK_ptr]
  have hm06 := hm05.trans hm6
  refine CK_st Tryd.func41 rfl rfl (told_ok (hg.mod hm06) (e := ⟨40, 1, 11⟩) tx2) ?_
  rintro _ w7 ⟨rfl, hm7⟩
  try simp only [↓VG_u, ↓UG_u, ↓MG_u, ↓NG_u, ↓PG_u, ↓BG_u, ↓CG_u, ↓IG_u, ↓VGtt, ↓VGtf, ↓VGft, ↓VGff, ↓UGtt, ↓UGtf, ↓UGft, ↓UGff, ↓MGtt, ↓MGtf, ↓MGft, ↓MGff, ↓NGtt, ↓NGtf, ↓NGft, ↓NGff, ↓PGtt, ↓PGtf, ↓PGft, ↓PGff, ↓BGtt, ↓BGtf, ↓BGft, ↓BGff, ↓CGtt, ↓CGtf, ↓CGft, ↓CGff, ↓IGtt, ↓IGtf, ↓IGft, ↓IGff, ↓PKt, ↓PKf, ↓CDt, ↓CDf, ↓NOTt, ↓NOTf, ↓NK_ptr]
  have hm07 := hm06.trans hm7
  refine CK_st Tryd.func41 rfl rfl (told_ok (hg.mod hm07) (e := ⟨40, 1, 12⟩) tx3) ?_
  rintro _ w8 ⟨rfl, hm8⟩
  exact ⟨rfl, hm07.trans hm8⟩
end Go.Proofs.YtbnbcimjapiicaaDoor.Tr
set_option linter.unusedVariables false
set_option linter.unusedSimpArgs false
set_option maxRecDepth 4000
namespace Go.X
open Go Go.Proofs.YtbnbcimjapiicaaDoor.Tr
theorem nu_kind0 (pre : List De) (d : De) : (nu pre d).kind ≠ 0 := by unfold nu; split <;> simp
theorem find_mem {k : Key} : ∀ {l pre : List De}, (∃ x ∈ l, x.key = k) → (findF pre l k).kind ≠ 0
  | [], pre, ⟨x, hx, _⟩ => by simp at hx
  | d :: r, pre, ⟨x, hx, hk⟩ => by
    rw [findF]
    split
    · exact nu_kind0 _ _
    · rename_i h
      rcases List.mem_cons.1 hx with rfl | hx
      · exact absurd hk h
      · exact find_mem ⟨x, hx, hk⟩
theorem find_none {k : Key} : ∀ {l pre : List De}, (∀ x ∈ l, x.key ≠ k) → findF pre l k = zEn
  | [], pre, _ => by rw [findF]
  | d :: r, pre, h => by rw [findF, if_neg (h d (List.mem_cons_self ..))]; exact find_none fun x hx => h x (List.mem_cons_of_mem _ hx)
theorem declsW_at : ∀ {l1 pre : List De} {d : De} {l2 : List De}, (declsW pre (l1 ++ d :: l2)).err = 0 → dstep (pre ++ l1) d = 0
  | [], pre, d, l2, h => by
    rw [List.nil_append, declsW] at h
    rw [List.append_nil]
    split at h
    · assumption
    · exact h
  | a :: r, pre, d, l2, h => by
    rw [List.cons_append, declsW] at h
    split at h
    · have := declsW_at h
      rwa [List.append_assoc, List.singleton_append] at this
    · rename_i q; exact absurd h q
/-- A declared name is found as it was declared. -/
theorem findP_at {l1 l2 : List De} {d : De} (h : (declsW [] (l1 ++ d :: l2)).err = 0) : findP (l1 ++ d :: l2) d.key = nu l1 d := by
  have h0 := (dstep_zero (declsW_at h)).1
  rw [List.nil_append] at h0
  have hno : ∀ a ∈ l1, a.key ≠ d.key := fun a ha q => find_mem ⟨a, ha, q⟩ h0
  unfold findP
  rw [findF_no _ _ _ _ hno, List.nil_append, findF, if_pos rfl]
end Go.X
set_option linter.unusedVariables false
set_option linter.unusedSimpArgs false
set_option maxRecDepth 4000
namespace Go.X
open Go Go.Proofs.YtbnbcimjapiicaaDoor.Tr
end Go.X
namespace Go.Proofs.YtbnbcimjapiicaaDoor.Tr
open Go Go.X Go.RowKit
section
variable {f g : Key → Int} (hfg : ∀ k, f k ≠ 0 → g k = f k)
include hfg
end
theorem St.wrL_z {f : Key → Int} : ∀ {l : List St}, (St.wrL f l).err = 0 → St.wrL f l = zWr
  | [], _ => by rw [St.wrL]
  | e :: r, h => by
    rw [St.wrL] at h ⊢
    split at h
    · rename_i q; rw [if_pos q]; exact St.wrL_z h
    · rename_i q; exact absurd h q
def zz : Bs := [122, 122, 111, 116, 104, 101, 114]
theorem sum_arrs : ∀ l : List De, (arrs l).sum = cellsP l
  | [] => rfl
  | d :: r => by
    rw [cellsP, ← sum_arrs r]
    unfold arrs isV
    rw [List.filter_cons]
    by_cases h : d.places = 0
    · simp [h]
    · simp [h]
end Go.Proofs.YtbnbcimjapiicaaDoor.Tr
set_option linter.unusedVariables false
set_option maxRecDepth 100000
namespace Go.Proofs.YtbnbcimjapiicaaDoor.XM
open Go Go.X
end Go.Proofs.YtbnbcimjapiicaaDoor.XM
set_option linter.unusedVariables false
set_option linter.unusedSimpArgs false
set_option maxRecDepth 4000
namespace Go.Proofs.YtbnbcimjapiicaaDoor.Tr
open Go Go.X Go.RowKit Go.Proofs.YtbnbcimjapiicaaDoor.XL Go.Proofs.YtbnbcimjapiicaaDoor.XM Go.Proofs.YtbnbcimjapiicaaDoor.XK
theorem sum_bd : ∀ {l : List Int}, (∀ x ∈ l, 0 ≤ x ∧ x ≤ 1000) → 0 ≤ l.sum ∧ l.sum ≤ 1000 * l.length
  | [], _ => by simp
  | a :: r, h => by
    have := h a (List.mem_cons_self ..)
    have := sum_bd fun x hx => h x (List.mem_cons_of_mem _ hx)
    rw [List.sum_cons, List.length_cons]
    omega
theorem Sum_ok {w : World} {v : Value} {xs : List Int} (h : reads w 1 v xs.length (xs.map (.int .i64))) (hx : ∀ x ∈ xs, 0 ≤ x ∧ x ≤ 1000) (hl : xs.length ≤ 1048576) : Rt Tryd.prog 28 #[v] w fun r w' => r = .int .i64 xs.sum ∧ w' = w := by
  obtain ⟨A, c, rfl, _⟩ := reads_cap h
  refine dispatcherlaw04_sum_calls ?_
  unfold dispatcherlaw04_sum_F
  refine W_loopG dispatcherlaw04_sum_L0_ok (fun m ρ w' => ∃ i, i + m = xs.length ∧ ρ 4 = .int .i64 (i : Nat) ∧ ρ 3 = .int .i64 (xs.take i).sum ∧ ρ 0 = .slice A xs.length c ∧ w' = w) xs.length ⟨0, by omega, rfl, rfl, rfl, rfl⟩ ?_
  rintro m ρ w' ⟨i, hi, q4, q3, q0, rfl⟩
  rw [dispatcherlaw04_sum_L0_eq]
  unfold dispatcherlaw04_sum_L0_F
  rw [q0, q3, q4, len_sl uIs]
  by_cases hlt : i < xs.length
  · simp only [↓VG_u, ↓UG_u, ↓MG_u, ↓NG_u, ↓PG_u, ↓BG_u, ↓CG_u, ↓IG_u, ↓VGtt, ↓VGtf, ↓VGft, ↓VGff, ↓UGtt, ↓UGtf, ↓UGft, ↓UGff, ↓MGtt, ↓MGtf, ↓MGft, ↓MGff, ↓NGtt, ↓NGtf, ↓NGft, ↓NGff, ↓PGtt, ↓PGtf, ↓PGft, ↓PGff, ↓BGtt, ↓BGtf, ↓BGft, ↓BGff, ↓CGtt, ↓CGtf, ↓CGft, ↓CGff, ↓IGtt, ↓IGtf, ↓IGft, ↓IGff, ↓PKt, ↓PKf, ↓CDt, ↓CDf, ↓NOTt, ↓NOTf, ↓NK_ptr, ↓LTt (show (i : Int) < (xs.length : Int) by omega)]
    have hxi : xs[i]? = some xs[i] := List.getElem?_eq_getElem hlt
    have htk : (xs.take (i + 1)).sum = (xs.take i).sum + xs[i] := by rw [List.take_add_one, hxi, Option.toList_some, List.sum_append]; simp
    have b1 := sum_bd (l := xs.take i) fun x hx' => hx x (List.mem_of_mem_take hx')
    have b2 := hx _ (List.getElem_mem hlt)
    rw [List.length_take] at b1
    refine ixld uIs (by kernel_rfl) uI rfl h (by omega) (u := .int .i64 xs[i]) (by rw [Int.toNat_natCast, List.getElem?_map, hxi]; rfl) fun x => ?_
    refine BKadd (a := (xs.take i).sum) (b := xs[i]) rfl rfl (by omega) (by omega) ?_
    refine BKadd (a := i) (b := 1) rfl rfl (by omega) (by omega) ⟨m - 1, by omega, i + 1, by omega, rfl, by rw [htk]; rfl, ?_, rfl⟩
    exact q0
  · simp only [↓VG_u, ↓UG_u, ↓MG_u, ↓NG_u, ↓PG_u, ↓BG_u, ↓CG_u, ↓IG_u, ↓VGtt, ↓VGtf, ↓VGft, ↓VGff, ↓UGtt, ↓UGtf, ↓UGft, ↓UGff, ↓MGtt, ↓MGtf, ↓MGft, ↓MGff, ↓NGtt, ↓NGtf, ↓NGft, ↓NGff, ↓PGtt, ↓PGtf, ↓PGft, ↓PGff, ↓BGtt, ↓BGtf, ↓BGft, ↓BGff, ↓CGtt, ↓CGtf, ↓CGft, ↓CGff, ↓IGtt, ↓IGtf, ↓IGft, ↓IGff, ↓PKt, ↓PKf, ↓CDt, ↓CDf, ↓NOTt, ↓NOTf, ↓NK_ptr, ↓LTf (show (xs.length : Int) ≤ (i : Int) by omega)]
    rw [sq_x, bk_x, sq_n, dispatcherlaw04_sum_R1_eq]
    unfold dispatcherlaw04_sum_R1_F
    rw [List.take_of_length_le (by omega)] at q3
    exact ⟨q3, rfl⟩
section
variable {w0 w : World} (hg : Gl w0) {p : Pr} (h : p.Ok w0) (hsz : p.decls.length + St.szL p.body ≤ 1048576) (hm : Mod none_ w0 w) {b4 : Nat} (hb4 : w.heap[b4]? = some (.cells p.cells.toArray 25 (0, 0)))
  (hp : (checkP p).err = 0) (hz : (findP p.decls zz).kind = 0) {l c : Int} (hl : (Lit.int .i64 l).wf = true) (hc : (Lit.int .i64 c).wf = true)
include hg h hsz hm hb4 hp hz hl hc
end
end Go.Proofs.YtbnbcimjapiicaaDoor.Tr
set_option linter.unusedVariables false
set_option linter.unusedSimpArgs false
namespace Go.X
open Go
inductive Pt where
  | done
  | take (i : Nat) (r : Pt)
  | only (i : Nat) (r : Pt)
  | two (i j : Nat) (a b : Pt)
  | three (i j k : Nat) (a b c : Pt)
def Pt.len : Pt → Nat
  | .done => 0
  | .take _ r => r.len + 1
  | .only _ r => r.len + 1
  | .two _ _ a _ => a.len + 1
  | .three _ _ _ a _ _ => a.len + 1
def sxw (P : Program) (S : World → Prop) (ops : Array Oper) (K : Sl → World → Prop) : Pt → Sl → World → Prop
  | .done, ρ, w => K ρ w
  | .take i r, ρ, w => match ops[i]? with | none => False | some o => sxt1 P S ops o (fun ρ => sxw P S ops K r ρ w) ρ
  | .only i r, ρ, w => match ops[i]? with | none => False | some o => sx1 P ops o (fun ρ w => S w ∧ sxw P S ops K r ρ w) ρ w
  | .two i j a b, ρ, w => (match ops[i]? with | none => False | some o => sx1 P ops o (fun ρ w => S w ∧ sxw P S ops K a ρ w) ρ w) ∧ (match ops[j]? with | none => False | some o => sx1 P ops o (fun ρ w => S w ∧ sxw P S ops K b ρ w) ρ w)
  | .three i j k a b c, ρ, w => (match ops[i]? with | none => False | some o => sx1 P ops o (fun ρ w => S w ∧ sxw P S ops K a ρ w) ρ w) ∧ (match ops[j]? with | none => False | some o => sx1 P ops o (fun ρ w => S w ∧ sxw P S ops K b ρ w) ρ w) ∧ (match ops[k]? with | none => False | some o => sx1 P ops o (fun ρ w => S w ∧ sxw P S ops K c ρ w) ρ w)
def Pt.ok (P : Program) (n : Nat) (ops : Array Oper) : Pt → Array Bool → Bool
  | .done, listed => (Region.ready .any ops listed).isEmpty
  | .take i r, listed => (match ops[i]? with | none => false | some o => oOk n o && (Region.free .any ops listed i && (Region.ready .any ops listed).contains i)) && Pt.ok P n ops r (listed.setIfInBounds i true)
  | .only i r, listed => opOk P n ops i && (Region.ready .any ops listed == [i]) && Pt.ok P n ops r (listed.setIfInBounds i true)
  | .two i j a b, listed => opOk P n ops i && opOk P n ops j && (Region.ready .any ops listed == [i, j]) && (a.len == b.len) && Pt.ok P n ops a (listed.setIfInBounds i true) && Pt.ok P n ops b (listed.setIfInBounds j true)
  | .three i j k a b c, listed => (opOk P n ops i && opOk P n ops j && opOk P n ops k) && (Region.ready .any ops listed == [i, j, k]) && ((a.len == b.len) && (a.len == c.len)) && Pt.ok P n ops a (listed.setIfInBounds i true) && Pt.ok P n ops b (listed.setIfInBounds j true) && Pt.ok P n ops c (listed.setIfInBounds k true)
theorem sxt_held {P : Program} {n : Nat} {D : List Deferred} {S : World → Prop} {ops : Array Oper} {K : Sl → World → Prop} {Q : Exit → Act → World → Prop} (hQ : ∀ a ρ w, Lk ⟨none, D⟩ n a ρ → K ρ w → Q .normal a w)
    (hp : ∀ c a w, ¬ Q (.panic c) a w) (hs : Region.noSelect ops = true) : ∀ (l : Pt) (listed : Array Bool) a ρ w,
    l.ok P n ops listed = true → Lk ⟨none, D⟩ n a ρ → S w → sxw P S ops K l ρ w → wpAnyH P .any ops Q S l.len listed a w
  | .done, listed, a, ρ, w, hpl, hl, hS, h => ⟨List.isEmpty_iff.1 hpl, hQ a ρ w hl h⟩
  | .take i r, listed, a, ρ, w, hpl, hl, hS, h => by
    unfold Pt.ok at hpl
    unfold sxw at h
    cases ho : ops[i]? with
    | none => rw [ho] at h; exact h.elim
    | some o =>
      rw [ho] at h hpl
      dsimp only at h hpl
      simp only [Bool.and_eq_true] at hpl
      obtain ⟨⟨h1, h2, h3⟩, h4⟩ := hpl
      obtain ⟨v, hy, ρ', hl', hN⟩ := sxt1_yields (oOk_dst h1) hl h
      exact wpAnyH_take ho hs h2 h3 (fun c a w q => absurd q (hp _ _ _)) hy hS (sxt_held hQ hp hs r _ _ ρ' w h4 hl' hS hN)
  | .only i r, listed, a, ρ, w, hpl, hl, hS, h => by
    unfold Pt.ok at hpl
    unfold sxw at h
    simp only [Bool.and_eq_true, beq_iff_eq] at hpl
    obtain ⟨⟨h1, h3⟩, h4⟩ := hpl
    obtain ⟨o, ho, g1, g2⟩ := opOk_some h1
    rw [ho] at h
    dsimp only at h
    refine wpAnyH_all h3 (by simp) fun j hj => ?_
    obtain rfl : j = i := by simpa using hj
    unfold wpOp
    rw [ho]
    exact sx1_wp0 (n := n) g2 (oOk_dst g1) hl h (fun a ρ w hl hq => ⟨hq.1, sxt_held hQ hp hs r _ a ρ w h4 hl hq.1 hq.2⟩)
  | .two i j a b, listed, ac, ρ, w, hpl, hl, hS, h => by
    unfold Pt.ok at hpl
    unfold sxw at h
    simp only [Bool.and_eq_true, beq_iff_eq] at hpl
    obtain ⟨⟨⟨⟨⟨h1, h2⟩, h3⟩, h4⟩, h5⟩, h6⟩ := hpl
    obtain ⟨o, ho, g1, g1'⟩ := opOk_some h1
    obtain ⟨o', ho', g2, g2'⟩ := opOk_some h2
    rw [ho, ho'] at h
    dsimp only at h
    refine wpAnyH_all h3 (by simp) fun k hk => ?_
    rcases List.mem_cons.1 hk with rfl | hk
    · unfold wpOp
      rw [ho]
      exact sx1_wp0 (n := n) g1' (oOk_dst g1) hl h.1 (fun a' ρ w hl hq => ⟨hq.1, sxt_held hQ hp hs a _ a' ρ w h5 hl hq.1 hq.2⟩)
    · obtain rfl : k = j := by simpa using hk
      unfold wpOp
      rw [ho']
      have h4' : a.len = b.len := by simpa using h4
      rw [h4']
      exact sx1_wp0 (n := n) g2' (oOk_dst g2) hl h.2 (fun a' ρ w hl hq => ⟨hq.1, sxt_held hQ hp hs b _ a' ρ w h6 hl hq.1 hq.2⟩)
  | .three i j k a b c, listed, ac, ρ, w, hpl, hl, hS, h => by
    unfold Pt.ok at hpl
    unfold sxw at h
    simp only [Bool.and_eq_true, beq_iff_eq] at hpl
    obtain ⟨⟨⟨⟨⟨⟨⟨h1, h2⟩, h2'⟩, h3⟩, h4, h4'⟩, h5⟩, h6⟩, h7⟩ := hpl
    obtain ⟨o, ho, g1, g1'⟩ := opOk_some h1
    obtain ⟨o', ho', g2, g2'⟩ := opOk_some h2
    obtain ⟨o'', ho'', g3, g3'⟩ := opOk_some h2'
    rw [ho, ho', ho''] at h
    dsimp only at h
    refine wpAnyH_all h3 (by simp) fun m hm => ?_
    rcases List.mem_cons.1 hm with rfl | hm
    · unfold wpOp
      rw [ho]
      exact sx1_wp0 (n := n) g1' (oOk_dst g1) hl h.1 (fun a' ρ w hl hq => ⟨hq.1, sxt_held hQ hp hs a _ a' ρ w h5 hl hq.1 hq.2⟩)
    · rcases List.mem_cons.1 hm with rfl | hm
      · unfold wpOp
        rw [ho']
        rw [show a.len = b.len by simpa using h4]
        exact sx1_wp0 (n := n) g2' (oOk_dst g2) hl h.2.1 (fun a' ρ w hl hq => ⟨hq.1, sxt_held hQ hp hs b _ a' ρ w h6 hl hq.1 hq.2⟩)
      · obtain rfl : m = k := by simpa using hm
        unfold wpOp
        rw [ho'']
        rw [show a.len = c.len by simpa using h4']
        exact sx1_wp0 (n := n) g3' (oOk_dst g3) hl h.2.2 (fun a' ρ w hl hq => ⟨hq.1, sxt_held hQ hp hs c _ a' ρ w h7 hl hq.1 hq.2⟩)
theorem W_plant {P : Program} {n : Nat} {D : List Deferred} {id : Nat} {ops : Array Oper} {K : Exit → Sl → World → Prop} {ρ : Sl} {w : World} (S : World → Prop) (plan : Pt) (hlen : plan.len = ops.size)
    (hs : Region.noSelect ops = true) (hpl : plan.ok P n ops (Array.replicate ops.size false) = true) (hm : P.follows .mixedOrders = true) (hS : S { w with drawn := w.drawn + 1 })
    (h : sxw P S ops (K .normal) plan ρ { w with drawn := w.drawn + 1 }) : W ⟨none, D⟩ P n (.region id ops true) K ρ w := by
  intro a hl
  refine wpIn_wide.2 (Code.wp_mono ?_ (wp_region_held (S := S) (Q := fun e a w => e = .normal ∧ ∃ ρ, Lk ⟨none, D⟩ n a ρ ∧ K .normal ρ w) hm ?_))
  · rintro e a w ⟨rfl, ρ, hl, hk⟩
    exact ⟨ρ, hl, hk⟩
  · have := sxt_held (Q := fun e a w => e = .normal ∧ ∃ ρ, Lk ⟨none, D⟩ n a ρ ∧ K .normal ρ w) (fun a ρ w hl hk => ⟨rfl, ρ, hl, hk⟩) (fun c a w q => by cases q.1) hs plan _ a ρ _ hpl hl hS h
    rw [hlen] at this
    exact this
end Go.X
set_option linter.unusedVariables false
set_option maxRecDepth 100000
namespace Go.Proofs.YtbnbcimjapiicaaDoor.XA
open Go Go.X
/-- dispatcher/dispatcherlaw04.ScopeApart -/
noncomputable def dispatcherlaw04_ScopeApart_b : Code := (Tryd.f7.body).getD .skip
noncomputable def dispatcherlaw04_ScopeApart_R0 : Code := cAt [1, 1, 1, 1, 1, 0, 1] dispatcherlaw04_ScopeApart_b
noncomputable def dispatcherlaw04_ScopeApart_R1 : Code := cAt [1, 1, 1, 1, 1, 1] dispatcherlaw04_ScopeApart_b
noncomputable def dispatcherlaw04_ScopeApart_R2 : Code := cAt [1, 1, 1, 1, 1, 1, 0] dispatcherlaw04_ScopeApart_b
noncomputable def dispatcherlaw04_ScopeApart_R3 : Code := cAt [1, 1, 1, 1, 1, 1, 1] dispatcherlaw04_ScopeApart_b
noncomputable def dispatcherlaw04_ScopeApart_L4 : Code := cAt [1, 1, 1, 1, 1, 1, 1, 1, 1, 0, 1, 0, 0] dispatcherlaw04_ScopeApart_b
noncomputable def dispatcherlaw04_ScopeApart_R5 : Code := cAt [1, 1, 1, 1, 1, 1, 1, 1, 1, 1] dispatcherlaw04_ScopeApart_b
noncomputable def dispatcherlaw04_ScopeApart_R6 : Code := cAt [1, 1, 1, 1, 1, 1, 1, 1, 1, 0, 1, 0, 0, 1, 1] dispatcherlaw04_ScopeApart_b
noncomputable def dispatcherlaw04_ScopeApart_R7 : Code := cAt [1, 1, 1, 1, 1, 1, 1, 1, 1, 0, 1, 0, 0, 1, 0, 0, 1, 1, 1] dispatcherlaw04_ScopeApart_b
noncomputable def dispatcherlaw04_ScopeApart_R8 : Code := cAt [1, 1, 1, 1, 1, 1, 1, 1, 1, 0, 1, 0, 0, 1, 0, 0, 1, 1, 1, 0, 1, 0, 0, 0] dispatcherlaw04_ScopeApart_b
noncomputable def dispatcherlaw04_ScopeApart_R9 : Code := cAt [1, 1, 1, 1, 1, 1, 1, 1, 1, 0, 1, 0, 0, 1, 0, 0, 1, 1, 1, 0, 1, 0, 0, 1] dispatcherlaw04_ScopeApart_b
noncomputable def dispatcherlaw04_ScopeApart_R10 : Code := cAt [1, 1, 1, 1, 1, 1, 1, 1, 1, 0, 1, 0, 0, 1, 0, 0, 1, 1, 1, 0, 1, 0, 1] dispatcherlaw04_ScopeApart_b
noncomputable def dispatcherlaw04_ScopeApart_R11 : Code := cAt [1, 1, 1, 1, 1, 1, 1, 1, 1, 0, 1, 0, 0, 1, 0, 0, 1, 1, 1, 1] dispatcherlaw04_ScopeApart_b
noncomputable def dispatcherlaw04_ScopeApart_R12 : Code := cAt [1, 1, 1, 1, 1, 1, 1, 1, 1, 0, 1, 0, 0, 1, 0, 0, 1, 1, 1, 1, 0, 0] dispatcherlaw04_ScopeApart_b
noncomputable def dispatcherlaw04_ScopeApart_R13 : Code := cAt [1, 1, 1, 1, 1, 1, 1, 1, 1, 0, 1, 0, 0, 1, 0, 0, 1, 1, 1, 1, 0, 1] dispatcherlaw04_ScopeApart_b
noncomputable def dispatcherlaw04_ScopeApart_R14 : Code := cAt [1, 1, 1, 1, 1, 1, 1, 1, 1, 0, 1, 0, 0, 1, 0, 0, 1, 1, 1, 1, 1] dispatcherlaw04_ScopeApart_b
noncomputable def dispatcherlaw04_ScopeApart_L15 : Code := cAt [1, 1, 1, 1, 1, 1, 1, 1, 1, 0, 1, 0, 0, 1, 0, 0, 1, 1, 1, 1, 1, 1, 1, 0, 0] dispatcherlaw04_ScopeApart_b
noncomputable def dispatcherlaw04_ScopeApart_R0_F (z : At) (K : Exit → Sl → World → Prop) (ρ : Sl) (w : World) : Prop :=
  CondK (ρ 46) (K Exit.ret (up ρ 4 (Value.bool false)) w) (K Exit.normal ρ w)
theorem dispatcherlaw04_ScopeApart_R0_eq (z : At) (K : Exit → Sl → World → Prop) (ρ : Sl) (w : World) : sx z Tryd.prog 207 dispatcherlaw04_ScopeApart_R0 K ρ w = dispatcherlaw04_ScopeApart_R0_F z K ρ w := by kernel_rfl
noncomputable def dispatcherlaw04_ScopeApart_R1_F (z : At) (K : Exit → Sl → World → Prop) (ρ : Sl) (w : World) : Prop :=
  W z Tryd.prog 207 dispatcherlaw04_ScopeApart_R2 (seqK (sx z Tryd.prog 207 dispatcherlaw04_ScopeApart_R3 K) K) ρ w
theorem dispatcherlaw04_ScopeApart_R1_eq (z : At) (K : Exit → Sl → World → Prop) (ρ : Sl) (w : World) : sx z Tryd.prog 207 dispatcherlaw04_ScopeApart_R1 K ρ w = dispatcherlaw04_ScopeApart_R1_F z K ρ w := by kernel_rfl
noncomputable def dispatcherlaw04_ScopeApart_R2_ops : Array Oper := opsOf dispatcherlaw04_ScopeApart_R2
def dispatcherlaw04_ScopeApart_R2_H (S : World → Prop) (K : Exit → Sl → World → Prop) (ρ : Sl) (w : World) : Prop :=
  (VK Tryd.prog (Instr.makeSlice 50 (Value.int IntKind.i64 64) (Value.int IntKind.i64 64)) w fun x47 w => S w ∧ ((VK Tryd.prog (Instr.makeSlice 50 (Value.int IntKind.i64 200) (Value.int IntKind.i64 200)) w fun x48 w => S w ∧ (VK Tryd.prog (Instr.makeSlice 50 (Value.int IntKind.i64 1000) (Value.int IntKind.i64 1000)) w fun x49 w => S w ∧ (K Exit.normal (up (up (up (up (up (up ρ 47 x47) 7 x47) 48 x48) 8 x48) 49 x49) 9 x49) w))) ∧ (VK Tryd.prog (Instr.makeSlice 50 (Value.int IntKind.i64 1000) (Value.int IntKind.i64 1000)) w fun x49_1 w => S w ∧ (VK Tryd.prog (Instr.makeSlice 50 (Value.int IntKind.i64 200) (Value.int IntKind.i64 200)) w fun x48_1 w => S w ∧ (K Exit.normal (up (up (up (up (up (up ρ 47 x47) 7 x47) 49 x49_1) 48 x48_1) 8 x48_1) 9 x49_1) w))))) ∧ (VK Tryd.prog (Instr.makeSlice 50 (Value.int IntKind.i64 200) (Value.int IntKind.i64 200)) w fun x48_2 w => S w ∧ ((VK Tryd.prog (Instr.makeSlice 50 (Value.int IntKind.i64 64) (Value.int IntKind.i64 64)) w fun x47_1 w => S w ∧ (VK Tryd.prog (Instr.makeSlice 50 (Value.int IntKind.i64 1000) (Value.int IntKind.i64 1000)) w fun x49_2 w => S w ∧ (K Exit.normal (up (up (up (up (up (up ρ 48 x48_2) 47 x47_1) 7 x47_1) 8 x48_2) 49 x49_2) 9 x49_2) w))) ∧ (VK Tryd.prog (Instr.makeSlice 50 (Value.int IntKind.i64 1000) (Value.int IntKind.i64 1000)) w fun x49_3 w => S w ∧ (VK Tryd.prog (Instr.makeSlice 50 (Value.int IntKind.i64 64) (Value.int IntKind.i64 64)) w fun x47_2 w => S w ∧ (K Exit.normal (up (up (up (up (up (up ρ 48 x48_2) 49 x49_3) 47 x47_2) 7 x47_2) 8 x48_2) 9 x49_3) w))))) ∧ (VK Tryd.prog (Instr.makeSlice 50 (Value.int IntKind.i64 1000) (Value.int IntKind.i64 1000)) w fun x49_4 w => S w ∧ ((VK Tryd.prog (Instr.makeSlice 50 (Value.int IntKind.i64 64) (Value.int IntKind.i64 64)) w fun x47_3 w => S w ∧ (VK Tryd.prog (Instr.makeSlice 50 (Value.int IntKind.i64 200) (Value.int IntKind.i64 200)) w fun x48_3 w => S w ∧ (K Exit.normal (up (up (up (up (up (up ρ 49 x49_4) 47 x47_3) 7 x47_3) 48 x48_3) 8 x48_3) 9 x49_4) w))) ∧ (VK Tryd.prog (Instr.makeSlice 50 (Value.int IntKind.i64 200) (Value.int IntKind.i64 200)) w fun x48_4 w => S w ∧ (VK Tryd.prog (Instr.makeSlice 50 (Value.int IntKind.i64 64) (Value.int IntKind.i64 64)) w fun x47_4 w => S w ∧ (K Exit.normal (up (up (up (up (up (up ρ 49 x49_4) 48 x48_4) 47 x47_4) 7 x47_4) 8 x48_4) 9 x49_4) w)))))
theorem dispatcherlaw04_ScopeApart_R2_held {D : List Deferred} (S : World → Prop) {K : Exit → Sl → World → Prop} {ρ : Sl} {w : World} (hS : S { w with drawn := w.drawn + 1 }) (h : dispatcherlaw04_ScopeApart_R2_H S K ρ { w with drawn := w.drawn + 1 }) : W ⟨none, D⟩ Tryd.prog 207 dispatcherlaw04_ScopeApart_R2 K ρ w := by
  have e : dispatcherlaw04_ScopeApart_R2 = .region (idOf dispatcherlaw04_ScopeApart_R2) dispatcherlaw04_ScopeApart_R2_ops true := by kernel_rfl
  have q : sxw Tryd.prog S dispatcherlaw04_ScopeApart_R2_ops (K .normal) (Pt.three 0 1 2 (Pt.take 3 (Pt.two 1 2 (Pt.take 4 (Pt.only 2 (Pt.take 5 Pt.done))) (Pt.only 1 (Pt.take 4 (Pt.take 5 Pt.done))))) (Pt.two 0 2 (Pt.take 3 (Pt.take 4 (Pt.only 2 (Pt.take 5 Pt.done)))) (Pt.only 0 (Pt.take 3 (Pt.take 4 (Pt.take 5 Pt.done))))) (Pt.two 0 1 (Pt.take 3 (Pt.only 1 (Pt.take 4 (Pt.take 5 Pt.done)))) (Pt.only 0 (Pt.take 3 (Pt.take 4 (Pt.take 5 Pt.done)))))) ρ { w with drawn := w.drawn + 1 } = dispatcherlaw04_ScopeApart_R2_H S K ρ { w with drawn := w.drawn + 1 } := by kernel_rfl
  rw [e]
  exact W_plant S (Pt.three 0 1 2 (Pt.take 3 (Pt.two 1 2 (Pt.take 4 (Pt.only 2 (Pt.take 5 Pt.done))) (Pt.only 1 (Pt.take 4 (Pt.take 5 Pt.done))))) (Pt.two 0 2 (Pt.take 3 (Pt.take 4 (Pt.only 2 (Pt.take 5 Pt.done)))) (Pt.only 0 (Pt.take 3 (Pt.take 4 (Pt.take 5 Pt.done))))) (Pt.two 0 1 (Pt.take 3 (Pt.only 1 (Pt.take 4 (Pt.take 5 Pt.done)))) (Pt.only 0 (Pt.take 3 (Pt.take 4 (Pt.take 5 Pt.done)))))) (by kernel_rfl) (by kernel_rfl) (by kernel_rfl) (by kernel_rfl) hS (Eq.mpr q h)
noncomputable def dispatcherlaw04_ScopeApart_R3_F (z : At) (K : Exit → Sl → World → Prop) (ρ : Sl) (w : World) : Prop :=
  CK Tryd.prog (Value.func (Fn.func 23) #[] #[]) [(ρ 5)] w fun x51 w => W z Tryd.prog 207 (Code.loop dispatcherlaw04_ScopeApart_L4) (blkK 0 (seqK (sx z Tryd.prog 207 dispatcherlaw04_ScopeApart_R5 K) K)) (up (up (up (up (up ρ 50 (ρ 5)) 51 x51) 10 x51) 11 (Value.bool false)) 12 (Value.int IntKind.i64 0)) w
theorem dispatcherlaw04_ScopeApart_R3_eq (z : At) (K : Exit → Sl → World → Prop) (ρ : Sl) (w : World) : sx z Tryd.prog 207 dispatcherlaw04_ScopeApart_R3 K ρ w = dispatcherlaw04_ScopeApart_R3_F z K ρ w := by kernel_rfl
noncomputable def dispatcherlaw04_ScopeApart_L4_F (z : At) (K : Exit → Sl → World → Prop) (ρ : Sl) (w : World) : Prop :=
  VK Tryd.prog (Instr.fieldAt 25 (ρ 2) 0) w fun x53 w => VK Tryd.prog (Instr.loadAt 22 x53) w fun x54 w => IK Tryd.prog Builtin.len #[22] 3 [false] [x54] w fun x55 w => BK Tryd.prog BinOp.lss 3 (Operand.tmp 52) (Operand.tmp 55) (ρ 12) x55 w fun x56 w => CondK x56 (VK Tryd.prog (Instr.fieldAt 25 (ρ 2) 0) w fun x59 w => VK Tryd.prog (Instr.loadAt 22 x59) w fun x60 w => VK Tryd.prog (Instr.indexAt 22 x60 (ρ 12)) w fun x62 w => VK Tryd.prog (Instr.loadAt 40 x62) w fun x63 w => VK Tryd.prog (Instr.alloc 40 true (.tuple #[])) w fun x13 w => UK Tryd.prog (Instr.storeAt 40 x13 x63) w fun _ w => VG Tryd.prog (ρ 11) false (Instr.fieldAt 40 x13 0) w fun x66 w => VG Tryd.prog (ρ 11) false (Instr.loadAt 9 x66) w fun x67 w => MG Tryd.prog (ρ 11) false (ρ 1) w fun x68 w => BG Tryd.prog (ρ 11) false BinOp.eql 9 (Operand.tmp 67) (Operand.tmp 68) x67 x68 w fun x69 w => PK Tryd.prog (ρ 11) (Value.bool true) x69 w fun x70 w => VK Tryd.prog (Instr.fieldAt 40 x13 0) w fun x72 w => VK Tryd.prog (Instr.loadAt 9 x72) w fun x73 w => CK Tryd.prog (Value.func (Fn.func 16) #[] #[]) [(ρ 5), x73] w fun x74 w => VK Tryd.prog (Instr.alloc 37 true (.tuple #[])) w fun x14 w => UK Tryd.prog (Instr.storeAt 37 x14 x74) w fun _ w => sx z Tryd.prog 207 dispatcherlaw04_ScopeApart_R7 (blkK 1 (seqK (sx z Tryd.prog 207 dispatcherlaw04_ScopeApart_R6 K) K)) (up (up (up (up (up (up (up (up (up (up (up (up (up (up (up (up (up (up (up (up (up (up (up (up ρ 52 (ρ 12)) 53 x53) 54 x54) 55 x55) 56 x56) 59 x59) 60 x60) 61 (ρ 12)) 62 x62) 63 x63) 13 x13) 64 (ρ 11)) 65 (ρ 11)) 66 x66) 67 x67) 68 x68) 69 x69) 70 x70) 11 x70) 71 (ρ 5)) 72 x72) 73 x73) 74 x74) 14 x14) w) (K (Exit.exit 0) (up (up (up (up (up ρ 52 (ρ 12)) 53 x53) 54 x54) 55 x55) 56 x56) w)
theorem dispatcherlaw04_ScopeApart_L4_eq (z : At) (K : Exit → Sl → World → Prop) (ρ : Sl) (w : World) : sx z Tryd.prog 207 dispatcherlaw04_ScopeApart_L4 K ρ w = dispatcherlaw04_ScopeApart_L4_F z K ρ w := by kernel_rfl
theorem dispatcherlaw04_ScopeApart_L4_ok : dstOk 207 dispatcherlaw04_ScopeApart_L4 = true := by kernel_rfl
noncomputable def dispatcherlaw04_ScopeApart_R5_F (z : At) (K : Exit → Sl → World → Prop) (ρ : Sl) (w : World) : Prop :=
  CK Tryd.prog (Value.func (Fn.func 22) #[] #[]) [(ρ 5)] w fun x184 w => CK Tryd.prog (Value.func (Fn.func 27) #[] #[]) [(ρ 7), x184] w fun x185 w => MG Tryd.prog x185 true (ρ 8) w fun x187 w => MG Tryd.prog x185 true (ρ 10) w fun x188 w => IG Tryd.prog x185 true Builtin.len #[50] 3 [false] [x188] w fun x189 w => CG Tryd.prog x185 true (Value.func (Fn.func 27) #[] #[]) [x187, x189] w fun x190 w => PK Tryd.prog x185 x190 (Value.bool false) w fun x191 w => MG Tryd.prog x191 true (ρ 9) w fun x193 w => MG Tryd.prog x191 true (ρ 10) w fun x194 w => CG Tryd.prog x191 true (Value.func (Fn.func 28) #[] #[]) [x194] w fun x195 w => CG Tryd.prog x191 true (Value.func (Fn.func 27) #[] #[]) [x193, x195] w fun x196 w => PK Tryd.prog x191 x196 (Value.bool false) w fun x197 w => MG Tryd.prog x197 true (ρ 11) w fun x199 w => MG Tryd.prog x197 true (ρ 5) w fun x200 w => MG Tryd.prog x197 true (ρ 1) w fun x201 w => CG Tryd.prog x197 true (Value.func (Fn.func 16) #[] #[]) [x200, x201] w fun x202 w => VG Tryd.prog x197 true (Instr.field 37 x202 0) w fun x203 w => BG Tryd.prog x197 true BinOp.neq 5 (Operand.tmp 203) (Operand.const (Value.int IntKind.u8 0)) x203 (Value.int IntKind.u8 0) w fun x204 w => BG Tryd.prog x197 true BinOp.eql 4 (Operand.tmp 199) (Operand.tmp 204) x199 x204 w fun x205 w => PK Tryd.prog x197 x205 (Value.bool false) w fun x206 w => K Exit.ret (up (up (up (up (up (up (up (up (up (up (up (up (up (up (up (up (up (up (up (up (up (up (up (up (up (up ρ 182 (ρ 7)) 183 (ρ 5)) 184 x184) 185 x185) 186 x185) 187 x187) 188 x188) 189 x189) 190 x190) 191 x191) 192 x191) 193 x193) 194 x194) 195 x195) 196 x196) 197 x197) 198 x197) 199 x199) 200 x200) 201 x201) 202 x202) 203 x203) 204 x204) 205 x205) 206 x206) 4 x206) w
theorem dispatcherlaw04_ScopeApart_R5_eq (z : At) (K : Exit → Sl → World → Prop) (ρ : Sl) (w : World) : sx z Tryd.prog 207 dispatcherlaw04_ScopeApart_R5 K ρ w = dispatcherlaw04_ScopeApart_R5_F z K ρ w := by kernel_rfl
noncomputable def dispatcherlaw04_ScopeApart_R6_F (z : At) (K : Exit → Sl → World → Prop) (ρ : Sl) (w : World) : Prop :=
  BK Tryd.prog BinOp.add 3 (Operand.tmp 57) (Operand.const (Value.int IntKind.i64 1)) (ρ 12) (Value.int IntKind.i64 1) w fun x58 w => K Exit.normal (up (up (up ρ 57 (ρ 12)) 58 x58) 12 x58) w
theorem dispatcherlaw04_ScopeApart_R6_eq (z : At) (K : Exit → Sl → World → Prop) (ρ : Sl) (w : World) : sx z Tryd.prog 207 dispatcherlaw04_ScopeApart_R6 K ρ w = dispatcherlaw04_ScopeApart_R6_F z K ρ w := by kernel_rfl
noncomputable def dispatcherlaw04_ScopeApart_R7_F (z : At) (K : Exit → Sl → World → Prop) (ρ : Sl) (w : World) : Prop :=
  VK Tryd.prog (Instr.fieldAt 40 (ρ 13) 1) w fun x75 w => VK Tryd.prog (Instr.loadAt 3 x75) w fun x76 w => BK Tryd.prog BinOp.eql 3 (Operand.tmp 76) (Operand.const (Value.int IntKind.i64 0)) x76 (Value.int IntKind.i64 0) w fun x77 w => CondK x77 (W z Tryd.prog 207 dispatcherlaw04_ScopeApart_R8 (seqK (sx z Tryd.prog 207 dispatcherlaw04_ScopeApart_R9 (seqK (sx z Tryd.prog 207 dispatcherlaw04_ScopeApart_R10 (seqK (sx z Tryd.prog 207 dispatcherlaw04_ScopeApart_R11 K) K)) (seqK (sx z Tryd.prog 207 dispatcherlaw04_ScopeApart_R11 K) K))) (seqK (sx z Tryd.prog 207 dispatcherlaw04_ScopeApart_R10 (seqK (sx z Tryd.prog 207 dispatcherlaw04_ScopeApart_R11 K) K)) (seqK (sx z Tryd.prog 207 dispatcherlaw04_ScopeApart_R11 K) K))) (up (up (up ρ 75 x75) 76 x76) 77 x77) w) (W z Tryd.prog 207 dispatcherlaw04_ScopeApart_R12 (seqK (sx z Tryd.prog 207 dispatcherlaw04_ScopeApart_R13 (seqK (sx z Tryd.prog 207 dispatcherlaw04_ScopeApart_R14 K) K)) (seqK (sx z Tryd.prog 207 dispatcherlaw04_ScopeApart_R14 K) K)) (up (up (up ρ 75 x75) 76 x76) 77 x77) w)
theorem dispatcherlaw04_ScopeApart_R7_eq (z : At) (K : Exit → Sl → World → Prop) (ρ : Sl) (w : World) : sx z Tryd.prog 207 dispatcherlaw04_ScopeApart_R7 K ρ w = dispatcherlaw04_ScopeApart_R7_F z K ρ w := by kernel_rfl
noncomputable def dispatcherlaw04_ScopeApart_R8_ops : Array Oper := opsOf dispatcherlaw04_ScopeApart_R8
def dispatcherlaw04_ScopeApart_R8_Q (C : World → Prop) (K : Exit → Sl → World → Prop) (ρ : Sl) : Prop :=
  QK Tryd.prog C (do pure (Next.value (← Instr.fieldAt 37 (ρ 14) 0))) fun x78 => QK Tryd.prog C (do pure (Next.value (← Instr.loadAt 5 x78))) fun x79 => QK Tryd.prog C (do pure (Next.value (← (do eqGuard BinOp.neq 5 (Operand.tmp 79) (Operand.const (Value.int IntKind.u8 1)) x79 (Value.int IntKind.u8 1); binOp BinOp.neq 5 x79 (Value.int IntKind.u8 1))))) fun x80 => QG Tryd.prog C x80 false  (do pure (Next.value (← Instr.fieldAt 37 (ρ 14) 1))) fun x82 => QG Tryd.prog C x80 false  (do pure (Next.value (← Instr.loadAt 3 x82))) fun x83 => QG Tryd.prog C x80 false  (do pure (Next.value (← (do eqGuard BinOp.lss 3 (Operand.tmp 83) (Operand.const (Value.int IntKind.i64 0)) x83 (Value.int IntKind.i64 0); binOp BinOp.lss 3 x83 (Value.int IntKind.i64 0))))) fun x84 => QK Tryd.prog C (do pure (Next.value (if ← asBool x80 then (Value.bool true) else x84))) fun x85 => QG Tryd.prog C x85 false  (do pure (Next.value (← Instr.fieldAt 37 (ρ 14) 1))) fun x87 => QG Tryd.prog C x85 false  (do pure (Next.value (← Instr.loadAt 3 x87))) fun x88 => QG Tryd.prog C x85 false  (pure (Next.value (ρ 5))) fun x89 => QG Tryd.prog C x85 false  (do let d ← Deferred.ofValue (Value.func (Fn.func 22) #[] #[]) [x89].toArray; invoke d.target d.args) fun x90 => QG Tryd.prog C x85 false  (do pure (Next.value (← (do eqGuard BinOp.geq 3 (Operand.tmp 88) (Operand.tmp 90) x88 x90; binOp BinOp.geq 3 x88 x90)))) fun x91 => QK Tryd.prog C (do pure (Next.value (if ← asBool x85 then (Value.bool true) else x91))) fun x92 => QG Tryd.prog C x92 false  (do pure (Next.value (← Instr.fieldAt 37 (ρ 14) 2))) fun x94 => QG Tryd.prog C x92 false  (do pure (Next.value (← Instr.loadAt 3 x94))) fun x95 => QG Tryd.prog C x92 false  (do pure (Next.value (← (do eqGuard BinOp.neq 3 (Operand.tmp 95) (Operand.const (Value.int IntKind.i64 0)) x95 (Value.int IntKind.i64 0); binOp BinOp.neq 3 x95 (Value.int IntKind.i64 0))))) fun x96 => QK Tryd.prog C (do pure (Next.value (if ← asBool x92 then (Value.bool true) else x96))) fun x97 => QG Tryd.prog C x97 false  (do pure (Next.value (← Instr.fieldAt 37 (ρ 14) 3))) fun x99 => QG Tryd.prog C x97 false  (do pure (Next.value (← Instr.loadAt 3 x99))) fun x100 => QG Tryd.prog C x97 false  (do pure (Next.value (← (do eqGuard BinOp.neq 3 (Operand.tmp 100) (Operand.const (Value.int IntKind.i64 0)) x100 (Value.int IntKind.i64 0); binOp BinOp.neq 3 x100 (Value.int IntKind.i64 0))))) fun x101 => QK Tryd.prog C (do pure (Next.value (if ← asBool x97 then (Value.bool true) else x101))) fun x102 => ∀ w', C w' → K Exit.normal (up (up (up (up (up (up (up (up (up (up (up (up (up (up (up (up (up (up (up (up (up (up (up (up (up ρ 78 x78) 79 x79) 80 x80) 81 x80) 82 x82) 83 x83) 84 x84) 85 x85) 86 x85) 87 x87) 88 x88) 89 x89) 90 x90) 91 x91) 92 x92) 93 x92) 94 x94) 95 x95) 96 x96) 97 x97) 98 x97) 99 x99) 100 x100) 101 x101) 102 x102) w'
theorem dispatcherlaw04_ScopeApart_R8_quiet {D : List Deferred} (C : World → Prop) {K : Exit → Sl → World → Prop} {ρ : Sl} {w : World} (hC : C { w with drawn := w.drawn + 1 }) (h : dispatcherlaw04_ScopeApart_R8_Q C K ρ) : W ⟨none, D⟩ Tryd.prog 207 dispatcherlaw04_ScopeApart_R8 K ρ w := by
  have e : dispatcherlaw04_ScopeApart_R8 = .region (idOf dispatcherlaw04_ScopeApart_R8) dispatcherlaw04_ScopeApart_R8_ops true := by kernel_rfl
  have q : sxq Tryd.prog C dispatcherlaw04_ScopeApart_R8_ops (fun ρ' => ∀ w', C w' → K .normal ρ' w') dispatcherlaw04_ScopeApart_R8_ops.toList ρ = dispatcherlaw04_ScopeApart_R8_Q C K ρ := by kernel_rfl
  rw [e]
  exact W_quiet C (by kernel_rfl) (by kernel_rfl) (by kernel_rfl) hC (Eq.mpr q h)
noncomputable def dispatcherlaw04_ScopeApart_R9_F (z : At) (K : Exit → Sl → World → Prop) (ρ : Sl) (w : World) : Prop :=
  CondK (ρ 102) (K Exit.ret (up ρ 4 (Value.bool false)) w) (K Exit.normal ρ w)
theorem dispatcherlaw04_ScopeApart_R9_eq (z : At) (K : Exit → Sl → World → Prop) (ρ : Sl) (w : World) : sx z Tryd.prog 207 dispatcherlaw04_ScopeApart_R9 K ρ w = dispatcherlaw04_ScopeApart_R9_F z K ρ w := by kernel_rfl
noncomputable def dispatcherlaw04_ScopeApart_R10_F (z : At) (K : Exit → Sl → World → Prop) (ρ : Sl) (w : World) : Prop :=
  VK Tryd.prog (Instr.fieldAt 37 (ρ 14) 1) w fun x104 w => VK Tryd.prog (Instr.loadAt 3 x104) w fun x105 w => VK Tryd.prog (Instr.indexAt 50 (ρ 7) x105) w fun x106 w => VK Tryd.prog (Instr.loadAt 3 x106) w fun x107 w => BK Tryd.prog BinOp.add 3 (Operand.tmp 107) (Operand.const (Value.int IntKind.i64 1)) x107 (Value.int IntKind.i64 1) w fun x108 w => VK Tryd.prog (Instr.indexAt 50 (ρ 7) x105) w fun x109 w => UK Tryd.prog (Instr.storeAt 3 x109 x108) w fun _ w => K (Exit.exit 1) (up (up (up (up (up (up (up ρ 103 (ρ 7)) 104 x104) 105 x105) 106 x106) 107 x107) 108 x108) 109 x109) w
theorem dispatcherlaw04_ScopeApart_R10_eq (z : At) (K : Exit → Sl → World → Prop) (ρ : Sl) (w : World) : sx z Tryd.prog 207 dispatcherlaw04_ScopeApart_R10 K ρ w = dispatcherlaw04_ScopeApart_R10_F z K ρ w := by kernel_rfl
noncomputable def dispatcherlaw04_ScopeApart_R12_ops : Array Oper := opsOf dispatcherlaw04_ScopeApart_R12
def dispatcherlaw04_ScopeApart_R12_Q (C : World → Prop) (K : Exit → Sl → World → Prop) (ρ : Sl) : Prop :=
  QK Tryd.prog C (do pure (Next.value (← Instr.fieldAt 37 (ρ 14) 0))) fun x110 => QK Tryd.prog C (do pure (Next.value (← Instr.loadAt 5 x110))) fun x111 => QK Tryd.prog C (do pure (Next.value (← (do eqGuard BinOp.neq 5 (Operand.tmp 111) (Operand.const (Value.int IntKind.u8 2)) x111 (Value.int IntKind.u8 2); binOp BinOp.neq 5 x111 (Value.int IntKind.u8 2))))) fun x112 => QG Tryd.prog C x112 false  (do pure (Next.value (← Instr.fieldAt 37 (ρ 14) 1))) fun x114 => QG Tryd.prog C x112 false  (do pure (Next.value (← Instr.loadAt 3 x114))) fun x115 => QG Tryd.prog C x112 false  (do pure (Next.value (← (do eqGuard BinOp.lss 3 (Operand.tmp 115) (Operand.const (Value.int IntKind.i64 0)) x115 (Value.int IntKind.i64 0); binOp BinOp.lss 3 x115 (Value.int IntKind.i64 0))))) fun x116 => QK Tryd.prog C (do pure (Next.value (if ← asBool x112 then (Value.bool true) else x116))) fun x117 => QG Tryd.prog C x117 false  (do pure (Next.value (← Instr.fieldAt 37 (ρ 14) 1))) fun x119 => QG Tryd.prog C x117 false  (do pure (Next.value (← Instr.loadAt 3 x119))) fun x120 => QG Tryd.prog C x117 false  (pure (Next.value (ρ 10))) fun x121 => QG Tryd.prog C x117 false  (builtin Builtin.len #[50] 3 [false].toArray [x121].toArray) fun x122 => QG Tryd.prog C x117 false  (do pure (Next.value (← (do eqGuard BinOp.geq 3 (Operand.tmp 120) (Operand.tmp 122) x120 x122; binOp BinOp.geq 3 x120 x122)))) fun x123 => QK Tryd.prog C (do pure (Next.value (if ← asBool x117 then (Value.bool true) else x123))) fun x124 => QG Tryd.prog C x124 false  (do pure (Next.value (← Instr.fieldAt 37 (ρ 14) 1))) fun x126 => QG Tryd.prog C x124 false  (do pure (Next.value (← Instr.loadAt 3 x126))) fun x127 => QG Tryd.prog C x124 false  (do pure (Next.value (← (do eqGuard BinOp.geq 3 (Operand.tmp 127) (Operand.const (Value.int IntKind.i64 200)) x127 (Value.int IntKind.i64 200); binOp BinOp.geq 3 x127 (Value.int IntKind.i64 200))))) fun x128 => QK Tryd.prog C (do pure (Next.value (if ← asBool x124 then (Value.bool true) else x128))) fun x129 => QG Tryd.prog C x129 false  (do pure (Next.value (← Instr.fieldAt 37 (ρ 14) 3))) fun x131 => QG Tryd.prog C x129 false  (do pure (Next.value (← Instr.loadAt 3 x131))) fun x132 => QG Tryd.prog C x129 false  (do pure (Next.value (← Instr.fieldAt 40 (ρ 13) 1))) fun x133 => QG Tryd.prog C x129 false  (do pure (Next.value (← Instr.loadAt 3 x133))) fun x134 => QG Tryd.prog C x129 false  (do pure (Next.value (← (do eqGuard BinOp.neq 3 (Operand.tmp 132) (Operand.tmp 134) x132 x134; binOp BinOp.neq 3 x132 x134)))) fun x135 => QK Tryd.prog C (do pure (Next.value (if ← asBool x129 then (Value.bool true) else x135))) fun x136 => QG Tryd.prog C x136 false  (pure (Next.value (ρ 10))) fun x138 => QG Tryd.prog C x136 false  (do pure (Next.value (← Instr.fieldAt 37 (ρ 14) 1))) fun x139 => QG Tryd.prog C x136 false  (do pure (Next.value (← Instr.loadAt 3 x139))) fun x140 => QG Tryd.prog C x136 false  (do pure (Next.value (← Instr.indexAt 50 x138 x140))) fun x141 => QG Tryd.prog C x136 false  (do pure (Next.value (← Instr.loadAt 3 x141))) fun x142 => QG Tryd.prog C x136 false  (do pure (Next.value (← Instr.fieldAt 40 (ρ 13) 1))) fun x143 => QG Tryd.prog C x136 false  (do pure (Next.value (← Instr.loadAt 3 x143))) fun x144 => QG Tryd.prog C x136 false  (do pure (Next.value (← (do eqGuard BinOp.neq 3 (Operand.tmp 142) (Operand.tmp 144) x142 x144; binOp BinOp.neq 3 x142 x144)))) fun x145 => QK Tryd.prog C (do pure (Next.value (if ← asBool x136 then (Value.bool true) else x145))) fun x146 => QG Tryd.prog C x146 false  (do pure (Next.value (← Instr.fieldAt 37 (ρ 14) 2))) fun x148 => QG Tryd.prog C x146 false  (do pure (Next.value (← Instr.loadAt 3 x148))) fun x149 => QG Tryd.prog C x146 false  (do pure (Next.value (← (do eqGuard BinOp.lss 3 (Operand.tmp 149) (Operand.const (Value.int IntKind.i64 0)) x149 (Value.int IntKind.i64 0); binOp BinOp.lss 3 x149 (Value.int IntKind.i64 0))))) fun x150 => QK Tryd.prog C (do pure (Next.value (if ← asBool x146 then (Value.bool true) else x150))) fun x151 => QG Tryd.prog C x151 false  (do pure (Next.value (← Instr.fieldAt 37 (ρ 14) 2))) fun x153 => QG Tryd.prog C x151 false  (do pure (Next.value (← Instr.loadAt 3 x153))) fun x154 => QG Tryd.prog C x151 false  (do pure (Next.value (← Instr.fieldAt 37 (ρ 14) 3))) fun x155 => QG Tryd.prog C x151 false  (do pure (Next.value (← Instr.loadAt 3 x155))) fun x156 => QG Tryd.prog C x151 false  (do pure (Next.value (← (do eqGuard BinOp.sub 3 (Operand.const (Value.int IntKind.i64 1000)) (Operand.tmp 156) (Value.int IntKind.i64 1000) x156; binOp BinOp.sub 3 (Value.int IntKind.i64 1000) x156)))) fun x157 => QG Tryd.prog C x151 false  (do pure (Next.value (← (do eqGuard BinOp.gtr 3 (Operand.tmp 154) (Operand.tmp 157) x154 x157; binOp BinOp.gtr 3 x154 x157)))) fun x158 => QK Tryd.prog C (do pure (Next.value (if ← asBool x151 then (Value.bool true) else x158))) fun x159 => ∀ w', C w' → K Exit.normal (up (up (up (up (up (up (up (up (up (up (up (up (up (up (up (up (up (up (up (up (up (up (up (up (up (up (up (up (up (up (up (up (up (up (up (up (up (up (up (up (up (up (up (up (up (up (up (up (up (up ρ 110 x110) 111 x111) 112 x112) 113 x112) 114 x114) 115 x115) 116 x116) 117 x117) 118 x117) 119 x119) 120 x120) 121 x121) 122 x122) 123 x123) 124 x124) 125 x124) 126 x126) 127 x127) 128 x128) 129 x129) 130 x129) 131 x131) 132 x132) 133 x133) 134 x134) 135 x135) 136 x136) 137 x136) 138 x138) 139 x139) 140 x140) 141 x141) 142 x142) 143 x143) 144 x144) 145 x145) 146 x146) 147 x146) 148 x148) 149 x149) 150 x150) 151 x151) 152 x151) 153 x153) 154 x154) 155 x155) 156 x156) 157 x157) 158 x158) 159 x159) w'
theorem dispatcherlaw04_ScopeApart_R12_quiet {D : List Deferred} (C : World → Prop) {K : Exit → Sl → World → Prop} {ρ : Sl} {w : World} (hC : C { w with drawn := w.drawn + 1 }) (h : dispatcherlaw04_ScopeApart_R12_Q C K ρ) : W ⟨none, D⟩ Tryd.prog 207 dispatcherlaw04_ScopeApart_R12 K ρ w := by
  have e : dispatcherlaw04_ScopeApart_R12 = .region (idOf dispatcherlaw04_ScopeApart_R12) dispatcherlaw04_ScopeApart_R12_ops true := by kernel_rfl
  have q : sxq Tryd.prog C dispatcherlaw04_ScopeApart_R12_ops (fun ρ' => ∀ w', C w' → K .normal ρ' w') dispatcherlaw04_ScopeApart_R12_ops.toList ρ = dispatcherlaw04_ScopeApart_R12_Q C K ρ := by kernel_rfl
  rw [e]
  exact W_quiet C (by kernel_rfl) (by kernel_rfl) (by kernel_rfl) hC (Eq.mpr q h)
noncomputable def dispatcherlaw04_ScopeApart_R13_F (z : At) (K : Exit → Sl → World → Prop) (ρ : Sl) (w : World) : Prop :=
  CondK (ρ 159) (K Exit.ret (up ρ 4 (Value.bool false)) w) (K Exit.normal ρ w)
theorem dispatcherlaw04_ScopeApart_R13_eq (z : At) (K : Exit → Sl → World → Prop) (ρ : Sl) (w : World) : sx z Tryd.prog 207 dispatcherlaw04_ScopeApart_R13 K ρ w = dispatcherlaw04_ScopeApart_R13_F z K ρ w := by kernel_rfl
noncomputable def dispatcherlaw04_ScopeApart_R14_F (z : At) (K : Exit → Sl → World → Prop) (ρ : Sl) (w : World) : Prop :=
  VK Tryd.prog (Instr.fieldAt 37 (ρ 14) 1) w fun x161 w => VK Tryd.prog (Instr.loadAt 3 x161) w fun x162 w => VK Tryd.prog (Instr.indexAt 50 (ρ 8) x162) w fun x163 w => VK Tryd.prog (Instr.loadAt 3 x163) w fun x164 w => BK Tryd.prog BinOp.add 3 (Operand.tmp 164) (Operand.const (Value.int IntKind.i64 1)) x164 (Value.int IntKind.i64 1) w fun x165 w => VK Tryd.prog (Instr.indexAt 50 (ρ 8) x162) w fun x166 w => UK Tryd.prog (Instr.storeAt 3 x166 x165) w fun _ w => W z Tryd.prog 207 (Code.loop dispatcherlaw04_ScopeApart_L15) (blkK 2 K) (up (up (up (up (up (up (up (up ρ 160 (ρ 8)) 161 x161) 162 x162) 163 x163) 164 x164) 165 x165) 166 x166) 15 (Value.int IntKind.i64 0)) w
theorem dispatcherlaw04_ScopeApart_R14_eq (z : At) (K : Exit → Sl → World → Prop) (ρ : Sl) (w : World) : sx z Tryd.prog 207 dispatcherlaw04_ScopeApart_R14 K ρ w = dispatcherlaw04_ScopeApart_R14_F z K ρ w := by kernel_rfl
noncomputable def dispatcherlaw04_ScopeApart_L15_F (z : At) (K : Exit → Sl → World → Prop) (ρ : Sl) (w : World) : Prop :=
  VK Tryd.prog (Instr.fieldAt 37 (ρ 14) 3) w fun x168 w => VK Tryd.prog (Instr.loadAt 3 x168) w fun x169 w => BK Tryd.prog BinOp.lss 3 (Operand.tmp 167) (Operand.tmp 169) (ρ 15) x169 w fun x170 w => CondK x170 (VK Tryd.prog (Instr.fieldAt 37 (ρ 14) 2) w fun x174 w => VK Tryd.prog (Instr.loadAt 3 x174) w fun x175 w => BK Tryd.prog BinOp.add 3 (Operand.tmp 175) (Operand.tmp 176) x175 (ρ 15) w fun x177 w => VK Tryd.prog (Instr.indexAt 50 (ρ 9) x177) w fun x178 w => VK Tryd.prog (Instr.loadAt 3 x178) w fun x179 w => BK Tryd.prog BinOp.add 3 (Operand.tmp 179) (Operand.const (Value.int IntKind.i64 1)) x179 (Value.int IntKind.i64 1) w fun x180 w => VK Tryd.prog (Instr.indexAt 50 (ρ 9) x177) w fun x181 w => UK Tryd.prog (Instr.storeAt 3 x181 x180) w fun _ w => BK Tryd.prog BinOp.add 3 (Operand.tmp 171) (Operand.const (Value.int IntKind.i64 1)) (ρ 15) (Value.int IntKind.i64 1) w fun x172 w => K Exit.normal (up (up (up (up (up (up (up (up (up (up (up (up (up (up (up (up ρ 167 (ρ 15)) 168 x168) 169 x169) 170 x170) 173 (ρ 9)) 174 x174) 175 x175) 176 (ρ 15)) 177 x177) 178 x178) 179 x179) 180 x180) 181 x181) 171 (ρ 15)) 172 x172) 15 x172) w) (K (Exit.exit 2) (up (up (up (up ρ 167 (ρ 15)) 168 x168) 169 x169) 170 x170) w)
theorem dispatcherlaw04_ScopeApart_L15_eq (z : At) (K : Exit → Sl → World → Prop) (ρ : Sl) (w : World) : sx z Tryd.prog 207 dispatcherlaw04_ScopeApart_L15 K ρ w = dispatcherlaw04_ScopeApart_L15_F z K ρ w := by kernel_rfl
theorem dispatcherlaw04_ScopeApart_L15_ok : dstOk 207 dispatcherlaw04_ScopeApart_L15 = true := by kernel_rfl
noncomputable def dispatcherlaw04_ScopeApart_F (a0 a1 : Value) (w : World) (R : Value → World → Prop) : Prop :=
  VK Tryd.prog (Instr.box 25 a0) w fun x2 w => CK Tryd.prog (Value.func (Fn.func 18) #[] #[]) [] w fun x16 w => VK Tryd.prog (Op.unary UnOp.not x16) w fun x17 w => CondK x17 (R (Value.bool false) w) (VK Tryd.prog (Instr.loadAt 25 x2) w fun x18 w => CK Tryd.prog (Value.func (Fn.func 10) #[] #[]) [x18] w fun x19 w => MG Tryd.prog x19 false a1 w fun x21 w => IG Tryd.prog x19 false Builtin.len #[9] 3 [false] [x21] w fun x22 w => BG Tryd.prog x19 false BinOp.gtr 3 (Operand.tmp 22) (Operand.const (Value.int IntKind.i64 30)) x22 (Value.int IntKind.i64 30) w fun x23 w => PK Tryd.prog x19 (Value.bool true) x23 w fun x24 w => CondK x24 (R (Value.bool true) w) (VK Tryd.prog (Instr.loadAt 25 x2) w fun x26 w => CK Tryd.prog (Value.func (Fn.func 13) #[] #[]) [x26] w fun x27 w => VK Tryd.prog (Instr.extract x27 0) w fun x28 w => VK Tryd.prog (Instr.extract x27 1) w fun x29 w => VK Tryd.prog (Instr.alloc 30 true (.tuple #[])) w fun x6 w => UK Tryd.prog (Instr.storeAt 30 x6 x29) w fun _ w => VK Tryd.prog (Instr.fieldAt 30 x6 0) w fun x30 w => VK Tryd.prog (Instr.loadAt 28 x30) w fun x31 w => BK Tryd.prog BinOp.neq 28 (Operand.tmp 31) (Operand.const (Value.int IntKind.i64 0)) x31 (Value.int IntKind.i64 0) w fun x32 w => CondK x32 (BK Tryd.prog BinOp.eql 32 (Operand.tmp 33) (Operand.const (Value.pointer none)) x28 (Value.pointer none) w fun x34 w => R x34 w) (BK Tryd.prog BinOp.eql 32 (Operand.tmp 35) (Operand.const (Value.pointer none)) x28 (Value.pointer none) w fun x36 w => MG Tryd.prog x36 false x28 w fun x38 w => CG Tryd.prog x36 false (Value.func (Fn.func 22) #[] #[]) [x38] w fun x39 w => BG Tryd.prog x36 false BinOp.lss 3 (Operand.tmp 39) (Operand.const (Value.int IntKind.i64 0)) x39 (Value.int IntKind.i64 0) w fun x40 w => PK Tryd.prog x36 (Value.bool true) x40 w fun x41 w => MG Tryd.prog x41 false x28 w fun x43 w => CG Tryd.prog x41 false (Value.func (Fn.func 22) #[] #[]) [x43] w fun x44 w => BG Tryd.prog x41 false BinOp.gtr 3 (Operand.tmp 44) (Operand.const (Value.int IntKind.i64 64)) x44 (Value.int IntKind.i64 64) w fun x45 w => PK Tryd.prog x41 (Value.bool true) x45 w fun x46 w => sx fn_ Tryd.prog 207 dispatcherlaw04_ScopeApart_R0 (seqK (sx fn_ Tryd.prog 207 dispatcherlaw04_ScopeApart_R1 (retK Tryd.prog [ResultVar.tmp 4] R)) (retK Tryd.prog [ResultVar.tmp 4] R)) (up (up (up (up (up (up (up (up (up (up (up (up (up (up (up (up (up (up (up (up (up (up (up (up (up (up (up (up (up (up (up (up (up (rho0 [a0, a1]) 2 x2) 4 (Value.bool false)) 16 x16) 17 x17) 18 x18) 19 x19) 20 x19) 21 x21) 22 x22) 23 x23) 24 x24) 26 x26) 27 x27) 25 x27) 28 x28) 29 x29) 6 x6) 5 x28) 30 x30) 31 x31) 32 x32) 35 x28) 36 x36) 37 x36) 38 x38) 39 x39) 40 x40) 41 x41) 42 x41) 43 x43) 44 x44) 45 x45) 46 x46) w)))
theorem dispatcherlaw04_ScopeApart_eq (a0 a1 : Value) (w : World) (R : Value → World → Prop) : sx fn_ Tryd.prog 207 dispatcherlaw04_ScopeApart_b (retK Tryd.prog Tryd.f7.results.toList R) (rho0 [a0, a1]) w = dispatcherlaw04_ScopeApart_F a0 a1 w R := by kernel_rfl
theorem dispatcherlaw04_ScopeApart_calls {a0 a1 : Value} {w : World} {R : Value → World → Prop} (h : dispatcherlaw04_ScopeApart_F a0 a1 w R) : Calls Tryd.prog 7 #[a0, a1] w fun e w' => ∃ v, e = .returned v ∧ R v w' :=
  Go.X.calls_of_sx (n := 207) (c := dispatcherlaw04_ScopeApart_b) Tryd.func7 (by kernel_rfl) (by kernel_rfl) (Nat.le_of_ble_eq_true rfl) (by kernel_rfl) (Eq.mpr (dispatcherlaw04_ScopeApart_eq a0 a1 w R) h)
end Go.Proofs.YtbnbcimjapiicaaDoor.XA
set_option linter.unusedVariables false
set_option linter.unusedSimpArgs false
set_option maxRecDepth 4000
namespace Go.X
open Go
def onesL (n m : Nat) : List Int := (List.range n).map fun j => if j < m then 1 else 0
theorem onesL_len (n m : Nat) : (onesL n m).length = n := by simp [onesL]
theorem onesL_at {n m i : Nat} (h : i < n) : (onesL n m)[i]? = some (if i < m then 1 else 0) := by
  unfold onesL
  rw [List.getElem?_map, List.getElem?_range h]; rfl
theorem onesL_set {n m : Nat} (h : m < n) : (onesL n m).set m 1 = onesL n (m + 1) := by
  apply List.ext_getElem?
  intro i
  rw [List.getElem?_set]
  by_cases hi : i < n
  · rw [onesL_at hi, onesL_at hi, onesL_len]
    by_cases q : m = i
    · subst q; simp [h]
    · rw [if_neg q]
      congr 1
      by_cases q2 : i < m
      · rw [if_pos q2, if_pos (by omega)]
      · rw [if_neg q2, if_neg (by omega)]
  · have h1 : (onesL n (m + 1))[i]? = none := List.getElem?_eq_none (by rw [onesL_len]; omega)
    have h2 : (onesL n m)[i]? = none := List.getElem?_eq_none (by rw [onesL_len]; omega)
    rw [h1, h2, onesL_len, if_neg (show ¬ m = i by omega)]
theorem onesL_zero (n : Nat) : onesL n 0 = List.replicate n 0 := by
  unfold onesL
  apply List.ext_getElem?
  intro i
  rw [List.getElem?_map, List.getElem?_replicate]
  by_cases h : i < n
  · rw [List.getElem?_range h, if_pos h]; rfl
  · rw [List.getElem?_eq_none (by simp; omega), if_neg h]; rfl
end Go.X
namespace Go.Proofs.YtbnbcimjapiicaaDoor.Tr
open Go Go.X Go.RowKit Go.Proofs.YtbnbcimjapiicaaDoor.XL Go.Proofs.YtbnbcimjapiicaaDoor.XA Go.Proofs.YtbnbcimjapiicaaDoor.XK
theorem Ones_ok {w : World} {v : Value} {n m : Nat} (h : reads w 1 v n ((onesL n m).map (.int .i64))) (hm : m ≤ n) (hn : n ≤ 1000000) : Rt Tryd.prog 27 #[v, .int .i64 (m : Nat)] w fun r w' => r = .bool true ∧ w' = w := by
  obtain ⟨A, c, rfl, _⟩ := reads_cap h
  refine dispatcherlaw04_ones_calls ?_
  unfold dispatcherlaw04_ones_F
  refine W_loopG dispatcherlaw04_ones_L0_ok (fun k ρ w' => ∃ i, i + k = n ∧ ρ 5 = .int .i64 (i : Nat) ∧ ρ 1 = .int .i64 (m : Nat) ∧ ρ 0 = .slice A n c ∧ w' = w) n ⟨0, by omega, rfl, rfl, rfl, rfl⟩ ?_
  rintro k ρ w' ⟨i, hi, q5, q1, q0, rfl⟩
  rw [dispatcherlaw04_ones_L0_eq]
  unfold dispatcherlaw04_ones_L0_F
  rw [q0, q1, q5, len_sl uIs]
  by_cases hlt : i < n
  · have hx : ((onesL n m).map (Value.int .i64))[((i : Nat) : Int).toNat]? = some (.int .i64 (if i < m then 1 else 0)) := by rw [Int.toNat_natCast, List.getElem?_map, onesL_at hlt]; rfl
    simp only [↓VG_u, ↓UG_u, ↓MG_u, ↓NG_u, ↓PG_u, ↓BG_u, ↓CG_u, ↓IG_u, ↓VGtt, ↓VGtf, ↓VGft, ↓VGff, ↓UGtt, ↓UGtf, ↓UGft, ↓UGff, ↓MGtt, ↓MGtf, ↓MGft, ↓MGff, ↓NGtt, ↓NGtf, ↓NGft, ↓NGff, ↓PGtt, ↓PGtf, ↓PGft, ↓PGff, ↓BGtt, ↓BGtf, ↓BGft, ↓BGff, ↓CGtt, ↓CGtf, ↓CGft, ↓CGff, ↓IGtt, ↓IGtf, ↓IGft, ↓IGff, ↓PKt, ↓PKf, ↓CDt, ↓CDf, ↓NOTt, ↓NOTf, ↓NK_ptr, ↓LTt (show (i : Int) < (n : Int) by omega)]
    refine ixld uIs (by kernel_rfl) uI rfl h (by omega) hx fun x => ?_
    by_cases him : i < m
    · rw [if_pos him] at hx ⊢
      simp only [↓VG_u, ↓UG_u, ↓MG_u, ↓NG_u, ↓PG_u, ↓BG_u, ↓CG_u, ↓IG_u, ↓VGtt, ↓VGtf, ↓VGft, ↓VGff, ↓UGtt, ↓UGtf, ↓UGft, ↓UGff, ↓MGtt, ↓MGtf, ↓MGft, ↓MGff, ↓NGtt, ↓NGtf, ↓NGft, ↓NGff, ↓PGtt, ↓PGtf, ↓PGft, ↓PGff, ↓BGtt, ↓BGtf, ↓BGft, ↓BGff, ↓CGtt, ↓CGtf, ↓CGft, ↓CGff, ↓IGtt, ↓IGtf, ↓IGft, ↓IGff, ↓PKt, ↓PKf, ↓CDt, ↓CDf, ↓NOTt, ↓NOTf, ↓NK_ptr, ↓GTf (show (1 : Int) ≤ 1 by omega)]
      refine ixld uIs (by kernel_rfl) uI rfl h (by omega) hx fun x => ?_
      simp only [↓VG_u, ↓UG_u, ↓MG_u, ↓NG_u, ↓PG_u, ↓BG_u, ↓CG_u, ↓IG_u, ↓VGtt, ↓VGtf, ↓VGft, ↓VGff, ↓UGtt, ↓UGtf, ↓UGft, ↓UGff, ↓MGtt, ↓MGtf, ↓MGft, ↓MGff, ↓NGtt, ↓NGtf, ↓NGft, ↓NGff, ↓PGtt, ↓PGtf, ↓PGft, ↓PGff, ↓BGtt, ↓BGtf, ↓BGft, ↓BGff, ↓CGtt, ↓CGtf, ↓CGft, ↓CGff, ↓IGtt, ↓IGtf, ↓IGft, ↓IGff, ↓PKt, ↓PKf, ↓CDt, ↓CDf, ↓NOTt, ↓NOTf, ↓NK_ptr, ↓EQt (rfl : (1 : Int) = 1), ↓LTt (show (i : Int) < (m : Int) by omega)]
      rw [BK_neqB Tryd.underlying4]
      try simp only [↓VG_u, ↓UG_u, ↓MG_u, ↓NG_u, ↓PG_u, ↓BG_u, ↓CG_u, ↓IG_u, ↓VGtt, ↓VGtf, ↓VGft, ↓VGff, ↓UGtt, ↓UGtf, ↓UGft, ↓UGff, ↓MGtt, ↓MGtf, ↓MGft, ↓MGff, ↓NGtt, ↓NGtf, ↓NGft, ↓NGff, ↓PGtt, ↓PGtf, ↓PGft, ↓PGff, ↓BGtt, ↓BGtf, ↓BGft, ↓BGff, ↓CGtt, ↓CGtf, ↓CGft, ↓CGff, ↓IGtt, ↓IGtf, ↓IGft, ↓IGff, ↓PKt, ↓PKf, ↓CDt, ↓CDf, ↓NOTt, ↓NOTf, ↓NK_ptr, beq_self_eq_true, Bool.not_true]
      refine BKadd (a := i) (b := 1) rfl rfl (by omega) (by omega) ⟨k - 1, by omega, i + 1, by omega, rfl, ?_, ?_, rfl⟩
      · exact q1
      · exact q0
    · rw [if_neg him] at hx ⊢
      simp only [↓VG_u, ↓UG_u, ↓MG_u, ↓NG_u, ↓PG_u, ↓BG_u, ↓CG_u, ↓IG_u, ↓VGtt, ↓VGtf, ↓VGft, ↓VGff, ↓UGtt, ↓UGtf, ↓UGft, ↓UGff, ↓MGtt, ↓MGtf, ↓MGft, ↓MGff, ↓NGtt, ↓NGtf, ↓NGft, ↓NGff, ↓PGtt, ↓PGtf, ↓PGft, ↓PGff, ↓BGtt, ↓BGtf, ↓BGft, ↓BGff, ↓CGtt, ↓CGtf, ↓CGft, ↓CGff, ↓IGtt, ↓IGtf, ↓IGft, ↓IGff, ↓PKt, ↓PKf, ↓CDt, ↓CDf, ↓NOTt, ↓NOTf, ↓NK_ptr, ↓GTf (show (0 : Int) ≤ 1 by omega)]
      refine ixld uIs (by kernel_rfl) uI rfl h (by omega) hx fun x => ?_
      simp only [↓VG_u, ↓UG_u, ↓MG_u, ↓NG_u, ↓PG_u, ↓BG_u, ↓CG_u, ↓IG_u, ↓VGtt, ↓VGtf, ↓VGft, ↓VGff, ↓UGtt, ↓UGtf, ↓UGft, ↓UGff, ↓MGtt, ↓MGtf, ↓MGft, ↓MGff, ↓NGtt, ↓NGtf, ↓NGft, ↓NGff, ↓PGtt, ↓PGtf, ↓PGft, ↓PGff, ↓BGtt, ↓BGtf, ↓BGft, ↓BGff, ↓CGtt, ↓CGtf, ↓CGft, ↓CGff, ↓IGtt, ↓IGtf, ↓IGft, ↓IGff, ↓PKt, ↓PKf, ↓CDt, ↓CDf, ↓NOTt, ↓NOTf, ↓NK_ptr, ↓EQf (show (0 : Int) ≠ 1 by decide), ↓LTf (show (m : Int) ≤ (i : Int) by omega)]
      rw [BK_neqB Tryd.underlying4]
      try simp only [↓VG_u, ↓UG_u, ↓MG_u, ↓NG_u, ↓PG_u, ↓BG_u, ↓CG_u, ↓IG_u, ↓VGtt, ↓VGtf, ↓VGft, ↓VGff, ↓UGtt, ↓UGtf, ↓UGft, ↓UGff, ↓MGtt, ↓MGtf, ↓MGft, ↓MGff, ↓NGtt, ↓NGtf, ↓NGft, ↓NGff, ↓PGtt, ↓PGtf, ↓PGft, ↓PGff, ↓BGtt, ↓BGtf, ↓BGft, ↓BGff, ↓CGtt, ↓CGtf, ↓CGft, ↓CGff, ↓IGtt, ↓IGtf, ↓IGft, ↓IGff, ↓PKt, ↓PKf, ↓CDt, ↓CDf, ↓NOTt, ↓NOTf, ↓NK_ptr, beq_self_eq_true, Bool.not_true]
      refine BKadd (a := i) (b := 1) rfl rfl (by omega) (by omega) ⟨k - 1, by omega, i + 1, by omega, rfl, ?_, ?_, rfl⟩
      · exact q1
      · exact q0
  · simp only [↓VG_u, ↓UG_u, ↓MG_u, ↓NG_u, ↓PG_u, ↓BG_u, ↓CG_u, ↓IG_u, ↓VGtt, ↓VGtf, ↓VGft, ↓VGff, ↓UGtt, ↓UGtf, ↓UGft, ↓UGff, ↓MGtt, ↓MGtf, ↓MGft, ↓MGff, ↓NGtt, ↓NGtf, ↓NGft, ↓NGff, ↓PGtt, ↓PGtf, ↓PGft, ↓PGff, ↓BGtt, ↓BGtf, ↓BGft, ↓BGff, ↓CGtt, ↓CGtf, ↓CGft, ↓CGff, ↓IGtt, ↓IGtf, ↓IGft, ↓IGff, ↓PKt, ↓PKf, ↓CDt, ↓CDf, ↓NOTt, ↓NOTf, ↓NK_ptr, ↓LTf (show (n : Int) ≤ (i : Int) by omega)]
    rw [sq_x, bk_x, sq_n, dispatcherlaw04_ones_R1_eq]
    unfold dispatcherlaw04_ones_R1_F
    have q0' : ∀ a b d e : Value, (Go.X.up (Go.X.up (Go.X.up (Go.X.up ρ 6 a) 7 b) 8 d) 9 e) 0 = .slice A n c := fun _ _ _ _ => q0
    have q1' : ∀ a b d e : Value, (Go.X.up (Go.X.up (Go.X.up (Go.X.up ρ 6 a) 7 b) 8 d) 9 e) 1 = .int .i64 (m : Nat) := fun _ _ _ _ => q1
    rw [q0', q1', len_sl uIs, BK_leq, decide_eq_true (show (m : Int) ≤ (n : Int) by omega)]
    exact ⟨rfl, rfl⟩
end Go.Proofs.YtbnbcimjapiicaaDoor.Tr
set_option linter.unusedVariables false
set_option linter.unusedSimpArgs false
set_option maxRecDepth 4000
namespace Go.Proofs.YtbnbcimjapiicaaDoor.Tr
open Go Go.X Go.RowKit Go.Proofs.YtbnbcimjapiicaaDoor.XL Go.Proofs.YtbnbcimjapiicaaDoor.XK
abbrev tI : TypeId := 3
abbrev apartR (w0 : World) : Value → World → Prop := fun v w' => v = .bool true ∧ Mod none_ w0 w'
/-- The end: all ones, all up to how many there are. -/
theorem apart5 {w0 w : World} (hm : Mod none_ w0 w) {ds : List De} {t base : Nat} (hT : TbAt w base t ds) (hmay : ∀ d ∈ ds, d.may = true) (hv : vars ds ≤ 64) (ha : (arrs ds).length ≤ 200) (hc : cellsP ds ≤ 1000) {v7 v8 v9 v10 : Value} {other : ByteArray} {there : Bool}
    (h7 : reads w 1 v7 64 ((onesL 64 (vars ds)).map (.int .i64))) (h8 : reads w 1 v8 200 ((onesL 200 (arrs ds).length).map (.int .i64))) (h9 : reads w 1 v9 1000 ((onesL 1000 (cellsP ds).toNat).map (.int .i64))) (h10 : reads w 1 v10 (arrs ds).length ((arrs ds).map (.int .i64)))
    (hth : there = !((findP ds other.data.toList).kind == 0)) {ρ : Sl} (r5 : ρ 5 = pt t) (r7 : ρ 7 = v7) (r8 : ρ 8 = v8) (r9 : ρ 9 = v9) (r10 : ρ 10 = v10) (r11 : ρ 11 = .bool there) (r1 : ρ 1 = .string other) :
    sx fn_ Tryd.prog 207 XA.dispatcherlaw04_ScopeApart_R5 (retK Tryd.prog [ResultVar.tmp 4] (apartR w0)) ρ w := by
  rw [XA.dispatcherlaw04_ScopeApart_R5_eq]
  unfold XA.dispatcherlaw04_ScopeApart_R5_F
  rw [r5, r7, r8, r9, r10, r11, r1]
  have hcl := cellsP_le hmay
  obtain ⟨A, c, hs10, _⟩ := reads_cap h10
  refine CK_st Tryd.func22 rfl rfl (VarsT_ok hT) ?_
  rintro _ w1 ⟨rfl, hm1⟩
  have rd : ∀ {w' : World} {v : Value} {k : Nat} {xs : List Value}, Mod none_ w w' → reads w 1 v k xs → reads w' 1 v k xs := fun hw hr => reads_mod hr hw fun _ _ _ => id
  refine CK_st Tryd.func27 rfl rfl (Ones_ok (rd hm1 h7) hv (by omega)) ?_
  rintro _ w2 ⟨rfl, rfl⟩
  try simp only [↓VG_u, ↓UG_u, ↓MG_u, ↓NG_u, ↓PG_u, ↓BG_u, ↓CG_u, ↓IG_u, ↓VGtt, ↓VGtf, ↓VGft, ↓VGff, ↓UGtt, ↓UGtf, ↓UGft, ↓UGff, ↓MGtt, ↓MGtf, ↓MGft, ↓MGff, ↓NGtt, ↓NGtf, ↓NGft, ↓NGff, ↓PGtt, ↓PGtf, ↓PGft, ↓PGff, ↓BGtt, ↓BGtf, ↓BGft, ↓BGff, ↓CGtt, ↓CGtf, ↓CGft, ↓CGff, ↓IGtt, ↓IGtf, ↓IGft, ↓IGff, ↓PKt, ↓PKf, ↓CDt, ↓CDf, ↓NOTt, ↓NOTf, ↓NK_ptr]
  rw [hs10, len_sl uIs]
  try simp only [↓VG_u, ↓UG_u, ↓MG_u, ↓NG_u, ↓PG_u, ↓BG_u, ↓CG_u, ↓IG_u, ↓VGtt, ↓VGtf, ↓VGft, ↓VGff, ↓UGtt, ↓UGtf, ↓UGft, ↓UGff, ↓MGtt, ↓MGtf, ↓MGft, ↓MGff, ↓NGtt, ↓NGtf, ↓NGft, ↓NGff, ↓PGtt, ↓PGtf, ↓PGft, ↓PGff, ↓BGtt, ↓BGtf, ↓BGft, ↓BGff, ↓CGtt, ↓CGtf, ↓CGft, ↓CGff, ↓IGtt, ↓IGtf, ↓IGft, ↓IGff, ↓PKt, ↓PKf, ↓CDt, ↓CDf, ↓NOTt, ↓NOTf, ↓NK_ptr]
  refine CK_st Tryd.func27 rfl rfl (Ones_ok (rd hm1 h8) ha (by omega)) ?_
  rintro _ w3 ⟨rfl, rfl⟩
  try simp only [↓VG_u, ↓UG_u, ↓MG_u, ↓NG_u, ↓PG_u, ↓BG_u, ↓CG_u, ↓IG_u, ↓VGtt, ↓VGtf, ↓VGft, ↓VGff, ↓UGtt, ↓UGtf, ↓UGft, ↓UGff, ↓MGtt, ↓MGtf, ↓MGft, ↓MGff, ↓NGtt, ↓NGtf, ↓NGft, ↓NGff, ↓PGtt, ↓PGtf, ↓PGft, ↓PGff, ↓BGtt, ↓BGtf, ↓BGft, ↓BGff, ↓CGtt, ↓CGtf, ↓CGft, ↓CGff, ↓IGtt, ↓IGtf, ↓IGft, ↓IGff, ↓PKt, ↓PKf, ↓CDt, ↓CDf, ↓NOTt, ↓NOTf, ↓NK_ptr]
  rw [← hs10]
  have hax : ∀ x ∈ arrs ds, 0 ≤ x ∧ x ≤ 1000 := by
    intro x hx
    unfold arrs at hx
    obtain ⟨d, hd, rfl⟩ := List.mem_map.1 hx
    exact may_places (hmay d (List.mem_filter.1 hd).1)
  refine CK_st Tryd.func28 rfl rfl (Sum_ok (rd hm1 h10) hax (by omega)) ?_
  rintro _ w4 ⟨rfl, rfl⟩
  try simp only [↓VG_u, ↓UG_u, ↓MG_u, ↓NG_u, ↓PG_u, ↓BG_u, ↓CG_u, ↓IG_u, ↓VGtt, ↓VGtf, ↓VGft, ↓VGff, ↓UGtt, ↓UGtf, ↓UGft, ↓UGff, ↓MGtt, ↓MGtf, ↓MGft, ↓MGff, ↓NGtt, ↓NGtf, ↓NGft, ↓NGff, ↓PGtt, ↓PGtf, ↓PGft, ↓PGff, ↓BGtt, ↓BGtf, ↓BGft, ↓BGff, ↓CGtt, ↓CGtf, ↓CGft, ↓CGff, ↓IGtt, ↓IGtf, ↓IGft, ↓IGff, ↓PKt, ↓PKf, ↓CDt, ↓CDf, ↓NOTt, ↓NOTf, ↓NK_ptr]
  rw [sum_arrs, show cellsP ds = (((cellsP ds).toNat : Nat) : Int) by omega]
  refine CK_st Tryd.func27 rfl rfl (Ones_ok (rd hm1 h9) (by omega) (by omega)) ?_
  rintro _ w5 ⟨rfl, rfl⟩
  try simp only [↓VG_u, ↓UG_u, ↓MG_u, ↓NG_u, ↓PG_u, ↓BG_u, ↓CG_u, ↓IG_u, ↓VGtt, ↓VGtf, ↓VGft, ↓VGff, ↓UGtt, ↓UGtf, ↓UGft, ↓UGff, ↓MGtt, ↓MGtf, ↓MGft, ↓MGff, ↓NGtt, ↓NGtf, ↓NGft, ↓NGff, ↓PGtt, ↓PGtf, ↓PGft, ↓PGff, ↓BGtt, ↓BGtf, ↓BGft, ↓BGff, ↓CGtt, ↓CGtf, ↓CGft, ↓CGff, ↓IGtt, ↓IGtf, ↓IGft, ↓IGff, ↓PKt, ↓PKf, ↓CDt, ↓CDf, ↓NOTt, ↓NOTf, ↓NK_ptr]
  refine CK_st Tryd.func16 rfl rfl (FindT_ok (hT.mod hm1) other) ?_
  rintro _ w6 ⟨rfl, hm6⟩
  try simp only [↓VG_u, ↓UG_u, ↓MG_u, ↓NG_u, ↓PG_u, ↓BG_u, ↓CG_u, ↓IG_u, ↓VGtt, ↓VGtf, ↓VGft, ↓VGff, ↓UGtt, ↓UGtf, ↓UGft, ↓UGff, ↓MGtt, ↓MGtf, ↓MGft, ↓MGff, ↓NGtt, ↓NGtf, ↓NGft, ↓NGff, ↓PGtt, ↓PGtf, ↓PGft, ↓PGff, ↓BGtt, ↓BGtf, ↓BGft, ↓BGff, ↓CGtt, ↓CGtf, ↓CGft, ↓CGff, ↓IGtt, ↓IGtf, ↓IGft, ↓IGff, ↓PKt, ↓PKf, ↓CDt, ↓CDf, ↓NOTt, ↓NOTf, ↓NK_ptr]
  rw [VK_eq_of (v := .int .u8 (findP ds other.data.toList).kind) (fldK_run _)]
  try simp only [↓VG_u, ↓UG_u, ↓MG_u, ↓NG_u, ↓PG_u, ↓BG_u, ↓CG_u, ↓IG_u, ↓VGtt, ↓VGtf, ↓VGft, ↓VGff, ↓UGtt, ↓UGtf, ↓UGft, ↓UGff, ↓MGtt, ↓MGtf, ↓MGft, ↓MGff, ↓NGtt, ↓NGtf, ↓NGft, ↓NGff, ↓PGtt, ↓PGtf, ↓PGft, ↓PGff, ↓BGtt, ↓BGtf, ↓BGft, ↓BGff, ↓CGtt, ↓CGtf, ↓CGft, ↓CGff, ↓IGtt, ↓IGtf, ↓IGft, ↓IGff, ↓PKt, ↓PKf, ↓CDt, ↓CDf, ↓NOTt, ↓NOTf, ↓NK_ptr]
  rw [BK_neq]
  try simp only [↓VG_u, ↓UG_u, ↓MG_u, ↓NG_u, ↓PG_u, ↓BG_u, ↓CG_u, ↓IG_u, ↓VGtt, ↓VGtf, ↓VGft, ↓VGff, ↓UGtt, ↓UGtf, ↓UGft, ↓UGff, ↓MGtt, ↓MGtf, ↓MGft, ↓MGff, ↓NGtt, ↓NGtf, ↓NGft, ↓NGff, ↓PGtt, ↓PGtf, ↓PGft, ↓PGff, ↓BGtt, ↓BGtf, ↓BGft, ↓BGff, ↓CGtt, ↓CGtf, ↓CGft, ↓CGff, ↓IGtt, ↓IGtf, ↓IGft, ↓IGff, ↓PKt, ↓PKf, ↓CDt, ↓CDf, ↓NOTt, ↓NOTf, ↓NK_ptr]
  rw [BK_eqlB Tryd.underlying4, hth]
  try simp only [↓VG_u, ↓UG_u, ↓MG_u, ↓NG_u, ↓PG_u, ↓BG_u, ↓CG_u, ↓IG_u, ↓VGtt, ↓VGtf, ↓VGft, ↓VGff, ↓UGtt, ↓UGtf, ↓UGft, ↓UGff, ↓MGtt, ↓MGtf, ↓MGft, ↓MGff, ↓NGtt, ↓NGtf, ↓NGft, ↓NGff, ↓PGtt, ↓PGtf, ↓PGft, ↓PGff, ↓BGtt, ↓BGtf, ↓BGft, ↓BGff, ↓CGtt, ↓CGtf, ↓CGft, ↓CGff, ↓IGtt, ↓IGtf, ↓IGft, ↓IGff, ↓PKt, ↓PKf, ↓CDt, ↓CDf, ↓NOTt, ↓NOTf, ↓NK_ptr]
  refine ⟨?_, (hm.trans hm1).trans hm6⟩
  show Value.bool _ = _
  congr 1
  cases q : (findP ds other.data.toList).kind == 0 <;> simp [bne, q]
end Go.Proofs.YtbnbcimjapiicaaDoor.Tr
set_option linter.unusedVariables false
set_option linter.unusedSimpArgs false
set_option maxRecDepth 4000
namespace Go.Proofs.YtbnbcimjapiicaaDoor.Tr
open Go Go.X Go.RowKit Go.Proofs.YtbnbcimjapiicaaDoor.XL Go.Proofs.YtbnbcimjapiicaaDoor.XK
theorem inc_k {w : World} {base n m : Nat} {v : Value} {ox oy : Operand} {K : Value → Value → Value → Value → World → Prop} (ho : w.ownsRow base tI 1 v n ((onesL n m).map (.int .i64))) (hm : m < n) (hn : n ≤ 1000000)
    (hk : ∀ x1 x2 x3 x4 w', w'.ownsRow base tI 1 v n ((onesL n (m + 1)).map (.int .i64)) → Mod (fun b => some b = v.ownBlock) w w' → K x1 x2 x3 x4 w') :
    VK Tryd.prog (Instr.indexAt 50 v (.int .i64 (m : Nat))) w fun x1 w => VK Tryd.prog (Instr.loadAt tI x1) w fun x2 w => BK Tryd.prog .add tI ox oy x2 (.int .i64 1) w fun x3 w => VK Tryd.prog (Instr.indexAt 50 v (.int .i64 (m : Nat))) w fun x4 w => UK Tryd.prog (Instr.storeAt tI x4 x3) w fun _ w => K x1 x2 x3 x4 w := by
  have hx : ((onesL n m).map (Value.int .i64))[((m : Nat) : Int).toNat]? = some (.int .i64 0) := by rw [Int.toNat_natCast, List.getElem?_map, onesL_at hm, if_neg (by omega)]; rfl
  refine ixld uIs (by kernel_rfl) uI rfl (reads_of_owns ho) (by omega) hx fun x1 => ?_
  refine BKadd (a := 0) (b := 1) rfl rfl (by omega) (by omega) ?_
  refine put_row uIs (by kernel_rfl) rfl ho hm fun x4 w' ho' hm' => hk _ _ _ _ w' ?_ hm'
  have : ((onesL n m).map (Value.int .i64)).set m (.int .i64 (0 + 1)) = (onesL n (m + 1)).map (Value.int .i64) := by
    rw [← onesL_set hm, List.map_set]; rfl
  rwa [this] at ho'
/-- A row that is made. -/
theorem made_k {w : World} {base n : Nat} (hn : n ≤ 100000) (hb : base ≤ w.heap.size) {K : Value → World → Prop} (hk : ∀ v w', w'.ownsRow base tI 1 v n ((onesL n 0).map (.int .i64)) → v.ownBlock = some w.heap.size → Mod none_ w w' → K v w') :
    VK Tryd.prog (Instr.makeSlice 50 (.int .i64 (n : Nat)) (.int .i64 (n : Nat))) w K := by
  obtain ⟨i, hi⟩ : ∃ i, Tryd.prog.info? tI = some i := Option.isSome_iff_exists.1 (by kernel_rfl)
  have hz0 : (Tryd.prog.info? tI).bind (·.zero) = some (.int .i64 0) := by kernel_rfl
  have hs0 : (Tryd.prog.info? tI).map (·.size) = some 1 := by kernel_rfl
  have hb0 : (Tryd.prog.info? tI).map (·.bytes) = some 8 := by kernel_rfl
  rw [hi] at hz0 hs0 hb0
  have hz : i.zero = some (.int .i64 0) := hz0
  have hs : i.size = 1 := by simpa using hs0
  have hby : i.bytes = 8 := by simpa using hb0
  obtain ⟨w', hrun, ho, hgr⟩ := run_make_full (P := Tryd.prog) (w := w) base 50 tI i (.int .i64 0) 1 uIs hi hz hs .i64 .i64 n (by rw [hby]; omega) (by unfold maxLen; omega) hb
  refine VK_of hrun (hk _ _ ?_ rfl ((Mod.ofGrown hgr).mono fun k _ q => by cases q))
  have : (madeCells (Value.int .i64 0).cells (n * 1)).toList = (onesL n 0).map (Value.int .i64) := by
    rw [onesL_zero, Nat.mul_one]
    unfold madeCells
    rw [Array.toList_map, Array.toList_range]
    apply List.ext_getElem?
    intro j
    rw [List.getElem?_map, List.getElem?_map, List.getElem?_replicate]
    by_cases h : j < n
    · rw [List.getElem?_range h, if_pos h]
      simp [Value.cells, Nat.mod_one]
    · rw [List.getElem?_eq_none (by simp; omega), if_neg h]; rfl
  rwa [this] at ho
end Go.Proofs.YtbnbcimjapiicaaDoor.Tr
set_option linter.unusedVariables false
set_option linter.unusedSimpArgs false
set_option maxRecDepth 4000
namespace Go.Proofs.YtbnbcimjapiicaaDoor.Tr
open Go Go.X Go.RowKit Go.Proofs.YtbnbcimjapiicaaDoor.XL Go.Proofs.YtbnbcimjapiicaaDoor.XK
theorem beq_no {i k : Nat} (h : i ≠ k) : Nat.beq i k = false := by
  cases q : Nat.beq i k with
  | false => rfl
  | true => exact absurd (Nat.eq_of_beq_eq_true q) h
theorem en_fo {w : World} {b : Nat} {e : En} {ty : TypeId} {fr : Nat × Nat} (hb : w.heap[b]? = some (.cells e.cells.toArray ty fr)) : FO Tryd.prog w 37 0 0 ⟨b, 0, none⟩ 5 (.int .u8 e.kind) ∧ FO Tryd.prog w 37 1 1 ⟨b, 0, none⟩ 3 (.int .i64 e.slot) ∧ FO Tryd.prog w 37 2 2 ⟨b, 0, none⟩ 3 (.int .i64 e.base) ∧ FO Tryd.prog w 37 3 3 ⟨b, 0, none⟩ 3 (.int .i64 e.places) :=
  ⟨FO.blk hb (by kernel_rfl) uU8 rfl rfl, FO.blk hb (by kernel_rfl) uI rfl rfl, FO.blk hb (by kernel_rfl) uI rfl rfl, FO.blk hb (by kernel_rfl) uI rfl rfl⟩
section
variable {w : World} {b14 base : Nat} {v7 v8 v9 : Value}
/-- A variable's slot. -/
theorem apart10 {m : Nat} (he : w.heap[b14]? = some (.cells (En.mk 1 m 0 0).cells.toArray 37 (0, 0))) (h7 : w.ownsRow base tI 1 v7 64 ((onesL 64 m).map (.int .i64))) (hm : m < 64) {K : Exit → Sl → World → Prop} {ρ : Sl} (r14 : ρ 14 = pq b14) (r7 : ρ 7 = v7)
    (hk : ∀ ρ' w', w'.ownsRow base tI 1 v7 64 ((onesL 64 (m + 1)).map (.int .i64)) → Mod (fun b => some b = v7.ownBlock) w w' → (∀ i, i < 70 → ρ' i = ρ i) → K (.exit 1) ρ' w') : sx fn_ Tryd.prog 207 XA.dispatcherlaw04_ScopeApart_R10 K ρ w := by
  obtain ⟨e0, e1, e2, e3⟩ := en_fo he
  rw [XA.dispatcherlaw04_ScopeApart_R10_eq]
  unfold XA.dispatcherlaw04_ScopeApart_R10_F
  rw [r14, r7]
  simp only [↓e1.e]
  refine inc_k h7 hm (by omega) fun x1 x2 x3 x4 w' ho' hm' => hk _ w' ho' hm' fun i hi => ?_
  simp only [Go.X.up]
  repeat rw [beq_no (by omega), cond_false]
/-- An array's number, its places. -/
theorem apart14 {a b p : Nat} (he : w.heap[b14]? = some (.cells (En.mk 2 a b p).cells.toArray 37 (0, 0))) (h8 : w.ownsRow base tI 1 v8 200 ((onesL 200 a).map (.int .i64))) (h9 : w.ownsRow base tI 1 v9 1000 ((onesL 1000 b).map (.int .i64))) (ha : a < 200) (hb : b + p ≤ 1000) (h89 : ∀ k, v9.ownBlock = some k → ¬ some k = v8.ownBlock) {K : Exit → Sl → World → Prop} {ρ : Sl} (r14 : ρ 14 = pq b14) (r8 : ρ 8 = v8) (r9 : ρ 9 = v9)
    (hk : ∀ ρ' w', w'.ownsRow base tI 1 v8 200 ((onesL 200 (a + 1)).map (.int .i64)) → w'.ownsRow base tI 1 v9 1000 ((onesL 1000 (b + p)).map (.int .i64)) → Mod (fun b => some b = v8.ownBlock ∨ some b = v9.ownBlock) w w' → (∀ i, i < 15 → ρ' i = ρ i) → K .normal ρ' w') : sx fn_ Tryd.prog 207 XA.dispatcherlaw04_ScopeApart_R14 K ρ w := by
  obtain ⟨e0, e1, e2, e3⟩ := en_fo he
  rw [XA.dispatcherlaw04_ScopeApart_R14_eq]
  unfold XA.dispatcherlaw04_ScopeApart_R14_F
  rw [r14, r8]
  simp only [↓e1.e]
  have hn8 : ¬ some b14 = v8.ownBlock := fun z => owns_ne_blk h8 he (by decide) z.symm
  have hn9 : ¬ some b14 = v9.ownBlock := fun z => owns_ne_blk h9 he (by decide) z.symm
  refine inc_k h8 ha (by omega) fun x1 x2 x3 x4 w1 ho1 hm1 => ?_
  have h91 := owns_mod h9 hm1 h89
  refine W_loopG XA.dispatcherlaw04_ScopeApart_L15_ok (fun m ρ' w' => ∃ i, i + m = p ∧ ρ' 15 = .int .i64 (i : Nat) ∧ (∀ j, j < 15 → ρ' j = ρ j) ∧ w'.ownsRow base tI 1 v9 1000 ((onesL 1000 (b + i)).map (.int .i64)) ∧ Mod (fun b => some b = v9.ownBlock) w1 w') p
    ⟨0, by omega, rfl, fun j hj => ?_, h91, Mod.refl _ _⟩ ?_
  · simp only [Go.X.up]
    repeat rw [beq_no (by omega), cond_false]
  rintro m ρ' w2 ⟨i, hi, q15, qs, ho2, hm2⟩
  have he2 := hm2.blk (hm1.blk he hn8) hn9
  obtain ⟨e0, e1, e2, e3⟩ := en_fo he2
  rw [XA.dispatcherlaw04_ScopeApart_L15_eq]
  unfold XA.dispatcherlaw04_ScopeApart_L15_F
  rw [qs 14 (by omega), qs 9 (by omega), r14, r9, q15]
  simp only [↓e3.e]
  by_cases hlt : i < p
  · simp only [↓VG_u, ↓UG_u, ↓MG_u, ↓NG_u, ↓PG_u, ↓BG_u, ↓CG_u, ↓IG_u, ↓VGtt, ↓VGtf, ↓VGft, ↓VGff, ↓UGtt, ↓UGtf, ↓UGft, ↓UGff, ↓MGtt, ↓MGtf, ↓MGft, ↓MGff, ↓NGtt, ↓NGtf, ↓NGft, ↓NGff, ↓PGtt, ↓PGtf, ↓PGft, ↓PGff, ↓BGtt, ↓BGtf, ↓BGft, ↓BGff, ↓CGtt, ↓CGtf, ↓CGft, ↓CGff, ↓IGtt, ↓IGtf, ↓IGft, ↓IGff, ↓PKt, ↓PKf, ↓CDt, ↓CDf, ↓NOTt, ↓NOTf, ↓NK_ptr, ↓LTt (show (i : Int) < (p : Int) by omega), ↓e2.e]
    refine BKadd (a := b) (b := i) rfl rfl (by omega) (by omega) ?_
    rw [show (b : Int) + (i : Int) = ((b + i : Nat) : Int) by omega]
    refine inc_k ho2 (by omega) (by omega) fun x1 x2 x3 x4 w3 ho3 hm3 => ?_
    refine BKadd (a := i) (b := 1) rfl rfl (by omega) (by omega) ⟨m - 1, by omega, i + 1, by omega, rfl, fun j hj => ?_, ho3, hm2.trans hm3⟩
    refine Eq.trans ?_ (qs j hj)
    simp only [Go.X.up]
    repeat rw [beq_no (by omega), cond_false]
  · simp only [↓VG_u, ↓UG_u, ↓MG_u, ↓NG_u, ↓PG_u, ↓BG_u, ↓CG_u, ↓IG_u, ↓VGtt, ↓VGtf, ↓VGft, ↓VGff, ↓UGtt, ↓UGtf, ↓UGft, ↓UGff, ↓MGtt, ↓MGtf, ↓MGft, ↓MGff, ↓NGtt, ↓NGtf, ↓NGft, ↓NGff, ↓PGtt, ↓PGtf, ↓PGft, ↓PGff, ↓BGtt, ↓BGtf, ↓BGft, ↓BGff, ↓CGtt, ↓CGtf, ↓CGft, ↓CGff, ↓IGtt, ↓IGtf, ↓IGft, ↓IGff, ↓PKt, ↓PKf, ↓CDt, ↓CDf, ↓NOTt, ↓NOTf, ↓NK_ptr, ↓LTf (show (p : Int) ≤ (i : Int) by omega)]
    rw [sq_x, bk_x]
    obtain rfl : i = p := by omega
    refine hk _ w2 (owns_mod ho1 hm2 fun k hk z => h89 k z.symm hk.symm) ho2 ((hm1.mono fun _ _ z => .inl z).trans (hm2.mono fun _ _ z => .inr z)) fun j hj => ?_
    refine Eq.trans ?_ (qs j hj)
    simp only [Go.X.up]
    repeat rw [beq_no (by omega), cond_false]
end
end Go.Proofs.YtbnbcimjapiicaaDoor.Tr
set_option linter.unusedVariables false
set_option linter.unusedSimpArgs false
set_option maxRecDepth 4000
namespace Go.Proofs.YtbnbcimjapiicaaDoor.Tr
open Go Go.X Go.RowKit Go.Proofs.YtbnbcimjapiicaaDoor.XL Go.Proofs.YtbnbcimjapiicaaDoor.XK
theorem QPf {C : World → Prop} {a b : Value} {K : Value → Prop} (hk : K b) : QK Tryd.prog C (do pure (Next.value (if ← asBool (.bool false) then a else b))) K := QP_of (t := false) (by simpa using hk)
theorem QneqF {C : World → Prop} {t : TypeId} {x y : Operand} {k : IntKind} {a b : Int} (h : a = b) {K : Value → Prop} (hk : K (.bool false)) : QK Tryd.prog C (do pure (Next.value (← (do eqGuard .neq t x y (.int k a) (.int k b); binOp .neq t (.int k a) (.int k b))))) K := Qneq (by rw [h, bne_self_eq_false]; exact hk)
theorem QlssF {C : World → Prop} {t : TypeId} {x y : Operand} {k : IntKind} {a b : Int} (h : b ≤ a) {K : Value → Prop} (hk : K (.bool false)) : QK Tryd.prog C (do pure (Next.value (← (do eqGuard .lss t x y (.int k a) (.int k b); binOp .lss t (.int k a) (.int k b))))) K := Qlss (by rw [decide_eq_false (by omega)]; exact hk)
theorem QgeqF {C : World → Prop} {t : TypeId} {x y : Operand} {k : IntKind} {a b : Int} (h : a < b) {K : Value → Prop} (hk : K (.bool false)) : QK Tryd.prog C (do pure (Next.value (← (do eqGuard .geq t x y (.int k a) (.int k b); binOp .geq t (.int k a) (.int k b))))) K := QB_of (v := .bool false) (fun _ => rfl) (fun w => by simp [go_sem]; omega) hk
theorem QgtrF {C : World → Prop} {t : TypeId} {x y : Operand} {k : IntKind} {a b : Int} (h : a ≤ b) {K : Value → Prop} (hk : K (.bool false)) : QK Tryd.prog C (do pure (Next.value (← (do eqGuard .gtr t x y (.int k a) (.int k b); binOp .gtr t (.int k a) (.int k b))))) K := QB_of (v := .bool false) (fun _ => rfl) (fun w => by simp [go_sem]; omega) hk
section
variable {w : World} {b14 : Nat} {e : En} (he : w.heap[b14]? = some (.cells e.cells.toArray 37 (0, 0)))
include he
theorem qe0 {K : Value → Value → Prop} (hk : ∀ x, K x (.int .u8 e.kind)) : QK Tryd.prog (fun w' => Mod none_ w w') (do pure (Next.value (← Instr.fieldAt 37 (pq b14) 0))) fun x => QK Tryd.prog (fun w' => Mod none_ w w') (do pure (Next.value (← Instr.loadAt 5 x))) (K x) :=
  Qfo (off := 0) (by kernel_rfl) (Qld uU8 rfl (v := .int .u8 e.kind) (fun w' hw => by rw [add_pl, cell_blk (hw.blk he id)]; rfl) (hk _))
theorem qe1 {K : Value → Value → Prop} (hk : ∀ x, K x (.int .i64 e.slot)) : QK Tryd.prog (fun w' => Mod none_ w w') (do pure (Next.value (← Instr.fieldAt 37 (pq b14) 1))) fun x => QK Tryd.prog (fun w' => Mod none_ w w') (do pure (Next.value (← Instr.loadAt 3 x))) (K x) :=
  Qfo (off := 1) (by kernel_rfl) (Qld uI rfl (v := .int .i64 e.slot) (fun w' hw => by rw [add_pl, cell_blk (hw.blk he id)]; rfl) (hk _))
theorem qe2 {K : Value → Value → Prop} (hk : ∀ x, K x (.int .i64 e.base)) : QK Tryd.prog (fun w' => Mod none_ w w') (do pure (Next.value (← Instr.fieldAt 37 (pq b14) 2))) fun x => QK Tryd.prog (fun w' => Mod none_ w w') (do pure (Next.value (← Instr.loadAt 3 x))) (K x) :=
  Qfo (off := 2) (by kernel_rfl) (Qld uI rfl (v := .int .i64 e.base) (fun w' hw => by rw [add_pl, cell_blk (hw.blk he id)]; rfl) (hk _))
theorem qe3 {K : Value → Value → Prop} (hk : ∀ x, K x (.int .i64 e.places)) : QK Tryd.prog (fun w' => Mod none_ w w') (do pure (Next.value (← Instr.fieldAt 37 (pq b14) 3))) fun x => QK Tryd.prog (fun w' => Mod none_ w w') (do pure (Next.value (← Instr.loadAt 3 x))) (K x) :=
  Qfo (off := 3) (by kernel_rfl) (Qld uI rfl (v := .int .i64 e.places) (fun w' hw => by rw [add_pl, cell_blk (hw.blk he id)]; rfl) (hk _))
end
theorem apart8 {w : World} {b14 : Nat} {m base t : Nat} {ds : List De} (he : w.heap[b14]? = some (.cells (En.mk 1 m 0 0).cells.toArray 37 (0, 0))) (hT : TbAt w base t ds) (hm : m < vars ds) {K : Exit → Sl → World → Prop} {ρ : Sl} (r14 : ρ 14 = pq b14) (r5 : ρ 5 = pt t)
    (hk : ∀ ρ' w', Mod none_ w w' → ρ' 102 = .bool false → (∀ i, i < 70 → ρ' i = ρ i) → K .normal ρ' w') : W fn_ Tryd.prog 207 XA.dispatcherlaw04_ScopeApart_R8 K ρ w := by
  refine XA.dispatcherlaw04_ScopeApart_R8_quiet (D := []) (fun w' => Mod none_ w w') ((Mod.refl _ w).drawn _) ?_
  unfold XA.dispatcherlaw04_ScopeApart_R8_Q
  rw [r14, r5]
  refine qe0 he fun _ => QneqF rfl ?_
  simp only [QGf]
  refine qe1 he fun _ => QlssF (show (0 : Int) ≤ ((m : Nat) : Int) by omega) (QPf ?_)
  simp only [QGf]
  refine qe1 he fun _ => QM ?_
  refine QC_rt (R := fun w' v w'' => v = .int .i64 (vars ds) ∧ Mod none_ w' w'') Tryd.func22 rfl rfl (v := .int .i64 (vars ds)) (fun w' hw => VarsT_ok (hT.mod hw)) (fun w' u w'' hw hu => ⟨hu.1, hw.trans hu.2⟩) ?_
  refine QgeqF (show ((m : Nat) : Int) < ((vars ds : Nat) : Int) by omega) (QPf ?_)
  simp only [QGf]
  refine qe2 he fun _ => QneqF rfl (QPf ?_)
  simp only [QGf]
  refine qe3 he fun _ => QneqF rfl (QPf ?_)
  intro w' hw
  refine hk _ w' hw rfl fun i hi => ?_
  simp only [Go.X.up]
  repeat rw [beq_no (by omega), cond_false]
theorem apart12 {w : World} {b13 b14 : Nat} {a b p n : Nat} {d : De} {xs : List Int} {A : Option Addr} {c : Nat} (he : w.heap[b14]? = some (.cells (En.mk 2 a b p).cells.toArray 37 (0, 0))) (hd : w.heap[b13]? = some (.cells d.cells.toArray 40 (0, 0))) (hdp : d.places = p)
    (h10 : reads w 1 (.slice A n c) n (xs.map (.int .i64))) (ha : a < n) (ha2 : a < 200) (hx : xs[a]? = some (p : Int)) (hb : b + p ≤ 1000) {K : Exit → Sl → World → Prop} {ρ : Sl} (r14 : ρ 14 = pq b14) (r13 : ρ 13 = pq b13) (r10 : ρ 10 = .slice A n c)
    (hk : ∀ ρ' w', Mod none_ w w' → ρ' 159 = .bool false → (∀ i, i < 78 → ρ' i = ρ i) → K .normal ρ' w') : W fn_ Tryd.prog 207 XA.dispatcherlaw04_ScopeApart_R12 K ρ w := by
  refine XA.dispatcherlaw04_ScopeApart_R12_quiet (D := []) (fun w' => Mod none_ w w') ((Mod.refl _ w).drawn _) ?_
  unfold XA.dispatcherlaw04_ScopeApart_R12_Q
  rw [r14, r13, r10]
  have qd : ∀ {K : Value → Value → Prop}, (∀ x, K x (.int .i64 p)) → QK Tryd.prog (fun w' => Mod none_ w w') (do pure (Next.value (← Instr.fieldAt 40 (pq b13) 1))) fun x => QK Tryd.prog (fun w' => Mod none_ w w') (do pure (Next.value (← Instr.loadAt 3 x))) (K x) := fun hk =>
    Qfo (off := 1) (by kernel_rfl) (Qld uI rfl (v := .int .i64 p) (fun w' hw => by rw [add_pl, cell_blk (hw.blk hd id), ← hdp]; rfl) (hk _))
  refine qe0 he fun _ => QneqF rfl ?_
  simp only [QGf]
  refine qe1 he fun _ => QlssF (show (0 : Int) ≤ ((a : Nat) : Int) by omega) (QPf ?_)
  simp only [QGf]
  refine qe1 he fun _ => QM (QI_len uIs _ _ _ _ (QgeqF (show ((a : Nat) : Int) < ((n : Nat) : Int) by omega) (QPf ?_)))
  simp only [QGf]
  refine qe1 he fun _ => QgeqF (show ((a : Nat) : Int) < 200 by omega) (QPf ?_)
  simp only [QGf]
  refine qe3 he fun _ => qd fun _ => QneqF rfl (QPf ?_)
  simp only [QGf]
  refine QM (qe1 he fun _ => q_ixld uIs (by kernel_rfl) uI rfl (w := w) (Mod.refl _ _) (n := n) (xs := xs.map (.int .i64)) (fun w' hw => reads_mod h10 hw fun _ _ _ => id) (by show (0 : Int) ≤ ((a : Nat) : Int); omega) (u := .int .i64 p) (by show (xs.map (Value.int .i64))[((a : Nat) : Int).toNat]? = _; rw [Int.toNat_natCast, List.getElem?_map, hx]; rfl) fun _ => ?_)
  refine qd fun _ => QneqF rfl (QPf ?_)
  simp only [QGf]
  refine qe2 he fun _ => QlssF (show (0 : Int) ≤ ((b : Nat) : Int) by omega) (QPf ?_)
  simp only [QGf]
  refine qe2 he fun _ => qe3 he fun _ => ?_
  refine QB_of (v := .int .i64 (1000 - (p : Int))) (fun _ => rfl) (fun w => by simp [go_sem]; exact wrap_i (by omega) (by omega)) ?_
  refine QgtrF (show ((b : Nat) : Int) ≤ 1000 - (p : Int) by omega) (QPf ?_)
  intro w' hw
  refine hk _ w' hw rfl fun i hi => ?_
  simp only [Go.X.up]
  repeat rw [beq_no (by omega), cond_false]
end Go.Proofs.YtbnbcimjapiicaaDoor.Tr
set_option linter.unusedVariables false
set_option linter.unusedSimpArgs false
set_option maxRecDepth 4000
namespace Go.Proofs.YtbnbcimjapiicaaDoor.Tr
open Go Go.X Go.RowKit Go.Proofs.YtbnbcimjapiicaaDoor.XL Go.Proofs.YtbnbcimjapiicaaDoor.XK
/-- What is counted after some declarations. -/
structure Cnt (w : World) (base : Nat) (v7 v8 v9 : Value) (l : List De) : Prop where
  r7 : w.ownsRow base tI 1 v7 64 ((onesL 64 (vars l)).map (.int .i64))
  r8 : w.ownsRow base tI 1 v8 200 ((onesL 200 (arrs l).length).map (.int .i64))
  r9 : w.ownsRow base tI 1 v9 1000 ((onesL 1000 (cellsP l).toNat).map (.int .i64))
/-- Rows that are none of each other. -/
structure Sep (v7 v8 v9 : Value) : Prop where
  a : ∀ k, v7.ownBlock = some k → ¬ some k = v8.ownBlock
  b : ∀ k, v7.ownBlock = some k → ¬ some k = v9.ownBlock
  c : ∀ k, v8.ownBlock = some k → ¬ some k = v9.ownBlock
theorem Cnt.mod0 {w w' : World} {base : Nat} {v7 v8 v9 : Value} {l : List De} (h : Cnt w base v7 v8 v9 l) (hm : Mod none_ w w') : Cnt w' base v7 v8 v9 l := ⟨owns_mod h.r7 hm fun _ _ => id, owns_mod h.r8 hm fun _ _ => id, owns_mod h.r9 hm fun _ _ => id⟩
/-- Of declarations that are well: the limits. -/
theorem declsW_lim : ∀ {l pre : List De}, (declsW pre l).err = 0 → (∀ d ∈ l, d.may = true) → vars pre ≤ 64 → cellsP pre ≤ 1000 → ∀ i, vars (pre ++ l.take i) ≤ 64 ∧ cellsP (pre ++ l.take i) ≤ 1000
  | [], pre, _, _, hv, hc, i => by simp [hv, hc]
  | d :: r, pre, h, hm, hv, hc, i => by
    cases i with
    | zero => simp [hv, hc]
    | succ i =>
      rw [declsW] at h
      split at h
      · rename_i hs
        obtain ⟨_, hf⟩ := dstep_zero hs
        have hp := may_places (hm d (List.mem_cons_self ..))
        obtain ⟨hv', hc'⟩ := lim_snoc hf hp.1 hv hc
        have := declsW_lim h (fun a ha => hm a (List.mem_cons_of_mem _ ha)) hv' hc' i
        rwa [List.append_assoc, List.singleton_append] at this
      · rename_i hs; exact absurd h hs
end Go.Proofs.YtbnbcimjapiicaaDoor.Tr
set_option linter.unusedVariables false
set_option linter.unusedSimpArgs false
set_option maxRecDepth 4000
namespace Go.Proofs.YtbnbcimjapiicaaDoor.Tr
open Go Go.X Go.RowKit Go.Proofs.YtbnbcimjapiicaaDoor.XL Go.Proofs.YtbnbcimjapiicaaDoor.XK
theorem apart7 {w : World} {base b13 b14 t tb n : Nat} {pre ds : List De} {d : De} {v7 v8 v9 : Value} {A : Option Addr} {c : Nat} (hs : Sep v7 v8 v9) (hC : Cnt w base v7 v8 v9 pre) (hT : TbAt w tb t ds) (hd : w.heap[b13]? = some (.cells d.cells.toArray 40 (0, 0))) (he : w.heap[b14]? = some (.cells (nu pre d).cells.toArray 37 (0, 0)))
    (hmay : d.may = true) (hpre : 0 ≤ cellsP pre) (hv : vars (pre ++ [d]) ≤ 64) (hc : cellsP (pre ++ [d]) ≤ 1000) (hvd : vars (pre ++ [d]) ≤ vars ds) (ha : (arrs pre).length < 200) (h10 : reads w 1 (.slice A n c) n ((arrs ds).map (.int .i64))) (han : d.places ≠ 0 → (arrs pre).length < n ∧ (arrs ds)[(arrs pre).length]? = some d.places) {K : Exit → Sl → World → Prop} {ρ : Sl} (r5 : ρ 5 = pt t) (r7 : ρ 7 = v7) (r8 : ρ 8 = v8) (r9 : ρ 9 = v9) (r10 : ρ 10 = .slice A n c) (r13 : ρ 13 = pq b13) (r14 : ρ 14 = pq b14)
    (hk : ∀ ρ' w', Cnt w' base v7 v8 v9 (pre ++ [d]) → Mod (fun b => some b = v7.ownBlock ∨ some b = v8.ownBlock ∨ some b = v9.ownBlock) w w' → (∀ i, i < 15 → ρ' i = ρ i) → K .normal ρ' w') :
    sx fn_ Tryd.prog 207 XA.dispatcherlaw04_ScopeApart_R7 (blkK 1 K) ρ w := by
  have hp := may_places hmay
  rw [XA.dispatcherlaw04_ScopeApart_R7_eq]
  unfold XA.dispatcherlaw04_ScopeApart_R7_F
  rw [r13]
  have d1 : FO Tryd.prog w 40 1 1 ⟨b13, 0, none⟩ 3 (.int .i64 d.places) := FO.blk hd (by kernel_rfl) uI rfl rfl
  simp only [↓d1.e]
  rw [vars_snoc] at hv hvd
  rw [cellsP_snoc] at hc
  have up3 : ∀ (x y z : Value) i, i < 75 → (Go.X.up (Go.X.up (Go.X.up ρ 75 x) 76 y) 77 z) i = ρ i := fun x y z i hi => by
    simp only [Go.X.up]
    repeat rw [beq_no (by omega), cond_false]
  by_cases h0 : d.places = 0
  · have hiv : isV d = true := decide_eq_true h0
    rw [hiv, if_pos rfl] at hv hvd
    have hnu : nu pre d = ⟨1, vars pre, 0, 0⟩ := by unfold nu; rw [if_pos h0]
    rw [hnu] at he
    simp only [↓VG_u, ↓UG_u, ↓MG_u, ↓NG_u, ↓PG_u, ↓BG_u, ↓CG_u, ↓IG_u, ↓VGtt, ↓VGtf, ↓VGft, ↓VGff, ↓UGtt, ↓UGtf, ↓UGft, ↓UGff, ↓MGtt, ↓MGtf, ↓MGft, ↓MGff, ↓NGtt, ↓NGtf, ↓NGft, ↓NGff, ↓PGtt, ↓PGtf, ↓PGft, ↓PGff, ↓BGtt, ↓BGtf, ↓BGft, ↓BGff, ↓CGtt, ↓CGtf, ↓CGft, ↓CGff, ↓IGtt, ↓IGtf, ↓IGft, ↓IGff, ↓PKt, ↓PKf, ↓CDt, ↓CDf, ↓NOTt, ↓NOTf, ↓NK_ptr, ↓EQt h0]
    refine apart8 he hT (by omega) (by rw [up3 _ _ _ _ (by omega)]; exact r14) (by rw [up3 _ _ _ _ (by omega)]; exact r5) fun ρ1 w1 hm1 q102 qs1 => ?_
    rw [sq_n, XA.dispatcherlaw04_ScopeApart_R9_eq]
    unfold XA.dispatcherlaw04_ScopeApart_R9_F
    rw [q102]
    refine condF ?_
    rw [sq_n]
    have hC1 := hC.mod0 hm1
    refine apart10 (hm1.blk he id) hC1.r7 (by omega) (by rw [qs1 _ (by omega), up3 _ _ _ _ (by omega)]; exact r14) (by rw [qs1 _ (by omega), up3 _ _ _ _ (by omega)]; exact r7) fun ρ2 w2 ho2 hm2 qs2 => ?_
    rw [sq_x, bk_x]
    refine hk _ w2 ⟨?_, ?_, ?_⟩ ((hm1.mono fun _ _ z => z.elim).trans (hm2.mono fun _ _ z => .inl z)) fun i hi => by rw [qs2 _ (by omega), qs1 _ (by omega), up3 _ _ _ _ (by omega)]
    · rw [vars_snoc, hiv, if_pos rfl]; exact ho2
    · rw [arrs_snoc, hiv, if_pos rfl, List.append_nil]; exact owns_mod hC1.r8 hm2 fun k hk z => hs.a k z.symm hk.symm
    · rw [cellsP_snoc, h0, Int.add_zero]; exact owns_mod hC1.r9 hm2 fun k hk z => hs.b k z.symm hk.symm
  · have hiv : isV d = false := decide_eq_false h0
    have hnu : nu pre d = ⟨2, (arrs pre).length, ((cellsP pre).toNat : Nat), (d.places.toNat : Nat)⟩ := by
      unfold nu
      rw [if_neg h0]
      congr 1 <;> omega
    rw [hnu] at he
    obtain ⟨a1, a2⟩ := han h0
    have hdp : d.places = ((d.places.toNat : Nat) : Int) := by omega
    simp only [↓VG_u, ↓UG_u, ↓MG_u, ↓NG_u, ↓PG_u, ↓BG_u, ↓CG_u, ↓IG_u, ↓VGtt, ↓VGtf, ↓VGft, ↓VGff, ↓UGtt, ↓UGtf, ↓UGft, ↓UGff, ↓MGtt, ↓MGtf, ↓MGft, ↓MGff, ↓NGtt, ↓NGtf, ↓NGft, ↓NGff, ↓PGtt, ↓PGtf, ↓PGft, ↓PGff, ↓BGtt, ↓BGtf, ↓BGft, ↓BGff, ↓CGtt, ↓CGtf, ↓CGft, ↓CGff, ↓IGtt, ↓IGtf, ↓IGft, ↓IGff, ↓PKt, ↓PKf, ↓CDt, ↓CDf, ↓NOTt, ↓NOTf, ↓NK_ptr, ↓EQf h0]
    refine apart12 (xs := arrs ds) he hd hdp h10 a1 ha (by rw [a2, ← hdp]) (by omega) (by rw [up3 _ _ _ _ (by omega)]; exact r14) (by rw [up3 _ _ _ _ (by omega)]; exact r13) (by rw [up3 _ _ _ _ (by omega)]; exact r10) fun ρ1 w1 hm1 q159 qs1 => ?_
    rw [sq_n, XA.dispatcherlaw04_ScopeApart_R13_eq]
    unfold XA.dispatcherlaw04_ScopeApart_R13_F
    rw [q159]
    refine condF ?_
    rw [sq_n]
    have hC1 := hC.mod0 hm1
    refine apart14 (hm1.blk he id) hC1.r8 hC1.r9 ha (by omega) (fun k hk z => hs.c k z.symm hk.symm) (by rw [qs1 _ (by omega), up3 _ _ _ _ (by omega)]; exact r14) (by rw [qs1 _ (by omega), up3 _ _ _ _ (by omega)]; exact r8) (by rw [qs1 _ (by omega), up3 _ _ _ _ (by omega)]; exact r9) fun ρ2 w2 ho8 ho9 hm2 qs2 => ?_
    rw [bk_n]
    refine hk _ w2 ⟨?_, ?_, ?_⟩ ((hm1.mono fun _ _ z => z.elim).trans (hm2.mono fun _ _ z => .inr z)) fun i hi => by rw [qs2 _ (by omega), qs1 _ (by omega), up3 _ _ _ _ (by omega)]
    · rw [vars_snoc, hiv]; exact owns_mod hC1.r7 hm2 fun k hk z => z.elim (fun z => hs.a k hk z) (fun z => hs.b k hk z)
    · rw [arrs_snoc, hiv]; rw [List.length_append]; exact ho8
    · rw [cellsP_snoc, show (cellsP pre + d.places).toNat = (cellsP pre).toNat + d.places.toNat by omega]; exact ho9
end Go.Proofs.YtbnbcimjapiicaaDoor.Tr
set_option linter.unusedVariables false
set_option linter.unusedSimpArgs false
set_option maxRecDepth 4000
namespace Go.Proofs.YtbnbcimjapiicaaDoor.Tr
open Go Go.X Go.RowKit Go.Proofs.YtbnbcimjapiicaaDoor.XL Go.Proofs.YtbnbcimjapiicaaDoor.XK
def isThere (l : List De) (o : ByteArray) : Bool := l.any fun d => decide (d.name = o)
theorem isThere_snoc (l : List De) (d : De) (o : ByteArray) : isThere (l ++ [d]) o = (isThere l o || decide (d.name = o)) := by unfold isThere; rw [List.any_append]; simp
theorem isThere_find {l : List De} {o : ByteArray} : isThere l o = !((findP l o.data.toList).kind == 0) := by
  cases h : isThere l o with
  | true =>
    unfold isThere at h
    obtain ⟨d, hd, hn⟩ := List.any_eq_true.1 h
    have hn : d.name = o := of_decide_eq_true hn
    have := find_mem (l := l) (pre := []) (k := o.data.toList) ⟨d, hd, by rw [← hn]; rfl⟩
    have h2 : ((findP l o.data.toList).kind == 0) = false := beq_eq_false_iff_ne.2 this
    rw [h2]; rfl
  | false =>
    have : findP l o.data.toList = zEn := find_none fun x hx q => by
      unfold isThere at h
      rw [List.any_eq_false] at h
      refine h x hx (decide_eq_true ?_)
      exact bytes_inj q
    rw [this]; rfl
/-- The number of an array among all. -/
theorem arrs_at {l1 l2 : List De} {d : De} (h : d.places ≠ 0) : (arrs (l1 ++ d :: l2))[(arrs l1).length]? = some d.places ∧ (arrs l1).length < (arrs (l1 ++ d :: l2)).length := by
  unfold arrs
  have : isV d = false := decide_eq_false h
  rw [List.filter_append, List.filter_cons, this]
  simp
theorem vars_app (l1 l2 : List De) : vars l1 ≤ vars (l1 ++ l2) := by
  unfold vars; rw [List.filter_append, List.length_append]; omega
end Go.Proofs.YtbnbcimjapiicaaDoor.Tr
set_option linter.unusedVariables false
set_option linter.unusedSimpArgs false
set_option maxRecDepth 4000
namespace Go.Proofs.YtbnbcimjapiicaaDoor.Tr
open Go Go.X Go.RowKit Go.Proofs.YtbnbcimjapiicaaDoor.XL Go.Proofs.YtbnbcimjapiicaaDoor.XK
theorem apart4 {w0 wT w : World} {p : Pr} (h : p.Ok w0) (hm0 : Mod none_ w0 wT) (hmT : Mod none_ wT w) (hlen : p.decls.length ≤ 100) (hmay : ∀ d ∈ p.decls, d.may = true) (hdw : (declsW [] p.decls).err = 0) {b2 t tb : Nat} (hb2 : wT.heap[b2]? = some (.cells p.cells.toArray 25 (0, 0))) (hT : TbAt wT tb t p.decls)
    {v7 v8 v9 : Value} (hs : Sep v7 v8 v9) (hC : Cnt w wT.heap.size v7 v8 v9 []) {A : Option Addr} {c : Nat} (h10 : reads w 1 (.slice A (arrs p.decls).length c) (arrs p.decls).length ((arrs p.decls).map (.int .i64)))
    (hn10 : ∀ k, (Value.slice A (arrs p.decls).length c).ownBlock = some k → ¬ (some k = v7.ownBlock ∨ some k = v8.ownBlock ∨ some k = v9.ownBlock)) {other : ByteArray} {ρ : Sl} (r2 : ρ 2 = pq b2) (r1 : ρ 1 = .string other) (r5 : ρ 5 = pt t) (r7 : ρ 7 = v7) (r8 : ρ 8 = v8) (r9 : ρ 9 = v9) (r10 : ρ 10 = .slice A (arrs p.decls).length c) (r11 : ρ 11 = .bool false) (r12 : ρ 12 = .int .i64 0) :
    W fn_ Tryd.prog 207 (Code.loop XA.dispatcherlaw04_ScopeApart_L4) (blkK 0 (seqK (sx fn_ Tryd.prog 207 XA.dispatcherlaw04_ScopeApart_R5 (retK Tryd.prog [ResultVar.tmp 4] (apartR w0))) (retK Tryd.prog [ResultVar.tmp 4] (apartR w0)))) ρ w := by
  obtain ⟨B, cd, hds, _⟩ := reads_cap h.d.1
  have hlim := declsW_lim hdw hmay (by decide) (by decide)
  refine W_loopG XA.dispatcherlaw04_ScopeApart_L4_ok (fun m ρ w' => ∃ i, i + m = p.decls.length ∧ ρ 12 = .int .i64 (i : Nat) ∧ ρ 11 = .bool (isThere (p.decls.take i) other) ∧ ρ 2 = pq b2 ∧ ρ 1 = .string other ∧ ρ 5 = pt t ∧ ρ 7 = v7 ∧ ρ 8 = v8 ∧ ρ 9 = v9 ∧ ρ 10 = .slice A (arrs p.decls).length c ∧
      Cnt w' wT.heap.size v7 v8 v9 (p.decls.take i) ∧ Mod none_ wT w' ∧ reads w' 1 (.slice A (arrs p.decls).length c) (arrs p.decls).length ((arrs p.decls).map (.int .i64))) p.decls.length
    ⟨0, by omega, r12, r11, r2, r1, r5, r7, r8, r9, r10, hC, hmT, h10⟩ ?_
  rintro m ρ w1 ⟨i, hi, q12, q11, q2, q1, q5, q7, q8, q9, q10, hC1, hm1, h101⟩
  have hm01 := hm0.trans hm1
  have hb21 := hm1.blk hb2 id
  have hD : DesOk w1 (.slice B p.decls.length cd) p.decls := hds ▸ (h.mod hm01).d
  have f0 : FO Tryd.prog w1 25 0 0 ⟨b2, 0, none⟩ 22 (.slice B p.decls.length cd) := FO.blk hb21 (by kernel_rfl) uDes rfl (by rw [← hds]; rfl)
  rw [XA.dispatcherlaw04_ScopeApart_L4_eq]
  unfold XA.dispatcherlaw04_ScopeApart_L4_F
  rw [q2, q12, q11, q1, q5]
  simp only [↓f0.e]
  rw [len_sl uDes]
  by_cases hlt : i < p.decls.length
  · simp only [↓VG_u, ↓UG_u, ↓MG_u, ↓NG_u, ↓PG_u, ↓BG_u, ↓CG_u, ↓IG_u, ↓VGtt, ↓VGtf, ↓VGft, ↓VGff, ↓UGtt, ↓UGtf, ↓UGft, ↓UGff, ↓MGtt, ↓MGtf, ↓MGft, ↓MGff, ↓NGtt, ↓NGtf, ↓NGft, ↓NGff, ↓PGtt, ↓PGtf, ↓PGft, ↓PGff, ↓BGtt, ↓BGtf, ↓BGft, ↓BGff, ↓CGtt, ↓CGtf, ↓CGft, ↓CGff, ↓IGtt, ↓IGtf, ↓IGft, ↓IGff, ↓PKt, ↓PKf, ↓CDt, ↓CDf, ↓NOTt, ↓NOTf, ↓NK_ptr, ↓LTt (show (i : Int) < (p.decls.length : Int) by omega), ↓f0.e]
    have hx : p.decls[i]? = some p.decls[i] := List.getElem?_eq_getElem hlt
    have htk : p.decls.take (i + 1) = p.decls.take i ++ [p.decls[i]] := by rw [List.take_add_one, hx]; rfl
    have hsp : p.decls = p.decls.take i ++ p.decls[i] :: p.decls.drop (i + 1) := by rw [List.getElem_cons_drop, List.take_append_drop]
    have hfind : findP p.decls p.decls[i].name.data.toList = nu (p.decls.take i) p.decls[i] := by
      have := hdw
      rw [hsp] at this
      have := findP_at this
      rw [← hsp] at this
      exact this
    refine ixDe hD hx fun x => ?_
    refine lcl_k (cs := p.decls[i].cells.toArray) (by kernel_rfl : (Tryd.prog.info? 40).bind (·.zero) = some (.agg (De.mk (bs []) 0 0 0).cells.toArray)) _ (by kernel_rfl) rfl (de_one _) fun w2 hb2' hm2 hz2 => ?_
    have hl := hlim (i + 1)
    rw [List.nil_append, htk] at hl
    have hpre := (cellsP_le (l := p.decls.take i) fun d hd => hmay d (List.mem_of_mem_take hd)).1
    have hap : (arrs (p.decls.take i)).length < 200 := by have := arrs_le (p.decls.take i); rw [List.length_take] at this; omega
    have hvv : vars (p.decls.take i ++ [p.decls[i]]) ≤ vars p.decls := by rw [← htk]; have := vars_app (p.decls.take (i + 1)) (p.decls.drop (i + 1)); rwa [List.take_append_drop] at this
    have harr : p.decls[i].places ≠ 0 → (arrs (p.decls.take i)).length < (arrs p.decls).length ∧ (arrs p.decls)[(arrs (p.decls.take i)).length]? = some p.decls[i].places := fun h0 => by
      have := arrs_at (l1 := p.decls.take i) (l2 := p.decls.drop (i + 1)) h0
      rw [← hsp] at this
      exact ⟨this.2, this.1⟩
    have d0 : FO Tryd.prog w2 40 0 0 ⟨w1.heap.size, 0, none⟩ 9 (.string p.decls[i].name) := FO.blk hb2' (by kernel_rfl) uS rfl rfl
    have fin : ∀ {w3 : World} {ρ' : Sl} {b14 : Nat}, Mod none_ w2 w3 → w3.heap[b14]? = some (.cells (nu (p.decls.take i) p.decls[i]).cells.toArray 37 (0, 0)) → ρ' 12 = .int .i64 (i : Nat) → ρ' 11 = .bool (isThere (p.decls.take (i + 1)) other) → ρ' 2 = pq b2 → ρ' 1 = .string other → ρ' 5 = pt t → ρ' 7 = v7 → ρ' 8 = v8 → ρ' 9 = v9 → ρ' 10 = .slice A (arrs p.decls).length c → ρ' 13 = pq w1.heap.size → ρ' 14 = pq b14 →
        ∀ K : Exit → Sl → World → Prop, (∀ ρ w', (∃ m', m' < m ∧ ∃ i, i + m' = p.decls.length ∧ ρ 12 = .int .i64 (i : Nat) ∧ ρ 11 = .bool (isThere (p.decls.take i) other) ∧ ρ 2 = pq b2 ∧ ρ 1 = .string other ∧ ρ 5 = pt t ∧ ρ 7 = v7 ∧ ρ 8 = v8 ∧ ρ 9 = v9 ∧ ρ 10 = .slice A (arrs p.decls).length c ∧
          Cnt w' wT.heap.size v7 v8 v9 (p.decls.take i) ∧ Mod none_ wT w' ∧ reads w' 1 (.slice A (arrs p.decls).length c) (arrs p.decls).length ((arrs p.decls).map (.int .i64))) → K .normal ρ w') → sx fn_ Tryd.prog 207 XA.dispatcherlaw04_ScopeApart_R7 (blkK 1 (seqK (sx fn_ Tryd.prog 207 XA.dispatcherlaw04_ScopeApart_R6 K) K)) ρ' w3 := by
      intro w3 ρ' b14 hm3 hb14 a12 a11 a2 a1 a5 a7 a8 a9 a10 a13 a14 K hK
      have hm13 := hm2.trans hm3
      have hC3 := hC1.mod0 hm13
      have h103 := reads_mod h101 hm13 fun _ _ _ => id
      refine apart7 hs hC3 (hT.mod (hm1.trans hm13)) (hm3.blk hb2' id) hb14 (hmay _ (List.getElem_mem hlt)) hpre hl.1 hl.2 hvv hap h103 harr a5 a7 a8 a9 a10 a13 a14 fun ρ2 w4 hC4 hm4 qs => ?_
      rw [sq_n, XA.dispatcherlaw04_ScopeApart_R6_eq]
      unfold XA.dispatcherlaw04_ScopeApart_R6_F
      refine BKadd (a := i) (b := 1) (by rw [qs 12 (by omega)]; exact a12) rfl (by omega) (by omega) (hK _ _ ⟨m - 1, by omega, i + 1, by omega, rfl, (qs 11 (by omega)).trans a11, (qs 2 (by omega)).trans a2, (qs 1 (by omega)).trans a1, (qs 5 (by omega)).trans a5, (qs 7 (by omega)).trans a7, (qs 8 (by omega)).trans a8, (qs 9 (by omega)).trans a9, (qs 10 (by omega)).trans a10, by rw [htk]; exact hC4, ?_, reads_mod h103 hm4 fun k _ hk z => hn10 k hk z⟩)
      exact (hm1.trans hm13).then hm4 fun k hk z => by
        rcases z with z | z | z
        · have := owns_low hC3.r7 z.symm; omega
        · have := owns_low hC3.r8 z.symm; omega
        · have := owns_low hC3.r9 z.symm; omega
    cases hth : isThere (p.decls.take i) other with
    | true =>
      try simp only [↓VG_u, ↓UG_u, ↓MG_u, ↓NG_u, ↓PG_u, ↓BG_u, ↓CG_u, ↓IG_u, ↓VGtt, ↓VGtf, ↓VGft, ↓VGff, ↓UGtt, ↓UGtf, ↓UGft, ↓UGff, ↓MGtt, ↓MGtf, ↓MGft, ↓MGff, ↓NGtt, ↓NGtf, ↓NGft, ↓NGff, ↓PGtt, ↓PGtf, ↓PGft, ↓PGff, ↓BGtt, ↓BGtf, ↓BGft, ↓BGff, ↓CGtt, ↓CGtf, ↓CGft, ↓CGff, ↓IGtt, ↓IGtf, ↓IGft, ↓IGff, ↓PKt, ↓PKf, ↓CDt, ↓CDf, ↓NOTt, ↓NOTf, ↓NK_ptr]
      try simp only [↓VG_u, ↓UG_u, ↓MG_u, ↓NG_u, ↓PG_u, ↓BG_u, ↓CG_u, ↓IG_u, ↓VGtt, ↓VGtf, ↓VGft, ↓VGff, ↓UGtt, ↓UGtf, ↓UGft, ↓UGff, ↓MGtt, ↓MGtf, ↓MGft, ↓MGff, ↓NGtt, ↓NGtf, ↓NGft, ↓NGff, ↓PGtt, ↓PGtf, ↓PGft, ↓PGff, ↓BGtt, ↓BGtf, ↓BGft, ↓BGff, ↓CGtt, ↓CGtf, ↓CGft, ↓CGff, ↓IGtt, ↓IGtf, ↓IGft, ↓IGff, ↓PKt, ↓PKf, ↓CDt, ↓CDf, ↓NOTt, ↓NOTf, ↓NK_ptr, ↓d0.e]
      refine CK_st Tryd.func16 rfl rfl (FindT_ok (hT.mod (hm1.trans hm2)) p.decls[i].name) ?_
      rintro _ w3 ⟨rfl, hm3⟩
      rw [hfind]
      refine lcl_k (cs := (nu (p.decls.take i) p.decls[i]).cells.toArray) zEnt _ iEnt rfl (en_one _) fun w4 hb4 hm4 hz4 => ?_
      refine fin (hm3.trans hm4) hb4 ?_ ?_ ?_ ?_ ?_ ?_ ?_ ?_ ?_ ?_ ?_ _ fun ρ w h => h
      · exact q12
      · show Value.bool true = _; rw [htk, isThere_snoc, hth]; simp
      · exact q2
      · exact q1
      · exact q5
      · exact q7
      · exact q8
      · exact q9
      · exact q10
      · rfl
      · rfl
    | false =>
      simp only [↓VG_u, ↓UG_u, ↓MG_u, ↓NG_u, ↓PG_u, ↓BG_u, ↓CG_u, ↓IG_u, ↓VGtt, ↓VGtf, ↓VGft, ↓VGff, ↓UGtt, ↓UGtf, ↓UGft, ↓UGff, ↓MGtt, ↓MGtf, ↓MGft, ↓MGff, ↓NGtt, ↓NGtf, ↓NGft, ↓NGff, ↓PGtt, ↓PGtf, ↓PGft, ↓PGff, ↓BGtt, ↓BGtf, ↓BGft, ↓BGff, ↓CGtt, ↓CGtf, ↓CGft, ↓CGff, ↓IGtt, ↓IGtf, ↓IGft, ↓IGff, ↓PKt, ↓PKf, ↓CDt, ↓CDf, ↓NOTt, ↓NOTf, ↓NK_ptr, ↓d0.e]
      by_cases hne : p.decls[i].name = other
      · simp only [↓VG_u, ↓UG_u, ↓MG_u, ↓NG_u, ↓PG_u, ↓BG_u, ↓CG_u, ↓IG_u, ↓VGtt, ↓VGtf, ↓VGft, ↓VGff, ↓UGtt, ↓UGtf, ↓UGft, ↓UGff, ↓MGtt, ↓MGtf, ↓MGft, ↓MGff, ↓NGtt, ↓NGtf, ↓NGft, ↓NGff, ↓PGtt, ↓PGtf, ↓PGft, ↓PGff, ↓BGtt, ↓BGtf, ↓BGft, ↓BGff, ↓CGtt, ↓CGtf, ↓CGft, ↓CGff, ↓IGtt, ↓IGtf, ↓IGft, ↓IGff, ↓PKt, ↓PKf, ↓CDt, ↓CDf, ↓NOTt, ↓NOTf, ↓NK_ptr, ↓SEQt hne]
        try simp only [↓VG_u, ↓UG_u, ↓MG_u, ↓NG_u, ↓PG_u, ↓BG_u, ↓CG_u, ↓IG_u, ↓VGtt, ↓VGtf, ↓VGft, ↓VGff, ↓UGtt, ↓UGtf, ↓UGft, ↓UGff, ↓MGtt, ↓MGtf, ↓MGft, ↓MGff, ↓NGtt, ↓NGtf, ↓NGft, ↓NGff, ↓PGtt, ↓PGtf, ↓PGft, ↓PGff, ↓BGtt, ↓BGtf, ↓BGft, ↓BGff, ↓CGtt, ↓CGtf, ↓CGft, ↓CGff, ↓IGtt, ↓IGtf, ↓IGft, ↓IGff, ↓PKt, ↓PKf, ↓CDt, ↓CDf, ↓NOTt, ↓NOTf, ↓NK_ptr, ↓d0.e]
        refine CK_st Tryd.func16 rfl rfl (FindT_ok (hT.mod (hm1.trans hm2)) p.decls[i].name) ?_
        rintro _ w3 ⟨rfl, hm3⟩
        rw [hfind]
        refine lcl_k (cs := (nu (p.decls.take i) p.decls[i]).cells.toArray) zEnt _ iEnt rfl (en_one _) fun w4 hb4 hm4 hz4 => ?_
        refine fin (hm3.trans hm4) hb4 ?_ ?_ ?_ ?_ ?_ ?_ ?_ ?_ ?_ ?_ ?_ _ fun ρ w h => h
        · exact q12
        · show Value.bool true = _; rw [htk, isThere_snoc, hth, hne]; simp
        · exact q2
        · exact q1
        · exact q5
        · exact q7
        · exact q8
        · exact q9
        · exact q10
        · rfl
        · rfl
      · simp only [↓VG_u, ↓UG_u, ↓MG_u, ↓NG_u, ↓PG_u, ↓BG_u, ↓CG_u, ↓IG_u, ↓VGtt, ↓VGtf, ↓VGft, ↓VGff, ↓UGtt, ↓UGtf, ↓UGft, ↓UGff, ↓MGtt, ↓MGtf, ↓MGft, ↓MGff, ↓NGtt, ↓NGtf, ↓NGft, ↓NGff, ↓PGtt, ↓PGtf, ↓PGft, ↓PGff, ↓BGtt, ↓BGtf, ↓BGft, ↓BGff, ↓CGtt, ↓CGtf, ↓CGft, ↓CGff, ↓IGtt, ↓IGtf, ↓IGft, ↓IGff, ↓PKt, ↓PKf, ↓CDt, ↓CDf, ↓NOTt, ↓NOTf, ↓NK_ptr, ↓SEQf hne]
        try simp only [↓VG_u, ↓UG_u, ↓MG_u, ↓NG_u, ↓PG_u, ↓BG_u, ↓CG_u, ↓IG_u, ↓VGtt, ↓VGtf, ↓VGft, ↓VGff, ↓UGtt, ↓UGtf, ↓UGft, ↓UGff, ↓MGtt, ↓MGtf, ↓MGft, ↓MGff, ↓NGtt, ↓NGtf, ↓NGft, ↓NGff, ↓PGtt, ↓PGtf, ↓PGft, ↓PGff, ↓BGtt, ↓BGtf, ↓BGft, ↓BGff, ↓CGtt, ↓CGtf, ↓CGft, ↓CGff, ↓IGtt, ↓IGtf, ↓IGft, ↓IGff, ↓PKt, ↓PKf, ↓CDt, ↓CDf, ↓NOTt, ↓NOTf, ↓NK_ptr, ↓d0.e]
        refine CK_st Tryd.func16 rfl rfl (FindT_ok (hT.mod (hm1.trans hm2)) p.decls[i].name) ?_
        rintro _ w3 ⟨rfl, hm3⟩
        rw [hfind]
        refine lcl_k (cs := (nu (p.decls.take i) p.decls[i]).cells.toArray) zEnt _ iEnt rfl (en_one _) fun w4 hb4 hm4 hz4 => ?_
        refine fin (hm3.trans hm4) hb4 ?_ ?_ ?_ ?_ ?_ ?_ ?_ ?_ ?_ ?_ ?_ _ fun ρ w h => h
        · exact q12
        · show Value.bool false = _; rw [htk, isThere_snoc, hth, decide_eq_false hne]; simp
        · exact q2
        · exact q1
        · exact q5
        · exact q7
        · exact q8
        · exact q9
        · exact q10
        · rfl
        · rfl
  · simp only [↓VG_u, ↓UG_u, ↓MG_u, ↓NG_u, ↓PG_u, ↓BG_u, ↓CG_u, ↓IG_u, ↓VGtt, ↓VGtf, ↓VGft, ↓VGff, ↓UGtt, ↓UGtf, ↓UGft, ↓UGff, ↓MGtt, ↓MGtf, ↓MGft, ↓MGff, ↓NGtt, ↓NGtf, ↓NGft, ↓NGff, ↓PGtt, ↓PGtf, ↓PGft, ↓PGff, ↓BGtt, ↓BGtf, ↓BGft, ↓BGff, ↓CGtt, ↓CGtf, ↓CGft, ↓CGff, ↓IGtt, ↓IGtf, ↓IGft, ↓IGff, ↓PKt, ↓PKf, ↓CDt, ↓CDf, ↓NOTt, ↓NOTf, ↓NK_ptr, ↓LTf (show (p.decls.length : Int) ≤ (i : Int) by omega)]
    rw [sq_x, bk_x, sq_n]
    rw [List.take_of_length_le (by omega)] at hC1 q11
    have hl := hlim p.decls.length
    rw [List.take_of_length_le (Nat.le_refl _), List.nil_append] at hl
    refine apart5 (other := other) hm01 (hT.mod hm1) hmay hl.1 (by have := arrs_le p.decls; omega) hl.2 (reads_of_owns hC1.r7) (reads_of_owns hC1.r8) (reads_of_owns hC1.r9) h101 isThere_find ?_ ?_ ?_ ?_ ?_ ?_ ?_
    · exact q5
    · exact q7
    · exact q8
    · exact q9
    · exact q10
    · exact q11
    · exact q1
end Go.Proofs.YtbnbcimjapiicaaDoor.Tr
set_option linter.unusedVariables false
set_option linter.unusedSimpArgs false
set_option maxRecDepth 4000
namespace Go.Proofs.YtbnbcimjapiicaaDoor.Tr
open Go Go.X Go.RowKit Go.Proofs.YtbnbcimjapiicaaDoor.XL Go.Proofs.YtbnbcimjapiicaaDoor.XK
/-- The rows are made: whatever comes first. -/
theorem apart3 {w0 wT w : World} {p : Pr} (h : p.Ok w0) (hm0 : Mod none_ w0 wT) (hmT : Mod none_ wT w) (hlen : p.decls.length ≤ 100) (hmay : ∀ d ∈ p.decls, d.may = true) (hdw : (declsW [] p.decls).err = 0) {b2 t tb : Nat} (hb2 : wT.heap[b2]? = some (.cells p.cells.toArray 25 (0, 0))) (hT : TbAt wT tb t p.decls)
    {v7 v8 v9 : Value} {k7 k8 k9 : Nat} (e7 : v7.ownBlock = some k7) (e8 : v8.ownBlock = some k8) (e9 : v9.ownBlock = some k9) (n78 : k7 ≠ k8) (n79 : k7 ≠ k9) (n89 : k8 ≠ k9) (hC : Cnt w wT.heap.size v7 v8 v9 []) {other : ByteArray} {ρ : Sl} (r2 : ρ 2 = pq b2) (r1 : ρ 1 = .string other) (r5 : ρ 5 = pt t) (r7 : ρ 7 = v7) (r8 : ρ 8 = v8) (r9 : ρ 9 = v9) :
    sx fn_ Tryd.prog 207 XA.dispatcherlaw04_ScopeApart_R3 (retK Tryd.prog [ResultVar.tmp 4] (apartR w0)) ρ w := by
  rw [XA.dispatcherlaw04_ScopeApart_R3_eq]
  unfold XA.dispatcherlaw04_ScopeApart_R3_F
  rw [r5]
  refine CK_st Tryd.func23 rfl rfl (ArraysT_ok (hT.mod hmT) (by omega)) ?_
  rintro v w1 ⟨ho, hm1⟩
  obtain ⟨A, c, rfl, _⟩ := reads_cap (reads_of_owns ho)
  refine apart4 h hm0 (hmT.trans hm1) hlen hmay hdw hb2 hT (v7 := v7) (v8 := v8) (v9 := v9) (other := other) ⟨?_, ?_, ?_⟩ (hC.mod0 hm1) (reads_of_owns ho) (fun k hk z => ?_) ?_ ?_ ?_ ?_ ?_ ?_ ?_ ?_ ?_
  · intro k hk z; rw [e7] at hk; rw [e8] at z; injection hk; injection z; omega
  · intro k hk z; rw [e7] at hk; rw [e9] at z; injection hk; injection z; omega
  · intro k hk z; rw [e8] at hk; rw [e9] at z; injection hk; injection z; omega
  · have h1 := owns_low ho hk
    rcases z with z | z | z
    · have := owns_lt hC.r7 z.symm; omega
    · have := owns_lt hC.r8 z.symm; omega
    · have := owns_lt hC.r9 z.symm; omega
  · exact r2
  · exact r1
  · exact r5
  · exact r7
  · exact r8
  · exact r9
  · rfl
  · rfl
  · rfl
theorem apart1 {w0 wT : World} {p : Pr} (h : p.Ok w0) (hm0 : Mod none_ w0 wT) (hlen : p.decls.length ≤ 100) (hmay : ∀ d ∈ p.decls, d.may = true) (hdw : (declsW [] p.decls).err = 0) {b2 t tb : Nat} (hb2 : wT.heap[b2]? = some (.cells p.cells.toArray 25 (0, 0))) (hT : TbAt wT tb t p.decls)
    {other : ByteArray} {ρ : Sl} (r2 : ρ 2 = pq b2) (r1 : ρ 1 = .string other) (r5 : ρ 5 = pt t) :
    sx fn_ Tryd.prog 207 XA.dispatcherlaw04_ScopeApart_R1 (retK Tryd.prog [ResultVar.tmp 4] (apartR w0)) ρ wT := by
  rw [XA.dispatcherlaw04_ScopeApart_R1_eq]
  unfold XA.dispatcherlaw04_ScopeApart_R1_F
  refine XA.dispatcherlaw04_ScopeApart_R2_held (D := []) (fun _ => True) trivial ?_
  unfold XA.dispatcherlaw04_ScopeApart_R2_H
  have hd8 : Mod none_ wT { wT with drawn := wT.drawn + 1 } := (Mod.refl _ wT).drawn _
  have fin : ∀ {w : World} {v7 v8 v9 : Value} {k7 k8 k9 : Nat} {ρ' : Sl}, Mod none_ wT w → v7.ownBlock = some k7 → v8.ownBlock = some k8 → v9.ownBlock = some k9 → k7 ≠ k8 → k7 ≠ k9 → k8 ≠ k9 → w.ownsRow wT.heap.size tI 1 v7 64 ((onesL 64 0).map (.int .i64)) → w.ownsRow wT.heap.size tI 1 v8 200 ((onesL 200 0).map (.int .i64)) → w.ownsRow wT.heap.size tI 1 v9 1000 ((onesL 1000 0).map (.int .i64)) → ρ' 2 = pq b2 → ρ' 1 = .string other → ρ' 5 = pt t → ρ' 7 = v7 → ρ' 8 = v8 → ρ' 9 = v9 →
      seqK (sx fn_ Tryd.prog 207 XA.dispatcherlaw04_ScopeApart_R3 (retK Tryd.prog [ResultVar.tmp 4] (apartR w0))) (retK Tryd.prog [ResultVar.tmp 4] (apartR w0)) .normal ρ' w := by
    intro w v7 v8 v9 k7 k8 k9 ρ' hm e7 e8 e9 n1 n2 n3 o7 o8 o9 a2 a1 a5 a7 a8 a9
    rw [sq_n]
    exact apart3 h hm0 hm hlen hmay hdw hb2 hT e7 e8 e9 n1 n2 n3 ⟨o7, o8, o9⟩ a2 a1 a5 a7 a8 a9
  have mk : ∀ {w : World} {n : Nat} {K : Value → World → Prop}, Mod none_ wT w → n ≤ 100000 → (∀ v w', w'.ownsRow wT.heap.size tI 1 v n ((onesL n 0).map (.int .i64)) → v.ownBlock = some w.heap.size → Mod none_ w w' → w.heap.size < w'.heap.size → K v w') → VK Tryd.prog (Instr.makeSlice 50 (.int .i64 (n : Nat)) (.int .i64 (n : Nat))) w K := fun hm hn hk =>
    made_k hn hm.size fun v w' ho he hm' => hk v w' ho he hm' (owns_lt ho he)
  have keep : ∀ {w w' : World} {v : Value} {n : Nat} {xs : List Value}, w.ownsRow wT.heap.size tI 1 v n xs → Mod none_ w w' → w'.ownsRow wT.heap.size tI 1 v n xs := fun ho hm => owns_mod ho hm fun _ _ => id
  refine ⟨?_, ?_, ?_⟩
  · refine mk (n := 64) hd8 (by omega) fun v7 wa oa ea ma la => ⟨trivial, ?_, ?_⟩
    · refine mk (n := 200) (hd8.trans ma) (by omega) fun v8 wb ob eb mb lb => ⟨trivial, ?_⟩
      refine mk (n := 1000) ((hd8.trans ma).trans mb) (by omega) fun v9 wc oc ec mc lc => ⟨trivial, ?_⟩
      exact fin (((hd8.trans ma).trans mb).trans mc) ea eb ec (by omega) (by omega) (by omega) (keep (keep oa mb) mc) (keep ob mc) oc r2 r1 r5 rfl rfl rfl
    · refine mk (n := 1000) (hd8.trans ma) (by omega) fun v9 wb ob eb mb lb => ⟨trivial, ?_⟩
      refine mk (n := 200) ((hd8.trans ma).trans mb) (by omega) fun v8 wc oc ec mc lc => ⟨trivial, ?_⟩
      exact fin (((hd8.trans ma).trans mb).trans mc) ea ec eb (by omega) (by omega) (by omega) (keep (keep oa mb) mc) oc (keep ob mc) r2 r1 r5 rfl rfl rfl
  · refine mk (n := 200) hd8 (by omega) fun v8 wa oa ea ma la => ⟨trivial, ?_, ?_⟩
    · refine mk (n := 64) (hd8.trans ma) (by omega) fun v7 wb ob eb mb lb => ⟨trivial, ?_⟩
      refine mk (n := 1000) ((hd8.trans ma).trans mb) (by omega) fun v9 wc oc ec mc lc => ⟨trivial, ?_⟩
      exact fin (((hd8.trans ma).trans mb).trans mc) eb ea ec (by omega) (by omega) (by omega) (keep ob mc) (keep (keep oa mb) mc) oc r2 r1 r5 rfl rfl rfl
    · refine mk (n := 1000) (hd8.trans ma) (by omega) fun v9 wb ob eb mb lb => ⟨trivial, ?_⟩
      refine mk (n := 64) ((hd8.trans ma).trans mb) (by omega) fun v7 wc oc ec mc lc => ⟨trivial, ?_⟩
      exact fin (((hd8.trans ma).trans mb).trans mc) ec ea eb (by omega) (by omega) (by omega) oc (keep (keep oa mb) mc) (keep ob mc) r2 r1 r5 rfl rfl rfl
  · refine mk (n := 1000) hd8 (by omega) fun v9 wa oa ea ma la => ⟨trivial, ?_, ?_⟩
    · refine mk (n := 64) (hd8.trans ma) (by omega) fun v7 wb ob eb mb lb => ⟨trivial, ?_⟩
      refine mk (n := 200) ((hd8.trans ma).trans mb) (by omega) fun v8 wc oc ec mc lc => ⟨trivial, ?_⟩
      exact fin (((hd8.trans ma).trans mb).trans mc) eb ec ea (by omega) (by omega) (by omega) (keep ob mc) oc (keep (keep oa mb) mc) r2 r1 r5 rfl rfl rfl
    · refine mk (n := 200) (hd8.trans ma) (by omega) fun v8 wb ob eb mb lb => ⟨trivial, ?_⟩
      refine mk (n := 64) ((hd8.trans ma).trans mb) (by omega) fun v7 wc oc ec mc lc => ⟨trivial, ?_⟩
      exact fin (((hd8.trans ma).trans mb).trans mc) ec eb ea (by omega) (by omega) (by omega) oc (keep ob mc) (keep (keep oa mb) mc) r2 r1 r5 rfl rfl rfl
theorem ScopeApart_ok {w : World} (hg : Gl w) {p : Pr} (h : p.Ok w) (hf : p.fits) (other : ByteArray) : Rt Tryd.prog 7 #[.agg p.cells.toArray, .string other] w fun v w' => v = .bool true ∧ Mod none_ w w' := by
  refine XA.dispatcherlaw04_ScopeApart_calls ?_
  unfold XA.dispatcherlaw04_ScopeApart_F
  refine box_k (cs := p.cells.toArray) rfl fun w1 hb1 hm1 hz1 => ?_
  refine CK_st Tryd.func18 rfl rfl (awake_ok (hg.mod hm1)) ?_
  rintro _ w2 ⟨rfl, hm2⟩
  have hb2 := hm2.blk hb1 id
  have hm02 := hm1.trans hm2
  simp only [↓VG_u, ↓UG_u, ↓MG_u, ↓NG_u, ↓PG_u, ↓BG_u, ↓CG_u, ↓IG_u, ↓VGtt, ↓VGtf, ↓VGft, ↓VGff, ↓UGtt, ↓UGtf, ↓UGft, ↓UGff, ↓MGtt, ↓MGtf, ↓MGft, ↓MGff, ↓NGtt, ↓NGtf, ↓NGft, ↓NGff, ↓PGtt, ↓PGtf, ↓PGft, ↓PGff, ↓BGtt, ↓BGtf, ↓BGft, ↓BGff, ↓CGtt, ↓CGtf, ↓CGft, ↓CGff, ↓IGtt, ↓IGtf, ↓IGft, ↓IGff, ↓PKt, ↓PKf, ↓CDt, ↓CDf, ↓NOTt, ↓NOTf, ↓NK_ptr]
  refine ldB (cs := p.cells.toArray) Tryd.underlying25 rfl iPr hb2 ?_
  refine CK_st Tryd.func10 rfl rfl (Great_ok (h.mod hm02) hf) ?_
  rintro _ w3 ⟨rfl, hm3⟩
  have hb3 := hm3.blk hb2 id
  have hm03 := hm02.trans hm3
  cases hgr : p.great with
  | true => simp only [↓VG_u, ↓UG_u, ↓MG_u, ↓NG_u, ↓PG_u, ↓BG_u, ↓CG_u, ↓IG_u, ↓VGtt, ↓VGtf, ↓VGft, ↓VGff, ↓UGtt, ↓UGtf, ↓UGft, ↓UGff, ↓MGtt, ↓MGtf, ↓MGft, ↓MGff, ↓NGtt, ↓NGtf, ↓NGft, ↓NGff, ↓PGtt, ↓PGtf, ↓PGft, ↓PGff, ↓BGtt, ↓BGtf, ↓BGft, ↓BGff, ↓CGtt, ↓CGtf, ↓CGft, ↓CGff, ↓IGtt, ↓IGtf, ↓IGft, ↓IGff, ↓PKt, ↓PKf, ↓CDt, ↓CDf, ↓NOTt, ↓NOTf, ↓NK_ptr]; first | exact ⟨rfl, hm03⟩ | exact ⟨trivial, hm03⟩
  | false =>
  have hlen : p.decls.length ≤ 100 := by
    unfold Pr.great at hgr
    simp only [Bool.or_eq_false_iff, decide_eq_false_iff_not] at hgr
    omega
  simp only [↓VG_u, ↓UG_u, ↓MG_u, ↓NG_u, ↓PG_u, ↓BG_u, ↓CG_u, ↓IG_u, ↓VGtt, ↓VGtf, ↓VGft, ↓VGff, ↓UGtt, ↓UGtf, ↓UGft, ↓UGff, ↓MGtt, ↓MGtf, ↓MGft, ↓MGff, ↓NGtt, ↓NGtf, ↓NGft, ↓NGff, ↓PGtt, ↓PGtf, ↓PGft, ↓PGff, ↓BGtt, ↓BGtf, ↓BGft, ↓BGff, ↓CGtt, ↓CGtf, ↓CGft, ↓CGff, ↓IGtt, ↓IGtf, ↓IGft, ↓IGff, ↓PKt, ↓PKf, ↓CDt, ↓CDf, ↓NOTt, ↓NOTf, ↓NK_ptr]
  rw [len9]
  try simp only [↓VG_u, ↓UG_u, ↓MG_u, ↓NG_u, ↓PG_u, ↓BG_u, ↓CG_u, ↓IG_u, ↓VGtt, ↓VGtf, ↓VGft, ↓VGff, ↓UGtt, ↓UGtf, ↓UGft, ↓UGff, ↓MGtt, ↓MGtf, ↓MGft, ↓MGff, ↓NGtt, ↓NGtf, ↓NGft, ↓NGff, ↓PGtt, ↓PGtf, ↓PGft, ↓PGff, ↓BGtt, ↓BGtf, ↓BGft, ↓BGff, ↓CGtt, ↓CGtf, ↓CGft, ↓CGff, ↓IGtt, ↓IGtf, ↓IGft, ↓IGff, ↓PKt, ↓PKf, ↓CDt, ↓CDf, ↓NOTt, ↓NOTf, ↓NK_ptr]
  rw [BK_gtr]
  try simp only [↓VG_u, ↓UG_u, ↓MG_u, ↓NG_u, ↓PG_u, ↓BG_u, ↓CG_u, ↓IG_u, ↓VGtt, ↓VGtf, ↓VGft, ↓VGff, ↓UGtt, ↓UGtf, ↓UGft, ↓UGff, ↓MGtt, ↓MGtf, ↓MGft, ↓MGff, ↓NGtt, ↓NGtf, ↓NGft, ↓NGff, ↓PGtt, ↓PGtf, ↓PGft, ↓PGff, ↓BGtt, ↓BGtf, ↓BGft, ↓BGff, ↓CGtt, ↓CGtf, ↓CGft, ↓CGff, ↓IGtt, ↓IGtf, ↓IGft, ↓IGff, ↓PKt, ↓PKf, ↓CDt, ↓CDf, ↓NOTt, ↓NOTf, ↓NK_ptr]
  refine caseC (fun _ => by first | exact ⟨rfl, hm03⟩ | exact ⟨trivial, hm03⟩) fun _ => ?_
  refine ldB (cs := p.cells.toArray) Tryd.underlying25 rfl iPr hb3 ?_
  refine CK_st Tryd.func13 rfl rfl (New_ok (hg.mod hm03) (h.mod hm03) hf) ?_
  rintro _ w4 ⟨x, rfl, hT⟩
  rw [extract_ok (v := x) rfl, extract_ok (v := (checkP p).v) rfl]
  have hm4 := hT.m
  refine lcl_k (cs := (checkP p).cells.toArray) zWrg _ iWrg rfl (wr_one _) fun w5 hb5 hm5 hz5 => ?_
  have hm35 := hm4.trans hm5
  have hm05 := hm03.trans hm35
  have e0 : FO Tryd.prog w5 30 0 0 ⟨w4.heap.size, 0, none⟩ 28 (.int .i64 (checkP p).err) := FO.blk hb5 (by kernel_rfl) Tryd.underlying28 rfl rfl
  simp only [↓e0.e]
  by_cases hp : (checkP p).err = 0
  · obtain ⟨hmay, hdw, t, rfl, hTb⟩ := hT.ok hp
    obtain ⟨_, hmd, _⟩ : True ∧ (∀ d ∈ p.decls, d.may = true) ∧ True := ⟨trivial, by unfold Pr.may at hmay; simp only [Bool.and_eq_true, List.all_eq_true] at hmay; exact hmay.1.2, trivial⟩
    have hl := declsW_lim hdw hmd (by decide) (by decide) p.decls.length
    rw [List.take_of_length_le (Nat.le_refl _), List.nil_append] at hl
    simp only [↓VG_u, ↓UG_u, ↓MG_u, ↓NG_u, ↓PG_u, ↓BG_u, ↓CG_u, ↓IG_u, ↓VGtt, ↓VGtf, ↓VGft, ↓VGff, ↓UGtt, ↓UGtf, ↓UGft, ↓UGff, ↓MGtt, ↓MGtf, ↓MGft, ↓MGff, ↓NGtt, ↓NGtf, ↓NGft, ↓NGff, ↓PGtt, ↓PGtf, ↓PGft, ↓PGff, ↓BGtt, ↓BGtf, ↓BGft, ↓BGff, ↓CGtt, ↓CGtf, ↓CGft, ↓CGff, ↓IGtt, ↓IGtf, ↓IGft, ↓IGff, ↓PKt, ↓PKf, ↓CDt, ↓CDf, ↓NOTt, ↓NOTf, ↓NK_ptr, ↓NEf hp]
    rw [BK_eqlP uTp, Option.isNone_some]
    try simp only [↓VG_u, ↓UG_u, ↓MG_u, ↓NG_u, ↓PG_u, ↓BG_u, ↓CG_u, ↓IG_u, ↓VGtt, ↓VGtf, ↓VGft, ↓VGff, ↓UGtt, ↓UGtf, ↓UGft, ↓UGff, ↓MGtt, ↓MGtf, ↓MGft, ↓MGff, ↓NGtt, ↓NGtf, ↓NGft, ↓NGff, ↓PGtt, ↓PGtf, ↓PGft, ↓PGff, ↓BGtt, ↓BGtf, ↓BGft, ↓BGff, ↓CGtt, ↓CGtf, ↓CGft, ↓CGff, ↓IGtt, ↓IGtf, ↓IGft, ↓IGff, ↓PKt, ↓PKf, ↓CDt, ↓CDf, ↓NOTt, ↓NOTf, ↓NK_ptr]
    refine CK_st Tryd.func22 rfl rfl (VarsT_ok (hTb.mod hm5)) ?_
    rintro _ w6 ⟨rfl, hm6⟩
    simp only [↓VG_u, ↓UG_u, ↓MG_u, ↓NG_u, ↓PG_u, ↓BG_u, ↓CG_u, ↓IG_u, ↓VGtt, ↓VGtf, ↓VGft, ↓VGff, ↓UGtt, ↓UGtf, ↓UGft, ↓UGff, ↓MGtt, ↓MGtf, ↓MGft, ↓MGff, ↓NGtt, ↓NGtf, ↓NGft, ↓NGff, ↓PGtt, ↓PGtf, ↓PGft, ↓PGff, ↓BGtt, ↓BGtf, ↓BGft, ↓BGff, ↓CGtt, ↓CGtf, ↓CGft, ↓CGff, ↓IGtt, ↓IGtf, ↓IGft, ↓IGff, ↓PKt, ↓PKf, ↓CDt, ↓CDf, ↓NOTt, ↓NOTf, ↓NK_ptr, ↓LTf (show (0 : Int) ≤ ((vars p.decls : Nat) : Int) by omega)]
    refine CK_st Tryd.func22 rfl rfl (VarsT_ok ((hTb.mod hm5).mod hm6)) ?_
    rintro _ w7 ⟨rfl, hm7⟩
    simp only [↓VG_u, ↓UG_u, ↓MG_u, ↓NG_u, ↓PG_u, ↓BG_u, ↓CG_u, ↓IG_u, ↓VGtt, ↓VGtf, ↓VGft, ↓VGff, ↓UGtt, ↓UGtf, ↓UGft, ↓UGff, ↓MGtt, ↓MGtf, ↓MGft, ↓MGff, ↓NGtt, ↓NGtf, ↓NGft, ↓NGff, ↓PGtt, ↓PGtf, ↓PGft, ↓PGff, ↓BGtt, ↓BGtf, ↓BGft, ↓BGff, ↓CGtt, ↓CGtf, ↓CGft, ↓CGff, ↓IGtt, ↓IGtf, ↓IGft, ↓IGff, ↓PKt, ↓PKf, ↓CDt, ↓CDf, ↓NOTt, ↓NOTf, ↓NK_ptr, ↓GTf (show ((vars p.decls : Nat) : Int) ≤ 64 by omega)]
    have hm57 := hm6.trans hm7
    first
    | rw [XA.dispatcherlaw04_ScopeApart_R0_eq]
      unfold XA.dispatcherlaw04_ScopeApart_R0_F
      refine condF ?_
      rw [sq_n]
    | skip
    refine apart1 (other := other) h (hm05.trans hm57) hlen hmd hdw ((hm35.trans hm57).blk hb3 id) ((hTb.mod hm5).mod hm57) ?_ ?_ ?_
    all_goals rfl
  · have hx := hT.bad hp
    subst hx
    simp only [↓VG_u, ↓UG_u, ↓MG_u, ↓NG_u, ↓PG_u, ↓BG_u, ↓CG_u, ↓IG_u, ↓VGtt, ↓VGtf, ↓VGft, ↓VGff, ↓UGtt, ↓UGtf, ↓UGft, ↓UGff, ↓MGtt, ↓MGtf, ↓MGft, ↓MGff, ↓NGtt, ↓NGtf, ↓NGft, ↓NGff, ↓PGtt, ↓PGtf, ↓PGft, ↓PGff, ↓BGtt, ↓BGtf, ↓BGft, ↓BGff, ↓CGtt, ↓CGtf, ↓CGft, ↓CGff, ↓IGtt, ↓IGtf, ↓IGft, ↓IGff, ↓PKt, ↓PKf, ↓CDt, ↓CDf, ↓NOTt, ↓NOTf, ↓NK_ptr, ↓NEt hp]
    rw [BK_eqlP uTp, Option.isNone_none]
    first | exact ⟨rfl, hm05⟩ | exact ⟨trivial, hm05⟩
end Go.Proofs.YtbnbcimjapiicaaDoor.Tr
set_option linter.unusedVariables false
set_option maxRecDepth 10000
namespace Go.Proofs.YtbnbcimjapiicaaDoor.Tr
open Go Go.X Go.RowKit
def argsN : List Int := [5, 5, 5, 5, 5, 3, 3, 1, -1, -1, 1, -1, 3, 3, 1, 3, 3, 2, 3, 1, 3, 1]
theorem gl_of {W : World} (h : laidMetH Tryd.prog [("dispatcher/scan.words", Rows.laid_dispatcher_scan_words), ("dispatcher/tree.args", Rows.laid_dispatcher_tree_args), ("dispatcher/tree.plain", Rows.laid_dispatcher_tree_plain)] W) : Gl W := by
  rw [MakeChecks.laidMetH_plain _ _ _ (by kernel_rfl)] at h
  obtain ⟨ps, ⟨g, t, cs, fuel, p, q, hg, ht, hv, hd, ⟨g2, t2, cs2, fuel2, p2, q2, hg2, ht2, hv2, hd2, ⟨g3, t3, cs3, fuel3, p3, q3, hg3, ht3, hv3, hd3, _, _⟩, _⟩, _⟩, _⟩ := h
  obtain rfl := Option.some.inj ((show Tryd.prog.globalNamed "dispatcher/scan.words" = some 0 by kernel_rfl).symm.trans hg)
  obtain rfl := Option.some.inj ((show (Tryd.prog.globals[0]?).map (·.type) = some 120 by kernel_rfl).symm.trans ht)
  obtain rfl := Option.some.inj ((show Tryd.prog.globalNamed "dispatcher/tree.args" = some 1 by kernel_rfl).symm.trans hg2)
  obtain rfl := Option.some.inj ((show (Tryd.prog.globals[1]?).map (·.type) = some 133 by kernel_rfl).symm.trans ht2)
  obtain rfl := Option.some.inj ((show Tryd.prog.globalNamed "dispatcher/tree.plain" = some 2 by kernel_rfl).symm.trans hg3)
  obtain rfl := Option.some.inj ((show (Tryd.prog.globals[2]?).map (·.type) = some 135 by kernel_rfl).symm.trans ht3)
  refine ⟨?_, ?_, ?_⟩
  · exact laid_arr (xs := wordsL) (val := txt) (dat := fun b => .lit (.string b)) (n := 43) hg hv (show Tryd.prog.underlying 120 = some (.array 43 9) by kernel_rfl) (by kernel_rfl) (by decide) hd (fun m l x b h hx => laid_str uS m l x b h hx)
  · exact laid_arr (xs := argsN) (val := fun n => .int .i64 n) (dat := fun n => .lit (.int .i64 n)) (n := 22) hg2 hv2 (show Tryd.prog.underlying 133 = some (.array 22 3) by kernel_rfl) (by kernel_rfl) (by decide) hd2 (fun m l x b h hx => laid_int uI m l x b h hx)
  · exact laid_arr (xs := plainL) (val := txt) (dat := fun b => .lit (.string b)) (n := 10) hg3 hv3 (show Tryd.prog.underlying 135 = some (.array 10 9) by kernel_rfl) (by kernel_rfl) (by decide) hd3 (fun m l x b h hx => laid_str uS m l x b h hx)
end Go.Proofs.YtbnbcimjapiicaaDoor.Tr
set_option linter.unusedVariables false
set_option maxRecDepth 4000
namespace Go.Proofs.YtbnbcimjapiicaaDoor.Tr
open Go Go.X Go.RowKit
def shDe : ShM De := ⟨⟨4, fun w e cs => cs = e.cells ∧ e.fine⟩, fun _ => 1⟩
def shPr : ShM Pr := ⟨⟨2, fun w e cs => cs = e.cells ∧ e.Ok w⟩, fun p => p.decls.length + St.szL p.body⟩
theorem opensDe (n : Nat) : OpensM U Tryd.prog n shDe 40 :=
  opensM_as (opensM_struct Tryd.underlying40 (by kernel_rfl) (fun m hm => fieldsM_cons rfl (by kernel_rfl) (opensM_string uS) (fieldsM_cons rfl (by kernel_rfl) (opensM_int uI) (fieldsM_cons rfl (by kernel_rfl) (opensM_int uI) (fieldsM_one rfl (by kernel_rfl) (opensM_int uI))))))
    (fun x => (⟨x.1, x.2.1, x.2.2.1, x.2.2.2⟩ : De))
    (fun w v cs h => by
      obtain ⟨c0, d0, rfl, _, ⟨rfl, h0⟩, c1, d1, rfl, _, ⟨rfl, h1⟩, c2, d2, rfl, _, ⟨rfl, h2⟩, rfl, h3⟩ := h
      exact ⟨rfl, h0, h1, h2, h3⟩)
    (fun v => by
      show 1 ≤ _
      exact Nat.le_add_left 1 _)
theorem des_of {w : World} {x : Value × List De} {cs : List Value} (h : (Sh.slice shDe.toSh).K w x cs) : DesOk w x.1 x.2 :=
  ⟨reads_sh h De.cells De.cells_len (fun a d hk => hk.1), fun a ha => by obtain ⟨d, hd⟩ := mem_sh h a ha; exact hd.2⟩
theorem ones_sum (l : List De) : (l.map fun _ => 1).sum = l.length := by
  induction l with
  | nil => rfl
  | cons a r ih => simp only [List.map_cons, List.sum_cons, List.length_cons, ih]; omega
theorem opensPr (n : Nat) : OpensM U Tryd.prog n shPr 25 :=
  opensM_as (opensM_struct Tryd.underlying25 (by kernel_rfl) (fun m hm => fieldsM_cons rfl (by kernel_rfl) (opensM_slice uDes cDe (fun k hk => opensDe k)) (fieldsM_one rfl (by kernel_rfl) (opensM_slice uSts cSt (fun k hk => opensSt k)))))
    (fun x => (⟨x.1.1, x.1.2, x.2.1, x.2.2⟩ : Pr))
    (fun w v cs h => by
      obtain ⟨c0, d0, rfl, _, h0, h1⟩ := h
      have h0' := des_of h0
      have h1' := sts_of h1
      obtain ⟨rfl, _⟩ := h0
      obtain ⟨rfl, _⟩ := h1
      exact ⟨rfl, h0', h1'⟩)
    (fun v => by
      show v.1.2.length + St.szL v.2.2 ≤ (((v.1.2.map fun _ => 1).sum + 1) + ((v.2.2.map St.sz).sum + 1)) + 1
      rw [St.szL_eq, ones_sum]
      omega)
end Go.Proofs.YtbnbcimjapiicaaDoor.Tr
