/- Several texts of this repo, one behind the other, without what is not used here. -/
import Derived.Test.YtandbmnhghmcgaaDoorRows
import Derived.Lib.LaidTab
import Derived.Test.YtandbmnhghmcgaaDoorCA4
set_option linter.unusedVariables false
set_option linter.unusedSimpArgs false
set_option maxRecDepth 8000
namespace Go.Proofs.YtandbmnhghmcgaaDoor.Col
open Go Go.X Go.RowKit Go.Proofs.YtandbmnhghmcgaaDoor.XF Go.Proofs.YtandbmnhghmcgaaDoor.XG Go.Proofs.YtandbmnhghmcgaaDoor.XI Go.Proofs.YtandbmnhghmcgaaDoor.XK
def TdR (w : World) (v : Value) (t : Td) : Prop := ∃ row rks, v = .agg (tdCells t row rks) ∧ RR w row t.row ∧ RR w rks t.ranks
section
variable {w : World} {p : Nat} {loose : Bool} {L : List Br} {V : CV}
theorem TdAt.R {B : Nat} {v : Value} {t : Td} (h : TdAt w B v t) : TdR w v t := by
  obtain ⟨row, rks, rfl, h1, h2⟩ := h
  exact ⟨row, rks, rfl, reads_of_owns h1, reads_of_owns h2⟩
theorem TdR.calm {w' : World} {v : Value} {t : Td} (h : TdR w v t) (hm : Mod none_ w w') : TdR w' v t := by
  obtain ⟨row, rks, rfl, h1, h2⟩ := h
  exact ⟨row, rks, rfl, h1.calm hm, h2.calm hm⟩
theorem CAt.notT (h : CAt w p loose L V) {t : TypeId} (h1 : t ≠ tC) (h2 : t ≠ tRo) (h3 : t ≠ tPts) (h4 : t ≠ tPt) {b : Nat} (hb : CF p V b) : ¬ isT t w b := by
  intro q
  rcases hb with rfl | rfl | ⟨e, he, hb⟩
  · exact isT_ne q ⟨_, _, h.blk⟩ h1
  · obtain ⟨cs, fr, q⟩ := q
    have := h.map
    unfold IsMap at this
    rw [this] at q
    injection q with q
    cases q
  · rcases (h.ro e he).blks hb with z | z | z
    · exact isT_ne q z h2
    · exact isT_ne q z h3
    · exact isT_ne q z h4
theorem fT0 {b : Nat} {t : Td} {row rks : Value} (h : w.heap[b]? = some (.cells (tdCells t row rks) tTd (0, 0))) : FO Tryd.prog w tTd 0 0 ⟨b, 0, none⟩ tL (.int .i64 t.val) := FO.blk h (by kernel_rfl) vL rfl rfl
def NoC (w : World) (v : Value) : Prop := v = .pointer none ∨ ∃ q, v = .pointer (some ⟨q, 0, none⟩) ∧ w.heap[q]? = some (.cells #[.bool false, .map none] tC (0, 0))
theorem NoC.calm {w' : World} {v : Value} (h : NoC w v) (hm : Mod none_ w w') : NoC w' v := h.imp id fun ⟨q, e, hb⟩ => ⟨q, e, hm.blk hb id⟩
end
end Go.Proofs.YtandbmnhghmcgaaDoor.Col
set_option linter.unusedVariables false
set_option linter.unusedSimpArgs false
set_option maxRecDepth 8000
namespace Go.X
open Go Go.RowKit
structure Ac where
  key : Ky
  rv : Value
  ranks : List Int
  rank : Int
  p : Pt
  copy : Bool
def Ac.enc (a : Ac) : List Value := [strV a.key, a.rv, .int .i64 a.rank] ++ a.p.enc ++ [.bool a.copy]
theorem Ac.enc_len (a : Ac) : a.enc.length = 9 + 1 := rfl
theorem elIx {P : Program} {w : World} {t e : TypeId} {sz : Nat} (hu : P.underlying t = some (.slice e)) (hc : P.cellsOf e = sz + 1) {α : Type} {enc : α → List Value} (hl : ∀ a, (enc a).length = sz + 1) {l : List α} {v : Value} (h : reads w (sz + 1) v l.length (l.flatMap enc)) {i : Nat} {a : α} (hi : l[i]? = some a) :
    ∃ g : Addr, (∀ w', (Instr.indexAt t v (.int .i64 (i : Int))).run P w' = .ok (.pointer (some g)) w') ∧ ∀ w', Mod none_ w w' → ∀ j c, (enc a)[j]? = some c → w'.cell? (g.add j) = some c := by
  have hil := (List.getElem?_eq_some_iff.1 hi).1
  obtain ⟨_, A, c, es, hnc, hr⟩ := id h
  have h0 : (0 : Nat) < sz + 1 := by omega
  obtain ⟨c0, hc0⟩ : ∃ c0, (enc a)[0]? = some c0 := ⟨_, List.getElem?_eq_getElem (by rw [hl]; exact h0)⟩
  obtain ⟨a0, ha, _⟩ := hr (i * (sz + 1) + 0) c0 (by rw [fl_get hl hi h0]; exact hc0)
  subst es ha
  refine ⟨a0.add (i * (sz + 1)), fun w' => ?_, fun w' hw j x hj => ?_⟩
  · rw [run_ixa hu hc (by omega) (by omega) w']
    rfl
  · have hjl : j < sz + 1 := by have := (List.getElem?_eq_some_iff.1 hj).1; rw [hl] at this; exact this
    obtain ⟨_, A, c, es, _, hc'⟩ := reads_mod h hw (fun _ _ _ => id)
    cases es
    obtain ⟨b, hb, hcell⟩ := hc' (i * (sz + 1) + j) x (by rw [fl_get hl hi hjl]; exact hj)
    cases hb
    rw [add_add]
    exact hcell
structure Acts (w : World) (v : Value) (l : List Ac) : Prop where
  row : reads w (9 + 1) v l.length (l.flatMap Ac.enc)
  rk : ∀ a ∈ l, RR w a.rv a.ranks
theorem Acts.calm {w w' : World} {v : Value} {l : List Ac} (h : Acts w v l) (hm : Mod none_ w w') : Acts w' v l := ⟨reads_mod h.row hm (fun _ _ _ => id), fun a ha => (h.rk a ha).calm hm⟩
end Go.X
namespace Go.Proofs.YtandbmnhghmcgaaDoor.Col
open Go Go.X Go.RowKit Go.Proofs.YtandbmnhghmcgaaDoor.XF Go.Proofs.YtandbmnhghmcgaaDoor.XG Go.Proofs.YtandbmnhghmcgaaDoor.XI Go.Proofs.YtandbmnhghmcgaaDoor.XK
section
variable {w : World} {g : Addr} {a : Ac}
end
end Go.Proofs.YtandbmnhghmcgaaDoor.Col
set_option linter.unusedVariables false
set_option linter.unusedSimpArgs false
set_option maxRecDepth 8000
namespace Go.X
open Go Go.RowKit
def awB (i v : Int) : Br := ⟨[], worldL 3, i, ⟨17, 1, 0, v, 0, 0⟩⟩
def awL1 : List Br := [awB 0 5]
def awL2 : List Br := [awB 0 5, awB 1 7]
def awL3 : List Br := [awB 0 5, awB 1 7, awB 2 9]
def awX : Br := ⟨[], worldL 3, 2, ⟨15, 0, 0, 0, 0, 0⟩⟩
def awLD : List Br := [awB 0 5, awB 1 7, awX]
theorem aw1 : bringC [] (awB 0 5) = (awL1, 0, 0) := by kernel_rfl
theorem aw2 : bringC awL1 (awB 1 7) = (awL2, 0, 0) := by kernel_rfl
theorem aw3 : bringC awL2 (awB 2 9) = (awL3, 0, 0) := by kernel_rfl
theorem aw4 : bringC awL2 awX = (awLD, 0, 0) := by kernel_rfl
theorem awE (loose : Bool) : overC loose awL1 [] 0 0 = loose := by cases loose <;> kernel_rfl
theorem awT1 (loose : Bool) : toldC loose awL3 [] 1 0 = ({ zTd with val := 21 }, true) := by cases loose <;> kernel_rfl
theorem awT2 (loose : Bool) : toldC loose awL3 [] 2 0 = (zTd, true) := by cases loose <;> kernel_rfl
theorem awO1 (loose : Bool) : overC loose awL2 [] 1 0 = false := by cases loose <;> kernel_rfl
theorem awO2 (loose : Bool) : overC loose awLD [] 1 0 = false := by cases loose <;> kernel_rfl
theorem awO3 (loose : Bool) : overC loose awLD [] 2 0 = false := by cases loose <;> kernel_rfl
theorem awO4 (loose : Bool) : overC loose awLD [] 0 0 = loose := by cases loose <;> kernel_rfl
theorem awOd : oddC awLD = [[46, 48]] := by
  have h : keysC awLD = [[]] := by
    unfold keysC
    rw [show keysOf awLD = [[]] from by kernel_rfl]
    simp
  have e : ∀ ks, keysC awLD = ks → oddC awLD = ks.flatMap fun key => ((List.range awLD.length).filter fun k : Nat => oddK awLD key k).map fun k : Nat => childK key k := fun ks q => by unfold oddC; rw [q]
  exact (e _ h).trans (by kernel_rfl)
end Go.X
namespace Go.Proofs.YtandbmnhghmcgaaDoor.Col
open Go Go.X Go.RowKit Go.Proofs.YtandbmnhghmcgaaDoor.XF Go.Proofs.YtandbmnhghmcgaaDoor.XG Go.Proofs.YtandbmnhghmcgaaDoor.XI Go.Proofs.YtandbmnhghmcgaaDoor.XK
structure Cs (w0 w : World) (p : Nat) (loose : Bool) (L : List Br) (V : CV) : Prop where
  at_ : CAt w p loose L V
  new : ∀ b, CF p V b → w0.heap.size ≤ b
  mod : Mod none_ w0 w
section
variable {w0 w w' : World} {p : Nat} {loose : Bool} {L : List Br} {V V' : CV}
theorem Cs.calm (h : Cs w0 w p loose L V) (hm : Mod none_ w w') : Cs w0 w' p loose L V := ⟨h.at_.calm hm, h.new, h.mod.trans hm⟩
theorem Cs.put {L' : List Br} (h : Cs w0 w p loose L V) (hc : CAt w' p loose L' V') (hf : CFr p w V w' V') : Cs w0 w' p loose L' V' :=
  ⟨hc, fun b hb => (hf.f b hb).elim (h.new b) fun z => Nat.le_trans h.mod.size z, h.mod.then hf.mod fun i hi z => by have := h.new i z; omega⟩
theorem keepB (h : CAt w p loose L V) (hf : CFr p w V w' V') {t : TypeId} (h1 : t ≠ tC) (h2 : t ≠ tRo) (h3 : t ≠ tPts) (h4 : t ≠ tPt) {b : Nat} {cs : Array Value} (hb : w.heap[b]? = some (.cells cs t (0, 0))) : w'.heap[b]? = some (.cells cs t (0, 0)) :=
  hf.mod.blk hb fun z => h.notT h1 h2 h3 h4 z ⟨_, _, hb⟩
theorem keepR (h : CAt w p loose L V) (hf : CFr p w V w' V') {B n : Nat} {rv : Value} {xs : List Value} (ho : w.ownsRow B tI 1 rv n xs) : w'.ownsRow B tI 1 rv n xs :=
  owns_mod ho hf.mod fun b hb z => h.typ z (isT_own ho hb)
theorem awake_R2 {K : Exit → Sl → World → Prop} {ρ : Sl} {b3 : Nat} {rv : Value} (h : CAt w p loose [] V) (hb3 : w.heap[b3]? = some (.cells #[strV [], rv] tG (0, 0))) (ho : w.ownsRow 0 tI 1 rv 3 (ints (worldL 3)))
    (q2 : ρ 2 = .pointer (some ⟨p, 0, none⟩)) (q3 : ρ 3 = .pointer (some ⟨b3, 0, none⟩))
    (hK : ∀ (ρ' : Sl) (w' : World) V', (∀ i, i < 11 → ρ' i = ρ i) → CAt w' p loose awL1 V' → CFr p w V w' V' → w'.heap[b3]? = some (.cells #[strV [], rv] tG (0, 0)) → w'.ownsRow 0 tI 1 rv 3 (ints (worldL 3)) → K .normal ρ' w') : W fn_ Tryd.prog 107 dispatcherlaw15_awake_R2 K ρ w := by
  have hd : Mod none_ w { w with drawn := w.drawn + 1 } := (Mod.refl _ w).drawn _
  refine dispatcherlaw15_awake_R2_held (D := []) (fun w' => w'.heap[b3]? = some (.cells #[strV [], rv] tG (0, 0))) (hd.blk hb3 id) ?_
  generalize ({ w with drawn := w.drawn + 1 } : World) = wd at *
  unfold dispatcherlaw15_awake_R2_H
  rw [q2, q3]
  refine HV_of (v := grpV [] rv) (fun w' hw => run_ldB (cs := #[strV [], rv]) Tryd.underlying32 rfl iG hw) ?_
  refine CK_st Tryd.func56 rfl rfl (reduce_ok 5) ?_
  rintro _ w2 ⟨rfl, hm2⟩
  have hm02 := hd.trans hm2
  have ho2 := owns_mod ho hm02 fun _ _ => id
  have hb2 := hm02.blk hb3 id
  refine ⟨hb2, ?_⟩
  refine CK_st Tryd.func12 rfl rfl (Bring_ok (b := awB 0 5) (h.calm hm02) (by simp) (reads_of_owns ho2) (by decide)) ?_
  rintro _ w3 ⟨rfl, V', hc, hf⟩
  rw [aw1] at hc ⊢
  have hf' : CFr p w V w3 V' := (CFr.calm hm02).trans hf
  have hb := keepB h hf' (by decide) (by decide) (by decide) (by decide) hb3
  refine ⟨hb, hK _ w3 V' (fun i hi => ?_) hc hf' hb (keepR h hf' ho)⟩
  repeat rw [up_at, if_neg (by omega)]
theorem awake_R5 {K : Exit → Sl → World → Prop} {ρ : Sl} {b3 : Nat} {rv : Value} (h : CAt w p loose awL1 V) (hb3 : w.heap[b3]? = some (.cells #[strV [], rv] tG (0, 0))) (ho : w.ownsRow 0 tI 1 rv 3 (ints (worldL 3)))
    (q2 : ρ 2 = .pointer (some ⟨p, 0, none⟩)) (q3 : ρ 3 = .pointer (some ⟨b3, 0, none⟩))
    (hK : ∀ (ρ' : Sl) (w' : World) V', (∀ i, i < 11 → ρ' i = ρ i) → CAt w' p loose awL2 V' → CFr p w V w' V' → w'.heap[b3]? = some (.cells #[strV [], rv] tG (0, 0)) → w'.ownsRow 0 tI 1 rv 3 (ints (worldL 3)) → K .normal ρ' w') : W fn_ Tryd.prog 107 dispatcherlaw15_awake_R5 K ρ w := by
  have hd : Mod none_ w { w with drawn := w.drawn + 1 } := (Mod.refl _ w).drawn _
  refine dispatcherlaw15_awake_R5_held (D := []) (fun w' => w'.heap[b3]? = some (.cells #[strV [], rv] tG (0, 0))) (hd.blk hb3 id) ?_
  generalize ({ w with drawn := w.drawn + 1 } : World) = wd at *
  unfold dispatcherlaw15_awake_R5_H
  rw [q2, q3]
  refine HV_of (v := grpV [] rv) (fun w' hw => run_ldB (cs := #[strV [], rv]) Tryd.underlying32 rfl iG hw) ?_
  refine CK_st Tryd.func56 rfl rfl (reduce_ok 7) ?_
  rintro _ w2 ⟨rfl, hm2⟩
  have hm02 := hd.trans hm2
  have ho2 := owns_mod ho hm02 fun _ _ => id
  have hb2 := hm02.blk hb3 id
  refine ⟨hb2, ?_⟩
  refine CK_st Tryd.func12 rfl rfl (Bring_ok (b := awB 1 7) (h.calm hm02) (by decide) (reads_of_owns ho2) (by decide)) ?_
  rintro _ w3 ⟨rfl, V', hc, hf⟩
  rw [aw2] at hc ⊢
  have hf' : CFr p w V w3 V' := (CFr.calm hm02).trans hf
  have hb := keepB h hf' (by decide) (by decide) (by decide) (by decide) hb3
  refine ⟨hb, hK _ w3 V' (fun i hi => ?_) hc hf' hb (keepR h hf' ho)⟩
  repeat rw [up_at, if_neg (by omega)]
theorem awake_R7 {K : Exit → Sl → World → Prop} {ρ : Sl} {b3 : Nat} {rv : Value} (h : CAt w p loose awL2 V) (hb3 : w.heap[b3]? = some (.cells #[strV [], rv] tG (0, 0))) (ho : w.ownsRow 0 tI 1 rv 3 (ints (worldL 3)))
    (q2 : ρ 2 = .pointer (some ⟨p, 0, none⟩)) (q3 : ρ 3 = .pointer (some ⟨b3, 0, none⟩))
    (hK : ∀ (ρ' : Sl) (w' : World) V', (∀ i, i < 11 → ρ' i = ρ i) → CAt w' p loose awL3 V' → CFr p w V w' V' → w'.heap[b3]? = some (.cells #[strV [], rv] tG (0, 0)) → w'.ownsRow 0 tI 1 rv 3 (ints (worldL 3)) → K .normal ρ' w') : W fn_ Tryd.prog 107 dispatcherlaw15_awake_R7 K ρ w := by
  have hd : Mod none_ w { w with drawn := w.drawn + 1 } := (Mod.refl _ w).drawn _
  refine dispatcherlaw15_awake_R7_held (D := []) (fun w' => w'.heap[b3]? = some (.cells #[strV [], rv] tG (0, 0))) (hd.blk hb3 id) ?_
  generalize ({ w with drawn := w.drawn + 1 } : World) = wd at *
  unfold dispatcherlaw15_awake_R7_H
  rw [q2, q3]
  refine HV_of (v := grpV [] rv) (fun w' hw => run_ldB (cs := #[strV [], rv]) Tryd.underlying32 rfl iG hw) ?_
  refine CK_st Tryd.func56 rfl rfl (reduce_ok 9) ?_
  rintro _ w2 ⟨rfl, hm2⟩
  have hm02 := hd.trans hm2
  have ho2 := owns_mod ho hm02 fun _ _ => id
  have hb2 := hm02.blk hb3 id
  refine ⟨hb2, ?_⟩
  refine CK_st Tryd.func12 rfl rfl (Bring_ok (b := awB 2 9) (h.calm hm02) (by decide) (reads_of_owns ho2) (by decide)) ?_
  rintro _ w3 ⟨rfl, V', hc, hf⟩
  rw [aw3] at hc ⊢
  have hf' : CFr p w V w3 V' := (CFr.calm hm02).trans hf
  have hb := keepB h hf' (by decide) (by decide) (by decide) (by decide) hb3
  refine ⟨hb, hK _ w3 V' (fun i hi => ?_) hc hf' hb (keepR h hf' ho)⟩
  repeat rw [up_at, if_neg (by omega)]
end
end Go.Proofs.YtandbmnhghmcgaaDoor.Col
set_option linter.unusedVariables false
set_option linter.unusedSimpArgs false
set_option maxRecDepth 8000
namespace Go.Proofs.YtandbmnhghmcgaaDoor.Col
open Go Go.X Go.RowKit Go.Proofs.YtandbmnhghmcgaaDoor.XF Go.Proofs.YtandbmnhghmcgaaDoor.XG Go.Proofs.YtandbmnhghmcgaaDoor.XI Go.Proofs.YtandbmnhghmcgaaDoor.XK
theorem bPtB : Tryd.prog.built tPt [(0, .int .u8 15)] = some (Pt.enc ⟨15, 0, 0, 0, 0, 0⟩).toArray := by kernel_rfl
section
variable {w0 w : World} {p d : Nat} {loose : Bool} {V VD : CV}
theorem awake_R10 {K : Exit → Sl → World → Prop} {ρ : Sl} {b3 : Nat} {rv : Value} {n : Int} (hn : (n == 1) = loose) (hgl : Gl w0) (h : Cs w0 w d loose awL2 VD) (hb3 : w.heap[b3]? = some (.cells #[strV [], rv] tG (0, 0))) (ho : w.ownsRow 0 tI 1 rv 3 (ints (worldL 3)))
    (q1 : ρ 1 = .int .i64 n) (q5 : ρ 5 = .pointer (some ⟨d, 0, none⟩)) (q3 : ρ 3 = .pointer (some ⟨b3, 0, none⟩))
    (hK : ∀ (ρ' : Sl) (w' : World), ρ' 1 = ρ 1 → Mod none_ w0 w' → K .normal ρ' w') : sx fn_ Tryd.prog 107 dispatcherlaw15_awake_R10 K ρ w := by
  rw [dispatcherlaw15_awake_R10_eq]; unfold dispatcherlaw15_awake_R10_F
  rw [q3, q5, q1]
  refine ldS (cs := #[strV [], rv]) rfl Tryd.underlying32 rfl iG hb3 ?_
  rw [build_ok bPtB]
  refine CK_st Tryd.func12 rfl rfl (Bring_ok (b := awX) h.at_ (by decide) (reads_of_owns ho) (by decide)) ?_
  rintro _ w1 ⟨rfl, V1, hc, hf⟩
  rw [aw4] at hc ⊢
  have h1 := h.put hc hf
  refine CK_st Tryd.func24 rfl rfl (Odd_ok h1.at_ (hgl.calm h1.mod) (by decide) (fun b hb => by simp [awLD, awB, awX] at hb; rcases hb with rfl | rfl | rfl <;> simp)) ?_
  rintro x w2 ⟨hx, hm2⟩
  rw [awOd] at hx
  have h2 := h1.calm hm2
  have hrx := reads_of_owns hx
  obtain ⟨A, c, es, _⟩ := reads_cap hrx
  rw [es, len_sl vSs, ← es]
  simp only [↓VG_u, ↓UG_u, ↓MG_u, ↓NG_u, ↓PG_u, ↓BG_u, ↓CG_u, ↓IG_u, ↓VGtt, ↓VGtf, ↓VGft, ↓VGff, ↓UGtt, ↓UGtf, ↓UGft, ↓UGff, ↓MGtt, ↓MGtf, ↓MGft, ↓MGff, ↓NGtt, ↓NGtf, ↓NGft, ↓NGff, ↓PGtt, ↓PGtf, ↓PGft, ↓PGff, ↓BGtt, ↓BGtf, ↓BGft, ↓BGff, ↓CGtt, ↓CGtf, ↓CGft, ↓CGff, ↓IGtt, ↓IGtf, ↓IGft, ↓IGff, ↓PKt, ↓PKf, ↓CDt, ↓CDf, ↓NOTt, ↓NOTf, ↓NK_ptr, ↓NEf (show (([[46, 48]] : List Ky).length : Int) = 1 from rfl)]
  refine ixld vSs cS vS rfl hrx (by decide) (i := 0) (u := strV [46, 48]) rfl fun y => ?_
  rw [show (Value.string { data := #[46, 48] } : Value) = strV [46, 48] from rfl]
  unfold strV
  simp only [↓VG_u, ↓UG_u, ↓MG_u, ↓NG_u, ↓PG_u, ↓BG_u, ↓CG_u, ↓IG_u, ↓VGtt, ↓VGtf, ↓VGft, ↓VGff, ↓UGtt, ↓UGtf, ↓UGft, ↓UGff, ↓MGtt, ↓MGtf, ↓MGft, ↓MGff, ↓NGtt, ↓NGtf, ↓NGft, ↓NGff, ↓PGtt, ↓PGtf, ↓PGft, ↓PGff, ↓BGtt, ↓BGtf, ↓BGft, ↓BGff, ↓CGtt, ↓CGtf, ↓CGft, ↓CGff, ↓IGtt, ↓IGtf, ↓IGft, ↓IGff, ↓PKt, ↓PKf, ↓CDt, ↓CDf, ↓NOTt, ↓NOTf, ↓NK_ptr, ↓SNEf (show (⟨([46, 48] : Ky).toArray⟩ : ByteArray) = ⟨([46, 48] : Ky).toArray⟩ from rfl)]
  refine CK_st Tryd.func31 rfl rfl (Over_ok h2.at_ h2.at_.hG [] 1 0) ?_
  rintro _ w3 ⟨rfl, hm3⟩
  have h3 := h2.calm hm3
  rw [awO2]
  try simp only [↓VG_u, ↓UG_u, ↓MG_u, ↓NG_u, ↓PG_u, ↓BG_u, ↓CG_u, ↓IG_u, ↓VGtt, ↓VGtf, ↓VGft, ↓VGff, ↓UGtt, ↓UGtf, ↓UGft, ↓UGff, ↓MGtt, ↓MGtf, ↓MGft, ↓MGff, ↓NGtt, ↓NGtf, ↓NGft, ↓NGff, ↓PGtt, ↓PGtf, ↓PGft, ↓PGff, ↓BGtt, ↓BGtf, ↓BGft, ↓BGff, ↓CGtt, ↓CGtf, ↓CGft, ↓CGff, ↓IGtt, ↓IGtf, ↓IGft, ↓IGff, ↓PKt, ↓PKf, ↓CDt, ↓CDf, ↓NOTt, ↓NOTf, ↓NK_ptr]
  refine CK_st Tryd.func31 rfl rfl (Over_ok h3.at_ h3.at_.hG [] 2 0) ?_
  rintro _ w4 ⟨rfl, hm4⟩
  have h4 := h3.calm hm4
  rw [awO3]
  try simp only [↓VG_u, ↓UG_u, ↓MG_u, ↓NG_u, ↓PG_u, ↓BG_u, ↓CG_u, ↓IG_u, ↓VGtt, ↓VGtf, ↓VGft, ↓VGff, ↓UGtt, ↓UGtf, ↓UGft, ↓UGff, ↓MGtt, ↓MGtf, ↓MGft, ↓MGff, ↓NGtt, ↓NGtf, ↓NGft, ↓NGff, ↓PGtt, ↓PGtf, ↓PGft, ↓PGff, ↓BGtt, ↓BGtf, ↓BGft, ↓BGff, ↓CGtt, ↓CGtf, ↓CGft, ↓CGff, ↓IGtt, ↓IGtf, ↓IGft, ↓IGff, ↓PKt, ↓PKf, ↓CDt, ↓CDf, ↓NOTt, ↓NOTf, ↓NK_ptr]
  refine CK_st Tryd.func31 rfl rfl (Over_ok h4.at_ h4.at_.hG [] 0 0) ?_
  rintro _ w5 ⟨rfl, hm5⟩
  have h5 := h4.calm hm5
  rw [awO4]
  try simp only [↓VG_u, ↓UG_u, ↓MG_u, ↓NG_u, ↓PG_u, ↓BG_u, ↓CG_u, ↓IG_u, ↓VGtt, ↓VGtf, ↓VGft, ↓VGff, ↓UGtt, ↓UGtf, ↓UGft, ↓UGff, ↓MGtt, ↓MGtf, ↓MGft, ↓MGff, ↓NGtt, ↓NGtf, ↓NGft, ↓NGff, ↓PGtt, ↓PGtf, ↓PGft, ↓PGff, ↓BGtt, ↓BGtf, ↓BGft, ↓BGff, ↓CGtt, ↓CGtf, ↓CGft, ↓CGff, ↓IGtt, ↓IGtf, ↓IGft, ↓IGff, ↓PKt, ↓PKf, ↓CDt, ↓CDf, ↓NOTt, ↓NOTf, ↓NK_ptr]
  rw [BK_eql, hn, BK_neqB vB, show (!(loose == loose)) = false by simp]
  rw [dispatcherlaw15_awake_R11_eq]; unfold dispatcherlaw15_awake_R11_F
  refine condF ?_
  refine hK _ _ ?_ h5.mod
  repeat rw [up_at, if_neg (by omega)]
theorem awake_R8 {K : Exit → Sl → World → Prop} {ρ : Sl} {b3 : Nat} {rv : Value} {n : Int} (hn : (n == 1) = loose) (hgl : Gl w0) (hc : Cs w0 w p loose awL3 V) (h : Cs w0 w d loose awL2 VD) (hb3 : w.heap[b3]? = some (.cells #[strV [], rv] tG (0, 0))) (ho : w.ownsRow 0 tI 1 rv 3 (ints (worldL 3)))
    (q1 : ρ 1 = .int .i64 n) (q2 : ρ 2 = .pointer (some ⟨p, 0, none⟩)) (q4 : ρ 4 = .bool loose) (q5 : ρ 5 = .pointer (some ⟨d, 0, none⟩)) (q3 : ρ 3 = .pointer (some ⟨b3, 0, none⟩))
    (hK : ∀ (ρ' : Sl) (w' : World), ρ' 1 = ρ 1 → Mod none_ w0 w' → K .normal ρ' w') : sx fn_ Tryd.prog 107 dispatcherlaw15_awake_R8 K ρ w := by
  rw [dispatcherlaw15_awake_R8_eq]; unfold dispatcherlaw15_awake_R8_F
  rw [q2, q1, q4, q5]
  have hC : ∀ b ∈ awL3, -9223372036854775808 ≤ b.p.color ∧ b.p.color ≤ 9223372036854775807 := fun b hb => by simp [awL3, awB] at hb; rcases hb with rfl | rfl | rfl <;> simp
  have hKy : ∀ b ∈ awL3, b.key.length ≤ 1000000 := fun b hb => by simp [awL3, awB] at hb; rcases hb with rfl | rfl | rfl <;> simp
  refine CK_st Tryd.func27 rfl rfl (Told_ok hc.at_ (hgl.calm hc.mod) (by decide) hKy hC [] 1 0) ?_
  rintro _ w1 ⟨u, rfl, hu, hm1⟩
  rw [awT1] at hu ⊢
  obtain ⟨row, rks, rfl, hr1, hr2⟩ := hu
  rw [extract_ok (v := .agg (tdCells { zTd with val := 21 } row rks)) rfl, extract_ok (v := .bool true) rfl]
  obtain ⟨A1, c1, es1, _⟩ := reads_cap (reads_of_owns hr1)
  obtain ⟨A2, c2, es2, _⟩ := reads_cap (reads_of_owns hr2)
  refine lcl_k (cs := tdCells { zTd with val := 21 } row rks) zTd_z _ iTd rfl (by rw [es1, es2]; exact td_one _ _ _ _ _ _ _) fun w2 hb2 hm2 hz2 => ?_
  have hc2 := (hc.calm hm1).calm hm2
  refine CK_st Tryd.func27 rfl rfl (Told_ok hc2.at_ (hgl.calm hc2.mod) (by decide) hKy hC [] 2 0) ?_
  rintro _ w3 ⟨u, rfl, hu, hm3⟩
  rw [awT2] at hu ⊢
  obtain ⟨row', rks', rfl, hr1', hr2'⟩ := hu
  rw [extract_ok (v := .agg (tdCells zTd row' rks')) rfl, extract_ok (v := .bool true) rfl]
  obtain ⟨A3, c3, es3, _⟩ := reads_cap (reads_of_owns hr1')
  obtain ⟨A4, c4, es4, _⟩ := reads_cap (reads_of_owns hr2')
  refine lcl_k (cs := tdCells zTd row' rks') zTd_z _ iTd rfl (by rw [es3, es4]; exact td_one _ _ _ _ _ _ _) fun w4 hb4 hm4 hz4 => ?_
  have hm14 := (hm1.trans hm2).trans (hm3.trans hm4)
  have hb24 := (hm3.trans hm4).blk hb2 id
  have h4 := h.calm hm14
  rw [BK_eql, hn, BK_neqB vB, show (!(loose == loose)) = false by simp]
  simp only [↓VG_u, ↓UG_u, ↓MG_u, ↓NG_u, ↓PG_u, ↓BG_u, ↓CG_u, ↓IG_u, ↓VGtt, ↓VGtf, ↓VGft, ↓VGff, ↓UGtt, ↓UGtf, ↓UGft, ↓UGff, ↓MGtt, ↓MGtf, ↓MGft, ↓MGff, ↓NGtt, ↓NGtf, ↓NGft, ↓NGff, ↓PGtt, ↓PGtf, ↓PGft, ↓PGff, ↓BGtt, ↓BGtf, ↓BGft, ↓BGff, ↓CGtt, ↓CGtf, ↓CGft, ↓CGff, ↓IGtt, ↓IGtf, ↓IGft, ↓IGff, ↓PKt, ↓PKf, ↓CDt, ↓CDf, ↓NOTt, ↓NOTf, ↓NK_ptr, ↓(fT0 hb24).e, ↓NEf (show (21 : Int) = 21 from rfl)]
  simp only [↓(fT0 hb4).e, ↓NEf (show (zTd.val : Int) = 0 from rfl), ↓VG_u, ↓UG_u, ↓MG_u, ↓NG_u, ↓PG_u, ↓BG_u, ↓CG_u, ↓IG_u, ↓VGtt, ↓VGtf, ↓VGft, ↓VGff, ↓UGtt, ↓UGtf, ↓UGft, ↓UGff, ↓MGtt, ↓MGtf, ↓MGft, ↓MGff, ↓NGtt, ↓NGtf, ↓NGft, ↓NGff, ↓PGtt, ↓PGtf, ↓PGft, ↓PGff, ↓BGtt, ↓BGtf, ↓BGft, ↓BGff, ↓CGtt, ↓CGtf, ↓CGft, ↓CGff, ↓IGtt, ↓IGtf, ↓IGft, ↓IGff, ↓PKt, ↓PKf, ↓CDt, ↓CDf, ↓NOTt, ↓NOTf, ↓NK_ptr]
  rw [BK_eqlP uC]
  simp only [↓VG_u, ↓UG_u, ↓MG_u, ↓NG_u, ↓PG_u, ↓BG_u, ↓CG_u, ↓IG_u, ↓VGtt, ↓VGtf, ↓VGft, ↓VGff, ↓UGtt, ↓UGtf, ↓UGft, ↓UGff, ↓MGtt, ↓MGtf, ↓MGft, ↓MGff, ↓NGtt, ↓NGtf, ↓NGft, ↓NGff, ↓PGtt, ↓PGtf, ↓PGft, ↓PGff, ↓BGtt, ↓BGtf, ↓BGft, ↓BGff, ↓CGtt, ↓CGtf, ↓CGft, ↓CGff, ↓IGtt, ↓IGtf, ↓IGft, ↓IGff, ↓PKt, ↓PKf, ↓CDt, ↓CDf, ↓NOTt, ↓NOTf, ↓NK_ptr, Option.isNone_some]
  refine CK_st Tryd.func31 rfl rfl (Over_ok h4.at_ h4.at_.hG [] 1 0) ?_
  rintro _ w5 ⟨rfl, hm5⟩
  rw [awO1]
  try simp only [↓VG_u, ↓UG_u, ↓MG_u, ↓NG_u, ↓PG_u, ↓BG_u, ↓CG_u, ↓IG_u, ↓VGtt, ↓VGtf, ↓VGft, ↓VGff, ↓UGtt, ↓UGtf, ↓UGft, ↓UGff, ↓MGtt, ↓MGtf, ↓MGft, ↓MGff, ↓NGtt, ↓NGtf, ↓NGft, ↓NGff, ↓PGtt, ↓PGtf, ↓PGft, ↓PGff, ↓BGtt, ↓BGtf, ↓BGft, ↓BGff, ↓CGtt, ↓CGtf, ↓CGft, ↓CGff, ↓IGtt, ↓IGtf, ↓IGft, ↓IGff, ↓PKt, ↓PKf, ↓CDt, ↓CDf, ↓NOTt, ↓NOTf, ↓NK_ptr]
  rw [dispatcherlaw15_awake_R9_eq]; unfold dispatcherlaw15_awake_R9_F
  have h5 := h4.calm hm5
  have hm15 := hm14.trans hm5
  simp only [sq_n, sq_x, sq_r, bk_n, bk_r, bk_x, rt_r, rt_n, rs_0, rs_t, pk_1, pk_2, up_at, reduceIte, Nat.reduceEqDiff, ↓VG_u, ↓UG_u, ↓MG_u, ↓NG_u, ↓PG_u, ↓BG_u, ↓CG_u, ↓IG_u, ↓VGtt, ↓VGtf, ↓VGft, ↓VGff, ↓UGtt, ↓UGtf, ↓UGft, ↓UGff, ↓MGtt, ↓MGtf, ↓MGft, ↓MGff, ↓NGtt, ↓NGtf, ↓NGft, ↓NGff, ↓PGtt, ↓PGtf, ↓PGft, ↓PGff, ↓BGtt, ↓BGtf, ↓BGft, ↓BGff, ↓CGtt, ↓CGtf, ↓CGft, ↓CGff, ↓IGtt, ↓IGtf, ↓IGft, ↓IGff, ↓PKt, ↓PKf, ↓CDt, ↓CDf, ↓NOTt, ↓NOTf, ↓NK_ptr]
  try rw [sq_n]
  refine awake_R10 hn hgl h5 (hm15.blk hb3 id) (owns_mod ho hm15 fun _ _ => id) ?_ ?_ ?_ ?_
  · exact q1
  · exact q5
  · exact q3
  intro ρ' w' s hm'
  exact hK ρ' w' s hm'
end
end Go.Proofs.YtandbmnhghmcgaaDoor.Col
set_option linter.unusedVariables false
set_option linter.unusedSimpArgs false
set_option maxRecDepth 8000
namespace Go.Proofs.YtandbmnhghmcgaaDoor.Col
open Go Go.X Go.RowKit Go.Proofs.YtandbmnhghmcgaaDoor.XF Go.Proofs.YtandbmnhghmcgaaDoor.XG Go.Proofs.YtandbmnhghmcgaaDoor.XI Go.Proofs.YtandbmnhghmcgaaDoor.XK
section
variable {w : World}
theorem awake_ok (hgl : Gl w) : Rt Tryd.prog 26 #[] w fun v w' => v = .bool true ∧ Mod none_ w w' := by
  refine dispatcherlaw15_awake_calls ?_
  unfold dispatcherlaw15_awake_F
  refine W_loop dispatcherlaw15_awake_L0_ok (fun ρ w' => ∃ i : Nat, i ≤ 2 ∧ ρ 1 = .int .i64 i ∧ Mod none_ w w') (fun ρ _ => 2 - (intOf (ρ 1)).toNat)
    ⟨0, Nat.zero_le _, rfl, Mod.refl _ _⟩ ?_
  rintro ρ w1 ⟨i, hi, e1, hm1⟩
  rw [dispatcherlaw15_awake_L0_eq]; unfold dispatcherlaw15_awake_L0_F
  rw [e1, BK_lss]
  by_cases hlt : i < 2
  case neg =>
    obtain rfl : i = 2 := by omega
    rw [decide_eq_false (by omega)]
    refine condF ?_
    rw [sq_x, bk_x, sq_n, dispatcherlaw15_awake_R1_eq]; unfold dispatcherlaw15_awake_R1_F
    exact ⟨rfl, hm1⟩
  rw [decide_eq_true (by omega)]
  refine condT ?_
  rw [BK_eql]
  obtain ⟨loose, hn⟩ : ∃ loose, ((i : Int) == 1) = loose := ⟨_, rfl⟩
  rw [hn]
  refine CK_st Tryd.func11 rfl rfl (New_ok w1 loose) ?_
  rintro _ w2 ⟨p, V, rfl, hc, _, _, hnew, hm2⟩
  rw [BK_eqlP uC]
  simp only [Option.isNone_some]
  refine condF ?_
  have hc2 : Cs w w2 p loose [] V := ⟨hc, fun b hb => Nat.le_trans hm1.size (hnew b hb), hm1.trans hm2⟩
  refine CK_st Tryd.func30 rfl rfl (ranks_ok (n := 3) (by decide) (by decide)) ?_
  rintro _ w3 ⟨rv, rfl, ho, hm3⟩
  obtain ⟨A', c', e', _⟩ := reads_cap (reads_of_owns ho)
  refine lcl_k (cs := #[strV [], rv]) zG _ iG rfl (by rw [e']; exact grp_one _ _ _ _) fun w4 hb4 hm4 hz4 => ?_
  have hc4 := (hc2.calm hm3).calm hm4
  have ho4 : w4.ownsRow 0 tI 1 rv 3 (ints (worldL 3)) := owns_base (owns_mod ho hm4 fun _ _ => id) (Nat.zero_le _)
  refine awake_R2 (b3 := w3.heap.size) (rv := rv) hc4.at_ hb4 ho4 rfl rfl ?_
  intro ρ5 w5 V5 s5 hA5 hf5 hb5 ho5
  have hc5 := hc4.put hA5 hf5
  have q5 : ρ5 1 = .int .i64 i ∧ ρ5 2 = .pointer (some ⟨p, 0, none⟩) ∧ ρ5 3 = .pointer (some ⟨w3.heap.size, 0, none⟩) := ⟨(s5 1 (by decide)).trans e1, s5 2 (by decide), s5 3 (by decide)⟩
  rw [sq_n, dispatcherlaw15_awake_R3_eq]; unfold dispatcherlaw15_awake_R3_F
  rw [q5.2.1]
  refine CK_st Tryd.func31 rfl rfl (Over_ok hc5.at_ hc5.at_.hG [] 0 0) ?_
  rintro _ w6 ⟨rfl, hm6⟩
  rw [awE]
  have hc6 := hc5.calm hm6
  refine awake_R5 (b3 := w3.heap.size) (rv := rv) hc6.at_ (hm6.blk hb5 id) (owns_mod ho5 hm6 fun _ _ => id) ?_ ?_ ?_
  · exact q5.2.1
  · exact q5.2.2
  intro ρ7 w7 V7 s7 hA7 hf7 hb7 ho7
  have hc7 := hc6.put hA7 hf7
  have q7 : ρ7 1 = .int .i64 i ∧ ρ7 2 = .pointer (some ⟨p, 0, none⟩) ∧ ρ7 3 = .pointer (some ⟨w3.heap.size, 0, none⟩) ∧ ρ7 4 = .bool loose := ⟨(s7 1 (by decide)).trans q5.1, (s7 2 (by decide)).trans q5.2.1, (s7 3 (by decide)).trans q5.2.2, s7 4 (by decide)⟩
  rw [sq_n, dispatcherlaw15_awake_R6_eq]; unfold dispatcherlaw15_awake_R6_F
  rw [q7.2.1]
  refine CK_st Tryd.func15 rfl rfl (Copy_ok hc7.at_ (by decide)) ?_
  rintro _ w8 ⟨d, VD, rfl, hD, hDn, hm8⟩
  have hc8 := hc7.calm hm8
  have hd8 : Cs w w8 d loose awL2 VD := ⟨hD, fun b hb => Nat.le_trans hc7.mod.size (hDn b hb), hc8.mod⟩
  refine awake_R7 (b3 := w3.heap.size) (rv := rv) hc8.at_ (hm8.blk hb7 id) (owns_mod ho7 hm8 fun _ _ => id) ?_ ?_ ?_
  · exact q7.2.1
  · exact q7.2.2.1
  intro ρ9 w9 V9 s9 hA9 hf9 hb9 ho9
  have hc9 := hc8.put hA9 hf9
  have hd9 : Cs w w9 d loose awL2 VD := ⟨hd8.at_.beside hc8.at_ (fun b hb z => by have := hDn b hb; have := hc7.at_.old z; omega) hf9, hd8.new, hc9.mod⟩
  have q9 : ρ9 1 = .int .i64 i ∧ ρ9 2 = .pointer (some ⟨p, 0, none⟩) ∧ ρ9 3 = .pointer (some ⟨w3.heap.size, 0, none⟩) ∧ ρ9 4 = .bool loose ∧ ρ9 5 = .pointer (some ⟨d, 0, none⟩) := ⟨(s9 1 (by decide)).trans q7.1, (s9 2 (by decide)).trans q7.2.1, (s9 3 (by decide)).trans q7.2.2.1, (s9 4 (by decide)).trans q7.2.2.2, s9 5 (by decide)⟩
  rw [sq_n]
  refine awake_R8 (b3 := w3.heap.size) (rv := rv) hn hgl hc9 hd9 hb9 ho9 q9.1 q9.2.1 q9.2.2.2.1 q9.2.2.2.2 q9.2.2.1 ?_
  intro ρ' w' s' hm'
  rw [bk_n, sq_n, dispatcherlaw15_awake_R4_eq]; unfold dispatcherlaw15_awake_R4_F
  rw [s', q9.1, BK_add, wrap_i (by omega) (by omega)]
  refine ⟨⟨i + 1, hlt, rfl, hm'⟩, ?_⟩
  simp only [sq_n, sq_x, sq_r, bk_n, bk_r, bk_x, rt_r, rt_n, rs_0, rs_t, pk_1, pk_2, up_at, reduceIte, Nat.reduceEqDiff, intOf]; omega
end
end Go.Proofs.YtandbmnhghmcgaaDoor.Col
set_option linter.unusedVariables false
set_option linter.unusedSimpArgs false
set_option maxRecDepth 8000
namespace Go.X
open Go Go.RowKit
theorem Hnot {P : Program} {S : World → Prop} {K : Value → Prop} {b : Bool} (hk : K (.bool (!b))) : HK P S (do pure (Next.value (← Op.unary .not (.bool b)))) K := by
  refine HV_of (v := .bool (!b)) (fun w _ => ?_) hk
  cases b <;> rfl
def PtAt (w : World) (g : Addr) (p : Pt) : Prop := ∀ j c, p.enc[j]? = some c → w.cell? (g.add j) = some c
end Go.X
namespace Go.Proofs.YtandbmnhghmcgaaDoor.Col
open Go Go.X Go.RowKit Go.Proofs.YtandbmnhghmcgaaDoor.XF Go.Proofs.YtandbmnhghmcgaaDoor.XG Go.Proofs.YtandbmnhghmcgaaDoor.XI Go.Proofs.YtandbmnhghmcgaaDoor.XK
abbrev PtsR (w : World) (v : Value) (l : List Pt) : Prop := reads w 6 v l.length (l.flatMap Pt.enc)
section
variable {w : World}
theorem PtsR.calm {w' : World} {v : Value} {l : List Pt} (h : PtsR w v l) (hm : Mod none_ w w') : PtsR w' v l := reads_mod h hm (fun _ _ _ => id)
theorem pts_at {v : Value} {l : List Pt} (h : PtsR w v l) {i : Nat} {p : Pt} (hi : l[i]? = some p) : ∃ g : Addr, (∀ w', (Instr.indexAt tPts v (.int .i64 (i : Int))).run Tryd.prog w' = .ok (.pointer (some g)) w') ∧ ∀ w', Mod none_ w w' → PtAt w' g p :=
  elIx vPts cPt Pt.enc_len h hi
theorem pt_ld {g : Addr} {p : Pt} (h : PtAt w g p) : (Instr.loadAt tPt (.pointer (some g))).run Tryd.prog w = .ok p.v w :=
  run_ldA (cs := p.enc) Tryd.underlying34 rfl (by kernel_rfl) h
theorem fPk {g : Addr} {p : Pt} (h : PtAt w g p) : FO Tryd.prog w tPt 0 0 g 5 (.int .u8 p.kind) := FO.mk' (by kernel_rfl) vU8 rfl (h 0 _ rfl)
theorem may_R2 {w0 : World} {K : Exit → Sl → World → Prop} {ρ : Sl} {v : Value} {l : List Pt} {i : Nat} {p : Pt} (h : PtsR w0 v l) (hm : Mod none_ w0 w) (h1 : 1 ≤ l.length) (h8 : l.length ≤ 8) (hi : l[i]? = some p) (q0 : ρ 0 = v) (q3 : ρ 3 = .int .i64 i)
    (hK : ∀ (ρ' : Sl) (w' : World), (∀ i, i < 12 → ρ' i = ρ i) → ρ' 26 = .bool (!mayPt l.length p) → Mod none_ w0 w' → K .normal ρ' w') : W fn_ Tryd.prog 27 dispatcherlaw15_may_R2 K ρ w := by
  have hd : Mod none_ w0 { w with drawn := w.drawn + 1 } := hm.trans ((Mod.refl _ w).drawn _)
  refine dispatcherlaw15_may_R2_held (D := []) (fun w' => Mod none_ w0 w') hd ?_
  generalize ({ w with drawn := w.drawn + 1 } : World) = wd at *
  unfold dispatcherlaw15_may_R2_H
  rw [q0, q3]
  obtain ⟨A, c, es, _⟩ := reads_cap h
  obtain ⟨g, hix, hat⟩ := pts_at h hi
  have hlen : ∀ {K : Value → Prop}, K (.int .i64 (l.length : Int)) → HK Tryd.prog (fun w' => Mod none_ w0 w') (builtin .len #[tPts] tI [false].toArray [v].toArray) K := fun {K} hk => by
    rw [es]
    exact HI_len vPts _ _ _ _ hk
  refine hlen (HV_of (fun w' _ => hix w') (HV_of (fun w' hw => pt_ld (hat w' hw)) ?_))
  refine CK_st Tryd.func30 rfl rfl (ranks_ok h1 (by omega)) ?_
  rintro _ w2 ⟨rv, rfl, ho, hm2⟩
  refine ⟨hd.trans hm2, ?_⟩
  have hwl := worldL_len l.length
  have hRR : RR w2 rv (worldL l.length) := by
    have := reads_of_owns ho
    unfold RR
    rw [hwl]
    exact this
  refine CK_st Tryd.func19 rfl rfl (MayP_ok (key := []) hRR (by omega) p) ?_
  rintro _ w3 ⟨rfl, hm3⟩
  rw [hwl]
  have hm03 := (hd.trans hm2).trans hm3
  refine ⟨hm03, Hnot ?_⟩
  refine hK _ _ (fun i hi => ?_) rfl hm03
  repeat rw [up_at, if_neg (by omega)]
theorem may_ok {v : Value} {l : List Pt} (h : PtsR w v l) : Rt Tryd.prog 29 #[v] w fun u w' => ∃ b, u = .bool b ∧ (b = true → 1 ≤ l.length ∧ l.length ≤ 8 ∧ ∀ p ∈ l, mayPt l.length p = true) ∧ Mod none_ w w' := by
  refine dispatcherlaw15_may_calls ?_
  unfold dispatcherlaw15_may_F
  obtain ⟨A, c, es, _⟩ := reads_cap h
  have ev := es
  rw [es, len_sl vPts, ← ev]
  by_cases c1 : (l.length : Int) < 1
  · simp only [↓VG_u, ↓UG_u, ↓MG_u, ↓NG_u, ↓PG_u, ↓BG_u, ↓CG_u, ↓IG_u, ↓VGtt, ↓VGtf, ↓VGft, ↓VGff, ↓UGtt, ↓UGtf, ↓UGft, ↓UGff, ↓MGtt, ↓MGtf, ↓MGft, ↓MGff, ↓NGtt, ↓NGtf, ↓NGft, ↓NGff, ↓PGtt, ↓PGtf, ↓PGft, ↓PGff, ↓BGtt, ↓BGtf, ↓BGft, ↓BGff, ↓CGtt, ↓CGtf, ↓CGft, ↓CGff, ↓IGtt, ↓IGtf, ↓IGft, ↓IGff, ↓PKt, ↓PKf, ↓CDt, ↓CDf, ↓NOTt, ↓NOTf, ↓NK_ptr, ↓LTt c1]
    exact ⟨false, rfl, fun q => by simp at q, Mod.refl _ _⟩
  simp only [↓VG_u, ↓UG_u, ↓MG_u, ↓NG_u, ↓PG_u, ↓BG_u, ↓CG_u, ↓IG_u, ↓VGtt, ↓VGtf, ↓VGft, ↓VGff, ↓UGtt, ↓UGtf, ↓UGft, ↓UGff, ↓MGtt, ↓MGtf, ↓MGft, ↓MGff, ↓NGtt, ↓NGtf, ↓NGft, ↓NGff, ↓PGtt, ↓PGtf, ↓PGft, ↓PGff, ↓BGtt, ↓BGtf, ↓BGft, ↓BGff, ↓CGtt, ↓CGtf, ↓CGft, ↓CGff, ↓IGtt, ↓IGtf, ↓IGft, ↓IGff, ↓PKt, ↓PKf, ↓CDt, ↓CDf, ↓NOTt, ↓NOTf, ↓NK_ptr, ↓LTf (show (1 : Int) ≤ (l.length : Int) by omega)]
  rw [es, len_sl vPts, ← ev]
  by_cases c2 : (8 : Int) < (l.length : Int)
  · simp only [↓VG_u, ↓UG_u, ↓MG_u, ↓NG_u, ↓PG_u, ↓BG_u, ↓CG_u, ↓IG_u, ↓VGtt, ↓VGtf, ↓VGft, ↓VGff, ↓UGtt, ↓UGtf, ↓UGft, ↓UGff, ↓MGtt, ↓MGtf, ↓MGft, ↓MGff, ↓NGtt, ↓NGtf, ↓NGft, ↓NGff, ↓PGtt, ↓PGtf, ↓PGft, ↓PGff, ↓BGtt, ↓BGtf, ↓BGft, ↓BGff, ↓CGtt, ↓CGtf, ↓CGft, ↓CGff, ↓IGtt, ↓IGtf, ↓IGft, ↓IGff, ↓PKt, ↓PKf, ↓CDt, ↓CDf, ↓NOTt, ↓NOTf, ↓NK_ptr, ↓GTt c2]
    exact ⟨false, rfl, fun q => by simp at q, Mod.refl _ _⟩
  simp only [↓VG_u, ↓UG_u, ↓MG_u, ↓NG_u, ↓PG_u, ↓BG_u, ↓CG_u, ↓IG_u, ↓VGtt, ↓VGtf, ↓VGft, ↓VGff, ↓UGtt, ↓UGtf, ↓UGft, ↓UGff, ↓MGtt, ↓MGtf, ↓MGft, ↓MGff, ↓NGtt, ↓NGtf, ↓NGft, ↓NGff, ↓PGtt, ↓PGtf, ↓PGft, ↓PGff, ↓BGtt, ↓BGtf, ↓BGft, ↓BGff, ↓CGtt, ↓CGtf, ↓CGft, ↓CGff, ↓IGtt, ↓IGtf, ↓IGft, ↓IGff, ↓PKt, ↓PKf, ↓CDt, ↓CDf, ↓NOTt, ↓NOTf, ↓NK_ptr, ↓GTf (show (l.length : Int) ≤ 8 by omega)]
  refine W_loop dispatcherlaw15_may_L0_ok (fun ρ w' => ∃ i : Nat, i ≤ l.length ∧ ρ 3 = .int .i64 i ∧ ρ 0 = v ∧ (∀ p ∈ l.take i, mayPt l.length p = true) ∧ Mod none_ w w') (fun ρ _ => l.length - (intOf (ρ 3)).toNat)
    ⟨0, Nat.zero_le _, rfl, rfl, by simp, Mod.refl _ _⟩ ?_
  rintro ρ w1 ⟨i, hi, e3, e0, hall, hm⟩
  rw [dispatcherlaw15_may_L0_eq]; unfold dispatcherlaw15_may_L0_F
  rw [e3, e0, ev, len_sl vPts, ← ev, BK_lss]
  by_cases hlt : i < l.length
  · rw [decide_eq_true (by omega)]
    refine condT ?_
    have hx : l[i]? = some l[i] := List.getElem?_eq_getElem hlt
    have etk : l.take (i + 1) = l.take i ++ [l[i]] := by rw [List.take_add_one, hx]; rfl
    generalize l[i] = a at *
    refine may_R2 h hm (by omega) (by omega) hx ?_ ?_ ?_
    · exact e0
    · exact e3
    intro ρ' w' s q26 hm'
    rw [sq_n, dispatcherlaw15_may_R3_eq]; unfold dispatcherlaw15_may_R3_F
    rw [q26]
    cases hp : mayPt l.length a with
    | false => exact condT ⟨false, rfl, fun q => by simp at q, hm'⟩
    | true =>
      refine condF ?_
      rw [bk_n, sq_n, dispatcherlaw15_may_R4_eq]; unfold dispatcherlaw15_may_R4_F
      have s3 : ρ' 3 = .int .i64 i := (s 3 (by decide)).trans e3
      rw [s3, BK_add, wrap_i (by omega) (by omega)]
      refine ⟨⟨i + 1, hlt, rfl, (s 0 (by decide)).trans e0, fun x hx' => ?_, hm'⟩, ?_⟩
      · rw [etk] at hx'
        rcases List.mem_append.1 hx' with z | z
        · exact hall x z
        · rw [List.mem_singleton.1 z]; exact hp
      · simp only [sq_n, sq_x, sq_r, bk_n, bk_r, bk_x, rt_r, rt_n, rs_0, rs_t, pk_1, pk_2, up_at, reduceIte, Nat.reduceEqDiff, intOf]; omega
  · obtain rfl : i = l.length := by omega
    rw [decide_eq_false (by omega)]
    refine condF ?_
    rw [sq_x, bk_x, sq_n, dispatcherlaw15_may_R1_eq]; unfold dispatcherlaw15_may_R1_F
    rw [List.take_length] at hall
    exact ⟨true, rfl, fun _ => ⟨by omega, by omega, hall⟩, hm⟩
end
end Go.Proofs.YtandbmnhghmcgaaDoor.Col
set_option linter.unusedVariables false
set_option linter.unusedSimpArgs false
set_option maxRecDepth 8000
namespace Go.X
open Go Go.RowKit
theorem fitPt_self (a : Pt) : fitPt a a = true := by simp [fitPt]
theorem fitAll_snoc {l : List Pt} {q f : Pt} (hf : (l ++ [q])[0]? = some f) : fitAll (l ++ [q]) = (fitAll l && fitPt f q) := by
  cases l with
  | nil =>
    simp at hf
    subst hf
    simp [fitAll, fitPt_self]
  | cons a r =>
    simp at hf
    subst hf
    simp [fitAll]
end Go.X
namespace Go.Proofs.YtandbmnhghmcgaaDoor.Col
open Go Go.X Go.RowKit Go.Proofs.YtandbmnhghmcgaaDoor.XF Go.Proofs.YtandbmnhghmcgaaDoor.XG Go.Proofs.YtandbmnhghmcgaaDoor.XI Go.Proofs.YtandbmnhghmcgaaDoor.XK
theorem bPts1 (p : Pt) : builtRow Tryd.prog tPts 1 [(0, p.v)] = some p.enc.toArray := by kernel_rfl
section
variable {w : World}
theorem appPt {v : Value} {xs : List Pt} {m : Pt} {B : Nat} {K : Value → Value → World → Prop} (ho : w.ownsRow B tPt 6 v xs.length (xs.flatMap Pt.enc)) (hB : B ≤ w.heap.size) (hl : xs.length ≤ 2000000)
    (hk : ∀ x v' w', w'.ownsRow B tPt 6 v' (xs ++ [m]).length ((xs ++ [m]).flatMap Pt.enc) → Mod (fun b => sb v b) w w' → (∀ b, sb v' b → sb v b ∨ w.heap.size ≤ b) → K x v' w') :
    VK Tryd.prog (Instr.buildSlice tPts 1 [(0, m.v)].toArray) w fun x w => IK Tryd.prog .append #[tPts, tPts] tPts [false, false] [v, x] w (K x) := by
  refine bs_k (bPts1 m) fun w1 hb1 hm1 hz1 => ?_
  refine ap_any ePts (owns_mod ho hm1 fun _ _ => id) (reads_blk (size := 6) (n := 1) hb1 (by simp [Pt.enc])) (fun u hu => Pt.enc_mem [m] u (by simpa using hu)) (by unfold maxLen; omega) (by omega) (by omega) fun v' w2 ho2 hm2 hv2 => ?_
  refine hk _ v' w2 ?_ ((hm1.mono fun _ _ z => z.elim).trans (hm2.mono fun b _ z => z.symm)) fun b z => ?_
  · rw [List.length_append, List.flatMap_append]
    simpa using ho2
  · rcases hv2 with y | y
    · exact .inl (by unfold sb at z ⊢; rw [← y]; exact z)
    · right; unfold sb at z; rw [y] at z; simp only [Option.some.injEq] at z; omega
theorem all_R7 {w0 : World} {K : Exit → Sl → World → Prop} {ρ : Sl} {v fv : Value} {l fs : List Pt} {i : Nat} {f q : Pt} {fit : Bool} (h : PtsR w0 v l) (hm : Mod none_ w0 w) (hi : l[i]? = some q) (hf : PtsR w fv fs) (hf0 : fs[0]? = some f) (q0 : ρ 8 = .bool fit) (q1 : ρ 1 = v) (q9 : ρ 9 = fv) (q10 : ρ 10 = .int .i64 i)
    (hK : ∀ (ρ' : Sl) (w' : World), (∀ i, i < 13 → i ≠ 8 → ρ' i = ρ i) → ρ' 8 = .bool (fit && fitPt f q) → Mod none_ w w' → K .normal ρ' w') : W fn_ Tryd.prog 125 dispatcherlaw15_CollAll_R7 K ρ w := by
  refine dispatcherlaw15_CollAll_R7_quiet (D := []) (fun w' => Mod none_ w w') ((Mod.refl _ w).drawn _) ?_
  unfold dispatcherlaw15_CollAll_R7_Q
  rw [q0, q1, q9, q10]
  obtain ⟨g, hix, hat⟩ := pts_at (h.calm hm) hi
  obtain ⟨g0, hix0, hat0⟩ := pts_at hf hf0
  cases fit with
  | true =>
    refine QGt (Qmv (QGt (QV_of (fun w' _ => hix0 w') ?_)))
    refine QGt (QV_of (fun w' hw => pt_ld (hat0 w' hw)) ?_)
    refine QGt (Qmv (QGt (Qmv (QGt (QV_of (fun w' _ => hix w') ?_)))))
    refine QGt (QV_of (fun w' hw => pt_ld (hat w' hw)) (QGt ?_))
    refine QC_rt Tryd.func21 rfl rfl (v := .bool (fitPt f q)) (fun w' hw => Fit_ok f q w') (fun w' u w'' hw z => ⟨z.1, hw.trans z.2⟩) ?_
    refine QPt ?_
    intro w' hw
    refine hK _ w' (fun i hi h8 => ?_) rfl hw
    repeat rw [up_at, if_neg (by omega)]
  | false =>
    refine QGn (QGn (QGn (QGn (QGn (QGn (QGn (QGn (QPf ?_))))))))
    intro w' hw
    refine hK _ w' (fun i hi h8 => ?_) rfl hw
    repeat rw [up_at, if_neg (by omega)]
theorem all_R8 {w0 : World} {K : Exit → Sl → World → Prop} {ρ : Sl} {v : Value} {l : List Pt} {i p : Nat} {q : Pt} {loose : Bool} {L : List Br} {V : CV} (h : PtsR w0 v l) (hc : Cs w0 w p loose L V) (hL : L.length ≤ 1000000) (h1 : 1 ≤ l.length) (h8 : l.length ≤ 8) (hi : l[i]? = some q) (q1 : ρ 1 = v) (q7 : ρ 7 = .pointer (some ⟨p, 0, none⟩)) (q10 : ρ 10 = .int .i64 i)
    (hK : ∀ (ρ' : Sl) (w' : World) V', (∀ i, i < 13 → ρ' i = ρ i) → Cs w0 w' p loose (bringC L ⟨[], worldL l.length, (i : Int), q⟩).1 V' → CFr p w V w' V' → K .normal ρ' w') : W fn_ Tryd.prog 125 dispatcherlaw15_CollAll_R8 K ρ w := by
  have hdw : Mod none_ w { w with drawn := w.drawn + 1 } := (Mod.refl _ w).drawn _
  have hd : Mod none_ w0 { w with drawn := w.drawn + 1 } := hc.mod.trans hdw
  refine dispatcherlaw15_CollAll_R8_held (D := []) (fun w' => Mod none_ w0 w') hd ?_
  generalize ({ w with drawn := w.drawn + 1 } : World) = wd at *
  unfold dispatcherlaw15_CollAll_R8_H
  rw [q1, q7, q10]
  obtain ⟨A, c, es, _⟩ := reads_cap h
  obtain ⟨g, hix, hat⟩ := pts_at h hi
  have hlen : ∀ {K : Value → Prop}, K (.int .i64 (l.length : Int)) → HK Tryd.prog (fun w' => Mod none_ w0 w') (builtin .len #[tPts] tI [false].toArray [v].toArray) K := fun {K} hk => by
    rw [es]
    exact HI_len vPts _ _ _ _ hk
  refine hlen (HV_of (fun w' _ => hix w') (HV_of (fun w' hw => pt_ld (hat w' hw)) ?_))
  refine CK_st Tryd.func30 rfl rfl (ranks_ok h1 (by omega)) ?_
  rintro _ w2 ⟨rv, rfl, ho, hm2⟩
  refine ⟨hd.trans hm2, ?_⟩
  have hwl := worldL_len l.length
  have hRR : RR w2 rv (worldL l.length) := by
    have := reads_of_owns ho
    unfold RR
    rw [hwl]
    exact this
  have hc2 := (hc.calm hdw).calm hm2
  refine CK_st Tryd.func12 rfl rfl (Bring_ok (b := ⟨[], worldL l.length, (i : Int), q⟩) hc2.at_ hL hRR (by show (worldL l.length).length ≤ 1000; omega)) ?_
  rintro _ w3 ⟨rfl, V', hA, hf⟩
  have hc3 := hc2.put hA hf
  refine ⟨hc3.mod, ?_⟩
  refine hK _ _ V' (fun i hi => ?_) hc3 ((CFr.calm (hdw.trans hm2)).trans hf)
  repeat rw [up_at, if_neg (by omega)]
end
end Go.Proofs.YtandbmnhghmcgaaDoor.Col
set_option linter.unusedVariables false
set_option linter.unusedSimpArgs false
set_option maxRecDepth 8000
namespace Go.Proofs.YtandbmnhghmcgaaDoor.Col
open Go Go.X Go.RowKit Go.Proofs.YtandbmnhghmcgaaDoor.XF Go.Proofs.YtandbmnhghmcgaaDoor.XG Go.Proofs.YtandbmnhghmcgaaDoor.XI Go.Proofs.YtandbmnhghmcgaaDoor.XK
section
variable {w0 w : World} {p : Nat} {loose : Bool} {l : List Pt} {lacks : Int} {v : Value}
theorem lack_bring (h1 : 1 ≤ l.length) (h8 : l.length ≤ 8) (hm : ∀ q ∈ l, mayPt l.length q = true) {r : Nat} {q : Pt} (hr : l[r]? = some q) (hne : (r : Int) ≠ lacks) : (bringC (lackL l lacks r) ⟨[], worldL l.length, (r : Int), q⟩).1 = lackL l lacks (r + 1) := by
  have hlt := (List.getElem?_eq_some_iff.1 hr).1
  rw [(lackL_wd r).bring h1 (by omega) (worldL_mem.2 ⟨by omega, by omega⟩) (hm q (List.mem_of_getElem? hr)), lackL_succ, if_pos hne]
  unfold brW
  rw [List.getD_eq_getElem?_getD, hr]
  rfl
theorem lackL_len (r : Nat) : (lackL l lacks r).length ≤ r := by
  unfold lackL
  rw [List.length_map]
  exact Nat.le_trans (List.length_filter_le _ _) (by rw [List.length_range]; exact Nat.le_refl _)
theorem lackP_len (r : Nat) : (lackP l lacks r).length ≤ r := by
  unfold lackP
  rw [List.length_map]
  exact Nat.le_trans (List.length_filter_le _ _) (by rw [List.length_range]; exact Nat.le_refl _)
structure AlS (loose : Bool) (v : Value) (lacks : Int) (p : Nat) (ρ : Sl) : Prop where
  h0 : ρ 0 = .bool loose
  h1 : ρ 1 = v
  h2 : ρ 2 = .int .i64 lacks
  h7 : ρ 7 = .pointer (some ⟨p, 0, none⟩)
theorem AlS.of {ρ ρ' : Sl} (h : AlS loose v lacks p ρ) (hs : ∀ i, i < 8 → ρ' i = ρ i) : AlS loose v lacks p ρ' := ⟨(hs 0 (by decide)).trans h.h0, (hs 1 (by decide)).trans h.h1, (hs 2 (by decide)).trans h.h2, (hs 7 (by decide)).trans h.h7⟩
structure AlW (w0 w : World) (p : Nat) (loose : Bool) (l : List Pt) (lacks : Int) (r : Nat) (fit : Bool) (fv : Value) : Prop where
  cs : ∃ V, Cs w0 w p loose (lackL l lacks r) V ∧ ∀ b, CF p V b → ¬ sb fv b
  fit : fit = fitAll (lackP l lacks r)
  fv : w.ownsRow w0.heap.size tPt 6 fv (lackP l lacks r).length ((lackP l lacks r).flatMap Pt.enc)
  kd : loose = true → ∀ q ∈ l.take r, q.kind ≠ 16 ∧ rootedK q.kind = false
theorem all_R4 {N : Sl → World → Prop} {K0 : Exit → Sl → World → Prop} {ρ : Sl} {r : Nat} {q : Pt} {fit : Bool} {fv : Value} (h : PtsR w0 v l) (h1 : 1 ≤ l.length) (h8 : l.length ≤ 8) (hm : ∀ q ∈ l, mayPt l.length q = true) (hr : l[r]? = some q) (hk : loose = true → q.kind ≠ 16 ∧ rootedK q.kind = false) (hw : AlW w0 w p loose l lacks r fit fv) (hs : AlS loose v lacks p ρ) (q8 : ρ 8 = .bool fit) (q9 : ρ 9 = fv) (q10 : ρ 10 = .int .i64 r)
    (hN : ∀ (ρ' : Sl) (w' : World) fit' fv', AlW w0 w' p loose l lacks (r + 1) fit' fv' → AlS loose v lacks p ρ' → ρ' 8 = .bool fit' → ρ' 9 = fv' → ρ' 10 = .int .i64 (r + 1 : Nat) → N ρ' w') :
    sx fn_ Tryd.prog 125 dispatcherlaw15_CollAll_R4 (blkK 1 (seqK (sx fn_ Tryd.prog 125 dispatcherlaw15_CollAll_R2 (seqK N K0)) (seqK N K0))) ρ w := by
  have hlt := (List.getElem?_eq_some_iff.1 hr).1
  have etk : l.take (r + 1) = l.take r ++ [q] := by rw [List.take_add_one, hr]; rfl
  have hkd : loose = true → ∀ x ∈ l.take (r + 1), x.kind ≠ 16 ∧ rootedK x.kind = false := fun y x hx => by
    rw [etk] at hx
    rcases List.mem_append.1 hx with z | z
    · exact hw.kd y x z
    · rw [List.mem_singleton.1 z]; exact hk y
  have fin : ∀ (ρ' : Sl) (w' : World) fit' fv', AlW w0 w' p loose l lacks (r + 1) fit' fv' → AlS loose v lacks p ρ' → ρ' 8 = .bool fit' → ρ' 9 = fv' → ρ' 10 = .int .i64 r → sx fn_ Tryd.prog 125 dispatcherlaw15_CollAll_R2 (seqK N K0) ρ' w' := by
    intro ρ' w' fit' fv' hw' hs' z8 z9 z10
    rw [dispatcherlaw15_CollAll_R2_eq]; unfold dispatcherlaw15_CollAll_R2_F
    rw [z10, BK_add, wrap_i (by omega) (by omega)]
    exact hN _ w' fit' fv' hw' (hs'.of fun i hi => by repeat rw [up_at, if_neg (by omega)]) z8 z9 rfl
  rw [dispatcherlaw15_CollAll_R4_eq]; unfold dispatcherlaw15_CollAll_R4_F
  rw [q10, hs.h2, hs.h1, q9]
  by_cases hne : (r : Int) = lacks
  · simp only [↓VG_u, ↓UG_u, ↓MG_u, ↓NG_u, ↓PG_u, ↓BG_u, ↓CG_u, ↓IG_u, ↓VGtt, ↓VGtf, ↓VGft, ↓VGff, ↓UGtt, ↓UGtf, ↓UGft, ↓UGff, ↓MGtt, ↓MGtf, ↓MGft, ↓MGff, ↓NGtt, ↓NGtf, ↓NGft, ↓NGff, ↓PGtt, ↓PGtf, ↓PGft, ↓PGff, ↓BGtt, ↓BGtf, ↓BGft, ↓BGff, ↓CGtt, ↓CGtf, ↓CGft, ↓CGff, ↓IGtt, ↓IGtf, ↓IGft, ↓IGff, ↓PKt, ↓PKf, ↓CDt, ↓CDf, ↓NOTt, ↓NOTf, ↓NK_ptr, ↓EQt hne]
    obtain ⟨V, hc, hd⟩ := hw.cs
    refine fin _ w fit fv ⟨⟨V, ?_, hd⟩, ?_, ?_, hkd⟩ (hs.of fun i hi => by repeat rw [up_at, if_neg (by omega)]) q8 q9 q10
    · rw [lackL_succ, if_neg (by omega)]; exact hc
    · rw [lackP_succ, if_neg (by omega)]; exact hw.fit
    · rw [lackP_succ, if_neg (by omega)]; exact hw.fv
  simp only [↓VG_u, ↓UG_u, ↓MG_u, ↓NG_u, ↓PG_u, ↓BG_u, ↓CG_u, ↓IG_u, ↓VGtt, ↓VGtf, ↓VGft, ↓VGff, ↓UGtt, ↓UGtf, ↓UGft, ↓UGff, ↓MGtt, ↓MGtf, ↓MGft, ↓MGff, ↓NGtt, ↓NGtf, ↓NGft, ↓NGff, ↓PGtt, ↓PGtf, ↓PGft, ↓PGff, ↓BGtt, ↓BGtf, ↓BGft, ↓BGff, ↓CGtt, ↓CGtf, ↓CGft, ↓CGff, ↓IGtt, ↓IGtf, ↓IGft, ↓IGff, ↓PKt, ↓PKf, ↓CDt, ↓CDf, ↓NOTt, ↓NOTf, ↓NK_ptr, ↓EQf hne]
  obtain ⟨V, hc, hd⟩ := hw.cs
  obtain ⟨g, hix, hat⟩ := pts_at h hr
  refine VK_of (hix w) (VK_of (pt_ld (hat w hc.mod)) ?_)
  have hPl : lackP l lacks (r + 1) = lackP l lacks r ++ [q] := by
    rw [lackP_succ, if_pos hne, List.getD_eq_getElem?_getD, hr]; rfl
  have hpl := lackP_len (l := l) (lacks := lacks) r
  refine appPt hw.fv hc.mod.size (by omega) fun x fv' w1 ho1 hm1 hn1 => ?_
  have hc1 : Cs w0 w1 p loose (lackL l lacks r) V := ⟨hc.at_.mod hm1 (fun b hb z => hd b hb z) (fun b hb z => isT_ne hb (isT_own hw.fv z) (by decide)), hc.new, hc.mod.then hm1 fun i hi z => by have := (owns_bd hw.fv i z).1; omega⟩
  have hd1 : ∀ b, CF p V b → ¬ sb fv' b := fun b hb z => by
    rcases hn1 b z with y | y
    · exact hd b hb y
    · have := hc.at_.old hb; omega
  rw [← hPl] at ho1
  obtain ⟨f, hP0⟩ : ∃ f, (lackP l lacks (r + 1))[0]? = some f := ⟨_, List.getElem?_eq_getElem (by rw [hPl]; simp)⟩
  refine all_R7 (fit := fit) h hc1.mod hr (reads_of_owns ho1) hP0 q8 ?_ rfl ?_ ?_
  · exact hs.h1
  · exact q10
  intro ρ2 w2 s2 z8 hm2
  have hs2 : AlS loose v lacks p ρ2 := hs.of fun i hi => by
    rw [s2 i (by omega) (by omega)]
    repeat rw [up_at, if_neg (by omega)]
  have z9 : ρ2 9 = fv' := s2 9 (by decide) (by decide)
  have z10 : ρ2 10 = .int .i64 r := (s2 10 (by decide) (by decide)).trans q10
  rw [sq_n]
  have hll := lackL_len (l := l) (lacks := lacks) r
  refine all_R8 h (hc1.calm hm2) (by omega) h1 h8 hr hs2.h1 hs2.h7 z10 ?_
  intro ρ3 w3 V3 s3 hc3 hf3
  rw [lack_bring h1 h8 hm hr hne] at hc3
  rw [bk_n, sq_n]
  have hlt1 : ∀ b, sb fv' b → b < w1.heap.size := fun b z => (owns_bd ho1 b z).2
  refine fin ρ3 w3 _ fv' ⟨⟨V3, hc3, fun b hb z => ?_⟩, ?_, ?_, hkd⟩ (hs2.of fun i hi => s3 i (by omega)) ((s3 8 (by decide)).trans z8) ((s3 9 (by decide)).trans z9) ((s3 10 (by decide)).trans z10)
  · rcases hf3.f b hb with y | y
    · exact hd1 b y z
    · have := hlt1 b z; have := hm2.size; omega
  · rw [hw.fit, hPl]
    rw [hPl] at hP0
    exact (fitAll_snoc hP0).symm
  · exact owns_mod (owns_mod ho1 hm2 fun _ _ => id) hf3.mod fun b hb z => hd1 b z hb
end
end Go.Proofs.YtandbmnhghmcgaaDoor.Col
set_option linter.unusedVariables false
set_option linter.unusedSimpArgs false
set_option maxRecDepth 8000
namespace Go.Proofs.YtandbmnhghmcgaaDoor.Col
open Go Go.X Go.RowKit Go.Proofs.YtandbmnhghmcgaaDoor.XF Go.Proofs.YtandbmnhghmcgaaDoor.XG Go.Proofs.YtandbmnhghmcgaaDoor.XI Go.Proofs.YtandbmnhghmcgaaDoor.XK
section
variable {w0 w : World} {p : Nat} {loose : Bool} {l : List Pt} {lacks : Int} {v : Value}
theorem all_R1 {ρ : Sl} {fit : Bool} {fv : Value} (hgl : Gl w0) (h : PtsR w0 v l) (h1 : 1 ≤ l.length) (h8 : l.length ≤ 8) (hw : AlW w0 w p loose l lacks l.length fit fv) (hs : AlS loose v lacks p ρ) (q8 : ρ 8 = .bool fit) :
    sx fn_ Tryd.prog 125 dispatcherlaw15_CollAll_R1 (retK Tryd.prog [ResultVar.tmp 6] fun u w' => u = .bool true ∧ Mod none_ w0 w') ρ w := by
  obtain ⟨V, hc, _⟩ := hw.cs
  have hkd := hw.kd
  rw [List.take_length] at hkd
  obtain ⟨ov, hov⟩ : ∃ ov, ov = (fitAll (lackP l lacks l.length) && !(decide (0 ≤ lacks) && decide (lacks < l.length))) := ⟨_, rfl⟩
  obtain ⟨A, c, ev, _⟩ := reads_cap h
  have go : ∀ (ρ' : Sl), AlS loose v lacks p ρ' → ρ' 8 = .bool fit → ρ' 11 = .bool ov → ρ' 12 = .int .i64 (0 : Nat) → W fn_ Tryd.prog 125 (Code.loop dispatcherlaw15_CollAll_L5) (blkK 2 (seqK (sx fn_ Tryd.prog 125 dispatcherlaw15_CollAll_R6 (retK Tryd.prog [ResultVar.tmp 6] fun u w' => u = .bool true ∧ Mod none_ w0 w')) (retK Tryd.prog [ResultVar.tmp 6] fun u w' => u = .bool true ∧ Mod none_ w0 w'))) ρ' w := by
    intro ρ' hs' z8 z11 z12
    refine W_loop dispatcherlaw15_CollAll_L5_ok (fun ρ w' => ∃ i : Nat, i ≤ l.length ∧ ρ 12 = .int .i64 i ∧ ρ 11 = .bool ov ∧ ρ 8 = .bool fit ∧ AlS loose v lacks p ρ ∧ Mod none_ w w') (fun ρ _ => l.length - (intOf (ρ 12)).toNat)
      ⟨0, Nat.zero_le _, z12, z11, z8, hs', Mod.refl _ _⟩ ?_
    rintro ρ w1 ⟨i, hi, e12, e11, e8, es, hm⟩
    have hc1 := hc.calm hm
    rw [dispatcherlaw15_CollAll_L5_eq]; unfold dispatcherlaw15_CollAll_L5_F
    rw [e12, e11, es.h1, es.h7, ev, len_sl vPts, ← ev, BK_lss]
    by_cases hlt : i < l.length
    · rw [decide_eq_true (by omega)]
      refine condT ?_
      refine CK_st Tryd.func31 rfl rfl (Over_ok hc1.at_ hc1.at_.hG [] i 0) ?_
      rintro _ w2 ⟨rfl, hm2⟩
      rw [all_over hkd hlt, ← hov, BK_neqB vB, show (!(ov == ov)) = false by simp]
      refine condF ?_
      rw [BK_add, wrap_i (by omega) (by omega)]
      refine ⟨⟨i + 1, hlt, rfl, e11, e8, es.of fun i hi => by repeat rw [up_at, if_neg (by omega)], hm.trans hm2⟩, ?_⟩
      simp only [sq_n, sq_x, sq_r, bk_n, bk_r, bk_x, rt_r, rt_n, rs_0, rs_t, pk_1, pk_2, up_at, reduceIte, Nat.reduceEqDiff, intOf]; omega
    · obtain rfl : i = l.length := by omega
      rw [decide_eq_false (by omega)]
      refine condF ?_
      rw [sq_x, bk_x, sq_n, dispatcherlaw15_CollAll_R6_eq]; unfold dispatcherlaw15_CollAll_R6_F
      simp only [sq_n, sq_x, sq_r, bk_n, bk_r, bk_x, rt_r, rt_n, rs_0, rs_t, pk_1, pk_2, up_at, reduceIte, Nat.reduceEqDiff, es.h7, e8]
      have hll := lackL_len (l := l) (lacks := lacks) l.length
      have hky : ∀ b ∈ lackL l lacks l.length, b.key.length ≤ 1000000 := fun b hb => by rw [((lackL_wd _).all b hb).1]; simp
      refine CK_st Tryd.func24 rfl rfl (Odd_ok hc1.at_ (hgl.calm hc1.mod) (by omega) hky) ?_
      rintro x w2 ⟨hx, hm2⟩
      have hc2 := hc1.calm hm2
      obtain ⟨A2, c2, es2, _⟩ := reads_cap (reads_of_owns hx)
      rw [es2, len_sl vSs, BK_eql, show (((oddC (lackL l lacks l.length)).length : Int) == 1) = !fit from by rw [odd_lack, ← hw.fit]; cases fit <;> rfl]
      have fin : ∀ (K : Value → World → Prop), (∀ w', Mod none_ w0 w' → K (.bool true) w') → CK Tryd.prog (.func (.func 24) #[] #[]) [.pointer (some ⟨p, 0, none⟩)] w2 fun x121 w => IK Tryd.prog .len #[tSs] tI [false] [x121] w fun x122 w => BK Tryd.prog .leq tI (.tmp 122) (.const (.int .i64 1)) x122 (.int .i64 1) w K := by
        intro K hK
        refine CK_st Tryd.func24 rfl rfl (Odd_ok hc2.at_ (hgl.calm hc2.mod) (by omega) hky) ?_
        rintro x' w3 ⟨hx', hm3⟩
        obtain ⟨A3, c3, es3, _⟩ := reads_cap (reads_of_owns hx')
        rw [es3, len_sl vSs, odd_lack, ← hw.fit, BK_leq, decide_eq_true (by cases fit <;> decide)]
        exact hK _ (hc2.calm hm3).mod
      cases fit with
      | true =>
        simp only [↓VG_u, ↓UG_u, ↓MG_u, ↓NG_u, ↓PG_u, ↓BG_u, ↓CG_u, ↓IG_u, ↓VGtt, ↓VGtf, ↓VGft, ↓VGff, ↓UGtt, ↓UGtf, ↓UGft, ↓UGff, ↓MGtt, ↓MGtf, ↓MGft, ↓MGff, ↓NGtt, ↓NGtf, ↓NGft, ↓NGff, ↓PGtt, ↓PGtf, ↓PGft, ↓PGff, ↓BGtt, ↓BGtf, ↓BGft, ↓BGff, ↓CGtt, ↓CGtf, ↓CGft, ↓CGff, ↓IGtt, ↓IGtf, ↓IGft, ↓IGff, ↓PKt, ↓PKf, ↓CDt, ↓CDf, ↓NOTt, ↓NOTf, ↓NK_ptr]
        rw [BK_eqlB vB, show ((!true) == false) = true from rfl]
        simp only [↓VG_u, ↓UG_u, ↓MG_u, ↓NG_u, ↓PG_u, ↓BG_u, ↓CG_u, ↓IG_u, ↓VGtt, ↓VGtf, ↓VGft, ↓VGff, ↓UGtt, ↓UGtf, ↓UGft, ↓UGff, ↓MGtt, ↓MGtf, ↓MGft, ↓MGff, ↓NGtt, ↓NGtf, ↓NGft, ↓NGff, ↓PGtt, ↓PGtf, ↓PGft, ↓PGff, ↓BGtt, ↓BGtf, ↓BGft, ↓BGff, ↓CGtt, ↓CGtf, ↓CGft, ↓CGff, ↓IGtt, ↓IGtf, ↓IGft, ↓IGff, ↓PKt, ↓PKf, ↓CDt, ↓CDf, ↓NOTt, ↓NOTf, ↓NK_ptr]
        exact fin _ fun w' hw' => ⟨rfl, hw'⟩
      | false =>
        simp only [↓VG_u, ↓UG_u, ↓MG_u, ↓NG_u, ↓PG_u, ↓BG_u, ↓CG_u, ↓IG_u, ↓VGtt, ↓VGtf, ↓VGft, ↓VGff, ↓UGtt, ↓UGtf, ↓UGft, ↓UGff, ↓MGtt, ↓MGtf, ↓MGft, ↓MGff, ↓NGtt, ↓NGtf, ↓NGft, ↓NGff, ↓PGtt, ↓PGtf, ↓PGft, ↓PGff, ↓BGtt, ↓BGtf, ↓BGft, ↓BGff, ↓CGtt, ↓CGtf, ↓CGft, ↓CGff, ↓IGtt, ↓IGtf, ↓IGft, ↓IGff, ↓PKt, ↓PKf, ↓CDt, ↓CDf, ↓NOTt, ↓NOTf, ↓NK_ptr]
        rw [BK_eqlB vB, show ((!false) == true) = true from rfl]
        simp only [↓VG_u, ↓UG_u, ↓MG_u, ↓NG_u, ↓PG_u, ↓BG_u, ↓CG_u, ↓IG_u, ↓VGtt, ↓VGtf, ↓VGft, ↓VGff, ↓UGtt, ↓UGtf, ↓UGft, ↓UGff, ↓MGtt, ↓MGtf, ↓MGft, ↓MGff, ↓NGtt, ↓NGtf, ↓NGft, ↓NGff, ↓PGtt, ↓PGtf, ↓PGft, ↓PGff, ↓BGtt, ↓BGtf, ↓BGft, ↓BGff, ↓CGtt, ↓CGtf, ↓CGft, ↓CGff, ↓IGtt, ↓IGtf, ↓IGft, ↓IGff, ↓PKt, ↓PKf, ↓CDt, ↓CDf, ↓NOTt, ↓NOTf, ↓NK_ptr]
        exact fin _ fun w' hw' => ⟨rfl, hw'⟩
  rw [dispatcherlaw15_CollAll_R1_eq]; unfold dispatcherlaw15_CollAll_R1_F
  rw [q8, hs.h2, hs.h1]
  rw [← hw.fit] at hov
  have stay : ∀ {ρ' : Sl}, (∀ i, i < 9 → ρ' i = ρ i) → AlS loose v lacks p ρ' ∧ ρ' 8 = .bool fit := fun hh => ⟨hs.of fun i hi => hh i (by omega), (hh 8 (by decide)).trans q8⟩
  cases fit with
  | false =>
    simp only [↓VG_u, ↓UG_u, ↓MG_u, ↓NG_u, ↓PG_u, ↓BG_u, ↓CG_u, ↓IG_u, ↓VGtt, ↓VGtf, ↓VGft, ↓VGff, ↓UGtt, ↓UGtf, ↓UGft, ↓UGff, ↓MGtt, ↓MGtf, ↓MGft, ↓MGff, ↓NGtt, ↓NGtf, ↓NGft, ↓NGff, ↓PGtt, ↓PGtf, ↓PGft, ↓PGff, ↓BGtt, ↓BGtf, ↓BGft, ↓BGff, ↓CGtt, ↓CGtf, ↓CGft, ↓CGff, ↓IGtt, ↓IGtf, ↓IGft, ↓IGff, ↓PKt, ↓PKf, ↓CDt, ↓CDf, ↓NOTt, ↓NOTf, ↓NK_ptr]
    refine go _ (stay fun i hi => by repeat rw [up_at, if_neg (by omega)]).1 ((stay fun i hi => by repeat rw [up_at, if_neg (by omega)]).2) ?_ rfl
    rw [hov]; rfl
  | true =>
    by_cases c1 : lacks < 0
    · simp only [↓VG_u, ↓UG_u, ↓MG_u, ↓NG_u, ↓PG_u, ↓BG_u, ↓CG_u, ↓IG_u, ↓VGtt, ↓VGtf, ↓VGft, ↓VGff, ↓UGtt, ↓UGtf, ↓UGft, ↓UGff, ↓MGtt, ↓MGtf, ↓MGft, ↓MGff, ↓NGtt, ↓NGtf, ↓NGft, ↓NGff, ↓PGtt, ↓PGtf, ↓PGft, ↓PGff, ↓BGtt, ↓BGtf, ↓BGft, ↓BGff, ↓CGtt, ↓CGtf, ↓CGft, ↓CGff, ↓IGtt, ↓IGtf, ↓IGft, ↓IGff, ↓PKt, ↓PKf, ↓CDt, ↓CDf, ↓NOTt, ↓NOTf, ↓NK_ptr, ↓LTt c1]
      refine go _ (stay fun i hi => by repeat rw [up_at, if_neg (by omega)]).1 ((stay fun i hi => by repeat rw [up_at, if_neg (by omega)]).2) ?_ rfl
      rw [hov, decide_eq_false (by omega)]; rfl
    · simp only [↓VG_u, ↓UG_u, ↓MG_u, ↓NG_u, ↓PG_u, ↓BG_u, ↓CG_u, ↓IG_u, ↓VGtt, ↓VGtf, ↓VGft, ↓VGff, ↓UGtt, ↓UGtf, ↓UGft, ↓UGff, ↓MGtt, ↓MGtf, ↓MGft, ↓MGff, ↓NGtt, ↓NGtf, ↓NGft, ↓NGff, ↓PGtt, ↓PGtf, ↓PGft, ↓PGff, ↓BGtt, ↓BGtf, ↓BGft, ↓BGff, ↓CGtt, ↓CGtf, ↓CGft, ↓CGff, ↓IGtt, ↓IGtf, ↓IGft, ↓IGff, ↓PKt, ↓PKf, ↓CDt, ↓CDf, ↓NOTt, ↓NOTf, ↓NK_ptr, ↓LTf (show (0 : Int) ≤ lacks by omega)]
      rw [ev, len_sl vPts, ← ev]
      by_cases c2 : (l.length : Int) ≤ lacks
      · simp only [↓VG_u, ↓UG_u, ↓MG_u, ↓NG_u, ↓PG_u, ↓BG_u, ↓CG_u, ↓IG_u, ↓VGtt, ↓VGtf, ↓VGft, ↓VGff, ↓UGtt, ↓UGtf, ↓UGft, ↓UGff, ↓MGtt, ↓MGtf, ↓MGft, ↓MGff, ↓NGtt, ↓NGtf, ↓NGft, ↓NGff, ↓PGtt, ↓PGtf, ↓PGft, ↓PGff, ↓BGtt, ↓BGtf, ↓BGft, ↓BGff, ↓CGtt, ↓CGtf, ↓CGft, ↓CGff, ↓IGtt, ↓IGtf, ↓IGft, ↓IGff, ↓PKt, ↓PKf, ↓CDt, ↓CDf, ↓NOTt, ↓NOTf, ↓NK_ptr, ↓GEt c2]
        refine go _ (stay fun i hi => by repeat rw [up_at, if_neg (by omega)]).1 ((stay fun i hi => by repeat rw [up_at, if_neg (by omega)]).2) ?_ rfl
        rw [hov, decide_eq_false (p := lacks < _) (by omega), Bool.and_false]; rfl
      · simp only [↓VG_u, ↓UG_u, ↓MG_u, ↓NG_u, ↓PG_u, ↓BG_u, ↓CG_u, ↓IG_u, ↓VGtt, ↓VGtf, ↓VGft, ↓VGff, ↓UGtt, ↓UGtf, ↓UGft, ↓UGff, ↓MGtt, ↓MGtf, ↓MGft, ↓MGff, ↓NGtt, ↓NGtf, ↓NGft, ↓NGff, ↓PGtt, ↓PGtf, ↓PGft, ↓PGff, ↓BGtt, ↓BGtf, ↓BGft, ↓BGff, ↓CGtt, ↓CGtf, ↓CGft, ↓CGff, ↓IGtt, ↓IGtf, ↓IGft, ↓IGff, ↓PKt, ↓PKf, ↓CDt, ↓CDf, ↓NOTt, ↓NOTf, ↓NK_ptr, ↓GEf (show lacks < (l.length : Int) by omega)]
        refine go _ (stay fun i hi => by repeat rw [up_at, if_neg (by omega)]).1 ((stay fun i hi => by repeat rw [up_at, if_neg (by omega)]).2) ?_ rfl
        rw [hov, decide_eq_true (p := lacks < _) (by omega), decide_eq_true (by omega)]; rfl
end
end Go.Proofs.YtandbmnhghmcgaaDoor.Col
set_option linter.unusedVariables false
set_option linter.unusedSimpArgs false
set_option maxRecDepth 8000
namespace Go.Proofs.YtandbmnhghmcgaaDoor.Col
open Go Go.X Go.RowKit Go.Proofs.YtandbmnhghmcgaaDoor.XF Go.Proofs.YtandbmnhghmcgaaDoor.XG Go.Proofs.YtandbmnhghmcgaaDoor.XI Go.Proofs.YtandbmnhghmcgaaDoor.XK
section
variable {w : World}
abbrev alK (N : Sl → World → Prop) (K0 : Exit → Sl → World → Prop) : Exit → Sl → World → Prop := blkK 1 (seqK (sx fn_ Tryd.prog 125 dispatcherlaw15_CollAll_R2 (seqK N K0)) (seqK N K0))
theorem all_ret {N : Sl → World → Prop} {K0 : Exit → Sl → World → Prop} {ρ : Sl} (z : ρ 58 = .bool true) (hK : K0 .ret (up ρ 6 (.bool true)) w) : sx fn_ Tryd.prog 125 dispatcherlaw15_CollAll_R3 (seqK (sx fn_ Tryd.prog 125 dispatcherlaw15_CollAll_R4 (alK N K0)) (alK N K0)) ρ w := by
  rw [dispatcherlaw15_CollAll_R3_eq]; unfold dispatcherlaw15_CollAll_R3_F
  rw [z]
  exact condT hK
theorem all_go {w0 : World} {p : Nat} {loose : Bool} {l : List Pt} {lacks : Int} {v : Value} {N : Sl → World → Prop} {K0 : Exit → Sl → World → Prop} {ρ ρ' : Sl} {r : Nat} {q : Pt} {fit : Bool} {fv : Value} (h : PtsR w0 v l) (h1 : 1 ≤ l.length) (h8 : l.length ≤ 8) (hm : ∀ q ∈ l, mayPt l.length q = true) (hr : l[r]? = some q) (hw : AlW w0 w p loose l lacks r fit fv) (hs0 : AlS loose v lacks p ρ) (q8 : ρ 8 = .bool fit) (q9 : ρ 9 = fv) (q10 : ρ 10 = .int .i64 r)
    (hN : ∀ (ρ' : Sl) (w' : World) fit' fv', AlW w0 w' p loose l lacks (r + 1) fit' fv' → AlS loose v lacks p ρ' → ρ' 8 = .bool fit' → ρ' 9 = fv' → ρ' 10 = .int .i64 (r + 1 : Nat) → N ρ' w')
    (z : ρ' 58 = .bool false) (hk : loose = true → q.kind ≠ 16 ∧ rootedK q.kind = false) (hs : ∀ i, i < 11 → ρ' i = ρ i) : sx fn_ Tryd.prog 125 dispatcherlaw15_CollAll_R3 (seqK (sx fn_ Tryd.prog 125 dispatcherlaw15_CollAll_R4 (alK N K0)) (alK N K0)) ρ' w := by
  rw [dispatcherlaw15_CollAll_R3_eq]; unfold dispatcherlaw15_CollAll_R3_F
  rw [z]
  refine condF ?_
  rw [sq_n]
  exact all_R4 h h1 h8 hm hr hk hw (hs0.of fun i hi => hs i (by omega)) ((hs 8 (by decide)).trans q8) ((hs 9 (by decide)).trans q9) ((hs 10 (by decide)).trans q10) hN
theorem CollAll_ok {v : Value} {l : List Pt} (hgl : Gl w) (h : PtsR w v l) (loose : Bool) (lacks : Int) : Rt Tryd.prog 6 #[.bool loose, v, .int .i64 lacks] w fun u w' => u = .bool true ∧ Mod none_ w w' := by
  refine dispatcherlaw15_CollAll_calls ?_
  unfold dispatcherlaw15_CollAll_F
  refine CK_st Tryd.func26 rfl rfl (awake_ok hgl) ?_
  rintro _ w1 ⟨rfl, hm1⟩
  simp only [↓VG_u, ↓UG_u, ↓MG_u, ↓NG_u, ↓PG_u, ↓BG_u, ↓CG_u, ↓IG_u, ↓VGtt, ↓VGtf, ↓VGft, ↓VGff, ↓UGtt, ↓UGtf, ↓UGft, ↓UGff, ↓MGtt, ↓MGtf, ↓MGft, ↓MGff, ↓NGtt, ↓NGtf, ↓NGft, ↓NGff, ↓PGtt, ↓PGtf, ↓PGft, ↓PGff, ↓BGtt, ↓BGtf, ↓BGft, ↓BGff, ↓CGtt, ↓CGtf, ↓CGft, ↓CGff, ↓IGtt, ↓IGtf, ↓IGft, ↓IGff, ↓PKt, ↓PKf, ↓CDt, ↓CDf, ↓NOTt, ↓NOTf, ↓NK_ptr]
  refine CK_st Tryd.func29 rfl rfl (may_ok (h.calm hm1)) ?_
  rintro _ w2 ⟨b, rfl, hb, hm2⟩
  have hm02 := hm1.trans hm2
  cases b with
  | false =>
    simp only [↓VG_u, ↓UG_u, ↓MG_u, ↓NG_u, ↓PG_u, ↓BG_u, ↓CG_u, ↓IG_u, ↓VGtt, ↓VGtf, ↓VGft, ↓VGff, ↓UGtt, ↓UGtf, ↓UGft, ↓UGff, ↓MGtt, ↓MGtf, ↓MGft, ↓MGff, ↓NGtt, ↓NGtf, ↓NGft, ↓NGff, ↓PGtt, ↓PGtf, ↓PGft, ↓PGff, ↓BGtt, ↓BGtf, ↓BGft, ↓BGff, ↓CGtt, ↓CGtf, ↓CGft, ↓CGff, ↓IGtt, ↓IGtf, ↓IGft, ↓IGff, ↓PKt, ↓PKf, ↓CDt, ↓CDf, ↓NOTt, ↓NOTf, ↓NK_ptr]
    exact ⟨by first | trivial | rfl, hm02⟩
  | true =>
  obtain ⟨h1, h8, hmay⟩ := hb rfl
  simp only [↓VG_u, ↓UG_u, ↓MG_u, ↓NG_u, ↓PG_u, ↓BG_u, ↓CG_u, ↓IG_u, ↓VGtt, ↓VGtf, ↓VGft, ↓VGff, ↓UGtt, ↓UGtf, ↓UGft, ↓UGff, ↓MGtt, ↓MGtf, ↓MGft, ↓MGff, ↓NGtt, ↓NGtf, ↓NGft, ↓NGff, ↓PGtt, ↓PGtf, ↓PGft, ↓PGff, ↓BGtt, ↓BGtf, ↓BGft, ↓BGff, ↓CGtt, ↓CGtf, ↓CGft, ↓CGff, ↓IGtt, ↓IGtf, ↓IGft, ↓IGff, ↓PKt, ↓PKf, ↓CDt, ↓CDf, ↓NOTt, ↓NOTf, ↓NK_ptr]
  refine CK_st Tryd.func11 rfl rfl (New_ok w2 loose) ?_
  rintro _ w3 ⟨p, V, rfl, hc, _, _, hnew, hm3⟩
  have hc3 : Cs w w3 p loose (lackL l lacks 0) V := ⟨hc, fun b hb => Nat.le_trans hm02.size (hnew b hb), hm02.trans hm3⟩
  obtain ⟨A, c, ev, _⟩ := reads_cap h
  refine W_loop dispatcherlaw15_CollAll_L0_ok (fun ρ w' => ∃ (r : Nat) (fit : Bool) (fv : Value), r ≤ l.length ∧ ρ 10 = .int .i64 r ∧ ρ 8 = .bool fit ∧ ρ 9 = fv ∧ AlS loose v lacks p ρ ∧ AlW w w' p loose l lacks r fit fv) (fun ρ _ => l.length - (intOf (ρ 10)).toNat)
    ⟨0, true, nilS, Nat.zero_le _, rfl, rfl, rfl, ⟨rfl, rfl, rfl, rfl⟩, ⟨⟨V, hc3, fun b hb z => by cases z⟩, rfl, World.ownsRow_nil _ _ _ _, fun _ q hq => by simp at hq⟩⟩ ?_
  rintro ρ w4 ⟨r, fit, fv, hr, e10, e8, e9, es, hw⟩
  rw [dispatcherlaw15_CollAll_L0_eq]; unfold dispatcherlaw15_CollAll_L0_F
  rw [e10, es.h0, es.h1, ev, len_sl vPts, ← ev, BK_lss]
  by_cases hlt : r < l.length
  · rw [decide_eq_true (by omega)]
    refine condT ?_
    have hx : l[r]? = some l[r] := List.getElem?_eq_getElem hlt
    generalize l[r] = q at *
    obtain ⟨g, hix, hat⟩ := pts_at h hx
    obtain ⟨V4, hc4, _⟩ := hw.cs
    have hg := hat w4 hc4.mod
    have nxt : ∀ (ρ' : Sl) (w' : World) fit' fv', AlW w w' p loose l lacks (r + 1) fit' fv' → AlS loose v lacks p ρ' → ρ' 8 = .bool fit' → ρ' 9 = fv' → ρ' 10 = .int .i64 (r + 1 : Nat) → (∃ (r : Nat) (fit : Bool) (fv : Value), r ≤ l.length ∧ ρ' 10 = .int .i64 r ∧ ρ' 8 = .bool fit ∧ ρ' 9 = fv ∧ AlS loose v lacks p ρ' ∧ AlW w w' p loose l lacks r fit fv) ∧ l.length - (intOf (ρ' 10)).toNat < l.length - (intOf (.int .i64 (r : Int))).toNat := by
      intro ρ2 w5 fit' fv' hw' es' z8 z9 z10
      refine ⟨⟨r + 1, fit', fv', hlt, z10, z8, z9, es', hw'⟩, ?_⟩
      rw [z10]
      simp only [intOf]; omega
    cases loose with
    | false =>
      simp only [↓VG_u, ↓UG_u, ↓MG_u, ↓NG_u, ↓PG_u, ↓BG_u, ↓CG_u, ↓IG_u, ↓VGtt, ↓VGtf, ↓VGft, ↓VGff, ↓UGtt, ↓UGtf, ↓UGft, ↓UGff, ↓MGtt, ↓MGtf, ↓MGft, ↓MGff, ↓NGtt, ↓NGtf, ↓NGft, ↓NGff, ↓PGtt, ↓PGtf, ↓PGft, ↓PGff, ↓BGtt, ↓BGtf, ↓BGft, ↓BGff, ↓CGtt, ↓CGtf, ↓CGft, ↓CGff, ↓IGtt, ↓IGtf, ↓IGft, ↓IGff, ↓PKt, ↓PKf, ↓CDt, ↓CDf, ↓NOTt, ↓NOTf, ↓NK_ptr]
      refine all_go h h1 h8 hmay hx hw es e8 e9 e10 nxt rfl (fun z => by cases z) fun i hi => by repeat rw [up_at, if_neg (by omega)]
    | true =>
      simp only [↓VG_u, ↓UG_u, ↓MG_u, ↓NG_u, ↓PG_u, ↓BG_u, ↓CG_u, ↓IG_u, ↓VGtt, ↓VGtf, ↓VGft, ↓VGff, ↓UGtt, ↓UGtf, ↓UGft, ↓UGff, ↓MGtt, ↓MGtf, ↓MGft, ↓MGff, ↓NGtt, ↓NGtf, ↓NGft, ↓NGff, ↓PGtt, ↓PGtf, ↓PGft, ↓PGff, ↓BGtt, ↓BGtf, ↓BGft, ↓BGff, ↓CGtt, ↓CGtf, ↓CGft, ↓CGff, ↓IGtt, ↓IGtf, ↓IGft, ↓IGff, ↓PKt, ↓PKf, ↓CDt, ↓CDf, ↓NOTt, ↓NOTf, ↓NK_ptr]
      refine VK_of (hix _) ?_
      simp only [↓(fPk hg).e]
      by_cases k1 : q.kind = 15
      · simp only [↓VG_u, ↓UG_u, ↓MG_u, ↓NG_u, ↓PG_u, ↓BG_u, ↓CG_u, ↓IG_u, ↓VGtt, ↓VGtf, ↓VGft, ↓VGff, ↓UGtt, ↓UGtf, ↓UGft, ↓UGff, ↓MGtt, ↓MGtf, ↓MGft, ↓MGff, ↓NGtt, ↓NGtf, ↓NGft, ↓NGff, ↓PGtt, ↓PGtf, ↓PGft, ↓PGff, ↓BGtt, ↓BGtf, ↓BGft, ↓BGff, ↓CGtt, ↓CGtf, ↓CGft, ↓CGff, ↓IGtt, ↓IGtf, ↓IGft, ↓IGff, ↓PKt, ↓PKf, ↓CDt, ↓CDf, ↓NOTt, ↓NOTf, ↓NK_ptr, ↓NEf k1]
        refine all_go h h1 h8 hmay hx hw es e8 e9 e10 nxt rfl (fun _ => by rw [k1]; decide) fun i hi => by repeat rw [up_at, if_neg (by omega)]
      simp only [↓VG_u, ↓UG_u, ↓MG_u, ↓NG_u, ↓PG_u, ↓BG_u, ↓CG_u, ↓IG_u, ↓VGtt, ↓VGtf, ↓VGft, ↓VGff, ↓UGtt, ↓UGtf, ↓UGft, ↓UGff, ↓MGtt, ↓MGtf, ↓MGft, ↓MGff, ↓NGtt, ↓NGtf, ↓NGft, ↓NGff, ↓PGtt, ↓PGtf, ↓PGft, ↓PGff, ↓BGtt, ↓BGtf, ↓BGft, ↓BGff, ↓CGtt, ↓CGtf, ↓CGft, ↓CGff, ↓IGtt, ↓IGtf, ↓IGft, ↓IGff, ↓PKt, ↓PKf, ↓CDt, ↓CDf, ↓NOTt, ↓NOTf, ↓NK_ptr, ↓NEt k1]
      refine VK_of (hix _) ?_
      simp only [↓(fPk hg).e]
      by_cases k2 : q.kind = 18
      · simp only [↓VG_u, ↓UG_u, ↓MG_u, ↓NG_u, ↓PG_u, ↓BG_u, ↓CG_u, ↓IG_u, ↓VGtt, ↓VGtf, ↓VGft, ↓VGff, ↓UGtt, ↓UGtf, ↓UGft, ↓UGff, ↓MGtt, ↓MGtf, ↓MGft, ↓MGff, ↓NGtt, ↓NGtf, ↓NGft, ↓NGff, ↓PGtt, ↓PGtf, ↓PGft, ↓PGff, ↓BGtt, ↓BGtf, ↓BGft, ↓BGff, ↓CGtt, ↓CGtf, ↓CGft, ↓CGff, ↓IGtt, ↓IGtf, ↓IGft, ↓IGff, ↓PKt, ↓PKf, ↓CDt, ↓CDf, ↓NOTt, ↓NOTf, ↓NK_ptr, ↓NEf k2]
        refine all_go h h1 h8 hmay hx hw es e8 e9 e10 nxt rfl (fun _ => by rw [k2]; decide) fun i hi => by repeat rw [up_at, if_neg (by omega)]
      simp only [↓VG_u, ↓UG_u, ↓MG_u, ↓NG_u, ↓PG_u, ↓BG_u, ↓CG_u, ↓IG_u, ↓VGtt, ↓VGtf, ↓VGft, ↓VGff, ↓UGtt, ↓UGtf, ↓UGft, ↓UGff, ↓MGtt, ↓MGtf, ↓MGft, ↓MGff, ↓NGtt, ↓NGtf, ↓NGft, ↓NGff, ↓PGtt, ↓PGtf, ↓PGft, ↓PGff, ↓BGtt, ↓BGtf, ↓BGft, ↓BGff, ↓CGtt, ↓CGtf, ↓CGft, ↓CGff, ↓IGtt, ↓IGtf, ↓IGft, ↓IGff, ↓PKt, ↓PKf, ↓CDt, ↓CDf, ↓NOTt, ↓NOTf, ↓NK_ptr, ↓NEt k2]
      refine VK_of (hix _) ?_
      simp only [↓(fPk hg).e]
      by_cases k3 : q.kind = 20
      · simp only [↓VG_u, ↓UG_u, ↓MG_u, ↓NG_u, ↓PG_u, ↓BG_u, ↓CG_u, ↓IG_u, ↓VGtt, ↓VGtf, ↓VGft, ↓VGff, ↓UGtt, ↓UGtf, ↓UGft, ↓UGff, ↓MGtt, ↓MGtf, ↓MGft, ↓MGff, ↓NGtt, ↓NGtf, ↓NGft, ↓NGff, ↓PGtt, ↓PGtf, ↓PGft, ↓PGff, ↓BGtt, ↓BGtf, ↓BGft, ↓BGff, ↓CGtt, ↓CGtf, ↓CGft, ↓CGff, ↓IGtt, ↓IGtf, ↓IGft, ↓IGff, ↓PKt, ↓PKf, ↓CDt, ↓CDf, ↓NOTt, ↓NOTf, ↓NK_ptr, ↓NEf k3]
        refine all_go h h1 h8 hmay hx hw es e8 e9 e10 nxt rfl (fun _ => by rw [k3]; decide) fun i hi => by repeat rw [up_at, if_neg (by omega)]
      simp only [↓VG_u, ↓UG_u, ↓MG_u, ↓NG_u, ↓PG_u, ↓BG_u, ↓CG_u, ↓IG_u, ↓VGtt, ↓VGtf, ↓VGft, ↓VGff, ↓UGtt, ↓UGtf, ↓UGft, ↓UGff, ↓MGtt, ↓MGtf, ↓MGft, ↓MGff, ↓NGtt, ↓NGtf, ↓NGft, ↓NGff, ↓PGtt, ↓PGtf, ↓PGft, ↓PGff, ↓BGtt, ↓BGtf, ↓BGft, ↓BGff, ↓CGtt, ↓CGtf, ↓CGft, ↓CGff, ↓IGtt, ↓IGtf, ↓IGft, ↓IGff, ↓PKt, ↓PKf, ↓CDt, ↓CDf, ↓NOTt, ↓NOTf, ↓NK_ptr, ↓NEt k3]
      refine VK_of (hix _) ?_
      simp only [↓(fPk hg).e]
      by_cases k4 : q.kind = 21
      · simp only [↓VG_u, ↓UG_u, ↓MG_u, ↓NG_u, ↓PG_u, ↓BG_u, ↓CG_u, ↓IG_u, ↓VGtt, ↓VGtf, ↓VGft, ↓VGff, ↓UGtt, ↓UGtf, ↓UGft, ↓UGff, ↓MGtt, ↓MGtf, ↓MGft, ↓MGff, ↓NGtt, ↓NGtf, ↓NGft, ↓NGff, ↓PGtt, ↓PGtf, ↓PGft, ↓PGff, ↓BGtt, ↓BGtf, ↓BGft, ↓BGff, ↓CGtt, ↓CGtf, ↓CGft, ↓CGff, ↓IGtt, ↓IGtf, ↓IGft, ↓IGff, ↓PKt, ↓PKf, ↓CDt, ↓CDf, ↓NOTt, ↓NOTf, ↓NK_ptr, ↓NEf k4]
        refine all_go h h1 h8 hmay hx hw es e8 e9 e10 nxt rfl (fun _ => by rw [k4]; decide) fun i hi => by repeat rw [up_at, if_neg (by omega)]
      simp only [↓VG_u, ↓UG_u, ↓MG_u, ↓NG_u, ↓PG_u, ↓BG_u, ↓CG_u, ↓IG_u, ↓VGtt, ↓VGtf, ↓VGft, ↓VGff, ↓UGtt, ↓UGtf, ↓UGft, ↓UGff, ↓MGtt, ↓MGtf, ↓MGft, ↓MGff, ↓NGtt, ↓NGtf, ↓NGft, ↓NGff, ↓PGtt, ↓PGtf, ↓PGft, ↓PGff, ↓BGtt, ↓BGtf, ↓BGft, ↓BGff, ↓CGtt, ↓CGtf, ↓CGft, ↓CGff, ↓IGtt, ↓IGtf, ↓IGft, ↓IGff, ↓PKt, ↓PKf, ↓CDt, ↓CDf, ↓NOTt, ↓NOTf, ↓NK_ptr, ↓NEt k4]
      exact all_ret rfl ⟨rfl, hc4.mod⟩
  · obtain rfl : r = l.length := by omega
    rw [decide_eq_false (by omega)]
    refine condF ?_
    rw [sq_x, bk_x, sq_n]
    exact all_R1 hgl h h1 h8 hw (es.of fun i hi => by repeat rw [up_at, if_neg (by omega)]) e8
end
end Go.Proofs.YtandbmnhghmcgaaDoor.Col
set_option linter.unusedVariables false
set_option maxRecDepth 8000
namespace Go.X
open Go Go.RowKit
def in64 (n : Int) : Prop := -9223372036854775808 ≤ n ∧ n ≤ 9223372036854775807
theorem in64_of {n : Int} (h : (Lit.int .i64 n).wf = true) : in64 n := by
  simp [Lit.wf, IntKind.min, IntKind.max, IntKind.signed, IntKind.bits, IntKind.has] at h
  unfold in64
  omega
end Go.X
namespace Go.Proofs.YtandbmnhghmcgaaDoor.Col
open Go Go.X Go.RowKit
def shPt : Sh Pt := ⟨6, fun w p cs => cs = p.enc ∧ in64 p.color ∧ in64 p.val⟩
theorem opensPt (n : Nat) : OpensAt Tryd.prog n shPt 34 :=
  opens_as (opens_struct Tryd.underlying34 (by kernel_rfl) (fun m _ => fields_cons rfl (by kernel_rfl) (opens_int Tryd.underlying5) (fields_cons rfl (by kernel_rfl) (opens_int Tryd.underlying3) (fields_cons rfl (by kernel_rfl) (opens_int Tryd.underlying5)
    (fields_cons rfl (by kernel_rfl) (opens_int Tryd.underlying2) (fields_cons rfl (by kernel_rfl) (opens_int Tryd.underlying3) (fields_one rfl (by kernel_rfl) (opens_int Tryd.underlying3))))))))
    (fun x => (⟨x.1, x.2.1, x.2.2.1, x.2.2.2.1, x.2.2.2.2.1, x.2.2.2.2.2⟩ : Pt))
    (fun w v cs h => by
      obtain ⟨c0, d0, rfl, _, ⟨rfl, h0⟩, c1, d1, rfl, _, ⟨rfl, h1⟩, c2, d2, rfl, _, ⟨rfl, h2⟩, c3, d3, rfl, _, ⟨rfl, h3⟩, c4, d4, rfl, _, ⟨rfl, h4⟩, ⟨h5, h6⟩⟩ := h
      subst h5
      exact ⟨rfl, in64_of h4, in64_of h3⟩)
theorem opensPts (n : Nat) : OpensAt Tryd.prog n (Sh.slice shPt) tPts := opens_slice vPts (by kernel_rfl) (fun m _ => opensPt m)
theorem sh_mem {α : Type} {k : Sh α} {w : World} {x : Value × List α} {cs : List Value} (h : (Sh.slice k).K w x cs) : ∀ a ∈ x.2, ∃ d, k.K w a d := by
  intro a ha
  obtain ⟨_, _, A, c, hv, hc, hr⟩ := h
  obtain ⟨i, hi⟩ := List.getElem?_of_mem ha
  obtain ⟨_, d, _, _, hd, _⟩ := hr i a hi
  exact ⟨d, hd⟩
theorem Pts_of {w : World} {x : Value × List Pt} {cs : List Value} (h : (Sh.slice shPt).K w x cs) : reads w 6 x.1 x.2.length (x.2.flatMap Pt.enc) ∧ ∀ p ∈ x.2, in64 p.color ∧ in64 p.val :=
  ⟨reads_sh h Pt.enc (fun _ => rfl) (fun _ _ hd => hd.1), fun a ha => by obtain ⟨d, hd⟩ := sh_mem h a ha; exact hd.2⟩
theorem gl_of {W : World} (h : laidMetH Tryd.prog [("math/bits.deBruijn32tab", Rows.laid_math_bits_deBruijn32tab), ("math/bits.deBruijn64tab", Rows.laid_math_bits_deBruijn64tab), ("internal/strconv.uint64pow10", Rows.laid_internal_strconv_uint64pow10)] W) : Gl W := by
  rw [MakeChecks.laidMetH_plain _ _ _ (by kernel_rfl)] at h
  obtain ⟨ps, ⟨g, t, cs, fuel, p, q, hg, ht, hv, hd, ⟨g2, t2, cs2, fuel2, p2, q2, hg2, ht2, hv2, hd2, ⟨g3, t3, cs3, fuel3, p3, q3, hg3, ht3, hv3, hd3, _, _⟩, _⟩, _⟩, _⟩ := h
  obtain rfl := Option.some.inj ((show Tryd.prog.globalNamed "internal/strconv.uint64pow10" = some 0 by kernel_rfl).symm.trans hg3)
  obtain rfl := Option.some.inj ((show (Tryd.prog.globals[0]?).map (·.type) = some 175 by kernel_rfl).symm.trans ht3)
  have hc := Lib.cells_of_tab (zs := Lib.pow10Tab) (show Tryd.prog.underlying 175 = some (.array 20 154) by kernel_rfl) (show Tryd.prog.underlying 154 = some (.int .u64) by kernel_rfl) (by kernel_rfl) (by kernel_rfl) (show DataW.trod _ _ _ _ _ _ _ _ _ = some (Lib.tabData .u64 Lib.pow10Tab, _) from hd3)
  unfold Gl Lib.TabIs
  rw [hv3, ← hc]
set_option maxRecDepth 100000 in
theorem int_of {W : World} {B : Nat} {v : Value} (h : Value.okWide Tryd.prog W .any B tI v) : ∃ n, v = .int .i64 n ∧ in64 n := by
  simp only [Value.okWide, vI, Cell.okWide] at h
  cases v <;> simp_all [Cell.ok, IntKind.has]
  have := h.2
  simp [IntKind.min, IntKind.max, IntKind.signed, IntKind.bits] at this
  exact this
set_option maxRecDepth 100000 in
theorem bool_of {W : World} {B : Nat} {v : Value} (h : Value.okWide Tryd.prog W .any B 4 v) : ∃ b, v = .bool b := by
  simp only [Value.okWide, vB, Cell.okWide] at h
  cases v <;> simp_all [Cell.ok]
end Go.Proofs.YtandbmnhghmcgaaDoor.Col
