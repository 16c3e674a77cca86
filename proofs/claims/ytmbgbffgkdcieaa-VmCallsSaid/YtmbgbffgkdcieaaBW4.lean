/- Several texts of this repo, one behind the other, without what is not used here. -/
import Derived.Test.YtmbgbffgkdcieaaBW3
set_option linter.unusedVariables false
set_option linter.unusedSimpArgs false
set_option maxRecDepth 4000
namespace Go.Proofs.Ytmbgbffgkdcieaa.Tr
open Go Go.X Go.RowKit Go.Proofs.Ytmbgbffgkdcieaa.XF Go.Proofs.Ytmbgbffgkdcieaa.XK
section
variable {cb ab : Nat} {sl q : Value} {l : List Int} {c : Cl} {w : World} {K : Exit → Sl → World → Prop} {ρ : Sl}
abbrev KA4 (K : Exit → Sl → World → Prop) : Exit → Sl → World → Prop := blkK 0 (seqK (sx fn_ Try.prog 138 vm_Rank_call_R4 K) K)
abbrev KA7 (K : Exit → Sl → World → Prop) : Exit → Sl → World → Prop := seqK (sx fn_ Try.prog 138 vm_Rank_call_R14 (KA4 K)) (KA4 K)
abbrev KA6 (K : Exit → Sl → World → Prop) : Exit → Sl → World → Prop := seqK (sx fn_ Try.prog 138 vm_Rank_call_R13 (blkK 7 (KA7 K))) (blkK 7 (KA7 K))
abbrev KA5 (K : Exit → Sl → World → Prop) : Exit → Sl → World → Prop := seqK (sx fn_ Try.prog 138 vm_Rank_call_R12 (blkK 6 (KA6 K))) (blkK 6 (KA6 K))
abbrev KA3 (K : Exit → Sl → World → Prop) : Exit → Sl → World → Prop := seqK (sx fn_ Try.prog 138 vm_Rank_call_R11 (blkK 5 (KA5 K))) (blkK 5 (KA5 K))
abbrev KA2 (K : Exit → Sl → World → Prop) : Exit → Sl → World → Prop := skK fn_ Try.prog 138 vm_Rank_call_R10 (blkK 4 (KA3 K))
abbrev KA1 (K : Exit → Sl → World → Prop) : Exit → Sl → World → Prop := skK fn_ Try.prog 138 vm_Rank_call_R5 (blkK 3 (KA2 K))
abbrev KA0 (K : Exit → Sl → World → Prop) : Exit → Sl → World → Prop := skK fn_ Try.prog 138 vm_Rank_call_R9 (blkK 2 (KA1 K))
abbrev KA (K : Exit → Sl → World → Prop) : Exit → Sl → World → Prop := skK fn_ Try.prog 138 vm_Rank_call_R7 (skK fn_ Try.prog 138 vm_Rank_call_R8 (blkK 1 (KA0 K)))
theorem EndA.mono {K K' : Sl → World → Prop} {c' : Cl} (h : EndA cb ab sl l ρ w c' q K) (e : ∀ ρ w, K ρ w → K' ρ w) : EndA cb ab sl l ρ w c' q K' := fun ρ' w' a b c d => e _ _ (h ρ' w' a b c d)
theorem EndQ.sk {K : Sl → World → Prop} {c' : Cl} {ρ1 : Sl} (h : EndQ cb ab sl l ρ w c' K) (s : SK ρ ρ1) : EndQ cb ab sl l ρ1 w c' K := fun ρ' w' q' a b c d e => h ρ' w' q' (s.trans a) b c d e
theorem call_parts (h : CM cb ab sl l c (.slice none 0 0) w) (hso : ∀ k, sb sl k → k < w.heap.size) (e4 : ρ 4 = .pointer (some ⟨cb, 0, none⟩)) (e6 : ρ 6 = .pointer (some ⟨ab, 0, none⟩)) (e7 : ρ 7 = numF ab) (hlen : l.length ≤ 1000)
    (hc0 : c = { zCl with kind := c.kind, op := c.op })
    (h1 : 1 ≤ c.kind ∧ c.kind ≤ 5 → l.length = 5) (h2 : c.kind = 6 ∨ c.kind = 7 ∨ c.kind = 13 ∨ c.kind = 14 → l.length = 3) (h3 : c.kind = 15 ∨ c.kind = 20 ∨ c.kind = 22 → l.length = 1) (h4 : c.kind = 18 → l.length = 2) (h5 : c.kind = 21 → l.length = 3) (h6 : c.kind = 16 ∨ c.kind = 17 ∨ c.kind = 19 → l.length = 3) (h7 : 1 ≤ c.kind ∧ c.kind ≤ 22)
    (h48 : ρ 48 = .int .u8 c.kind) {t : Bool} (h49 : ρ 49 = .bool t) (ht : t = true → 1 ≤ c.kind ∧ c.kind ≤ 5) (hf : t = false → ¬ (1 ≤ c.kind ∧ c.kind ≤ 5))
    (hk : EndQ cb ab sl l ρ w (callV c.kind c.op l) (sx fn_ Try.prog 138 vm_Rank_call_R4 K)) : sx fn_ Try.prog 138 vm_Rank_call_R6 (KA K) ρ w := by
  have fin : ∀ {ρ1 ρ2 : Sl} {w2 : World} {c' : Cl} {K' : Exit → Sl → World → Prop}, SK ρ ρ1 → (∀ ρ w, sx fn_ Try.prog 138 vm_Rank_call_R4 K ρ w → K' (.exit 0) ρ w) → c' = callV c.kind c.op l → c'.reqs = [] → Mod (fun b => b = cb) w w2 → SK ρ1 ρ2 → EndA cb ab sl l ρ2 w2 c' (.slice none 0 0) (K' (.exit 0)) := fun {ρ1 ρ2 w2 c' K'} s hK hc hr hm s2 ρ' w' a b cc d => by
    refine hK _ _ (hk ρ' w' (.slice none 0 0) ((s.trans s2).trans a) (hc ▸ b) (hm.trans cc) (by rw [← hc, hr]; exact reads_nil _ _) fun k z => by cases z)
  refine call_R6 h49 (fun q => ?_) (fun q => ?_)
  · have k1 := ht q
    show sx fn_ Try.prog 138 vm_Rank_call_R9 (blkK 2 (KA1 K)) ρ w
    refine call_R9 h e4 e6 e7 (by have := h1 k1; omega) fun ρ' w' a b m z => ?_
    show sx fn_ Try.prog 138 vm_Rank_call_R5 (blkK 3 (KA2 K)) ρ' w'
    refine call_R5 b (a.e4.trans e4) (a.e7.trans e7) (by have := h1 k1; omega) (fin (ρ1 := ρ) ⟨rfl, rfl, rfl, rfl, rfl, rfl⟩ (fun _ _ y => y) ?_ ?_ m a)
    · rw [hc0]; unfold callV; simp [k1, zCl]
    · rw [hc0]; rfl
  have k1 := hf q
  show sx fn_ Try.prog 138 vm_Rank_call_R7 (skK fn_ Try.prog 138 vm_Rank_call_R8 (blkK 1 (KA0 K))) ρ w
  refine call_R7 h48 (fun k2 ρ' s => ?_) (fun k2 ρ' s => ?_)
  · show sx fn_ Try.prog 138 vm_Rank_call_R5 (blkK 3 (KA2 K)) ρ' w
    refine call_R5 h (s.e4.trans e4) (s.e7.trans e7) (by have := h2 k2; omega) (fin (ρ1 := ρ') s (fun _ _ y => y) ?_ ?_ (Mod.refl _ _) ⟨rfl, rfl, rfl, rfl, rfl, rfl⟩)
    · rw [hc0]; unfold callV; simp [k1, k2, zCl]
    · rw [hc0]; rfl
  refine call_R16 (s.e48.trans h48) (fun k3 ρ2 s2 => ?_) (fun k3 ρ2 s2 => ?_)
  · show sx fn_ Try.prog 138 vm_Rank_call_R10 (blkK 4 (KA3 K)) ρ2 w
    have s' := s.trans s2
    refine call_R10 h hso (s'.e4.trans e4) (s'.e6.trans e6) (s'.e7.trans e7) hlen fun ρ' w' q' a b m r z => ?_
    show sx fn_ Try.prog 138 vm_Rank_call_R4 K ρ' w'
    have ec : { c with reqs := l } = callV c.kind c.op l := by rw [hc0]; unfold callV; simp [k1, k2, k3, zCl]
    refine hk ρ' w' q' (s'.trans a) (ec ▸ b) m (by rw [← ec]; exact r) z
  have s' := s.trans s2
  refine call_R24 (s'.e48.trans h48) (fun k4 ρ3 s3 => ?_) (fun k4 ρ3 s3 => ?_) (fun k4 ρ3 s3 => ?_) (fun n1 n2 n3 n4 n5 ρ3 s3 => ?_)
  · show sx fn_ Try.prog 138 vm_Rank_call_R11 (blkK 5 (KA5 K)) ρ3 w
    have s4 := s'.trans s3
    refine call_R11 h (s4.e4.trans e4) (s4.e7.trans e7) (by have := h3 k4; omega) (fin (ρ1 := ρ3) s4 (fun _ _ y => y) ?_ ?_ (Mod.refl _ _) ⟨rfl, rfl, rfl, rfl, rfl, rfl⟩)
    · rw [hc0]; unfold callV; simp [k1, k2, k3, k4, zCl]
    · rw [hc0]; rfl
  · show sx fn_ Try.prog 138 vm_Rank_call_R12 (blkK 6 (KA6 K)) ρ3 w
    have s4 := s'.trans s3
    refine call_R12 h (s4.e4.trans e4) (s4.e6.trans e6) (s4.e7.trans e7) (by have := h4 k4; omega) (fin (ρ1 := ρ3) s4 (fun _ _ y => y) ?_ ?_ (Mod.refl _ _) ⟨rfl, rfl, rfl, rfl, rfl, rfl⟩)
    · rw [hc0]; unfold callV; simp [k1, k2, k3, k4, zCl]
    · rw [hc0]; rfl
  · show sx fn_ Try.prog 138 vm_Rank_call_R13 (blkK 7 (KA7 K)) ρ3 w
    have s4 := s'.trans s3
    refine call_R13 h (s4.e4.trans e4) (s4.e7.trans e7) (by have := h5 k4; omega) (fin (ρ1 := ρ3) s4 (fun _ _ y => y) ?_ ?_ (Mod.refl _ _) ⟨rfl, rfl, rfl, rfl, rfl, rfl⟩)
    · rw [hc0]; unfold callV; simp [k1, k2, k3, k4, zCl]
    · rw [hc0]; rfl
  · show sx fn_ Try.prog 138 vm_Rank_call_R8 (blkK 1 (KA0 K)) ρ3 w
    rw [vm_Rank_call_R8_eq]; unfold vm_Rank_call_R8_F
    show sx fn_ Try.prog 138 vm_Rank_call_R14 (KA4 K) ρ3 w
    have s4 := s'.trans s3
    refine call_R14 h (s4.e4.trans e4) (s4.e6.trans e6) (s4.e7.trans e7) (by have := h6 (by omega); omega) (fin (ρ1 := ρ3) s4 (fun _ _ y => y) ?_ ?_ (Mod.refl _ _) ⟨rfl, rfl, rfl, rfl, rfl, rfl⟩)
    · rw [hc0]; unfold callV; simp [k1, k2, k3, n1, n2, n3, n4, n5, zCl]
    · rw [hc0]; rfl
theorem call_R3 (h : CM cb ab sl l c (.slice none 0 0) w) (hso : ∀ k, sb sl k → k < w.heap.size) (e4 : ρ 4 = .pointer (some ⟨cb, 0, none⟩)) (e6 : ρ 6 = .pointer (some ⟨ab, 0, none⟩)) (hlen : l.length ≤ 1000)
    (hc0 : c = { zCl with kind := c.kind, op := c.op })
    (h1 : 1 ≤ c.kind ∧ c.kind ≤ 5 → l.length = 5) (h2 : c.kind = 6 ∨ c.kind = 7 ∨ c.kind = 13 ∨ c.kind = 14 → l.length = 3) (h3 : c.kind = 15 ∨ c.kind = 20 ∨ c.kind = 22 → l.length = 1) (h4 : c.kind = 18 → l.length = 2) (h5 : c.kind = 21 → l.length = 3) (h6 : c.kind = 16 ∨ c.kind = 17 ∨ c.kind = 19 → l.length = 3) (h7 : 1 ≤ c.kind ∧ c.kind ≤ 22)
    (hk : ∀ ρ' w' q', ρ' 0 = ρ 0 → ρ' 4 = ρ 4 → CM cb ab sl l (callV c.kind c.op l) q' w' → Mod (fun b => b = cb) w w' → reads w' 1 q' (callV c.kind c.op l).reqs.length (i64s (callV c.kind c.op l).reqs) → (∀ k, sb q' k → w.heap.size ≤ k ∧ k < w'.heap.size) → sx fn_ Try.prog 138 vm_Rank_call_R4 K ρ' w') : sx fn_ Try.prog 138 vm_Rank_call_R3 K ρ w := by
  rw [vm_Rank_call_R3_eq]; unfold vm_Rank_call_R3_F
  rw [e4, e6, mkFunc]
  have f0 : FO Try.prog w 36 0 0 ⟨cb, 0, none⟩ 5 (.int .u8 c.kind) := FO.blk h.hc (by kernel_rfl) vU8 rfl rfl
  rw [f0.e]
  have go : ∀ (ρ' : Sl) (t : Bool), ρ' 0 = ρ 0 → ρ' 4 = ρ 4 → ρ' 6 = ρ 6 → ρ' 7 = numF ab → ρ' 48 = .int .u8 c.kind → ρ' 49 = .bool t → (t = true → 1 ≤ c.kind ∧ c.kind ≤ 5) → (t = false → ¬ (1 ≤ c.kind ∧ c.kind ≤ 5)) → sx fn_ Try.prog 138 vm_Rank_call_R6 (KA K) ρ' w := fun ρ' t a0 a4 a6 a7 a48 a49 ht hf =>
    call_parts h hso (a4.trans e4) (a6.trans e6) a7 hlen hc0 h1 h2 h3 h4 h5 h6 h7 a48 a49 ht hf fun ρ2 w2 q2 s b m r z => hk ρ2 w2 q2 (s.e0.trans a0) (s.e4.trans a4) b m r z
  refine caseI (fun q => ?_) (fun n1 => ?_)
  · refine condT ?_; exact go _ true rfl rfl rfl rfl rfl rfl (fun _ => by omega) (fun z => by cases z)
  refine condF ?_
  refine caseI (fun q => ?_) (fun n2 => ?_)
  · refine condT ?_; exact go _ true rfl rfl rfl rfl rfl rfl (fun _ => by omega) (fun z => by cases z)
  refine condF ?_
  refine caseI (fun q => ?_) (fun n3 => ?_)
  · refine condT ?_; exact go _ true rfl rfl rfl rfl rfl rfl (fun _ => by omega) (fun z => by cases z)
  refine condF ?_
  refine caseI (fun q => ?_) (fun n4 => ?_)
  · refine condT ?_; exact go _ true rfl rfl rfl rfl rfl rfl (fun _ => by omega) (fun z => by cases z)
  refine condF ?_
  refine caseI (fun q => ?_) (fun n5 => ?_)
  · exact go _ true rfl rfl rfl rfl rfl rfl (fun _ => by omega) (fun z => by cases z)
  · exact go _ false rfl rfl rfl rfl rfl rfl (fun z => by cases z) (fun _ => by omega)
end
end Go.Proofs.Ytmbgbffgkdcieaa.Tr
set_option linter.unusedVariables false
set_option linter.unusedSimpArgs false
set_option maxRecDepth 4000
namespace Go.Proofs.Ytmbgbffgkdcieaa.Tr
open Go Go.X Go.RowKit Go.Proofs.Ytmbgbffgkdcieaa.XF Go.Proofs.Ytmbgbffgkdcieaa.XK
theorem zCl_z : (Try.prog.info? 36).bind (·.zero) = some (.agg (clC zCl (.slice none 0 0)).toArray) := by kernel_rfl
theorem iCl : (Try.prog.info? 36).map (·.size) = some 11 := by kernel_rfl
theorem zNs_z : (Try.prog.info? 22).bind (·.zero) = some (.slice none 0 0) := by kernel_rfl
theorem built_call (k o : Int) : Try.prog.built 36 [(0, .int .u8 k), (7, .int .u8 o)] = some (clC { zCl with kind := k, op := o } (.slice none 0 0)).toArray := by kernel_rfl
theorem built_outc (c : Cl) (A : Option Addr) (n m : Nat) : Try.prog.built 38 [(0, .int .u8 1), (1, .agg (clC c (.slice A n m)).toArray)] = some ([Value.int .u8 1] ++ clC c (.slice A n m) ++ [Value.int .u8 0]).toArray := by kernel_rfl
theorem stH {P : Program} {w : World} {K : Value → World → Prop} {t ty : TypeId} {b o : Nat} {cs : Array Value} {v : Value} (hc1 : P.cellsOf t = 1) (hv : v.oneCell' = true) (hb : w.heap[b]? = some (.cells cs ty (0, 0))) (ho : o < cs.size)
    (hk : ∀ w', w'.heap[b]? = some (.cells (cs.setIfInBounds o v) ty (0, 0)) → Mod (fun k => k = b) w w' → w'.heap.size = w.heap.size → K undef w') : UK P (Instr.storeAt t (.pointer (some ⟨b, o, none⟩)) v) w K := stC rfl hc1 hv hb ho hk
theorem doV28 {s : Rk} {n : Int} {lo : Nat} (h : s.stack.length - (n / 32 % 32).toNat = lo) : s.doV ⟨28, n⟩ = { s with stack := s.stack.take lo, kind := 1, call := callV (n % 32) (n / 1024) (s.stack.drop lo), fault := 0 } := by subst h; rfl
theorem call_ok : CallC := by
  intro w p s V n h hk hn hle
  obtain ⟨m1, m2, m3, m4, m5⟩ := Rk.argsV_many hn
  obtain ⟨c1, c2, c3, c4, c5, c6, c7, c8⟩ := call_len hn
  have hst := hk.st
  have hpw : p < w.heap.size := h.old p (.inl (.inl rfl))
  refine vm_Rank_call_calls ?_
  unfold vm_Rank_call_F
  rw [BK_rem (by decide), Int.tmod_eq_emod_of_nonneg m2, conv_k (k := .u8) (by kernel_rfl) (by kernel_rfl), BK_quo (by decide), Int.tdiv_eq_ediv_of_nonneg m2, conv_k (k := .u8) (by kernel_rfl) (by kernel_rfl)]
  rw [show IntKind.u8.wrap (n % 32) = n % 32 by rw [IntKind.wrap_u8]; omega, show IntKind.u8.wrap (IntKind.i64.wrap (n / 1024)) = n / 1024 by rw [wrap_i (by omega) (by omega), IntKind.wrap_u8]; omega]
  rw [build_ok (built_call _ _)]
  refine al_k (cs := (clC zCl (.slice none 0 0)).toArray) zCl_z rfl _ fun w1 hb1 hm1 hz1 => ?_
  refine stS (cs := (clC { zCl with kind := n % 32, op := n / 1024 } (.slice none 0 0)).toArray) (old := (clC zCl (.slice none 0 0)).toArray) rfl rfl (by rw [iCl]; rfl) rfl (by simp [clC, Value.oneCell']) hb1 fun w2 hb2 hm2 hz2 => ?_
  rw [BK_quo (by decide), Int.tdiv_eq_ediv_of_nonneg m2, wrap_i (n := n / 32) (by omega) (by omega), BK_rem (by decide), Int.tmod_eq_emod_of_nonneg (by omega)]
  obtain ⟨many, hmany⟩ : ∃ many : Nat, n / 32 % 32 = (many : Int) := ⟨(n / 32 % 32).toNat, by omega⟩
  obtain ⟨lo, hlo⟩ : ∃ lo : Nat, s.stack.length = lo + many := ⟨s.stack.length - many, by omega⟩
  rw [hmany]
  obtain ⟨c', hc'⟩ : ∃ c', c' = callV (n % 32) (n / 1024) (s.stack.drop lo) := ⟨_, rfl⟩
  have e28 : s.doV ⟨28, n⟩ = { s with stack := s.stack.take lo, kind := 1, call := c', fault := 0 } := by rw [hc']; exact doV28 (by omega)
  rw [e28]
  have hm02 : Mod none_ w w2 := hm1.then hm2 fun i hi q => by omega
  have h2 := h.calm hm02
  have hst2 := h2.stack
  rw [hlo] at hst2
  obtain ⟨g, cap, eV, hcap, hpop, harg⟩ := owns_cut hst2 (by omega)
  refine vm_Rank_call_R0_held (D := []) (fun w' => Mod none_ w2 w') ((Mod.refl _ w2).drawn _) ?_
  have hd2 : Mod none_ w2 { w2 with drawn := w2.drawn + 1 } := (Mod.refl _ w2).drawn _
  have hdz : ({ w2 with drawn := w2.drawn + 1 } : World).heap.size = w2.heap.size := rfl
  generalize ({ w2 with drawn := w2.drawn + 1 } : World) = wd at *
  unfold vm_Rank_call_R0_H
  simp only [sq_n, sq_x, sq_r, bk_n, bk_r, bk_x, rt_r, rt_n, rs_0, rs_t, pk_1, pk_2, up_at, reduceIte, Nat.reduceEqDiff]
  have rf : ∀ w', (Instr.fieldAt tR (.pointer (some ⟨p, 0, none⟩)) 4).run Try.prog w' = .ok (.pointer (some ⟨p, 6, none⟩)) w' := fun w' => by rw [run_fo (off := 6) (by kernel_rfl), add_pl]
  have rl : ∀ w', Mod none_ w2 w' → (Instr.loadAt 22 (.pointer (some ⟨p, 6, none⟩))).run Try.prog w' = .ok V.s w' := fun w' hm => run_ld1 vNs rfl (by rw [cell_blk ((h2.calm hm).blk)]; rfl)
  refine HN_ptr (HV_of (fun w' _ => rf w') (HV_of (fun w' hw => rl w' hw) (HN_ptr (HV_of (fun w' _ => rf w') (HV_of (fun w' hw => rl w' hw) ?_)))))
  rw [eV]
  refine HI_len vNs _ _ _ _ ?_
  have esub : ∀ w' (x y : Operand), (do eqGuard .sub 3 x y (.int .i64 ((lo + many : Nat) : Int)) (.int .i64 (many : Int)); binOp .sub 3 (.int .i64 ((lo + many : Nat) : Int)) (.int .i64 (many : Int)) : Sem Value).run Try.prog w' = .ok (.int .i64 (lo : Int)) w' := fun w' x y => by
    have : IntKind.i64.wrap (((lo + many : Nat) : Int) - (many : Int)) = (lo : Int) := by rw [wrap_i (by omega) (by omega)]; omega
    have this2 : IntKind.i64.wrap (lo : Int) = (lo : Int) := wrap_i (by omega) (by omega)
    simp [go_sem, Sem.run_bind, eqGuard, this, this2]
  refine HV_of (fun w' _ => esub w' _ _) ?_
  have hslo : ∀ w', (Instr.sliceAt 22 (.slice (some ⟨g, 0, none⟩) (lo + many) cap) (some (.int .i64 (lo : Int))) none none).run Try.prog w' = .ok (.slice (some ⟨g, lo, none⟩) many (cap - lo)) w' := fun w' => by
    obtain ⟨z, hz, hzs⟩ := info_of (show Try.prog.cellsOf 2 = 0 + 1 from cN)
    rw [run_sliceAt_slice (h := elem_of vNs), run_slice_l w' 22 (some ⟨g, 0, none⟩) (lo + many) cap (elem_of vNs) .i64 (lo : Int) (by omega) (by omega), show Try.prog.elem 22 = 2 by simp [Program.elem, vNs]]
    simp [sizeOf, typeInfo, hz, hzs, sliced, show ¬ cap = lo by omega, add_pl]
  refine HV_of (fun w' _ => hslo w') ?_
  refine al_k (cs := #[.slice none 0 0]) zNs_z rfl _ fun w3 hb3 hm3 hz3 => ⟨hd2.trans hm3, ?_⟩
  refine stC (o := 0) rfl (by kernel_rfl) rfl hb3 (by show 0 < 1; omega) fun w4 hb4 hm4 hz4 => ⟨(hd2.trans hm3).then hm4 fun i hi q => by omega, ?_⟩
  have hm24 : Mod none_ w2 w4 := (hd2.trans hm3).then hm4 fun i hi q => by omega
  have hb4' : w4.heap[wd.heap.size]? = some (.cells #[.slice (some ⟨g, lo, none⟩) many (cap - lo)] 22 (0, 0)) := hb4
  have h4 := h2.calm hm24
  have s1 := hm1.size
  have hcb4 : w4.heap[w.heap.size]? = some (.cells (clC { zCl with kind := n % 32, op := n / 1024 } (.slice none 0 0)).toArray 36 (0, 0)) := hm24.blk hb2 id
  have harg4 := reads_mod harg hm24 fun _ _ _ => id
  have hgp : g ≠ p := fun q => h.dj.sp (by unfold sb; rw [eV, ← q]; rfl)
  have hgw : g < w.heap.size := h.old g (.inl (.inr (.inl (by unfold sb; rw [eV]; rfl))))
  have key : ∀ ρ : Sl, ρ 0 = .pointer (some ⟨p, 0, none⟩) → ρ 4 = .pointer (some ⟨w.heap.size, 0, none⟩) → ρ 6 = .pointer (some ⟨wd.heap.size, 0, none⟩) → ρ 5 = .int .i64 (many : Int) → sx fn_ Try.prog 138 vm_Rank_call_R1 (retK Try.prog [] fun _ w' => ∃ V', RkAt w' p { s with stack := s.stack.take lo, kind := 1, call := c', fault := 0 } V' ∧ Fr p w V w' V') ρ w4 := by
    intro ρ p0 p4 p6 p5
    rw [vm_Rank_call_R1_eq]; unfold vm_Rank_call_R1_F
    refine vm_Rank_call_R2_held (D := []) (fun _ => True) trivial ?_
    have hd4 : Mod none_ w4 { w4 with drawn := w4.drawn + 1 } := (Mod.refl _ w4).drawn _
    have hdz4 : ({ w4 with drawn := w4.drawn + 1 } : World).heap.size = w4.heap.size := rfl
    generalize ({ w4 with drawn := w4.drawn + 1 } : World) = we at *
    have h5 := h4.calm hd4
    unfold vm_Rank_call_R2_H
    rw [p0, p5]
    refine HN_ptr (HV_of (fun w' _ => rf w') (HN_ptr (HV_of (fun w' _ => rf w') ?_)))
    have ld5 : ∀ {K : Value → World → Prop}, K (.slice (some ⟨g, 0, none⟩) (lo + many) cap) we → VK Try.prog (Instr.loadAt 22 (.pointer (some ⟨p, 6, none⟩))) we K := fun hK => by
      rw [← eV] at hK
      exact ld1 vNs rfl (by rw [cell_blk h5.blk]; rfl) hK
    have hshi : ∀ w', (Instr.sliceAt 22 (.slice (some ⟨g, 0, none⟩) (lo + many) cap) none (some (.int .i64 (lo : Int))) none).run Try.prog w' = .ok (.slice (some ⟨g, 0, none⟩) lo cap) w' := fun w' => by
      have := run_cut (P := Try.prog) (t := 22) (e := 2) (sz := 0) vNs cN (A := some ⟨g, 0, none⟩) (n := lo + many) (c := cap) hcap (k := .i64) (i := (lo : Int)) (by omega) (by omega) w'
      rw [this]
      simp [sliced, add_pl]
    have hpop5 := owns_mod (owns_mod hpop hm24 fun _ _ => id) hd4 fun _ _ => id
    have rest : ∀ {ρ : Sl} {w6 : World}, w6.heap[p]? = some (.cells ((rkC s V).toArray.setIfInBounds 6 (.slice (some ⟨g, 0, none⟩) lo cap)) tR (0, 0)) → Mod (fun k => k = p) we w6 → w6.heap.size = we.heap.size → ρ 0 = .pointer (some ⟨p, 0, none⟩) → ρ 4 = .pointer (some ⟨w.heap.size, 0, none⟩) → ρ 6 = .pointer (some ⟨wd.heap.size, 0, none⟩) →
        sx fn_ Try.prog 138 vm_Rank_call_R3 (retK Try.prog [] fun _ w' => ∃ V', RkAt w' p { s with stack := s.stack.take lo, kind := 1, call := c', fault := 0 } V' ∧ Fr p w V w' V') ρ w6 := by
      intro ρ w6 hb6 hm6 hz6 q0 q4 q6
      obtain ⟨r6, fr6⟩ := RkAt.stk (s' := { s with stack := s.stack.take lo }) (v' := .slice (some ⟨g, 0, none⟩) lo cap) h5 (Mod.refl _ _) (by
        have e1 : (i64s s.stack).take lo = i64s (s.stack.take lo) := by unfold i64s; rw [List.map_take]
        rw [e1] at hpop5
        have e2 : (s.stack.take lo).length = lo := by rw [List.length_take]; omega
        show we.ownsRow 0 tN 1 _ (s.stack.take lo).length (i64s (s.stack.take lo))
        rw [e2]; exact hpop5) (.inl (by rw [eV]; rfl)) hm6 hb6 rfl rfl rfl rfl rfl rfl
      have ell : (s.stack.drop lo).length = many := by rw [List.length_drop]; omega
      have hCM : CM w.heap.size wd.heap.size (.slice (some ⟨g, lo, none⟩) many (cap - lo)) (s.stack.drop lo) { zCl with kind := n % 32, op := n / 1024 } (.slice none 0 0) w6 := by
        refine ⟨hm6.blk (hd4.blk hcb4 id) (by omega), hm6.blk (hd4.blk hb4' id) (by omega), ?_, by omega, fun z => absurd (Option.some.inj (show some g = some w.heap.size from z)) (by omega)⟩
        have e1 : (i64s s.stack).drop lo = i64s (s.stack.drop lo) := by unfold i64s; rw [List.map_drop]
        rw [ell, ← e1]
        exact reads_mod (reads_mod harg4 hd4 fun _ _ _ => id) hm6 fun k _ z y => by cases z; exact hgp y
      have s2 := hm24.size
      have s6 := hm6.size
      have hL : ((s.stack.drop lo).length : Int) = n / 32 % 32 := by rw [ell, hmany]
      have hL' : ∀ {m : Nat}, n / 32 % 32 = (m : Int) → (s.stack.drop lo).length = m := fun {m} z => by omega
      refine call_R3 hCM (fun k z => by cases z; show g < _; omega) q4 q6 (by omega) rfl (fun q => hL' (c1 q)) (fun q => hL' (c2 q)) (fun q => hL' (c3 q)) (fun q => hL' (c4 q)) (fun q => hL' (c5 q)) (fun q => hL' (c6 q)) ⟨c7, c8⟩ ?_
      intro ρ' w7 q' a0 a4 hC7 hm7 hr7 hq7
      have hC7' : CM w.heap.size wd.heap.size (.slice (some ⟨g, lo, none⟩) many (cap - lo)) (s.stack.drop lo) c' q' w7 := by rw [hc']; exact hC7
      have hr7' : reads w7 1 q' c'.reqs.length (i64s c'.reqs) := by rw [hc']; exact hr7
      clear hC7 hr7 hc'
      obtain ⟨A, cc, eq, _⟩ := reads_cap hr7'
      have hcbG : ∀ b, ({ V with s := .slice (some ⟨g, 0, none⟩) lo cap } : RkV).G p b → ¬ (fun b => b = w.heap.size) b := fun b q y => by
        have : V.G p b := by
          rcases fr6.g b q with z | z
          · exact z
          · have := s2; omega
        have := h.old b this
        omega
      have r7 := r6.mod hm7 hcbG
      rw [vm_Rank_call_R4_eq]; unfold vm_Rank_call_R4_F
      rw [a0, a4, q0, q4]
      refine ldS rfl Try.underlying36 rfl (by rw [iCl]; rfl) hC7'.hc ?_
      rw [eq, build_ok (built_outc _ _ _ _), NK_ptr, fo (show fieldOff Try.prog tR 9 = some 18 by kernel_rfl), add_pl]
      refine stO (o := 18) (by kernel_rfl) (by show 18 + 13 ≤ 31; omega) (outC_one 1 0 _ A _ _) r7.blk fun w8 hb8 hm8 hz8 => ?_
      have s7 := hm7.size
      obtain ⟨r8, g8⟩ := RkAt.out2 (s' := { s with stack := s.stack.take lo, kind := 1, call := c', fault := 0 }) (r' := V.r) (q' := q') r6 hm7 hcbG r7.row hr7' (fun k q => .inl q) (fun k z => .inr (hq7 k z)) hm8 (by rw [eq, hb8]; rfl) rfl rfl rfl rfl rfl
      refine ⟨_, r8, ⟨?_, ?_, ?_⟩⟩
      · have ma : Mod (V.F p) w we := (hm02.trans (hm24.trans hd4)).mono fun _ _ z => z.elim
        refine ((ma.trans (hm6.mono fun b _ z => .inl z)).then hm7 fun i hi q => by omega).then hm8 fun i hi q => .inl q
      · intro b q
        rcases fr6.f b q with z | z
        · exact .inl z
        · exact .inr (by have := hm02.size; omega)
      · intro b q
        rcases g8 b q with z | z
        · rcases fr6.g b z with y | y
          · exact .inl y
          · exact .inr (by have := hm02.size; omega)
        · exact .inr (by have := hm02.size; omega)
    refine ⟨?_, ?_⟩
    · refine ld5 ⟨trivial, ld5 ⟨trivial, ?_⟩⟩
      refine HI_len vNs _ _ _ _ (HV_of (fun w' _ => esub w' _ _) (HV_of (fun w' _ => hshi w') (HN_ptr (HV_of (fun w' _ => rf w') ?_))))
      refine stH (o := 6) (by kernel_rfl) rfl h5.blk (by show 6 < 31; omega) fun w6 hb6 hm6 hz6 => ⟨trivial, ?_⟩
      try rw [sq_n]
      exact rest hb6 hm6 hz6 p0 p4 p6
    · refine ld5 ⟨trivial, ?_⟩
      refine HI_len vNs _ _ _ _ (HV_of (fun w' _ => esub w' _ _) (ld5 ⟨trivial, HV_of (fun w' _ => hshi w') (HN_ptr (HV_of (fun w' _ => rf w') ?_))⟩))
      refine stH (o := 6) (by kernel_rfl) rfl h5.blk (by show 6 < 31; omega) fun w6 hb6 hm6 hz6 => ⟨trivial, ?_⟩
      try rw [sq_n]
      exact rest hb6 hm6 hz6 p0 p4 p6
  exact key _ rfl rfl rfl rfl
end Go.Proofs.Ytmbgbffgkdcieaa.Tr
set_option linter.unusedVariables false
set_option linter.unusedSimpArgs false
set_option maxRecDepth 4000
namespace Go.Proofs.Ytmbgbffgkdcieaa.Tr
open Go Go.X Go.RowKit Go.Proofs.Ytmbgbffgkdcieaa.XF Go.Proofs.Ytmbgbffgkdcieaa.XK
section
variable {K : Exit → Sl → World → Prop} {ρ : Sl} {w : World} {k : Int}
abbrev AgP (k : Int) (w : World) : Value → World → Prop := fun v w' => v = .tuple #[.int .i64 (lm k).1, .int .i64 (lm k).2] ∧ w' = w
abbrev AgK (k : Int) (w : World) : Exit → Sl → World → Prop := retK Try.prog [ResultVar.tmp 2, ResultVar.tmp 3] (AgP k w)
abbrev AgB (k : Int) (w : World) : Exit → Sl → World → Prop := blkK 0 (seqK (sx fn_ Try.prog 32 dispatcherref02_Args_R1 (AgK k w)) (AgK k w))
theorem lm_of {a b : Int} (h : isCall k = some (a, b)) : lm k = (a, b) := by unfold lm; rw [h]; rfl
theorem ArgsR_R4 {t : Bool} (h28 : ρ 28 = .bool t) (ht : t = true → lm k = (1, 8)) (hf : t = false → lm k = (0, 0)) : sx fn_ Try.prog 32 dispatcherref02_Args_R4 (AgB k w) ρ w := by
  rw [dispatcherref02_Args_R4_eq]; unfold dispatcherref02_Args_R4_F
  rw [h28]
  refine caseC (fun q => ?_) (fun q => ?_)
  · exact ⟨by rw [ht q]; rfl, rfl⟩
  · show sx fn_ Try.prog 32 dispatcherref02_Args_R1 (AgK k w) ρ w
    rw [dispatcherref02_Args_R1_eq]; unfold dispatcherref02_Args_R1_F
    exact ⟨by rw [hf q]; rfl, rfl⟩
theorem ArgsR_R3 {t : Bool} (h22 : ρ 22 = .bool t) (h4 : ρ 4 = .int .u8 k) (ht : t = true → lm k = (1, 1)) (hf : t = false → (k = 9 ∨ k = 10 ∨ k = 12 ∨ lm k = (0, 0))) : sx fn_ Try.prog 32 dispatcherref02_Args_R3 (AgB k w) ρ w := by
  rw [dispatcherref02_Args_R3_eq]; unfold dispatcherref02_Args_R3_F
  rw [h22, h4]
  refine caseC (fun q => ?_) (fun q => ?_)
  · exact ⟨by rw [ht q]; rfl, rfl⟩
  have h0 := hf q
  have step : ∀ (ρ' : Sl) (t : Bool), ρ' 28 = .bool t → (t = true → k = 9 ∨ k = 10 ∨ k = 12) → (t = false → k ≠ 9 ∧ k ≠ 10 ∧ k ≠ 12) → sx fn_ Try.prog 32 dispatcherref02_Args_R4 (AgB k w) ρ' w := fun ρ' t a ht hf => ArgsR_R4 a (fun z => by rcases ht z with rfl | rfl | rfl <;> rfl) (fun z => by
    obtain ⟨a, b, c⟩ := hf z
    rcases h0 with d | d | d | d
    · exact absurd d a
    · exact absurd d b
    · exact absurd d c
    · exact d)
  iterate 2 (refine caseI (fun q => condT (step _ true rfl (fun _ => by omega) (fun z => by cases z))) (fun _ => condF ?_))
  exact caseI (fun q => step _ true rfl (fun _ => by omega) (fun z => by cases z)) (fun _ => step _ false rfl (fun z => by cases z) (fun _ => by omega))
theorem lm_none (h : ¬ (1 ≤ k ∧ k ≤ 22)) : lm k = (0, 0) := by
  unfold lm isCall
  rw [if_neg (by omega), if_neg (by omega), if_neg (by omega), if_neg (by omega), if_neg h]; rfl
theorem ArgsR_R2 {t : Bool} (h11 : ρ 11 = .bool t) (h4 : ρ 4 = .int .u8 k) (ht : t = true → lm k = (3, 3)) (hf : t = false → ¬ (1 ≤ k ∧ k ≤ 5) ∧ k ≠ 6 ∧ k ≠ 7 ∧ k ≠ 13 ∧ k ≠ 14 ∧ k ≠ 16 ∧ k ≠ 19 ∧ k ≠ 17 ∧ k ≠ 21) : sx fn_ Try.prog 32 dispatcherref02_Args_R2 (AgB k w) ρ w := by
  rw [dispatcherref02_Args_R2_eq]; unfold dispatcherref02_Args_R2_F
  rw [h11, h4]
  refine caseC (fun q => ?_) (fun q => ?_)
  · exact ⟨by rw [ht q]; rfl, rfl⟩
  have h0 := hf q
  refine caseI (fun q => condT ?_) (fun n18 => condF ?_)
  · exact ⟨by rw [q]; rfl, rfl⟩
  have step : ∀ (ρ' : Sl) (t : Bool), ρ' 22 = .bool t → ρ' 4 = .int .u8 k → (t = true → k = 8 ∨ k = 11 ∨ k = 15 ∨ k = 20 ∨ k = 22) → (t = false → k ≠ 8 ∧ k ≠ 11 ∧ k ≠ 15 ∧ k ≠ 20 ∧ k ≠ 22) → sx fn_ Try.prog 32 dispatcherref02_Args_R3 (AgB k w) ρ' w := fun ρ' t a a4 ht hf => ArgsR_R3 a a4 (fun z => by rcases ht z with rfl | rfl | rfl | rfl | rfl <;> rfl) (fun z => by
    have := hf z
    by_cases c : k = 9 ∨ k = 10 ∨ k = 12
    · rcases c with c | c | c
      · exact .inl c
      · exact .inr (.inl c)
      · exact .inr (.inr (.inl c))
    · exact .inr (.inr (.inr (lm_none (by omega)))))
  iterate 4 (refine caseI (fun q => condT (step _ true rfl h4 (fun _ => by omega) (fun z => by cases z))) (fun _ => condF ?_))
  exact caseI (fun q => step _ true rfl h4 (fun _ => by omega) (fun z => by cases z)) (fun _ => step _ false rfl h4 (fun z => by cases z) (fun _ => by omega))
theorem ArgsR_R0 {t : Bool} (h5 : ρ 5 = .bool t) (h4 : ρ 4 = .int .u8 k) (ht : t = true → 1 ≤ k ∧ k ≤ 5) (hf : t = false → ¬ (1 ≤ k ∧ k ≤ 5)) : sx fn_ Try.prog 32 dispatcherref02_Args_R0 (AgB k w) ρ w := by
  rw [dispatcherref02_Args_R0_eq]; unfold dispatcherref02_Args_R0_F
  rw [h5, h4]
  refine caseC (fun q => ?_) (fun q => ?_)
  · exact ⟨by rw [lm_of (k := k) (a := 5) (b := 5) (by unfold isCall; rw [if_pos (ht q)])]; rfl, rfl⟩
  have h0 := hf q
  have step : ∀ (ρ' : Sl) (t : Bool), ρ' 11 = .bool t → ρ' 4 = .int .u8 k → (t = true → k = 6 ∨ k = 7 ∨ k = 13 ∨ k = 14 ∨ k = 16 ∨ k = 19 ∨ k = 17 ∨ k = 21) → (t = false → k ≠ 6 ∧ k ≠ 7 ∧ k ≠ 13 ∧ k ≠ 14 ∧ k ≠ 16 ∧ k ≠ 19 ∧ k ≠ 17 ∧ k ≠ 21) → sx fn_ Try.prog 32 dispatcherref02_Args_R2 (AgB k w) ρ' w := fun ρ' t a a4 ht hf => ArgsR_R2 a a4 (fun z => by rcases ht z with rfl | rfl | rfl | rfl | rfl | rfl | rfl | rfl <;> rfl) (fun z => ⟨h0, hf z⟩)
  iterate 7 (refine caseI (fun q => condT (step _ true rfl h4 (fun _ => by omega) (fun z => by cases z))) (fun _ => condF ?_))
  exact caseI (fun q => step _ true rfl h4 (fun _ => by omega) (fun z => by cases z)) (fun _ => step _ false rfl h4 (fun z => by cases z) (fun _ => by omega))
theorem ArgsR_ok (k : Int) (w : World) : Rt Try.prog 12 #[.int .u8 k] w (AgP k w) := by
  refine dispatcherref02_Args_calls ?_
  unfold dispatcherref02_Args_F
  have step : ∀ (ρ' : Sl) (t : Bool), ρ' 5 = .bool t → ρ' 4 = .int .u8 k → (t = true → 1 ≤ k ∧ k ≤ 5) → (t = false → ¬ (1 ≤ k ∧ k ≤ 5)) → sx fn_ Try.prog 32 dispatcherref02_Args_R0 (AgB k w) ρ' w := fun ρ' t a a4 ht hf => ArgsR_R0 a a4 ht hf
  iterate 4 (refine caseI (fun q => condT (step _ true rfl rfl (fun _ => by omega) (fun z => by cases z))) (fun _ => condF ?_))
  exact caseI (fun q => step _ true rfl rfl (fun _ => by omega) (fun z => by cases z)) (fun _ => step _ false rfl rfl (fun z => by cases z) (fun _ => by omega))
theorem Reduces_ok (k : Int) (w : World) : Rt Try.prog 13 #[.int .u8 k] w fun v w' => v = .bool (decide (k = 17) || decide (k = 18)) ∧ w' = w := by
  refine dispatcherref02_Reduces_calls ?_
  unfold dispatcherref02_Reduces_F
  by_cases c : k = 17
  · simp only [↓VG_u, ↓UG_u, ↓MG_u, ↓NG_u, ↓PG_u, ↓BG_u, ↓CG_u, ↓IG_u, ↓VGtt, ↓VGtf, ↓VGft, ↓VGff, ↓UGtt, ↓UGtf, ↓UGft, ↓UGff, ↓MGtt, ↓MGtf, ↓MGft, ↓MGff, ↓NGtt, ↓NGtf, ↓NGft, ↓NGff, ↓PGtt, ↓PGtf, ↓PGft, ↓PGff, ↓BGtt, ↓BGtf, ↓BGft, ↓BGff, ↓CGtt, ↓CGtf, ↓CGft, ↓CGff, ↓IGtt, ↓IGtf, ↓IGft, ↓IGff, ↓PKt, ↓PKf, ↓CDt, ↓CDf, ↓NOTt, ↓NOTf, ↓NK_ptr, ↓EQt c]
    exact ⟨by simp [c], by trivial⟩
  · simp only [↓VG_u, ↓UG_u, ↓MG_u, ↓NG_u, ↓PG_u, ↓BG_u, ↓CG_u, ↓IG_u, ↓VGtt, ↓VGtf, ↓VGft, ↓VGff, ↓UGtt, ↓UGtf, ↓UGft, ↓UGff, ↓MGtt, ↓MGtf, ↓MGft, ↓MGff, ↓NGtt, ↓NGtf, ↓NGft, ↓NGff, ↓PGtt, ↓PGtf, ↓PGft, ↓PGff, ↓BGtt, ↓BGtf, ↓BGft, ↓BGff, ↓CGtt, ↓CGtf, ↓CGft, ↓CGff, ↓IGtt, ↓IGtf, ↓IGft, ↓IGff, ↓PKt, ↓PKf, ↓CDt, ↓CDf, ↓NOTt, ↓NOTf, ↓NK_ptr, ↓EQf c]
    by_cases d : k = 18
    · simp only [↓VG_u, ↓UG_u, ↓MG_u, ↓NG_u, ↓PG_u, ↓BG_u, ↓CG_u, ↓IG_u, ↓VGtt, ↓VGtf, ↓VGft, ↓VGff, ↓UGtt, ↓UGtf, ↓UGft, ↓UGff, ↓MGtt, ↓MGtf, ↓MGft, ↓MGff, ↓NGtt, ↓NGtf, ↓NGft, ↓NGff, ↓PGtt, ↓PGtf, ↓PGft, ↓PGff, ↓BGtt, ↓BGtf, ↓BGft, ↓BGff, ↓CGtt, ↓CGtf, ↓CGft, ↓CGff, ↓IGtt, ↓IGtf, ↓IGft, ↓IGff, ↓PKt, ↓PKf, ↓CDt, ↓CDf, ↓NOTt, ↓NOTf, ↓NK_ptr, ↓EQt d]
      exact ⟨by simp [d], by trivial⟩
    · simp only [↓VG_u, ↓UG_u, ↓MG_u, ↓NG_u, ↓PG_u, ↓BG_u, ↓CG_u, ↓IG_u, ↓VGtt, ↓VGtf, ↓VGft, ↓VGff, ↓UGtt, ↓UGtf, ↓UGft, ↓UGff, ↓MGtt, ↓MGtf, ↓MGft, ↓MGff, ↓NGtt, ↓NGtf, ↓NGft, ↓NGff, ↓PGtt, ↓PGtf, ↓PGft, ↓PGff, ↓BGtt, ↓BGtf, ↓BGft, ↓BGff, ↓CGtt, ↓CGtf, ↓CGft, ↓CGff, ↓IGtt, ↓IGtf, ↓IGft, ↓IGff, ↓PKt, ↓PKf, ↓CDt, ↓CDf, ↓NOTt, ↓NOTf, ↓NK_ptr, ↓EQf d]
      exact ⟨by simp [c, d], by trivial⟩
abbrev CrP (n : Int) (w : World) : Value → World → Prop := fun v w' => v = (if 0 ≤ argsV n then .tuple #[.int .u8 (n % 32), .int .i64 (argsV n), .int .u8 (n / 1024), .bool true] else .tuple #[.int .u8 0, .int .i64 0, .int .u8 0, .bool false]) ∧ w' = w
theorem argsV_lm {n : Int} (h0 : 0 ≤ n) (h1 : n < 3072) : argsV n = if (lm (n % 32)).2 = 0 ∨ n / 32 % 32 < (lm (n % 32)).1 ∨ (lm (n % 32)).2 < n / 32 % 32 ∨ (0 < n / 1024 ∧ n % 32 ≠ 17 ∧ n % 32 ≠ 18) then -1 else n / 32 % 32 := by
  have e : n % 1024 / 32 = n / 32 % 32 := by omega
  unfold argsV
  rw [if_neg (by omega), e]
  unfold lm
  cases hc : isCall (n % 32) with
  | none => simp
  | some ab =>
    obtain ⟨a, b⟩ := ab
    have hb : b ≠ 0 := by
      unfold isCall at hc
      repeat' split at hc
      all_goals first | (cases hc; decide) | cases hc
    simp only [Option.getD_some, hb, false_or]
theorem CallR_ok (n : Int) (hn : n < 9223372036854775808) (hn2 : -9223372036854775808 ≤ n) (w : World) : Rt Try.prog 5 #[.int .i64 n] w (CrP n w) := by
  refine dispatcherref05_Call_calls ?_
  unfold dispatcherref05_Call_F
  by_cases c0 : n < 0
  · simp only [↓VG_u, ↓UG_u, ↓MG_u, ↓NG_u, ↓PG_u, ↓BG_u, ↓CG_u, ↓IG_u, ↓VGtt, ↓VGtf, ↓VGft, ↓VGff, ↓UGtt, ↓UGtf, ↓UGft, ↓UGff, ↓MGtt, ↓MGtf, ↓MGft, ↓MGff, ↓NGtt, ↓NGtf, ↓NGft, ↓NGff, ↓PGtt, ↓PGtf, ↓PGft, ↓PGff, ↓BGtt, ↓BGtf, ↓BGft, ↓BGff, ↓CGtt, ↓CGtf, ↓CGft, ↓CGff, ↓IGtt, ↓IGtf, ↓IGft, ↓IGff, ↓PKt, ↓PKf, ↓CDt, ↓CDf, ↓NOTt, ↓NOTf, ↓NK_ptr, ↓LTt c0]
    refine ⟨?_, by trivial⟩
    have : argsV n = -1 := by unfold argsV; rw [if_pos (.inl c0)]
    rw [if_neg (by omega)]
  simp only [↓VG_u, ↓UG_u, ↓MG_u, ↓NG_u, ↓PG_u, ↓BG_u, ↓CG_u, ↓IG_u, ↓VGtt, ↓VGtf, ↓VGft, ↓VGff, ↓UGtt, ↓UGtf, ↓UGft, ↓UGff, ↓MGtt, ↓MGtf, ↓MGft, ↓MGff, ↓NGtt, ↓NGtf, ↓NGft, ↓NGff, ↓PGtt, ↓PGtf, ↓PGft, ↓PGff, ↓BGtt, ↓BGtf, ↓BGft, ↓BGff, ↓CGtt, ↓CGtf, ↓CGft, ↓CGff, ↓IGtt, ↓IGtf, ↓IGft, ↓IGff, ↓PKt, ↓PKf, ↓CDt, ↓CDf, ↓NOTt, ↓NOTf, ↓NK_ptr, ↓LTf (show (0 : Int) ≤ n by omega)]
  by_cases c1 : 3071 < n
  · simp only [↓VG_u, ↓UG_u, ↓MG_u, ↓NG_u, ↓PG_u, ↓BG_u, ↓CG_u, ↓IG_u, ↓VGtt, ↓VGtf, ↓VGft, ↓VGff, ↓UGtt, ↓UGtf, ↓UGft, ↓UGff, ↓MGtt, ↓MGtf, ↓MGft, ↓MGff, ↓NGtt, ↓NGtf, ↓NGft, ↓NGff, ↓PGtt, ↓PGtf, ↓PGft, ↓PGff, ↓BGtt, ↓BGtf, ↓BGft, ↓BGff, ↓CGtt, ↓CGtf, ↓CGft, ↓CGff, ↓IGtt, ↓IGtf, ↓IGft, ↓IGff, ↓PKt, ↓PKf, ↓CDt, ↓CDf, ↓NOTt, ↓NOTf, ↓NK_ptr, ↓GTt c1]
    refine ⟨?_, by trivial⟩
    have : argsV n = -1 := by unfold argsV; rw [if_pos (.inr (by omega))]
    rw [if_neg (by omega)]
  simp only [↓VG_u, ↓UG_u, ↓MG_u, ↓NG_u, ↓PG_u, ↓BG_u, ↓CG_u, ↓IG_u, ↓VGtt, ↓VGtf, ↓VGft, ↓VGff, ↓UGtt, ↓UGtf, ↓UGft, ↓UGff, ↓MGtt, ↓MGtf, ↓MGft, ↓MGff, ↓NGtt, ↓NGtf, ↓NGft, ↓NGff, ↓PGtt, ↓PGtf, ↓PGft, ↓PGff, ↓BGtt, ↓BGtf, ↓BGft, ↓BGff, ↓CGtt, ↓CGtf, ↓CGft, ↓CGff, ↓IGtt, ↓IGtf, ↓IGft, ↓IGff, ↓PKt, ↓PKf, ↓CDt, ↓CDf, ↓NOTt, ↓NOTf, ↓NK_ptr, ↓GTf (show n ≤ 3071 by omega)]
  rw [BK_rem (by decide), Int.tmod_eq_emod_of_nonneg (by omega), conv_k (k := .u8) (by kernel_rfl) (by kernel_rfl), BK_quo (by decide), Int.tdiv_eq_ediv_of_nonneg (by omega), BK_rem (by decide), Int.tmod_eq_emod_of_nonneg (by rw [wrap_i (by omega) (by omega)]; omega), BK_quo (by decide), Int.tdiv_eq_ediv_of_nonneg (by omega), conv_k (k := .u8) (by kernel_rfl) (by kernel_rfl)]
  rw [show IntKind.u8.wrap (n % 32) = n % 32 by rw [IntKind.wrap_u8]; omega, show IntKind.u8.wrap (IntKind.i64.wrap (n / 1024)) = n / 1024 by rw [wrap_i (by omega) (by omega), IntKind.wrap_u8]; omega, wrap_i (n := n / 32) (by omega) (by omega)]
  refine CK_st Try.func12 rfl rfl (ArgsR_ok _ _) ?_
  rintro _ w' ⟨rfl, rfl⟩
  rw [extract_ok (v := .int .i64 (lm (n % 32)).1) rfl, extract_ok (v := .int .i64 (lm (n % 32)).2) rfl]
  have key : ∀ ρ : Sl, ρ 6 = .int .u8 (n % 32) → ρ 7 = .int .i64 (n / 32 % 32) → ρ 8 = .int .u8 (n / 1024) → ρ 9 = .int .i64 (lm (n % 32)).1 → ρ 10 = .int .i64 (lm (n % 32)).2 → sx fn_ Try.prog 55 dispatcherref05_Call_R0 (retK Try.prog [ResultVar.tmp 2, ResultVar.tmp 3, ResultVar.tmp 4, ResultVar.tmp 5] (CrP n w')) ρ w' := by
    intro ρ e6 e7 e8 e9 e10
    rw [dispatcherref05_Call_R0_eq]; unfold dispatcherref05_Call_R0_F
    rw [e6, e7, e8, e9, e10]
    have av := argsV_lm (n := n) (by omega) (by omega)
    have bad : argsV n = -1 → CrP n w' (.tuple #[.int .u8 0, .int .i64 0, .int .u8 0, .bool false]) w' := fun z => ⟨by rw [if_neg (by omega)], rfl⟩
    have good : argsV n = n / 32 % 32 → CrP n w' (.tuple #[.int .u8 (n % 32), .int .i64 (n / 32 % 32), .int .u8 (n / 1024), .bool true]) w' := fun z => ⟨by rw [if_pos (by omega), z], rfl⟩
    by_cases d0 : (lm (n % 32)).2 = 0
    · simp only [↓VG_u, ↓UG_u, ↓MG_u, ↓NG_u, ↓PG_u, ↓BG_u, ↓CG_u, ↓IG_u, ↓VGtt, ↓VGtf, ↓VGft, ↓VGff, ↓UGtt, ↓UGtf, ↓UGft, ↓UGff, ↓MGtt, ↓MGtf, ↓MGft, ↓MGff, ↓NGtt, ↓NGtf, ↓NGft, ↓NGff, ↓PGtt, ↓PGtf, ↓PGft, ↓PGff, ↓BGtt, ↓BGtf, ↓BGft, ↓BGff, ↓CGtt, ↓CGtf, ↓CGft, ↓CGff, ↓IGtt, ↓IGtf, ↓IGft, ↓IGff, ↓PKt, ↓PKf, ↓CDt, ↓CDf, ↓NOTt, ↓NOTf, ↓NK_ptr, ↓EQt d0]
      exact bad (by rw [av, if_pos (.inl d0)])
    simp only [↓VG_u, ↓UG_u, ↓MG_u, ↓NG_u, ↓PG_u, ↓BG_u, ↓CG_u, ↓IG_u, ↓VGtt, ↓VGtf, ↓VGft, ↓VGff, ↓UGtt, ↓UGtf, ↓UGft, ↓UGff, ↓MGtt, ↓MGtf, ↓MGft, ↓MGff, ↓NGtt, ↓NGtf, ↓NGft, ↓NGff, ↓PGtt, ↓PGtf, ↓PGft, ↓PGff, ↓BGtt, ↓BGtf, ↓BGft, ↓BGff, ↓CGtt, ↓CGtf, ↓CGft, ↓CGff, ↓IGtt, ↓IGtf, ↓IGft, ↓IGff, ↓PKt, ↓PKf, ↓CDt, ↓CDf, ↓NOTt, ↓NOTf, ↓NK_ptr, ↓EQf d0]
    by_cases d1 : n / 32 % 32 < (lm (n % 32)).1
    · simp only [↓VG_u, ↓UG_u, ↓MG_u, ↓NG_u, ↓PG_u, ↓BG_u, ↓CG_u, ↓IG_u, ↓VGtt, ↓VGtf, ↓VGft, ↓VGff, ↓UGtt, ↓UGtf, ↓UGft, ↓UGff, ↓MGtt, ↓MGtf, ↓MGft, ↓MGff, ↓NGtt, ↓NGtf, ↓NGft, ↓NGff, ↓PGtt, ↓PGtf, ↓PGft, ↓PGff, ↓BGtt, ↓BGtf, ↓BGft, ↓BGff, ↓CGtt, ↓CGtf, ↓CGft, ↓CGff, ↓IGtt, ↓IGtf, ↓IGft, ↓IGff, ↓PKt, ↓PKf, ↓CDt, ↓CDf, ↓NOTt, ↓NOTf, ↓NK_ptr, ↓LTt d1]
      exact bad (by rw [av, if_pos (.inr (.inl d1))])
    simp only [↓VG_u, ↓UG_u, ↓MG_u, ↓NG_u, ↓PG_u, ↓BG_u, ↓CG_u, ↓IG_u, ↓VGtt, ↓VGtf, ↓VGft, ↓VGff, ↓UGtt, ↓UGtf, ↓UGft, ↓UGff, ↓MGtt, ↓MGtf, ↓MGft, ↓MGff, ↓NGtt, ↓NGtf, ↓NGft, ↓NGff, ↓PGtt, ↓PGtf, ↓PGft, ↓PGff, ↓BGtt, ↓BGtf, ↓BGft, ↓BGff, ↓CGtt, ↓CGtf, ↓CGft, ↓CGff, ↓IGtt, ↓IGtf, ↓IGft, ↓IGff, ↓PKt, ↓PKf, ↓CDt, ↓CDf, ↓NOTt, ↓NOTf, ↓NK_ptr, ↓LTf (Int.not_lt.1 d1)]
    by_cases d2 : (lm (n % 32)).2 < n / 32 % 32
    · simp only [↓VG_u, ↓UG_u, ↓MG_u, ↓NG_u, ↓PG_u, ↓BG_u, ↓CG_u, ↓IG_u, ↓VGtt, ↓VGtf, ↓VGft, ↓VGff, ↓UGtt, ↓UGtf, ↓UGft, ↓UGff, ↓MGtt, ↓MGtf, ↓MGft, ↓MGff, ↓NGtt, ↓NGtf, ↓NGft, ↓NGff, ↓PGtt, ↓PGtf, ↓PGft, ↓PGff, ↓BGtt, ↓BGtf, ↓BGft, ↓BGff, ↓CGtt, ↓CGtf, ↓CGft, ↓CGff, ↓IGtt, ↓IGtf, ↓IGft, ↓IGff, ↓PKt, ↓PKf, ↓CDt, ↓CDf, ↓NOTt, ↓NOTf, ↓NK_ptr, ↓GTt d2]
      exact bad (by rw [av, if_pos (.inr (.inr (.inl d2)))])
    simp only [↓VG_u, ↓UG_u, ↓MG_u, ↓NG_u, ↓PG_u, ↓BG_u, ↓CG_u, ↓IG_u, ↓VGtt, ↓VGtf, ↓VGft, ↓VGff, ↓UGtt, ↓UGtf, ↓UGft, ↓UGff, ↓MGtt, ↓MGtf, ↓MGft, ↓MGff, ↓NGtt, ↓NGtf, ↓NGft, ↓NGff, ↓PGtt, ↓PGtf, ↓PGft, ↓PGff, ↓BGtt, ↓BGtf, ↓BGft, ↓BGff, ↓CGtt, ↓CGtf, ↓CGft, ↓CGff, ↓IGtt, ↓IGtf, ↓IGft, ↓IGff, ↓PKt, ↓PKf, ↓CDt, ↓CDf, ↓NOTt, ↓NOTf, ↓NK_ptr, ↓GTf (Int.not_lt.1 d2)]
    by_cases d3 : 0 < n / 1024
    · simp only [↓VG_u, ↓UG_u, ↓MG_u, ↓NG_u, ↓PG_u, ↓BG_u, ↓CG_u, ↓IG_u, ↓VGtt, ↓VGtf, ↓VGft, ↓VGff, ↓UGtt, ↓UGtf, ↓UGft, ↓UGff, ↓MGtt, ↓MGtf, ↓MGft, ↓MGff, ↓NGtt, ↓NGtf, ↓NGft, ↓NGff, ↓PGtt, ↓PGtf, ↓PGft, ↓PGff, ↓BGtt, ↓BGtf, ↓BGft, ↓BGff, ↓CGtt, ↓CGtf, ↓CGft, ↓CGff, ↓IGtt, ↓IGtf, ↓IGft, ↓IGff, ↓PKt, ↓PKf, ↓CDt, ↓CDf, ↓NOTt, ↓NOTf, ↓NK_ptr, ↓GTt d3]
      refine CK_st Try.func13 rfl rfl (Reduces_ok _ _) ?_
      rintro _ w' ⟨rfl, rfl⟩
      by_cases d4 : n % 32 = 17 ∨ n % 32 = 18
      · rw [show (decide (n % 32 = 17) || decide (n % 32 = 18)) = true by simpa using d4]
        simp only [↓VG_u, ↓UG_u, ↓MG_u, ↓NG_u, ↓PG_u, ↓BG_u, ↓CG_u, ↓IG_u, ↓VGtt, ↓VGtf, ↓VGft, ↓VGff, ↓UGtt, ↓UGtf, ↓UGft, ↓UGff, ↓MGtt, ↓MGtf, ↓MGft, ↓MGff, ↓NGtt, ↓NGtf, ↓NGft, ↓NGff, ↓PGtt, ↓PGtf, ↓PGft, ↓PGff, ↓BGtt, ↓BGtf, ↓BGft, ↓BGff, ↓CGtt, ↓CGtf, ↓CGft, ↓CGff, ↓IGtt, ↓IGtf, ↓IGft, ↓IGff, ↓PKt, ↓PKf, ↓CDt, ↓CDf, ↓NOTt, ↓NOTf, ↓NK_ptr]
        exact good (by rw [av, if_neg (by omega)])
      · rw [show (decide (n % 32 = 17) || decide (n % 32 = 18)) = false by simpa using d4]
        simp only [↓VG_u, ↓UG_u, ↓MG_u, ↓NG_u, ↓PG_u, ↓BG_u, ↓CG_u, ↓IG_u, ↓VGtt, ↓VGtf, ↓VGft, ↓VGff, ↓UGtt, ↓UGtf, ↓UGft, ↓UGff, ↓MGtt, ↓MGtf, ↓MGft, ↓MGff, ↓NGtt, ↓NGtf, ↓NGft, ↓NGff, ↓PGtt, ↓PGtf, ↓PGft, ↓PGff, ↓BGtt, ↓BGtf, ↓BGft, ↓BGff, ↓CGtt, ↓CGtf, ↓CGft, ↓CGff, ↓IGtt, ↓IGtf, ↓IGft, ↓IGff, ↓PKt, ↓PKf, ↓CDt, ↓CDf, ↓NOTt, ↓NOTf, ↓NK_ptr]
        exact bad (by rw [av, if_pos (by omega)])
    · simp only [↓VG_u, ↓UG_u, ↓MG_u, ↓NG_u, ↓PG_u, ↓BG_u, ↓CG_u, ↓IG_u, ↓VGtt, ↓VGtf, ↓VGft, ↓VGff, ↓UGtt, ↓UGtf, ↓UGft, ↓UGff, ↓MGtt, ↓MGtf, ↓MGft, ↓MGff, ↓NGtt, ↓NGtf, ↓NGft, ↓NGff, ↓PGtt, ↓PGtf, ↓PGft, ↓PGff, ↓BGtt, ↓BGtf, ↓BGft, ↓BGff, ↓CGtt, ↓CGtf, ↓CGft, ↓CGff, ↓IGtt, ↓IGtf, ↓IGft, ↓IGff, ↓PKt, ↓PKf, ↓CDt, ↓CDf, ↓NOTt, ↓NOTf, ↓NK_ptr, ↓GTf (Int.not_lt.1 d3)]
      exact good (by rw [av, if_neg (by omega)])
  exact key _ rfl rfl rfl rfl rfl
end
end Go.Proofs.Ytmbgbffgkdcieaa.Tr
set_option linter.unusedVariables false
set_option linter.unusedSimpArgs false
set_option maxRecDepth 4000
namespace Go.Proofs.Ytmbgbffgkdcieaa.Tr
open Go Go.X Go.RowKit Go.Proofs.Ytmbgbffgkdcieaa.XF Go.Proofs.Ytmbgbffgkdcieaa.XK
structure FCl (w : World) (b : Nat) (c : Cl) (q : Value) : Prop where
  f0 : FO Try.prog w 36 0 0 ⟨b, 0, none⟩ 5 (.int .u8 c.kind)
  f1 : FO Try.prog w 36 1 1 ⟨b, 0, none⟩ 3 (.int .i64 c.comm)
  f2 : FO Try.prog w 36 2 2 ⟨b, 0, none⟩ 3 (.int .i64 c.peer)
  f3 : FO Try.prog w 36 3 3 ⟨b, 0, none⟩ 3 (.int .i64 c.tag)
  f4 : FO Try.prog w 36 4 4 ⟨b, 0, none⟩ 2 (.int .i64 c.value)
  f5 : FO Try.prog w 36 5 5 ⟨b, 0, none⟩ 3 (.int .i64 c.size)
  f6 : FO Try.prog w 36 6 6 ⟨b, 0, none⟩ 3 (.int .i64 c.root)
  f7 : FO Try.prog w 36 7 7 ⟨b, 0, none⟩ 5 (.int .u8 c.op)
  f8 : FO Try.prog w 36 8 8 ⟨b, 0, none⟩ 26 q
  f9 : FO Try.prog w 36 9 9 ⟨b, 0, none⟩ 3 (.int .i64 c.color)
  f10 : FO Try.prog w 36 10 10 ⟨b, 0, none⟩ 3 (.int .i64 c.key)
theorem FCl.of {w : World} {b : Nat} {c : Cl} {q : Value} {t : TypeId} {fr : Nat × Nat} (h : w.heap[b]? = some (.cells (clC c q).toArray t fr)) : FCl w b c q :=
  ⟨FO.blk h (by kernel_rfl) vU8 rfl rfl, FO.blk h (by kernel_rfl) vI rfl rfl, FO.blk h (by kernel_rfl) vI rfl rfl, FO.blk h (by kernel_rfl) vI rfl rfl, FO.blk h (by kernel_rfl) vN rfl rfl, FO.blk h (by kernel_rfl) vI rfl rfl, FO.blk h (by kernel_rfl) vI rfl rfl, FO.blk h (by kernel_rfl) vU8 rfl rfl, FO.blk h (by kernel_rfl) vIs rfl rfl, FO.blk h (by kernel_rfl) vI rfl rfl, FO.blk h (by kernel_rfl) vI rfl rfl⟩
theorem SameCall_ok {w : World} {c : Cl} {q1 q2 : Value} (h1 : reads w 1 q1 c.reqs.length (i64s c.reqs)) (h2 : reads w 1 q2 c.reqs.length (i64s c.reqs)) (hl : c.reqs.length ≤ 1000) :
    Rt Try.prog 19 #[.agg (clC c q1).toArray, .agg (clC c q2).toArray] w fun v w' => v = .bool true ∧ Mod none_ w w' := by
  refine dispatcherref07_SameCall_calls ?_
  unfold dispatcherref07_SameCall_F
  refine box_k (cs := (clC c q1).toArray) rfl fun w1 hb1 hm1 hz1 => ?_
  refine box_k (cs := (clC c q2).toArray) rfl fun w2 hb2 hm2 hz2 => ?_
  have A := FCl.of (hm2.blk hb1 id)
  have B := FCl.of hb2
  obtain ⟨A1, k1, e1, _⟩ := reads_cap h1
  obtain ⟨A2, k2, e2, _⟩ := reads_cap h2
  rw [A.f0.e, B.f0.e, NEf rfl]
  simp only [↓VG_u, ↓UG_u, ↓MG_u, ↓NG_u, ↓PG_u, ↓BG_u, ↓CG_u, ↓IG_u, ↓VGtt, ↓VGtf, ↓VGft, ↓VGff, ↓UGtt, ↓UGtf, ↓UGft, ↓UGff, ↓MGtt, ↓MGtf, ↓MGft, ↓MGff, ↓NGtt, ↓NGtf, ↓NGft, ↓NGff, ↓PGtt, ↓PGtf, ↓PGft, ↓PGff, ↓BGtt, ↓BGtf, ↓BGft, ↓BGff, ↓CGtt, ↓CGtf, ↓CGft, ↓CGff, ↓IGtt, ↓IGtf, ↓IGft, ↓IGff, ↓PKt, ↓PKf, ↓CDt, ↓CDf, ↓NOTt, ↓NOTf, ↓NK_ptr]
  rw [A.f1.e]
  try simp only [↓VG_u, ↓UG_u, ↓MG_u, ↓NG_u, ↓PG_u, ↓BG_u, ↓CG_u, ↓IG_u, ↓VGtt, ↓VGtf, ↓VGft, ↓VGff, ↓UGtt, ↓UGtf, ↓UGft, ↓UGff, ↓MGtt, ↓MGtf, ↓MGft, ↓MGff, ↓NGtt, ↓NGtf, ↓NGft, ↓NGff, ↓PGtt, ↓PGtf, ↓PGft, ↓PGff, ↓BGtt, ↓BGtf, ↓BGft, ↓BGff, ↓CGtt, ↓CGtf, ↓CGft, ↓CGff, ↓IGtt, ↓IGtf, ↓IGft, ↓IGff, ↓PKt, ↓PKf, ↓CDt, ↓CDf, ↓NOTt, ↓NOTf, ↓NK_ptr]
  rw [B.f1.e]
  simp only [↓VG_u, ↓UG_u, ↓MG_u, ↓NG_u, ↓PG_u, ↓BG_u, ↓CG_u, ↓IG_u, ↓VGtt, ↓VGtf, ↓VGft, ↓VGff, ↓UGtt, ↓UGtf, ↓UGft, ↓UGff, ↓MGtt, ↓MGtf, ↓MGft, ↓MGff, ↓NGtt, ↓NGtf, ↓NGft, ↓NGff, ↓PGtt, ↓PGtf, ↓PGft, ↓PGff, ↓BGtt, ↓BGtf, ↓BGft, ↓BGff, ↓CGtt, ↓CGtf, ↓CGft, ↓CGff, ↓IGtt, ↓IGtf, ↓IGft, ↓IGff, ↓PKt, ↓PKf, ↓CDt, ↓CDf, ↓NOTt, ↓NOTf, ↓NK_ptr, ↓NEf (rfl : c.comm = c.comm)]
  rw [A.f2.e]
  try simp only [↓VG_u, ↓UG_u, ↓MG_u, ↓NG_u, ↓PG_u, ↓BG_u, ↓CG_u, ↓IG_u, ↓VGtt, ↓VGtf, ↓VGft, ↓VGff, ↓UGtt, ↓UGtf, ↓UGft, ↓UGff, ↓MGtt, ↓MGtf, ↓MGft, ↓MGff, ↓NGtt, ↓NGtf, ↓NGft, ↓NGff, ↓PGtt, ↓PGtf, ↓PGft, ↓PGff, ↓BGtt, ↓BGtf, ↓BGft, ↓BGff, ↓CGtt, ↓CGtf, ↓CGft, ↓CGff, ↓IGtt, ↓IGtf, ↓IGft, ↓IGff, ↓PKt, ↓PKf, ↓CDt, ↓CDf, ↓NOTt, ↓NOTf, ↓NK_ptr]
  rw [B.f2.e]
  simp only [↓VG_u, ↓UG_u, ↓MG_u, ↓NG_u, ↓PG_u, ↓BG_u, ↓CG_u, ↓IG_u, ↓VGtt, ↓VGtf, ↓VGft, ↓VGff, ↓UGtt, ↓UGtf, ↓UGft, ↓UGff, ↓MGtt, ↓MGtf, ↓MGft, ↓MGff, ↓NGtt, ↓NGtf, ↓NGft, ↓NGff, ↓PGtt, ↓PGtf, ↓PGft, ↓PGff, ↓BGtt, ↓BGtf, ↓BGft, ↓BGff, ↓CGtt, ↓CGtf, ↓CGft, ↓CGff, ↓IGtt, ↓IGtf, ↓IGft, ↓IGff, ↓PKt, ↓PKf, ↓CDt, ↓CDf, ↓NOTt, ↓NOTf, ↓NK_ptr, ↓NEf (rfl : c.peer = c.peer)]
  rw [A.f3.e]
  try simp only [↓VG_u, ↓UG_u, ↓MG_u, ↓NG_u, ↓PG_u, ↓BG_u, ↓CG_u, ↓IG_u, ↓VGtt, ↓VGtf, ↓VGft, ↓VGff, ↓UGtt, ↓UGtf, ↓UGft, ↓UGff, ↓MGtt, ↓MGtf, ↓MGft, ↓MGff, ↓NGtt, ↓NGtf, ↓NGft, ↓NGff, ↓PGtt, ↓PGtf, ↓PGft, ↓PGff, ↓BGtt, ↓BGtf, ↓BGft, ↓BGff, ↓CGtt, ↓CGtf, ↓CGft, ↓CGff, ↓IGtt, ↓IGtf, ↓IGft, ↓IGff, ↓PKt, ↓PKf, ↓CDt, ↓CDf, ↓NOTt, ↓NOTf, ↓NK_ptr]
  rw [B.f3.e]
  simp only [↓VG_u, ↓UG_u, ↓MG_u, ↓NG_u, ↓PG_u, ↓BG_u, ↓CG_u, ↓IG_u, ↓VGtt, ↓VGtf, ↓VGft, ↓VGff, ↓UGtt, ↓UGtf, ↓UGft, ↓UGff, ↓MGtt, ↓MGtf, ↓MGft, ↓MGff, ↓NGtt, ↓NGtf, ↓NGft, ↓NGff, ↓PGtt, ↓PGtf, ↓PGft, ↓PGff, ↓BGtt, ↓BGtf, ↓BGft, ↓BGff, ↓CGtt, ↓CGtf, ↓CGft, ↓CGff, ↓IGtt, ↓IGtf, ↓IGft, ↓IGff, ↓PKt, ↓PKf, ↓CDt, ↓CDf, ↓NOTt, ↓NOTf, ↓NK_ptr, ↓NEf (rfl : c.tag = c.tag)]
  rw [A.f4.e]
  try simp only [↓VG_u, ↓UG_u, ↓MG_u, ↓NG_u, ↓PG_u, ↓BG_u, ↓CG_u, ↓IG_u, ↓VGtt, ↓VGtf, ↓VGft, ↓VGff, ↓UGtt, ↓UGtf, ↓UGft, ↓UGff, ↓MGtt, ↓MGtf, ↓MGft, ↓MGff, ↓NGtt, ↓NGtf, ↓NGft, ↓NGff, ↓PGtt, ↓PGtf, ↓PGft, ↓PGff, ↓BGtt, ↓BGtf, ↓BGft, ↓BGff, ↓CGtt, ↓CGtf, ↓CGft, ↓CGff, ↓IGtt, ↓IGtf, ↓IGft, ↓IGff, ↓PKt, ↓PKf, ↓CDt, ↓CDf, ↓NOTt, ↓NOTf, ↓NK_ptr]
  rw [B.f4.e]
  simp only [↓VG_u, ↓UG_u, ↓MG_u, ↓NG_u, ↓PG_u, ↓BG_u, ↓CG_u, ↓IG_u, ↓VGtt, ↓VGtf, ↓VGft, ↓VGff, ↓UGtt, ↓UGtf, ↓UGft, ↓UGff, ↓MGtt, ↓MGtf, ↓MGft, ↓MGff, ↓NGtt, ↓NGtf, ↓NGft, ↓NGff, ↓PGtt, ↓PGtf, ↓PGft, ↓PGff, ↓BGtt, ↓BGtf, ↓BGft, ↓BGff, ↓CGtt, ↓CGtf, ↓CGft, ↓CGff, ↓IGtt, ↓IGtf, ↓IGft, ↓IGff, ↓PKt, ↓PKf, ↓CDt, ↓CDf, ↓NOTt, ↓NOTf, ↓NK_ptr, ↓NEf (rfl : c.value = c.value)]
  rw [A.f5.e]
  try simp only [↓VG_u, ↓UG_u, ↓MG_u, ↓NG_u, ↓PG_u, ↓BG_u, ↓CG_u, ↓IG_u, ↓VGtt, ↓VGtf, ↓VGft, ↓VGff, ↓UGtt, ↓UGtf, ↓UGft, ↓UGff, ↓MGtt, ↓MGtf, ↓MGft, ↓MGff, ↓NGtt, ↓NGtf, ↓NGft, ↓NGff, ↓PGtt, ↓PGtf, ↓PGft, ↓PGff, ↓BGtt, ↓BGtf, ↓BGft, ↓BGff, ↓CGtt, ↓CGtf, ↓CGft, ↓CGff, ↓IGtt, ↓IGtf, ↓IGft, ↓IGff, ↓PKt, ↓PKf, ↓CDt, ↓CDf, ↓NOTt, ↓NOTf, ↓NK_ptr]
  rw [B.f5.e]
  simp only [↓VG_u, ↓UG_u, ↓MG_u, ↓NG_u, ↓PG_u, ↓BG_u, ↓CG_u, ↓IG_u, ↓VGtt, ↓VGtf, ↓VGft, ↓VGff, ↓UGtt, ↓UGtf, ↓UGft, ↓UGff, ↓MGtt, ↓MGtf, ↓MGft, ↓MGff, ↓NGtt, ↓NGtf, ↓NGft, ↓NGff, ↓PGtt, ↓PGtf, ↓PGft, ↓PGff, ↓BGtt, ↓BGtf, ↓BGft, ↓BGff, ↓CGtt, ↓CGtf, ↓CGft, ↓CGff, ↓IGtt, ↓IGtf, ↓IGft, ↓IGff, ↓PKt, ↓PKf, ↓CDt, ↓CDf, ↓NOTt, ↓NOTf, ↓NK_ptr, ↓NEf (rfl : c.size = c.size)]
  rw [A.f6.e]
  try simp only [↓VG_u, ↓UG_u, ↓MG_u, ↓NG_u, ↓PG_u, ↓BG_u, ↓CG_u, ↓IG_u, ↓VGtt, ↓VGtf, ↓VGft, ↓VGff, ↓UGtt, ↓UGtf, ↓UGft, ↓UGff, ↓MGtt, ↓MGtf, ↓MGft, ↓MGff, ↓NGtt, ↓NGtf, ↓NGft, ↓NGff, ↓PGtt, ↓PGtf, ↓PGft, ↓PGff, ↓BGtt, ↓BGtf, ↓BGft, ↓BGff, ↓CGtt, ↓CGtf, ↓CGft, ↓CGff, ↓IGtt, ↓IGtf, ↓IGft, ↓IGff, ↓PKt, ↓PKf, ↓CDt, ↓CDf, ↓NOTt, ↓NOTf, ↓NK_ptr]
  rw [B.f6.e]
  simp only [↓VG_u, ↓UG_u, ↓MG_u, ↓NG_u, ↓PG_u, ↓BG_u, ↓CG_u, ↓IG_u, ↓VGtt, ↓VGtf, ↓VGft, ↓VGff, ↓UGtt, ↓UGtf, ↓UGft, ↓UGff, ↓MGtt, ↓MGtf, ↓MGft, ↓MGff, ↓NGtt, ↓NGtf, ↓NGft, ↓NGff, ↓PGtt, ↓PGtf, ↓PGft, ↓PGff, ↓BGtt, ↓BGtf, ↓BGft, ↓BGff, ↓CGtt, ↓CGtf, ↓CGft, ↓CGff, ↓IGtt, ↓IGtf, ↓IGft, ↓IGff, ↓PKt, ↓PKf, ↓CDt, ↓CDf, ↓NOTt, ↓NOTf, ↓NK_ptr, ↓NEf (rfl : c.root = c.root)]
  rw [A.f7.e]
  try simp only [↓VG_u, ↓UG_u, ↓MG_u, ↓NG_u, ↓PG_u, ↓BG_u, ↓CG_u, ↓IG_u, ↓VGtt, ↓VGtf, ↓VGft, ↓VGff, ↓UGtt, ↓UGtf, ↓UGft, ↓UGff, ↓MGtt, ↓MGtf, ↓MGft, ↓MGff, ↓NGtt, ↓NGtf, ↓NGft, ↓NGff, ↓PGtt, ↓PGtf, ↓PGft, ↓PGff, ↓BGtt, ↓BGtf, ↓BGft, ↓BGff, ↓CGtt, ↓CGtf, ↓CGft, ↓CGff, ↓IGtt, ↓IGtf, ↓IGft, ↓IGff, ↓PKt, ↓PKf, ↓CDt, ↓CDf, ↓NOTt, ↓NOTf, ↓NK_ptr]
  rw [B.f7.e]
  simp only [↓VG_u, ↓UG_u, ↓MG_u, ↓NG_u, ↓PG_u, ↓BG_u, ↓CG_u, ↓IG_u, ↓VGtt, ↓VGtf, ↓VGft, ↓VGff, ↓UGtt, ↓UGtf, ↓UGft, ↓UGff, ↓MGtt, ↓MGtf, ↓MGft, ↓MGff, ↓NGtt, ↓NGtf, ↓NGft, ↓NGff, ↓PGtt, ↓PGtf, ↓PGft, ↓PGff, ↓BGtt, ↓BGtf, ↓BGft, ↓BGff, ↓CGtt, ↓CGtf, ↓CGft, ↓CGff, ↓IGtt, ↓IGtf, ↓IGft, ↓IGff, ↓PKt, ↓PKf, ↓CDt, ↓CDf, ↓NOTt, ↓NOTf, ↓NK_ptr, ↓NEf (rfl : c.op = c.op)]
  rw [A.f9.e]
  try simp only [↓VG_u, ↓UG_u, ↓MG_u, ↓NG_u, ↓PG_u, ↓BG_u, ↓CG_u, ↓IG_u, ↓VGtt, ↓VGtf, ↓VGft, ↓VGff, ↓UGtt, ↓UGtf, ↓UGft, ↓UGff, ↓MGtt, ↓MGtf, ↓MGft, ↓MGff, ↓NGtt, ↓NGtf, ↓NGft, ↓NGff, ↓PGtt, ↓PGtf, ↓PGft, ↓PGff, ↓BGtt, ↓BGtf, ↓BGft, ↓BGff, ↓CGtt, ↓CGtf, ↓CGft, ↓CGff, ↓IGtt, ↓IGtf, ↓IGft, ↓IGff, ↓PKt, ↓PKf, ↓CDt, ↓CDf, ↓NOTt, ↓NOTf, ↓NK_ptr]
  rw [B.f9.e]
  simp only [↓VG_u, ↓UG_u, ↓MG_u, ↓NG_u, ↓PG_u, ↓BG_u, ↓CG_u, ↓IG_u, ↓VGtt, ↓VGtf, ↓VGft, ↓VGff, ↓UGtt, ↓UGtf, ↓UGft, ↓UGff, ↓MGtt, ↓MGtf, ↓MGft, ↓MGff, ↓NGtt, ↓NGtf, ↓NGft, ↓NGff, ↓PGtt, ↓PGtf, ↓PGft, ↓PGff, ↓BGtt, ↓BGtf, ↓BGft, ↓BGff, ↓CGtt, ↓CGtf, ↓CGft, ↓CGff, ↓IGtt, ↓IGtf, ↓IGft, ↓IGff, ↓PKt, ↓PKf, ↓CDt, ↓CDf, ↓NOTt, ↓NOTf, ↓NK_ptr, ↓NEf (rfl : c.color = c.color)]
  rw [A.f10.e]
  try simp only [↓VG_u, ↓UG_u, ↓MG_u, ↓NG_u, ↓PG_u, ↓BG_u, ↓CG_u, ↓IG_u, ↓VGtt, ↓VGtf, ↓VGft, ↓VGff, ↓UGtt, ↓UGtf, ↓UGft, ↓UGff, ↓MGtt, ↓MGtf, ↓MGft, ↓MGff, ↓NGtt, ↓NGtf, ↓NGft, ↓NGff, ↓PGtt, ↓PGtf, ↓PGft, ↓PGff, ↓BGtt, ↓BGtf, ↓BGft, ↓BGff, ↓CGtt, ↓CGtf, ↓CGft, ↓CGff, ↓IGtt, ↓IGtf, ↓IGft, ↓IGff, ↓PKt, ↓PKf, ↓CDt, ↓CDf, ↓NOTt, ↓NOTf, ↓NK_ptr]
  rw [B.f10.e]
  simp only [↓VG_u, ↓UG_u, ↓MG_u, ↓NG_u, ↓PG_u, ↓BG_u, ↓CG_u, ↓IG_u, ↓VGtt, ↓VGtf, ↓VGft, ↓VGff, ↓UGtt, ↓UGtf, ↓UGft, ↓UGff, ↓MGtt, ↓MGtf, ↓MGft, ↓MGff, ↓NGtt, ↓NGtf, ↓NGft, ↓NGff, ↓PGtt, ↓PGtf, ↓PGft, ↓PGff, ↓BGtt, ↓BGtf, ↓BGft, ↓BGff, ↓CGtt, ↓CGtf, ↓CGft, ↓CGff, ↓IGtt, ↓IGtf, ↓IGft, ↓IGff, ↓PKt, ↓PKf, ↓CDt, ↓CDf, ↓NOTt, ↓NOTf, ↓NK_ptr, ↓NEf (rfl : c.key = c.key)]
  rw [A.f8.e]
  try simp only [↓VG_u, ↓UG_u, ↓MG_u, ↓NG_u, ↓PG_u, ↓BG_u, ↓CG_u, ↓IG_u, ↓VGtt, ↓VGtf, ↓VGft, ↓VGff, ↓UGtt, ↓UGtf, ↓UGft, ↓UGff, ↓MGtt, ↓MGtf, ↓MGft, ↓MGff, ↓NGtt, ↓NGtf, ↓NGft, ↓NGff, ↓PGtt, ↓PGtf, ↓PGft, ↓PGff, ↓BGtt, ↓BGtf, ↓BGft, ↓BGff, ↓CGtt, ↓CGtf, ↓CGft, ↓CGff, ↓IGtt, ↓IGtf, ↓IGft, ↓IGff, ↓PKt, ↓PKf, ↓CDt, ↓CDf, ↓NOTt, ↓NOTf, ↓NK_ptr]
  rw [e1, len_sl vIs, ← e1]
  try simp only [↓VG_u, ↓UG_u, ↓MG_u, ↓NG_u, ↓PG_u, ↓BG_u, ↓CG_u, ↓IG_u, ↓VGtt, ↓VGtf, ↓VGft, ↓VGff, ↓UGtt, ↓UGtf, ↓UGft, ↓UGff, ↓MGtt, ↓MGtf, ↓MGft, ↓MGff, ↓NGtt, ↓NGtf, ↓NGft, ↓NGff, ↓PGtt, ↓PGtf, ↓PGft, ↓PGff, ↓BGtt, ↓BGtf, ↓BGft, ↓BGff, ↓CGtt, ↓CGtf, ↓CGft, ↓CGff, ↓IGtt, ↓IGtf, ↓IGft, ↓IGff, ↓PKt, ↓PKf, ↓CDt, ↓CDf, ↓NOTt, ↓NOTf, ↓NK_ptr]
  rw [B.f8.e]
  try simp only [↓VG_u, ↓UG_u, ↓MG_u, ↓NG_u, ↓PG_u, ↓BG_u, ↓CG_u, ↓IG_u, ↓VGtt, ↓VGtf, ↓VGft, ↓VGff, ↓UGtt, ↓UGtf, ↓UGft, ↓UGff, ↓MGtt, ↓MGtf, ↓MGft, ↓MGff, ↓NGtt, ↓NGtf, ↓NGft, ↓NGff, ↓PGtt, ↓PGtf, ↓PGft, ↓PGff, ↓BGtt, ↓BGtf, ↓BGft, ↓BGff, ↓CGtt, ↓CGtf, ↓CGft, ↓CGff, ↓IGtt, ↓IGtf, ↓IGft, ↓IGff, ↓PKt, ↓PKf, ↓CDt, ↓CDf, ↓NOTt, ↓NOTf, ↓NK_ptr]
  rw [e2, len_sl vIs, ← e2]
  try simp only [↓VG_u, ↓UG_u, ↓MG_u, ↓NG_u, ↓PG_u, ↓BG_u, ↓CG_u, ↓IG_u, ↓VGtt, ↓VGtf, ↓VGft, ↓VGff, ↓UGtt, ↓UGtf, ↓UGft, ↓UGff, ↓MGtt, ↓MGtf, ↓MGft, ↓MGff, ↓NGtt, ↓NGtf, ↓NGft, ↓NGff, ↓PGtt, ↓PGtf, ↓PGft, ↓PGff, ↓BGtt, ↓BGtf, ↓BGft, ↓BGff, ↓CGtt, ↓CGtf, ↓CGft, ↓CGff, ↓IGtt, ↓IGtf, ↓IGft, ↓IGff, ↓PKt, ↓PKf, ↓CDt, ↓CDf, ↓NOTt, ↓NOTf, ↓NK_ptr]
  rw [NEf rfl]
  try simp only [↓VG_u, ↓UG_u, ↓MG_u, ↓NG_u, ↓PG_u, ↓BG_u, ↓CG_u, ↓IG_u, ↓VGtt, ↓VGtf, ↓VGft, ↓VGff, ↓UGtt, ↓UGtf, ↓UGft, ↓UGff, ↓MGtt, ↓MGtf, ↓MGft, ↓MGff, ↓NGtt, ↓NGtf, ↓NGft, ↓NGff, ↓PGtt, ↓PGtf, ↓PGft, ↓PGff, ↓BGtt, ↓BGtf, ↓BGft, ↓BGff, ↓CGtt, ↓CGtf, ↓CGft, ↓CGff, ↓IGtt, ↓IGtf, ↓IGft, ↓IGff, ↓PKt, ↓PKf, ↓CDt, ↓CDf, ↓NOTt, ↓NOTf, ↓NK_ptr]
  have key : ∀ ρ : Sl, ρ 2 = .pointer (some ⟨w.heap.size, 0, none⟩) → ρ 3 = .pointer (some ⟨w1.heap.size, 0, none⟩) → ρ 82 = .bool false → sx fn_ Try.prog 101 dispatcherref07_SameCall_R0 (seqK (sx fn_ Try.prog 101 dispatcherref07_SameCall_R1 (retK Try.prog [ResultVar.tmp 4] fun v w' => v = .bool true ∧ Mod none_ w w')) (retK Try.prog [ResultVar.tmp 4] fun v w' => v = .bool true ∧ Mod none_ w w')) ρ w2 := by
    intro ρ x2 x3 x82
    rw [dispatcherref07_SameCall_R0_eq]; unfold dispatcherref07_SameCall_R0_F
    rw [x82]
    refine condF ?_
    rw [sq_n, dispatcherref07_SameCall_R1_eq]; unfold dispatcherref07_SameCall_R1_F
    refine W_loop dispatcherref07_SameCall_L2_ok (fun ρ' w' => ∃ k : Nat, k ≤ c.reqs.length ∧ ρ' 2 = ρ 2 ∧ ρ' 3 = ρ 3 ∧ ρ' 5 = .int .i64 k ∧ Mod none_ w2 w') (fun ρ' _ => c.reqs.length - (intOf (ρ' 5)).toNat) ⟨0, by omega, rfl, rfl, rfl, Mod.refl _ _⟩ ?_
    rintro ρ' w' ⟨k, hk, y2, y3, y5, hm⟩
    rw [dispatcherref07_SameCall_L2_eq]; unfold dispatcherref07_SameCall_L2_F
    rw [y2, y5, x2]
    have A' := FCl.of (hm.blk (hm2.blk hb1 id) id)
    rw [A'.f8.e, e1, len_sl vIs, ← e1, BK_lss]
    by_cases hlt : k < c.reqs.length
    · rw [decide_eq_true (by omega)]
      refine condT ?_
      refine dispatcherref07_SameCall_R4_quiet (D := []) (fun w'' => Mod none_ w2 w'') (hm.drawn _) ?_
      unfold dispatcherref07_SameCall_R4_Q
      simp only [sq_n, sq_x, sq_r, bk_n, bk_r, bk_x, rt_r, rt_n, rs_0, rs_t, pk_1, pk_2, up_at, reduceIte, Nat.reduceEqDiff, y2, y3, y5, x2, x3]
      have g : ∀ {q : Value} {xs : List Int} {b : Nat}, w2.heap[b]? = some (.cells (clC c q).toArray 36 (0, 0)) → ∀ w'', Mod none_ w2 w'' → w''.cell? ((⟨b, 0, none⟩ : Addr).add 8) = some q := fun {q xs b} hb w'' hm => by rw [add_pl, cell_blk (hm.blk hb id)]; rfl
      have hr1 : ∀ w'', Mod none_ w2 w'' → reads w'' 1 q1 c.reqs.length (i64s c.reqs) := fun w'' hm => reads_mod h1 ((hm1.trans hm2).trans hm) fun _ _ _ => id
      have hr2 : ∀ w'', Mod none_ w2 w'' → reads w'' 1 q2 c.reqs.length (i64s c.reqs) := fun w'' hm => reads_mod h2 ((hm1.trans hm2).trans hm) fun _ _ _ => id
      refine Qfo (off := 8) (by kernel_rfl) (Qld vIs rfl (v := q1) (g (xs := []) (hm2.blk hb1 id)) ?_)
      refine q_ixld vIs cI vI rfl hm hr1 (by omega) (by rw [Int.toNat_natCast]; exact i64s_get (getD_at hlt)) fun x => ?_
      refine Qfo (off := 8) (by kernel_rfl) (Qld vIs rfl (v := q2) (g (xs := []) hb2) ?_)
      refine q_ixld vIs cI vI rfl hm hr2 (by omega) (by rw [Int.toNat_natCast]; exact i64s_get (getD_at hlt)) fun x => ?_
      refine Qneq fun w'' hm'' => ?_
      rw [dispatcherref07_SameCall_R5_eq]; unfold dispatcherref07_SameCall_R5_F
      simp only [sq_n, sq_x, sq_r, bk_n, bk_r, bk_x, rt_r, rt_n, rs_0, rs_t, pk_1, pk_2, up_at, reduceIte, Nat.reduceEqDiff, bne_self_eq_false]
      refine condF ?_
      rw [dispatcherref07_SameCall_R6_eq]; unfold dispatcherref07_SameCall_R6_F
      simp only [sq_n, sq_x, sq_r, bk_n, bk_r, bk_x, rt_r, rt_n, rs_0, rs_t, pk_1, pk_2, up_at, reduceIte, Nat.reduceEqDiff, y5]
      rw [BK_add, wrap_i (n := (k : Int) + 1) (by omega) (by omega)]
      refine ⟨⟨k + 1, by omega, y2.trans x2, y3.trans x3, by trivial, hm''⟩, ?_⟩
      simp only [sq_n, sq_x, sq_r, bk_n, bk_r, bk_x, rt_r, rt_n, rs_0, rs_t, pk_1, pk_2, up_at, reduceIte, Nat.reduceEqDiff, intOf]; omega
    · rw [decide_eq_false (by omega)]
      refine condF ?_
      rw [sq_x, bk_x, sq_n, dispatcherref07_SameCall_R3_eq]; unfold dispatcherref07_SameCall_R3_F
      exact ⟨rfl, (hm1.trans hm2).trans hm⟩
  exact key _ rfl rfl rfl
theorem SameOut_ok {w : World} {k f : Int} {c : Cl} {q1 q2 : Value} (h1 : reads w 1 q1 c.reqs.length (i64s c.reqs)) (h2 : reads w 1 q2 c.reqs.length (i64s c.reqs)) (hl : c.reqs.length ≤ 1000) :
    Rt Try.prog 9 #[.agg ([Value.int .u8 k] ++ clC c q1 ++ [Value.int .u8 f]).toArray, .agg ([Value.int .u8 k] ++ clC c q2 ++ [Value.int .u8 f]).toArray] w fun v w' => v = .bool true ∧ Mod none_ w w' := by
  refine dispatcherref07_SameOut_calls ?_
  unfold dispatcherref07_SameOut_F
  refine box_k (cs := ([Value.int .u8 k] ++ clC c q1 ++ [Value.int .u8 f]).toArray) rfl fun w1 hb1 hm1 hz1 => ?_
  refine box_k (cs := ([Value.int .u8 k] ++ clC c q2 ++ [Value.int .u8 f]).toArray) rfl fun w2 hb2 hm2 hz2 => ?_
  have hb1' := hm2.blk hb1 id
  have a0 : FO Try.prog w2 38 0 0 ⟨w.heap.size, 0, none⟩ 5 (.int .u8 k) := FO.blk hb1' (by kernel_rfl) vU8 rfl rfl
  have b0 : FO Try.prog w2 38 0 0 ⟨w1.heap.size, 0, none⟩ 5 (.int .u8 k) := FO.blk hb2 (by kernel_rfl) vU8 rfl rfl
  have a2 : FO Try.prog w2 38 2 12 ⟨w.heap.size, 0, none⟩ 5 (.int .u8 f) := FO.blk hb1' (by kernel_rfl) vU8 rfl rfl
  have b2 : FO Try.prog w2 38 2 12 ⟨w1.heap.size, 0, none⟩ 5 (.int .u8 f) := FO.blk hb2 (by kernel_rfl) vU8 rfl rfl
  rw [a0.e, b0.e, EQt rfl]
  simp only [↓VG_u, ↓UG_u, ↓MG_u, ↓NG_u, ↓PG_u, ↓BG_u, ↓CG_u, ↓IG_u, ↓VGtt, ↓VGtf, ↓VGft, ↓VGff, ↓UGtt, ↓UGtf, ↓UGft, ↓UGff, ↓MGtt, ↓MGtf, ↓MGft, ↓MGff, ↓NGtt, ↓NGtf, ↓NGft, ↓NGff, ↓PGtt, ↓PGtf, ↓PGft, ↓PGff, ↓BGtt, ↓BGtf, ↓BGft, ↓BGff, ↓CGtt, ↓CGtf, ↓CGft, ↓CGff, ↓IGtt, ↓IGtf, ↓IGft, ↓IGff, ↓PKt, ↓PKf, ↓CDt, ↓CDf, ↓NOTt, ↓NOTf, ↓NK_ptr]
  rw [a2.e]
  try simp only [↓VG_u, ↓UG_u, ↓MG_u, ↓NG_u, ↓PG_u, ↓BG_u, ↓CG_u, ↓IG_u, ↓VGtt, ↓VGtf, ↓VGft, ↓VGff, ↓UGtt, ↓UGtf, ↓UGft, ↓UGff, ↓MGtt, ↓MGtf, ↓MGft, ↓MGff, ↓NGtt, ↓NGtf, ↓NGft, ↓NGff, ↓PGtt, ↓PGtf, ↓PGft, ↓PGff, ↓BGtt, ↓BGtf, ↓BGft, ↓BGff, ↓CGtt, ↓CGtf, ↓CGft, ↓CGff, ↓IGtt, ↓IGtf, ↓IGft, ↓IGff, ↓PKt, ↓PKf, ↓CDt, ↓CDf, ↓NOTt, ↓NOTf, ↓NK_ptr]
  rw [b2.e]
  try simp only [↓VG_u, ↓UG_u, ↓MG_u, ↓NG_u, ↓PG_u, ↓BG_u, ↓CG_u, ↓IG_u, ↓VGtt, ↓VGtf, ↓VGft, ↓VGff, ↓UGtt, ↓UGtf, ↓UGft, ↓UGff, ↓MGtt, ↓MGtf, ↓MGft, ↓MGff, ↓NGtt, ↓NGtf, ↓NGft, ↓NGff, ↓PGtt, ↓PGtf, ↓PGft, ↓PGff, ↓BGtt, ↓BGtf, ↓BGft, ↓BGff, ↓CGtt, ↓CGtf, ↓CGft, ↓CGff, ↓IGtt, ↓IGtf, ↓IGft, ↓IGff, ↓PKt, ↓PKf, ↓CDt, ↓CDf, ↓NOTt, ↓NOTf, ↓NK_ptr]
  rw [EQt rfl]
  simp only [↓VG_u, ↓UG_u, ↓MG_u, ↓NG_u, ↓PG_u, ↓BG_u, ↓CG_u, ↓IG_u, ↓VGtt, ↓VGtf, ↓VGft, ↓VGff, ↓UGtt, ↓UGtf, ↓UGft, ↓UGff, ↓MGtt, ↓MGtf, ↓MGft, ↓MGff, ↓NGtt, ↓NGtf, ↓NGft, ↓NGff, ↓PGtt, ↓PGtf, ↓PGft, ↓PGff, ↓BGtt, ↓BGtf, ↓BGft, ↓BGff, ↓CGtt, ↓CGtf, ↓CGft, ↓CGff, ↓IGtt, ↓IGtf, ↓IGft, ↓IGff, ↓PKt, ↓PKf, ↓CDt, ↓CDf, ↓NOTt, ↓NOTf, ↓NK_ptr]
  have ld : ∀ {b : Nat} {q : Value} {K : Value → World → Prop}, w2.heap[b]? = some (.cells ([Value.int .u8 k] ++ clC c q ++ [Value.int .u8 f]).toArray 38 (0, 0)) → K (.agg (clC c q).toArray) w2 → VK Try.prog (Instr.loadAt 36 (.pointer (some ⟨b, 1, none⟩))) w2 K := fun {b q K} hb hK => by
    refine ldA (cs := clC c q) Try.underlying36 rfl (by rw [iCl]; rfl) (fun j v hj => ?_) hK
    rw [add_pl, cell_blk hb, List.getElem?_toArray]
    have hlt : j < 11 := (List.getElem?_eq_some_iff.1 hj).1
    rcases j with _ | _ | _ | _ | _ | _ | _ | _ | _ | _ | _ | j
    all_goals first | exact hj | omega
  rw [fo (show fieldOff Try.prog 38 1 = some 1 by kernel_rfl), add_pl]
  try simp only [↓VG_u, ↓UG_u, ↓MG_u, ↓NG_u, ↓PG_u, ↓BG_u, ↓CG_u, ↓IG_u, ↓VGtt, ↓VGtf, ↓VGft, ↓VGff, ↓UGtt, ↓UGtf, ↓UGft, ↓UGff, ↓MGtt, ↓MGtf, ↓MGft, ↓MGff, ↓NGtt, ↓NGtf, ↓NGft, ↓NGff, ↓PGtt, ↓PGtf, ↓PGft, ↓PGff, ↓BGtt, ↓BGtf, ↓BGft, ↓BGff, ↓CGtt, ↓CGtf, ↓CGft, ↓CGff, ↓IGtt, ↓IGtf, ↓IGft, ↓IGff, ↓PKt, ↓PKf, ↓CDt, ↓CDf, ↓NOTt, ↓NOTf, ↓NK_ptr]
  refine ld hb1' ?_
  try simp only [↓VG_u, ↓UG_u, ↓MG_u, ↓NG_u, ↓PG_u, ↓BG_u, ↓CG_u, ↓IG_u, ↓VGtt, ↓VGtf, ↓VGft, ↓VGff, ↓UGtt, ↓UGtf, ↓UGft, ↓UGff, ↓MGtt, ↓MGtf, ↓MGft, ↓MGff, ↓NGtt, ↓NGtf, ↓NGft, ↓NGff, ↓PGtt, ↓PGtf, ↓PGft, ↓PGff, ↓BGtt, ↓BGtf, ↓BGft, ↓BGff, ↓CGtt, ↓CGtf, ↓CGft, ↓CGff, ↓IGtt, ↓IGtf, ↓IGft, ↓IGff, ↓PKt, ↓PKf, ↓CDt, ↓CDf, ↓NOTt, ↓NOTf, ↓NK_ptr]
  rw [fo (show fieldOff Try.prog 38 1 = some 1 by kernel_rfl), add_pl]
  try simp only [↓VG_u, ↓UG_u, ↓MG_u, ↓NG_u, ↓PG_u, ↓BG_u, ↓CG_u, ↓IG_u, ↓VGtt, ↓VGtf, ↓VGft, ↓VGff, ↓UGtt, ↓UGtf, ↓UGft, ↓UGff, ↓MGtt, ↓MGtf, ↓MGft, ↓MGff, ↓NGtt, ↓NGtf, ↓NGft, ↓NGff, ↓PGtt, ↓PGtf, ↓PGft, ↓PGff, ↓BGtt, ↓BGtf, ↓BGft, ↓BGff, ↓CGtt, ↓CGtf, ↓CGft, ↓CGff, ↓IGtt, ↓IGtf, ↓IGft, ↓IGff, ↓PKt, ↓PKf, ↓CDt, ↓CDf, ↓NOTt, ↓NOTf, ↓NK_ptr]
  refine ld hb2 ?_
  try simp only [↓VG_u, ↓UG_u, ↓MG_u, ↓NG_u, ↓PG_u, ↓BG_u, ↓CG_u, ↓IG_u, ↓VGtt, ↓VGtf, ↓VGft, ↓VGff, ↓UGtt, ↓UGtf, ↓UGft, ↓UGff, ↓MGtt, ↓MGtf, ↓MGft, ↓MGff, ↓NGtt, ↓NGtf, ↓NGft, ↓NGff, ↓PGtt, ↓PGtf, ↓PGft, ↓PGff, ↓BGtt, ↓BGtf, ↓BGft, ↓BGff, ↓CGtt, ↓CGtf, ↓CGft, ↓CGff, ↓IGtt, ↓IGtf, ↓IGft, ↓IGff, ↓PKt, ↓PKf, ↓CDt, ↓CDf, ↓NOTt, ↓NOTf, ↓NK_ptr]
  have hm := hm1.trans hm2
  refine CK_st Try.func19 rfl rfl (SameCall_ok (reads_mod h1 hm fun _ _ _ => id) (reads_mod h2 hm fun _ _ _ => id) hl) ?_
  rintro _ w3 ⟨rfl, hm3⟩
  simp only [↓VG_u, ↓UG_u, ↓MG_u, ↓NG_u, ↓PG_u, ↓BG_u, ↓CG_u, ↓IG_u, ↓VGtt, ↓VGtf, ↓VGft, ↓VGff, ↓UGtt, ↓UGtf, ↓UGft, ↓UGff, ↓MGtt, ↓MGtf, ↓MGft, ↓MGff, ↓NGtt, ↓NGtf, ↓NGft, ↓NGff, ↓PGtt, ↓PGtf, ↓PGft, ↓PGff, ↓BGtt, ↓BGtf, ↓BGft, ↓BGff, ↓CGtt, ↓CGtf, ↓CGft, ↓CGff, ↓IGtt, ↓IGtf, ↓IGft, ↓IGff, ↓PKt, ↓PKf, ↓CDt, ↓CDf, ↓NOTt, ↓NOTf, ↓NK_ptr]
  exact ⟨by trivial, hm.trans hm3⟩
end Go.Proofs.Ytmbgbffgkdcieaa.Tr
set_option linter.unusedVariables false
set_option linter.unusedSimpArgs false
set_option maxRecDepth 4000
namespace Go.Proofs.Ytmbgbffgkdcieaa.Tr
open Go Go.X Go.RowKit Go.Proofs.Ytmbgbffgkdcieaa.XF Go.Proofs.Ytmbgbffgkdcieaa.XK
structure RM (b6 b7 : Nat) (sl : Value) (l : List Int) (c : Cl) (q : Value) (w : World) : Prop where
  h6 : w.heap[b6]? = some (.cells (clC zCl (.slice none 0 0)).toArray 36 (0, 0))
  h7 : w.heap[b7]? = some (.cells (clC c q).toArray 36 (0, 0))
  hl : reads w 1 sl l.length (i64s l)
  ne : b6 ≠ b7
  ns : ∀ k, sb sl k → k < b6 ∧ k < b7
section
variable {b6 b7 : Nat} {sl q : Value} {l : List Int} {c : Cl} {w : World} {K : Exit → Sl → World → Prop} {ρ : Sl} {k : Int}
theorem RM.mod {S : Nat → Prop} {w' : World} (h : RM b6 b7 sl l c q w) (hm : Mod S w w') (h1 : ¬ S b6) (h2 : ¬ S b7) (h3 : ∀ k, sb sl k → ¬ S k) : RM b6 b7 sl l c q w' := ⟨hm.blk h.h6 h1, hm.blk h.h7 h2, reads_mod h.hl hm fun k _ z => h3 k z, h.ne, h.ns⟩
theorem RM.calm {w' : World} (h : RM b6 b7 sl l c q w) (hm : Mod none_ w w') : RM b6 b7 sl l c q w' := h.mod hm id id fun _ _ => id
theorem RM.put {w' : World} {c' : Cl} {q' : Value} (h : RM b6 b7 sl l c q w) (hm : Mod (fun b => b = b7) w w') (hb : w'.heap[b7]? = some (.cells (clC c' q').toArray 36 (0, 0))) : RM b6 b7 sl l c' q' w' :=
  ⟨hm.blk h.h6 h.ne, hb, reads_mod h.hl hm fun k _ z y => by have := (h.ns k z).2; omega, h.ne, h.ns⟩
structure SR (ρ ρ' : Sl) : Prop where
  e0 : ρ' 0 = ρ 0
  e2 : ρ' 2 = ρ 2
  e6 : ρ' 6 = ρ 6
  e7 : ρ' 7 = ρ 7
  e39 : ρ' 39 = ρ 39
theorem SR.trans {a b c : Sl} (h : SR a b) (k : SR b c) : SR a c := ⟨k.e0.trans h.e0, k.e2.trans h.e2, k.e6.trans h.e6, k.e7.trans h.e7, k.e39.trans h.e39⟩
def EndB (b6 b7 : Nat) (sl : Value) (l : List Int) (ρ : Sl) (w : World) (c' : Cl) (q : Value) (K : Sl → World → Prop) : Prop := ∀ ρ' w', SR ρ ρ' → RM b6 b7 sl l c' q w' → Mod (fun b => b = b7) w w' → w'.heap.size = w.heap.size → K ρ' w'
theorem ld_arg {i : Int} {n : Nat} {K : Value → Value → World → Prop} (h : RM b6 b7 sl l c q w) (hi : i = (n : Int)) (hn : n < l.length) (hK : ∀ x, K x (.int .i64 (l.getD n 0)) w) : VK Try.prog (Instr.indexAt 22 sl (.int .i64 i)) w fun x w => VK Try.prog (Instr.loadAt 2 x) w (K x) := by
  subst hi
  exact ixld vNs cN vN rfl h.hl (by omega) (by rw [Int.toNat_natCast]; exact i64s_get (getD_at hn)) hK
theorem h_ixl {S : World → Prop} {i : Int} {n : Nat} {K : Value → Value → Prop} (h : RM b6 b7 sl l c q w) (hS : ∀ w', S w' → Mod (fun b => b = b7) w w') (hi : i = (n : Int)) (hn : n < l.length) (hK : ∀ x1, K x1 (.int .i64 (l.getD n 0))) :
    HK Try.prog S (do pure (Next.value (← Instr.indexAt 22 sl (.int .i64 i)))) fun x2 => HK Try.prog S (do pure (Next.value (← Instr.loadAt 2 x2))) (K x2) := by
  subst hi
  obtain ⟨hll, A, cc, hs, hc, hr⟩ := h.hl
  obtain ⟨a, ha, hcell⟩ := hr n _ (i64s_get (getD_at hn))
  subst ha
  subst hs
  refine HV_of (fun w' _ => run_ixa vNs cN (by omega) (by omega) w') (HV_of (v := .int .i64 (l.getD n 0)) (fun w' hw => run_ld1 vN rfl ?_) (hK _))
  obtain ⟨_, A', c', hs', _, hr'⟩ := reads_mod h.hl (hS w' hw) fun k _ z y => by have := (h.ns k z).2; omega
  cases hs'
  obtain ⟨a', ha', hcell'⟩ := hr' n _ (i64s_get (getD_at hn))
  cases ha'
  rw [show ((n : Int).toNat * (0 + 1)) = n by omega]
  exact hcell'
theorem RC_R8 (h : RM b6 b7 sl l c q w) (e2 : ρ 2 = sl) (e7 : ρ 7 = .pointer (some ⟨b7, 0, none⟩)) (h3 : 3 ≤ l.length) (hk : EndB b6 b7 sl l ρ w { c with peer := l.getD 1 0, tag := l.getD 2 0 } q (K .normal)) : W fn_ Try.prog 104 dispatcherref07_Call_R8 K ρ w := by
  refine dispatcherref07_Call_R8_held (D := []) (fun w' => Mod (fun b => b = b7) w w') ((Mod.refl _ w).drawn _) ?_
  have hd : Mod (fun b => b = b7) w { w with drawn := w.drawn + 1 } := (Mod.refl _ w).drawn _
  have hdn : Mod none_ w { w with drawn := w.drawn + 1 } := (Mod.refl _ w).drawn _
  have hsz : ({ w with drawn := w.drawn + 1 } : World).heap.size = w.heap.size := rfl
  generalize ({ w with drawn := w.drawn + 1 } : World) = wd at *
  unfold dispatcherref07_Call_R8_H
  rw [e2, e7]
  have hD := h.calm hdn
  refine h_ixl h (fun _ q => q) (n := 1) (i := 1) rfl (by omega) fun _ => ?_
  refine h_ixl h (fun _ q => q) (n := 2) (i := 2) rfl (by omega) fun _ => ?_
  refine HV_of (fun w' _ => f36 (off := 2) (by kernel_rfl) w') ?_
  refine stC (o := 2) rfl (by kernel_rfl) rfl hD.h7 (by show 2 < 11; omega) fun w1 hb1 hm1 hz1 => ⟨hd.trans hm1, ?_⟩
  refine HV_of (fun w' _ => f36 (off := 3) (by kernel_rfl) w') ?_
  refine stC (o := 3) rfl (by kernel_rfl) rfl hb1 (by show 3 < 11; omega) fun w2 hb2 hm2 hz2 => ⟨(hd.trans hm1).trans hm2, ?_⟩
  exact hk _ w2 ⟨rfl, rfl, rfl, rfl, rfl⟩ (hD.put (hm1.trans hm2) hb2) ((hd.trans hm1).trans hm2) (by omega)
theorem RC_R11 (h : RM b6 b7 sl l c q w) (e2 : ρ 2 = sl) (e7 : ρ 7 = .pointer (some ⟨b7, 0, none⟩)) (h3 : 3 ≤ l.length) (hk : EndB b6 b7 sl l ρ w { c with peer := l.getD 1 0, tag := l.getD 2 0 } q (K .normal)) : W fn_ Try.prog 104 dispatcherref07_Call_R11 K ρ w := by
  refine dispatcherref07_Call_R11_held (D := []) (fun w' => Mod (fun b => b = b7) w w') ((Mod.refl _ w).drawn _) ?_
  have hd : Mod (fun b => b = b7) w { w with drawn := w.drawn + 1 } := (Mod.refl _ w).drawn _
  have hdn : Mod none_ w { w with drawn := w.drawn + 1 } := (Mod.refl _ w).drawn _
  have hsz : ({ w with drawn := w.drawn + 1 } : World).heap.size = w.heap.size := rfl
  generalize ({ w with drawn := w.drawn + 1 } : World) = wd at *
  unfold dispatcherref07_Call_R11_H
  rw [e2, e7]
  have hD := h.calm hdn
  refine h_ixl h (fun _ q => q) (n := 1) (i := 1) rfl (by omega) fun _ => ?_
  refine h_ixl h (fun _ q => q) (n := 2) (i := 2) rfl (by omega) fun _ => ?_
  refine HV_of (fun w' _ => f36 (off := 2) (by kernel_rfl) w') ?_
  refine stC (o := 2) rfl (by kernel_rfl) rfl hD.h7 (by show 2 < 11; omega) fun w1 hb1 hm1 hz1 => ⟨hd.trans hm1, ?_⟩
  refine HV_of (fun w' _ => f36 (off := 3) (by kernel_rfl) w') ?_
  refine stC (o := 3) rfl (by kernel_rfl) rfl hb1 (by show 3 < 11; omega) fun w2 hb2 hm2 hz2 => ⟨(hd.trans hm1).trans hm2, ?_⟩
  exact hk _ w2 ⟨rfl, rfl, rfl, rfl, rfl⟩ (hD.put (hm1.trans hm2) hb2) ((hd.trans hm1).trans hm2) (by omega)
theorem RC_R13 (h : RM b6 b7 sl l c q w) (e2 : ρ 2 = sl) (e7 : ρ 7 = .pointer (some ⟨b7, 0, none⟩)) (h3 : 3 ≤ l.length) (hk : EndB b6 b7 sl l ρ w { c with color := l.getD 1 0, key := l.getD 2 0 } q (K .normal)) : W fn_ Try.prog 104 dispatcherref07_Call_R13 K ρ w := by
  refine dispatcherref07_Call_R13_held (D := []) (fun w' => Mod (fun b => b = b7) w w') ((Mod.refl _ w).drawn _) ?_
  have hd : Mod (fun b => b = b7) w { w with drawn := w.drawn + 1 } := (Mod.refl _ w).drawn _
  have hdn : Mod none_ w { w with drawn := w.drawn + 1 } := (Mod.refl _ w).drawn _
  have hsz : ({ w with drawn := w.drawn + 1 } : World).heap.size = w.heap.size := rfl
  generalize ({ w with drawn := w.drawn + 1 } : World) = wd at *
  unfold dispatcherref07_Call_R13_H
  rw [e2, e7]
  have hD := h.calm hdn
  refine h_ixl h (fun _ q => q) (n := 1) (i := 1) rfl (by omega) fun _ => ?_
  refine h_ixl h (fun _ q => q) (n := 2) (i := 2) rfl (by omega) fun _ => ?_
  refine HV_of (fun w' _ => f36 (off := 9) (by kernel_rfl) w') ?_
  refine stC (o := 9) rfl (by kernel_rfl) rfl hD.h7 (by show 9 < 11; omega) fun w1 hb1 hm1 hz1 => ⟨hd.trans hm1, ?_⟩
  refine HV_of (fun w' _ => f36 (off := 10) (by kernel_rfl) w') ?_
  refine stC (o := 10) rfl (by kernel_rfl) rfl hb1 (by show 10 < 11; omega) fun w2 hb2 hm2 hz2 => ⟨(hd.trans hm1).trans hm2, ?_⟩
  exact hk _ w2 ⟨rfl, rfl, rfl, rfl, rfl⟩ (hD.put (hm1.trans hm2) hb2) ((hd.trans hm1).trans hm2) (by omega)
theorem RC_R9 (h : RM b6 b7 sl l c q w) (e2 : ρ 2 = sl) (e7 : ρ 7 = .pointer (some ⟨b7, 0, none⟩)) (h3 : 5 ≤ l.length) (hk : EndB b6 b7 sl l ρ w { c with value := l.getD 3 0, size := l.getD 4 0 } q (K .normal)) : sx fn_ Try.prog 104 dispatcherref07_Call_R9 K ρ w := by
  rw [dispatcherref07_Call_R9_eq]; unfold dispatcherref07_Call_R9_F
  rw [e2, e7]
  refine ld_arg h (n := 3) rfl (by omega) fun _ => ?_
  refine fst_k (off := 4) (by kernel_rfl) (by kernel_rfl) rfl h.h7 (by show 4 < 11; omega) rfl fun x w1 hb1 hm1 hz1 => ?_
  have h1 := h.put hm1 (c' := { c with value := l.getD 3 0 }) hb1
  refine ld_arg h1 (n := 4) rfl (by omega) fun _ => ?_
  refine fst_k (off := 5) (by kernel_rfl) (by kernel_rfl) rfl hb1 (by show 5 < 11; omega) rfl fun x w2 hb2 hm2 hz2 => ?_
  exact hk _ w2 ⟨rfl, rfl, rfl, rfl, rfl⟩ (h.put (hm1.trans hm2) hb2) (hm1.trans hm2) (by omega)
theorem RC_R12 {t : Bool} (h : RM b6 b7 sl l c q w) (e2 : ρ 2 = sl) (e7 : ρ 7 = .pointer (some ⟨b7, 0, none⟩)) (h75 : ρ 75 = .bool t) (e39 : ρ 39 = .int .u8 k) (ht : t = true → (k = 16 ∨ k = 19 ∨ k = 17) ∧ 3 ≤ l.length) (hf : t = false → k ≠ 16 ∧ k ≠ 19 ∧ k ≠ 17) (h18 : k = 18 → 2 ≤ l.length) (h21 : k = 21 → 3 ≤ l.length)
    (hk : EndB b6 b7 sl l ρ w (if k = 16 ∨ k = 19 ∨ k = 17 then { c with root := l.getD 1 0, value := l.getD 2 0 } else if k = 18 then { c with value := l.getD 1 0 } else if k = 21 then { c with color := l.getD 1 0, key := l.getD 2 0 } else c) q (K .normal)) : sx fn_ Try.prog 104 dispatcherref07_Call_R12 K ρ w := by
  rw [dispatcherref07_Call_R12_eq]; unfold dispatcherref07_Call_R12_F
  rw [h75, e2, e7, e39]
  refine caseC (fun q => ?_) (fun q => ?_)
  · obtain ⟨hz, h3⟩ := ht q
    rw [if_pos hz] at hk
    refine ld_arg h (n := 1) rfl (by omega) fun _ => ?_
    refine fst_k (off := 6) (by kernel_rfl) (by kernel_rfl) rfl h.h7 (by show 6 < 11; omega) rfl fun x w1 hb1 hm1 hz1 => ?_
    have h1 := h.put hm1 (c' := { c with root := l.getD 1 0 }) hb1
    refine ld_arg h1 (n := 2) rfl (by omega) fun _ => ?_
    refine fst_k (off := 4) (by kernel_rfl) (by kernel_rfl) rfl hb1 (by show 4 < 11; omega) rfl fun x w2 hb2 hm2 hz2 => ?_
    exact hk _ w2 ⟨rfl, by first | exact e2.symm | rfl, rfl, by first | exact e7.symm | rfl, by first | exact e39.symm | rfl⟩ (h.put (hm1.trans hm2) hb2) (hm1.trans hm2) (by omega)
  rw [if_neg (by have := hf q; omega)] at hk
  refine caseI (fun z => condT ?_) (fun n18 => condF ?_)
  · rw [if_pos z] at hk
    refine ld_arg h (n := 1) rfl (by have := h18 z; omega) fun _ => ?_
    refine fst_k (off := 4) (by kernel_rfl) (by kernel_rfl) rfl h.h7 (by show 4 < 11; omega) rfl fun x w1 hb1 hm1 hz1 => ?_
    exact hk _ w1 ⟨rfl, rfl, rfl, rfl, rfl⟩ (h.put hm1 hb1) hm1 (by omega)
  rw [if_neg n18] at hk
  refine caseI (fun z => condT ?_) (fun n21 => condF ?_)
  · rw [if_pos z] at hk
    refine RC_R13 (ρ := _) h ?_ ?_ (h21 z) fun ρ' w' a b m d => hk ρ' w' ⟨a.e0, a.e2, a.e6, a.e7, a.e39⟩ b m d
    · exact e2
    · exact e7
  · rw [if_neg n21] at hk
    exact hk _ w ⟨rfl, rfl, rfl, rfl, rfl⟩ h (Mod.refl _ _) rfl
def cR12 (c : Cl) (k : Int) (l : List Int) : Cl := if k = 16 ∨ k = 19 ∨ k = 17 then { c with root := l.getD 1 0, value := l.getD 2 0 } else if k = 18 then { c with value := l.getD 1 0 } else if k = 21 then { c with color := l.getD 1 0, key := l.getD 2 0 } else c
def cR10 (c : Cl) (k : Int) (l : List Int) : Cl := if k = 6 ∨ k = 7 ∨ k = 13 ∨ k = 14 then { c with peer := l.getD 1 0, tag := l.getD 2 0 } else cR12 c k l
def cR5 (c : Cl) (k : Int) (l : List Int) : Cl := if k = 1 ∨ k = 2 ∨ k = 3 ∨ k = 4 ∨ k = 5 then { c with peer := l.getD 1 0, tag := l.getD 2 0, value := l.getD 3 0, size := l.getD 4 0 } else cR10 c k l
structure LenK (k : Int) (l : List Int) : Prop where
  h1 : 1 ≤ k ∧ k ≤ 5 → l.length = 5
  h2 : k = 6 ∨ k = 7 ∨ k = 13 ∨ k = 14 → l.length = 3
  h4 : k = 18 → l.length = 2
  h5 : k = 21 → l.length = 3
  h6 : k = 16 ∨ k = 17 ∨ k = 19 → l.length = 3
  h0 : 1 ≤ l.length
theorem RC_R10 {t : Bool} (h : RM b6 b7 sl l c q w) (L : LenK k l) (e2 : ρ 2 = sl) (e7 : ρ 7 = .pointer (some ⟨b7, 0, none⟩)) (h62 : ρ 62 = .bool t) (e39 : ρ 39 = .int .u8 k) (ht : t = true → (k = 6 ∨ k = 7 ∨ k = 13 ∨ k = 14)) (hf : t = false → k ≠ 6 ∧ k ≠ 7 ∧ k ≠ 13 ∧ k ≠ 14)
    (hk : EndB b6 b7 sl l ρ w (cR10 c k l) q (K .normal)) : sx fn_ Try.prog 104 dispatcherref07_Call_R10 K ρ w := by
  rw [dispatcherref07_Call_R10_eq]; unfold dispatcherref07_Call_R10_F
  rw [h62, e39]
  unfold cR10 at hk
  refine caseC (fun q => ?_) (fun q => ?_)
  · have hz := ht q
    rw [if_pos hz] at hk
    exact RC_R11 h e2 e7 (by have := L.h2 hz; omega) hk
  rw [if_neg (by have := hf q; omega)] at hk
  have step : ∀ (ρ' : Sl) (t : Bool), SR ρ ρ' → ρ' 75 = .bool t → (t = true → k = 16 ∨ k = 19 ∨ k = 17) → (t = false → k ≠ 16 ∧ k ≠ 19 ∧ k ≠ 17) → sx fn_ Try.prog 104 dispatcherref07_Call_R12 K ρ' w := fun ρ' t s a ht hf => RC_R12 h (s.e2.trans e2) (s.e7.trans e7) a (s.e39.trans e39) (fun z => ⟨ht z, by have := L.h6 (by have := ht z; omega); omega⟩) hf (fun z => by have := L.h4 z; omega) (fun z => by have := L.h5 z; omega) fun ρ2 w2 a b m d => hk ρ2 w2 (s.trans a) b m d
  iterate 2 (refine caseI (fun q => condT (step _ true ⟨rfl, rfl, rfl, rfl, rfl⟩ rfl (fun _ => by omega) (fun z => by cases z))) (fun _ => condF ?_))
  exact caseI (fun q => step _ true ⟨rfl, rfl, rfl, rfl, rfl⟩ rfl (fun _ => by omega) (fun z => by cases z)) (fun _ => step _ false ⟨rfl, rfl, rfl, rfl, rfl⟩ rfl (fun z => by cases z) (fun _ => by omega))
theorem RC_R5 {t : Bool} (h : RM b6 b7 sl l c q w) (L : LenK k l) (e2 : ρ 2 = sl) (e7 : ρ 7 = .pointer (some ⟨b7, 0, none⟩)) (h40 : ρ 40 = .bool t) (e39 : ρ 39 = .int .u8 k) (ht : t = true → (k = 1 ∨ k = 2 ∨ k = 3 ∨ k = 4 ∨ k = 5)) (hf : t = false → k ≠ 1 ∧ k ≠ 2 ∧ k ≠ 3 ∧ k ≠ 4 ∧ k ≠ 5)
    (hk : EndB b6 b7 sl l ρ w (cR5 c k l) q (K .normal)) : sx fn_ Try.prog 104 dispatcherref07_Call_R5 K ρ w := by
  rw [dispatcherref07_Call_R5_eq]; unfold dispatcherref07_Call_R5_F
  rw [h40, e39]
  unfold cR5 at hk
  refine caseC (fun q => ?_) (fun q => ?_)
  · have hz := ht q
    have h5 := L.h1 (by omega)
    rw [if_pos hz] at hk
    refine RC_R8 h e2 e7 (by omega) fun ρ1 w1 a b m d => ?_
    rw [sq_n]
    exact RC_R9 b (a.e2.trans e2) (a.e7.trans e7) (by omega) fun ρ2 w2 a2 b2 m2 d2 => hk ρ2 w2 (a.trans a2) b2 (m.trans m2) (by omega)
  rw [if_neg (by have := hf q; omega)] at hk
  have step : ∀ (ρ' : Sl) (t : Bool), SR ρ ρ' → ρ' 62 = .bool t → (t = true → k = 6 ∨ k = 7 ∨ k = 13 ∨ k = 14) → (t = false → k ≠ 6 ∧ k ≠ 7 ∧ k ≠ 13 ∧ k ≠ 14) → sx fn_ Try.prog 104 dispatcherref07_Call_R10 K ρ' w := fun ρ' t s a ht hf => RC_R10 h L (s.e2.trans e2) (s.e7.trans e7) a (s.e39.trans e39) ht hf fun ρ2 w2 a b m d => hk ρ2 w2 (s.trans a) b m d
  iterate 3 (refine caseI (fun q => condT (step _ true ⟨rfl, rfl, rfl, rfl, rfl⟩ rfl (fun _ => by omega) (fun z => by cases z))) (fun _ => condF ?_))
  exact caseI (fun q => step _ true ⟨rfl, rfl, rfl, rfl, rfl⟩ rfl (fun _ => by omega) (fun z => by cases z)) (fun _ => step _ false ⟨rfl, rfl, rfl, rfl, rfl⟩ rfl (fun z => by cases z) (fun _ => by omega))
end
end Go.Proofs.Ytmbgbffgkdcieaa.Tr
set_option linter.unusedVariables false
set_option linter.unusedSimpArgs false
set_option maxRecDepth 4000
namespace Go.Proofs.Ytmbgbffgkdcieaa.Tr
open Go Go.X Go.RowKit Go.Proofs.Ytmbgbffgkdcieaa.XF Go.Proofs.Ytmbgbffgkdcieaa.XK
theorem reads_lt {w : World} {size n : Nat} {sl : Value} {xs : List Value} (h : reads w size sl n xs) (h0 : 0 < xs.length) : ∀ k, sb sl k → k < w.heap.size := by
  obtain ⟨hl, A, c, rfl, _, hr⟩ := h
  obtain ⟨a, rfl, hc⟩ := hr 0 _ (List.getElem?_eq_getElem h0)
  intro k hk
  have : a.block = k := Option.some.inj hk
  subst this
  rcases Nat.lt_or_ge a.block w.heap.size with q | q
  · exact q
  · unfold World.cell? at hc
    rw [add_block, Array.getElem?_eq_none q] at hc
    simp at hc
section
variable {b6 b7 : Nat} {sl q : Value} {l : List Int} {c : Cl} {w w0 : World} {K : Exit → Sl → World → Prop} {ρ : Sl} {k red : Int}
abbrev RcP (k red : Int) (l : List Int) (w0 : World) : Value → World → Prop := fun v w' => ∃ q, v = .agg (clC (callV k red l) q).toArray ∧ q.oneCell' = true ∧ reads w' 1 q (callV k red l).reqs.length (i64s (callV k red l).reqs) ∧ Mod none_ w0 w'
abbrev RcK (k red : Int) (l : List Int) (w0 : World) : Exit → Sl → World → Prop := retK Try.prog [ResultVar.cell 6 36] (RcP k red l w0)
theorem RC_end {c' : Cl} {t : Nat} (h : RM b6 b7 sl l c' q w) (hm : Mod none_ w0 w) (hb : w0.heap.size ≤ b6) (e6 : ρ 6 = .pointer (some ⟨b6, 0, none⟩)) (e7 : ρ 7 = .pointer (some ⟨b7, 0, none⟩)) (hc : c' = callV k red l) (hq : q.oneCell' = true) (hr : reads w 1 q c'.reqs.length (i64s c'.reqs)) (hqb : ¬ sb q b6)
    (e1 : ∀ x, (up ρ t x) 6 = ρ 6) :
    VK Try.prog (Instr.loadAt 36 (ρ 7)) w fun x w => UK Try.prog (Instr.storeAt 36 (ρ 6) x) w fun _ w => RcK k red l w0 .ret (up ρ t x) w := by
  obtain ⟨A, cc, eq, _⟩ := reads_cap hr
  rw [e7, e6]
  refine ldS rfl Try.underlying36 rfl (by rw [iCl]; rfl) h.h7 ?_
  refine stS (cs := (clC c' q).toArray) (old := (clC zCl (.slice none 0 0)).toArray) rfl rfl (by rw [iCl]; rfl) rfl (by rw [eq]; simp [clC, Value.oneCell']) h.h6 fun w1 hb1 hm1 hz1 => ?_
  refine rtCell ((e1 _).trans e6) Try.underlying36 rfl (by rw [iCl]; rfl) hb1 ?_
  subst hc
  exact ⟨q, rfl, hq, reads_mod hr hm1 fun g _ z y => hqb (y ▸ z), hm.fresh hm1 hb⟩
abbrev RcB0 (k red : Int) (l : List Int) (w0 : World) : Exit → Sl → World → Prop := blkK 0 (seqK (sx fn_ Try.prog 104 dispatcherref07_Call_R1 (RcK k red l w0)) (RcK k red l w0))
theorem RC_R1 (h : RM b6 b7 sl l c (.slice none 0 0) w) (L : LenK k l) (hm : Mod none_ w0 w) (hb6 : w0.heap.size ≤ b6) (hb7 : w0.heap.size ≤ b7) (e0 : ρ 0 = .int .u8 k) (e2 : ρ 2 = sl) (e6 : ρ 6 = .pointer (some ⟨b6, 0, none⟩)) (e7 : ρ 7 = .pointer (some ⟨b7, 0, none⟩))
    (hc : c = { zCl with kind := k, op := red }) (hk : 1 ≤ k ∧ k ≤ 22) (hn : ¬ (k = 8 ∨ k = 9 ∨ k = 10 ∨ k = 11 ∨ k = 12)) : sx fn_ Try.prog 104 dispatcherref07_Call_R1 (RcK k red l w0) ρ w := by
  rw [dispatcherref07_Call_R1_eq]; unfold dispatcherref07_Call_R1_F
  rw [e0, e2, e7]
  refine ld_arg h (n := 0) rfl (by have := L.h0; omega) fun _ => ?_
  refine fst_k (off := 1) (by kernel_rfl) (by kernel_rfl) rfl h.h7 (by show 1 < 11; omega) rfl fun x w1 hb1 hm1 hz1 => ?_
  have h1 := h.put hm1 (c' := { c with comm := l.getD 0 0 }) hb1
  have step : ∀ (ρ' : Sl) (t : Bool), ρ' 2 = sl → ρ' 6 = ρ 6 → ρ' 7 = .pointer (some ⟨b7, 0, none⟩) → ρ' 39 = .int .u8 k → ρ' 40 = .bool t → (t = true → k = 1 ∨ k = 2 ∨ k = 3 ∨ k = 4 ∨ k = 5) → (t = false → k ≠ 1 ∧ k ≠ 2 ∧ k ≠ 3 ∧ k ≠ 4 ∧ k ≠ 5) → sx fn_ Try.prog 104 dispatcherref07_Call_R5 (blkK 3 (seqK (sx fn_ Try.prog 104 dispatcherref07_Call_R4 (RcK k red l w0)) (RcK k red l w0))) ρ' w1 := fun ρ' t a2 a6 a7 a39 a40 ht hf => by
    refine RC_R5 h1 L a2 a7 a40 a39 ht hf fun ρ2 w2 s b m d => ?_
    rw [bk_n, sq_n, dispatcherref07_Call_R4_eq]; unfold dispatcherref07_Call_R4_F
    refine RC_end b ((hm.fresh hm1 hb7).fresh m hb7) hb6 (s.e6.trans (a6.trans e6)) (s.e7.trans a7) ?_ rfl ?_ (fun z => by cases z) (fun _ => rfl)
    · rw [hc]
      unfold cR5 cR10 cR12 callV
      by_cases q1 : 1 ≤ k ∧ k ≤ 5
      · rw [if_pos (by omega), if_pos q1]; rfl
      rw [if_neg (by omega), if_neg q1]
      by_cases q2 : k = 6 ∨ k = 7 ∨ k = 13 ∨ k = 14
      · rw [if_pos q2, if_pos q2]; rfl
      rw [if_neg q2, if_neg q2, if_neg hn]
      by_cases q3 : k = 16 ∨ k = 19 ∨ k = 17
      · rw [if_pos q3, if_neg (by omega), if_neg (by omega), if_neg (by omega)]; rfl
      rw [if_neg q3]
      by_cases q4 : k = 18
      · rw [if_pos q4, if_neg (by omega), if_pos q4]; rfl
      rw [if_neg q4]
      by_cases q5 : k = 21
      · rw [if_pos q5, if_neg (by omega), if_neg q4, if_pos q5]; rfl
      · rw [if_neg q5, if_pos (by omega)]; rfl
    · have : (cR5 { c with comm := l.getD 0 0 } k l).reqs = [] := by
        rw [hc]
        unfold cR5 cR10 cR12
        repeat' split
        all_goals rfl
      rw [this]; exact reads_nil _ _
  iterate 4 (refine caseI (fun q => condT (step _ true e2 rfl e7 rfl rfl (fun _ => by omega) (fun z => by cases z))) (fun _ => condF ?_))
  exact caseI (fun q => step _ true e2 rfl e7 rfl rfl (fun _ => by omega) (fun z => by cases z)) (fun _ => step _ false e2 rfl e7 rfl rfl (fun z => by cases z) (fun _ => by omega))
theorem RC_L2 (h : RM b6 b7 sl l c (.slice none 0 0) w) (hlen : l.length ≤ 1000) (hm0 : Mod none_ w0 w) (hb6 : w0.heap.size ≤ b6) (hb7 : w0.heap.size ≤ b7) (e2 : ρ 2 = sl) (e6 : ρ 6 = .pointer (some ⟨b6, 0, none⟩)) (e7 : ρ 7 = .pointer (some ⟨b7, 0, none⟩)) (e8 : ρ 8 = .int .i64 0)
    (hc : c = { zCl with kind := k, op := red }) (hn : k = 8 ∨ k = 9 ∨ k = 10 ∨ k = 11 ∨ k = 12) : W fn_ Try.prog 104 (Code.loop dispatcherref07_Call_L2) (blkK 1 (seqK (sx fn_ Try.prog 104 dispatcherref07_Call_R3 (RcB0 k red l w0)) (RcB0 k red l w0))) ρ w := by
  have hcb : b7 < w.heap.size := X.blk_lt h.h7
  have hab : b6 < w.heap.size := X.blk_lt h.h6
  obtain ⟨A, cc, es, _⟩ := reads_cap h.hl
  have cal : callV k red l = { zCl with kind := k, op := red, reqs := l } := by
    unfold callV
    rw [if_neg (by omega), if_neg (by omega), if_pos hn]; rfl
  refine W_loop dispatcherref07_Call_L2_ok (fun ρ' w' => ∃ (j : Nat) (q' : Value), j ≤ l.length ∧ ρ' 2 = sl ∧ ρ' 6 = .pointer (some ⟨b6, 0, none⟩) ∧ ρ' 7 = .pointer (some ⟨b7, 0, none⟩) ∧ RM b6 b7 sl l { c with reqs := l.take j } q' w' ∧ Mod (fun b => b = b7) w w' ∧ w'.ownsRow w.heap.size 3 1 q' j (i64s (l.take j)) ∧ ρ' 8 = .int .i64 j) (fun ρ' _ => l.length - (intOf (ρ' 8)).toNat)
    ⟨0, .slice none 0 0, by omega, e2, e6, e7, h.put (Mod.refl _ _) (by exact h.h7), Mod.refl _ _, World.ownsRow_nil _ _ _ _, e8⟩ ?_
  rintro ρ' w' ⟨j, q', hkl, y2, y6, y7, hC, hM, hO, y8⟩
  rw [dispatcherref07_Call_L2_eq]; unfold dispatcherref07_Call_L2_F
  rw [y2, y8, es, len_sl vNs, ← es, BK_lss]
  have hms := hM.size
  have hown : ∀ {w2 : World} {v : Value} {n : Nat} {xs : List Value}, w2.ownsRow w.heap.size 3 1 v n xs → ∀ g, sb v g → w.heap.size ≤ g ∧ g < w2.heap.size := fun {w2 v n xs} ho g z => by
    rcases ho.2 with ⟨y, _⟩ | ⟨g', cap', cur', rfl, hb', hg', _⟩
    · rw [y] at z; cases z
    · cases z; exact ⟨hb', X.blk_lt hg'⟩
  by_cases hlt : j < l.length
  · rw [decide_eq_true (by omega)]
    refine condT ?_
    refine dispatcherref07_Call_R6_held (D := []) (fun w'' => reads w'' 1 sl l.length (i64s l)) ?_ ?_
    · exact reads_mod hC.hl (Mod.drawn (Mod.refl none_ w') _) fun _ _ _ => id
    unfold dispatcherref07_Call_R6_H
    have hdn : Mod none_ w' { w' with drawn := w'.drawn + 1 } := (Mod.refl _ w').drawn _
    generalize ({ w' with drawn := w'.drawn + 1 } : World) = wd at *
    have hds := hdn.size
    have hD := hC.calm hdn
    have hOd := owns_mod hO hdn fun _ _ => id
    have hrng : ∀ g, sb q' g → w.heap.size ≤ g := fun g z => (hown hOd g z).1
    have hsl : ∀ g, sb sl g → g < w.heap.size ∧ g < b7 := fun g z => by have := h.ns g z; omega
    simp only [sq_n, sq_x, sq_r, bk_n, bk_r, bk_x, rt_r, rt_n, rs_0, rs_t, pk_1, pk_2, up_at, reduceIte, Nat.reduceEqDiff, y2, y7, y8]
    refine HV_of (fun w' _ => f36 (off := 8) (by kernel_rfl) w') ?_
    have hix : ∀ {K : Value → Value → Prop}, (∀ x, K x (.int .i64 (l.getD j 0))) → HK Try.prog (fun w'' => reads w'' 1 sl l.length (i64s l)) (do pure (Next.value (← Instr.indexAt 22 sl (.int .i64 (j : Int))))) fun x2 => HK Try.prog (fun w'' => reads w'' 1 sl l.length (i64s l)) (do pure (Next.value (← Instr.loadAt 2 x2))) (K x2) := fun {K} hK => by
      obtain ⟨hll, A, cc, hs, hc, hr⟩ := hD.hl
      obtain ⟨a, ha, hcell⟩ := hr j _ (i64s_get (getD_at hlt))
      subst ha
      subst hs
      refine HV_of (fun w' _ => run_ixa vNs cN (by omega) (by omega) w') (HV_of (v := .int .i64 (l.getD j 0)) (fun w' hw => run_ld1 vN rfl ?_) (hK _))
      obtain ⟨_, A', c', hs', _, hr'⟩ := hw
      cases hs'
      obtain ⟨a', ha', hcell'⟩ := hr' j _ (i64s_get (getD_at hlt))
      cases ha'
      rw [show ((j : Int).toNat * (0 + 1)) = j by omega]
      exact hcell'
    refine hix fun _ => ?_
    have SS : ∀ {w2 : World} {S : Nat → Prop}, Mod S wd w2 → (∀ g, sb sl g → ¬ S g) → reads w2 1 sl l.length (i64s l) := fun hm hS => reads_mod hD.hl hm fun g _ z => hS g z
    have ld8 : ∀ {w2 : World} {K : Value → World → Prop}, Mod none_ wd w2 → K q' w2 → VK Try.prog (Instr.loadAt 26 (.pointer (some ⟨b7, 8, none⟩))) w2 K := fun hm hK => ld1 vIs rfl (by rw [cell_blk (hm.blk hD.h7 id)]; rfl) hK
    have et : i64s (l.take j) ++ [Value.int .i64 (l.getD j 0)] = i64s (l.take (j + 1)) := by
      have et : l.take (j + 1) = l.take j ++ [l.getD j 0] := by rw [List.take_add_one, getD_at hlt]; rfl
      rw [et]; simp [i64s]
    have app : ∀ {w2 : World} {bv : Nat} {K : Value → World → Prop}, Mod none_ wd w2 → w2.heap[bv]? = some (.cells #[.int .i64 (l.getD j 0)] 3 (0, 0)) → (∀ v w3, w3.ownsRow w.heap.size 3 1 v (j + 1) (i64s (l.take (j + 1))) → Mod (fun b => w.heap.size ≤ b) wd w3 → K v w3) → IK Try.prog .append #[26, 26] 26 [false, false] [q', .slice (some ⟨bv, 0, none⟩) 1 1] w2 K := fun {w2 bv K} hm hb hK => by
      have hz := hm.size
      refine ap_any eIs (owns_mod hOd hm fun _ _ => id) (reads_blk (size := 1) (n := 1) hb rfl) (by intro u hu; rw [List.mem_singleton.1 hu]; rfl) (by unfold maxLen; omega) (by omega) (by omega) fun v' w4 hown4 hm4 hv4 => ?_
      rw [show (#[Value.int .i64 (l.getD j 0)].toList) = [Value.int .i64 (l.getD j 0)] from rfl, et] at hown4
      exact hK v' w4 hown4 ((hm.mono fun _ _ z => z.elim).trans (hm4.mono fun b _ z => hrng b z.symm))
    have fin : ∀ {w3 : World} {v : Value} {K : Value → World → Prop}, w3.ownsRow w.heap.size 3 1 v (j + 1) (i64s (l.take (j + 1))) → Mod (fun b => w.heap.size ≤ b) wd w3 → (∀ w4, RM b6 b7 sl l { c with reqs := l.take (j + 1) } v w4 → Mod (fun b => b = b7) w w4 → w4.ownsRow w.heap.size 3 1 v (j + 1) (i64s (l.take (j + 1))) → K undef w4) → UK Try.prog (Instr.storeAt 26 (.pointer (some ⟨b7, 8, none⟩)) v) w3 K := fun {w3 v K} ho hm hK => by
      have h3 : RM b6 b7 sl l { c with reqs := l.take j } q' w3 := hD.mod hm (by omega) (by omega) fun g z y => by have := hsl g z; omega
      refine stC (o := 8) rfl (by kernel_rfl) (owns_oc ho) h3.h7 (by show 8 < 11; omega) fun w4 hb4 hm4 hz4 => ?_
      refine hK w4 (h3.put hm4 (by exact hb4)) (((hM.trans (hdn.mono fun _ _ z => z.elim)).then hm fun i hi z => by omega).trans hm4) (owns_mod ho hm4 fun g z y => ?_)
      have := (hown ho g z).1
      omega
    have nx : ∀ {w4 : World} {v : Value} (ρ4 : Sl), ρ4 2 = ρ' 2 → ρ4 6 = ρ' 6 → ρ4 7 = ρ' 7 → ρ4 8 = ρ' 8 → RM b6 b7 sl l { c with reqs := l.take (j + 1) } v w4 → Mod (fun b => b = b7) w w4 → w4.ownsRow w.heap.size 3 1 v (j + 1) (i64s (l.take (j + 1))) →
        sx fn_ Try.prog 104 dispatcherref07_Call_R7 (seqK (fun ρ'' w'' => (∃ (j : Nat) (q' : Value), j ≤ l.length ∧ ρ'' 2 = sl ∧ ρ'' 6 = .pointer (some ⟨b6, 0, none⟩) ∧ ρ'' 7 = .pointer (some ⟨b7, 0, none⟩) ∧ RM b6 b7 sl l { c with reqs := l.take j } q' w'' ∧ Mod (fun b => b = b7) w w'' ∧ w''.ownsRow w.heap.size 3 1 q' j (i64s (l.take j)) ∧ ρ'' 8 = .int .i64 j) ∧ l.length - (intOf (ρ'' 8)).toNat < l.length - (intOf (.int .i64 (j : Int))).toNat) (blkK 1 (seqK (sx fn_ Try.prog 104 dispatcherref07_Call_R3 (RcB0 k red l w0)) (RcB0 k red l w0)))) ρ4 w4 := fun {w4 v} ρ4 p2 p6 p7 p8 c4 m4 o4 => by
      rw [dispatcherref07_Call_R7_eq]; unfold dispatcherref07_Call_R7_F
      rw [p8, y8, BK_add, wrap_i (n := (j : Int) + 1) (by omega) (by omega)]
      refine ⟨⟨j + 1, v, by omega, p2.trans y2, p6.trans y6, p7.trans y7, c4, m4, o4, rfl⟩, ?_⟩
      show l.length - (intOf (.int .i64 ((j : Int) + 1))).toNat < _
      simp only [intOf]
      omega
    refine ⟨?_, ?_⟩
    · refine ld8 (Mod.refl _ _) ⟨hD.hl, ?_⟩
      refine bs_k (cs := #[.int .i64 (l.getD j 0)]) (by kernel_rfl) fun w1 hb1 hm1 hz1 => ⟨SS hm1 (fun _ _ => id), ?_⟩
      refine app hm1 hb1 fun v w3 ho3 hm3 => ⟨SS hm3 (fun g z y => by have := hsl g z; omega), ?_⟩
      refine HV_of (fun w' _ => f36 (off := 8) (by kernel_rfl) w') ?_
      refine fin ho3 hm3 fun w4 c4 m4 o4 => ⟨c4.hl, ?_⟩
      refine nx _ ?_ ?_ ?_ ?_ c4 m4 o4 <;> first | rfl | exact y2.symm | exact y8.symm
    · refine bs_k (cs := #[.int .i64 (l.getD j 0)]) (by kernel_rfl) fun w1 hb1 hm1 hz1 => ⟨SS hm1 (fun _ _ => id), ?_⟩
      refine ld8 hm1 ⟨SS hm1 (fun _ _ => id), ?_⟩
      refine app hm1 hb1 fun v w3 ho3 hm3 => ⟨SS hm3 (fun g z y => by have := hsl g z; omega), ?_⟩
      refine HV_of (fun w' _ => f36 (off := 8) (by kernel_rfl) w') ?_
      refine fin ho3 hm3 fun w4 c4 m4 o4 => ⟨c4.hl, ?_⟩
      refine nx _ ?_ ?_ ?_ ?_ c4 m4 o4 <;> first | rfl | exact y2.symm | exact y8.symm
  · rw [decide_eq_false (by omega)]
    refine condF ?_
    obtain rfl : j = l.length := by omega
    rw [List.take_length] at hC hO
    rw [sq_x, bk_x, sq_n, dispatcherref07_Call_R3_eq]; unfold dispatcherref07_Call_R3_F
    exact RC_end (ρ := _) (k := k) (red := red) hC (hm0.fresh hM hb7) hb6 y6 y7 (by rw [cal, hc]) (owns_oc hO) (reads_of_owns hO) (fun z => by have := (hown hO _ z).1; omega) (fun _ => rfl)
theorem RC_ok {w : World} (hl : reads w 1 sl l.length (i64s l)) (hlen : l.length ≤ 1000) (L : LenK k l) (hk : 1 ≤ k ∧ k ≤ 22) : Rt Try.prog 8 #[.int .u8 k, .int .u8 red, sl] w (RcP k red l w) := by
  refine dispatcherref07_Call_calls ?_
  unfold dispatcherref07_Call_F
  refine al_k (cs := (clC zCl (.slice none 0 0)).toArray) zCl_z rfl _ fun w1 hb1 hm1 hz1 => ?_
  rw [build_ok (built_call _ _)]
  refine al_k (cs := (clC zCl (.slice none 0 0)).toArray) zCl_z rfl _ fun w2 hb2 hm2 hz2 => ?_
  refine stS (cs := (clC { zCl with kind := k, op := red } (.slice none 0 0)).toArray) (old := (clC zCl (.slice none 0 0)).toArray) rfl rfl (by rw [iCl]; rfl) rfl (by simp [clC, Value.oneCell']) hb2 fun w3 hb3 hm3 hz3 => ?_
  have hlt := reads_lt hl (by unfold i64s; rw [List.length_map]; exact L.h0)
  have hm02 := hm1.trans hm2
  have hm03 : Mod none_ w w3 := hm02.fresh hm3 (by omega)
  have hR : RM w.heap.size w1.heap.size sl l { zCl with kind := k, op := red } (.slice none 0 0) w3 :=
    ⟨hm3.blk (hm2.blk hb1 id) (by omega), hb3, reads_mod hl hm03 fun _ _ _ => id, by omega, fun g z => by have := hlt g z; omega⟩
  have step : ∀ (ρ' : Sl) (t : Bool), ρ' 0 = .int .u8 k → ρ' 2 = sl → ρ' 6 = .pointer (some ⟨w.heap.size, 0, none⟩) → ρ' 7 = .pointer (some ⟨w1.heap.size, 0, none⟩) → ρ' 13 = .bool t → (t = true → k = 8 ∨ k = 9 ∨ k = 10 ∨ k = 11 ∨ k = 12) → (t = false → ¬ (k = 8 ∨ k = 9 ∨ k = 10 ∨ k = 11 ∨ k = 12)) → sx fn_ Try.prog 104 dispatcherref07_Call_R0 (RcB0 k red l w) ρ' w3 := fun ρ' t a0 a2 a6 a7 a13 ht hf => by
    rw [dispatcherref07_Call_R0_eq]; unfold dispatcherref07_Call_R0_F
    rw [a13]
    refine caseC (fun q => ?_) (fun q => ?_)
    · exact RC_L2 hR hlen hm03 (by omega) (by omega) a2 a6 a7 rfl rfl (ht q)
    · show sx fn_ Try.prog 104 dispatcherref07_Call_R1 (RcK k red l w) ρ' w3
      exact RC_R1 hR L hm03 (by omega) (by omega) a0 a2 a6 a7 rfl hk (hf q)
  iterate 4 (refine caseI (fun q => condT (step _ true rfl rfl rfl rfl rfl (fun _ => by omega) (fun z => by cases z))) (fun _ => condF ?_))
  exact caseI (fun q => step _ true rfl rfl rfl rfl rfl (fun _ => by omega) (fun z => by cases z)) (fun _ => step _ false rfl rfl rfl rfl rfl (fun z => by cases z) (fun _ => by omega))
end
end Go.Proofs.Ytmbgbffgkdcieaa.Tr
set_option linter.unusedVariables false
set_option linter.unusedSimpArgs false
set_option maxRecDepth 10000
namespace Go.X
open Go Go.RowKit
def callPg (l : List Int) (n : Int) : Pg := ⟨l.map (fun a => ⟨1, a⟩) ++ [⟨28, n⟩, ⟨29, 0⟩], 0, []⟩
theorem call_hts {l : List Int} {n : Int} (hA : argsV n = l.length) (h1 : 1 ≤ l.length) (h8 : l.length ≤ 8) : ∃ H, (callPg l n).heights = some H := by
  have nn : (0 : Int) ≤ argsV n := by omega
  match l, hA, h1, h8 with
  | [a], hA, _, _ => exact ⟨[0, 1, 0], by simp [Pg.heights, Pg.whole, wl, wlS, wayV, Pg.tk, inV, cellsV, callPg, hA]⟩
  | [a, b], hA, _, _ => exact ⟨[0, 1, 2, 0], by simp [Pg.heights, Pg.whole, wl, wlS, wayV, Pg.tk, inV, cellsV, callPg, hA]⟩
  | [a, b, c], hA, _, _ => exact ⟨[0, 1, 2, 3, 0], by simp [Pg.heights, Pg.whole, wl, wlS, wayV, Pg.tk, inV, cellsV, callPg, hA]⟩
  | [a, b, c, d], hA, _, _ => exact ⟨[0, 1, 2, 3, 4, 0], by simp [Pg.heights, Pg.whole, wl, wlS, wayV, Pg.tk, inV, cellsV, callPg, hA]⟩
  | [a, b, c, d, e], hA, _, _ => exact ⟨[0, 1, 2, 3, 4, 5, 0], by simp [Pg.heights, Pg.whole, wl, wlS, wayV, Pg.tk, inV, cellsV, callPg, hA]⟩
  | [a, b, c, d, e, f], hA, _, _ => exact ⟨[0, 1, 2, 3, 4, 5, 6, 0], by simp [Pg.heights, Pg.whole, wl, wlS, wayV, Pg.tk, inV, cellsV, callPg, hA]⟩
  | [a, b, c, d, e, f, g], hA, _, _ => exact ⟨[0, 1, 2, 3, 4, 5, 6, 7, 0], by simp [Pg.heights, Pg.whole, wl, wlS, wayV, Pg.tk, inV, cellsV, callPg, hA]⟩
  | [a, b, c, d, e, f, g, h], hA, _, _ => exact ⟨[0, 1, 2, 3, 4, 5, 6, 7, 8, 0], by simp [Pg.heights, Pg.whole, wl, wlS, wayV, Pg.tk, inV, cellsV, callPg, hA]⟩
theorem call_get {l : List Int} {n : Int} {j : Nat} (h : j < l.length) : (callPg l n).code.getD j zIns = ⟨1, l.getD j 0⟩ := by
  unfold callPg
  simp only [List.getD_eq_getElem?_getD]
  rw [List.getElem?_append_left (by simpa using h)]
  simp [h]
theorem call_get2 {l : List Int} {n : Int} : (callPg l n).code.getD l.length zIns = ⟨28, n⟩ := by
  unfold callPg
  simp [List.getD_eq_getElem?_getD]
theorem call_run0 {l : List Int} {n : Int} : ∀ j : Nat, j ≤ l.length → Rk.run j (new0 (callPg l n) 0 1) = ({ new0 (callPg l n) 0 1 with at_ := j, stack := l.take j }, j)
  | 0, _ => rfl
  | j + 1, h => by
    have ih := call_run0 (l := l) (n := n) j (by omega)
    rw [Rk.run_snoc j _ (by rw [ih]) (by rw [ih]; rfl), ih]
    have e : (({ new0 (callPg l n) 0 1 with at_ := (j : Int), stack := l.take j } : Rk).step) = { new0 (callPg l n) 0 1 with at_ := (j : Int) + 1, stack := l.take j ++ [l.getD j 0] } := by
      unfold Rk.step
      show Rk.doV _ ((callPg l n).code.getD (j : Int).toNat zIns) = _
      rw [Int.toNat_natCast, call_get (by omega)]
      rfl
    rw [e]
    have et : l.take (j + 1) = l.take j ++ [l.getD j 0] := by
      rw [List.take_add_one]
      simp [List.getD_eq_getElem?_getD, show j < l.length by omega]
    rw [et]
    rfl
theorem call_run {l : List Int} {n : Int} (hA : n / 32 % 32 = l.length) (h8 : l.length ≤ 8) : ∃ s, Rk.run 20 (new0 (callPg l n) 0 1) = (s, l.length + 1) ∧ s.kind = 1 ∧ s.fault = 0 ∧ s.call = callV (n % 32) (n / 1024) l ∧ Rk.run 20 s = (s, 0) := by
  have h0 := call_run0 (l := l) (n := n) l.length (Nat.le_refl _)
  have h1 := Rk.run_snoc l.length (new0 (callPg l n) 0 1) (by rw [h0]) (by rw [h0]; rfl)
  rw [h0] at h1
  have e : (({ new0 (callPg l n) 0 1 with at_ := (l.length : Int), stack := l.take l.length } : Rk).step) = { new0 (callPg l n) 0 1 with at_ := (l.length : Int) + 1, stack := l.take (l.length - (n / 32 % 32).toNat), kind := 1, call := callV (n % 32) (n / 1024) (l.drop (l.length - (n / 32 % 32).toNat)), fault := 0 } := by
    unfold Rk.step
    show Rk.doV _ ((callPg l n).code.getD (l.length : Int).toNat zIns) = _
    rw [Int.toNat_natCast, call_get2, List.take_length]
    rfl
  dsimp only at h1
  rw [e, show l.length - (n / 32 % 32).toNat = 0 by omega] at h1
  have hk : (Rk.run (l.length + 1) (new0 (callPg l n) 0 1)).1.kind ≠ 0 := by rw [h1]; show (1 : Int) ≠ 0; decide
  have h2 := Rk.run_end (l.length + 1) (19 - l.length) _ hk
  rw [show l.length + 1 + (19 - l.length) = 20 by omega, h1] at h2
  refine ⟨_, h2, rfl, rfl, rfl, ?_⟩
  rw [Rk.run, if_neg (by show ¬ ((1 : Int) = 0); decide)]
end Go.X
set_option linter.unusedVariables false
set_option linter.unusedSimpArgs false
set_option maxRecDepth 4000
namespace Go.Proofs.Ytmbgbffgkdcieaa.Tr
open Go Go.X Go.RowKit Go.Proofs.Ytmbgbffgkdcieaa.XF Go.Proofs.Ytmbgbffgkdcieaa.XK
section
variable {sl : Value} {l : List Int} {w w0 : World} {ρ : Sl} {kind red n : Int} {pb : Nat}
abbrev VcP (w0 : World) : Value → World → Prop := fun v w' => v = .bool true ∧ Mod none_ w0 w'
abbrev VcK (w0 : World) : Exit → Sl → World → Prop := retK Try.prog [ResultVar.tmp 6] (VcP w0)
theorem h_rd {S : World → Prop} {i : Int} {j : Nat} {K : Value → Value → Prop} (hr : reads w 1 sl l.length (i64s l)) (hS : ∀ w', S w' → reads w' 1 sl l.length (i64s l)) (hi : i = (j : Int)) (hlt : j < l.length) (hK : ∀ x1, K x1 (.int .i64 (l.getD j 0))) :
    HK Try.prog S (do pure (Next.value (← Instr.indexAt 22 sl (.int .i64 i)))) fun x2 => HK Try.prog S (do pure (Next.value (← Instr.loadAt 2 x2))) (K x2) := by
  subst hi
  obtain ⟨hll, A, cc, hs, hc, hr⟩ := hr
  obtain ⟨a, ha, hcell⟩ := hr j _ (i64s_get (getD_at hlt))
  subst ha
  subst hs
  refine HV_of (fun w' _ => run_ixa vNs cN (by omega) (by omega) w') (HV_of (v := .int .i64 (l.getD j 0)) (fun w' hw => run_ld1 vN rfl ?_) (hK _))
  obtain ⟨_, A', c', hs', _, hr'⟩ := hS w' hw
  cases hs'
  obtain ⟨a', ha', hcell'⟩ := hr' j _ (i64s_get (getD_at hlt))
  cases ha'
  rw [show ((j : Int).toNat * (0 + 1)) = j by omega]
  exact hcell'
theorem h_bld {P : Program} {S : World → Prop} {K : Value → Prop} {t : TypeId} {parts : List (Nat × Value)} {cs : Array Value} (h : P.built t parts = some cs) (hk : K (.agg cs)) : HK P S (do pure (Next.value (← Instr.build t parts.toArray))) K :=
  HV_of (fun w _ => run_build (P := P) w t parts.toArray cs (by simpa using h)) hk
def nums (l : List Int) : List Ins := l.map fun a => ⟨1, a⟩
theorem fIns {i : Nat} {off : Nat} (h : fieldOff Try.prog 28 i = some off) (w' : World) : (Instr.fieldAt 28 (.pointer (some ⟨pb, 0, none⟩)) i).run Try.prog w' = .ok (.pointer (some ⟨pb, off, none⟩)) w' := by
  rw [run_fo h, add_pl, Nat.zero_add]
theorem owns_bd {w2 : World} {B : Nat} {e : TypeId} {s : Nat} {v : Value} {n : Nat} {xs : List Value} (ho : w2.ownsRow B e s v n xs) : ∀ g, sb v g → B ≤ g ∧ g < w2.heap.size := fun g z => by
  rcases ho.2 with ⟨y, _⟩ | ⟨g', cap', cur', rfl, hb', hg', _⟩
  · rw [y] at z; cases z
  · cases z; exact ⟨hb', X.blk_lt hg'⟩
theorem Vc_R5 {p : Nat} {V : RkV} {s : Rk} {H : List Int} {q1 : Value} {ob : Nat} (hrow : reads w 1 sl l.length (i64s l)) (hm : Mod none_ w0 w) (hR : RkAt w p s V) (hG : ∀ b, V.F p b → w0.heap.size ≤ b) (hI : s.Inv H) (hk1 : s.kind = 1) (hf : s.fault = 0) (hcall : s.call = callV kind red l) (hstop : Rk.run 20 s = (s, 0))
    (hslG : ∀ g, sb sl g → g < w0.heap.size) (hL : LenK kind l) (hk : 1 ≤ kind ∧ kind ≤ 22) (h8 : l.length ≤ 8)
    (hob : w.heap[ob]? = some (.cells (outC s q1).toArray 38 (0, 0))) (hq1 : reads w 1 q1 s.call.reqs.length (i64s s.call.reqs)) (hq1G : ∀ g, sb q1 g → ¬ V.G p g) (hobG : ¬ V.G p ob)
    (e2 : ρ 2 = sl) (e8 : ρ 8 = .int .u8 kind) (e9 : ρ 9 = .int .i64 l.length) (e10 : ρ 10 = .int .u8 red) (e14 : ρ 14 = .pointer (some ⟨p, 0, none⟩)) (e16 : ρ 16 = .pointer (some ⟨ob, 0, none⟩)) (e17 : ρ 17 = .int .i64 ((l.length : Int) + 1)) :
    sx fn_ Try.prog 119 dispatcherlaw07_VmCalls_R5 (VcK w0) ρ w := by
  rw [dispatcherlaw07_VmCalls_R5_eq]; unfold dispatcherlaw07_VmCalls_R5_F
  rw [e14, e16, e17, e8, e9, e10, e2]
  refine CK_st Try.func7 rfl rfl (Run_ok hR hI (fun _ _ _ => call_ok) (by omega)) ?_
  rw [show (20 : Int).toNat = 20 from rfl, hstop]
  rintro _ w1 ⟨q2, V2, rfl, oc2, rq2, nq2, hR2, hF2⟩
  dsimp only at rq2 hR2 ⊢
  rw [extract_ok (v := .agg (outC s q2).toArray) rfl, extract_ok (v := .int .i64 ((0 : Nat) : Int)) rfl]
  obtain ⟨A2, c2, eq2, _⟩ := reads_cap rq2
  refine al_k (cs := zOut.toArray) zO rfl _ fun w2 hb2 hm2 hz2 => ?_
  refine stS (cs := (outC s q2).toArray) (old := zOut.toArray) rfl rfl (by rw [iO]; rfl) rfl (by rw [eq2]; simp [outC, clC, Value.oneCell']) hb2 fun w3 hb3 hm3 hz3 => ?_
  have m13 : Mod none_ w1 w3 := hm2.then hm3 fun i hi q => by omega
  have F0 := hF2.mod
  have s1 := F0.size
  have s0 := hm.size
  have hrow1 : reads w1 1 sl l.length (i64s l) := reads_mod hrow F0 fun g _ z y => by have := hG g y; have := hslG g z; omega
  have hrow3 := reads_mod hrow1 m13 fun _ _ _ => id
  refine CK_st Try.func8 rfl rfl (RC_ok (red := red) hrow3 (by omega) hL hk) ?_
  rintro _ w4 ⟨q3, rfl, oc3, rq3, hm4⟩
  obtain ⟨A3, c3, eq3, _⟩ := reads_cap rq3
  rw [eq3, build_ok (built_outc _ _ _ _), ← eq3]
  refine al_k (cs := zOut.toArray) zO rfl _ fun w5 hb5 hm5 hz5 => ?_
  refine stS (cs := ([Value.int .u8 1] ++ clC (callV kind red l) q3 ++ [Value.int .u8 0]).toArray) (old := zOut.toArray) rfl (by rw [eq3]) (by rw [iO]; rfl) rfl (by rw [eq3]; simp [clC, Value.oneCell']) hb5 fun w6 hb6 hm6 hz6 => ?_
  have m46 : Mod none_ w4 w6 := hm5.then hm6 fun i hi q => by omega
  have m36 := hm4.trans m46
  have m16 := m13.trans m36
  rw [BK_add, wrap_i (n := (l.length : Int) + 1) (by omega) (by omega)]
  simp only [↓VG_u, ↓UG_u, ↓MG_u, ↓NG_u, ↓PG_u, ↓BG_u, ↓CG_u, ↓IG_u, ↓VGtt, ↓VGtf, ↓VGft, ↓VGff, ↓UGtt, ↓UGtf, ↓UGft, ↓UGff, ↓MGtt, ↓MGtf, ↓MGft, ↓MGff, ↓NGtt, ↓NGtf, ↓NGft, ↓NGff, ↓PGtt, ↓PGtf, ↓PGft, ↓PGff, ↓BGtt, ↓BGtf, ↓BGft, ↓BGff, ↓CGtt, ↓CGtf, ↓CGft, ↓CGff, ↓IGtt, ↓IGtf, ↓IGft, ↓IGff, ↓PKt, ↓PKf, ↓CDt, ↓CDf, ↓NOTt, ↓NOTf, ↓NK_ptr, ↓EQt (rfl : (l.length : Int) + 1 = l.length + 1)]
  rw [EQt (show ((0 : Nat) : Int) = 0 from rfl)]
  simp only [↓VG_u, ↓UG_u, ↓MG_u, ↓NG_u, ↓PG_u, ↓BG_u, ↓CG_u, ↓IG_u, ↓VGtt, ↓VGtf, ↓VGft, ↓VGff, ↓UGtt, ↓UGtf, ↓UGft, ↓UGff, ↓MGtt, ↓MGtf, ↓MGft, ↓MGff, ↓NGtt, ↓NGtf, ↓NGft, ↓NGff, ↓PGtt, ↓PGtf, ↓PGft, ↓PGff, ↓BGtt, ↓BGtf, ↓BGft, ↓BGff, ↓CGtt, ↓CGtf, ↓CGft, ↓CGff, ↓IGtt, ↓IGtf, ↓IGft, ↓IGff, ↓PKt, ↓PKf, ↓CDt, ↓CDf, ↓NOTt, ↓NOTf, ↓NK_ptr]
  have hob1 : w1.heap[ob]? = some (.cells (outC s q1).toArray 38 (0, 0)) := F0.blk hob fun y => hobG (.inl y)
  refine ldB Try.underlying38 rfl (by rw [iO]; rfl) (m16.blk hob1 id) ?_
  refine ldB Try.underlying38 rfl (by rw [iO]; simp [clC]) hb6 ?_
  have eo : ∀ q, outC s q = [Value.int .u8 1] ++ clC (callV kind red l) q ++ [Value.int .u8 0] := fun q => by unfold outC; rw [hk1, hf, hcall]
  rw [hcall] at hq1 rq2
  have hq1' : reads w6 1 q1 (callV kind red l).reqs.length (i64s (callV kind red l).reqs) := reads_mod (reads_mod hq1 F0 fun g _ z y => hq1G g z (.inl y)) m16 fun _ _ _ => id
  have hq3' := reads_mod rq3 m46 fun _ _ _ => id
  have hq2' := reads_mod rq2 m16 fun _ _ _ => id
  have hrl : (callV kind red l).reqs.length ≤ 1000 := Nat.le_trans (Rk.callV_reqs _ _ _) (by omega)
  rw [eo]
  try simp only [↓VG_u, ↓UG_u, ↓MG_u, ↓NG_u, ↓PG_u, ↓BG_u, ↓CG_u, ↓IG_u, ↓VGtt, ↓VGtf, ↓VGft, ↓VGff, ↓UGtt, ↓UGtf, ↓UGft, ↓UGff, ↓MGtt, ↓MGtf, ↓MGft, ↓MGff, ↓NGtt, ↓NGtf, ↓NGft, ↓NGff, ↓PGtt, ↓PGtf, ↓PGft, ↓PGff, ↓BGtt, ↓BGtf, ↓BGft, ↓BGff, ↓CGtt, ↓CGtf, ↓CGft, ↓CGff, ↓IGtt, ↓IGtf, ↓IGft, ↓IGff, ↓PKt, ↓PKf, ↓CDt, ↓CDf, ↓NOTt, ↓NOTf, ↓NK_ptr]
  refine CK_st Try.func9 rfl rfl (SameOut_ok hq1' hq3' hrl) ?_
  rintro _ w7 ⟨rfl, hm7⟩
  try simp only [↓VG_u, ↓UG_u, ↓MG_u, ↓NG_u, ↓PG_u, ↓BG_u, ↓CG_u, ↓IG_u, ↓VGtt, ↓VGtf, ↓VGft, ↓VGff, ↓UGtt, ↓UGtf, ↓UGft, ↓UGff, ↓MGtt, ↓MGtf, ↓MGft, ↓MGff, ↓NGtt, ↓NGtf, ↓NGft, ↓NGff, ↓PGtt, ↓PGtf, ↓PGft, ↓PGff, ↓BGtt, ↓BGtf, ↓BGft, ↓BGff, ↓CGtt, ↓CGtf, ↓CGft, ↓CGff, ↓IGtt, ↓IGtf, ↓IGft, ↓IGff, ↓PKt, ↓PKf, ↓CDt, ↓CDf, ↓NOTt, ↓NOTf, ↓NK_ptr]
  refine ldB Try.underlying38 rfl (by rw [iO]; rfl) ((m36.trans hm7).blk hb3 id) ?_
  refine ldB Try.underlying38 rfl (by rw [iO]; simp [clC]) (hm7.blk hb6 id) ?_
  rw [eo]
  try simp only [↓VG_u, ↓UG_u, ↓MG_u, ↓NG_u, ↓PG_u, ↓BG_u, ↓CG_u, ↓IG_u, ↓VGtt, ↓VGtf, ↓VGft, ↓VGff, ↓UGtt, ↓UGtf, ↓UGft, ↓UGff, ↓MGtt, ↓MGtf, ↓MGft, ↓MGff, ↓NGtt, ↓NGtf, ↓NGft, ↓NGff, ↓PGtt, ↓PGtf, ↓PGft, ↓PGff, ↓BGtt, ↓BGtf, ↓BGft, ↓BGff, ↓CGtt, ↓CGtf, ↓CGft, ↓CGff, ↓IGtt, ↓IGtf, ↓IGft, ↓IGff, ↓PKt, ↓PKf, ↓CDt, ↓CDf, ↓NOTt, ↓NOTf, ↓NK_ptr]
  refine CK_st Try.func9 rfl rfl (SameOut_ok (reads_mod hq2' hm7 fun _ _ _ => id) (reads_mod hq3' hm7 fun _ _ _ => id) hrl) ?_
  rintro _ w8 ⟨rfl, hm8⟩
  try simp only [↓VG_u, ↓UG_u, ↓MG_u, ↓NG_u, ↓PG_u, ↓BG_u, ↓CG_u, ↓IG_u, ↓VGtt, ↓VGtf, ↓VGft, ↓VGff, ↓UGtt, ↓UGtf, ↓UGft, ↓UGff, ↓MGtt, ↓MGtf, ↓MGft, ↓MGff, ↓NGtt, ↓NGtf, ↓NGft, ↓NGff, ↓PGtt, ↓PGtf, ↓PGft, ↓PGff, ↓BGtt, ↓BGtf, ↓BGft, ↓BGff, ↓CGtt, ↓CGtf, ↓CGft, ↓CGff, ↓IGtt, ↓IGtf, ↓IGft, ↓IGff, ↓PKt, ↓PKf, ↓CDt, ↓CDf, ↓NOTt, ↓NOTf, ↓NK_ptr]
  refine ⟨rfl, ((hm.then F0 fun i hi q => by have := hG i q; omega).trans (m16.trans hm7)).trans hm8⟩
theorem Vc_R2 {cv : Value} (hrow0 : reads w0 1 sl l.length (i64s l)) (hm : Mod none_ w0 w) (hn : 0 ≤ argsV n) (hA : argsV n = l.length) (hnk : n % 32 = kind) (hnr : n / 1024 = red) (h8 : l.length ≤ 8)
    (hpb : w.heap[pb]? = some (.cells #[cv, .int .i64 0, .slice none 0 0] 28 (0, 0))) (hpn : w0.heap.size ≤ pb) (ho : w.ownsRow w0.heap.size 30 2 cv l.length ((nums l).flatMap Ins.cells)) (hcp : ¬ sb cv pb)
    (e2 : ρ 2 = sl) (e7 : ρ 7 = .int .i64 n) (e8 : ρ 8 = .int .u8 kind) (e9 : ρ 9 = .int .i64 l.length) (e10 : ρ 10 = .int .u8 red) (e12 : ρ 12 = .pointer (some ⟨pb, 0, none⟩)) :
    sx fn_ Try.prog 119 dispatcherlaw07_VmCalls_R2 (VcK w0) ρ w := by
  obtain ⟨m1, m2, m3, m4, m5⟩ := Rk.argsV_many hn
  obtain ⟨c1, c2, c3, c4, c5, c6, c7, c8⟩ := call_len hn
  have hlen : n / 32 % 32 = l.length := by omega
  have hlt0' := reads_lt hrow0 (by unfold i64s; rw [List.length_map]; omega)
  rw [dispatcherlaw07_VmCalls_R2_eq]; unfold dispatcherlaw07_VmCalls_R2_F
  rw [e7, e12]
  have f0 : FO Try.prog w 28 0 0 ⟨pb, 0, none⟩ 25 cv := FO.blk hpb (by kernel_rfl) vCs rfl rfl
  rw [f0.e, build_ok (cs := (Ins.cells ⟨28, n⟩).toArray) (by kernel_rfl), build_ok (cs := (Ins.cells ⟨29, 0⟩).toArray) (by kernel_rfl)]
  refine bs_k (cs := (([⟨28, n⟩, ⟨29, 0⟩] : List Ins).flatMap Ins.cells).toArray) (by kernel_rfl) fun w1 hb1 hm1 hz1 => ?_
  have s0 := hm.size
  refine ap_any eCs (owns_mod ho hm1 fun _ _ => id) (reads_blk (size := 2) (n := 2) hb1 rfl) (fun u hu => ins_one [⟨28, n⟩, ⟨29, 0⟩] u (by simpa using hu)) (by unfold maxLen; omega) (by omega) (by omega) fun cv' w2 ho2 hm2 hv2 => ?_
  have s1 := hm1.size
  have hpb1 : w1.heap[pb]? = some (.cells #[cv, .int .i64 0, .slice none 0 0] 28 (0, 0)) := hm1.blk hpb id
  have hpb2 := hm2.blk hpb1 (fun z => hcp z.symm)
  rw [fo (show fieldOff Try.prog 28 0 = some 0 by kernel_rfl), add_pl]
  refine stC (o := 0) rfl (by kernel_rfl) (owns_oc ho2) hpb2 (by show 0 < 3; omega) fun w3 hb3 hm3 hz3 => ?_
  have hb3' : w3.heap[pb]? = some (.cells #[cv', .int .i64 0, .slice none 0 0] 28 (0, 0)) := hb3
  have ecode : (nums l).flatMap Ins.cells ++ (([⟨28, n⟩, ⟨29, 0⟩] : List Ins).flatMap Ins.cells).toArray.toList = (callPg l n).code.flatMap Ins.cells := by
    unfold callPg nums; simp
  rw [ecode] at ho2
  have elen : l.length + 2 = (callPg l n).code.length := by unfold callPg; simp
  have hlt2 : ∀ b, sb cv' b → w0.heap.size ≤ b ∧ b < w2.heap.size := owns_bd ho2
  have hpb_lt := X.blk_lt hpb
  have ncp : ¬ sb cv' pb := fun z => by
    rcases hv2 with y | y
    · exact hcp (by unfold sb at z ⊢; rw [← y]; exact z)
    · unfold sb at z; rw [y] at z; injection z with z; omega
  have hm13 : Mod (fun b => w0.heap.size ≤ b) w1 w3 := (hm2.mono fun b _ z => by have := owns_bd (owns_mod ho hm1 fun _ _ => id) b z.symm; omega).trans (hm3.mono fun b _ z => by omega)
  have hm3' : Mod none_ w0 w3 := (hm.trans hm1).then hm13 fun i hi z => by omega
  refine ldB Try.underlying28 rfl (by rw [iPg]; rfl) hb3' ?_
  have hpg : PgOk w3 (callPg l n) [cv', .int .i64 0, .slice none 0 0] := PgOk.mk' (cv := cv') ⟨by rw [← elen]; exact reads_mod (reads_of_owns ho2) hm3 fun g _ z y => ncp (y ▸ z), trivial⟩ (reads_nil _ _)
  refine CK_st Try.func6 rfl rfl (new_ok hpg (by rw [← elen]; omega) (by show 0 ≤ 1048576; omega) 0 1) ?_
  rintro v4 w4 ⟨hv4, hm4⟩
  obtain ⟨H, hH⟩ := call_hts (l := l) (n := n) hA (by omega) h8
  have hmay : (callPg l n).may = true := by unfold Pg.may; rw [hH]; rfl
  have hInv := inv_new hH 0 1
  rcases hv4 with ⟨q, _⟩ | ⟨_, q, _⟩ | ⟨_, _, p, V, rfl, hR, hG⟩
  · rw [hmay] at q; cases q
  · omega
  rw [extract_ok (v := .pointer (some ⟨p, 0, none⟩)) rfl, extract_ok (v := .int .i64 0) rfl]
  simp only [↓VG_u, ↓UG_u, ↓MG_u, ↓NG_u, ↓PG_u, ↓BG_u, ↓CG_u, ↓IG_u, ↓VGtt, ↓VGtf, ↓VGft, ↓VGff, ↓UGtt, ↓UGtf, ↓UGft, ↓UGff, ↓MGtt, ↓MGtf, ↓MGft, ↓MGff, ↓NGtt, ↓NGtf, ↓NGft, ↓NGff, ↓PGtt, ↓PGtf, ↓PGft, ↓PGff, ↓BGtt, ↓BGtf, ↓BGft, ↓BGff, ↓CGtt, ↓CGtf, ↓CGft, ↓CGff, ↓IGtt, ↓IGtf, ↓IGft, ↓IGff, ↓PKt, ↓PKf, ↓CDt, ↓CDf, ↓NOTt, ↓NOTf, ↓NK_ptr, ↓NEf (rfl : (0 : Int) = 0)]
  rw [BK_eqlP uRp]
  simp only [↓VG_u, ↓UG_u, ↓MG_u, ↓NG_u, ↓PG_u, ↓BG_u, ↓CG_u, ↓IG_u, ↓VGtt, ↓VGtf, ↓VGft, ↓VGff, ↓UGtt, ↓UGtf, ↓UGft, ↓UGff, ↓MGtt, ↓MGtf, ↓MGft, ↓MGff, ↓NGtt, ↓NGtf, ↓NGft, ↓NGff, ↓PGtt, ↓PGtf, ↓PGft, ↓PGff, ↓BGtt, ↓BGtf, ↓BGft, ↓BGff, ↓CGtt, ↓CGtf, ↓CGft, ↓CGff, ↓IGtt, ↓IGtf, ↓IGft, ↓IGff, ↓PKt, ↓PKf, ↓CDt, ↓CDf, ↓NOTt, ↓NOTf, ↓NK_ptr, Option.isNone_some]
  refine CK_st Try.func7 rfl rfl (Run_ok hR hInv (fun _ _ _ => call_ok) (by omega)) ?_
  obtain ⟨s, hrun, k1, k2, k3, k4⟩ := call_run (l := l) (n := n) hlen h8
  rw [show (20 : Int).toNat = 20 from rfl, hrun]
  rintro _ w5 ⟨q1, V1, rfl, oc1, rq1, nq1, hR5, hF5⟩
  dsimp only at rq1 hR5 ⊢
  rw [extract_ok (v := .agg (outC s q1).toArray) rfl, extract_ok (v := .int .i64 ((l.length + 1 : Nat) : Int)) rfl]
  obtain ⟨A1, d1, eq1, _⟩ := reads_cap rq1
  refine al_k (cs := zOut.toArray) zO rfl _ fun w6 hb6 hm6 hz6 => ?_
  refine stS (cs := (outC s q1).toArray) (old := zOut.toArray) rfl rfl (by rw [iO]; rfl) rfl (by rw [eq1]; simp [outC, clC, Value.oneCell']) hb6 fun w7 hb7 hm7 hz7 => ?_
  have s3 := hm3'.size
  have s4 := hm4.size
  have s5 := hF5.mod.size
  have m57 : Mod none_ w5 w7 := hm6.then hm7 fun i hi q => by omega
  have m4 : Mod none_ w0 w5 := (hm3'.trans hm4).then hF5.mod fun i hi z => by have := hG i (.inl z); omega
  have hI5 : s.Inv H := by have := Rk.Inv.run 20 hInv; rw [hrun] at this; exact this
  have hs0 : ∀ g, sb sl g → g < w0.heap.size := hlt0'
  refine Vc_R5 (p := p) (V := V1) (s := s) (H := H) (q1 := q1) (ob := w5.heap.size) (kind := kind) (red := red) ?_ (m4.trans m57) (hR5.calm m57) ?_ hI5 k1 k2 ?_ k4 hs0 ?_ ?_ h8 hb7 (reads_mod rq1 m57 fun _ _ _ => id) (fun g z => (nq1 g z).2) (fun z => by have := hR5.old _ z; omega) e2 e8 e9 e10 rfl rfl ?_
  · exact reads_mod hrow0 (m4.trans m57) fun _ _ _ => id
  · intro b z
    rcases hF5.f b z with y | y
    · have := hG b (.inl y); omega
    · omega
  · rw [k3, hnk, hnr]
  · exact ⟨fun z => by have := c1 (by omega); omega, fun z => by have := c2 (by omega); omega, fun z => by have := c4 (by omega); omega, fun z => by have := c5 (by omega); omega, fun z => by have := c6 (by omega); omega, by omega⟩
  · omega
  · show Value.int .i64 ((l.length + 1 : Nat) : Int) = _
    congr 1
theorem Vc_L1 (hrow0 : reads w0 1 sl l.length (i64s l)) (hm : Mod none_ w0 w) (hn : 0 ≤ argsV n) (hA : argsV n = l.length) (hnk : n % 32 = kind) (hnr : n / 1024 = red) (h8 : l.length ≤ 8)
    (hpb : w.heap[pb]? = some (.cells #[.slice none 0 0, .int .i64 0, .slice none 0 0] 28 (0, 0))) (hpn : w0.heap.size ≤ pb)
    (e2 : ρ 2 = sl) (e7 : ρ 7 = .int .i64 n) (e8 : ρ 8 = .int .u8 kind) (e9 : ρ 9 = .int .i64 l.length) (e10 : ρ 10 = .int .u8 red) (e12 : ρ 12 = .pointer (some ⟨pb, 0, none⟩)) (e13 : ρ 13 = .int .i64 0) :
    W fn_ Try.prog 119 (Code.loop dispatcherlaw07_VmCalls_L1) (blkK 0 (seqK (sx fn_ Try.prog 119 dispatcherlaw07_VmCalls_R2 (VcK w0)) (VcK w0))) ρ w := by
  obtain ⟨m1, m2, m3, m4, m5⟩ := Rk.argsV_many hn
  have hslg := reads_lt hrow0 (by unfold i64s; rw [List.length_map]; omega)
  refine W_loop dispatcherlaw07_VmCalls_L1_ok (fun ρ' w' => ∃ (j : Nat) (cv : Value), j ≤ l.length ∧ ρ' 2 = sl ∧ ρ' 7 = .int .i64 n ∧ ρ' 8 = .int .u8 kind ∧ ρ' 9 = .int .i64 l.length ∧ ρ' 10 = .int .u8 red ∧ ρ' 12 = .pointer (some ⟨pb, 0, none⟩) ∧ ρ' 13 = .int .i64 j ∧ Mod none_ w0 w' ∧ w'.heap[pb]? = some (.cells #[cv, .int .i64 0, .slice none 0 0] 28 (0, 0)) ∧ w'.ownsRow w0.heap.size 30 2 cv j ((nums (l.take j)).flatMap Ins.cells) ∧ ¬ sb cv pb) (fun ρ' _ => l.length - (intOf (ρ' 13)).toNat)
    ⟨0, .slice none 0 0, by omega, e2, e7, e8, e9, e10, e12, e13, hm, hpb, World.ownsRow_nil _ _ _ _, fun z => by cases z⟩ ?_
  rintro ρ' w' ⟨j, cv, hj, y2, y7, y8, y9, y10, y12, y13, hM, hb, hO, hcp⟩
  rw [dispatcherlaw07_VmCalls_L1_eq]; unfold dispatcherlaw07_VmCalls_L1_F
  obtain ⟨A, cc, es, _⟩ := reads_cap hrow0
  rw [y2, y13, es, len_sl vNs, ← es, BK_lss]
  have hrow := reads_mod hrow0 hM fun _ _ _ => id
  have sM := hM.size
  have hpl := X.blk_lt hb
  by_cases hlt : j < l.length
  · rw [decide_eq_true (by omega)]
    refine condT ?_
    refine dispatcherlaw07_VmCalls_R3_held (D := []) (fun w'' => reads w'' 1 sl l.length (i64s l)) (reads_mod hrow (Mod.drawn (Mod.refl none_ w') _) fun _ _ _ => id) ?_
    unfold dispatcherlaw07_VmCalls_R3_H
    have hdn : Mod none_ w' { w' with drawn := w'.drawn + 1 } := (Mod.refl _ w').drawn _
    have hdz : ({ w' with drawn := w'.drawn + 1 } : World).heap.size = w'.heap.size := rfl
    generalize ({ w' with drawn := w'.drawn + 1 } : World) = wd at *
    have hMd := hM.trans hdn
    have hrd := reads_mod hrow hdn fun _ _ _ => id
    have hOd := owns_mod hO hdn fun _ _ => id
    have hbd := hdn.blk hb id
    have hrng := owns_bd hOd
    simp only [sq_n, sq_x, sq_r, bk_n, bk_r, bk_x, rt_r, rt_n, rs_0, rs_t, pk_1, pk_2, up_at, reduceIte, Nat.reduceEqDiff, y2, y12, y13]
    refine HV_of (fun w' _ => fIns (off := 0) (by kernel_rfl) w') ?_
    refine h_rd hrd (fun _ q => q) rfl hlt fun _ => ?_
    refine h_bld (cs := (Ins.cells ⟨1, l.getD j 0⟩).toArray) (by kernel_rfl) ?_
    have ld0 : ∀ {w2 : World} {K : Value → World → Prop}, Mod none_ wd w2 → K cv w2 → VK Try.prog (Instr.loadAt 25 (.pointer (some ⟨pb, 0, none⟩))) w2 K := fun hm hK => ld1 vCs rfl (by rw [cell_blk (hm.blk hbd id)]; rfl) hK
    have et : (nums (l.take j)).flatMap Ins.cells ++ (Ins.cells ⟨1, l.getD j 0⟩) = (nums (l.take (j + 1))).flatMap Ins.cells := by
      have et : l.take (j + 1) = l.take j ++ [l.getD j 0] := by rw [List.take_add_one, getD_at hlt]; rfl
      rw [et]; simp [nums]
    have app : ∀ {w2 : World} {bv : Nat} {K : Value → World → Prop}, Mod none_ wd w2 → w2.heap[bv]? = some (.cells (Ins.cells ⟨1, l.getD j 0⟩).toArray 30 (0, 0)) → (∀ v w3, w3.ownsRow w0.heap.size 30 2 v (j + 1) ((nums (l.take (j + 1))).flatMap Ins.cells) → ¬ sb v pb → Mod (fun b => w0.heap.size ≤ b ∧ b ≠ pb) wd w3 → K v w3) → IK Try.prog .append #[25, 25] 25 [false, false] [cv, .slice (some ⟨bv, 0, none⟩) 1 1] w2 K := fun {w2 bv K} hm hb hK => by
      have hz := hm.size
      refine ap_any eCs (owns_mod hOd hm fun _ _ => id) (reads_blk (size := 2) (n := 1) hb rfl) (fun u hu => ins_one [⟨1, l.getD j 0⟩] u (by simpa using hu)) (by unfold maxLen; omega) (by omega) (by omega) fun v' w4 hown4 hm4 hv4 => ?_
      rw [show ((Ins.cells ⟨1, l.getD j 0⟩).toArray.toList) = Ins.cells ⟨1, l.getD j 0⟩ from rfl, et] at hown4
      refine hK v' w4 hown4 (fun z => ?_) ((hm.mono fun _ _ z => z.elim).trans (hm4.mono fun b _ z => ⟨(hrng b z.symm).1, fun y => hcp (by rw [← y]; exact z.symm)⟩))
      rcases hv4 with y | y
      · exact hcp (by unfold sb at z ⊢; rw [← y]; exact z)
      · unfold sb at z; rw [y] at z; injection z with z; omega
    have fin : ∀ {w3 : World} {v : Value} {K : Value → World → Prop}, w3.ownsRow w0.heap.size 30 2 v (j + 1) ((nums (l.take (j + 1))).flatMap Ins.cells) → ¬ sb v pb → Mod (fun b => w0.heap.size ≤ b ∧ b ≠ pb) wd w3 → (∀ w4, Mod none_ w0 w4 → w4.heap[pb]? = some (.cells #[v, .int .i64 0, .slice none 0 0] 28 (0, 0)) → w4.ownsRow w0.heap.size 30 2 v (j + 1) ((nums (l.take (j + 1))).flatMap Ins.cells) → K undef w4) → UK Try.prog (Instr.storeAt 25 (.pointer (some ⟨pb, 0, none⟩)) v) w3 K := fun {w3 v K} ho hcv hm hK => by
      refine stC (o := 0) rfl (by kernel_rfl) (owns_oc ho) (hm.blk hbd fun z => z.2 rfl) (by show 0 < 3; omega) fun w4 hb4 hm4 hz4 => ?_
      exact hK w4 ((hMd.then hm fun i hi z => by omega).then hm4 fun i hi z => by omega) hb4 (owns_mod ho hm4 fun g z y => hcv (y ▸ z))
    have nx : ∀ {w4 : World} {v : Value} (ρ4 : Sl), ρ4 2 = sl → ρ4 7 = ρ' 7 → ρ4 8 = ρ' 8 → ρ4 9 = ρ' 9 → ρ4 10 = ρ' 10 → ρ4 12 = .pointer (some ⟨pb, 0, none⟩) → ρ4 13 = .int .i64 j → ¬ sb v pb → Mod none_ w0 w4 → w4.heap[pb]? = some (.cells #[v, .int .i64 0, .slice none 0 0] 28 (0, 0)) → w4.ownsRow w0.heap.size 30 2 v (j + 1) ((nums (l.take (j + 1))).flatMap Ins.cells) →
        sx fn_ Try.prog 119 dispatcherlaw07_VmCalls_R4 (seqK (fun ρ'' w'' => (∃ (j : Nat) (cv : Value), j ≤ l.length ∧ ρ'' 2 = sl ∧ ρ'' 7 = .int .i64 n ∧ ρ'' 8 = .int .u8 kind ∧ ρ'' 9 = .int .i64 l.length ∧ ρ'' 10 = .int .u8 red ∧ ρ'' 12 = .pointer (some ⟨pb, 0, none⟩) ∧ ρ'' 13 = .int .i64 j ∧ Mod none_ w0 w'' ∧ w''.heap[pb]? = some (.cells #[cv, .int .i64 0, .slice none 0 0] 28 (0, 0)) ∧ w''.ownsRow w0.heap.size 30 2 cv j ((nums (l.take j)).flatMap Ins.cells) ∧ ¬ sb cv pb) ∧ l.length - (intOf (ρ'' 13)).toNat < l.length - (intOf (.int .i64 (j : Int))).toNat) (blkK 0 (seqK (sx fn_ Try.prog 119 dispatcherlaw07_VmCalls_R2 (VcK w0)) (VcK w0)))) ρ4 w4 := fun {w4 v} ρ4 p2 p7 p8 p9 p10 p12 p13 hv hm hb ho => by
      rw [dispatcherlaw07_VmCalls_R4_eq]; unfold dispatcherlaw07_VmCalls_R4_F
      rw [p13, BK_add, wrap_i (n := (j : Int) + 1) (by omega) (by omega)]
      refine ⟨⟨j + 1, v, by omega, p2, p7.trans y7, p8.trans y8, p9.trans y9, p10.trans y10, p12, rfl, hm, hb, ho, hv⟩, ?_⟩
      show l.length - (intOf (.int .i64 ((j : Int) + 1))).toNat < _
      simp only [intOf]
      omega
    refine ⟨?_, ?_⟩
    · refine ld0 (Mod.refl _ _) ⟨hrd, ?_⟩
      refine bs_k (cs := (Ins.cells ⟨1, l.getD j 0⟩).toArray) (by kernel_rfl) fun w1 hb1 hm1 hz1 => ⟨reads_mod hrd hm1 fun _ _ _ => id, ?_⟩
      refine app hm1 hb1 fun v w3 ho3 hv3 hm3 => ⟨reads_mod hrd hm3 fun g _ z y => by have := hslg g z; omega, ?_⟩
      refine HV_of (fun w' _ => fIns (off := 0) (by kernel_rfl) w') ?_
      refine fin ho3 hv3 hm3 fun w4 c4 m4 o4 => ⟨reads_mod hrow0 c4 fun _ _ _ => id, ?_⟩
      refine nx _ ?_ ?_ ?_ ?_ ?_ ?_ ?_ hv3 c4 m4 o4 <;> first | rfl | exact y2 | exact y12 | exact y13
    · refine bs_k (cs := (Ins.cells ⟨1, l.getD j 0⟩).toArray) (by kernel_rfl) fun w1 hb1 hm1 hz1 => ⟨reads_mod hrd hm1 fun _ _ _ => id, ?_⟩
      refine ld0 hm1 ⟨reads_mod hrd hm1 fun _ _ _ => id, ?_⟩
      refine app hm1 hb1 fun v w3 ho3 hv3 hm3 => ⟨reads_mod hrd hm3 fun g _ z y => by have := hslg g z; omega, ?_⟩
      refine HV_of (fun w' _ => fIns (off := 0) (by kernel_rfl) w') ?_
      refine fin ho3 hv3 hm3 fun w4 c4 m4 o4 => ⟨reads_mod hrow0 c4 fun _ _ _ => id, ?_⟩
      refine nx _ ?_ ?_ ?_ ?_ ?_ ?_ ?_ hv3 c4 m4 o4 <;> first | rfl | exact y2 | exact y12 | exact y13
  · rw [decide_eq_false (by omega)]
    refine condF ?_
    obtain rfl : j = l.length := by omega
    rw [sq_x, bk_x, sq_n]
    rw [List.take_length] at hO
    exact Vc_R2 hrow0 hM hn hA hnk hnr h8 hb hpn hO hcp y2 y7 y8 y9 y10 y12
end
theorem VmCalls_ok {kind red : Int} {sl : Value} {l : List Int} {w : World} (k0 : 0 ≤ kind) (k1 : kind ≤ 255) (r0 : 0 ≤ red) (r1 : red ≤ 255) (hrow : reads w 1 sl l.length (i64s l)) : Rt Try.prog 3 #[.int .u8 kind, .int .u8 red, sl] w (VcP w) := by
  refine dispatcherlaw07_VmCalls_calls ?_
  unfold dispatcherlaw07_VmCalls_F
  obtain ⟨A, cc, es, _⟩ := reads_cap hrow
  rw [conv_k (k := .i64) (by kernel_rfl) (by kernel_rfl), es, len_sl vNs, ← es, BK_mul, BK_add, BK_rem (by decide), Int.tmod_eq_emod_of_nonneg r0, conv_k (k := .i64) (by kernel_rfl) (by kernel_rfl), BK_mul, BK_add]
  obtain ⟨n, hn⟩ : ∃ n, n = IntKind.i64.wrap (IntKind.i64.wrap (IntKind.i64.wrap kind + IntKind.i64.wrap (32 * (l.length : Int))) + IntKind.i64.wrap (1024 * IntKind.i64.wrap (red % 3))) := ⟨_, rfl⟩
  rw [← hn]
  have hn' : -9223372036854775808 ≤ n ∧ n < 9223372036854775808 := by rw [hn, IntKind.wrap_i64]; omega
  refine CK_st Try.func5 rfl rfl (CallR_ok n hn'.2 hn'.1 w) ?_
  rintro _ w' ⟨rfl, rfl⟩
  by_cases hA : 0 ≤ argsV n
  case neg =>
    rw [if_neg hA, extract_ok (v := .int .u8 0) rfl, extract_ok (v := .int .i64 0) rfl, extract_ok (v := .int .u8 0) rfl, extract_ok (v := .bool false) rfl]
    rw [dispatcherlaw07_VmCalls_R0_eq]; unfold dispatcherlaw07_VmCalls_R0_F
    simp only [sq_n, sq_x, sq_r, bk_n, bk_r, bk_x, rt_r, rt_n, rs_0, rs_t, pk_1, pk_2, up_at, reduceIte, Nat.reduceEqDiff]
    simp only [↓VG_u, ↓UG_u, ↓MG_u, ↓NG_u, ↓PG_u, ↓BG_u, ↓CG_u, ↓IG_u, ↓VGtt, ↓VGtf, ↓VGft, ↓VGff, ↓UGtt, ↓UGtf, ↓UGft, ↓UGff, ↓MGtt, ↓MGtf, ↓MGft, ↓MGff, ↓NGtt, ↓NGtf, ↓NGft, ↓NGff, ↓PGtt, ↓PGtf, ↓PGft, ↓PGff, ↓BGtt, ↓BGtf, ↓BGft, ↓BGff, ↓CGtt, ↓CGtf, ↓CGft, ↓CGff, ↓IGtt, ↓IGtf, ↓IGft, ↓IGff, ↓PKt, ↓PKf, ↓CDt, ↓CDf, ↓NOTt, ↓NOTf, ↓NK_ptr]
    exact ⟨rfl, Mod.refl _ _⟩
  rw [if_pos hA, extract_ok (v := .int .u8 (n % 32)) rfl, extract_ok (v := .int .i64 (argsV n)) rfl, extract_ok (v := .int .u8 (n / 1024)) rfl, extract_ok (v := .bool true) rfl]
  have key : ∀ ρ : Sl, ρ 0 = .int .u8 kind → ρ 2 = sl → ρ 7 = .int .i64 n → ρ 8 = .int .u8 (n % 32) → ρ 9 = .int .i64 (argsV n) → ρ 10 = .int .u8 (n / 1024) → ρ 11 = .bool true → sx fn_ Try.prog 119 dispatcherlaw07_VmCalls_R0 (VcK w') ρ w' := by
    intro ρ e0 e2 e7 e8 e9 e10 e11
    rw [dispatcherlaw07_VmCalls_R0_eq]; unfold dispatcherlaw07_VmCalls_R0_F
    rw [e11, e2, e0]
    simp only [↓VG_u, ↓UG_u, ↓MG_u, ↓NG_u, ↓PG_u, ↓BG_u, ↓CG_u, ↓IG_u, ↓VGtt, ↓VGtf, ↓VGft, ↓VGff, ↓UGtt, ↓UGtf, ↓UGft, ↓UGff, ↓MGtt, ↓MGtf, ↓MGft, ↓MGff, ↓NGtt, ↓NGtf, ↓NGft, ↓NGff, ↓PGtt, ↓PGtf, ↓PGft, ↓PGff, ↓BGtt, ↓BGtf, ↓BGft, ↓BGff, ↓CGtt, ↓CGtf, ↓CGft, ↓CGff, ↓IGtt, ↓IGtf, ↓IGft, ↓IGff, ↓PKt, ↓PKf, ↓CDt, ↓CDf, ↓NOTt, ↓NOTf, ↓NK_ptr]
    rw [es, len_sl vNs, ← es]
    try simp only [↓VG_u, ↓UG_u, ↓MG_u, ↓NG_u, ↓PG_u, ↓BG_u, ↓CG_u, ↓IG_u, ↓VGtt, ↓VGtf, ↓VGft, ↓VGff, ↓UGtt, ↓UGtf, ↓UGft, ↓UGff, ↓MGtt, ↓MGtf, ↓MGft, ↓MGff, ↓NGtt, ↓NGtf, ↓NGft, ↓NGff, ↓PGtt, ↓PGtf, ↓PGft, ↓PGff, ↓BGtt, ↓BGtf, ↓BGft, ↓BGff, ↓CGtt, ↓CGtf, ↓CGft, ↓CGff, ↓IGtt, ↓IGtf, ↓IGft, ↓IGff, ↓PKt, ↓PKf, ↓CDt, ↓CDf, ↓NOTt, ↓NOTf, ↓NK_ptr]
    by_cases h8 : (8 : Int) < l.length
    · simp only [↓VG_u, ↓UG_u, ↓MG_u, ↓NG_u, ↓PG_u, ↓BG_u, ↓CG_u, ↓IG_u, ↓VGtt, ↓VGtf, ↓VGft, ↓VGff, ↓UGtt, ↓UGtf, ↓UGft, ↓UGff, ↓MGtt, ↓MGtf, ↓MGft, ↓MGff, ↓NGtt, ↓NGtf, ↓NGft, ↓NGff, ↓PGtt, ↓PGtf, ↓PGft, ↓PGff, ↓BGtt, ↓BGtf, ↓BGft, ↓BGff, ↓CGtt, ↓CGtf, ↓CGft, ↓CGff, ↓IGtt, ↓IGtf, ↓IGft, ↓IGff, ↓PKt, ↓PKf, ↓CDt, ↓CDf, ↓NOTt, ↓NOTf, ↓NK_ptr, ↓GTt h8]
      exact ⟨rfl, Mod.refl _ _⟩
    simp only [↓VG_u, ↓UG_u, ↓MG_u, ↓NG_u, ↓PG_u, ↓BG_u, ↓CG_u, ↓IG_u, ↓VGtt, ↓VGtf, ↓VGft, ↓VGff, ↓UGtt, ↓UGtf, ↓UGft, ↓UGff, ↓MGtt, ↓MGtf, ↓MGft, ↓MGff, ↓NGtt, ↓NGtf, ↓NGft, ↓NGff, ↓PGtt, ↓PGtf, ↓PGft, ↓PGff, ↓BGtt, ↓BGtf, ↓BGft, ↓BGff, ↓CGtt, ↓CGtf, ↓CGft, ↓CGff, ↓IGtt, ↓IGtf, ↓IGft, ↓IGff, ↓PKt, ↓PKf, ↓CDt, ↓CDf, ↓NOTt, ↓NOTf, ↓NK_ptr, ↓GTf (Int.not_lt.1 h8)]
    by_cases h31 : 31 < kind
    · simp only [↓VG_u, ↓UG_u, ↓MG_u, ↓NG_u, ↓PG_u, ↓BG_u, ↓CG_u, ↓IG_u, ↓VGtt, ↓VGtf, ↓VGft, ↓VGff, ↓UGtt, ↓UGtf, ↓UGft, ↓UGff, ↓MGtt, ↓MGtf, ↓MGft, ↓MGff, ↓NGtt, ↓NGtf, ↓NGft, ↓NGff, ↓PGtt, ↓PGtf, ↓PGft, ↓PGff, ↓BGtt, ↓BGtf, ↓BGft, ↓BGff, ↓CGtt, ↓CGtf, ↓CGft, ↓CGff, ↓IGtt, ↓IGtf, ↓IGft, ↓IGff, ↓PKt, ↓PKf, ↓CDt, ↓CDf, ↓NOTt, ↓NOTf, ↓NK_ptr, ↓GTt h31]
      exact ⟨rfl, Mod.refl _ _⟩
    simp only [↓VG_u, ↓UG_u, ↓MG_u, ↓NG_u, ↓PG_u, ↓BG_u, ↓CG_u, ↓IG_u, ↓VGtt, ↓VGtf, ↓VGft, ↓VGff, ↓UGtt, ↓UGtf, ↓UGft, ↓UGff, ↓MGtt, ↓MGtf, ↓MGft, ↓MGff, ↓NGtt, ↓NGtf, ↓NGft, ↓NGff, ↓PGtt, ↓PGtf, ↓PGft, ↓PGff, ↓BGtt, ↓BGtf, ↓BGft, ↓BGff, ↓CGtt, ↓CGtf, ↓CGft, ↓CGff, ↓IGtt, ↓IGtf, ↓IGft, ↓IGff, ↓PKt, ↓PKf, ↓CDt, ↓CDf, ↓NOTt, ↓NOTf, ↓NK_ptr, ↓GTf (Int.not_lt.1 h31)]
    have en : n = kind + 32 * l.length + 1024 * (red % 3) := by
      rw [hn, wrap_i (n := kind) (by omega) (by omega), wrap_i (n := 32 * (l.length : Int)) (by omega) (by omega), wrap_i (n := red % 3) (by omega) (by omega), wrap_i (n := 1024 * (red % 3)) (by omega) (by omega), wrap_i (n := kind + 32 * (l.length : Int)) (by omega) (by omega), wrap_i (by omega) (by omega)]
    have eA : argsV n = l.length := by
      have := (Rk.argsV_many hA).1
      omega
    rw [build_ok (cs := #[.slice none 0 0, .int .i64 0, .slice none 0 0]) (by kernel_rfl)]
    refine al_k (cs := #[.slice none 0 0, .int .i64 0, .slice none 0 0]) zPg_z rfl _ fun w2 hb2 hm2 hz2 => ?_
    refine stS (cs := #[.slice none 0 0, .int .i64 0, .slice none 0 0]) (old := #[.slice none 0 0, .int .i64 0, .slice none 0 0]) rfl rfl (by rw [iPg]; rfl) rfl (by simp [Value.oneCell']) hb2 fun w3 hb3 hm3 hz3 => ?_
    have hm : Mod none_ w' w3 := hm2.then hm3 fun i hi q => by omega
    exact Vc_L1 hrow hm hA eA rfl rfl (by omega) hb3 (Nat.le_refl _) e2 e7 e8 (by show ρ 9 = _; rw [e9, eA]) e10 rfl rfl
  exact key _ rfl rfl rfl rfl rfl rfl rfl
end Go.Proofs.Ytmbgbffgkdcieaa.Tr
