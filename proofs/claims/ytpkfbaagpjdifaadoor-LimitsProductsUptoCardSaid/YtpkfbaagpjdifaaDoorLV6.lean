/- Several texts of this repo, one behind the other, without what is not used here. -/
import Derived.Laws.IdiomStrings
import Derived.Test.YtpkfbaagpjdifaaDoorProg
import Derived.Test.YtpkfbaagpjdifaaDoorRows
import Derived.Test.YtpkfbaagpjdifaaDoorLV5
set_option linter.unusedVariables false
set_option linter.unusedSimpArgs false
set_option maxRecDepth 4000
namespace Go.X
open Go Go.RowKit
def St.withE (e : St) (v : Value) (x : List Ex) : St := { e with es := v, exprs := x }
theorem Ex.Own.ne {w : World} {tE ty : TypeId} {b : Nat} {cs : Array Value} {fr : Nat × Nat} (hb : w.heap[b]? = some (.cells cs ty fr)) (hne : tE ≠ ty) : ∀ {e : Ex}, e.Own w tE → e.In fun k => k ≠ b := by
  intro e
  induction e using Ex.ind with
  | h e ih =>
    intro h
    obtain ⟨h1, h2, h3⟩ := Ex.own_.1 h
    exact Ex.in_.2 ⟨fun k hk q => owns_ne_blk h1 hb hne (by rw [hk, q]), fun a ha => ih a ha (h3 a ha)⟩
theorem St.Own.ne {w : World} {tE tS ty : TypeId} {b : Nat} {cs : Array Value} {fr : Nat × Nat} (hb : w.heap[b]? = some (.cells cs ty fr)) (hne : tE ≠ ty) (hns : tS ≠ ty) : ∀ {e : St}, e.Own w tE tS → e.In fun k => k ≠ b := by
  intro e
  induction e using St.ind with
  | h e ih1 ih2 =>
    intro h
    obtain ⟨⟨h1, h2⟩, ⟨h3, h4⟩, ⟨h5, h6⟩, h7⟩ := St.own_.1 h
    exact St.in_.2 ⟨⟨fun k hk q => owns_ne_blk h1 hb hne (by rw [hk, q]), fun a ha => (h2 a ha).ne hb hne⟩, ⟨fun k hk q => owns_ne_blk h3 hb hns (by rw [hk, q]), fun a ha => ih1 a ha (h4 a ha)⟩, fun k hk q => owns_ne_blk h5 hb hns (by rw [hk, q]), fun a ha => ih2 a ha (h6 a ha)⟩
end Go.X
namespace Go.Proofs.YtpkfbaagpjdifaaDoor.Tr
open Go Go.X Go.RowKit Go.Proofs.YtpkfbaagpjdifaaDoor.XD Go.Proofs.YtpkfbaagpjdifaaDoor.XK
section
variable {lv : Value} {l : List Tk} {c : Nat}
theorem PW.off2 {w w' : World} {a : Nat} (h : PW w lv l c a) {S : Nat → Prop} (hm : Mod S w w') (h1 : ¬ S c) (h2 : ∀ k, lv.ownBlock = some k → ¬ S k) : PW w' lv l c a := ⟨owns_mod h.toks hm h2, hm.blk h.cur h1⟩
theorem ExsOwn.ne {w w' : World} {base : Nat} {v : Value} {l : List Ex} (h : ExsOwn w base v l) {b : Nat} (hm : Mod (fun i => i = b) w w') {cs : Array Value} {ty : TypeId} {fr : Nat × Nat} (hb : w.heap[b]? = some (.cells cs ty fr)) (hne : tE ≠ ty) : ExsOwn w' base v l :=
  ⟨owns_mod h.row hm fun k hk q => owns_ne_blk h.row hb hne (by rw [hk, q]), fun a ha => (h.own a ha).mod hm ((h.own a ha).ne hb hne), h.at_⟩
theorem StsOwn.ne {w w' : World} {base : Nat} {v : Value} {l : List St} (h : StsOwn w base v l) {b : Nat} (hm : Mod (fun i => i = b) w w') {cs : Array Value} {ty : TypeId} {fr : Nat × Nat} (hb : w.heap[b]? = some (.cells cs ty fr)) (hne : tE ≠ ty) (hns : tS ≠ ty) : StsOwn w' base v l :=
  ⟨owns_mod h.row hm fun k hk q => owns_ne_blk h.row hb hns (by rw [hk, q]), fun a ha => (h.own a ha).mod hm ((h.own a ha).ne hb hne hns), h.at_⟩
theorem addE (hG : Good l) {n a a' : Nat} {pe : Ex} (he : exprTk l n 0 a = some (pe, a')) {base : Nat} {w : World} {b : Nat} {e : St} (hb : w.heap[b]? = some (.cells e.cells.toArray tS (0, 0))) (hO : ExsOwn w base e.es e.exprs) (hp : PW w lv l c a) (hcb : c ≠ b)
    (hlen : e.exprs.length < 1099511627776) (hbase : base ≤ w.heap.size) {K1 K2 K3 : Value → Value → Value → Value → Value → Value → World → Prop}
    (hK : ∀ (w' : World) (x : Ex) (v' : Value), w'.heap[b]? = some (.cells (e.withE v' (e.exprs ++ [x])).cells.toArray tS (0, 0)) → ExsOwn w' base v' (e.exprs ++ [x]) → x.er = pe → PW w' lv l c a' → Mod (fun i => i = c ∨ i = b ∨ some i = e.es.ownBlock) w w' → ∀ x1 x2 x3 x4 x5 x6, K1 x1 x2 x3 x4 x5 x6 w' ∧ K2 x1 x2 x3 x4 x5 x6 w' ∧ K3 x1 x2 x3 x4 x5 x6 w') :
    HK Tryd.prog (fun _ => True) (do pure (Next.value (← Instr.fieldAt 25 (pq b) 5))) fun x26 => (VK Tryd.prog (Instr.loadAt 22 x26) w fun x27 w => True ∧ (CK Tryd.prog (.func (.func 68) #[] #[]) [pq c, .int .i64 0] w fun x29 w => True ∧ (VK Tryd.prog (Instr.buildSlice 22 1 [(0, x29)].toArray) w fun x30 w => True ∧ (IK Tryd.prog .append #[22, 22] 22 [false, false] [x27, x30] w fun x31 w => True ∧ (HK Tryd.prog (fun _ => True) (do pure (Next.value (← Instr.fieldAt 25 (pq b) 5))) fun x32 => UK Tryd.prog (Instr.storeAt 22 x32 x31) w fun _ w => True ∧ K1 x26 x27 x29 x30 x31 x32 w))))) ∧
      (CK Tryd.prog (.func (.func 68) #[] #[]) [pq c, .int .i64 0] w fun x29 w => True ∧ ((VK Tryd.prog (Instr.loadAt 22 x26) w fun x27 w => True ∧ (VK Tryd.prog (Instr.buildSlice 22 1 [(0, x29)].toArray) w fun x30 w => True ∧ (IK Tryd.prog .append #[22, 22] 22 [false, false] [x27, x30] w fun x31 w => True ∧ (HK Tryd.prog (fun _ => True) (do pure (Next.value (← Instr.fieldAt 25 (pq b) 5))) fun x32 => UK Tryd.prog (Instr.storeAt 22 x32 x31) w fun _ w => True ∧ K2 x26 x27 x29 x30 x31 x32 w)))) ∧
        (VK Tryd.prog (Instr.buildSlice 22 1 [(0, x29)].toArray) w fun x30 w => True ∧ (VK Tryd.prog (Instr.loadAt 22 x26) w fun x27 w => True ∧ (IK Tryd.prog .append #[22, 22] 22 [false, false] [x27, x30] w fun x31 w => True ∧ (HK Tryd.prog (fun _ => True) (do pure (Next.value (← Instr.fieldAt 25 (pq b) 5))) fun x32 => UK Tryd.prog (Instr.storeAt 22 x32 x31) w fun _ w => True ∧ K3 x26 x27 x29 x30 x31 x32 w)))))) := by
  refine HV_of (fun w' _ => run_fo (off := 5) (by kernel_rfl) _ w') ?_
  have hrow : ∀ k, e.es.ownBlock = some k → k ≠ b ∧ k ≠ c := fun k hk => ⟨fun q => owns_ne_blk hO.row hb (by decide) (by rw [hk, q]), fun q => owns_ne_blk hO.row hp.cur (by decide) (by rw [hk, q])⟩
  have htk : ∀ k, lv.ownBlock = some k → k ≠ b ∧ some k ≠ e.es.ownBlock := fun k hk => ⟨fun q => owns_ne_blk hp.toks hb (by decide) (by rw [hk, q]), fun q => owns_ne hp.toks hO.row (by decide) k hk q⟩
  have ld : ∀ {w' : World} {K : Value → World → Prop}, w'.heap[b]? = some (.cells e.cells.toArray tS (0, 0)) → K e.es w' → VK Tryd.prog (Instr.loadAt 22 (.pointer (some ((⟨b, 0, none⟩ : Addr).add 5)))) w' K := fun h hk => ld1 uExs rfl (by rw [add_pl, cell_blk h]; rfl) hk
  -- the expression is read
  have ex : ∀ {w' : World} (hm : Mod none_ w w') {K : Value → World → Prop}, (∀ (w2 : World) (x : Ex), x.er = pe → x.Own w2 tE → (x.In fun k => w'.heap.size ≤ k) → PW w2 lv l c a' → Mod (fun i => i = c) w' w2 → K (.agg x.cells.toArray) w2) → CK Tryd.prog (.func (.func 68) #[] #[]) [pq c, .int .i64 0] w' K := by
    intro w' hm K hk
    refine CK_st Tryd.func68 rfl rfl (expr_ok hG n 0 a _ he (by omega) w' (hp.mod0 hm)) ?_
    rintro _ w2 ⟨x, rfl, hg, h2, hm2⟩
    exact hk _ _ hg.er hg.own hg.in_ h2 hm2
  -- what follows
  have tail : ∀ {w2 w3 : World} {x : Ex} {y : Value} {K : Value → Value → World → Prop}, Mod (fun i => i = c) w w2 → Mod none_ w2 w3 → x.er = pe → x.Own w2 tE → (x.In fun k => w.heap.size ≤ k) → PW w2 lv l c a' → reads w3 6 y 1 x.cells →
      (∀ v' w', w'.heap[b]? = some (.cells (e.withE v' (e.exprs ++ [x])).cells.toArray tS (0, 0)) → ExsOwn w' base v' (e.exprs ++ [x]) → PW w' lv l c a' → Mod (fun i => i = c ∨ i = b ∨ some i = e.es.ownBlock) w w' → ∀ u, K v' u w') →
      IK Tryd.prog .append #[22, 22] 22 [false, false] [e.es, y] w3 fun x31 w => True ∧ (HK Tryd.prog (fun _ => True) (do pure (Next.value (← Instr.fieldAt 25 (pq b) 5))) fun x32 => UK Tryd.prog (Instr.storeAt 22 x32 x31) w fun _ w => True ∧ K x31 x32 w) := by
    intro w2 w3 x y K hm2 hm23 her hox hix h2 hy hk
    have hb2 := hm2.blk hb (fun q => hcb q.symm)
    have hb3 := hm23.blk hb2 id
    have hO2 := hO.ne hm2 hp.cur (by decide)
    have hO3 := hO2.mod0 hm23
    have hs2 := hm2.size
    have hs3 := hm23.size
    refine appEx (m := [x]) hO3 (by simpa using hy) (by simp) ?_ (by simp; omega) (by omega) fun v' w4 hO4 hm4 hg4 => ⟨trivial, HV_of (fun w' _ => run_fo (off := 5) (by kernel_rfl) _ w') ?_⟩
    · intro z hz
      rw [List.mem_singleton.1 hz]
      exact ⟨hox.mod0 hm23, hix.mono fun k hk => ⟨by omega, fun q => by have := owns_lt hO.row q.symm; omega⟩⟩
    · have hb4 := hm4.blk hb3 fun q => (hrow b q.symm).1 rfl
      have h4 : PW w4 lv l c a' := (h2.mod0 hm23).off2 hm4 (fun q => (hrow c q.symm).2 rfl) fun k hk q => (htk k hk).2 q
      refine stC (b := b) (o := 0 + 5) (by rw [add_pl]) (by kernel_rfl) (owns_slice hO4.row) hb4 (by simp [St.cells]) fun w5 hb5 hm5 hz5 => ⟨trivial, ?_⟩
      have hcs : e.cells.toArray.setIfInBounds (0 + 5) v' = (e.withE v' (e.exprs ++ [x])).cells.toArray := rfl
      rw [hcs] at hb5
      refine hk v' w5 hb5 (hO4.ne hm5 hb4 (by decide)) (h4.off2 hm5 hcb fun k hk q => (htk k hk).1 q) ?_ _
      exact (((hm2.mono fun _ _ q => Or.inl q).trans (up1 hm23)).trans (hm4.mono fun _ _ q => Or.inr (Or.inr q))).trans (hm5.mono fun _ _ q => Or.inr (Or.inl q))
  have rd : ∀ {w2 w3 : World} {x : Ex}, w3.heap[w2.heap.size]? = some (.cells x.cells.toArray (Tryd.prog.elem 22) (0, 0)) → reads w3 6 (.slice (some ⟨w2.heap.size, 0, none⟩) 1 1) 1 x.cells := fun h => by simpa using reads_blk (size := 6) (n := 1) h rfl
  constructor
  · refine ld hb ⟨trivial, ?_⟩
    refine ex (Mod.refl _ w) fun w2 x her hox hix h2 hm2 => ⟨trivial, ?_⟩
    refine bs_k (cs := x.cells.toArray) (by kernel_rfl) fun w3 h3 hm3 hz3 => ⟨trivial, ?_⟩
    exact tail hm2 hm3 her hox hix h2 (rd h3) fun v' w' hb' hO' hp' hm' u => (hK w' x v' hb' hO' her hp' hm' _ _ _ _ _ _).1
  · refine ex (Mod.refl _ w) fun w2 x her hox hix h2 hm2 => ⟨trivial, ?_⟩
    have hb2 := hm2.blk hb (fun q => hcb q.symm)
    constructor
    · refine ld hb2 ⟨trivial, ?_⟩
      refine bs_k (cs := x.cells.toArray) (by kernel_rfl) fun w3 h3 hm3 hz3 => ⟨trivial, ?_⟩
      exact tail hm2 hm3 her hox hix h2 (rd h3) fun v' w' hb' hO' hp' hm' u => (hK w' x v' hb' hO' her hp' hm' _ _ _ _ _ _).2.1
    · refine bs_k (cs := x.cells.toArray) (by kernel_rfl) fun w3 h3 hm3 hz3 => ⟨trivial, ?_⟩
      refine ld (hm3.blk hb2 id) ⟨trivial, ?_⟩
      exact tail hm2 hm3 her hox hix h2 (rd h3) fun v' w' hb' hO' hp' hm' u => (hK w' x v' hb' hO' her hp' hm' _ _ _ _ _ _).2.2
end
end Go.Proofs.YtpkfbaagpjdifaaDoor.Tr
set_option linter.unusedVariables false
set_option linter.unusedSimpArgs false
set_option maxRecDepth 4000
namespace Go.Proofs.YtpkfbaagpjdifaaDoor.Tr
open Go Go.X Go.RowKit Go.Proofs.YtpkfbaagpjdifaaDoor.XD Go.Proofs.YtpkfbaagpjdifaaDoor.XK
section
variable {lv : Value} {l : List Tk} {c : Nat}
theorem len_sls {A : Option Addr} {n cp : Nat} (cs : List Bool) {w : World} {K : Value → World → Prop} : IK Tryd.prog .len #[91] 3 cs [.slice A n cp] w K = K (.int .i64 n) w := len_sl uSs cs A n cp
theorem len_sle {A : Option Addr} {n cp : Nat} (cs : List Bool) {w : World} {K : Value → World → Prop} : IK Tryd.prog .len #[22] 3 cs [.slice A n cp] w K = K (.int .i64 n) w := len_sl uExs cs A n cp
theorem idx_no {b : Bs} : ∀ (r : List Bs) (n : Nat), idxP r b n = 0 ∨ ∃ i, i < r.length ∧ idxP r b n = n + i + 1
  | [], n => .inl rfl
  | t :: r, n => by
    rw [idxP]
    split
    · exact .inr ⟨0, by simp, by simp⟩
    · rcases idx_no r (n + 1) with h | ⟨i, hi, h⟩
      · exact .inl h
      · exact .inr ⟨i + 1, by simpa using hi, by rw [h]; omega⟩
theorem callK_rng (b : Bs) : 0 ≤ callK b ∧ callK b ≤ 22 := by
  unfold callK
  rcases idx_no callL 0 (b := b) with h | ⟨i, hi, h⟩
  · omega
  · have : callL.length = 22 := rfl
    omega
theorem Call_ok (b : Bs) (w : World) : Rt Tryd.prog 70 #[txt b] w fun v w' => v = .int .u8 (callK b) ∧ Mod none_ w w' := by
  refine dispatcherref02_Call_calls ?_
  unfold dispatcherref02_Call_F
  refine bs_k (cs := (callL.map txt).toArray) (by kernel_rfl) fun w1 hb1 hm1 hz1 => ?_
  have hr : reads w1 1 (.slice (some ⟨w.heap.size, 0, none⟩) 22 22) 22 (callL.map txt) := reads_blk hb1 rfl
  refine W_loopG dispatcherref02_Call_L0_ok (fun m ρ w' => ∃ n : Nat, n ≤ 22 ∧ m = 22 - n ∧ ρ 0 = txt b ∧ ρ 3 = .slice (some ⟨w.heap.size, 0, none⟩) 22 22 ∧ ρ 4 = .int .i64 n ∧ idxP (callL.drop n) b n = callK b ∧ w' = w1) 22 ⟨0, by omega, rfl, rfl, rfl, rfl, rfl, rfl⟩ ?_
  rintro m ρ w2 ⟨n, hn, rfl, q0, q3, q4, hi, rfl⟩
  rw [dispatcherref02_Call_L0_eq]
  unfold dispatcherref02_Call_L0_F
  rw [q0, q3, q4, len_sls]
  have hlen : callL.length = 22 := rfl
  by_cases hlt : n < 22
  · have hl' : n < callL.length := by omega
    obtain ⟨t, ht0⟩ : ∃ t, t = callL[n]'hl' := ⟨_, rfl⟩
    have hx : callL[n]? = some t := by rw [ht0]; exact List.getElem?_eq_getElem hl'
    simp only [↓VG_u, ↓UG_u, ↓MG_u, ↓NG_u, ↓PG_u, ↓BG_u, ↓CG_u, ↓IG_u, ↓VGtt, ↓VGtf, ↓VGft, ↓VGff, ↓UGtt, ↓UGtf, ↓UGft, ↓UGff, ↓MGtt, ↓MGtf, ↓MGft, ↓MGff, ↓NGtt, ↓NGtf, ↓NGft, ↓NGff, ↓PGtt, ↓PGtf, ↓PGft, ↓PGff, ↓BGtt, ↓BGtf, ↓BGft, ↓BGff, ↓CGtt, ↓CGtf, ↓CGft, ↓CGff, ↓IGtt, ↓IGtf, ↓IGft, ↓IGff, ↓PKt, ↓PKf, ↓CDt, ↓CDf, ↓NOTt, ↓NOTf, ↓NK_ptr, ↓LTt (show (n : Int) < ((22 : Nat) : Int) by omega)]
    refine ixld uSs cS uS rfl hr (by omega) (u := txt t) (by rw [Int.toNat_natCast, List.getElem?_map, hx]; rfl) fun x14 => ?_
    rw [List.drop_eq_getElem_cons hl', ← ht0, idxP] at hi
    split at hi
    · rename_i ht
      have heq : (⟨t.toArray⟩ : ByteArray) = ⟨b.toArray⟩ := by rw [ht]
      simp only [txt, ↓VG_u, ↓UG_u, ↓MG_u, ↓NG_u, ↓PG_u, ↓BG_u, ↓CG_u, ↓IG_u, ↓VGtt, ↓VGtf, ↓VGft, ↓VGff, ↓UGtt, ↓UGtf, ↓UGft, ↓UGff, ↓MGtt, ↓MGtf, ↓MGft, ↓MGff, ↓NGtt, ↓NGtf, ↓NGft, ↓NGff, ↓PGtt, ↓PGtf, ↓PGft, ↓PGff, ↓BGtt, ↓BGtf, ↓BGft, ↓BGff, ↓CGtt, ↓CGtf, ↓CGft, ↓CGff, ↓IGtt, ↓IGtf, ↓IGft, ↓IGff, ↓PKt, ↓PKf, ↓CDt, ↓CDf, ↓NOTt, ↓NOTf, ↓NK_ptr, ↓SEQt heq]
      refine BKadd (a := n) (b := 1) rfl rfl (by omega) (by omega) ?_
      rw [conv_i (k := .u8) (by kernel_rfl) (by kernel_rfl), IntWalk.u8_in _ (by omega)]
      exact ⟨by rw [← hi]; rfl, hm1⟩
    · rename_i ht
      have hne : (⟨t.toArray⟩ : ByteArray) ≠ ⟨b.toArray⟩ := fun q => ht (by have := congrArg (fun b => b.data.toList) q; simpa using this)
      simp only [txt, ↓VG_u, ↓UG_u, ↓MG_u, ↓NG_u, ↓PG_u, ↓BG_u, ↓CG_u, ↓IG_u, ↓VGtt, ↓VGtf, ↓VGft, ↓VGff, ↓UGtt, ↓UGtf, ↓UGft, ↓UGff, ↓MGtt, ↓MGtf, ↓MGft, ↓MGff, ↓NGtt, ↓NGtf, ↓NGft, ↓NGff, ↓PGtt, ↓PGtf, ↓PGft, ↓PGff, ↓BGtt, ↓BGtf, ↓BGft, ↓BGff, ↓CGtt, ↓CGtf, ↓CGft, ↓CGff, ↓IGtt, ↓IGtf, ↓IGft, ↓IGff, ↓PKt, ↓PKf, ↓CDt, ↓CDf, ↓NOTt, ↓NOTf, ↓NK_ptr, ↓SEQf hne]
      refine BKadd (a := n) (b := 1) rfl rfl (by omega) (by omega) ?_
      exact ⟨22 - (n + 1), by omega, n + 1, hlt, rfl, q0, q3, rfl, hi, rfl⟩
  · simp only [↓VG_u, ↓UG_u, ↓MG_u, ↓NG_u, ↓PG_u, ↓BG_u, ↓CG_u, ↓IG_u, ↓VGtt, ↓VGtf, ↓VGft, ↓VGff, ↓UGtt, ↓UGtf, ↓UGft, ↓UGff, ↓MGtt, ↓MGtf, ↓MGft, ↓MGff, ↓NGtt, ↓NGtf, ↓NGft, ↓NGff, ↓PGtt, ↓PGtf, ↓PGft, ↓PGff, ↓BGtt, ↓BGtf, ↓BGft, ↓BGff, ↓CGtt, ↓CGtf, ↓CGft, ↓CGff, ↓IGtt, ↓IGtf, ↓IGft, ↓IGff, ↓PKt, ↓PKf, ↓CDt, ↓CDf, ↓NOTt, ↓NOTf, ↓NK_ptr, ↓LTf (show (((22 : Nat) : Int)) ≤ (n : Int) by omega)]
    obtain rfl : n = 22 := by omega
    rw [sq_x, bk_x, sq_n, dispatcherref02_Call_R1_eq]
    unfold dispatcherref02_Call_R1_F
    rw [List.drop_of_length_le (by omega)] at hi
    exact ⟨by rw [← hi]; rfl, hm1⟩
theorem aggS (w : World) : (isAgg 9).run Tryd.prog w = .ok false w := by
  unfold isAgg
  rw [Sem.run_bind, run_underlying uS w]
  rfl
theorem fldTk {w : World} {K : Value → World → Prop} (t : Tk) : VK Tryd.prog (Instr.field 75 (.agg t.cells.toArray) 1) w K = K (txt t.text) w := by
  refine VK_eq_of ?_
  unfold Instr.field
  simp [Sem.run_bind, run_underlying Tryd.underlying75, part, aggS, Tk.cells, asAgg]
end
end Go.Proofs.YtpkfbaagpjdifaaDoor.Tr
set_option linter.unusedVariables false
set_option linter.unusedSimpArgs false
set_option maxRecDepth 4000
namespace Go.Proofs.YtpkfbaagpjdifaaDoor.Tr
open Go Go.X Go.RowKit Go.Proofs.YtpkfbaagpjdifaaDoor.XD Go.Proofs.YtpkfbaagpjdifaaDoor.XK
theorem st_cells_one {e : St} (h1 : e.es.oneCell' = true) (h2 : e.bs.oneCell' = true) (h3 : e.ls.oneCell' = true) : (e.cells.toArray.all (·.oneCell')) = true := by
  simp only [St.cells, List.all_toArray, List.all_cons, List.all_nil, h1, h2, h3]
  rfl
section
variable {lv : Value} {l : List Tk} {c : Nat}
theorem callR3_W (z : Go.X.At) (K : Exit → Sl → World → Prop) (ρ : Sl) (w : World) : sx z Tryd.prog 84 dispatcherref02_cursor_call_R3 K ρ w = W z Tryd.prog 84 dispatcherref02_cursor_call_R3 K ρ w := by kernel_rfl
theorem call_ok (hG : Good l) {s : St} {n a a' : Nat} {res : List Ex} (hr : callP l n s.kind a = some (res, a')) (hs : s.es = nl) (hx : s.exprs = []) (hbs : s.bs = nl) (hls : s.ls = nl) {w : World} (hw : PW w lv l c a) :
    Rt Tryd.prog 71 #[pq c, .agg s.cells.toArray] w fun v w' => ∃ v' xs, v = .agg (s.withE v' xs).cells.toArray ∧ xs.map Ex.er = res ∧ ExsOwn w' w.heap.size v' xs ∧ PW w' lv l c a' ∧ Mod (fun i => i = c) w w' := by
  unfold callP at hr
  cases hn1 : needP l a [40] with
  | none => rw [hn1] at hr; cases hr
  | some a1 =>
  rw [hn1] at hr
  dsimp only at hr
  obtain ⟨hm1, rfl⟩ := need_some hn1
  cases hl : argsLoop l n (argsP s.kind).1 (argsP s.kind).2 10 [] (a + 1) with
  | none => rw [hl] at hr; cases hr
  | some q =>
  obtain ⟨res', a2⟩ := q
  rw [hl] at hr
  dsimp only at hr
  split at hr
  · cases hr
  rename_i hred
  have hred : redsP s.kind = false := by simpa using hred
  cases hn2 : needP l a2 [41] with
  | none => rw [hn2] at hr; cases hr
  | some a3 =>
  rw [hn2] at hr
  obtain ⟨hm2, rfl⟩ := need_some hn2
  cases hr
  refine dispatcherref02_cursor_call_calls ?_
  unfold dispatcherref02_cursor_call_F
  refine box_k (cs := s.cells.toArray) rfl fun w1 hb1 hmm1 hz1 => ?_
  refine al_k (cs := zStc.toArray) zSt rfl _ fun w2 hb2 hmm2 hz2 => ?_
  have hb12 := hmm2.blk hb1 id
  have hmm02 := hmm1.trans hmm2
  have hcw : c < w.heap.size := blk_lt hw.cur
  have hlo : ∀ g, lv.ownBlock = some g → g < w.heap.size := fun g hg => owns_lt hw.toks hg
  obtain ⟨b3, hb3⟩ : ∃ b3, b3 = w.heap.size := ⟨_, rfl⟩
  obtain ⟨b4, hb4⟩ : ∃ b4, b4 = w1.heap.size := ⟨_, rfl⟩
  have hb34 : b4 = b3 + 1 := by omega
  rw [← hb3] at hb1 hb12 ⊢
  rw [← hb4] at hb2 hz2 ⊢
  obtain ⟨f0, f1, f2, f3, f4, f5, _⟩ := st_fo hb12
  simp only [↓f1.e]
  refine CK_st Tryd.func84 rfl rfl (ArgsR_ok s.kind w2) ?_
  rintro _ w3 ⟨rfl, rfl⟩
  rw [extract_ok (v := .int .i64 ((argsP s.kind).1 : Int)) rfl, extract_ok (v := .int .i64 ((argsP s.kind).2 : Int)) rfl]
  simp only [↓f1.e]
  refine CK_st Tryd.func84 rfl rfl (ArgsR_ok s.kind w3) ?_
  rintro _ w4 ⟨rfl, rfl⟩
  rw [extract_ok (v := .int .i64 ((argsP s.kind).1 : Int)) rfl, extract_ok (v := .int .i64 ((argsP s.kind).2 : Int)) rfl]
  refine CK_st Tryd.func41 rfl rfl (need_ok (hw.mod0 hmm02) hG hm1) ?_
  rintro _ w5 ⟨h5, hm5⟩
  have c3 := hm5.blk hb12 (by omega)
  have c4 := hm5.blk hb2 (by omega)
  have hmost : (argsP s.kind).2 ≤ 8 := by unfold argsP; (repeat' split) <;> decide
  have hm05 : Mod (fun i => i = c) w w5 := (up1 hmm02).trans hm5
  have hsw : s.withE nl [] = s := by cases s; simp only at hs hx; subst hs hx; rfl
  -- behind the arguments
  have fin : ∀ (ρ : Sl) (w9 : World) (v' : Value) (xs : List Ex), ρ 0 = pq c → ρ 3 = pq b3 → ρ 4 = pq b4 → w9.heap[b3]? = some (.cells (s.withE v' xs).cells.toArray tS (0, 0)) → w9.heap[b4]? = some (.cells zStc.toArray tS (0, 0)) → ExsOwn w9 b3 v' xs → xs.map Ex.er = res → PW w9 lv l c a2 → Mod (fun i => i = c) w w9 →
      sx fn_ Tryd.prog 84 dispatcherref02_cursor_call_R0 (retK Tryd.prog [ResultVar.cell 4 25] fun v w' => ∃ v' xs, v = .agg (s.withE v' xs).cells.toArray ∧ xs.map Ex.er = res ∧ ExsOwn w' b3 v' xs ∧ PW w' lv l c (a2 + 1) ∧ Mod (fun i => i = c) w w') ρ w9 := by
    intro ρ w9 v' xs q0 q3 q4 h3 h4 hO her hp hm
    rw [dispatcherref02_cursor_call_R0_eq]
    unfold dispatcherref02_cursor_call_R0_F
    rw [q0, q3]
    obtain ⟨f0, f1, f2, f3, f4, f5, _⟩ := st_fo h3
    simp only [↓f1.e]
    refine CK_st Tryd.func85 rfl rfl (Reduces_ok _ w9) ?_
    rintro _ w9 ⟨rfl, rfl⟩
    rw [show redsP (s.withE v' xs).kind = false from hred]
    refine condF ?_
    rw [dispatcherref02_cursor_call_R2_eq]
    unfold dispatcherref02_cursor_call_R2_F
    simp only [sq_n, sq_x, sq_r, bk_n, bk_r, bk_x, rt_r, rt_n, rs_0, rs_t, pk_1, pk_2, up_at, reduceIte, Nat.reduceEqDiff, q0, q3, q4]
    refine CK_st Tryd.func41 rfl rfl (need_ok hp hG hm2) ?_
    rintro _ w10 ⟨h10, hm10⟩
    have h310 := hm10.blk h3 (by omega)
    have h410 := hm10.blk h4 (by omega)
    have hO10 := hO.ne hm10 hp.cur (by decide)
    refine ldS (cs := (s.withE v' xs).cells.toArray) rfl Tryd.underlying25 rfl iSt h310 ?_
    have hone : ((s.withE v' xs).cells.toArray.all (·.oneCell')) = true := st_cells_one (owns_slice hO10.row) (by show s.bs.oneCell' = true; rw [hbs]; rfl) (by show s.ls.oneCell' = true; rw [hls]; rfl)
    refine stS (old := zStc.toArray) (cs := (s.withE v' xs).cells.toArray) rfl rfl iSt rfl hone h410 fun w11 h11 hm11 hz11 => ?_
    refine rsCell (R := fun v w' => ∃ v' xs, v = .agg (s.withE v' xs).cells.toArray ∧ xs.map Ex.er = res ∧ ExsOwn w' b3 v' xs ∧ PW w' lv l c (a2 + 1) ∧ Mod (fun i => i = c) w w') (cs := (s.withE v' xs).cells.toArray) q4 Tryd.underlying25 rfl iSt h11 ⟨v', xs, rfl, her, hO10.ne hm11 h410 (by decide), h10.off hm11 (fun k q => ⟨by omega, fun g hg => by have := hlo g hg; omega⟩), (hm.trans hm10).then hm11 fun i hi q => by omega⟩
  refine W_loopG dispatcherref02_cursor_call_L1_ok (fun m ρ w' => ∃ (v' : Value) (xs : List Ex) (a5 : Nat), argsLoop l n (argsP s.kind).1 (argsP s.kind).2 m (xs.map Ex.er) a5 = some (res, a2) ∧ ρ 0 = pq c ∧ ρ 3 = pq b3 ∧ ρ 4 = pq b4 ∧ ρ 6 = .int .i64 ((argsP s.kind).2 : Int) ∧ ρ 7 = .int .i64 ((argsP s.kind).1 : Int) ∧ w'.heap[b3]? = some (.cells (s.withE v' xs).cells.toArray tS (0, 0)) ∧ w'.heap[b4]? = some (.cells zStc.toArray tS (0, 0)) ∧ ExsOwn w' b3 v' xs ∧ PW w' lv l c a5 ∧ Mod (fun i => i = c) w w') 10
    ⟨nl, [], a + 1, hl, rfl, rfl, rfl, rfl, rfl, by rw [hsw]; exact c3, c4, ExsOwn.nil _ _, h5, hm05⟩ ?_
  rintro m ρ w6 ⟨v', xs, a5, hal, q0, q3, q4, q6, q7, d3, d4, hO, hp, hm⟩
  cases m with
  | zero => simp [argsLoop] at hal
  | succ m =>
  rw [argsLoop, List.length_map] at hal
  rw [dispatcherref02_cursor_call_L1_eq]
  unfold dispatcherref02_cursor_call_L1_F
  rw [q0, q3, q6, q7]
  obtain ⟨A, cp, hv', _⟩ := reads_cap hO.ok.1
  refine CK_st Tryd.func42 rfl rfl (good_ok hp) ?_
  rintro _ w7 ⟨rfl, rfl⟩
  have g5 : ∀ {w' : World}, w'.heap[b3]? = some (.cells (s.withE v' xs).cells.toArray tS (0, 0)) → FO Tryd.prog w' 25 5 5 ⟨b3, 0, none⟩ 22 (.slice A xs.length cp) := fun h => by rw [← hv']; exact (st_fo h).2.2.2.2.2.1
  have hs6 := hm.size
  by_cases hlen : xs.length < (argsP s.kind).2
  · rw [if_pos hlen] at hal
    simp only [↓VG_u, ↓UG_u, ↓MG_u, ↓NG_u, ↓PG_u, ↓BG_u, ↓CG_u, ↓IG_u, ↓VGtt, ↓VGtf, ↓VGft, ↓VGff, ↓UGtt, ↓UGtf, ↓UGft, ↓UGff, ↓MGtt, ↓MGtf, ↓MGft, ↓MGff, ↓NGtt, ↓NGtf, ↓NGft, ↓NGff, ↓PGtt, ↓PGtf, ↓PGft, ↓PGff, ↓BGtt, ↓BGtf, ↓BGft, ↓BGff, ↓CGtt, ↓CGtf, ↓CGft, ↓CGff, ↓IGtt, ↓IGtf, ↓IGft, ↓IGff, ↓PKt, ↓PKf, ↓CDt, ↓CDf, ↓NOTt, ↓NOTf, ↓NK_ptr, ↓(g5 d3).e, ↓len_sle, ↓LTt (show (xs.length : Int) < ((argsP s.kind).2 : Int) by omega)]
    -- one argument more
    have more : ∀ (ρ' : Sl) (w8 : World) (a6 : Nat), ρ' 0 = pq c → ρ' 3 = pq b3 → ρ' 4 = pq b4 → ρ' 6 = .int .i64 ((argsP s.kind).2 : Int) → ρ' 7 = .int .i64 ((argsP s.kind).1 : Int) → w8.heap[b3]? = some (.cells (s.withE v' xs).cells.toArray tS (0, 0)) → w8.heap[b4]? = some (.cells zStc.toArray tS (0, 0)) → ExsOwn w8 b3 v' xs → PW w8 lv l c a6 → Mod (fun i => i = c) w w8 →
        (match exprTk l n 0 a6 with | none => none | some (e, a) => argsLoop l n (argsP s.kind).1 (argsP s.kind).2 m (xs.map Ex.er ++ [e]) a) = some (res, a2) →
        ∀ K : Exit → Sl → World → Prop, (∀ ρ2 w9 v9 xs9 a9, argsLoop l n (argsP s.kind).1 (argsP s.kind).2 m (xs9.map Ex.er) a9 = some (res, a2) → ρ2 0 = pq c → ρ2 3 = pq b3 → ρ2 4 = pq b4 → ρ2 6 = .int .i64 ((argsP s.kind).2 : Int) → ρ2 7 = .int .i64 ((argsP s.kind).1 : Int) → w9.heap[b3]? = some (.cells (s.withE v9 xs9).cells.toArray tS (0, 0)) → w9.heap[b4]? = some (.cells zStc.toArray tS (0, 0)) → ExsOwn w9 b3 v9 xs9 → PW w9 lv l c a9 → Mod (fun i => i = c) w w9 → K .normal ρ2 w9) →
        sx fn_ Tryd.prog 84 dispatcherref02_cursor_call_R3 (blkK 1 K) ρ' w8 := by
      intro ρ' w8 a6 p0 p3 p4 p6 p7 e3 e4 hO8 hp8 hm8 hal8 K hK
      cases he : exprTk l n 0 a6 with
      | none => rw [he] at hal8; cases hal8
      | some q =>
      obtain ⟨pe, a7⟩ := q
      rw [he] at hal8
      dsimp only at hal8
      rw [callR3_W]
      refine dispatcherref02_cursor_call_R3_held (D := []) (fun _ => True) trivial ?_
      unfold dispatcherref02_cursor_call_R3_H
      rw [p0, p3]
      have hd8 : Mod none_ w8 { w8 with drawn := w8.drawn + 1 } := (Mod.refl _ w8).drawn _
      refine addE (e := s.withE v' xs) (base := b3) hG he (hd8.blk e3 id) (hO8.mod0 hd8) (hp8.mod0 hd8) (by omega) (by show xs.length < _; omega) (Nat.le_of_lt (blk_lt e3)) fun w9 x v9 hb9 hO9 her9 hp9 hm9 x1 x2 x3 x4 x5 x6 => ?_
      have hwr : ∀ k, (s.withE v' xs).es.ownBlock = some k → b3 ≤ k ∧ k ≠ b4 := fun k hk => ⟨owns_low hO8.row hk, fun q => owns_ne_blk hO8.row e4 (by decide) (by rw [q] at hk; exact hk)⟩
      have hm09 : Mod (fun i => i = c) w w9 := (hm8.trans (up1 hd8)).then hm9 fun i hi q => by
        rcases q with q | q | q
        · exact q
        · omega
        · have := (hwr i q.symm).1; omega
      have e49 : w9.heap[b4]? = some (.cells zStc.toArray tS (0, 0)) := hm9.blk (hd8.blk e4 id) fun q => by
        rcases q with q | q | q
        · omega
        · omega
        · exact (hwr b4 q.symm).2 rfl
      have e39 : w9.heap[b3]? = some (.cells (s.withE v9 (xs ++ [x])).cells.toArray tS (0, 0)) := hb9
      have fin2 : ∀ ρ2, ρ2 0 = pq c → ρ2 3 = pq b3 → ρ2 4 = pq b4 → ρ2 6 = .int .i64 ((argsP s.kind).2 : Int) → ρ2 7 = .int .i64 ((argsP s.kind).1 : Int) → blkK 1 K .normal ρ2 w9 := by
        intro ρ2 t0 t3 t4 t6 t7
        rw [bk_n]
        exact hK ρ2 w9 v9 (xs ++ [x]) a7 (by rw [List.map_append, List.map_singleton, her9]; exact hal8) t0 t3 t4 t6 t7 e39 e49 hO9 hp9 hm09
      refine ⟨fin2 _ ?_ ?_ ?_ ?_ ?_, fin2 _ ?_ ?_ ?_ ?_ ?_, fin2 _ ?_ ?_ ?_ ?_ ?_⟩
      · exact p0
      · exact p3
      · exact p4
      · exact p6
      · exact p7
      · exact p0
      · exact p3
      · exact p4
      · exact p6
      · exact p7
      · exact p0
      · exact p3
      · exact p4
      · exact p6
      · exact p7
    have next : ∀ (ρ2 : Sl) (w9 : World) (v9 : Value) (xs9 : List Ex) (a9 : Nat), argsLoop l n (argsP s.kind).1 (argsP s.kind).2 m (xs9.map Ex.er) a9 = some (res, a2) → ρ2 0 = pq c → ρ2 3 = pq b3 → ρ2 4 = pq b4 → ρ2 6 = .int .i64 ((argsP s.kind).2 : Int) → ρ2 7 = .int .i64 ((argsP s.kind).1 : Int) → w9.heap[b3]? = some (.cells (s.withE v9 xs9).cells.toArray tS (0, 0)) → w9.heap[b4]? = some (.cells zStc.toArray tS (0, 0)) → ExsOwn w9 b3 v9 xs9 → PW w9 lv l c a9 → Mod (fun i => i = c) w w9 →
        ∃ m', m' < m + 1 ∧ ∃ (v' : Value) (xs : List Ex) (a5 : Nat), argsLoop l n (argsP s.kind).1 (argsP s.kind).2 m' (xs.map Ex.er) a5 = some (res, a2) ∧ ρ2 0 = pq c ∧ ρ2 3 = pq b3 ∧ ρ2 4 = pq b4 ∧ ρ2 6 = .int .i64 ((argsP s.kind).2 : Int) ∧ ρ2 7 = .int .i64 ((argsP s.kind).1 : Int) ∧ w9.heap[b3]? = some (.cells (s.withE v' xs).cells.toArray tS (0, 0)) ∧ w9.heap[b4]? = some (.cells zStc.toArray tS (0, 0)) ∧ ExsOwn w9 b3 v' xs ∧ PW w9 lv l c a5 ∧ Mod (fun i => i = c) w w9 :=
      fun ρ2 w9 v9 xs9 a9 h0 h1 h2 h3 h4 h5 h6 h7 h8 h9 h10 => ⟨m, Nat.lt_succ_self m, v9, xs9, a9, h0, h1, h2, h3, h4, h5, h6, h7, h8, h9, h10⟩
    by_cases hpos : 0 < xs.length
    · rw [if_pos hpos] at hal
      simp only [↓GTt (show (0 : Int) < (xs.length : Int) by omega), ↓CDt, ↓(g5 d3).e, ↓len_sle]
      have comma : (match needP l a5 [44] with | none => none | some a => match exprTk l n 0 a with | none => none | some (e, a) => argsLoop l n (argsP s.kind).1 (argsP s.kind).2 m (xs.map Ex.er ++ [e]) a) = some (res, a2) → ∀ (ρ' : Sl) (w8 : World), Mod none_ w7 w8 → ρ' 0 = pq c → ρ' 3 = pq b3 → ρ' 4 = pq b4 → ρ' 6 = .int .i64 ((argsP s.kind).2 : Int) → ρ' 7 = .int .i64 ((argsP s.kind).1 : Int) →
          ∀ K : Exit → Sl → World → Prop, (∀ ρ2 w9 v9 xs9 a9, argsLoop l n (argsP s.kind).1 (argsP s.kind).2 m (xs9.map Ex.er) a9 = some (res, a2) → ρ2 0 = pq c → ρ2 3 = pq b3 → ρ2 4 = pq b4 → ρ2 6 = .int .i64 ((argsP s.kind).2 : Int) → ρ2 7 = .int .i64 ((argsP s.kind).1 : Int) → w9.heap[b3]? = some (.cells (s.withE v9 xs9).cells.toArray tS (0, 0)) → w9.heap[b4]? = some (.cells zStc.toArray tS (0, 0)) → ExsOwn w9 b3 v9 xs9 → PW w9 lv l c a9 → Mod (fun i => i = c) w w9 → K .normal ρ2 w9) →
          CK Tryd.prog (.func (.func 41) #[] #[]) [pq c, .string ⟨#[44]⟩] w8 fun x49 w => sx fn_ Tryd.prog 84 dispatcherref02_cursor_call_R3 (blkK 1 K) (up (up ρ' 48 (pq c)) 49 x49) w := by
        intro hal ρ' w8 hm78 p0 p3 p4 p6 p7 K hK
        cases hnc : needP l a5 [44] with
        | none => rw [hnc] at hal; cases hal
        | some a8 =>
        rw [hnc] at hal
        dsimp only at hal
        obtain ⟨hmc, rfl⟩ := need_some hnc
        refine CK_st Tryd.func41 rfl rfl (need_ok (hp.mod0 hm78) hG hmc) ?_
        rintro _ w9 ⟨h9, hm9⟩
        refine more _ w9 (a5 + 1) ?_ ?_ ?_ ?_ ?_ (hm9.blk (hm78.blk d3 id) (by omega)) (hm9.blk (hm78.blk d4 id) (by omega)) ((hO.mod0 hm78).ne hm9 (hp.mod0 hm78).cur (by decide)) h9 ((hm.trans (up1 hm78)).trans hm9) hal K hK
        · exact p0
        · exact p3
        · exact p4
        · exact p6
        · exact p7
      by_cases hle : (argsP s.kind).1 ≤ xs.length
      · simp only [↓VG_u, ↓UG_u, ↓MG_u, ↓NG_u, ↓PG_u, ↓BG_u, ↓CG_u, ↓IG_u, ↓VGtt, ↓VGtf, ↓VGft, ↓VGff, ↓UGtt, ↓UGtf, ↓UGft, ↓UGff, ↓MGtt, ↓MGtf, ↓MGft, ↓MGff, ↓NGtt, ↓NGtf, ↓NGft, ↓NGff, ↓PGtt, ↓PGtf, ↓PGft, ↓PGff, ↓BGtt, ↓BGtf, ↓BGft, ↓BGff, ↓CGtt, ↓CGtf, ↓CGft, ↓CGff, ↓IGtt, ↓IGtf, ↓IGft, ↓IGff, ↓PKt, ↓PKf, ↓CDt, ↓CDf, ↓NOTt, ↓NOTf, ↓NK_ptr, ↓GEt (show ((argsP s.kind).1 : Int) ≤ (xs.length : Int) by omega)]
        refine CK_st Tryd.func38 rfl rfl (next_ok hp hG) ?_
        rintro _ w8 ⟨rfl, hm8⟩
        simp only [↓fldTk]
        by_cases ht : (tkAt l a5).text = [41]
        · rw [if_pos ⟨hle, ht⟩] at hal
          have heq : (⟨(tkAt l a5).text.toArray⟩ : ByteArray) = ⟨#[41]⟩ := by rw [ht]
          simp only [txt, ↓VG_u, ↓UG_u, ↓MG_u, ↓NG_u, ↓PG_u, ↓BG_u, ↓CG_u, ↓IG_u, ↓VGtt, ↓VGtf, ↓VGft, ↓VGff, ↓UGtt, ↓UGtf, ↓UGft, ↓UGff, ↓MGtt, ↓MGtf, ↓MGft, ↓MGff, ↓NGtt, ↓NGtf, ↓NGft, ↓NGff, ↓PGtt, ↓PGtf, ↓PGft, ↓PGff, ↓BGtt, ↓BGtf, ↓BGft, ↓BGff, ↓CGtt, ↓CGtf, ↓CGft, ↓CGff, ↓IGtt, ↓IGtf, ↓IGft, ↓IGff, ↓PKt, ↓PKf, ↓CDt, ↓CDf, ↓NOTt, ↓NOTf, ↓NK_ptr, ↓SEQt heq]
          cases hal
          rw [sq_x, bk_x, sq_n]
          refine fin _ w8 v' xs ?_ ?_ ?_ (hm8.blk d3 id) (hm8.blk d4 id) (hO.mod0 hm8) rfl (hp.mod0 hm8) (hm.trans (up1 hm8))
          · exact q0
          · exact q3
          · exact q4
        · rw [if_neg (fun q => ht q.2)] at hal
          have hne : (⟨(tkAt l a5).text.toArray⟩ : ByteArray) ≠ ⟨#[41]⟩ := fun q => ht (by have := congrArg (fun b => b.data.toList) q; simpa using this)
          simp only [txt, ↓VG_u, ↓UG_u, ↓MG_u, ↓NG_u, ↓PG_u, ↓BG_u, ↓CG_u, ↓IG_u, ↓VGtt, ↓VGtf, ↓VGft, ↓VGff, ↓UGtt, ↓UGtf, ↓UGft, ↓UGff, ↓MGtt, ↓MGtf, ↓MGft, ↓MGff, ↓NGtt, ↓NGtf, ↓NGft, ↓NGff, ↓PGtt, ↓PGtf, ↓PGft, ↓PGff, ↓BGtt, ↓BGtf, ↓BGft, ↓BGff, ↓CGtt, ↓CGtf, ↓CGft, ↓CGff, ↓IGtt, ↓IGtf, ↓IGft, ↓IGff, ↓PKt, ↓PKf, ↓CDt, ↓CDf, ↓NOTt, ↓NOTf, ↓NK_ptr, ↓SEQf hne]
          refine comma hal _ w8 hm8 ?_ ?_ ?_ ?_ ?_ _ next
          · exact q0
          · exact q3
          · exact q4
          · exact q6
          · exact q7
      · rw [if_neg (fun q => hle q.1)] at hal
        simp only [↓VG_u, ↓UG_u, ↓MG_u, ↓NG_u, ↓PG_u, ↓BG_u, ↓CG_u, ↓IG_u, ↓VGtt, ↓VGtf, ↓VGft, ↓VGff, ↓UGtt, ↓UGtf, ↓UGft, ↓UGff, ↓MGtt, ↓MGtf, ↓MGft, ↓MGff, ↓NGtt, ↓NGtf, ↓NGft, ↓NGff, ↓PGtt, ↓PGtf, ↓PGft, ↓PGff, ↓BGtt, ↓BGtf, ↓BGft, ↓BGff, ↓CGtt, ↓CGtf, ↓CGft, ↓CGff, ↓IGtt, ↓IGtf, ↓IGft, ↓IGff, ↓PKt, ↓PKf, ↓CDt, ↓CDf, ↓NOTt, ↓NOTf, ↓NK_ptr, ↓GEf (show (xs.length : Int) < ((argsP s.kind).1 : Int) by omega)]
        refine comma hal _ w7 (Mod.refl _ _) ?_ ?_ ?_ ?_ ?_ _ next
        · exact q0
        · exact q3
        · exact q4
        · exact q6
        · exact q7
    · rw [if_neg hpos] at hal
      simp only [↓GTf (show (xs.length : Int) ≤ 0 by omega), ↓CDf]
      refine more _ w7 a5 ?_ ?_ ?_ ?_ ?_ d3 d4 hO hp hm hal _ next
      · exact q0
      · exact q3
      · exact q4
      · exact q6
      · exact q7
  · rw [if_neg hlen] at hal
    cases hal
    simp only [↓VG_u, ↓UG_u, ↓MG_u, ↓NG_u, ↓PG_u, ↓BG_u, ↓CG_u, ↓IG_u, ↓VGtt, ↓VGtf, ↓VGft, ↓VGff, ↓UGtt, ↓UGtf, ↓UGft, ↓UGff, ↓MGtt, ↓MGtf, ↓MGft, ↓MGff, ↓NGtt, ↓NGtf, ↓NGft, ↓NGff, ↓PGtt, ↓PGtf, ↓PGft, ↓PGff, ↓BGtt, ↓BGtf, ↓BGft, ↓BGff, ↓CGtt, ↓CGtf, ↓CGft, ↓CGff, ↓IGtt, ↓IGtf, ↓IGft, ↓IGff, ↓PKt, ↓PKf, ↓CDt, ↓CDf, ↓NOTt, ↓NOTf, ↓NK_ptr, ↓(g5 d3).e, ↓len_sle, ↓LTf (show ((argsP s.kind).2 : Int) ≤ (xs.length : Int) by omega)]
    rw [sq_x, bk_x, sq_n]
    refine fin _ w7 v' xs ?_ ?_ ?_ d3 d4 hO rfl hp hm
    · exact q0
    · exact q3
    · exact q4
end
end Go.Proofs.YtpkfbaagpjdifaaDoor.Tr
set_option linter.unusedVariables false
set_option linter.unusedSimpArgs false
set_option maxRecDepth 4000
namespace Go.Proofs.YtpkfbaagpjdifaaDoor.Tr
open Go Go.X Go.RowKit Go.Proofs.YtpkfbaagpjdifaaDoor.XD Go.Proofs.YtpkfbaagpjdifaaDoor.XK
structure GotS (w w' : World) (e : St) (pe : St) : Prop where
  er : e.er = pe
  own : e.Own w' tE tS
  in_ : e.In fun i => w.heap.size ≤ i
theorem bSt2 (a b : Int) : Tryd.prog.built 25 [(8, .int .i64 a), (9, .int .i64 b)] = some (St.mk 0 0 0 (bs []) 0 nl [] nl [] nl [] a b).cells.toArray := by kernel_rfl
section
variable {lv : Value} {l : List Tk} {c : Nat}
def StmtC (lv : Value) (l : List Tk) (c n : Nat) : Prop := ∀ (a : Nat) (r : St × Nat), stmtP l n a = some r → ∀ w, PW w lv l c a →
  Rt Tryd.prog 43 #[pq c] w fun v w' => ∃ e, v = .agg e.cells.toArray ∧ GotS w w' e r.1 ∧ PW w' lv l c r.2 ∧ Mod (fun i => i = c) w w'
def BlockC (lv : Value) (l : List Tk) (c n : Nat) : Prop := ∀ (a : Nat) (r : List St × Nat), blockP l n a = some r → ∀ w, PW w lv l c a →
  Rt Tryd.prog 69 #[pq c] w fun v w' => ∃ ss, StsOwn w' w.heap.size v ss ∧ ss.map St.er = r.1 ∧ PW w' lv l c r.2 ∧ Mod (fun i => i = c) w w'
structure FrS (lv : Value) (l : List Tk) (c : Nat) (w0 w : World) (b2 b3 b4 : Nat) (t : Tk) (e : St) (a : Nat) : Prop where
  h2 : w.heap[b2]? = some (.cells zStc.toArray tS (0, 0))
  h3 : w.heap[b3]? = some (.cells t.cells.toArray tT (0, 0))
  h4 : w.heap[b4]? = some (.cells e.cells.toArray tS (0, 0))
  pw : PW w lv l c a
  m : Mod (fun i => i = c) w0 w
  lo : w0.heap.size ≤ b2 ∧ b2 < b3 ∧ b3 < b4 ∧ c < w0.heap.size ∧ ∀ g, lv.ownBlock = some g → g < w0.heap.size
  ex : ExsOwn w (b4 + 1) e.es e.exprs
  bd : StsOwn w (b4 + 1) e.bs e.body
  nls : e.ls = nl ∧ e.els = []
variable {w0 w w' : World} {b2 b3 b4 : Nat} {t : Tk} {e : St} {a : Nat}
theorem FrS.ltw (h : FrS lv l c w0 w b2 b3 b4 t e a) : b4 < w.heap.size := blk_lt h.h4
theorem FrS.cur (h : FrS lv l c w0 w b2 b3 b4 t e a) {a' : Nat} (hm : Mod (fun i => i = c) w w') (hp : PW w' lv l c a') : FrS lv l c w0 w' b2 b3 b4 t e a' := by
  have := h.lo
  exact ⟨hm.blk h.h2 (by omega), hm.blk h.h3 (by omega), hm.blk h.h4 (by omega), hp, h.m.trans hm, h.lo, h.ex.ne hm h.pw.cur (by decide), h.bd.ne hm h.pw.cur (by decide) (by decide), h.nls⟩
theorem FrS.mod0 (h : FrS lv l c w0 w b2 b3 b4 t e a) (hm : Mod none_ w w') : FrS lv l c w0 w' b2 b3 b4 t e a := h.cur (up1 hm) (h.pw.mod0 hm)
theorem FrS.put (h : FrS lv l c w0 w b2 b3 b4 t e a) {e' : St} (hm : Mod (fun i => i = b4) w w') (hb : w'.heap[b4]? = some (.cells e'.cells.toArray tS (0, 0))) (hx : ExsOwn w' (b4 + 1) e'.es e'.exprs) (hd : StsOwn w' (b4 + 1) e'.bs e'.body) (hn : e'.ls = nl ∧ e'.els = []) : FrS lv l c w0 w' b2 b3 b4 t e' a := by
  have := h.lo
  refine ⟨hm.blk h.h2 (by omega), hm.blk h.h3 (by omega), hb, h.pw.off hm fun k q => ?_, h.m.then hm fun i hi q => by omega, h.lo, hx, hd, hn⟩
  refine ⟨by omega, fun g hg => ?_⟩
  have := h.lo.2.2.2.2 g hg
  omega
theorem FrS.fst (h : FrS lv l c w0 w b2 b3 b4 t e a) {i off : Nat} {t' : TypeId} {v : Value} (e' : St) (h1 : fieldOff Tryd.prog 25 i = some off) (hc1 : Tryd.prog.cellsOf t' = 1) (hv : v.oneCell' = true) (ho : off < 10) (hcs : e.cells.toArray.setIfInBounds off v = e'.cells.toArray) (hes : e'.es = e.es ∧ e'.exprs = e.exprs) (hbs : e'.bs = e.bs ∧ e'.body = e.body) (hn : e'.ls = nl ∧ e'.els = [])
    {K : Value → Value → World → Prop} (hk : ∀ x w', FrS lv l c w0 w' b2 b3 b4 t e' a → K x undef w') : VK Tryd.prog (Instr.fieldAt 25 (pq b4) i) w fun x w => UK Tryd.prog (Instr.storeAt t' x v) w (K x) := by
  refine fst_k h1 hc1 hv h.h4 (by simpa [St.cells] using ho) hcs fun x w1 hb1 hm1 hz1 => hk _ _ (h.put hm1 hb1 ?_ ?_ hn)
  · rw [hes.1, hes.2]; exact h.ex.off hm1 fun k q => by omega
  · rw [hbs.1, hbs.2]; exact h.bd.off hm1 fun k q => by omega
theorem FrS.no (h : FrS lv l c w0 w b2 b3 b4 t e a) (hG : Good l) {s : Bs} (hf : mayP l a s = false) {K : Value → World → Prop} (hk : ∀ w', FrS lv l c w0 w' b2 b3 b4 t e a → K (.bool false) w') : CK Tryd.prog (.func (.func 37) #[] #[]) [pq c, txt s] w K := by
  refine CK_st Tryd.func37 rfl rfl (may_ok h.pw hG s) ?_
  rintro _ w1 ⟨rfl, h1, hm1⟩
  rw [hf] at h1 ⊢
  exact hk _ (h.cur hm1 h1)
theorem FrS.yes (h : FrS lv l c w0 w b2 b3 b4 t e a) (hG : Good l) {s : Bs} (hf : mayP l a s = true) {K : Value → World → Prop} (hk : ∀ w', FrS lv l c w0 w' b2 b3 b4 t e (a + 1) → K (.bool true) w') : CK Tryd.prog (.func (.func 37) #[] #[]) [pq c, txt s] w K := by
  refine CK_st Tryd.func37 rfl rfl (may_ok h.pw hG s) ?_
  rintro _ w1 ⟨rfl, h1, hm1⟩
  rw [hf] at h1 ⊢
  exact hk _ (h.cur hm1 h1)
theorem FrS.need (h : FrS lv l c w0 w b2 b3 b4 t e a) (hG : Good l) {s : Bs} (hf : mayP l a s = true) {K : Value → World → Prop} (hk : ∀ v w', FrS lv l c w0 w' b2 b3 b4 t e (a + 1) → K v w') : CK Tryd.prog (.func (.func 41) #[] #[]) [pq c, txt s] w K := by
  refine CK_st Tryd.func41 rfl rfl (need_ok h.pw hG hf) ?_
  rintro v w1 ⟨h1, hm1⟩
  exact hk _ _ (h.cur hm1 h1)
theorem FrS.name (h : FrS lv l c w0 w b2 b3 b4 t e a) (hG : Good l) (hk1 : (tkAt l a).kind = 1) {K : Value → World → Prop} (hk : ∀ w', FrS lv l c w0 w' b2 b3 b4 t e (a + 1) → K (txt (tkAt l a).text) w') : CK Tryd.prog (.func (.func 39) #[] #[]) [pq c] w K := by
  refine CK_st Tryd.func39 rfl rfl (name_ok h.pw hG hk1) ?_
  rintro _ w1 ⟨rfl, h1, hm1⟩
  exact hk _ (h.cur hm1 h1)
theorem FrS.retS (h : FrS lv l c w0 w b2 b3 b4 t e a) {pe : St} (her : e.er = pe) (hf : e.fine) {R : Value → World → Prop} {ρ : Value → Sl} (hq : ∀ x, ρ x 2 = pq b2) (hR : ∀ w', GotS w0 w' e pe → PW w' lv l c a → Mod (fun i => i = c) w0 w' → R (.agg e.cells.toArray) w') :
    VK Tryd.prog (Instr.loadAt 25 (pq b4)) w fun x w => UK Tryd.prog (Instr.storeAt 25 (pq b2) x) w fun _ w => resK Tryd.prog (ρ x) (fun vs w => R (packV vs) w) [ResultVar.cell 2 25] w := by
  have lo := h.lo
  refine ldS (cs := e.cells.toArray) rfl Tryd.underlying25 rfl iSt h.h4 ?_
  have hone : (e.cells.toArray.all (·.oneCell')) = true := st_cells_one (owns_slice h.ex.row) (owns_slice h.bd.row) (by rw [h.nls.1]; rfl)
  refine stS (old := zStc.toArray) (cs := e.cells.toArray) rfl rfl iSt rfl hone h.h2 fun w1 h1 hm1 hz1 => ?_
  have hx := h.ex.off hm1 fun k q => by omega
  have hd := h.bd.off hm1 fun k q => by omega
  have hown : e.Own w1 tE tS := St.own_.2 ⟨⟨owns_base hx.row (Nat.zero_le _), hx.own⟩, ⟨owns_base hd.row (Nat.zero_le _), hd.own⟩, ⟨by rw [h.nls.1, h.nls.2]; exact owns_none _ _ _ _, by rw [h.nls.2]; simp⟩, hf⟩
  have hin : e.In fun i => w0.heap.size ≤ i := by
    refine St.in_.2 ⟨⟨fun k hk => by have := owns_low hx.row hk; omega, fun z hz => (hx.at_ z hz).mono fun k hk => by omega⟩, ⟨fun k hk => by have := owns_low hd.row hk; omega, fun z hz => (hd.at_ z hz).mono fun k hk => by omega⟩, ?_⟩
    rw [h.nls.1, h.nls.2]
    exact ⟨fun k hk => by simp [nl, Value.ownBlock] at hk, by simp⟩
  have hR1 := hR w1 ⟨her, hown, hin⟩ (h.pw.off hm1 fun k q => ⟨by omega, fun g hg => by have := lo.2.2.2.2 g hg; omega⟩) (h.m.then hm1 fun i hi q => by omega)
  exact rsCell (R := fun v w => R v w) (cs := e.cells.toArray) (hq _) Tryd.underlying25 rfl iSt h1 hR1
theorem FrS.add (h : FrS lv l c w0 w b2 b3 b4 t e a) (hG : Good l) {n a' : Nat} {pe : Ex} (he : exprTk l n 0 a = some (pe, a')) (hlen : e.exprs.length < 1000) (hb0 : e.body = []) {K1 K2 K3 : Value → Value → Value → Value → Value → Value → World → Prop}
    (hK : ∀ (w' : World) (x : Ex) (v' : Value), FrS lv l c w0 w' b2 b3 b4 t (e.withE v' (e.exprs ++ [x])) a' → x.er = pe → ∀ x1 x2 x3 x4 x5 x6, K1 x1 x2 x3 x4 x5 x6 w' ∧ K2 x1 x2 x3 x4 x5 x6 w' ∧ K3 x1 x2 x3 x4 x5 x6 w') :
    HK Tryd.prog (fun _ => True) (do pure (Next.value (← Instr.fieldAt 25 (pq b4) 5))) fun x26 => (VK Tryd.prog (Instr.loadAt 22 x26) w fun x27 w => True ∧ (CK Tryd.prog (.func (.func 68) #[] #[]) [pq c, .int .i64 0] w fun x29 w => True ∧ (VK Tryd.prog (Instr.buildSlice 22 1 [(0, x29)].toArray) w fun x30 w => True ∧ (IK Tryd.prog .append #[22, 22] 22 [false, false] [x27, x30] w fun x31 w => True ∧ (HK Tryd.prog (fun _ => True) (do pure (Next.value (← Instr.fieldAt 25 (pq b4) 5))) fun x32 => UK Tryd.prog (Instr.storeAt 22 x32 x31) w fun _ w => True ∧ K1 x26 x27 x29 x30 x31 x32 w))))) ∧
      (CK Tryd.prog (.func (.func 68) #[] #[]) [pq c, .int .i64 0] w fun x29 w => True ∧ ((VK Tryd.prog (Instr.loadAt 22 x26) w fun x27 w => True ∧ (VK Tryd.prog (Instr.buildSlice 22 1 [(0, x29)].toArray) w fun x30 w => True ∧ (IK Tryd.prog .append #[22, 22] 22 [false, false] [x27, x30] w fun x31 w => True ∧ (HK Tryd.prog (fun _ => True) (do pure (Next.value (← Instr.fieldAt 25 (pq b4) 5))) fun x32 => UK Tryd.prog (Instr.storeAt 22 x32 x31) w fun _ w => True ∧ K2 x26 x27 x29 x30 x31 x32 w)))) ∧
        (VK Tryd.prog (Instr.buildSlice 22 1 [(0, x29)].toArray) w fun x30 w => True ∧ (VK Tryd.prog (Instr.loadAt 22 x26) w fun x27 w => True ∧ (IK Tryd.prog .append #[22, 22] 22 [false, false] [x27, x30] w fun x31 w => True ∧ (HK Tryd.prog (fun _ => True) (do pure (Next.value (← Instr.fieldAt 25 (pq b4) 5))) fun x32 => UK Tryd.prog (Instr.storeAt 22 x32 x31) w fun _ w => True ∧ K3 x26 x27 x29 x30 x31 x32 w)))))) := by
  have lo := h.lo
  have hltw := h.ltw
  refine addE (base := b4 + 1) hG he h.h4 h.ex h.pw (by omega) (by omega) hltw fun w1 x v' hb1 hO1 her hp1 hm1 x1 x2 x3 x4 x5 x6 => hK w1 x v' ?_ her _ _ _ _ _ _
  have hrow : ∀ k, e.es.ownBlock = some k → b4 + 1 ≤ k := fun k hk => owns_low h.ex.row hk
  have hne : ∀ k, k ≤ b4 → k ≠ c → k ≠ b4 → ¬ (k = c ∨ k = b4 ∨ some k = e.es.ownBlock) := fun k hk h1 h2 q => by
    rcases q with q | q | q
    · exact h1 q
    · exact h2 q
    · have := hrow k q.symm; omega
  refine ⟨hm1.blk h.h2 (hne _ (by omega) (by omega) (by omega)), hm1.blk h.h3 (hne _ (by omega) (by omega) (by omega)), hb1, hp1, h.m.then hm1 fun i hi q => ?_, lo, hO1, ?_, h.nls⟩
  · rcases q with q | q | q
    · exact q
    · omega
    · have := hrow i q.symm; omega
  · have hbr : ∀ k, e.bs.ownBlock = some k → b4 + 1 ≤ k := fun k hk => owns_low h.bd.row hk
    refine ⟨owns_mod h.bd.row hm1 fun k hk q => ?_, fun z hz => ?_, h.bd.at_⟩
    · rcases q with q | q | q
      · have := hbr k hk; omega
      · have := hbr k hk; omega
      · exact owns_ne h.bd.row h.ex.row (by decide) k hk q
    · have hz : z ∈ e.body := hz
      rw [hb0] at hz
      cases hz
theorem FrS.done (h : FrS lv l c w0 w b2 b3 b4 t e a) (hG : Good l) (hs : mayP l a [59] = true) {pe : St} (her : e.er = pe) (hf : e.fine) {ρ : Sl} (q0 : ρ 0 = pq c) (q2 : ρ 2 = pq b2) (q4 : ρ 4 = pq b4) :
    sx fn_ Tryd.prog 141 dispatcherref02_cursor_stmt_R0 (retK Tryd.prog [ResultVar.cell 2 25] fun v w' => ∃ e, v = .agg e.cells.toArray ∧ GotS w0 w' e pe ∧ PW w' lv l c (a + 1) ∧ Mod (fun i => i = c) w0 w') ρ w := by
  rw [dispatcherref02_cursor_stmt_R0_eq]
  unfold dispatcherref02_cursor_stmt_R0_F
  rw [q0, q2, q4]
  refine h.need (s := [59]) hG hs fun v w1 h1 => ?_
  simp only [sq_n, sq_x, sq_r, bk_n, bk_r, bk_x, rt_r, rt_n, rs_0, rs_t, pk_1, pk_2, up_at, reduceIte, Nat.reduceEqDiff]
  refine h1.retS her hf (R := fun v w' => ∃ e, v = .agg e.cells.toArray ∧ GotS w0 w' e pe ∧ PW w' lv l c (a + 1) ∧ Mod (fun i => i = c) w0 w') (fun x => ?_) fun w' hg hp hm => ⟨_, rfl, hg, hp, hm⟩
  exact q2
theorem stF {op kind red turns line col : Int} {name : ByteArray} {es bs ls : Value} {ex : List Ex} {bd el : List St} (h1 : (Lit.int .u8 op).wf = true) (h2 : (Lit.int .u8 kind).wf = true) (h3 : (Lit.int .u8 red).wf = true) (h4 : name.size ≤ maxLen) (h5 : (Lit.int .i64 turns).wf = true) (h6 : (Lit.int .i64 line).wf = true) (h7 : (Lit.int .i64 col).wf = true) : (St.mk op kind red name turns es ex bs bd ls el line col).fine := ⟨h1, h2, h3, h4, h5, h6, h7⟩
theorem u8_wf {n : Int} (h0 : 0 ≤ n) (h1 : n ≤ 255) : (Lit.int .u8 n).wf = true := by
  simp [Lit.wf, IntKind.min, IntKind.max, IntKind.signed, IntKind.bits]
  omega
theorem stmt_step (hG : Good l) {n : Nat} (hB : BlockC lv l c n) : StmtC lv l c (n + 1) := by
  intro a r hr w hw
  rw [stmtP] at hr
  refine dispatcherref02_cursor_stmt_calls ?_
  unfold dispatcherref02_cursor_stmt_F
  refine al_k (cs := zStc.toArray) zSt rfl _ fun w1 hb1 hm1 hz1 => ?_
  refine CK_st Tryd.func38 rfl rfl (next_ok (hw.mod0 hm1) hG) ?_
  rintro _ w2 ⟨rfl, hm2⟩
  refine lcl_k (cs := (tkAt l a).cells.toArray) zTkg _ iTk rfl (tk_one _) fun w3 hb3 hm3 hz3 => ?_
  obtain ⟨k0, k1, k2, k3, k4⟩ := tk_fo hb3
  simp only [↓k3.e, ↓k4.e]
  rw [build_ok (bSt2 _ _)]
  refine lcl_k (cs := (St.mk 0 0 0 (bs []) 0 nl [] nl [] nl [] (tkAt l a).line (tkAt l a).col).cells.toArray) zSt _ iSt rfl (st_cells_one rfl rfl rfl) fun w4 hb4 hm4 hz4 => ?_
  have hs2 := hm2.size
  have hm14 := (hm2.trans hm3).trans hm4
  have hm04 := hm1.trans hm14
  have hF : FrS lv l c w w4 w.heap.size w2.heap.size w3.heap.size (tkAt l a) (St.mk 0 0 0 (bs []) 0 nl [] nl [] nl [] (tkAt l a).line (tkAt l a).col) a :=
    ⟨hm14.blk hb1 id, hm4.blk hb3 id, hb4, hw.mod0 hm04, up1 hm04, ⟨Nat.le_refl _, by omega, by omega, blk_lt hw.cur, fun g hg => owns_lt hw.toks hg⟩, ExsOwn.nil _ _, StsOwn.nil _ _, rfl, rfl⟩
  generalize w3.heap.size = b4 at *
  generalize w2.heap.size = b3 at *
  obtain ⟨tf1, tf2, tf3, tf4⟩ := tk_fine hG a
  have hwl := hG.len
  obtain ⟨k0, k1, k2, k3, k4⟩ := tk_fo hF.h3
  simp only [↓k0.e]
  by_cases hk1 : (tkAt l a).kind = 1
  · rw [if_pos hk1] at hr
    split at hr
    · cases hr
    rename_i hmay
    have hmay : mayP l (a + 1) [91] = false := by simpa using hmay
    cases hn1 : needP l (a + 1) [61] with
    | none => rw [hn1] at hr; cases hr
    | some a2 =>
    rw [hn1] at hr
    dsimp only at hr
    obtain ⟨hm1', rfl⟩ := need_some hn1
    cases he : exprTk l n 0 (a + 1 + 1) with
    | none => rw [he] at hr; cases hr
    | some q =>
    obtain ⟨pe, a3⟩ := q
    rw [he] at hr
    dsimp only at hr
    cases hn2 : needP l a3 [59] with
    | none => rw [hn2] at hr; cases hr
    | some a4 =>
    rw [hn2] at hr
    obtain ⟨hm2', rfl⟩ := need_some hn2
    cases hr
    simp only [↓EQt hk1, ↓CDt]
    refine hF.fst (off := 0) ⟨1, 0, 0, bs [], 0, nl, [], nl, [], nl, [], _, _⟩ (by kernel_rfl) (by kernel_rfl) rfl (by omega) rfl ⟨rfl, rfl⟩ ⟨rfl, rfl⟩ ⟨rfl, rfl⟩ fun x w5 hF5 => ?_
    refine hF5.name hG hk1 fun w6 hF6 => ?_
    refine hF6.fst (off := 3) ⟨1, 0, 0, bs (tkAt l a).text, 0, nl, [], nl, [], nl, [], _, _⟩ (by kernel_rfl) (by kernel_rfl) rfl (by omega) rfl ⟨rfl, rfl⟩ ⟨rfl, rfl⟩ ⟨rfl, rfl⟩ fun x w7 hF7 => ?_
    refine hF7.no (s := [91]) hG hmay fun w8 hF8 => ?_
    simp only [↓CDf]
    rw [dispatcherref02_cursor_stmt_R1_eq]
    unfold dispatcherref02_cursor_stmt_R1_F
    simp only [sq_n, sq_x, sq_r, bk_n, bk_r, bk_x, rt_r, rt_n, rs_0, rs_t, pk_1, pk_2, up_at, reduceIte, Nat.reduceEqDiff]
    refine hF8.need (s := [61]) hG hm1' fun v w9 hF9 => ?_
    refine dispatcherref02_cursor_stmt_R10_held (D := []) (fun _ => True) trivial ?_
    unfold dispatcherref02_cursor_stmt_R10_H
    simp only [sq_n, sq_x, sq_r, bk_n, bk_r, bk_x, rt_r, rt_n, rs_0, rs_t, pk_1, pk_2, up_at, reduceIte, Nat.reduceEqDiff]
    refine (hF9.mod0 ((Mod.refl _ w9).drawn (w9.drawn + 1))).add hG he (by simp) rfl fun w10 x v' hF10 her x1 x2 x3 x4 x5 x6 => ?_
    have fin : ∀ ρ : Sl, ρ 0 = pq c → ρ 2 = pq w.heap.size → ρ 4 = pq b4 → _ := fun ρ q0 q2 q4 => hF10.done (ρ := ρ) hG hm2' (pe := ⟨1, 0, 0, bs (tkAt l a).text, 0, nl, [pe], nl, [], nl, [], (tkAt l a).line, (tkAt l a).col⟩) (by rw [St.er_eq]; simp only [St.withE, List.nil_append, List.map_cons, List.map_nil, her]; rfl) (show (St.mk 1 0 0 (bs (tkAt l a).text) 0 v' [x] nl [] nl [] (tkAt l a).line (tkAt l a).col).fine from stF (by decide) (by decide) (by decide) (bs_size tf1) (by decide) tf3 tf4) q0 q2 q4
    exact ⟨fin _ rfl rfl rfl, fin _ rfl rfl rfl, fin _ rfl rfl rfl⟩
  rw [if_neg hk1] at hr
  simp only [↓EQf hk1, ↓CDf]
  split at hr
  · cases hr
  rename_i hif
  have hif : mayP l a [105, 102] = false := by simpa using hif
  refine hF.no (s := [105, 102]) hG hif fun w5 hF5 => ?_
  simp only [↓CDf]
  cases hwh : mayP l a [119, 104, 105, 108, 101] with
  | true =>
    rw [hwh, if_pos rfl] at hr
    refine hF5.yes (s := [119, 104, 105, 108, 101]) hG hwh fun w6 hF6 => ?_
    simp only [↓CDt]
    cases he : exprTk l n 0 (a + 1) with
    | none => rw [he] at hr; cases hr
    | some q =>
    obtain ⟨pe, a3⟩ := q
    rw [he] at hr
    dsimp only at hr
    cases hb : blockP l n a3 with
    | none => rw [hb] at hr; cases hr
    | some q =>
    obtain ⟨pb, a4⟩ := q
    rw [hb] at hr
    cases hr
    refine hF6.fst (off := 0) ⟨4, 0, 0, bs [], 0, nl, [], nl, [], nl, [], _, _⟩ (by kernel_rfl) (by kernel_rfl) rfl (by omega) rfl ⟨rfl, rfl⟩ ⟨rfl, rfl⟩ ⟨rfl, rfl⟩ fun x w7 hF7 => ?_
    refine dispatcherref02_cursor_stmt_R6_held (D := []) (fun _ => True) trivial ?_
    unfold dispatcherref02_cursor_stmt_R6_H
    simp only [sq_n, sq_x, sq_r, bk_n, bk_r, bk_x, rt_r, rt_n, rs_0, rs_t, pk_1, pk_2, up_at, reduceIte, Nat.reduceEqDiff]
    refine (hF7.mod0 ((Mod.refl _ w7).drawn (w7.drawn + 1))).add hG he (by simp) rfl fun w8 x v' hF8 her x1 x2 x3 x4 x5 x6 => ?_
    have fin : ∀ ρ : Sl, ρ 0 = pq c → ρ 2 = pq w.heap.size → ρ 4 = pq b4 → sx fn_ Tryd.prog 141 dispatcherref02_cursor_stmt_R7 (blkK 0 (seqK (sx fn_ Tryd.prog 141 dispatcherref02_cursor_stmt_R0 (retK Tryd.prog [ResultVar.cell 2 25] fun v w' => ∃ e, v = .agg e.cells.toArray ∧ GotS w w' e ⟨4, 0, 0, bs [], 0, nl, [pe], nl, pb, nl, [], (tkAt l a).line, (tkAt l a).col⟩ ∧ PW w' lv l c a4 ∧ Mod (fun i => i = c) w w')) (retK Tryd.prog [ResultVar.cell 2 25] fun v w' => ∃ e, v = .agg e.cells.toArray ∧ GotS w w' e ⟨4, 0, 0, bs [], 0, nl, [pe], nl, pb, nl, [], (tkAt l a).line, (tkAt l a).col⟩ ∧ PW w' lv l c a4 ∧ Mod (fun i => i = c) w w'))) ρ w8 := by
      intro ρ q0 q2 q4
      rw [dispatcherref02_cursor_stmt_R7_eq]
      unfold dispatcherref02_cursor_stmt_R7_F
      rw [q0, q2, q4]
      refine CK_st Tryd.func69 rfl rfl (hB _ _ hb _ hF8.pw) ?_
      rintro v9 w9 ⟨ss, hO9, hss, h9, hm9⟩
      have hF9 := hF8.cur hm9 h9
      have hlt := hF8.ltw
      refine fst_k (off := 6) (by kernel_rfl) (by kernel_rfl) (owns_slice hO9.row) hF9.h4 (by simp [St.cells, St.withE]) (cs' := (St.mk 4 0 0 (bs []) 0 v' [x] v9 ss nl [] (tkAt l a).line (tkAt l a).col).cells.toArray) rfl fun x10 w10 h10 hm10 hz10 => ?_
      have hF10 : FrS lv l c w w10 w.heap.size b3 b4 (tkAt l a) (St.mk 4 0 0 (bs []) 0 v' [x] v9 ss nl [] (tkAt l a).line (tkAt l a).col) a4 := hF9.put hm10 h10 (hF9.ex.off hm10 fun k q => by omega) ((hO9.off hm10 fun k q => by omega).low (by omega)) ⟨rfl, rfl⟩
      simp only [sq_n, sq_x, sq_r, bk_n, bk_r, bk_x, rt_r, rt_n, rs_0, rs_t, pk_1, pk_2, up_at, reduceIte, Nat.reduceEqDiff]
      refine hF10.retS (pe := ⟨4, 0, 0, bs [], 0, nl, [pe], nl, pb, nl, [], (tkAt l a).line, (tkAt l a).col⟩) (by rw [St.er_eq]; simp only [List.map_cons, List.map_nil, her, hss]; rfl) (stF (by decide) (by decide) (by decide) (by decide) (by decide) tf3 tf4) (R := fun v w' => ∃ e, v = .agg e.cells.toArray ∧ GotS w w' e ⟨4, 0, 0, bs [], 0, nl, [pe], nl, pb, nl, [], (tkAt l a).line, (tkAt l a).col⟩ ∧ PW w' lv l c a4 ∧ Mod (fun i => i = c) w w') (fun x => ?_) fun w' hg hp hm => ⟨_, rfl, hg, hp, hm⟩
      exact q2
    exact ⟨fin _ rfl rfl rfl, fin _ rfl rfl rfl, fin _ rfl rfl rfl⟩
  | false =>
    rw [hwh, if_neg (by simp)] at hr
    refine hF5.no (s := [119, 104, 105, 108, 101]) hG hwh fun w6 hF6 => ?_
    simp only [↓CDf]
    cases hfo : mayP l a [102, 111, 114] with
    | true =>
      rw [hfo, if_pos rfl] at hr
      refine hF6.yes (s := [102, 111, 114]) hG hfo fun w7 hF7 => ?_
      simp only [↓CDt]
      split at hr
      rotate_left
      · cases hr
      rename_i hk1'
      cases hn1 : needP l (a + 2) [60] with
      | none => rw [hn1] at hr; cases hr
      | some a1 =>
      rw [hn1] at hr
      dsimp only at hr
      obtain ⟨hm1', ha1⟩ := need_some hn1
      split at hr
      · cases hr
      rename_i hsz
      have hsz : mayP l a1 [115, 105, 122, 101] = false := by simpa using hsz
      split at hr
      rotate_left
      · cases hr
      rename_i hnum
      cases hb : blockP l n (a1 + 1) with
      | none => rw [hb] at hr; cases hr
      | some q =>
      obtain ⟨pb, a4⟩ := q
      rw [hb] at hr
      cases hr
      obtain ⟨uf1, _⟩ := tk_fine hG (a + 1)
      obtain ⟨_, vf2, _⟩ := tk_fine hG a1
      refine hF7.fst (off := 0) ⟨5, 0, 0, bs [], 0, nl, [], nl, [], nl, [], _, _⟩ (by kernel_rfl) (by kernel_rfl) rfl (by omega) rfl ⟨rfl, rfl⟩ ⟨rfl, rfl⟩ ⟨rfl, rfl⟩ fun x w8 hF8 => ?_
      refine hF8.name hG hk1' fun w9 hF9 => ?_
      refine hF9.fst (off := 3) ⟨5, 0, 0, bs (tkAt l (a + 1)).text, 0, nl, [], nl, [], nl, [], _, _⟩ (by kernel_rfl) (by kernel_rfl) rfl (by omega) rfl ⟨rfl, rfl⟩ ⟨rfl, rfl⟩ ⟨rfl, rfl⟩ fun x w10 hF10 => ?_
      refine hF10.need (s := [60]) hG hm1' fun v w11 hF11 => ?_
      rw [← ha1] at hF11
      refine hF11.no (s := [115, 105, 122, 101]) hG hsz fun w12 hF12 => ?_
      simp only [↓VG_u, ↓UG_u, ↓MG_u, ↓NG_u, ↓PG_u, ↓BG_u, ↓CG_u, ↓IG_u, ↓VGtt, ↓VGtf, ↓VGft, ↓VGff, ↓UGtt, ↓UGtf, ↓UGft, ↓UGff, ↓MGtt, ↓MGtf, ↓MGft, ↓MGff, ↓NGtt, ↓NGtf, ↓NGft, ↓NGff, ↓PGtt, ↓PGtf, ↓PGft, ↓PGff, ↓BGtt, ↓BGtf, ↓BGft, ↓BGff, ↓CGtt, ↓CGtf, ↓CGft, ↓CGff, ↓IGtt, ↓IGtf, ↓IGft, ↓IGff, ↓PKt, ↓PKf, ↓CDt, ↓CDf, ↓NOTt, ↓NOTf, ↓NK_ptr]
      refine CK_st Tryd.func40 rfl rfl (number_ok hF12.pw hG hnum.1 hnum.2.1 hnum.2.2) ?_
      rintro _ w13 ⟨rfl, h13, hm13⟩
      have hF13 := hF12.cur hm13 h13
      refine hF13.fst (off := 4) ⟨5, 0, 0, bs (tkAt l (a + 1)).text, (tkAt l a1).num, nl, [], nl, [], nl, [], _, _⟩ (by kernel_rfl) (by kernel_rfl) rfl (by omega) rfl ⟨rfl, rfl⟩ ⟨rfl, rfl⟩ ⟨rfl, rfl⟩ fun x w14 hF14 => ?_
      rw [dispatcherref02_cursor_stmt_R8_eq]
      unfold dispatcherref02_cursor_stmt_R8_F
      simp only [sq_n, sq_x, sq_r, bk_n, bk_r, bk_x, rt_r, rt_n, rs_0, rs_t, pk_1, pk_2, up_at, reduceIte, Nat.reduceEqDiff]
      refine CK_st Tryd.func69 rfl rfl (hB _ _ hb _ hF14.pw) ?_
      rintro v15 w15 ⟨ss, hO15, hss, h15, hm15⟩
      have hF15 := hF14.cur hm15 h15
      have hlt := hF14.ltw
      refine fst_k (off := 6) (by kernel_rfl) (by kernel_rfl) (owns_slice hO15.row) hF15.h4 (by simp [St.cells]) (cs' := (St.mk 5 0 0 (bs (tkAt l (a + 1)).text) (tkAt l a1).num nl [] v15 ss nl [] (tkAt l a).line (tkAt l a).col).cells.toArray) rfl fun x16 w16 h16 hm16 hz16 => ?_
      have hF16 : FrS lv l c w w16 w.heap.size b3 b4 (tkAt l a) (St.mk 5 0 0 (bs (tkAt l (a + 1)).text) (tkAt l a1).num nl [] v15 ss nl [] (tkAt l a).line (tkAt l a).col) a4 := hF15.put hm16 h16 (hF15.ex.off hm16 fun k q => by omega) ((hO15.off hm16 fun k q => by omega).low (by omega)) ⟨rfl, rfl⟩
      refine hF16.retS (pe := ⟨5, 0, 0, bs (tkAt l (a + 1)).text, (tkAt l a1).num, nl, [], nl, pb, nl, [], (tkAt l a).line, (tkAt l a).col⟩) (by rw [St.er_eq]; simp only [List.map_nil, hss]; rfl) (stF (by decide) (by decide) (by decide) (bs_size uf1) vf2 tf3 tf4) (R := fun v w' => ∃ e, v = .agg e.cells.toArray ∧ GotS w w' e ⟨5, 0, 0, bs (tkAt l (a + 1)).text, (tkAt l a1).num, nl, [], nl, pb, nl, [], (tkAt l a).line, (tkAt l a).col⟩ ∧ PW w' lv l c a4 ∧ Mod (fun i => i = c) w w') (fun x => rfl) fun w' hg hp hm => ⟨_, rfl, hg, hp, hm⟩
    | false =>
      rw [hfo, if_neg (by simp)] at hr
      refine hF6.no (s := [102, 111, 114]) hG hfo fun w7 hF7 => ?_
      simp only [↓CDf]
      cases has : mayP l a [97, 115, 115, 101, 114, 116] with
      | true =>
        rw [has, if_pos rfl] at hr
        refine hF7.yes (s := [97, 115, 115, 101, 114, 116]) hG has fun w8 hF8 => ?_
        simp only [↓CDt]
        cases he : exprTk l n 0 (a + 1) with
        | none => rw [he] at hr; cases hr
        | some q =>
        obtain ⟨pe, a3⟩ := q
        rw [he] at hr
        dsimp only at hr
        cases hn2 : needP l a3 [59] with
        | none => rw [hn2] at hr; cases hr
        | some a4 =>
        rw [hn2] at hr
        obtain ⟨hm2', rfl⟩ := need_some hn2
        cases hr
        refine hF8.fst (off := 0) ⟨6, 0, 0, bs [], 0, nl, [], nl, [], nl, [], _, _⟩ (by kernel_rfl) (by kernel_rfl) rfl (by omega) rfl ⟨rfl, rfl⟩ ⟨rfl, rfl⟩ ⟨rfl, rfl⟩ fun x w9 hF9 => ?_
        refine dispatcherref02_cursor_stmt_R9_held (D := []) (fun _ => True) trivial ?_
        unfold dispatcherref02_cursor_stmt_R9_H
        simp only [sq_n, sq_x, sq_r, bk_n, bk_r, bk_x, rt_r, rt_n, rs_0, rs_t, pk_1, pk_2, up_at, reduceIte, Nat.reduceEqDiff]
        refine (hF9.mod0 ((Mod.refl _ w9).drawn (w9.drawn + 1))).add hG he (by simp) rfl fun w10 x v' hF10 her x1 x2 x3 x4 x5 x6 => ?_
        have fin : ∀ ρ : Sl, ρ 0 = pq c → ρ 2 = pq w.heap.size → ρ 4 = pq b4 → _ := fun ρ q0 q2 q4 => hF10.done (ρ := ρ) hG hm2' (pe := ⟨6, 0, 0, bs [], 0, nl, [pe], nl, [], nl, [], (tkAt l a).line, (tkAt l a).col⟩) (by rw [St.er_eq]; simp only [St.withE, List.nil_append, List.map_cons, List.map_nil, her]; rfl) (show (St.mk 6 0 0 (bs []) 0 v' [x] nl [] nl [] (tkAt l a).line (tkAt l a).col).fine from stF (by decide) (by decide) (by decide) (by decide) (by decide) tf3 tf4) q0 q2 q4
        exact ⟨fin _ rfl rfl rfl, fin _ rfl rfl rfl, fin _ rfl rfl rfl⟩
      | false =>
        rw [has, if_neg (by simp)] at hr
        refine hF7.no (s := [97, 115, 115, 101, 114, 116]) hG has fun w8 hF8 => ?_
        simp only [↓CDf]
        split at hr
        · cases hr
        rename_i hst
        have hst : mayP l a [115, 116, 111, 112] = false := by simpa using hst
        refine hF8.no (s := [115, 116, 111, 112]) hG hst fun w9 hF9 => ?_
        simp only [↓CDf]
        split at hr
        rotate_left
        · cases hr
        rename_i hkc
        cases hc : callP l n (callK (tkAt l a).text) (a + 1) with
        | none => rw [hc] at hr; cases hr
        | some q =>
        obtain ⟨es, a3⟩ := q
        rw [hc] at hr
        dsimp only at hr
        cases hn2 : needP l a3 [59] with
        | none => rw [hn2] at hr; cases hr
        | some a4 =>
        rw [hn2] at hr
        obtain ⟨hm2', rfl⟩ := need_some hn2
        cases hr
        have hal := kind_lt (l := l) (a := a) (by rw [hkc.1]; decide)
        have hrng := callK_rng (tkAt l a).text
        obtain ⟨k0, k1, k2, k3, k4⟩ := tk_fo hF9.h3
        simp only [↓VG_u, ↓UG_u, ↓MG_u, ↓NG_u, ↓PG_u, ↓BG_u, ↓CG_u, ↓IG_u, ↓VGtt, ↓VGtf, ↓VGft, ↓VGff, ↓UGtt, ↓UGtf, ↓UGft, ↓UGff, ↓MGtt, ↓MGtf, ↓MGft, ↓MGff, ↓NGtt, ↓NGtf, ↓NGft, ↓NGff, ↓PGtt, ↓PGtf, ↓PGft, ↓PGff, ↓BGtt, ↓BGtf, ↓BGft, ↓BGff, ↓CGtt, ↓CGtf, ↓CGft, ↓CGff, ↓IGtt, ↓IGtf, ↓IGft, ↓IGff, ↓PKt, ↓PKf, ↓CDt, ↓CDf, ↓NOTt, ↓NOTf, ↓NK_ptr, ↓k0.e, ↓EQt hkc.1, ↓k1.e]
        refine CK_st Tryd.func70 rfl rfl (Call_ok _ w9) ?_
        rintro _ w10 ⟨rfl, hm10⟩
        have hF10 := hF9.mod0 hm10
        simp only [↓VG_u, ↓UG_u, ↓MG_u, ↓NG_u, ↓PG_u, ↓BG_u, ↓CG_u, ↓IG_u, ↓VGtt, ↓VGtf, ↓VGft, ↓VGff, ↓UGtt, ↓UGtf, ↓UGft, ↓UGff, ↓MGtt, ↓MGtf, ↓MGft, ↓MGff, ↓NGtt, ↓NGtf, ↓NGft, ↓NGff, ↓PGtt, ↓PGtf, ↓PGft, ↓PGff, ↓BGtt, ↓BGtf, ↓BGft, ↓BGff, ↓CGtt, ↓CGtf, ↓CGft, ↓CGff, ↓IGtt, ↓IGtf, ↓IGft, ↓IGff, ↓PKt, ↓PKf, ↓CDt, ↓CDf, ↓NOTt, ↓NOTf, ↓NK_ptr, ↓GTt hkc.2]
        refine adv2 hF10.pw (by omega) fun x2 x3 x4 x6 w11 h11 hm11 hz11 => ?_
        have hF11 := hF10.cur hm11 h11
        refine hF11.fst (off := 0) ⟨8, 0, 0, bs [], 0, nl, [], nl, [], nl, [], _, _⟩ (by kernel_rfl) (by kernel_rfl) rfl (by omega) rfl ⟨rfl, rfl⟩ ⟨rfl, rfl⟩ ⟨rfl, rfl⟩ fun x w12 hF12 => ?_
        obtain ⟨k0, k1, k2, k3, k4⟩ := tk_fo hF12.h3
        simp only [↓k1.e]
        refine CK_st Tryd.func70 rfl rfl (Call_ok _ w12) ?_
        rintro _ w13 ⟨rfl, hm13⟩
        have hF13 := hF12.mod0 hm13
        refine hF13.fst (off := 1) ⟨8, callK (tkAt l a).text, 0, bs [], 0, nl, [], nl, [], nl, [], _, _⟩ (by kernel_rfl) (by kernel_rfl) rfl (by omega) rfl ⟨rfl, rfl⟩ ⟨rfl, rfl⟩ ⟨rfl, rfl⟩ fun x w14 hF14 => ?_
        refine ldS (cs := (St.mk 8 (callK (tkAt l a).text) 0 (bs []) 0 nl [] nl [] nl [] (tkAt l a).line (tkAt l a).col).cells.toArray) rfl Tryd.underlying25 rfl iSt hF14.h4 ?_
        refine CK_st Tryd.func71 rfl rfl (call_ok hG (s := ⟨8, callK (tkAt l a).text, 0, bs [], 0, nl, [], nl, [], nl, [], _, _⟩) hc rfl rfl rfl rfl hF14.pw) ?_
        rintro _ w15 ⟨v', xs, rfl, hxs, hO15, h15, hm15⟩
        have hF15 := hF14.cur hm15 h15
        have hlt := hF14.ltw
        refine stS (old := (St.mk 8 (callK (tkAt l a).text) 0 (bs []) 0 nl [] nl [] nl [] (tkAt l a).line (tkAt l a).col).cells.toArray) (cs := (St.mk 8 (callK (tkAt l a).text) 0 (bs []) 0 v' xs nl [] nl [] (tkAt l a).line (tkAt l a).col).cells.toArray) rfl rfl iSt rfl (st_cells_one (owns_slice hO15.row) rfl rfl) hF15.h4 fun w16 h16 hm16 hz16 => ?_
        have hF16 : FrS lv l c w w16 w.heap.size b3 b4 (tkAt l a) (St.mk 8 (callK (tkAt l a).text) 0 (bs []) 0 v' xs nl [] nl [] (tkAt l a).line (tkAt l a).col) a3 := hF15.put hm16 h16 ((hO15.off hm16 fun k q => by omega).low (by omega)) (hF15.bd.off hm16 fun k q => by omega) ⟨rfl, rfl⟩
        refine hF16.done hG hm2' (pe := ⟨8, callK (tkAt l a).text, 0, bs [], 0, nl, es, nl, [], nl, [], (tkAt l a).line, (tkAt l a).col⟩) (by rw [St.er_eq]; simp only [List.map_nil, hxs]; rfl) (stF (by decide) (u8_wf hrng.1 (by omega)) (by decide) (by decide) (by decide) tf3 tf4) ?_ ?_ ?_
        · rfl
        · rfl
        · rfl
end
end Go.Proofs.YtpkfbaagpjdifaaDoor.Tr
set_option linter.unusedVariables false
set_option linter.unusedSimpArgs false
set_option maxRecDepth 4000
namespace Go.Proofs.YtpkfbaagpjdifaaDoor.Tr
open Go Go.X Go.RowKit Go.Proofs.YtpkfbaagpjdifaaDoor.XD Go.Proofs.YtpkfbaagpjdifaaDoor.XK
section
variable {lv : Value} {l : List Tk} {c : Nat}
theorem block_step (hG : Good l) {n : Nat} (hn : n ≤ 1000) (hS : ∀ m, m ≤ n → StmtC lv l c m) : BlockC lv l c (n + 1) := by
  intro a r hr w hw
  rw [blockP] at hr
  cases hn1 : needP l a [123] with
  | none => rw [hn1] at hr; cases hr
  | some a1 =>
  rw [hn1] at hr
  dsimp only at hr
  obtain ⟨hm1, rfl⟩ := need_some hn1
  have hcw : c < w.heap.size := blk_lt hw.cur
  refine dispatcherref02_cursor_block_calls ?_
  unfold dispatcherref02_cursor_block_F
  refine CK_st Tryd.func41 rfl rfl (need_ok (s := [123]) hw hG hm1) ?_
  rintro _ w1 ⟨h1, hmm1⟩
  have hwl := hG.len
  refine W_loopG dispatcherref02_cursor_block_L0_ok (fun m ρ w' => ∃ (xs : List St) (a5 : Nat), m ≤ n ∧ xs.length + m ≤ n ∧ stmtsP l m (xs.map St.er) a5 = some r ∧ ρ 0 = pq c ∧ StsOwn w' w.heap.size (ρ 3) xs ∧ PW w' lv l c a5 ∧ Mod (fun i => i = c) w w') n
    ⟨[], a + 1, Nat.le_refl n, by simp, hr, rfl, StsOwn.nil _ _, h1, hmm1⟩ ?_
  rintro m ρ w2 ⟨xs, a5, hmn, hxn, hss, q0, hO, hp, hm⟩
  cases m with
  | zero => simp [stmtsP] at hss
  | succ m =>
  rw [stmtsP] at hss
  rw [dispatcherref02_cursor_block_L0_eq]
  unfold dispatcherref02_cursor_block_L0_F
  rw [q0]
  refine CK_st Tryd.func42 rfl rfl (good_ok hp) ?_
  rintro _ w3 ⟨rfl, rfl⟩
  simp only [↓VG_u, ↓UG_u, ↓MG_u, ↓NG_u, ↓PG_u, ↓BG_u, ↓CG_u, ↓IG_u, ↓VGtt, ↓VGtf, ↓VGft, ↓VGff, ↓UGtt, ↓UGtf, ↓UGft, ↓UGff, ↓MGtt, ↓MGtf, ↓MGft, ↓MGff, ↓NGtt, ↓NGtf, ↓NGft, ↓NGff, ↓PGtt, ↓PGtf, ↓PGft, ↓PGff, ↓BGtt, ↓BGtf, ↓BGft, ↓BGff, ↓CGtt, ↓CGtf, ↓CGft, ↓CGff, ↓IGtt, ↓IGtf, ↓IGft, ↓IGff, ↓PKt, ↓PKf, ↓CDt, ↓CDf, ↓NOTt, ↓NOTf, ↓NK_ptr]
  refine CK_st Tryd.func37 rfl rfl (may_ok hp hG [125]) ?_
  rintro _ w4 ⟨rfl, h4, hm4⟩
  have hO4 := hO.ne hm4 hp.cur (by decide) (by decide)
  have hm04 := hm.trans hm4
  cases hmy : mayP l a5 [125] with
  | true =>
    rw [hmy] at h4 hss
    simp only [if_true] at h4 hss
    cases hss
    simp only [↓VG_u, ↓UG_u, ↓MG_u, ↓NG_u, ↓PG_u, ↓BG_u, ↓CG_u, ↓IG_u, ↓VGtt, ↓VGtf, ↓VGft, ↓VGff, ↓UGtt, ↓UGtf, ↓UGft, ↓UGff, ↓MGtt, ↓MGtf, ↓MGft, ↓MGff, ↓NGtt, ↓NGtf, ↓NGft, ↓NGff, ↓PGtt, ↓PGtf, ↓PGft, ↓PGff, ↓BGtt, ↓BGtf, ↓BGft, ↓BGff, ↓CGtt, ↓CGtf, ↓CGft, ↓CGff, ↓IGtt, ↓IGtf, ↓IGft, ↓IGff, ↓PKt, ↓PKf, ↓CDt, ↓CDf, ↓NOTt, ↓NOTf, ↓NK_ptr]
    rw [sq_x, bk_x, sq_n, dispatcherref02_cursor_block_R1_eq]
    unfold dispatcherref02_cursor_block_R1_F
    exact ⟨xs, hO4, rfl, h4, hm04⟩
  | false =>
    rw [hmy] at h4 hss
    simp only [Bool.false_eq_true, if_false] at h4 hss
    cases hst : stmtP l m a5 with
    | none => rw [hst] at hss; cases hss
    | some q =>
    obtain ⟨ps, a6⟩ := q
    rw [hst] at hss
    dsimp only at hss
    simp only [↓VG_u, ↓UG_u, ↓MG_u, ↓NG_u, ↓PG_u, ↓BG_u, ↓CG_u, ↓IG_u, ↓VGtt, ↓VGtf, ↓VGft, ↓VGff, ↓UGtt, ↓UGtf, ↓UGft, ↓UGff, ↓MGtt, ↓MGtf, ↓MGft, ↓MGff, ↓NGtt, ↓NGtf, ↓NGft, ↓NGff, ↓PGtt, ↓PGtf, ↓PGft, ↓PGff, ↓BGtt, ↓BGtf, ↓BGft, ↓BGff, ↓CGtt, ↓CGtf, ↓CGft, ↓CGff, ↓IGtt, ↓IGtf, ↓IGft, ↓IGff, ↓PKt, ↓PKf, ↓CDt, ↓CDf, ↓NOTt, ↓NOTf, ↓NK_ptr]
    refine CK_st Tryd.func43 rfl rfl (hS m (by omega) a5 _ hst _ h4) ?_
    rintro _ w5 ⟨e, rfl, hg, h5, hm5⟩
    have hO5 := hO4.ne hm5 h4.cur (by decide) (by decide)
    have hs4 := hm04.size
    have hs5 := hm5.size
    have hm05 := hm04.trans hm5
    refine snocSt hO5 hg.own (hg.in_.mono fun k hk => ⟨by omega, fun q => by have := owns_lt hO4.row q.symm; omega⟩) (by omega) (by omega) fun y v' w6 hO6 hm6 _ => ?_
    have hrow : ∀ k, (ρ 3).ownBlock = some k → k ≠ c := fun k hk q => owns_ne_blk hO5.row h5.cur (by decide) (by rw [hk, q])
    have htk : ∀ k, lv.ownBlock = some k → some k ≠ (ρ 3).ownBlock := fun k hk q => owns_ne h5.toks hO5.row (by decide) k hk q
    refine ⟨m, Nat.lt_succ_self m, xs ++ [e], a6, by omega, by rw [List.length_append]; simp; omega, ?_, q0, hO6, h5.off2 hm6 (fun q => hrow c q.symm rfl) (fun k hk q => htk k hk q), hm05.then hm6 fun i hi q => ?_⟩
    · rw [List.map_append, List.map_singleton, hg.er]; exact hss
    · have := owns_low hO5.row q.symm
      omega
theorem stmtC_all (hG : Good l) : ∀ n, n ≤ 1000 → StmtC lv l c n ∧ BlockC lv l c n := by
  intro n
  induction n using Nat.strongRecOn with
  | ind n ih =>
    intro hn
    cases n with
    | zero => exact ⟨fun a r h => by simp [stmtP] at h, fun a r h => by simp [blockP] at h⟩
    | succ n => exact ⟨stmt_step hG (ih n (by omega) (by omega)).2, block_step hG (by omega) (fun m hm => (ih m (by omega) (by omega)).1)⟩
theorem stmt_ok (hG : Good l) (n : Nat) (hn : n ≤ 1000) : StmtC lv l c n := (stmtC_all hG n hn).1
end
end Go.Proofs.YtpkfbaagpjdifaaDoor.Tr
set_option linter.unusedVariables false
set_option linter.unusedSimpArgs false
set_option maxRecDepth 4000
namespace Go.Proofs.YtpkfbaagpjdifaaDoor.Tr
open Go Go.X Go.RowKit Go.Proofs.YtpkfbaagpjdifaaDoor.XD Go.Proofs.YtpkfbaagpjdifaaDoor.XK
abbrev tD : TypeId := 43
abbrev tP : TypeId := 34
abbrev tW : TypeId := 54
def zPc : Array Value := #[.slice none 0 0, .slice none 0 0]
def zWc : Array Value := #[.int .i64 0, .int .i64 0, .int .i64 0]
theorem zWr' : (Tryd.prog.info? 54).bind (·.zero) = some (.agg zWc) := by kernel_rfl
theorem iWr' : (Tryd.prog.info? 54).map (·.size) = some 3 := by kernel_rfl
structure DsOwn (w : World) (base : Nat) (v : Value) (l : List De) : Prop where
  row : w.ownsRow base tD 4 v l.length (l.flatMap De.cells)
  fine : ∀ a ∈ l, a.fine
theorem DsOwn.mod {S : Nat → Prop} {w w' : World} {base : Nat} {v : Value} {l : List De} (h : DsOwn w base v l) (hm : Mod S w w') (hS : ∀ k, v.ownBlock = some k → ¬ S k) : DsOwn w' base v l := ⟨owns_mod h.row hm hS, h.fine⟩
section
variable {lv : Value} {l : List Tk}
structure FrP (lv : Value) (l : List Tk) (c : Nat) (w0 w : World) (b2 b3 b5 : Nat) (p : Pr) (a : Nat) : Prop where
  h2 : w.heap[b2]? = some (.cells zPc tP (0, 0))
  h3 : w.heap[b3]? = some (.cells zWc tW (0, 0))
  h5 : w.heap[b5]? = some (.cells p.cells.toArray tP (0, 0))
  pw : PW w lv l c a
  m : Mod none_ w0 w
  lo : w0.heap.size ≤ b2 ∧ b2 < b3 ∧ b3 < c ∧ c < b5 ∧ ∀ g, lv.ownBlock = some g → g < w0.heap.size
  d : DsOwn w (b5 + 1) p.ds p.decls
  b : StsOwn w (b5 + 1) p.bs p.body
variable {c : Nat} {w0 w w' : World} {b2 b3 b5 : Nat} {p : Pr} {a : Nat}
theorem FrP.ltw (h : FrP lv l c w0 w b2 b3 b5 p a) : b5 < w.heap.size := blk_lt h.h5
theorem FrP.cur (h : FrP lv l c w0 w b2 b3 b5 p a) {a' : Nat} (hm : Mod (fun i => i = c) w w') (hp : PW w' lv l c a') : FrP lv l c w0 w' b2 b3 b5 p a' := by
  have := h.lo
  exact ⟨hm.blk h.h2 (by omega), hm.blk h.h3 (by omega), hm.blk h.h5 (by omega), hp, h.m.then hm fun i hi q => by omega, h.lo, h.d.mod hm (fun k hk q => by have := owns_low h.d.row hk; omega), h.b.off hm fun k q => by omega⟩
theorem FrP.mod0 (h : FrP lv l c w0 w b2 b3 b5 p a) (hm : Mod none_ w w') : FrP lv l c w0 w' b2 b3 b5 p a := h.cur (up1 hm) (h.pw.mod0 hm)
theorem FrP.fresh (h : FrP lv l c w0 w b2 b3 b5 p a) {b : Nat} (hm : Mod (fun i => i = b) w w') (hb : b5 < b) (hd : p.ds.ownBlock ≠ some b) (hB : ∀ k, p.bs.ownBlock = some k → k ≠ b) (hB2 : ∀ z ∈ p.body, z.In fun k => k ≠ b) : FrP lv l c w0 w' b2 b3 b5 p a := by
  have := h.lo
  refine ⟨hm.blk h.h2 (by omega), hm.blk h.h3 (by omega), hm.blk h.h5 (by omega), h.pw.off hm fun k q => ⟨by omega, fun g hg => by have := h.lo.2.2.2.2 g hg; omega⟩, h.m.then hm fun i hi q => by omega, h.lo, h.d.mod hm (fun k hk q => hd (by rw [hk, q])), ⟨owns_mod h.b.row hm (fun k hk q => hB k hk q), fun z hz => (h.b.own z hz).mod hm ((hB2 z hz).mono fun k hk q => hk q), h.b.at_⟩⟩
theorem FrP.addS (h : FrP lv l c w0 w b2 b3 b5 p a) (hG : Good l) {n a' : Nat} {ps : St} (hn : n ≤ 1000) (hst : stmtP l n a = some (ps, a')) (hlen : p.body.length < 1099511627776) {K1 K2 K3 : Value → Value → Value → Value → Value → Value → World → Prop}
    (hK : ∀ (w' : World) (x : St) (v' : Value), FrP lv l c w0 w' b2 b3 b5 ⟨p.ds, p.decls, v', p.body ++ [x]⟩ a' → x.er = ps → ∀ x1 x2 x3 x4 x5 x6, K1 x1 x2 x3 x4 x5 x6 w' ∧ K2 x1 x2 x3 x4 x5 x6 w' ∧ K3 x1 x2 x3 x4 x5 x6 w') :
    HK Tryd.prog (fun _ => True) (do pure (Next.value (← Instr.fieldAt 34 (pq b5) 1))) fun x26 => (VK Tryd.prog (Instr.loadAt 23 x26) w fun x27 w => True ∧ (CK Tryd.prog (.func (.func 43) #[] #[]) [pq c] w fun x29 w => True ∧ (VK Tryd.prog (Instr.buildSlice 23 1 [(0, x29)].toArray) w fun x30 w => True ∧ (IK Tryd.prog .append #[23, 23] 23 [false, false] [x27, x30] w fun x31 w => True ∧ (HK Tryd.prog (fun _ => True) (do pure (Next.value (← Instr.fieldAt 34 (pq b5) 1))) fun x32 => UK Tryd.prog (Instr.storeAt 23 x32 x31) w fun _ w => True ∧ K1 x26 x27 x29 x30 x31 x32 w))))) ∧
      (CK Tryd.prog (.func (.func 43) #[] #[]) [pq c] w fun x29 w => True ∧ ((VK Tryd.prog (Instr.loadAt 23 x26) w fun x27 w => True ∧ (VK Tryd.prog (Instr.buildSlice 23 1 [(0, x29)].toArray) w fun x30 w => True ∧ (IK Tryd.prog .append #[23, 23] 23 [false, false] [x27, x30] w fun x31 w => True ∧ (HK Tryd.prog (fun _ => True) (do pure (Next.value (← Instr.fieldAt 34 (pq b5) 1))) fun x32 => UK Tryd.prog (Instr.storeAt 23 x32 x31) w fun _ w => True ∧ K2 x26 x27 x29 x30 x31 x32 w)))) ∧
        (VK Tryd.prog (Instr.buildSlice 23 1 [(0, x29)].toArray) w fun x30 w => True ∧ (VK Tryd.prog (Instr.loadAt 23 x26) w fun x27 w => True ∧ (IK Tryd.prog .append #[23, 23] 23 [false, false] [x27, x30] w fun x31 w => True ∧ (HK Tryd.prog (fun _ => True) (do pure (Next.value (← Instr.fieldAt 34 (pq b5) 1))) fun x32 => UK Tryd.prog (Instr.storeAt 23 x32 x31) w fun _ w => True ∧ K3 x26 x27 x29 x30 x31 x32 w)))))) := by
  have lo := h.lo
  have hltw := h.ltw
  refine HV_of (fun w' _ => run_fo (off := 1) (by kernel_rfl) _ w') ?_
  have ld : ∀ {w' : World} {K : Value → World → Prop}, w'.heap[b5]? = some (.cells p.cells.toArray tP (0, 0)) → K p.bs w' → VK Tryd.prog (Instr.loadAt 23 (.pointer (some ((⟨b5, 0, none⟩ : Addr).add 1)))) w' K := fun h hk => ld1 uSts rfl (by rw [add_pl, cell_blk h]; rfl) hk
  have ex : ∀ {w' : World} (hm : Mod none_ w w') {K : Value → World → Prop}, (∀ (w2 : World) (x : St), x.er = ps → x.Own w2 tE tS → (x.In fun k => w'.heap.size ≤ k) → FrP lv l c w0 w2 b2 b3 b5 p a' → w'.heap.size ≤ w2.heap.size → K (.agg x.cells.toArray) w2) → CK Tryd.prog (.func (.func 43) #[] #[]) [pq c] w' K := by
    intro w' hm K hk
    refine CK_st Tryd.func43 rfl rfl (stmt_ok hG n hn a _ hst w' (h.pw.mod0 hm)) ?_
    rintro _ w2 ⟨x, rfl, hg, h2, hm2⟩
    exact hk _ _ hg.er hg.own hg.in_ ((h.mod0 hm).cur hm2 h2) hm2.size
  have tail : ∀ {w2 w3 : World} {x : St} {y : Value} {K : Value → Value → World → Prop}, FrP lv l c w0 w2 b2 b3 b5 p a' → w.heap.size ≤ w2.heap.size → Mod none_ w2 w3 → x.er = ps → x.Own w2 tE tS → (x.In fun k => w.heap.size ≤ k ∧ k < w2.heap.size) → reads w3 10 y 1 x.cells → (∀ k, p.bs.ownBlock = some k → k < w.heap.size) →
      (∀ v' w', FrP lv l c w0 w' b2 b3 b5 ⟨p.ds, p.decls, v', p.body ++ [x]⟩ a' → ∀ u, K v' u w') →
      IK Tryd.prog .append #[23, 23] 23 [false, false] [p.bs, y] w3 fun x31 w => True ∧ (HK Tryd.prog (fun _ => True) (do pure (Next.value (← Instr.fieldAt 34 (pq b5) 1))) fun x32 => UK Tryd.prog (Instr.storeAt 23 x32 x31) w fun _ w => True ∧ K x31 x32 w) := by
    intro w2 w3 x y K hF2 hs2 hm23 her hox hix hy hbs hk
    have hF3 := hF2.mod0 hm23
    have hs3 := hm23.size
    refine appSt (m := [x]) hF3.b (by simpa using hy) (by simp) ?_ (by simp; omega) (by omega) fun v' w4 hO4 hm4 hg4 => ⟨trivial, HV_of (fun w' _ => run_fo (off := 1) (by kernel_rfl) _ w') ?_⟩
    · intro z hz
      rw [List.mem_singleton.1 hz]
      exact ⟨hox.mod0 hm23, hix.mono fun k hk => ⟨by omega, fun q => by have := hbs k q.symm; omega⟩⟩
    · have hrow : ∀ k, p.bs.ownBlock = some k → b5 + 1 ≤ k := fun k hk => owns_low hF3.b.row hk
      have hno : ∀ k, k ≤ b5 → ¬ some k = p.bs.ownBlock := fun k hk q => by have := hrow k q.symm; omega
      have hb4 := hm4.blk hF3.h5 (hno b5 (Nat.le_refl _))
      refine stC (b := b5) (o := 0 + 1) (by rw [add_pl]) (by kernel_rfl) (owns_slice hO4.row) hb4 (by simp [Pr.cells]) fun w5 hb5 hm5 hz5 => ⟨trivial, ?_⟩
      have hcs : p.cells.toArray.setIfInBounds (0 + 1) v' = (Pr.cells ⟨p.ds, p.decls, v', p.body ++ [x]⟩).toArray := rfl
      rw [hcs] at hb5
      have hds : ∀ k, p.ds.ownBlock = some k → ¬ some k = p.bs.ownBlock := fun k hk q => owns_ne hF3.d.row hF3.b.row (by decide) k hk q
      refine hk v' w5 ⟨hm5.blk (hm4.blk hF3.h2 (hno _ (by omega))) (by omega), hm5.blk (hm4.blk hF3.h3 (hno _ (by omega))) (by omega), hb5, ?_, ?_, lo, ?_, ?_⟩ _
      · refine (hF3.pw.off2 hm4 (hno _ (by omega)) fun k hk q => ?_).off hm5 fun k q => ⟨by omega, fun g hg => by have := lo.2.2.2.2 g hg; omega⟩
        exact owns_ne hF3.pw.toks hF3.b.row (by decide) k hk q
      · exact (hF3.m.then hm4 fun i hi q => by have := hrow i q.symm; omega).then hm5 fun i hi q => by omega
      · exact (hF3.d.mod hm4 hds).mod hm5 fun k hk q => by have := owns_low hF3.d.row hk; omega
      · exact hO4.off hm5 fun k q => by omega
  have hbs : ∀ k, p.bs.ownBlock = some k → k < w.heap.size := fun k hk => owns_lt h.b.row hk
  have rd : ∀ {w2 w3 : World} {x : St}, w3.heap[w2.heap.size]? = some (.cells x.cells.toArray (Tryd.prog.elem 23) (0, 0)) → reads w3 10 (.slice (some ⟨w2.heap.size, 0, none⟩) 1 1) 1 x.cells := fun h => by simpa using reads_blk (size := 10) (n := 1) h rfl
  constructor
  · refine ld h.h5 ⟨trivial, ?_⟩
    refine ex (Mod.refl _ w) fun w2 x her hox hix hF2 hs2 => ⟨trivial, ?_⟩
    refine bs_k (cs := x.cells.toArray) (by kernel_rfl) fun w3 h3 hm3 hz3 => ⟨trivial, ?_⟩
    exact tail hF2 hs2 hm3 her hox (hix.and hox.lt) (rd h3) hbs fun v' w' hF' u => (hK w' x v' hF' her _ _ _ _ _ _).1
  · refine ex (Mod.refl _ w) fun w2 x her hox hix hF2 hs2 => ⟨trivial, ?_⟩
    constructor
    · refine ld hF2.h5 ⟨trivial, ?_⟩
      refine bs_k (cs := x.cells.toArray) (by kernel_rfl) fun w3 h3 hm3 hz3 => ⟨trivial, ?_⟩
      exact tail hF2 hs2 hm3 her hox (hix.and hox.lt) (rd h3) hbs fun v' w' hF' u => (hK w' x v' hF' her _ _ _ _ _ _).2.1
    · refine bs_k (cs := x.cells.toArray) (by kernel_rfl) fun w3 h3 hm3 hz3 => ⟨trivial, ?_⟩
      refine ld (hF2.mod0 hm3).h5 ⟨trivial, ?_⟩
      exact tail hF2 hs2 hm3 her hox (hix.and hox.lt) (rd h3) hbs fun v' w' hF' u => (hK w' x v' hF' her _ _ _ _ _ _).2.2
end
end Go.Proofs.YtpkfbaagpjdifaaDoor.Tr
set_option linter.unusedVariables false
set_option linter.unusedSimpArgs false
set_option maxRecDepth 4000
namespace Go.Proofs.YtpkfbaagpjdifaaDoor.Tr
open Go Go.X Go.RowKit Go.Proofs.YtpkfbaagpjdifaaDoor.XD Go.Proofs.YtpkfbaagpjdifaaDoor.XK
section
variable {lv : Value} {l : List Tk} {c : Nat} {w0 w w' : World} {b2 b3 b5 : Nat} {p : Pr} {a : Nat}
theorem bDe (s : Bs) (x y : Int) : Tryd.prog.built 43 [(0, txt s), (2, .int .i64 x), (3, .int .i64 y)] = some (De.mk (bs s) 0 x y).cells.toArray := by kernel_rfl
theorem deFine (s : Bs) (x y : Int) (h1 : (bs s).size ≤ maxLen) (h2 : (Lit.int .i64 x).wf = true) (h3 : (Lit.int .i64 y).wf = true) : (De.mk (bs s) 0 x y).fine := ⟨h1, (by decide : (Lit.int .i64 0).wf = true), h2, h3⟩
theorem zDe' : (Tryd.prog.info? 43).bind (·.zero) = some (.agg (De.mk (bs []) 0 0 0).cells.toArray) := by kernel_rfl
theorem decl_end (h : FrP lv l c w0 w b2 b3 b5 p a) (hG : Good l) (hs : mayP l a [59] = true) {b7 : Nat} {d : De} (hd : w.heap[b7]? = some (.cells d.cells.toArray tD (0, 0))) (hf : d.fine) (hb7 : b5 < b7) (hrow : ∀ k, p.ds.ownBlock = some k → k ≠ b7) (hlen : p.decls.length < 1000000) {ρ : Sl} (q4 : ρ 4 = pq c) (q5 : ρ 5 = pq b5) (q7 : ρ 7 = pq b7) {K : Exit → Sl → World → Prop}
    (hK : ∀ w' v' ρ', FrP lv l c w0 w' b2 b3 b5 ⟨v', p.decls ++ [d], p.bs, p.body⟩ (a + 1) → ρ' 0 = ρ 0 → ρ' 4 = pq c → ρ' 5 = pq b5 → ρ' 2 = ρ 2 → ρ' 3 = ρ 3 → K .normal ρ' w') : sx fn_ Tryd.prog 105 dispatcherref02_Parse_R6 K ρ w := by
  have lo := h.lo
  rw [dispatcherref02_Parse_R6_eq]
  unfold dispatcherref02_Parse_R6_F
  rw [q4, q5, q7]
  refine CK_st Tryd.func41 rfl rfl (need_ok (s := [59]) h.pw hG hs) ?_
  rintro _ w1 ⟨h1, hm1⟩
  have hF1 := h.cur hm1 h1
  have hd1 := hm1.blk hd (by omega)
  have f0 : FO Tryd.prog w1 34 0 0 ⟨b5, 0, none⟩ 32 p.ds := FO.blk hF1.h5 (by kernel_rfl) uDes rfl rfl
  simp only [↓f0.e]
  refine ldS (cs := d.cells.toArray) rfl Tryd.underlying43 rfl iDe hd1 ?_
  have hltw := hF1.ltw
  refine snoc (cs := d.cells.toArray) eDes hF1.d.row (by kernel_rfl) rfl (by intro u hu; have := de_one d; rw [Array.all_eq_true_iff_forall_mem] at this; exact this u (by simpa using hu)) (by unfold maxLen; omega) (by omega) (by omega) fun y v' w2 ho2 hm2 _ => ?_
  have hlow : ∀ k, p.ds.ownBlock = some k → b5 + 1 ≤ k := fun k hk => owns_low hF1.d.row hk
  have hno : ∀ k, k ≤ b5 → ¬ some k = p.ds.ownBlock := fun k hk q => by have := hlow k q.symm; omega
  refine fst_k (off := 0) (by kernel_rfl) (by kernel_rfl) (owns_slice ho2) (hm2.blk hF1.h5 (hno _ (Nat.le_refl _))) (by simp [Pr.cells]) (cs' := (Pr.cells ⟨v', p.decls ++ [d], p.bs, p.body⟩).toArray) rfl fun x w3 h3 hm3 hz3 => ?_
  have hdrow : w2.ownsRow (b5 + 1) tD 4 v' (p.decls ++ [d]).length ((p.decls ++ [d]).flatMap De.cells) := by
    rw [List.length_append, List.flatMap_append]; simpa using ho2
  have hbd : ∀ k, p.bs.ownBlock = some k → ¬ some k = p.ds.ownBlock := fun k hk q => owns_ne hF1.b.row hF1.d.row (by decide) k hk q
  have hbd2 : ∀ z ∈ p.body, z.In fun k => ¬ some k = p.ds.ownBlock := by
    intro z hz
    cases hq : p.ds.ownBlock with
    | none => exact (hF1.b.own z hz).lt.mono fun k _ q => by cases q
    | some g =>
      obtain ⟨cur, hcur⟩ := owns_blk hF1.d.row hq
      exact ((hF1.b.own z hz).ne hcur (by decide) (by decide)).mono fun k hk q => hk (by injection q)
  refine hK w3 v' _ ⟨hm3.blk (hm2.blk hF1.h2 (hno _ (by omega))) (by omega), hm3.blk (hm2.blk hF1.h3 (hno _ (by omega))) (by omega), h3, ?_, ?_, lo, ?_, ?_⟩ ?_ ?_ ?_ ?_ ?_
  · refine (hF1.pw.off2 hm2 (hno _ (by omega)) fun k hk q => ?_).off hm3 fun k q => ⟨by omega, fun g hg => by have := lo.2.2.2.2 g hg; omega⟩
    exact owns_ne hF1.pw.toks hF1.d.row (by decide) k hk q
  · exact (hF1.m.then hm2 fun i hi q => by have := hlow i q.symm; omega).then hm3 fun i hi q => by omega
  · refine DsOwn.mod (w := w2) ⟨hdrow, fun z hz => ?_⟩ hm3 fun k hk q => by have := owns_low hdrow hk; omega
    rcases List.mem_append.1 hz with hz | hz
    · exact hF1.d.fine z hz
    · rw [List.mem_singleton.1 hz]; exact hf
  · have hB2 : StsOwn w2 (b5 + 1) p.bs p.body := ⟨owns_mod hF1.b.row hm2 hbd, fun z hz => (hF1.b.own z hz).mod hm2 (hbd2 z hz), hF1.b.at_⟩
    exact hB2.off hm3 fun k q => by omega
  · rfl
  · exact q4
  · exact q5
  · rfl
  · rfl
theorem decl_mid (h : FrP lv l c w0 w b2 b3 b5 p a) (hG : Good l) {m : Nat} {name : Bs} {ln cl : Int} {r : List De × Nat}
    (hr : (if mayP l a [91] then (if (tkAt l (a + 1)).kind = 2 ∧ 1 ≤ (tkAt l (a + 1)).num ∧ (tkAt l (a + 1)).num ≤ 1000 then (match needP l (a + 2) [93] with | none => none | some a1 => match needP l a1 [59] with | none => none | some a2 => declsP l m (p.decls ++ [⟨bs name, (tkAt l (a1 - 2)).num, ln, cl⟩]) a2) else none) else (match needP l a [59] with | none => none | some a1 => declsP l m (p.decls ++ [⟨bs name, 0, ln, cl⟩]) a1)) = some r)
    {b7 : Nat} (hd : w.heap[b7]? = some (.cells (De.mk (bs name) 0 ln cl).cells.toArray tD (0, 0))) (hf : (De.mk (bs name) 0 ln cl).fine) (hb7 : b5 < b7) (hrow : ∀ k, p.ds.ownBlock = some k → k ≠ b7) (hbs : p.bs = nl) (hbd : p.body = []) (hlen : p.decls.length < 1000000) {ρ : Sl} (q4 : ρ 4 = pq c) (q5 : ρ 5 = pq b5) (q7 : ρ 7 = pq b7) {K : Exit → Sl → World → Prop}
    (hK : ∀ w' v' d a' ρ', declsP l m (p.decls ++ [d]) a' = some r → FrP lv l c w0 w' b2 b3 b5 ⟨v', p.decls ++ [d], p.bs, p.body⟩ a' → ρ' 0 = ρ 0 → ρ' 4 = pq c → ρ' 5 = pq b5 → ρ' 2 = ρ 2 → ρ' 3 = ρ 3 → K .normal ρ' w') : sx fn_ Tryd.prog 105 dispatcherref02_Parse_R3 (blkK 1 K) ρ w := by
  have lo := h.lo
  rw [dispatcherref02_Parse_R3_eq]
  unfold dispatcherref02_Parse_R3_F
  rw [q4, q7]
  refine CK_st Tryd.func37 rfl rfl (may_ok h.pw hG [91]) ?_
  rintro _ w1 ⟨rfl, h1, hm1⟩
  cases hmy : mayP l a [91] with
  | true =>
    rw [hmy] at h1 hr
    simp only [if_true] at h1 hr
    split at hr
    rotate_left
    · cases hr
    rename_i hnum
    cases hn1 : needP l (a + 2) [93] with
    | none => rw [hn1] at hr; cases hr
    | some a1 =>
    rw [hn1] at hr
    dsimp only at hr
    obtain ⟨hm1', rfl⟩ := need_some hn1
    cases hn2 : needP l (a + 2 + 1) [59] with
    | none => rw [hn2] at hr; cases hr
    | some a2 =>
    rw [hn2] at hr
    dsimp only at hr
    obtain ⟨hm2', rfl⟩ := need_some hn2
    rw [show a + 2 + 1 - 2 = a + 1 by omega] at hr
    have hF1 := h.cur hm1 h1
    have hd1 := hm1.blk hd (by omega)
    refine condT ?_
    refine CK_st Tryd.func40 rfl rfl (number_ok hF1.pw hG hnum.1 hnum.2.1 hnum.2.2) ?_
    rintro _ w2 ⟨rfl, h2, hm2⟩
    have hF2 := hF1.cur hm2 h2
    refine fst_k (off := 1) (by kernel_rfl) (by kernel_rfl) rfl (hm2.blk hd1 (by omega)) (by simp [De.cells]) (cs' := (De.mk (bs name) (tkAt l (a + 1)).num ln cl).cells.toArray) rfl fun x w3 h3 hm3 hz3 => ?_
    have hF3 := hF2.fresh hm3 hb7 (fun q => hrow b7 q rfl) (fun k hk => by rw [hbs] at hk; simp [nl, Value.ownBlock] at hk) (by rw [hbd]; simp)
    refine CK_st Tryd.func41 rfl rfl (need_ok (s := [93]) hF3.pw hG hm1') ?_
    rintro _ w4 ⟨h4, hm4⟩
    have hF4 := hF3.cur hm4 h4
    obtain ⟨_, vf2, _⟩ := tk_fine hG (a + 1)
    refine decl_end (d := De.mk (bs name) (tkAt l (a + 1)).num ln cl) hF4 hG hm2' (hm4.blk h3 (by omega)) ⟨hf.1, vf2, hf.2.2⟩ hb7 hrow hlen ?_ ?_ ?_ fun w' v' ρ' hF' p0 p4 p5 p2 p3 => ?_
    · exact q4
    · exact q5
    · exact q7
    · rw [bk_n]
      exact hK w' v' _ _ ρ' hr hF' p0 p4 p5 p2 p3
  | false =>
    rw [hmy] at h1 hr
    simp only [Bool.false_eq_true, if_false] at h1 hr
    cases hn1 : needP l a [59] with
    | none => rw [hn1] at hr; cases hr
    | some a1 =>
    rw [hn1] at hr
    dsimp only at hr
    obtain ⟨hm1', rfl⟩ := need_some hn1
    have hF1 := h.cur hm1 h1
    refine condF ?_
    refine decl_end (d := De.mk (bs name) 0 ln cl) hF1 hG hm1' (hm1.blk hd (by omega)) hf hb7 hrow hlen ?_ ?_ ?_ fun w' v' ρ' hF' p0 p4 p5 p2 p3 => ?_
    · exact q4
    · exact q5
    · exact q7
    · rw [bk_n]
      exact hK w' v' _ _ ρ' hr hF' p0 p4 p5 p2 p3
theorem len_tks {A : Option Addr} {n cp : Nat} (cs : List Bool) {w : World} {K : Value → World → Prop} : IK Tryd.prog .len #[49] 3 cs [.slice A n cp] w K = K (.int .i64 n) w := len_sl uTks cs A n cp
theorem hone (p : Pr) (h1 : p.ds.oneCell' = true) (h2 : p.bs.oneCell' = true) : p.cells.toArray.all (·.oneCell') = true := by simp [Pr.cells, h1, h2]
theorem bWrg : Tryd.prog.built tW [(0, .int .i64 20)] = some #[.int .i64 20, .int .i64 0, .int .i64 0] := by kernel_rfl
theorem bWrZ : Tryd.prog.built tW [] = some zWc := by kernel_rfl
theorem iPr' : (Tryd.prog.info? tP).map (·.size) = some 2 := by kernel_rfl
theorem parse_last (h : FrP lv l c w0 w b2 b3 b5 p a) (ha : l.length ≤ a) (hdp : St.deepAt p.body 1 ≤ 32) (hf : p.fits) {ρ : Sl} (q0 : ρ 0 = lv) (q4 : ρ 4 = pq c) (q5 : ρ 5 = pq b5) (q2 : ρ 2 = pq b2) (q3 : ρ 3 = pq b3) {A : Option Addr} {cp : Nat} (hlv : lv = .slice A l.length cp) {R : Value → World → Prop}
    (hR : ∀ w', PrOwn w' w0.heap.size p → Mod none_ w0 w' → R (.tuple #[.agg p.cells.toArray, .agg zWc]) w') : sx fn_ Tryd.prog 105 dispatcherref02_Parse_R5 (retK Tryd.prog [ResultVar.cell 2 tP, ResultVar.cell 3 tW] R) ρ w := by
  have lo := h.lo
  rw [dispatcherref02_Parse_R5_eqR]
  unfold dispatcherref02_Parse_R5_FR
  rw [q0, q2, q3, q4, q5, hlv, build_ok bWrg]
  refine lcl_k (cs := #[.int .i64 20, .int .i64 0, .int .i64 0]) zWr' _ iWr' rfl (by kernel_rfl) fun w1 hb1 hm1 hz1 => ?_
  have hF1 := h.mod0 hm1
  refine CK_st Tryd.func42 rfl rfl (good_ok hF1.pw) ?_
  rintro _ w2 ⟨rfl, rfl⟩
  obtain ⟨f0, f1, f2⟩ := cur_fo hF1.pw
  simp only [↓VG_u, ↓UG_u, ↓MG_u, ↓NG_u, ↓PG_u, ↓BG_u, ↓CG_u, ↓IG_u, ↓VGtt, ↓VGtf, ↓VGft, ↓VGff, ↓UGtt, ↓UGtf, ↓UGft, ↓UGff, ↓MGtt, ↓MGtf, ↓MGft, ↓MGff, ↓NGtt, ↓NGtf, ↓NGft, ↓NGff, ↓PGtt, ↓PGtf, ↓PGft, ↓PGff, ↓BGtt, ↓BGtf, ↓BGft, ↓BGff, ↓CGtt, ↓CGtf, ↓CGft, ↓CGff, ↓IGtt, ↓IGtf, ↓IGft, ↓IGff, ↓PKt, ↓PKf, ↓CDt, ↓CDf, ↓NOTt, ↓NOTf, ↓NK_ptr]
  refine CK_st Tryd.func42 rfl rfl (good_ok hF1.pw) ?_
  rintro _ w2 ⟨rfl, rfl⟩
  simp only [↓VG_u, ↓UG_u, ↓MG_u, ↓NG_u, ↓PG_u, ↓BG_u, ↓CG_u, ↓IG_u, ↓VGtt, ↓VGtf, ↓VGft, ↓VGff, ↓UGtt, ↓UGtf, ↓UGft, ↓UGff, ↓MGtt, ↓MGtf, ↓MGft, ↓MGff, ↓NGtt, ↓NGtf, ↓NGft, ↓NGff, ↓PGtt, ↓PGtf, ↓PGft, ↓PGff, ↓BGtt, ↓BGtf, ↓BGft, ↓BGff, ↓CGtt, ↓CGtf, ↓CGft, ↓CGff, ↓IGtt, ↓IGtf, ↓IGft, ↓IGff, ↓PKt, ↓PKf, ↓CDt, ↓CDf, ↓NOTt, ↓NOTf, ↓NK_ptr]
  refine ldS (cs := p.cells.toArray) rfl Tryd.underlying34 rfl iPr' hF1.h5 ?_
  have hO : PrOwn w2 (b5 + 1) p := ⟨hF1.d.row, hF1.d.fine, hF1.b⟩
  refine CK_st Tryd.func44 rfl rfl (DeepR_ok hO.ok hf) ?_
  rintro _ w3 ⟨rfl, hm3⟩
  have hF3 := hF1.mod0 hm3
  have hO3 := hO.mod0 hm3
  simp only [↓VG_u, ↓UG_u, ↓MG_u, ↓NG_u, ↓PG_u, ↓BG_u, ↓CG_u, ↓IG_u, ↓VGtt, ↓VGtf, ↓VGft, ↓VGff, ↓UGtt, ↓UGtf, ↓UGft, ↓UGff, ↓MGtt, ↓MGtf, ↓MGft, ↓MGff, ↓NGtt, ↓NGtf, ↓NGft, ↓NGff, ↓PGtt, ↓PGtf, ↓PGft, ↓PGff, ↓BGtt, ↓BGtf, ↓BGft, ↓BGff, ↓CGtt, ↓CGtf, ↓CGft, ↓CGff, ↓IGtt, ↓IGtf, ↓IGft, ↓IGff, ↓PKt, ↓PKf, ↓CDt, ↓CDf, ↓NOTt, ↓NOTf, ↓NK_ptr, ↓GTf (show ((St.deepAt p.body 1 : Nat) : Int) ≤ 32 by omega)]
  refine ldS (cs := p.cells.toArray) rfl Tryd.underlying34 rfl iPr' hF3.h5 ?_
  rw [build_ok bWrZ]
  refine stS (old := zPc) (cs := p.cells.toArray) rfl rfl iPr' rfl (hone _ (owns_slice hO3.d) (owns_slice hO3.b.row)) hF3.h2 fun w4 h4 hm4 hz4 => ?_
  refine stS (old := zWc) (cs := zWc) rfl rfl iWr' rfl (by kernel_rfl) (hm4.blk hF3.h3 (by omega)) fun w5 h5 hm5 hz5 => ?_
  refine rsCell (R := fun v w' => ∃ x3, (do loadVar tW (← asAddr (pq b3)) : Sem Value).run Tryd.prog w' = .ok x3 w' ∧ R (.tuple #[v, x3]) w') (cs := p.cells.toArray) rfl Tryd.underlying34 rfl iPr' (hm5.blk h4 (by omega)) ?_
  refine rsCell (R := fun x3 w' => R (.tuple #[.agg p.cells.toArray, x3]) w') (cs := zWc) rfl Tryd.underlying54 rfl iWr' h5 ?_
  refine hR _ ?_ ((hF3.m.then hm4 fun i hi q => by omega).then hm5 fun i hi q => by omega)
  have e1 : ∀ {S : Nat → Prop} {u u' : World}, PrOwn u (b5 + 1) p → Mod S u u' → (∀ k, S k → k < b5 + 1) → PrOwn u' (b5 + 1) p := fun hO hm hS => ⟨owns_mod hO.d hm fun k hk q => by have := owns_low hO.d hk; have := hS k q; omega, hO.f, hO.b.off hm hS⟩
  have hO5 := e1 (e1 hO3 hm4 fun k q => by omega) hm5 fun k q => by omega
  exact ⟨owns_base hO5.d (by omega), hO5.f, hO5.b.low (by omega)⟩
theorem parse_body (hG : Good l) {fuel : Nat} (hfu : fuel ≤ 1000) {ssF : List St} {v : Value} {ds : List De} (h : FrP lv l c w0 w b2 b3 b5 ⟨v, ds, nl, []⟩ a) (hbs : bodyP l fuel (l.length + 1) [] a = some ssF) (hdp : St.deepAt ssF 1 ≤ 32) (hf : Pr.fits ⟨nl, ds, nl, ssF⟩) {ρ : Sl} (q0 : ρ 0 = lv) (q4 : ρ 4 = pq c) (q5 : ρ 5 = pq b5) (q2 : ρ 2 = pq b2) (q3 : ρ 3 = pq b3) {A : Option Addr} {cp : Nat} (hlv : lv = .slice A l.length cp) {R : Value → World → Prop}
    (hR : ∀ w' q, Pr.er q = ⟨nl, ds, nl, ssF⟩ → PrOwn w' w0.heap.size q → Mod none_ w0 w' → R (.tuple #[.agg q.cells.toArray, .agg zWc]) w') : sx fn_ Tryd.prog 105 dispatcherref02_Parse_R1 (retK Tryd.prog [ResultVar.cell 2 tP, ResultVar.cell 3 tW] R) ρ w := by
  subst hlv
  have lo := h.lo
  have hwl := hG.len
  rw [dispatcherref02_Parse_R1_eq]
  unfold dispatcherref02_Parse_R1_F
  refine W_loopG dispatcherref02_Parse_L4_ok (fun m ρ w' => ∃ (v' : Value) (ss : List St) (a : Nat), bodyP l fuel m (ss.map St.er) a = some ssF ∧ ss.length + m ≤ l.length + 1 ∧ ρ 0 = .slice A l.length cp ∧ ρ 4 = pq c ∧ ρ 5 = pq b5 ∧ ρ 2 = pq b2 ∧ ρ 3 = pq b3 ∧ FrP (.slice A l.length cp) l c w0 w' b2 b3 b5 ⟨v, ds, v', ss⟩ a) (l.length + 1)
    ⟨nl, [], a, hbs, by simp, q0, q4, q5, q2, q3, h⟩ ?_
  rintro m ρ w5 ⟨v', ss, a, hbd, hlen, q0, q4, q5, q2, q3, hF5⟩
  cases m with
  | zero => simp [bodyP] at hbd
  | succ m =>
  rw [bodyP] at hbd
  rw [dispatcherref02_Parse_L4_eq]
  unfold dispatcherref02_Parse_L4_F
  rw [q0, q4]
  refine CK_st Tryd.func42 rfl rfl (good_ok hF5.pw) ?_
  rintro _ w6 ⟨rfl, rfl⟩
  obtain ⟨f0, f1, f2⟩ := cur_fo hF5.pw
  by_cases hlt : a < l.length
  · rw [if_pos hlt] at hbd
    cases hst : stmtP l fuel a with
    | none => rw [hst] at hbd; cases hbd
    | some q =>
    obtain ⟨ps, a1⟩ := q
    rw [hst] at hbd
    dsimp only at hbd
    simp only [↓VG_u, ↓UG_u, ↓MG_u, ↓NG_u, ↓PG_u, ↓BG_u, ↓CG_u, ↓IG_u, ↓VGtt, ↓VGtf, ↓VGft, ↓VGff, ↓UGtt, ↓UGtf, ↓UGft, ↓UGff, ↓MGtt, ↓MGtf, ↓MGft, ↓MGff, ↓NGtt, ↓NGtf, ↓NGft, ↓NGff, ↓PGtt, ↓PGtf, ↓PGft, ↓PGff, ↓BGtt, ↓BGtf, ↓BGft, ↓BGff, ↓CGtt, ↓CGtf, ↓CGft, ↓CGff, ↓IGtt, ↓IGtf, ↓IGft, ↓IGff, ↓PKt, ↓PKf, ↓CDt, ↓CDf, ↓NOTt, ↓NOTf, ↓NK_ptr, ↓f1.e, ↓len_tks, ↓LTt (show ((a : Nat) : Int) < (l.length : Int) by omega)]
    have st : ∀ (ρ2 : Sl), ρ2 0 = .slice A l.length cp → ρ2 4 = pq c → ρ2 5 = pq b5 → ρ2 2 = pq b2 → ρ2 3 = pq b3 → ∀ K : Exit → Sl → World → Prop, (∀ ρ' w', (∃ m', m' < m + 1 ∧ ∃ (v' : Value) (ss : List St) (a : Nat), bodyP l fuel m' (ss.map St.er) a = some ssF ∧ ss.length + m' ≤ l.length + 1 ∧ ρ' 0 = .slice A l.length cp ∧ ρ' 4 = pq c ∧ ρ' 5 = pq b5 ∧ ρ' 2 = pq b2 ∧ ρ' 3 = pq b3 ∧ FrP (.slice A l.length cp) l c w0 w' b2 b3 b5 ⟨v, ds, v', ss⟩ a) → K .normal ρ' w') → W fn_ Tryd.prog 105 dispatcherref02_Parse_R7 (blkK 3 K) ρ2 w6 := by
      intro ρ2 p0 p4 p5 p2 p3 K hK
      refine dispatcherref02_Parse_R7_held (D := []) (fun _ => True) trivial ?_
      unfold dispatcherref02_Parse_R7_H
      rw [p5, p4]
      have hd8 : Mod none_ w6 { w6 with drawn := w6.drawn + 1 } := (Mod.refl _ w6).drawn _
      refine (hF5.mod0 hd8).addS hG hfu hst (by show ss.length < _; omega) fun w' x v2 hF' hx => ?_
      have fin : ∀ (ρ' : Sl), ρ' 0 = .slice A l.length cp → ρ' 4 = pq c → ρ' 5 = pq b5 → ρ' 2 = pq b2 → ρ' 3 = pq b3 → blkK 3 K .normal ρ' w' := by
        intro ρ' p0 p4 p5 p2 p3
        exact hK _ _ ⟨m, Nat.lt_succ_self m, v2, ss ++ [x], a1, by rw [List.map_append, List.map_singleton, hx]; exact hbd, by rw [List.length_append]; simp; omega, p0, p4, p5, p2, p3, hF'⟩
      intro x1 x2 x3 x4 x5 x6
      refine ⟨fin _ ?_ ?_ ?_ ?_ ?_, fin _ ?_ ?_ ?_ ?_ ?_, fin _ ?_ ?_ ?_ ?_ ?_⟩
      all_goals first | exact p0 | exact p4 | exact p5 | exact p2 | exact p3
    refine st _ ?_ ?_ ?_ ?_ ?_ _ fun ρ' w' h => h
    · exact q0
    · exact q4
    · exact q5
    · exact q2
    · exact q3
  · rw [if_neg hlt] at hbd
    have hss : ss.map St.er = ssF := by injection hbd
    simp only [↓VG_u, ↓UG_u, ↓MG_u, ↓NG_u, ↓PG_u, ↓BG_u, ↓CG_u, ↓IG_u, ↓VGtt, ↓VGtf, ↓VGft, ↓VGff, ↓UGtt, ↓UGtf, ↓UGft, ↓UGff, ↓MGtt, ↓MGtf, ↓MGft, ↓MGff, ↓NGtt, ↓NGtf, ↓NGft, ↓NGff, ↓PGtt, ↓PGtf, ↓PGft, ↓PGff, ↓BGtt, ↓BGtf, ↓BGft, ↓BGff, ↓CGtt, ↓CGtf, ↓CGft, ↓CGff, ↓IGtt, ↓IGtf, ↓IGft, ↓IGff, ↓PKt, ↓PKf, ↓CDt, ↓CDf, ↓NOTt, ↓NOTf, ↓NK_ptr, ↓f1.e, ↓len_tks, ↓LTf (show ((l.length : Nat) : Int) ≤ (a : Int) by omega)]
    rw [sq_x, bk_x, sq_n]
    have he : Pr.er ⟨v, ds, v', ss⟩ = ⟨nl, ds, nl, ssF⟩ := by rw [← hss]; rfl
    have hfe : Pr.fits ⟨v, ds, v', ss⟩ := by
      refine ⟨hf.1, ?_⟩
      have := hf.2
      rw [← hss] at this
      rw [← St.szL_er]; exact this
    rw [← hss, St.deepAt_er] at hdp
    refine parse_last hF5 (by omega) hdp hfe ?_ ?_ ?_ ?_ ?_ rfl fun w' h1 h2 => hR w' _ he h1 h2
    · exact q0
    · exact q4
    · exact q5
    · exact q2
    · exact q3
theorem Parse_ok {lv : Value} {l : List Tk} (hG : Good l) {fuel : Nat} (hfu : fuel ≤ 1000) {pr : Pr} (hp : parseP l fuel = some pr) (hfit : pr.fits) {w : World} (ht : w.ownsRow 0 tT 5 lv l.length (l.flatMap Tk.cells)) :
    Rt Tryd.prog 20 #[lv] w fun v w' => ∃ q : Pr, v = .tuple #[.agg q.cells.toArray, .agg zWc] ∧ q.er = pr ∧ PrOwn w' w.heap.size q ∧ Mod none_ w w' := by
  unfold parseP at hp
  cases hds : declsP l (l.length + 1) [] 0 with
  | none => rw [hds] at hp; cases hp
  | some q =>
  obtain ⟨dsF, aF⟩ := q
  rw [hds] at hp
  dsimp only at hp
  cases hbs : bodyP l fuel (l.length + 1) [] aF with
  | none => rw [hbs] at hp; cases hp
  | some ssF =>
  rw [hbs] at hp
  dsimp only at hp
  split at hp
  rotate_left
  · cases hp
  rename_i hdeep
  cases hp
  obtain ⟨A, cp, hlv, _⟩ := reads_cap (reads_of_owns ht)
  have hwl := hG.len
  refine dispatcherref02_Parse_calls ?_
  unfold dispatcherref02_Parse_F
  refine al_k (cs := zPc) zPr rfl _ fun w1 hb1 hm1 hz1 => ?_
  refine al_k (cs := zWc) zWr' rfl _ fun w2 hb2 hm2 hz2 => ?_
  rw [build_ok (cs := #[lv, .int .i64 (0 : Nat), .int .i64 (-1)]) (by rw [hlv]; kernel_rfl)]
  refine box_k (cs := #[lv, .int .i64 (0 : Nat), .int .i64 (-1)]) rfl fun w3 hb3 hm3 hz3 => ?_
  refine al_k (cs := zPc) zPr rfl _ fun w4 hb4 hm4 hz4 => ?_
  have hm24 := hm3.trans hm4
  have hm14 := hm2.trans hm24
  have hm04 := hm1.trans hm14
  have hF : FrP lv l w2.heap.size w w4 w.heap.size w1.heap.size w3.heap.size ⟨nl, [], nl, []⟩ 0 :=
    ⟨hm14.blk hb1 id, hm24.blk hb2 id, hb4, ⟨owns_mod ht hm04 fun _ _ => id, hm4.blk hb3 id⟩, hm04, ⟨Nat.le_refl _, by omega, by omega, by omega, fun g hg => owns_lt ht hg⟩, ⟨owns_none _ _ _ _, by simp⟩, StsOwn.nil _ _⟩
  generalize w3.heap.size = b5 at *
  generalize w2.heap.size = c at *
  generalize w1.heap.size = b3 at *
  refine W_loopG dispatcherref02_Parse_L0_ok (fun m ρ w' => ∃ (v : Value) (ds : List De) (a : Nat), declsP l m ds a = some (dsF, aF) ∧ ds.length + m ≤ l.length + 1 ∧ ρ 0 = lv ∧ ρ 4 = pq c ∧ ρ 5 = pq b5 ∧ ρ 2 = pq w.heap.size ∧ ρ 3 = pq b3 ∧ FrP lv l c w w' w.heap.size b3 b5 ⟨v, ds, nl, []⟩ a) (l.length + 1)
    ⟨nl, [], 0, hds, by simp, rfl, rfl, rfl, rfl, rfl, hF⟩ ?_
  rintro m ρ w5 ⟨v, ds, a, hdl, hlen, q0, q4, q5, q2, q3, hF5⟩
  have lo := hF5.lo
  cases m with
  | zero => simp [declsP] at hdl
  | succ m =>
  rw [declsP] at hdl
  rw [dispatcherref02_Parse_L0_eq]
  unfold dispatcherref02_Parse_L0_F
  rw [q4]
  refine CK_st Tryd.func37 rfl rfl (may_ok hF5.pw hG [105, 110, 116]) ?_
  rintro _ w6 ⟨rfl, h6, hm6⟩
  have hF6 := hF5.cur hm6 h6
  cases hmy : mayP l a [105, 110, 116] with
  | true =>
    rw [hmy] at hF6 hdl
    simp only [if_true] at hF6 hdl
    split at hdl
    rotate_left
    · cases hdl
    rename_i hk1
    refine condT ?_
    refine CK_st Tryd.func38 rfl rfl (next_ok hF6.pw hG) ?_
    rintro _ w7 ⟨rfl, hm7⟩
    refine lcl_k (cs := (tkAt l (a + 1)).cells.toArray) zTkg _ iTk rfl (tk_one _) fun w8 hb8 hm8 hz8 => ?_
    have hF8 := hF6.mod0 (hm7.trans hm8)
    have hltw := hF6.ltw
    have hs7 := hm7.size
    obtain ⟨tf1, tf2, tf3, tf4⟩ := tk_fine hG (a + 1)
    obtain ⟨b6, hb6⟩ : ∃ b6, b6 = w7.heap.size := ⟨_, rfl⟩
    rw [← hb6] at hb8 hz8 ⊢
    have hd8 : Mod none_ w8 { w8 with drawn := w8.drawn + 1 } := (Mod.refl _ w8).drawn _
    refine dispatcherref02_Parse_R2_held (D := []) (fun w' => w'.heap[b6]? = some (.cells (tkAt l (a + 1)).cells.toArray tT (0, 0))) hb8 ?_
    unfold dispatcherref02_Parse_R2_H
    simp only [sq_n, sq_x, sq_r, bk_n, bk_r, bk_x, rt_r, rt_n, rs_0, rs_t, pk_1, pk_2, up_at, reduceIte, Nat.reduceEqDiff, q4]
    refine HV_of (fun w' _ => run_fo (off := 3) (by kernel_rfl) _ w') ?_
    refine HV_of (v := .int .i64 (tkAt l (a + 1)).line) (fun w' hw => run_ld1 uI rfl (by rw [add_pl, cell_blk hw]; rfl)) ?_
    refine HV_of (fun w' _ => run_fo (off := 4) (by kernel_rfl) _ w') ?_
    refine HV_of (v := .int .i64 (tkAt l (a + 1)).col) (fun w' hw => run_ld1 uI rfl (by rw [add_pl, cell_blk hw]; rfl)) ?_
    have fin : ∀ (ρ' : Sl) (w9 : World) (b7 : Nat), ρ' 0 = lv → ρ' 4 = pq c → ρ' 5 = pq b5 → ρ' 2 = pq w.heap.size → ρ' 3 = pq b3 → ρ' 7 = pq b7 → FrP lv l c w w9 w.heap.size b3 b5 ⟨v, ds, nl, []⟩ (a + 1 + 1) → w9.heap[b7]? = some (.cells (De.mk (bs (tkAt l (a + 1)).text) 0 (tkAt l (a + 1)).line (tkAt l (a + 1)).col).cells.toArray tD (0, 0)) → b5 < b7 → (∀ k, v.ownBlock = some k → k ≠ b7) →
        ∀ K : Exit → Sl → World → Prop, (∀ ρ2 w10, (∃ m', m' < m + 1 ∧ ∃ (v : Value) (ds : List De) (a : Nat), declsP l m' ds a = some (dsF, aF) ∧ ds.length + m' ≤ l.length + 1 ∧ ρ2 0 = lv ∧ ρ2 4 = pq c ∧ ρ2 5 = pq b5 ∧ ρ2 2 = pq w.heap.size ∧ ρ2 3 = pq b3 ∧ FrP lv l c w w10 w.heap.size b3 b5 ⟨v, ds, nl, []⟩ a) → K .normal ρ2 w10) →
        sx fn_ Tryd.prog 105 dispatcherref02_Parse_R3 (blkK 1 K) ρ' w9 := by
      intro ρ' w9 b7 p0 p4 p5 p2 p3 p7 hF9 hd9 hlt hne K hK
      refine decl_mid (m := m) hF9 hG (r := (dsF, aF)) hdl hd9 (deFine _ _ _ (bs_size tf1) tf3 tf4) hlt hne rfl rfl (by show ds.length < _; omega) p4 p5 p7 fun w' v' d a' ρ2 hd' hF' t0 t4 t5 t2 t3 => ?_
      exact hK _ _ ⟨m, Nat.lt_succ_self m, v', ds ++ [d], a', hd', by rw [List.length_append]; simp; omega, by rw [t0, p0], t4, t5, by rw [t2, p2], by rw [t3, p3], hF'⟩
    have hdr : ∀ k, v.ownBlock = some k → k < w5.heap.size := fun k hk => owns_lt hF5.d.row hk
    have hs6 := hm6.size
    constructor
    · refine CK_st Tryd.func39 rfl rfl (name_ok (hF8.mod0 hd8).pw hG hk1) ?_
      rintro _ w9 ⟨rfl, h9, hm9⟩
      have hF9 := (hF8.mod0 hd8).cur hm9 h9
      have hb9 := hm9.blk (hd8.blk hb8 id) (by omega)
      refine ⟨hb9, HV_of (v := .agg (De.mk (bs (tkAt l (a + 1)).text) 0 (tkAt l (a + 1)).line (tkAt l (a + 1)).col).cells.toArray) (fun w' _ => run_build (P := Tryd.prog) w' _ _ _ (by simpa using bDe _ _ _)) ?_⟩
      refine al_k (cs := (De.mk (bs []) 0 0 0).cells.toArray) zDe' rfl _ fun w10 hb10 hm10 hz10 => ⟨hm10.blk hb9 id, ?_⟩
      have hs9 := hm9.size
      have hs9' : w8.heap.size ≤ w9.heap.size := hs9
      refine stS (old := (De.mk (bs []) 0 0 0).cells.toArray) (cs := (De.mk (bs (tkAt l (a + 1)).text) 0 (tkAt l (a + 1)).line (tkAt l (a + 1)).col).cells.toArray) rfl rfl iDe rfl (de_one _) hb10 fun w11 h11 hm11 hz11 => ⟨hm11.blk (hm10.blk hb9 id) (by omega), ?_⟩
      have hF11 := (hF9.mod0 hm10).fresh hm11 (by omega) (fun q => by have := hdr _ q; omega) (fun k hk => by simp [nl, Value.ownBlock] at hk) (by simp)
      refine fin _ w11 w9.heap.size ?_ ?_ ?_ ?_ ?_ rfl hF11 h11 (by omega) (fun k hk q => by have := hdr k hk; omega) _ (fun ρ2 w12 h => h)
      · exact q0
      · exact q4
      · exact q5
      · exact q2
      · exact q3
    · refine al_k (cs := (De.mk (bs []) 0 0 0).cells.toArray) zDe' rfl _ fun w9 hb9' hm9 hz9 => ⟨hm9.blk (hd8.blk hb8 id) id, ?_⟩
      have hF9 := (hF8.mod0 hd8).mod0 hm9
      refine CK_st Tryd.func39 rfl rfl (name_ok hF9.pw hG hk1) ?_
      rintro _ w10 ⟨rfl, h10, hm10⟩
      have hF10 := hF9.cur hm10 h10
      have hz9' : w9.heap.size = w8.heap.size + 1 := hz9
      have hb10 := hm10.blk (hm9.blk (hd8.blk hb8 id) id) (by omega)
      refine ⟨hb10, HV_of (v := .agg (De.mk (bs (tkAt l (a + 1)).text) 0 (tkAt l (a + 1)).line (tkAt l (a + 1)).col).cells.toArray) (fun w' _ => run_build (P := Tryd.prog) w' _ _ _ (by simpa using bDe _ _ _)) ?_⟩
      have hc8 : c < w8.heap.size := by omega
      refine stS (old := (De.mk (bs []) 0 0 0).cells.toArray) (cs := (De.mk (bs (tkAt l (a + 1)).text) 0 (tkAt l (a + 1)).line (tkAt l (a + 1)).col).cells.toArray) rfl rfl iDe rfl (de_one _) (hm10.blk hb9' (by show w8.heap.size ≠ c; omega)) fun w11 h11 hm11 hz11 => ⟨hm11.blk hb10 (by show b6 ≠ w8.heap.size; omega), ?_⟩
      have hF11 := hF10.fresh hm11 (by show b5 < w8.heap.size; omega) (fun q => by have := hdr _ q; have : w8.heap.size < w5.heap.size := this; omega) (fun k hk => by simp [nl, Value.ownBlock] at hk) (by simp)
      refine fin _ w11 w8.heap.size ?_ ?_ ?_ ?_ ?_ rfl hF11 h11 (by omega) (fun k hk q => by have := hdr k hk; omega) _ (fun ρ2 w12 h => h)
      · exact q0
      · exact q4
      · exact q5
      · exact q2
      · exact q3
  | false =>
    rw [hmy] at hF6 hdl
    simp only [Bool.false_eq_true, if_false] at hF6 hdl
    cases hdl
    refine condF ?_
    rw [sq_x, bk_x, sq_n]
    refine parse_body hG hfu hF6 hbs hdeep hfit ?_ ?_ ?_ ?_ ?_ hlv fun w' q h1 h2 h3 => ⟨q, rfl, h1, h2, h3⟩
    · exact q0
    · exact q4
    · exact q5
    · exact q2
    · exact q3
end
end Go.Proofs.YtpkfbaagpjdifaaDoor.Tr
set_option linter.unusedVariables false
set_option linter.unusedSimpArgs false
set_option maxRecDepth 4000
namespace Go.Proofs.YtpkfbaagpjdifaaDoor.Tr
open Go Go.X Go.RowKit Go.Proofs.YtpkfbaagpjdifaaDoor.XD Go.Proofs.YtpkfbaagpjdifaaDoor.XK
theorem Ex.er_er : ∀ e : Ex, e.er.er = e.er := by
  intro e
  induction e using Ex.ind with
  | h e ih =>
    rw [Ex.er_eq e.er, Ex.er_eq e]
    simp only [List.map_map]
    congr 1
    exact List.map_congr_left fun a ha => ih a ha
theorem Ex.er_erL (l : List Ex) : (l.map Ex.er).map Ex.er = l.map Ex.er := by rw [List.map_map]; exact List.map_congr_left fun a _ => Ex.er_er a
theorem St.er_er : ∀ e : St, e.er.er = e.er := by
  intro e
  induction e using St.ind with
  | h e ih ih2 =>
    rw [St.er_eq e.er, St.er_eq e]
    simp only [List.map_map]
    have h1 := Ex.er_erL e.exprs
    rw [List.map_map] at h1
    rw [h1]
    congr 1
    · exact List.map_congr_left fun a ha => ih a ha
    · exact List.map_congr_left fun a ha => ih2 a ha
theorem Pr.er_er (p : Pr) : p.er.er = p.er := by
  unfold Pr.er
  simp only [List.map_map]
  congr 1
  exact List.map_congr_left fun a _ => St.er_er a
theorem bytes_k {src dst e : TypeId} (hs : Tryd.prog.underlying src = some .string) (hd : Tryd.prog.underlying dst = some (.slice e)) (he : Tryd.prog.underlying e = some (.int .u8)) (b : Bs) {w : World} {K : Value → World → Prop} (hk : ∀ v w', reads w' 1 v b.length (b.map byteV) → Mod none_ w w' → K v w') : VK Tryd.prog (convert src dst (.string (bs b))) w K := by
  refine VK_of (run_bytes_of_string w src dst e (bs b) hs hd he) (hk _ _ ?_ (((Mod.refl _ w).drawn _).alloc _))
  have hz : (bs b).size = b.length := by simp [bs, ByteArray.size]
  refine ⟨by simp, some ⟨w.heap.size, 0, none⟩, _, by rw [hz], by rw [← hz]; exact grownCap_ge _ _ _ _, fun j u hu => ⟨_, rfl, ?_⟩⟩
  rw [add_pl, show w.heap.size = w.drew.heap.size from rfl, cell_blk (alloc_new w.drew _)]
  have hj : j < b.length := by
    have := (List.getElem?_eq_some_iff.1 hu).1
    simpa using this
  unfold bytesRow
  rw [Array.getElem?_append_left (by simp [bs]; omega)]
  rw [List.getElem?_map] at hu
  simp [bs, byteV] at hu ⊢
  exact hu
theorem readP_some {b : Bs} {pr : Pr} (h : readP b = some pr) : ∃ l, scanP b = some l ∧ Good l ∧ parseP l 40 = some pr := by
  unfold readP at h
  cases hl : scanP b with
  | none => rw [hl] at h; cases h
  | some l =>
    rw [hl] at h
    dsimp only at h
    split at h
    · rename_i hg
      exact ⟨l, rfl, ⟨by simpa using hg.1, hg.2⟩, h⟩
    · cases h
theorem got {b : Bs} {f : Pr → Bool} (h : (readP b).any f = true) : ∃ pr, readP b = some pr ∧ f pr = true := by
  cases hr : readP b with
  | none => rw [hr] at h; cases h
  | some pr => rw [hr] at h; exact ⟨pr, rfl, h⟩
def Pr.fitsB (p : Pr) : Bool := decide (p.decls.length ≤ 1099511627776) && decide (St.szL p.body ≤ 1099511627776)
theorem Pr.fits_of {p : Pr} (h : Pr.fitsB p = true) : p.fits := by
  unfold Pr.fitsB at h
  rw [Bool.and_eq_true, decide_eq_true_iff, decide_eq_true_iff] at h
  exact h
theorem PrOwn.off {S : Nat → Prop} {base : Nat} {p : Pr} {u u' : World} (h : PrOwn u base p) (hm : Mod S u u') (hS : ∀ k, S k → k < base) : PrOwn u' base p := ⟨owns_mod h.d hm fun k hk q => by have := owns_low h.d hk; have := hS k q; omega, h.f, h.b.off hm hS⟩
theorem Parse_tx {b : Bs} {pr : Pr} (h : readP b = some pr) (hf : pr.fits) {v : Value} {w : World} (hr : reads w 1 v b.length (b.map byteV)) {K : Value → Value → World → Prop}
    (hk : ∀ x q w', Pr.er q = pr → PrOwn w' w.heap.size q → Mod none_ w w' → K x (.tuple #[.agg q.cells.toArray, .agg zWc]) w') :
    CK Tryd.prog (.func (.func 19) #[] #[]) [v] w fun x w => VK Tryd.prog (Instr.extract x 0) w fun x13 w => VK Tryd.prog (Instr.extract x 1) w fun _ w => VK Tryd.prog (Instr.extract x 2) w fun _ w => VK Tryd.prog (Instr.extract x 3) w fun _ w => CK Tryd.prog (.func (.func 20) #[] #[]) [x13] w fun x19 w => K x13 x19 w := by
  obtain ⟨l, hl, hG, hp⟩ := readP_some h
  refine CK_st Tryd.func19 rfl rfl (Scan_ok hr hl) ?_
  rintro _ w1 ⟨lv, rfl, ho, hm1⟩
  rw [extract_ok (v := lv) rfl, extract_ok (v := .int .i64 0) rfl, extract_ok (v := .int .i64 0) rfl, extract_ok (v := .int .i64 0) rfl]
  refine CK_st Tryd.func20 rfl rfl (Parse_ok hG (fuel := 40) (by decide) hp hf (owns_base ho (Nat.zero_le _))) ?_
  rintro _ w2 ⟨q, rfl, he, hO, hm2⟩
  have := hm1.size
  exact hk _ q _ he ⟨owns_base hO.d this, hO.f, hO.b.low this⟩ (hm1.trans hm2)
theorem oneOk {w : World} {q : Pr} (h : q.Ok w) : q.cells.toArray.all (·.oneCell') = true := by
  obtain ⟨A, c, h1, _⟩ := reads_cap h.d.1
  obtain ⟨A', c', h2, _⟩ := reads_cap h.b.1
  exact hone _ (by rw [h1]; rfl) (by rw [h2]; rfl)
end Go.Proofs.YtpkfbaagpjdifaaDoor.Tr
set_option linter.unusedVariables false
set_option maxRecDepth 100000
namespace Go.Proofs.YtpkfbaagpjdifaaDoor.XL
open Go Go.X
noncomputable def dispatcherlaw30_read_b : Code := (Tryd.f9.body).getD .skip
noncomputable def dispatcherlaw30_read_F (a0 : Value) (w : World) (R : Value → World → Prop) : Prop :=
  VK Tryd.prog (Instr.alloc 34 true (.tuple #[])) w fun x2 w => VK Tryd.prog (convert 9 52 a0) w fun x11 w => CK Tryd.prog (Value.func (Fn.func 19) #[] #[]) [x11] w fun x12 w => VK Tryd.prog (Instr.extract x12 0) w fun x13 w => VK Tryd.prog (Instr.extract x12 1) w fun x14 w => VK Tryd.prog (Instr.extract x12 2) w fun x15 w => VK Tryd.prog (Instr.extract x12 3) w fun x16 w => CK Tryd.prog (Value.func (Fn.func 20) #[] #[]) [x13] w fun x19 w => VK Tryd.prog (Instr.extract x19 0) w fun x20 w => VK Tryd.prog (Instr.extract x19 1) w fun x21 w => VK Tryd.prog (Instr.alloc 34 true (.tuple #[])) w fun x7 w => VK Tryd.prog (Instr.alloc 54 true (.tuple #[])) w fun x8 w => UK Tryd.prog (Instr.storeAt 34 x7 x20) w fun _ w => UK Tryd.prog (Instr.storeAt 54 x8 x21) w fun _ w => VK Tryd.prog (Instr.loadAt 34 x7) w fun x22 w => UK Tryd.prog (Instr.storeAt 34 x2 x22) w fun _ w => ∃ x2_1, (do loadVar 34 (← asAddr x2) : Sem Value).run Tryd.prog w = .ok x2_1 w ∧ R x2_1 w
theorem dispatcherlaw30_read_eq (a0 : Value) (w : World) (R : Value → World → Prop) : sx fn_ Tryd.prog 23 dispatcherlaw30_read_b (retK Tryd.prog Tryd.f9.results.toList R) (rho0 [a0]) w = dispatcherlaw30_read_F a0 w R := by kernel_rfl
theorem dispatcherlaw30_read_calls {a0 : Value} {w : World} {R : Value → World → Prop} (h : dispatcherlaw30_read_F a0 w R) : Calls Tryd.prog 9 #[a0] w fun e w' => ∃ v, e = .returned v ∧ R v w' :=
  Go.X.calls_of_sx (n := 23) (c := dispatcherlaw30_read_b) Tryd.func9 (by kernel_rfl) (by kernel_rfl) (Nat.le_of_ble_eq_true rfl) (by kernel_rfl) (Eq.mpr (dispatcherlaw30_read_eq a0 w R) h)
noncomputable def dispatcherlaw30_awake_b : Code := (Tryd.f4.body).getD .skip
noncomputable def dispatcherlaw30_awake_R0 : Code := cAt [1, 1, 1, 1, 1] dispatcherlaw30_awake_b
noncomputable def dispatcherlaw30_awake_R0_F (z : At) (K : Exit → Sl → World → Prop) (ρ : Sl) (w : World) : Prop :=
  CK Tryd.prog (Value.func (Fn.func 9) #[] #[]) [(Value.string { data := #[105, 110, 116, 32, 120, 59, 32, 120, 32, 61, 32, 49, 59] })] w fun x34 w => CK Tryd.prog (Value.func (Fn.func 10) #[] #[]) [x34, (Value.int .i64 2)] w fun x35 w => VK Tryd.prog (Instr.extract x35 0) w fun x36 w => VK Tryd.prog (Instr.extract x35 1) w fun x37 w => CK Tryd.prog (Value.func (Fn.func 9) #[] #[]) [(Value.string { data := #[119, 104, 105, 108, 101, 32, 49, 32, 123, 32, 125] })] w fun x39 w => CK Tryd.prog (Value.func (Fn.func 10) #[] #[]) [x39, (Value.int .i64 2)] w fun x40 w => VK Tryd.prog (Instr.extract x40 0) w fun x41 w => VK Tryd.prog (Instr.extract x40 1) w fun x42 w => BK Tryd.prog .eql 3 (.tmp 43) (.const (Value.int .i64 9)) (ρ 2) (Value.int .i64 9) w fun x44 w => MG Tryd.prog x44 true (ρ 3) w fun x46 w => BG Tryd.prog x44 true .eql 38 (.tmp 46) (.const (Value.int .i64 0)) x46 (Value.int .i64 0) w fun x47 w => PK Tryd.prog x44 x47 (Value.bool false) w fun x48 w => MG Tryd.prog x48 true (ρ 4) w fun x50 w => BG Tryd.prog x48 true .eql 3 (.tmp 50) (.const (Value.int .i64 6)) x50 (Value.int .i64 6) w fun x51 w => PK Tryd.prog x48 x51 (Value.bool false) w fun x52 w => MG Tryd.prog x52 true (ρ 5) w fun x54 w => BG Tryd.prog x52 true .eql 38 (.tmp 54) (.const (Value.int .i64 0)) x54 (Value.int .i64 0) w fun x55 w => PK Tryd.prog x52 x55 (Value.bool false) w fun x56 w => MG Tryd.prog x56 true x36 w fun x58 w => BG Tryd.prog x56 true .eql 3 (.tmp 58) (.const (Value.int .i64 1)) x58 (Value.int .i64 1) w fun x59 w => PK Tryd.prog x56 x59 (Value.bool false) w fun x60 w => MG Tryd.prog x60 true x37 w fun x62 w => BG Tryd.prog x60 true .eql 38 (.tmp 62) (.const (Value.int .i64 0)) x62 (Value.int .i64 0) w fun x63 w => PK Tryd.prog x60 x63 (Value.bool false) w fun x64 w => MG Tryd.prog x64 true x42 w fun x66 w => BG Tryd.prog x64 true .eql 38 (.tmp 66) (.const (Value.int .i64 90)) x66 (Value.int .i64 90) w fun x67 w => PK Tryd.prog x64 x67 (Value.bool false) w fun x68 w => K .ret (up (up (up (up (up (up (up (up (up (up (up (up (up (up (up (up (up (up (up (up (up (up (up (up (up (up (up (up (up (up (up (up (up (up (up (up (up (up (up (up (up ρ 34 x34) 35 x35) 33 x35) 36 x36) 37 x37) 6 x36) 7 x37) 39 x39) 40 x40) 38 x40) 41 x41) 42 x42) 8 x41) 9 x42) 43 (ρ 2)) 44 x44) 45 x44) 46 x46) 47 x47) 48 x48) 49 x48) 50 x50) 51 x51) 52 x52) 53 x52) 54 x54) 55 x55) 56 x56) 57 x56) 58 x58) 59 x59) 60 x60) 61 x60) 62 x62) 63 x63) 64 x64) 65 x64) 66 x66) 67 x67) 68 x68) 0 x68) w
theorem dispatcherlaw30_awake_R0_eq (z : At) (K : Exit → Sl → World → Prop) (ρ : Sl) (w : World) : sx z Tryd.prog 69 dispatcherlaw30_awake_R0 K ρ w = dispatcherlaw30_awake_R0_F z K ρ w := by kernel_rfl
noncomputable def dispatcherlaw30_awake_F (w : World) (R : Value → World → Prop) : Prop :=
  CK Tryd.prog (Value.func (Fn.func 9) #[] #[]) [(Value.string { data := #[114, 101, 99, 118, 40, 48, 44, 32, 97, 110, 121, 44, 32, 48, 41, 59] })] w fun x10 w => VK Tryd.prog (Instr.alloc 34 true (.tuple #[])) w fun x1 w => UK Tryd.prog (Instr.storeAt 34 x1 x10) w fun _ w => VK Tryd.prog (Instr.fieldAt 34 x1 1) w fun x11 w => VK Tryd.prog (Instr.loadAt 23 x11) w fun x12 w => IK Tryd.prog .len #[23] 3 [false] [x12] w fun x13 w => BK Tryd.prog .neq 3 (.tmp 13) (.const (Value.int .i64 1)) x13 (Value.int .i64 1) w fun x14 w => VG Tryd.prog x14 false (Instr.fieldAt 34 x1 1) w fun x16 w => VG Tryd.prog x14 false (Instr.loadAt 23 x16) w fun x17 w => VG Tryd.prog x14 false (Instr.indexAt 23 x17 (Value.int .i64 0)) w fun x18 w => VG Tryd.prog x14 false (Instr.loadAt 25 x18) w fun x19 w => CG Tryd.prog x14 false (Value.func (Fn.func 6) #[] #[]) [x19, (Value.int .i64 2)] w fun x20 w => BG Tryd.prog x14 false .neq 3 (.tmp 20) (.const (Value.int .i64 3)) x20 (Value.int .i64 3) w fun x21 w => PK Tryd.prog x14 (Value.bool true) x21 w fun x22 w => CondK x22 (R (Value.bool false) w) (VK Tryd.prog (Instr.loadAt 34 x1) w fun x24 w => CK Tryd.prog (Value.func (Fn.func 10) #[] #[]) [x24, (Value.int .i64 2)] w fun x25 w => VK Tryd.prog (Instr.extract x25 0) w fun x26 w => VK Tryd.prog (Instr.extract x25 1) w fun x27 w => VK Tryd.prog (Instr.loadAt 34 x1) w fun x29 w => CK Tryd.prog (Value.func (Fn.func 11) #[] #[]) [x29, (Value.int .i64 2)] w fun x30 w => VK Tryd.prog (Instr.extract x30 0) w fun x31 w => VK Tryd.prog (Instr.extract x30 1) w fun x32 w => sx fn_ Tryd.prog 69 dispatcherlaw30_awake_R0 (retK Tryd.prog [ResultVar.tmp 0] R) (up (up (up (up (up (up (up (up (up (up (up (up (up (up (up (up (up (up (up (up (up (up (up (up (up (up (up (up (up (rho0 []) 0 (Value.bool false)) 10 x10) 1 x1) 11 x11) 12 x12) 13 x13) 14 x14) 15 x14) 16 x16) 17 x17) 18 x18) 19 x19) 20 x20) 21 x21) 22 x22) 24 x24) 25 x25) 23 x25) 26 x26) 27 x27) 2 x26) 3 x27) 29 x29) 30 x30) 28 x30) 31 x31) 32 x32) 4 x31) 5 x32) w)
theorem dispatcherlaw30_awake_eq (w : World) (R : Value → World → Prop) : sx fn_ Tryd.prog 69 dispatcherlaw30_awake_b (retK Tryd.prog Tryd.f4.results.toList R) (rho0 []) w = dispatcherlaw30_awake_F  w R := by kernel_rfl
theorem dispatcherlaw30_awake_calls {w : World} {R : Value → World → Prop} (h : dispatcherlaw30_awake_F  w R) : Calls Tryd.prog 4 #[] w fun e w' => ∃ v, e = .returned v ∧ R v w' :=
  Go.X.calls_of_sx (n := 69) (c := dispatcherlaw30_awake_b) Tryd.func4 (by kernel_rfl) (by kernel_rfl) (Nat.le_of_ble_eq_true rfl) (by kernel_rfl) (Eq.mpr (dispatcherlaw30_awake_eq  w R) h)
noncomputable def limits_Ways_b : Code := (Tryd.f6.body).getD .skip
noncomputable def limits_Ways_F (a0 a1 : Value) (w : World) (R : Value → World → Prop) : Prop :=
  VK Tryd.prog (Instr.box 25 a0) w fun x2 w => VK Tryd.prog (Instr.loadAt 25 x2) w fun x5 w => VK Tryd.prog (Instr.buildSlice 23 1 [(0, x5)].toArray) w fun x6 w => VK Tryd.prog (Instr.build 34 [(1, x6)].toArray) w fun x7 w => CK Tryd.prog (Value.func (Fn.func 7) #[] #[]) [x7] w fun x8 w => VK Tryd.prog (Op.unary UnOp.not x8) w fun x9 w => MG Tryd.prog x9 false a1 w fun x11 w => BG Tryd.prog x9 false .lss 3 (.tmp 11) (.const (Value.int .i64 1)) x11 (Value.int .i64 1) w fun x12 w => PK Tryd.prog x9 (Value.bool true) x12 w fun x13 w => MG Tryd.prog x13 false a1 w fun x15 w => BG Tryd.prog x13 false .gtr 3 (.tmp 15) (.const (Value.int .i64 64)) x15 (Value.int .i64 64) w fun x16 w => PK Tryd.prog x13 (Value.bool true) x16 w fun x17 w => CondK x17 (R (Value.int .i64 1048576) w) (VK Tryd.prog (Instr.loadAt 25 x2) w fun x18 w => CK Tryd.prog (Value.func (Fn.func 13) #[] #[]) [x18, a1] w fun x20 w => R x20 w)
theorem limits_Ways_eq (a0 a1 : Value) (w : World) (R : Value → World → Prop) : sx fn_ Tryd.prog 21 limits_Ways_b (retK Tryd.prog Tryd.f6.results.toList R) (rho0 [a0, a1]) w = limits_Ways_F a0 a1 w R := by kernel_rfl
theorem limits_Ways_calls {a0 a1 : Value} {w : World} {R : Value → World → Prop} (h : limits_Ways_F a0 a1 w R) : Calls Tryd.prog 6 #[a0, a1] w fun e w' => ∃ v, e = .returned v ∧ R v w' :=
  Go.X.calls_of_sx (n := 21) (c := limits_Ways_b) Tryd.func6 (by kernel_rfl) (by kernel_rfl) (Nat.le_of_ble_eq_true rfl) (by kernel_rfl) (Eq.mpr (limits_Ways_eq a0 a1 w R) h)
noncomputable def dispatcherlaw30_LimitsProducts_b : Code := (Tryd.f3.body).getD .skip
noncomputable def dispatcherlaw30_LimitsProducts_R0 : Code := cAt [1, 1, 1, 1, 1] dispatcherlaw30_LimitsProducts_b
noncomputable def dispatcherlaw30_LimitsProducts_R1 : Code := cAt [1, 1, 1, 1, 1, 1, 1, 0] dispatcherlaw30_LimitsProducts_b
noncomputable def dispatcherlaw30_LimitsProducts_R2 : Code := cAt [1, 1, 1, 1, 1, 1, 1, 1] dispatcherlaw30_LimitsProducts_b
noncomputable def dispatcherlaw30_LimitsProducts_R3 : Code := cAt [1, 1, 1, 1, 1, 1, 1, 1, 1, 1, 0, 1] dispatcherlaw30_LimitsProducts_b
noncomputable def dispatcherlaw30_LimitsProducts_R4 : Code := cAt [1, 1, 1, 1, 1, 1, 1, 1, 1, 1, 1] dispatcherlaw30_LimitsProducts_b
noncomputable def dispatcherlaw30_LimitsProducts_R0_F (z : At) (K : Exit → Sl → World → Prop) (ρ : Sl) (w : World) : Prop :=
  VK Tryd.prog (Instr.loadAt 25 (ρ 3)) w fun x36 w => VK Tryd.prog (Instr.buildSlice 23 1 [(0, x36)].toArray) w fun x37 w => VK Tryd.prog (Instr.loadAt 25 (ρ 4)) w fun x38 w => VK Tryd.prog (Instr.buildSlice 23 1 [(0, x38)].toArray) w fun x39 w => VK Tryd.prog (Instr.build 25 [(0, (Value.int .u8 3)), (5, (ρ 7)), (6, x37), (7, x39)].toArray) w fun x40 w => VK Tryd.prog (Instr.alloc 25 true (.tuple #[])) w fun x9 w => UK Tryd.prog (Instr.storeAt 25 x9 x40) w fun _ w => VK Tryd.prog (Instr.loadAt 25 (ρ 3)) w fun x41 w => VK Tryd.prog (Instr.buildSlice 23 1 [(0, x41)].toArray) w fun x42 w => VK Tryd.prog (Instr.build 25 [(0, (Value.int .u8 5)), (3, (Value.string { data := #[120] })), (4, (Value.int .i64 2)), (6, x42)].toArray) w fun x43 w => VK Tryd.prog (Instr.alloc 25 true (.tuple #[])) w fun x10 w => UK Tryd.prog (Instr.storeAt 25 x10 x43) w fun _ w => W z Tryd.prog 106 dispatcherlaw30_LimitsProducts_R1 (seqK (sx z Tryd.prog 106 dispatcherlaw30_LimitsProducts_R2 K) K) (up (up (up (up (up (up (up (up (up (up (up ρ 35 (ρ 7)) 36 x36) 37 x37) 38 x38) 39 x39) 40 x40) 9 x9) 41 x41) 42 x42) 43 x43) 10 x10) w
theorem dispatcherlaw30_LimitsProducts_R0_eq (z : At) (K : Exit → Sl → World → Prop) (ρ : Sl) (w : World) : sx z Tryd.prog 106 dispatcherlaw30_LimitsProducts_R0 K ρ w = dispatcherlaw30_LimitsProducts_R0_F z K ρ w := by kernel_rfl
noncomputable def dispatcherlaw30_LimitsProducts_R1_ops : Array Oper := opsOf dispatcherlaw30_LimitsProducts_R1
def dispatcherlaw30_LimitsProducts_R1_Q (C : World → Prop) (K : Exit → Sl → World → Prop) (ρ : Sl) : Prop :=
  QK Tryd.prog C (do pure (Next.value (← Instr.loadAt 25 (ρ 3)))) fun x44 => QK Tryd.prog C (do let d ← Deferred.ofValue (Value.func (Fn.func 6) #[] #[]) [x44, (ρ 2)].toArray; invoke d.target d.args) fun x46 => QK Tryd.prog C (do pure (Next.value (← Instr.loadAt 25 (ρ 4)))) fun x47 => QK Tryd.prog C (do let d ← Deferred.ofValue (Value.func (Fn.func 6) #[] #[]) [x47, (ρ 2)].toArray; invoke d.target d.args) fun x49 => ∀ w', C w' → K Exit.normal (up (up (up (up (up (up (up (up ρ 44 x44) 45 (ρ 2)) 46 x46) 47 x47) 48 (ρ 2)) 49 x49) 11 x46) 12 x49) w'
theorem dispatcherlaw30_LimitsProducts_R1_quiet {D : List Deferred} (C : World → Prop) {K : Exit → Sl → World → Prop} {ρ : Sl} {w : World} (hC : C { w with drawn := w.drawn + 1 }) (h : dispatcherlaw30_LimitsProducts_R1_Q C K ρ) : W ⟨none, D⟩ Tryd.prog 106 dispatcherlaw30_LimitsProducts_R1 K ρ w := by
  have e : dispatcherlaw30_LimitsProducts_R1 = .region (idOf dispatcherlaw30_LimitsProducts_R1) dispatcherlaw30_LimitsProducts_R1_ops true := by kernel_rfl
  have q : sxq Tryd.prog C dispatcherlaw30_LimitsProducts_R1_ops (fun ρ' => ∀ w', C w' → K .normal ρ' w') dispatcherlaw30_LimitsProducts_R1_ops.toList ρ = dispatcherlaw30_LimitsProducts_R1_Q C K ρ := by kernel_rfl
  rw [e]
  exact W_quiet C (by kernel_rfl) (by kernel_rfl) (by kernel_rfl) hC (Eq.mpr q h)
noncomputable def dispatcherlaw30_LimitsProducts_R2_F (z : At) (K : Exit → Sl → World → Prop) (ρ : Sl) (w : World) : Prop :=
  BK Tryd.prog .lss 3 (.tmp 50) (.const (Value.int .i64 1)) (ρ 11) (Value.int .i64 1) w fun x51 w => MG Tryd.prog x51 false (ρ 12) w fun x53 w => BG Tryd.prog x51 false .lss 3 (.tmp 53) (.const (Value.int .i64 1)) x53 (Value.int .i64 1) w fun x54 w => PK Tryd.prog x51 (Value.bool true) x54 w fun x55 w => MG Tryd.prog x55 false (ρ 11) w fun x57 w => BG Tryd.prog x55 false .gtr 3 (.tmp 57) (.const (Value.int .i64 1048576)) x57 (Value.int .i64 1048576) w fun x58 w => PK Tryd.prog x55 (Value.bool true) x58 w fun x59 w => MG Tryd.prog x59 false (ρ 12) w fun x61 w => BG Tryd.prog x59 false .gtr 3 (.tmp 61) (.const (Value.int .i64 1048576)) x61 (Value.int .i64 1048576) w fun x62 w => PK Tryd.prog x59 (Value.bool true) x62 w fun x63 w => CondK x63 (K .ret (up (up (up (up (up (up (up (up (up (up (up (up (up (up (up ρ 50 (ρ 11)) 51 x51) 52 x51) 53 x53) 54 x54) 55 x55) 56 x55) 57 x57) 58 x58) 59 x59) 60 x59) 61 x61) 62 x62) 63 x63) 6 (Value.bool false)) w) (VK Tryd.prog (Instr.loadAt 25 (ρ 8)) w fun x64 w => VK Tryd.prog (Instr.loadAt 25 (ρ 9)) w fun x65 w => VK Tryd.prog (Instr.loadAt 25 (ρ 10)) w fun x66 w => VK Tryd.prog (Instr.buildSlice 23 3 [(0, x64), (1, x65), (2, x66)].toArray) w fun x67 w => VK Tryd.prog (Instr.build 34 [(1, x67)].toArray) w fun x68 w => CK Tryd.prog (Value.func (Fn.func 7) #[] #[]) [x68] w fun x69 w => VK Tryd.prog (Op.unary UnOp.not x69) w fun x70 w => CondK x70 (K .ret (up (up (up (up (up (up (up (up (up (up (up (up (up (up (up (up (up (up (up (up (up (up ρ 50 (ρ 11)) 51 x51) 52 x51) 53 x53) 54 x54) 55 x55) 56 x55) 57 x57) 58 x58) 59 x59) 60 x59) 61 x61) 62 x62) 63 x63) 64 x64) 65 x65) 66 x66) 67 x67) 68 x68) 69 x69) 70 x70) 6 (Value.bool true)) w) (VK Tryd.prog (Instr.loadAt 25 (ρ 8)) w fun x71 w => CK Tryd.prog (Value.func (Fn.func 6) #[] #[]) [x71, (ρ 2)] w fun x73 w => CK Tryd.prog (Value.func (Fn.func 8) #[] #[]) [(ρ 11), (ρ 12)] w fun x76 w => BK Tryd.prog .neq 3 (.tmp 73) (.tmp 76) x73 x76 w fun x77 w => VG Tryd.prog x77 false (Instr.loadAt 25 (ρ 9)) w fun x79 w => MG Tryd.prog x77 false (ρ 2) w fun x80 w => CG Tryd.prog x77 false (Value.func (Fn.func 6) #[] #[]) [x79, x80] w fun x81 w => MG Tryd.prog x77 false (ρ 11) w fun x82 w => MG Tryd.prog x77 false (ρ 12) w fun x83 w => IG Tryd.prog x77 false .max #[3, 3] 3 [false, false] [x82, x83] w fun x84 w => BG Tryd.prog x77 false .neq 3 (.tmp 81) (.tmp 84) x81 x84 w fun x85 w => PK Tryd.prog x77 (Value.bool true) x85 w fun x86 w => VG Tryd.prog x86 false (Instr.loadAt 25 (ρ 10)) w fun x88 w => MG Tryd.prog x86 false (ρ 2) w fun x89 w => CG Tryd.prog x86 false (Value.func (Fn.func 6) #[] #[]) [x88, x89] w fun x90 w => MG Tryd.prog x86 false (ρ 11) w fun x91 w => MG Tryd.prog x86 false (ρ 11) w fun x92 w => CG Tryd.prog x86 false (Value.func (Fn.func 8) #[] #[]) [x91, x92] w fun x93 w => BG Tryd.prog x86 false .neq 3 (.tmp 90) (.tmp 93) x90 x93 w fun x94 w => PK Tryd.prog x86 (Value.bool true) x94 w fun x95 w => sx z Tryd.prog 106 dispatcherlaw30_LimitsProducts_R3 (seqK (sx z Tryd.prog 106 dispatcherlaw30_LimitsProducts_R4 K) K) (up (up (up (up (up (up (up (up (up (up (up (up (up (up (up (up (up (up (up (up (up (up (up (up (up (up (up (up (up (up (up (up (up (up (up (up (up (up (up (up (up (up (up (up (up (up ρ 50 (ρ 11)) 51 x51) 52 x51) 53 x53) 54 x54) 55 x55) 56 x55) 57 x57) 58 x58) 59 x59) 60 x59) 61 x61) 62 x62) 63 x63) 64 x64) 65 x65) 66 x66) 67 x67) 68 x68) 69 x69) 70 x70) 71 x71) 72 (ρ 2)) 73 x73) 74 (ρ 11)) 75 (ρ 12)) 76 x76) 77 x77) 78 x77) 79 x79) 80 x80) 81 x81) 82 x82) 83 x83) 84 x84) 85 x85) 86 x86) 87 x86) 88 x88) 89 x89) 90 x90) 91 x91) 92 x92) 93 x93) 94 x94) 95 x95) w))
theorem dispatcherlaw30_LimitsProducts_R2_eq (z : At) (K : Exit → Sl → World → Prop) (ρ : Sl) (w : World) : sx z Tryd.prog 106 dispatcherlaw30_LimitsProducts_R2 K ρ w = dispatcherlaw30_LimitsProducts_R2_F z K ρ w := by kernel_rfl
noncomputable def dispatcherlaw30_LimitsProducts_R3_F (z : At) (K : Exit → Sl → World → Prop) (ρ : Sl) (w : World) : Prop :=
  CondK (ρ 95) (K .ret (up ρ 6 (Value.bool false)) w) (K .normal ρ w)
theorem dispatcherlaw30_LimitsProducts_R3_eq (z : At) (K : Exit → Sl → World → Prop) (ρ : Sl) (w : World) : sx z Tryd.prog 106 dispatcherlaw30_LimitsProducts_R3 K ρ w = dispatcherlaw30_LimitsProducts_R3_F z K ρ w := by kernel_rfl
noncomputable def dispatcherlaw30_LimitsProducts_R4_F (z : At) (K : Exit → Sl → World → Prop) (ρ : Sl) (w : World) : Prop :=
  BK Tryd.prog .eql 3 (.tmp 96) (.const (Value.int .i64 64)) (ρ 2) (Value.int .i64 64) w fun x97 w => VG Tryd.prog x97 false (Instr.loadAt 25 (ρ 3)) w fun x99 w => MG Tryd.prog x97 false (ρ 2) w fun x100 w => BG Tryd.prog x97 false .add 3 (.tmp 100) (.const (Value.int .i64 1)) x100 (Value.int .i64 1) w fun x101 w => CG Tryd.prog x97 false (Value.func (Fn.func 6) #[] #[]) [x99, x101] w fun x102 w => MG Tryd.prog x97 false (ρ 11) w fun x103 w => BG Tryd.prog x97 false .geq 3 (.tmp 102) (.tmp 103) x102 x103 w fun x104 w => PK Tryd.prog x97 (Value.bool true) x104 w fun x105 w => K .ret (up (up (up (up (up (up (up (up (up (up (up ρ 96 (ρ 2)) 97 x97) 98 x97) 99 x99) 100 x100) 101 x101) 102 x102) 103 x103) 104 x104) 105 x105) 6 x105) w
theorem dispatcherlaw30_LimitsProducts_R4_eq (z : At) (K : Exit → Sl → World → Prop) (ρ : Sl) (w : World) : sx z Tryd.prog 106 dispatcherlaw30_LimitsProducts_R4 K ρ w = dispatcherlaw30_LimitsProducts_R4_F z K ρ w := by kernel_rfl
noncomputable def dispatcherlaw30_LimitsProducts_F (a0 a1 a2 : Value) (w : World) (R : Value → World → Prop) : Prop :=
  VK Tryd.prog (Instr.box 25 a0) w fun x3 w => VK Tryd.prog (Instr.box 25 a1) w fun x4 w => CK Tryd.prog (Value.func (Fn.func 4) #[] #[]) [] w fun x13 w => VK Tryd.prog (Op.unary UnOp.not x13) w fun x14 w => CondK x14 (R (Value.bool false) w) (VK Tryd.prog (Instr.loadAt 25 x3) w fun x15 w => VK Tryd.prog (Instr.loadAt 25 x4) w fun x16 w => VK Tryd.prog (Instr.buildSlice 23 2 [(0, x15), (1, x16)].toArray) w fun x17 w => CK Tryd.prog (Value.func (Fn.func 5) #[] #[]) [x17] w fun x18 w => BK Tryd.prog .gtr 3 (.tmp 18) (.const (Value.int .i64 3000)) x18 (Value.int .i64 3000) w fun x19 w => MG Tryd.prog x19 false a2 w fun x21 w => BG Tryd.prog x19 false .lss 3 (.tmp 21) (.const (Value.int .i64 1)) x21 (Value.int .i64 1) w fun x22 w => PK Tryd.prog x19 (Value.bool true) x22 w fun x23 w => MG Tryd.prog x23 false a2 w fun x25 w => BG Tryd.prog x23 false .gtr 3 (.tmp 25) (.const (Value.int .i64 64)) x25 (Value.int .i64 64) w fun x26 w => PK Tryd.prog x23 (Value.bool true) x26 w fun x27 w => CondK x27 (R (Value.bool true) w) (VK Tryd.prog (Instr.build 29 [(0, (Value.int .u8 1)), (1, (Value.int .i64 1))].toArray) w fun x28 w => VK Tryd.prog (Instr.buildSlice 22 1 [(0, x28)].toArray) w fun x29 w => VK Tryd.prog (Instr.loadAt 25 x3) w fun x31 w => VK Tryd.prog (Instr.loadAt 25 x4) w fun x32 w => VK Tryd.prog (Instr.buildSlice 23 2 [(0, x31), (1, x32)].toArray) w fun x33 w => VK Tryd.prog (Instr.build 25 [(0, (Value.int .u8 3)), (5, x29), (6, x33)].toArray) w fun x34 w => VK Tryd.prog (Instr.alloc 25 true (.tuple #[])) w fun x8 w => UK Tryd.prog (Instr.storeAt 25 x8 x34) w fun _ w => sx fn_ Tryd.prog 106 dispatcherlaw30_LimitsProducts_R0 (retK Tryd.prog [ResultVar.tmp 6] R) (up (up (up (up (up (up (up (up (up (up (up (up (up (up (up (up (up (up (up (up (up (up (up (up (up (up (up (rho0 [a0, a1, a2]) 3 x3) 4 x4) 6 (Value.bool false)) 13 x13) 14 x14) 15 x15) 16 x16) 17 x17) 18 x18) 19 x19) 20 x19) 21 x21) 22 x22) 23 x23) 24 x23) 25 x25) 26 x26) 27 x27) 28 x28) 29 x29) 7 x29) 30 x29) 31 x31) 32 x32) 33 x33) 34 x34) 8 x8) w))
theorem dispatcherlaw30_LimitsProducts_eq (a0 a1 a2 : Value) (w : World) (R : Value → World → Prop) : sx fn_ Tryd.prog 106 dispatcherlaw30_LimitsProducts_b (retK Tryd.prog Tryd.f3.results.toList R) (rho0 [a0, a1, a2]) w = dispatcherlaw30_LimitsProducts_F a0 a1 a2 w R := by kernel_rfl
theorem dispatcherlaw30_LimitsProducts_calls {a0 a1 a2 : Value} {w : World} {R : Value → World → Prop} (h : dispatcherlaw30_LimitsProducts_F a0 a1 a2 w R) : Calls Tryd.prog 3 #[a0, a1, a2] w fun e w' => ∃ v, e = .returned v ∧ R v w' :=
  Go.X.calls_of_sx (n := 106) (c := dispatcherlaw30_LimitsProducts_b) Tryd.func3 (by kernel_rfl) (by kernel_rfl) (Nat.le_of_ble_eq_true rfl) (by kernel_rfl) (Eq.mpr (dispatcherlaw30_LimitsProducts_eq a0 a1 a2 w R) h)
noncomputable def dispatcherlaw30_mul_b : Code := (Tryd.f8.body).getD .skip
noncomputable def dispatcherlaw30_mul_F (a0 a1 : Value) (w : World) (R : Value → World → Prop) : Prop :=
  BK Tryd.prog .quo 3 (.const (Value.int .i64 1048576)) (.tmp 6) (Value.int .i64 1048576) a1 w fun x7 w => BK Tryd.prog .gtr 3 (.tmp 5) (.tmp 7) a0 x7 w fun x8 w => CondK x8 (R (Value.int .i64 1048576) w) (BK Tryd.prog .mul 3 (.tmp 9) (.tmp 10) a0 a1 w fun x11 w => R x11 w)
theorem dispatcherlaw30_mul_eq (a0 a1 : Value) (w : World) (R : Value → World → Prop) : sx fn_ Tryd.prog 12 dispatcherlaw30_mul_b (retK Tryd.prog Tryd.f8.results.toList R) (rho0 [a0, a1]) w = dispatcherlaw30_mul_F a0 a1 w R := by kernel_rfl
theorem dispatcherlaw30_mul_calls {a0 a1 : Value} {w : World} {R : Value → World → Prop} (h : dispatcherlaw30_mul_F a0 a1 w R) : Calls Tryd.prog 8 #[a0, a1] w fun e w' => ∃ v, e = .returned v ∧ R v w' :=
  Go.X.calls_of_sx (n := 12) (c := dispatcherlaw30_mul_b) Tryd.func8 (by kernel_rfl) (by kernel_rfl) (Nat.le_of_ble_eq_true rfl) (by kernel_rfl) (Eq.mpr (dispatcherlaw30_mul_eq a0 a1 w R) h)
end Go.Proofs.YtpkfbaagpjdifaaDoor.XL
set_option linter.unusedVariables false
set_option linter.unusedSimpArgs false
set_option maxRecDepth 100000
namespace Go.Proofs.YtpkfbaagpjdifaaDoor.Tr
open Go Go.X Go.RowKit Go.Proofs.YtpkfbaagpjdifaaDoor.XL Go.Proofs.YtpkfbaagpjdifaaDoor.XK
def mayS (l : List St) : Bool := decide (St.deepAt l 1 ≤ 32) && St.mayL l
def waysQ (e : St) (n : Int) : Int := if mayS [e] = true ∧ 1 ≤ n ∧ n ≤ 64 then e.ways n else 1048576
def newL (b : Bs) (f : Pr → Bool) : Bool := (readP b).any fun p => p.fitsB && f p
theorem tl1 : newL [114, 101, 99, 118, 40, 48, 44, 32, 97, 110, 121, 44, 32, 48, 41, 59] (fun p => (match p.body with | [e] => mayS [e] && decide (e.ways 2 = 3) | _ => false) && decide (runsP p 2 = (9, 0)) && decide (stepsP p 2 = (6, 0))) = true := by kernel_rfl
theorem tl2 : newL [105, 110, 116, 32, 120, 59, 32, 120, 32, 61, 32, 49, 59] (fun p => decide (runsP p 2 = (1, 0))) = true := by kernel_rfl
theorem tl3 : newL [119, 104, 105, 108, 101, 32, 49, 32, 123, 32, 125] (fun p => decide (runsP p 2 = (0, 90))) = true := by kernel_rfl
set_option maxRecDepth 4000
theorem bPrL (A : Option Addr) (n c : Nat) : Tryd.prog.built 34 [(1, .slice A n c)] = some #[.slice none 0 0, .slice A n c] := by kernel_rfl
theorem Ways_ok {w : World} (hg : Gl w) {e : St} (he : e.Ok w) (hsz : e.sz ≤ 1000000000000) (n : Int) : Rt Tryd.prog 6 #[.agg e.cells.toArray, .int .i64 n] w fun v w' => v = .int .i64 (waysQ e n) ∧ Mod none_ w w' := by
  refine limits_Ways_calls ?_
  unfold limits_Ways_F
  refine box_k (cs := e.cells.toArray) rfl fun w1 hb1 hm1 hz1 => ?_
  refine ldB (cs := e.cells.toArray) Tryd.underlying25 rfl iSt hb1 ?_
  refine bs_k (cs := e.cells.toArray) (by kernel_rfl) fun w2 h2 hm2 hz2 => ?_
  rw [build_ok (bPrL _ _ _)]
  have hm02 := hm1.trans hm2
  obtain ⟨q, hq⟩ : ∃ q : Pr, q = ⟨.slice none 0 0, [], .slice (some ⟨w1.heap.size, 0, none⟩) 1 1, [e]⟩ := ⟨_, rfl⟩
  have hqc : (#[Value.slice none 0 0, Value.slice (some ⟨w1.heap.size, 0, none⟩) 1 1] : Array Value) = q.cells.toArray := by rw [hq]; rfl
  rw [hqc]
  have hqok : q.Ok w2 := by
    rw [hq]
    refine ⟨⟨reads_nil _ _, by simp⟩, by simpa using reads_blk (size := 10) (n := 1) h2 rfl, fun a ha => ?_⟩
    rw [List.mem_singleton.1 ha]
    exact he.mod hm02
  have hqf : q.fits := by
    rw [hq]
    refine ⟨by show (0 : Nat) ≤ _; omega, ?_⟩
    show St.szL [e] ≤ _
    simp only [St.szL]; omega
  have hqm : q.may = mayS [e] := by
    rw [hq]; unfold Pr.may mayS; simp
  refine CK_st Tryd.func7 rfl rfl (May_ok (hg.mod hm02) hqok hqf) ?_
  rintro _ w3 ⟨rfl, hm3⟩
  have hm03 := hm02.trans hm3
  rw [hqm]
  unfold waysQ
  cases hmay : mayS [e] with
  | false =>
    simp only [↓VG_u, ↓UG_u, ↓MG_u, ↓NG_u, ↓PG_u, ↓BG_u, ↓CG_u, ↓IG_u, ↓VGtt, ↓VGtf, ↓VGft, ↓VGff, ↓UGtt, ↓UGtf, ↓UGft, ↓UGff, ↓MGtt, ↓MGtf, ↓MGft, ↓MGff, ↓NGtt, ↓NGtf, ↓NGft, ↓NGff, ↓PGtt, ↓PGtf, ↓PGft, ↓PGff, ↓BGtt, ↓BGtf, ↓BGft, ↓BGff, ↓CGtt, ↓CGtf, ↓CGft, ↓CGff, ↓IGtt, ↓IGtf, ↓IGft, ↓IGff, ↓PKt, ↓PKf, ↓CDt, ↓CDf, ↓NOTt, ↓NOTf, ↓NK_ptr]
    exact ⟨by rw [if_neg (by simp)], hm03⟩
  | true =>
    simp only [↓VG_u, ↓UG_u, ↓MG_u, ↓NG_u, ↓PG_u, ↓BG_u, ↓CG_u, ↓IG_u, ↓VGtt, ↓VGtf, ↓VGft, ↓VGff, ↓UGtt, ↓UGtf, ↓UGft, ↓UGff, ↓MGtt, ↓MGtf, ↓MGft, ↓MGff, ↓NGtt, ↓NGtf, ↓NGft, ↓NGff, ↓PGtt, ↓PGtf, ↓PGft, ↓PGff, ↓BGtt, ↓BGtf, ↓BGft, ↓BGff, ↓CGtt, ↓CGtf, ↓CGft, ↓CGff, ↓IGtt, ↓IGtf, ↓IGft, ↓IGff, ↓PKt, ↓PKf, ↓CDt, ↓CDf, ↓NOTt, ↓NOTf, ↓NK_ptr]
    by_cases h1 : n < 1
    · simp only [↓VG_u, ↓UG_u, ↓MG_u, ↓NG_u, ↓PG_u, ↓BG_u, ↓CG_u, ↓IG_u, ↓VGtt, ↓VGtf, ↓VGft, ↓VGff, ↓UGtt, ↓UGtf, ↓UGft, ↓UGff, ↓MGtt, ↓MGtf, ↓MGft, ↓MGff, ↓NGtt, ↓NGtf, ↓NGft, ↓NGff, ↓PGtt, ↓PGtf, ↓PGft, ↓PGff, ↓BGtt, ↓BGtf, ↓BGft, ↓BGff, ↓CGtt, ↓CGtf, ↓CGft, ↓CGff, ↓IGtt, ↓IGtf, ↓IGft, ↓IGff, ↓PKt, ↓PKf, ↓CDt, ↓CDf, ↓NOTt, ↓NOTf, ↓NK_ptr, ↓LTt h1]
      rw [if_neg (by omega)]
      first | exact ⟨rfl, hm03⟩ | exact ⟨trivial, hm03⟩
    · simp only [↓VG_u, ↓UG_u, ↓MG_u, ↓NG_u, ↓PG_u, ↓BG_u, ↓CG_u, ↓IG_u, ↓VGtt, ↓VGtf, ↓VGft, ↓VGff, ↓UGtt, ↓UGtf, ↓UGft, ↓UGff, ↓MGtt, ↓MGtf, ↓MGft, ↓MGff, ↓NGtt, ↓NGtf, ↓NGft, ↓NGff, ↓PGtt, ↓PGtf, ↓PGft, ↓PGff, ↓BGtt, ↓BGtf, ↓BGft, ↓BGff, ↓CGtt, ↓CGtf, ↓CGft, ↓CGff, ↓IGtt, ↓IGtf, ↓IGft, ↓IGff, ↓PKt, ↓PKf, ↓CDt, ↓CDf, ↓NOTt, ↓NOTf, ↓NK_ptr, ↓LTf (show 1 ≤ n by omega)]
      by_cases h2 : 64 < n
      · simp only [↓VG_u, ↓UG_u, ↓MG_u, ↓NG_u, ↓PG_u, ↓BG_u, ↓CG_u, ↓IG_u, ↓VGtt, ↓VGtf, ↓VGft, ↓VGff, ↓UGtt, ↓UGtf, ↓UGft, ↓UGff, ↓MGtt, ↓MGtf, ↓MGft, ↓MGff, ↓NGtt, ↓NGtf, ↓NGft, ↓NGff, ↓PGtt, ↓PGtf, ↓PGft, ↓PGff, ↓BGtt, ↓BGtf, ↓BGft, ↓BGff, ↓CGtt, ↓CGtf, ↓CGft, ↓CGff, ↓IGtt, ↓IGtf, ↓IGft, ↓IGff, ↓PKt, ↓PKf, ↓CDt, ↓CDf, ↓NOTt, ↓NOTf, ↓NK_ptr, ↓GTt h2]
        rw [if_neg (by omega)]
        first | exact ⟨rfl, hm03⟩ | exact ⟨trivial, hm03⟩
      · simp only [↓VG_u, ↓UG_u, ↓MG_u, ↓NG_u, ↓PG_u, ↓BG_u, ↓CG_u, ↓IG_u, ↓VGtt, ↓VGtf, ↓VGft, ↓VGff, ↓UGtt, ↓UGtf, ↓UGft, ↓UGff, ↓MGtt, ↓MGtf, ↓MGft, ↓MGff, ↓NGtt, ↓NGtf, ↓NGft, ↓NGff, ↓PGtt, ↓PGtf, ↓PGft, ↓PGff, ↓BGtt, ↓BGtf, ↓BGft, ↓BGff, ↓CGtt, ↓CGtf, ↓CGft, ↓CGff, ↓IGtt, ↓IGtf, ↓IGft, ↓IGff, ↓PKt, ↓PKf, ↓CDt, ↓CDf, ↓NOTt, ↓NOTf, ↓NK_ptr, ↓GTf (show n ≤ 64 by omega)]
        rw [if_pos ⟨by first | rfl | trivial, by omega, by omega⟩]
        refine ldB (cs := e.cells.toArray) Tryd.underlying25 rfl iSt ((hm2.trans hm3).blk hb1 id) ?_
        have hme : e.may = true := by
          unfold mayS at hmay
          simp only [Bool.and_eq_true, St.mayL] at hmay
          exact hmay.2.1
        refine CK_st Tryd.func13 rfl rfl (ways_ok ⟨by omega, by omega⟩ e w3 (he.mod hm03) (by omega) hme) ?_
        rintro _ w4 ⟨rfl, hm4⟩
        exact ⟨rfl, hm03.trans hm4⟩
theorem read30_ok {b : Bs} {pr : Pr} (h : readP b = some pr) (hf : pr.fits) {w : World} : Rt Tryd.prog 9 #[.string (bs b)] w fun v w' => ∃ q : Pr, v = .agg q.cells.toArray ∧ q.er = pr ∧ q.Ok w' ∧ Mod none_ w w' := by
  refine dispatcherlaw30_read_calls ?_
  unfold dispatcherlaw30_read_F
  refine al_k (cs := zPc) zPr rfl _ fun w1 hb1 hm1 hz1 => ?_
  refine bytes_k Tryd.underlying9 Tryd.underlying52 Tryd.underlying5 b fun v w2 hr hm2 => ?_
  refine Parse_tx h hf hr fun x q w3 he hO hm3 => ?_
  have hq := hO.ok
  have hb3 := hm3.blk (hm2.blk hb1 id) id
  have hm03 := (hm1.trans hm2).trans hm3
  rw [extract_ok (v := .agg q.cells.toArray) rfl, extract_ok (v := .agg zWc) rfl]
  refine al_k (cs := zPc) zPr rfl _ fun w4 hb4 hm4 hz4 => ?_
  refine al_k (cs := zWc) zWr' rfl _ fun w5 hb5 hm5 hz5 => ?_
  have hb35 := hm5.blk (hm4.blk hb3 id) id
  have hlt := blk_lt hb3
  refine stS (old := zPc) (cs := q.cells.toArray) rfl rfl iPr' rfl (oneOk hq) (hm5.blk hb4 id) fun w6 hb6 hm6 hz6 => ?_
  refine stS (old := zWc) (cs := zWc) rfl rfl iWr' rfl (by kernel_rfl) (hm6.blk hb5 (by omega)) fun w7 hb7 hm7 hz7 => ?_
  have hb67 := hm7.blk hb6 (by omega)
  refine ldS (cs := q.cells.toArray) rfl Tryd.underlying34 rfl iPr' hb67 ?_
  refine stS (old := zPc) (cs := q.cells.toArray) rfl rfl iPr' rfl (oneOk hq) (hm7.blk (hm6.blk hb35 (by omega)) (by omega)) fun w8 hb8 hm8 hz8 => ?_
  have hm38 : Mod none_ w w8 := ((((hm03.trans hm4).trans hm5).then hm6 fun i hi q => by have := hm03.size; omega).then hm7 fun i hi q => by have := hm03.size; omega).then hm8 fun i hi q => by omega
  have hm37 : Mod none_ w3 w7 := ((hm4.trans hm5).then hm6 fun i hi q => by omega).then hm7 fun i hi q => by omega
  have hs2 := hm2.size
  have hq8 : PrOwn w8 w2.heap.size q := (hO.mod0 hm37).off hm8 fun k q => by omega
  exact rsCell (R := fun v w' => ∃ q : Pr, v = .agg q.cells.toArray ∧ q.er = pr ∧ q.Ok w' ∧ Mod none_ w w') (cs := q.cells.toArray) rfl Tryd.underlying34 rfl iPr' hb8 ⟨q, rfl, he, hq8.ok, hm38⟩
theorem mayS_er (l : List St) : mayS (l.map St.er) = mayS l := by unfold mayS; rw [St.deepAt_er, St.mayL_er]
theorem awake30_ok {w : World} (hg : Gl w) : Rt Tryd.prog 4 #[] w fun v w' => v = .bool true ∧ Mod none_ w w' := by
  obtain ⟨p1, hr1, hf1⟩ := got tl1
  obtain ⟨p2, hr2, hf2⟩ := got tl2
  obtain ⟨p3, hr3, hf3⟩ := got tl3
  rw [Bool.and_eq_true, Bool.and_eq_true, Bool.and_eq_true, decide_eq_true_iff, decide_eq_true_iff] at hf1
  rw [Bool.and_eq_true, decide_eq_true_iff] at hf2 hf3
  obtain ⟨hfit1, ⟨hone, hruns⟩, hsteps⟩ := hf1
  have hfit1 := Pr.fits_of hfit1
  have hfit2 := Pr.fits_of hf2.1
  have hfit3 := Pr.fits_of hf3.1
  refine dispatcherlaw30_awake_calls ?_
  unfold dispatcherlaw30_awake_F
  refine CK_st Tryd.func9 rfl rfl (read30_ok hr1 hfit1) ?_
  rintro _ w1 ⟨q1, rfl, he1, hq1, hm1⟩
  have hpe1 : q1.er = p1.er := by rw [← he1, Pr.er_er]
  refine lcl_k (cs := q1.cells.toArray) zPr _ iPr' rfl (oneOk hq1) fun w2 hb2 hm2 hz2 => ?_
  have hm02 := hm1.trans hm2
  have hq12 := hq1.mod hm2
  have hfq := fits_of hpe1 hfit1
  have hbm : q1.body.map St.er = p1.body.map St.er := by have := congrArg Pr.body hpe1; exact this
  obtain ⟨e0, hb0, hmay0, hw0⟩ : ∃ e0, p1.body = [e0] ∧ mayS [e0] = true ∧ e0.ways 2 = 3 := by
    split at hone
    · rename_i e heq
      rw [Bool.and_eq_true, decide_eq_true_iff] at hone
      exact ⟨e, heq, hone.1, hone.2⟩
    · cases hone
  have hl1 : q1.body.length = 1 := by have := congrArg List.length hbm; rw [List.length_map, List.length_map, hb0] at this; exact this
  obtain ⟨e, hbe⟩ := List.length_eq_one_iff.1 hl1
  have hee : e.er = e0.er := by rw [hbe, hb0] at hbm; simpa using hbm
  have hwe : e.ways 2 = 3 := by rw [← St.ways_er, hee, St.ways_er]; exact hw0
  have hme : mayS [e] = true := by
    rw [← mayS_er, show [e].map St.er = [e0].map St.er by simp [hee], mayS_er]; exact hmay0
  obtain ⟨A, c, hbs, _⟩ := reads_cap hq12.b.1
  rw [hl1] at hbs
  have f1 : FO Tryd.prog w2 34 1 1 ⟨w1.heap.size, 0, none⟩ 23 (.slice A 1 c) := FO.blk hb2 (by kernel_rfl) uSts rfl (by rw [← hbs]; rfl)
  simp only [↓f1.e]
  rw [len_sl uSts]
  simp only [↓VG_u, ↓UG_u, ↓MG_u, ↓NG_u, ↓PG_u, ↓BG_u, ↓CG_u, ↓IG_u, ↓VGtt, ↓VGtf, ↓VGft, ↓VGff, ↓UGtt, ↓UGtf, ↓UGft, ↓UGff, ↓MGtt, ↓MGtf, ↓MGft, ↓MGff, ↓NGtt, ↓NGtf, ↓NGft, ↓NGff, ↓PGtt, ↓PGtf, ↓PGft, ↓PGff, ↓BGtt, ↓BGtf, ↓BGft, ↓BGff, ↓CGtt, ↓CGtf, ↓CGft, ↓CGff, ↓IGtt, ↓IGtf, ↓IGft, ↓IGff, ↓PKt, ↓PKf, ↓CDt, ↓CDf, ↓NOTt, ↓NOTf, ↓NK_ptr, ↓NEf (show ((1 : Nat) : Int) = 1 by rfl), ↓f1.e]
  have hx0 : q1.body[0]? = some e := by rw [hbe]; rfl
  refine ixSt (i := 0) (hbs ▸ hq12.b) hx0 fun x18 => ?_
  have hesz : e.sz ≤ 1048576 := by
    have h1 := St.szL_at hx0
    have h2 : St.szL q1.body = St.szL p1.body := by rw [← St.szL_er, hbm, St.szL_er]
    have h3 : St.szL p1.body ≤ 1000 := by
      have : (newL [114, 101, 99, 118, 40, 48, 44, 32, 97, 110, 121, 44, 32, 48, 41, 59] fun p => decide (St.szL p.body ≤ 1000)) = true := by kernel_rfl
      obtain ⟨p', hr', hf'⟩ := got this
      rw [hr1] at hr'
      cases hr'
      rw [Bool.and_eq_true, decide_eq_true_iff] at hf'
      exact hf'.2
    omega
  refine CK_st Tryd.func6 rfl rfl (Ways_ok (hg.mod hm02) (hq12.b.at hx0) (by omega) 2) ?_
  rintro _ w3 ⟨rfl, hm3⟩
  have hwq : waysQ e 2 = 3 := by unfold waysQ; rw [if_pos ⟨hme, by omega, by omega⟩]; exact hwe
  simp only [↓VG_u, ↓UG_u, ↓MG_u, ↓NG_u, ↓PG_u, ↓BG_u, ↓CG_u, ↓IG_u, ↓VGtt, ↓VGtf, ↓VGft, ↓VGff, ↓UGtt, ↓UGtf, ↓UGft, ↓UGff, ↓MGtt, ↓MGtf, ↓MGft, ↓MGff, ↓NGtt, ↓NGtf, ↓NGft, ↓NGff, ↓PGtt, ↓PGtf, ↓PGft, ↓PGff, ↓BGtt, ↓BGtf, ↓BGft, ↓BGff, ↓CGtt, ↓CGtf, ↓CGft, ↓CGff, ↓IGtt, ↓IGtf, ↓IGft, ↓IGff, ↓PKt, ↓PKf, ↓CDt, ↓CDf, ↓NOTt, ↓NOTf, ↓NK_ptr, ↓NEf hwq]
  have hm03 := hm02.trans hm3
  have hb23 := hm3.blk hb2 id
  refine ldB (cs := q1.cells.toArray) Tryd.underlying34 rfl iPr' hb23 ?_
  refine CK_st Tryd.func10 rfl rfl (Runs_ok (hg.mod hm03) (hq12.mod hm3) hfq 2) ?_
  rintro _ w4 ⟨rfl, hm4⟩
  have hm04 := hm03.trans hm4
  have hb24 := hm4.blk hb23 id
  rw [runsP_er hpe1, hruns, extract_ok (v := .int .i64 9) rfl, extract_ok (v := .int .i64 0) rfl]
  refine ldB (cs := q1.cells.toArray) Tryd.underlying34 rfl iPr' hb24 ?_
  refine CK_st Tryd.func11 rfl rfl (Steps_ok (hg.mod hm04) ((hq12.mod hm3).mod hm4) hfq 2) ?_
  rintro _ w5 ⟨rfl, hm5⟩
  have hm05 := hm04.trans hm5
  rw [stepsP_er hpe1, hsteps, extract_ok (v := .int .i64 6) rfl, extract_ok (v := .int .i64 0) rfl]
  have fin : ∀ ρ : Sl, ρ 2 = .int .i64 9 → ρ 3 = .int .i64 0 → ρ 4 = .int .i64 6 → ρ 5 = .int .i64 0 → sx fn_ Tryd.prog 69 dispatcherlaw30_awake_R0 (retK Tryd.prog [ResultVar.tmp 0] fun v w' => v = .bool true ∧ Mod none_ w w') ρ w5 := by
    intro ρ r2 r3 r4 r5
    rw [dispatcherlaw30_awake_R0_eq]
    unfold dispatcherlaw30_awake_R0_F
    rw [r2, r3, r4, r5]
    refine CK_st Tryd.func9 rfl rfl (read30_ok hr2 hfit2) ?_
    rintro _ w6 ⟨q2, rfl, he2, hq2, hm6⟩
    have hpe2 : q2.er = p2.er := by rw [← he2, Pr.er_er]
    refine CK_st Tryd.func10 rfl rfl (Runs_ok ((hg.mod hm05).mod hm6) hq2 (fits_of hpe2 hfit2) 2) ?_
    rintro _ w7 ⟨rfl, hm7⟩
    rw [runsP_er hpe2, hf2.2, extract_ok (v := .int .i64 1) rfl, extract_ok (v := .int .i64 0) rfl]
    refine CK_st Tryd.func9 rfl rfl (read30_ok hr3 hfit3) ?_
    rintro _ w8 ⟨q3, rfl, he3, hq3, hm8⟩
    have hpe3 : q3.er = p3.er := by rw [← he3, Pr.er_er]
    have hm08 := ((hm05.trans hm6).trans hm7).trans hm8
    refine CK_st Tryd.func10 rfl rfl (Runs_ok (hg.mod hm08) hq3 (fits_of hpe3 hfit3) 2) ?_
    rintro _ w9 ⟨rfl, hm9⟩
    rw [runsP_er hpe3, hf3.2, extract_ok (v := .int .i64 0) rfl, extract_ok (v := .int .i64 90) rfl]
    simp only [↓VG_u, ↓UG_u, ↓MG_u, ↓NG_u, ↓PG_u, ↓BG_u, ↓CG_u, ↓IG_u, ↓VGtt, ↓VGtf, ↓VGft, ↓VGff, ↓UGtt, ↓UGtf, ↓UGft, ↓UGff, ↓MGtt, ↓MGtf, ↓MGft, ↓MGff, ↓NGtt, ↓NGtf, ↓NGft, ↓NGff, ↓PGtt, ↓PGtf, ↓PGft, ↓PGff, ↓BGtt, ↓BGtf, ↓BGft, ↓BGff, ↓CGtt, ↓CGtf, ↓CGft, ↓CGff, ↓IGtt, ↓IGtf, ↓IGft, ↓IGff, ↓PKt, ↓PKf, ↓CDt, ↓CDf, ↓NOTt, ↓NOTf, ↓NK_ptr, ↓EQt (rfl : (9 : Int) = 9)]
    simp only [↓VG_u, ↓UG_u, ↓MG_u, ↓NG_u, ↓PG_u, ↓BG_u, ↓CG_u, ↓IG_u, ↓VGtt, ↓VGtf, ↓VGft, ↓VGff, ↓UGtt, ↓UGtf, ↓UGft, ↓UGff, ↓MGtt, ↓MGtf, ↓MGft, ↓MGff, ↓NGtt, ↓NGtf, ↓NGft, ↓NGff, ↓PGtt, ↓PGtf, ↓PGft, ↓PGff, ↓BGtt, ↓BGtf, ↓BGft, ↓BGff, ↓CGtt, ↓CGtf, ↓CGft, ↓CGff, ↓IGtt, ↓IGtf, ↓IGft, ↓IGff, ↓PKt, ↓PKf, ↓CDt, ↓CDf, ↓NOTt, ↓NOTf, ↓NK_ptr, ↓EQt (rfl : (0 : Int) = 0)]
    simp only [↓VG_u, ↓UG_u, ↓MG_u, ↓NG_u, ↓PG_u, ↓BG_u, ↓CG_u, ↓IG_u, ↓VGtt, ↓VGtf, ↓VGft, ↓VGff, ↓UGtt, ↓UGtf, ↓UGft, ↓UGff, ↓MGtt, ↓MGtf, ↓MGft, ↓MGff, ↓NGtt, ↓NGtf, ↓NGft, ↓NGff, ↓PGtt, ↓PGtf, ↓PGft, ↓PGff, ↓BGtt, ↓BGtf, ↓BGft, ↓BGff, ↓CGtt, ↓CGtf, ↓CGft, ↓CGff, ↓IGtt, ↓IGtf, ↓IGft, ↓IGff, ↓PKt, ↓PKf, ↓CDt, ↓CDf, ↓NOTt, ↓NOTf, ↓NK_ptr, ↓EQt (rfl : (6 : Int) = 6)]
    simp only [↓VG_u, ↓UG_u, ↓MG_u, ↓NG_u, ↓PG_u, ↓BG_u, ↓CG_u, ↓IG_u, ↓VGtt, ↓VGtf, ↓VGft, ↓VGff, ↓UGtt, ↓UGtf, ↓UGft, ↓UGff, ↓MGtt, ↓MGtf, ↓MGft, ↓MGff, ↓NGtt, ↓NGtf, ↓NGft, ↓NGff, ↓PGtt, ↓PGtf, ↓PGft, ↓PGff, ↓BGtt, ↓BGtf, ↓BGft, ↓BGff, ↓CGtt, ↓CGtf, ↓CGft, ↓CGff, ↓IGtt, ↓IGtf, ↓IGft, ↓IGff, ↓PKt, ↓PKf, ↓CDt, ↓CDf, ↓NOTt, ↓NOTf, ↓NK_ptr, ↓EQt (rfl : (0 : Int) = 0)]
    simp only [↓VG_u, ↓UG_u, ↓MG_u, ↓NG_u, ↓PG_u, ↓BG_u, ↓CG_u, ↓IG_u, ↓VGtt, ↓VGtf, ↓VGft, ↓VGff, ↓UGtt, ↓UGtf, ↓UGft, ↓UGff, ↓MGtt, ↓MGtf, ↓MGft, ↓MGff, ↓NGtt, ↓NGtf, ↓NGft, ↓NGff, ↓PGtt, ↓PGtf, ↓PGft, ↓PGff, ↓BGtt, ↓BGtf, ↓BGft, ↓BGff, ↓CGtt, ↓CGtf, ↓CGft, ↓CGff, ↓IGtt, ↓IGtf, ↓IGft, ↓IGff, ↓PKt, ↓PKf, ↓CDt, ↓CDf, ↓NOTt, ↓NOTf, ↓NK_ptr, ↓EQt (rfl : (1 : Int) = 1)]
    simp only [↓VG_u, ↓UG_u, ↓MG_u, ↓NG_u, ↓PG_u, ↓BG_u, ↓CG_u, ↓IG_u, ↓VGtt, ↓VGtf, ↓VGft, ↓VGff, ↓UGtt, ↓UGtf, ↓UGft, ↓UGff, ↓MGtt, ↓MGtf, ↓MGft, ↓MGff, ↓NGtt, ↓NGtf, ↓NGft, ↓NGff, ↓PGtt, ↓PGtf, ↓PGft, ↓PGff, ↓BGtt, ↓BGtf, ↓BGft, ↓BGff, ↓CGtt, ↓CGtf, ↓CGft, ↓CGff, ↓IGtt, ↓IGtf, ↓IGft, ↓IGff, ↓PKt, ↓PKf, ↓CDt, ↓CDf, ↓NOTt, ↓NOTf, ↓NK_ptr, ↓EQt (rfl : (0 : Int) = 0)]
    simp only [↓VG_u, ↓UG_u, ↓MG_u, ↓NG_u, ↓PG_u, ↓BG_u, ↓CG_u, ↓IG_u, ↓VGtt, ↓VGtf, ↓VGft, ↓VGff, ↓UGtt, ↓UGtf, ↓UGft, ↓UGff, ↓MGtt, ↓MGtf, ↓MGft, ↓MGff, ↓NGtt, ↓NGtf, ↓NGft, ↓NGff, ↓PGtt, ↓PGtf, ↓PGft, ↓PGff, ↓BGtt, ↓BGtf, ↓BGft, ↓BGff, ↓CGtt, ↓CGtf, ↓CGft, ↓CGff, ↓IGtt, ↓IGtf, ↓IGft, ↓IGff, ↓PKt, ↓PKf, ↓CDt, ↓CDf, ↓NOTt, ↓NOTf, ↓NK_ptr, ↓EQt (rfl : (90 : Int) = 90)]
    exact ⟨rfl, hm08.trans hm9⟩
  exact fin _ rfl rfl rfl rfl
end Go.Proofs.YtpkfbaagpjdifaaDoor.Tr
set_option linter.unusedVariables false
set_option linter.unusedSimpArgs false
set_option maxRecDepth 4000
namespace Go.X
open Go Go.RowKit Go.Proofs.YtpkfbaagpjdifaaDoor.Tr
theorem mulP_mono {a b x y : Int} (ha : 1 ≤ a ∧ a ≤ b) (hb : b ≤ 1048576) (hx : 1 ≤ x ∧ x ≤ y) : mulP a x ≤ mulP b y := by
  unfold mulP
  have h1 : a * min x 1048576 ≤ b * min x 1048576 := Int.mul_le_mul_of_nonneg_right ha.2 (by omega)
  have h2 : b * min x 1048576 ≤ b * min y 1048576 := Int.mul_le_mul_of_nonneg_left (by omega) (by omega)
  omega
theorem foldP_mono {α : Type} {f g : α → Int} : ∀ (l : List α) (a b : Int), 1 ≤ a ∧ a ≤ b → b ≤ 1048576 → (∀ x ∈ l, 1 ≤ f x ∧ f x ≤ g x) → (l.map f).foldl mulP a ≤ (l.map g).foldl mulP b
  | [], a, b, h, _, _ => h.2
  | x :: r, a, b, h, hb, hl => by
    rw [List.map_cons, List.map_cons, List.foldl_cons, List.foldl_cons]
    have hx := hl x (by simp)
    have h1 := mulP_in (a := a) (by omega) hx.1
    have h2 := mulP_in (a := b) (b := g x) (by omega) (by omega)
    exact foldP_mono r _ _ ⟨h1.1, mulP_mono h hb hx⟩ h2.2 fun y hy => hl y (List.mem_cons_of_mem _ hy)
theorem powP_eq {x n : Int} : prodP (timesP x n) = prodP (List.replicate n.toNat x) := by
  unfold timesP
  by_cases h : x = 1
  · rw [if_pos h, h]
    have : ∀ n : Nat, prodP (List.replicate n 1) = 1 := fun n => by
      induction n with
      | zero => rfl
      | succ n ih => rw [List.replicate_succ', prodP_snoc, ih]; rfl
    rw [this]; rfl
  · rw [if_neg h]
theorem powP_mono {x y n m : Int} (hx : 1 ≤ x ∧ x ≤ y) (hn : n ≤ m) : prodP (timesP x n) ≤ prodP (timesP y m) := by
  rw [powP_eq, powP_eq]
  have h1 : prodP (List.replicate n.toNat x) ≤ prodP (List.replicate n.toNat y) := by
    have := foldP_mono (f := fun _ : Nat => x) (g := fun _ : Nat => y) (List.range n.toNat) 1 1 ⟨by omega, by omega⟩ (by omega) fun _ _ => hx
    have e : ∀ z : Int, (List.range n.toNat).map (fun _ => z) = List.replicate n.toNat z := fun z => by simp [List.map_const']
    rw [e, e] at this
    exact this
  have h2 : ∀ k j : Nat, prodP (List.replicate k y) ≤ prodP (List.replicate (k + j) y) := fun k j => by
    induction j with
    | zero => exact Int.le_refl _
    | succ j ih =>
      refine Int.le_trans ih ?_
      rw [show k + (j + 1) = (k + j) + 1 by omega, List.replicate_succ', prodP_snoc]
      have hin := prodP_in (xs := List.replicate (k + j) y) fun z hz => by rw [List.eq_of_mem_replicate hz]; omega
      unfold mulP
      have : prodP (List.replicate (k + j) y) * 1 ≤ prodP (List.replicate (k + j) y) * min y 1048576 := Int.mul_le_mul_of_nonneg_left (by omega) (by omega)
      omega
  have h3 := h2 n.toNat (m.toNat - n.toNat)
  rw [show n.toNat + (m.toNat - n.toNat) = m.toNat by omega] at h3
  omega
theorem St.ways_mono {r : Int} (hr : 1 ≤ r) : ∀ e : St, e.ways r ≤ e.ways (r + 1) := by
  intro e
  induction e using St.ind with
  | h e ih1 ih2 =>
    have hB : St.waysL r e.body ≤ St.waysL (r + 1) e.body := foldP_mono e.body 1 1 ⟨by omega, by omega⟩ (by omega) fun a ha => ⟨St.ways_in hr a, ih1 a ha⟩
    have hE : St.waysL r e.els ≤ St.waysL (r + 1) e.els := foldP_mono e.els 1 1 ⟨by omega, by omega⟩ (by omega) fun a ha => ⟨St.ways_in hr a, ih2 a ha⟩
    have gB := St.waysL_in hr e.body
    have gE := St.waysL_in hr e.els
    rw [St.ways_eq, St.ways_eq]
    unfold waysB
    by_cases k3 : e.op = 3
    · rw [if_pos k3, if_pos k3]; unfold mx; split <;> split <;> omega
    · rw [if_neg k3, if_neg k3]
      by_cases k4 : e.op = 4
      · rw [if_pos k4, if_pos k4]; split <;> split <;> omega
      · rw [if_neg k4, if_neg k4]
        by_cases k5 : e.op = 5
        · rw [if_pos k5, if_pos k5]
          exact powP_mono ⟨gB.1, hB⟩ (by split <;> omega)
        · rw [if_neg k5, if_neg k5]
          unfold outB
          split
          · split
            · omega
            · split
              · omega
              · split
                · omega
                · split <;> omega
          · omega
theorem St.ways_far {r : Int} (hr : 1 ≤ r ∧ r ≤ 64) {e : St} (hm : e.may = true) : e.ways r ≤ 1048576 := by
  have gB := St.waysL_in hr.1 e.body
  have gE := St.waysL_in hr.1 e.els
  rw [St.ways_eq]
  unfold waysB
  split
  · unfold mx; split <;> omega
  · split
    · split <;> omega
    · split
      · exact (prodP_in (timesP_in gB.1)).2
      · unfold outB
        cases hd : e.dec with
        | false => simp
        | true =>
          have k8 : e.op = 8 := by unfold St.dec at hd; rw [Bool.and_eq_true, decide_eq_true_iff] at hd; exact hd.1
          rw [St.may_eq] at hm
          simp only [Bool.and_eq_true] at hm
          have ho := hm.1.1.1
          unfold St.own St.rng argsP at ho
          rw [k8] at ho
          rw [if_pos rfl]
          by_cases c14 : e.kind = 14
          · rw [if_pos c14]; omega
          · rw [if_neg c14]
            by_cases c11 : e.kind = 11
            · rw [if_pos c11]; omega
            · rw [if_neg c11]
              by_cases c10 : e.kind = 10
              · rw [if_pos c10]
                rw [c10] at ho
                simp at ho
                omega
              · rw [if_neg c10]
                by_cases c12 : e.kind = 12
                · rw [if_pos c12]
                  rw [c12] at ho
                  simp at ho
                  omega
                · rw [if_neg c12]; omega
theorem mulP_id {x : Int} (h : 1 ≤ x ∧ x ≤ 1048576) : mulP 1 x = x := by
  unfold mulP; rw [Int.one_mul]; omega
def mulL (a b : Int) : Int := if (1048576 : Int).tdiv b < a then 1048576 else a * b
theorem mulL_eq {a b : Int} (ha : 1 ≤ a ∧ a ≤ 1048576) (hb : 1 ≤ b ∧ b ≤ 1048576) : mulL a b = mulP a b := by
  unfold mulL mulP
  rw [show min b 1048576 = b by omega, Int.tdiv_eq_ediv_of_nonneg (by omega)]
  have h1 := Int.mul_ediv_self_le (x := 1048576) (k := b) (by omega)
  have h2 := Int.lt_mul_ediv_self_add (x := 1048576) (k := b) (by omega)
  have hc : b * a = a * b := Int.mul_comm _ _
  split
  · rename_i q
    have : b * (1048576 / b + 1) ≤ b * a := Int.mul_le_mul_of_nonneg_left (by omega) (by omega)
    rw [Int.mul_add, Int.mul_one] at this
    omega
  · rename_i q
    have : b * a ≤ b * (1048576 / b) := Int.mul_le_mul_of_nonneg_left (by omega) (by omega)
    omega
end Go.X
namespace Go.Proofs.YtpkfbaagpjdifaaDoor.Tr
open Go Go.X Go.RowKit
def condX : Ex := ⟨1, 1, bs [], .slice none 0 0, [], 0, 0⟩
def bothS (es ab : Value) (a b : St) : St := ⟨3, 0, 0, bs [], 0, es, [condX], ab, [a, b], .slice none 0 0, [], 0, 0⟩
def sidesS (es va vb : Value) (a b : St) : St := ⟨3, 0, 0, bs [], 0, es, [condX], va, [a], vb, [b], 0, 0⟩
def twiceS (va : Value) (a : St) : St := ⟨5, 0, 0, bs [120], 2, .slice none 0 0, [], va, [a], .slice none 0 0, [], 0, 0⟩
theorem blocksL'_iff {k : Nat} : ∀ {l : List St}, St.blocksL' l ≤ k ↔ ∀ a ∈ l, a.blocks ≤ k
  | [] => by simp [St.blocksL']
  | a :: r => by rw [St.blocksL', Nat.max_le, blocksL'_iff (l := r), List.forall_mem_cons]
theorem exprDL_iff {k : Nat} : ∀ {l : List St}, St.exprDL l ≤ k ↔ ∀ a ∈ l, a.exprD ≤ k
  | [] => by simp [St.exprDL]
  | a :: r => by rw [St.exprDL, Nat.max_le, exprDL_iff (l := r), List.forall_mem_cons]
theorem deepAt_iff {l : List St} : St.deepAt l 1 ≤ 32 ↔ ∀ a ∈ l, a.blocks ≤ 31 ∧ a.exprD ≤ 32 := by
  unfold St.deepAt
  split
  · rename_i h
    obtain rfl : l = [] := List.length_eq_zero_iff.1 h
    simp
  · rw [Nat.max_le, exprDL_iff, show 1 + St.blocksL' l ≤ 32 ↔ St.blocksL' l ≤ 31 by omega, blocksL'_iff]
    exact ⟨fun h a ha => ⟨h.1 a ha, h.2 a ha⟩, fun h => ⟨fun a ha => (h a ha).1, fun a ha => (h a ha).2⟩⟩
theorem mayS_iff {l : List St} : mayS l = true ↔ ∀ a ∈ l, (a.blocks ≤ 31 ∧ a.exprD ≤ 32) ∧ a.may = true := by
  unfold mayS
  rw [Bool.and_eq_true, decide_eq_true_iff, deepAt_iff, St.mayL_eq, List.all_eq_true]
  exact ⟨fun h a ha => ⟨h.1 a ha, h.2 a ha⟩, fun h => ⟨fun a ha => (h a ha).1, fun a ha => (h a ha).2⟩⟩
theorem blocksL_at {l : List St} {a : St} (h : a ∈ l) : a.blocks + 1 ≤ St.blocksL l := by
  unfold St.blocksL
  rw [if_neg (by rintro q; rw [List.length_eq_zero_iff.1 q] at h; cases h)]
  have := (blocksL'_iff (l := l) (k := St.blocksL' l)).1 (Nat.le_refl _) a h
  omega
theorem exprDL_at {l : List St} {a : St} (h : a ∈ l) : a.exprD ≤ St.exprDL l := (exprDL_iff (l := l)).1 (Nat.le_refl _) a h
theorem mayS_body {e a : St} (h : mayS [e] = true) (ha : a ∈ e.body) : mayS [a] = true := by
  rw [mayS_iff] at h ⊢
  obtain ⟨⟨h1, h2⟩, h3⟩ := h e (by simp)
  intro x hx
  rw [List.mem_singleton.1 hx]
  have hb := St.blocks_eq e
  have he := St.exprD_eq e
  have q1 := blocksL_at ha
  have q2 := exprDL_at ha
  exact ⟨⟨by omega, by omega⟩, (may_parts h3).2.1 a ha⟩
theorem mayS_parts {es ab va vb va2 : Value} {a b : St} (h : mayS [bothS es ab a b, sidesS es va vb a b, twiceS va2 a] = true) : (mayS [a] = true ∧ mayS [b] = true) ∧ mayS [bothS es ab a b] = true ∧ mayS [sidesS es va vb a b] = true ∧ mayS [twiceS va2 a] = true := by
  have one : ∀ x ∈ [bothS es ab a b, sidesS es va vb a b, twiceS va2 a], mayS [x] = true := fun x hx => by
    rw [mayS_iff] at h ⊢
    intro y hy
    rw [List.mem_singleton.1 hy]
    exact h x hx
  have h1 := one (bothS es ab a b) (by simp)
  refine ⟨⟨mayS_body h1 (?_ : a ∈ [a, b]), mayS_body h1 (?_ : b ∈ [a, b])⟩, h1, one _ (by simp), one _ (by simp)⟩
  · simp
  · simp
theorem ways_both {r : Int} (hr : 1 ≤ r ∧ r ≤ 64) {es ab : Value} {a b : St} (ha : a.may = true) (hb : b.may = true) : (bothS es ab a b).ways r = mulP (a.ways r) (b.ways r) := by
  have h1 := St.ways_in hr.1 a; have h2 := St.ways_far hr ha; have h3 := St.ways_in hr.1 b
  have hin := mulP_in ⟨h1, h2⟩ h3
  rw [St.ways_eq]
  show mx (St.waysL r [a, b]) (St.waysL r []) = _
  have e : St.waysL r [a, b] = mulP (mulP 1 (a.ways r)) (b.ways r) := rfl
  rw [e, mulP_id ⟨h1, h2⟩]
  show mx _ 1 = _
  unfold mx; split <;> omega
theorem ways_sides {r : Int} (hr : 1 ≤ r ∧ r ≤ 64) {es va vb : Value} {a b : St} (ha : a.may = true) (hb : b.may = true) : (sidesS es va vb a b).ways r = mx (a.ways r) (b.ways r) := by
  rw [St.ways_eq]
  show mx (mulP 1 (a.ways r)) (mulP 1 (b.ways r)) = _
  rw [mulP_id ⟨St.ways_in hr.1 a, St.ways_far hr ha⟩, mulP_id ⟨St.ways_in hr.1 b, St.ways_far hr hb⟩]
theorem ways_twice {r : Int} (hr : 1 ≤ r ∧ r ≤ 64) {va : Value} {a : St} (ha : a.may = true) : (twiceS va a).ways r = mulP (a.ways r) (a.ways r) := by
  have h1 := St.ways_in hr.1 a; have h2 := St.ways_far hr ha
  rw [St.ways_eq]
  show prodP (timesP (mulP 1 (a.ways r)) 2) = _
  rw [mulP_id ⟨h1, h2⟩, powP_eq]
  show mulP (mulP 1 (a.ways r)) (a.ways r) = _
  rw [mulP_id ⟨h1, h2⟩]
theorem waysQ_in {e : St} {n : Int} (hn : 1 ≤ n ∧ n ≤ 64) : 1 ≤ waysQ e n ∧ waysQ e n ≤ 1048576 := by
  unfold waysQ
  split
  · rename_i q
    have hme : e.may = true := by
      have := q.1
      unfold mayS at this
      simp only [Bool.and_eq_true, St.mayL] at this
      exact this.2.1
    exact ⟨St.ways_in hn.1 e, St.ways_far hn hme⟩
  · omega
theorem mayS_may {e : St} (h : mayS [e] = true) : e.may = true := by
  unfold mayS at h
  simp only [Bool.and_eq_true, St.mayL] at h
  exact h.2.1
theorem waysQ_may {e : St} {n : Int} (h : mayS [e] = true) (hn : 1 ≤ n ∧ n ≤ 64) : waysQ e n = e.ways n := by unfold waysQ; rw [if_pos ⟨h, hn⟩]
theorem waysQ_up {e : St} {n : Int} (hn : 1 ≤ n ∧ n < 64) : waysQ e n ≤ waysQ e (n + 1) := by
  unfold waysQ
  by_cases h : mayS [e] = true
  · rw [if_pos ⟨h, by omega, by omega⟩, if_pos ⟨h, by omega, by omega⟩]; exact St.ways_mono hn.1 e
  · rw [if_neg fun q => h q.1, if_neg fun q => h q.1]; omega
end Go.Proofs.YtpkfbaagpjdifaaDoor.Tr
set_option linter.unusedVariables false
set_option linter.unusedSimpArgs false
set_option maxRecDepth 4000
namespace Go.Proofs.YtpkfbaagpjdifaaDoor.Tr
open Go Go.X Go.RowKit Go.Proofs.YtpkfbaagpjdifaaDoor.XL Go.Proofs.YtpkfbaagpjdifaaDoor.XK
abbrev prodR (w0 : World) : Value → World → Prop := fun v w' => v = .bool true ∧ Mod none_ w0 w'
theorem BK_quo {P : Program} {w : World} {K : Value → World → Prop} {t : TypeId} {x y : Operand} {a b : Int} (hb : b ≠ 0) : BK P .quo t x y (.int .i64 a) (.int .i64 b) w K = K (.int .i64 (IntKind.i64.wrap (a.tdiv b))) w := by
  refine BK_of rfl ?_
  rw [binOp_quo]
  simp [Op.intDiv, hb]
theorem mulLaw_ok {w : World} {a b : Int} (ha : 1 ≤ a ∧ a ≤ 1048576) (hb : 1 ≤ b ∧ b ≤ 1048576) : Rt Tryd.prog 8 #[.int .i64 a, .int .i64 b] w fun v w' => v = .int .i64 (mulP a b) ∧ w' = w := by
  refine dispatcherlaw30_mul_calls ?_
  unfold dispatcherlaw30_mul_F
  have hd : 0 ≤ (1048576 : Int).tdiv b ∧ (1048576 : Int).tdiv b ≤ 1048576 := by
    rw [Int.tdiv_eq_ediv_of_nonneg (by omega)]
    exact ⟨Int.ediv_nonneg (by omega) (by omega), Int.ediv_le_self _ (by omega)⟩
  rw [BK_quo (by omega), wrap_i (by omega) (by omega)]
  have hm := mulL_eq ha hb
  unfold mulL at hm
  by_cases h1 : (1048576 : Int).tdiv b < a
  · simp only [↓VG_u, ↓UG_u, ↓MG_u, ↓NG_u, ↓PG_u, ↓BG_u, ↓CG_u, ↓IG_u, ↓VGtt, ↓VGtf, ↓VGft, ↓VGff, ↓UGtt, ↓UGtf, ↓UGft, ↓UGff, ↓MGtt, ↓MGtf, ↓MGft, ↓MGff, ↓NGtt, ↓NGtf, ↓NGft, ↓NGff, ↓PGtt, ↓PGtf, ↓PGft, ↓PGff, ↓BGtt, ↓BGtf, ↓BGft, ↓BGff, ↓CGtt, ↓CGtf, ↓CGft, ↓CGff, ↓IGtt, ↓IGtf, ↓IGft, ↓IGff, ↓PKt, ↓PKf, ↓CDt, ↓CDf, ↓NOTt, ↓NOTf, ↓NK_ptr, ↓GTt h1]
    rw [if_pos h1] at hm
    exact ⟨congrArg (Value.int .i64) hm, by first | rfl | trivial⟩
  · simp only [↓VG_u, ↓UG_u, ↓MG_u, ↓NG_u, ↓PG_u, ↓BG_u, ↓CG_u, ↓IG_u, ↓VGtt, ↓VGtf, ↓VGft, ↓VGff, ↓UGtt, ↓UGtf, ↓UGft, ↓UGff, ↓MGtt, ↓MGtf, ↓MGft, ↓MGff, ↓NGtt, ↓NGtf, ↓NGft, ↓NGff, ↓PGtt, ↓PGtf, ↓PGft, ↓PGff, ↓BGtt, ↓BGtf, ↓BGft, ↓BGff, ↓CGtt, ↓CGtf, ↓CGft, ↓CGff, ↓IGtt, ↓IGtf, ↓IGft, ↓IGff, ↓PKt, ↓PKf, ↓CDt, ↓CDf, ↓NOTt, ↓NOTf, ↓NK_ptr, ↓GTf (show a ≤ (1048576 : Int).tdiv b by omega)]
    rw [if_neg h1] at hm
    have hbig := mul_big ha hb
    rw [BK_mul, wrap_i (by omega) (by omega)]
    exact ⟨congrArg (Value.int .i64) hm, by first | rfl | trivial⟩
theorem prod4 {w0 w : World} (hg : Gl w0) {a : St} (ha : a.Ok w0) (hsz : a.sz ≤ 1048576) (hm : Mod none_ w0 w) {n : Int} (hn : 1 ≤ n ∧ n ≤ 64) {b3 : Nat} (hb3 : w.heap[b3]? = some (.cells a.cells.toArray tS (0, 0))) {ρ : Sl} (r2 : ρ 2 = .int .i64 n) (r3 : ρ 3 = pt b3) (r11 : ρ 11 = .int .i64 (waysQ a n)) : sx fn_ Tryd.prog 106 dispatcherlaw30_LimitsProducts_R4 (retK Tryd.prog [ResultVar.tmp 6] (prodR w0)) ρ w := by
  rw [dispatcherlaw30_LimitsProducts_R4_eq]
  unfold dispatcherlaw30_LimitsProducts_R4_F
  rw [r2, r3, r11]
  by_cases h : n = 64
  · simp only [↓VG_u, ↓UG_u, ↓MG_u, ↓NG_u, ↓PG_u, ↓BG_u, ↓CG_u, ↓IG_u, ↓VGtt, ↓VGtf, ↓VGft, ↓VGff, ↓UGtt, ↓UGtf, ↓UGft, ↓UGff, ↓MGtt, ↓MGtf, ↓MGft, ↓MGff, ↓NGtt, ↓NGtf, ↓NGft, ↓NGff, ↓PGtt, ↓PGtf, ↓PGft, ↓PGff, ↓BGtt, ↓BGtf, ↓BGft, ↓BGff, ↓CGtt, ↓CGtf, ↓CGft, ↓CGff, ↓IGtt, ↓IGtf, ↓IGft, ↓IGff, ↓PKt, ↓PKf, ↓CDt, ↓CDf, ↓NOTt, ↓NOTf, ↓NK_ptr, ↓EQt h]
    first | exact ⟨rfl, hm⟩ | exact ⟨trivial, hm⟩
  · simp only [↓VG_u, ↓UG_u, ↓MG_u, ↓NG_u, ↓PG_u, ↓BG_u, ↓CG_u, ↓IG_u, ↓VGtt, ↓VGtf, ↓VGft, ↓VGff, ↓UGtt, ↓UGtf, ↓UGft, ↓UGff, ↓MGtt, ↓MGtf, ↓MGft, ↓MGff, ↓NGtt, ↓NGtf, ↓NGft, ↓NGff, ↓PGtt, ↓PGtf, ↓PGft, ↓PGff, ↓BGtt, ↓BGtf, ↓BGft, ↓BGff, ↓CGtt, ↓CGtf, ↓CGft, ↓CGff, ↓IGtt, ↓IGtf, ↓IGft, ↓IGff, ↓PKt, ↓PKf, ↓CDt, ↓CDf, ↓NOTt, ↓NOTf, ↓NK_ptr, ↓EQf h]
    refine ldS (cs := a.cells.toArray) rfl Tryd.underlying25 rfl iSt hb3 ?_
    rw [BK_add, wrap_i (by omega) (by omega)]
    try simp only [↓VG_u, ↓UG_u, ↓MG_u, ↓NG_u, ↓PG_u, ↓BG_u, ↓CG_u, ↓IG_u, ↓VGtt, ↓VGtf, ↓VGft, ↓VGff, ↓UGtt, ↓UGtf, ↓UGft, ↓UGff, ↓MGtt, ↓MGtf, ↓MGft, ↓MGff, ↓NGtt, ↓NGtf, ↓NGft, ↓NGff, ↓PGtt, ↓PGtf, ↓PGft, ↓PGff, ↓BGtt, ↓BGtf, ↓BGft, ↓BGff, ↓CGtt, ↓CGtf, ↓CGft, ↓CGff, ↓IGtt, ↓IGtf, ↓IGft, ↓IGff, ↓PKt, ↓PKf, ↓CDt, ↓CDf, ↓NOTt, ↓NOTf, ↓NK_ptr]
    refine CK_st Tryd.func6 rfl rfl (Ways_ok (hg.mod hm) (ha.mod hm) (by omega) (n + 1)) ?_
    rintro _ w1 ⟨rfl, hm1⟩
    simp only [↓VG_u, ↓UG_u, ↓MG_u, ↓NG_u, ↓PG_u, ↓BG_u, ↓CG_u, ↓IG_u, ↓VGtt, ↓VGtf, ↓VGft, ↓VGff, ↓UGtt, ↓UGtf, ↓UGft, ↓UGff, ↓MGtt, ↓MGtf, ↓MGft, ↓MGff, ↓NGtt, ↓NGtf, ↓NGft, ↓NGff, ↓PGtt, ↓PGtf, ↓PGft, ↓PGff, ↓BGtt, ↓BGtf, ↓BGft, ↓BGff, ↓CGtt, ↓CGtf, ↓CGft, ↓CGff, ↓IGtt, ↓IGtf, ↓IGft, ↓IGff, ↓PKt, ↓PKf, ↓CDt, ↓CDf, ↓NOTt, ↓NOTf, ↓NK_ptr, ↓GEt (waysQ_up (e := a) (n := n) (by omega))]
    first | exact ⟨rfl, hm.trans hm1⟩ | exact ⟨trivial, hm.trans hm1⟩
section
variable {w0 w : World} (hg : Gl w0) {a b : St} (ha : a.Ok w0) (hsz : a.sz + b.sz ≤ 1048576) (hm : Mod none_ w0 w) {n : Int} (hn : 1 ≤ n ∧ n ≤ 64) {b3 : Nat} (hb3 : w.heap[b3]? = some (.cells a.cells.toArray tS (0, 0)))
include hg ha hsz hm hn hb3
theorem prod2 {es ab va vb va2 : Value} {b8 b9 b10 : Nat} (h8 : w.heap[b8]? = some (.cells (bothS es ab a b).cells.toArray tS (0, 0))) (h9 : w.heap[b9]? = some (.cells (sidesS es va vb a b).cells.toArray tS (0, 0))) (h10 : w.heap[b10]? = some (.cells (twiceS va2 a).cells.toArray tS (0, 0)))
    (o8 : (bothS es ab a b).Ok w) (o9 : (sidesS es va vb a b).Ok w) (o10 : (twiceS va2 a).Ok w) {ρ : Sl} (r2 : ρ 2 = .int .i64 n) (r3 : ρ 3 = pt b3) (r8 : ρ 8 = pt b8) (r9 : ρ 9 = pt b9) (r10 : ρ 10 = pt b10) (r11 : ρ 11 = .int .i64 (waysQ a n)) (r12 : ρ 12 = .int .i64 (waysQ b n)) :
    sx fn_ Tryd.prog 106 dispatcherlaw30_LimitsProducts_R2 (retK Tryd.prog [ResultVar.tmp 6] (prodR w0)) ρ w := by
  rw [dispatcherlaw30_LimitsProducts_R2_eq]
  unfold dispatcherlaw30_LimitsProducts_R2_F
  rw [r11, r12, r8, r9, r10, r2]
  have ia := waysQ_in (e := a) hn
  have ib := waysQ_in (e := b) hn
  simp only [↓VG_u, ↓UG_u, ↓MG_u, ↓NG_u, ↓PG_u, ↓BG_u, ↓CG_u, ↓IG_u, ↓VGtt, ↓VGtf, ↓VGft, ↓VGff, ↓UGtt, ↓UGtf, ↓UGft, ↓UGff, ↓MGtt, ↓MGtf, ↓MGft, ↓MGff, ↓NGtt, ↓NGtf, ↓NGft, ↓NGff, ↓PGtt, ↓PGtf, ↓PGft, ↓PGff, ↓BGtt, ↓BGtf, ↓BGft, ↓BGff, ↓CGtt, ↓CGtf, ↓CGft, ↓CGff, ↓IGtt, ↓IGtf, ↓IGft, ↓IGff, ↓PKt, ↓PKf, ↓CDt, ↓CDf, ↓NOTt, ↓NOTf, ↓NK_ptr, ↓LTf ia.1]
  simp only [↓VG_u, ↓UG_u, ↓MG_u, ↓NG_u, ↓PG_u, ↓BG_u, ↓CG_u, ↓IG_u, ↓VGtt, ↓VGtf, ↓VGft, ↓VGff, ↓UGtt, ↓UGtf, ↓UGft, ↓UGff, ↓MGtt, ↓MGtf, ↓MGft, ↓MGff, ↓NGtt, ↓NGtf, ↓NGft, ↓NGff, ↓PGtt, ↓PGtf, ↓PGft, ↓PGff, ↓BGtt, ↓BGtf, ↓BGft, ↓BGff, ↓CGtt, ↓CGtf, ↓CGft, ↓CGff, ↓IGtt, ↓IGtf, ↓IGft, ↓IGff, ↓PKt, ↓PKf, ↓CDt, ↓CDf, ↓NOTt, ↓NOTf, ↓NK_ptr, ↓LTf ib.1]
  simp only [↓VG_u, ↓UG_u, ↓MG_u, ↓NG_u, ↓PG_u, ↓BG_u, ↓CG_u, ↓IG_u, ↓VGtt, ↓VGtf, ↓VGft, ↓VGff, ↓UGtt, ↓UGtf, ↓UGft, ↓UGff, ↓MGtt, ↓MGtf, ↓MGft, ↓MGff, ↓NGtt, ↓NGtf, ↓NGft, ↓NGff, ↓PGtt, ↓PGtf, ↓PGft, ↓PGff, ↓BGtt, ↓BGtf, ↓BGft, ↓BGff, ↓CGtt, ↓CGtf, ↓CGft, ↓CGff, ↓IGtt, ↓IGtf, ↓IGft, ↓IGff, ↓PKt, ↓PKf, ↓CDt, ↓CDf, ↓NOTt, ↓NOTf, ↓NK_ptr, ↓GTf ia.2]
  simp only [↓VG_u, ↓UG_u, ↓MG_u, ↓NG_u, ↓PG_u, ↓BG_u, ↓CG_u, ↓IG_u, ↓VGtt, ↓VGtf, ↓VGft, ↓VGff, ↓UGtt, ↓UGtf, ↓UGft, ↓UGff, ↓MGtt, ↓MGtf, ↓MGft, ↓MGff, ↓NGtt, ↓NGtf, ↓NGft, ↓NGff, ↓PGtt, ↓PGtf, ↓PGft, ↓PGff, ↓BGtt, ↓BGtf, ↓BGft, ↓BGff, ↓CGtt, ↓CGtf, ↓CGft, ↓CGff, ↓IGtt, ↓IGtf, ↓IGft, ↓IGff, ↓PKt, ↓PKf, ↓CDt, ↓CDf, ↓NOTt, ↓NOTf, ↓NK_ptr, ↓GTf ib.2]
  refine ldS (cs := (bothS es ab a b).cells.toArray) rfl Tryd.underlying25 rfl iSt h8 ?_
  refine ldS (cs := (sidesS es va vb a b).cells.toArray) rfl Tryd.underlying25 rfl iSt h9 ?_
  refine ldS (cs := (twiceS va2 a).cells.toArray) rfl Tryd.underlying25 rfl iSt h10 ?_
  refine bs_k (cs := ((bothS es ab a b).cells ++ ((sidesS es va vb a b).cells ++ (twiceS va2 a).cells)).toArray) (by kernel_rfl) fun w1 h1 hm1 hz1 => ?_
  rw [build_ok (bPrL _ _ _)]
  obtain ⟨q, hq⟩ : ∃ q : Pr, q = ⟨.slice none 0 0, [], .slice (some ⟨w.heap.size, 0, none⟩) 3 3, [bothS es ab a b, sidesS es va vb a b, twiceS va2 a]⟩ := ⟨_, rfl⟩
  have hqc : (#[Value.slice none 0 0, Value.slice (some ⟨w.heap.size, 0, none⟩) 3 3] : Array Value) = q.cells.toArray := by rw [hq]; rfl
  rw [hqc]
  have hqok : q.Ok w1 := by
    rw [hq]
    refine ⟨⟨reads_nil _ _, by simp⟩, by simpa using reads_blk (size := 10) (n := 3) h1 rfl, fun x hx => ?_⟩
    rcases List.mem_cons.1 hx with rfl | hx
    · exact o8.mod hm1
    · rcases List.mem_cons.1 hx with rfl | hx
      · exact o9.mod hm1
      · rw [List.mem_singleton.1 hx]; exact o10.mod hm1
  have z8 : (bothS es ab a b).sz = 2 + a.sz + b.sz := by simp only [bothS, condX, St.sz, St.szL, Ex.szL, Ex.sz]; show 1 + 0 + (1 + 0 + 0 + 0) + (a.sz + (b.sz + 0)) + 0 = _; omega
  have z9 : (sidesS es va vb a b).sz = 2 + a.sz + b.sz := by simp only [sidesS, condX, St.sz, St.szL, Ex.szL, Ex.sz]; show 1 + 0 + (1 + 0 + 0 + 0) + (a.sz + 0) + (b.sz + 0) = _; omega
  have z10 : (twiceS va2 a).sz = 2 + a.sz := by simp only [twiceS, St.sz, St.szL, Ex.szL]; show 1 + 1 + 0 + (a.sz + 0) + 0 = _; omega
  have hqf : q.fits := by
    rw [hq]
    refine ⟨by show (0 : Nat) ≤ _; omega, ?_⟩
    show St.szL [bothS es ab a b, sidesS es va vb a b, twiceS va2 a] ≤ _
    simp only [St.szL, z8, z9, z10]; omega
  have hqm : q.may = mayS [bothS es ab a b, sidesS es va vb a b, twiceS va2 a] := by
    rw [hq]; unfold Pr.may mayS; simp
  refine CK_st Tryd.func7 rfl rfl (May_ok ((hg.mod hm).mod hm1) hqok hqf) ?_
  rintro _ w2 ⟨rfl, hm2⟩
  rw [hqm]
  have hm12 := hm1.trans hm2
  have hm02 := hm.trans hm12
  cases hmay : mayS [bothS es ab a b, sidesS es va vb a b, twiceS va2 a] with
  | false =>
    simp only [↓VG_u, ↓UG_u, ↓MG_u, ↓NG_u, ↓PG_u, ↓BG_u, ↓CG_u, ↓IG_u, ↓VGtt, ↓VGtf, ↓VGft, ↓VGff, ↓UGtt, ↓UGtf, ↓UGft, ↓UGff, ↓MGtt, ↓MGtf, ↓MGft, ↓MGff, ↓NGtt, ↓NGtf, ↓NGft, ↓NGff, ↓PGtt, ↓PGtf, ↓PGft, ↓PGff, ↓BGtt, ↓BGtf, ↓BGft, ↓BGff, ↓CGtt, ↓CGtf, ↓CGft, ↓CGff, ↓IGtt, ↓IGtf, ↓IGft, ↓IGff, ↓PKt, ↓PKf, ↓CDt, ↓CDf, ↓NOTt, ↓NOTf, ↓NK_ptr]
    first | exact ⟨rfl, hm02⟩ | exact ⟨trivial, hm02⟩
  | true =>
    simp only [↓VG_u, ↓UG_u, ↓MG_u, ↓NG_u, ↓PG_u, ↓BG_u, ↓CG_u, ↓IG_u, ↓VGtt, ↓VGtf, ↓VGft, ↓VGff, ↓UGtt, ↓UGtf, ↓UGft, ↓UGff, ↓MGtt, ↓MGtf, ↓MGft, ↓MGff, ↓NGtt, ↓NGtf, ↓NGft, ↓NGff, ↓PGtt, ↓PGtf, ↓PGft, ↓PGff, ↓BGtt, ↓BGtf, ↓BGft, ↓BGff, ↓CGtt, ↓CGtf, ↓CGft, ↓CGff, ↓IGtt, ↓IGtf, ↓IGft, ↓IGff, ↓PKt, ↓PKf, ↓CDt, ↓CDf, ↓NOTt, ↓NOTf, ↓NK_ptr]
    obtain ⟨⟨ma, mb⟩, m8, m9, m10⟩ := mayS_parts hmay
    have ma' := mayS_may ma
    have mb' := mayS_may mb
    refine ldS (cs := (bothS es ab a b).cells.toArray) rfl Tryd.underlying25 rfl iSt (hm12.blk h8 id) ?_
    refine CK_st Tryd.func6 rfl rfl (Ways_ok (hg.mod hm02) (o8.mod hm12) (by omega) n) ?_
    rintro _ w3 ⟨rfl, hm3⟩
    refine CK_st Tryd.func8 rfl rfl (mulLaw_ok ia ib) ?_
    rintro _ _ ⟨rfl, rfl⟩
    have hm13 := hm12.trans hm3
    have q8 : waysQ (bothS es ab a b) n = mulP (waysQ a n) (waysQ b n) := by rw [waysQ_may m8 hn, waysQ_may ma hn, waysQ_may mb hn, ways_both hn ma' mb']
    simp only [↓VG_u, ↓UG_u, ↓MG_u, ↓NG_u, ↓PG_u, ↓BG_u, ↓CG_u, ↓IG_u, ↓VGtt, ↓VGtf, ↓VGft, ↓VGff, ↓UGtt, ↓UGtf, ↓UGft, ↓UGff, ↓MGtt, ↓MGtf, ↓MGft, ↓MGff, ↓NGtt, ↓NGtf, ↓NGft, ↓NGff, ↓PGtt, ↓PGtf, ↓PGft, ↓PGff, ↓BGtt, ↓BGtf, ↓BGft, ↓BGff, ↓CGtt, ↓CGtf, ↓CGft, ↓CGff, ↓IGtt, ↓IGtf, ↓IGft, ↓IGff, ↓PKt, ↓PKf, ↓CDt, ↓CDf, ↓NOTt, ↓NOTf, ↓NK_ptr, ↓NEf q8]
    refine ldS (cs := (sidesS es va vb a b).cells.toArray) rfl Tryd.underlying25 rfl iSt (hm13.blk h9 id) ?_
    try simp only [↓VG_u, ↓UG_u, ↓MG_u, ↓NG_u, ↓PG_u, ↓BG_u, ↓CG_u, ↓IG_u, ↓VGtt, ↓VGtf, ↓VGft, ↓VGff, ↓UGtt, ↓UGtf, ↓UGft, ↓UGff, ↓MGtt, ↓MGtf, ↓MGft, ↓MGff, ↓NGtt, ↓NGtf, ↓NGft, ↓NGff, ↓PGtt, ↓PGtf, ↓PGft, ↓PGff, ↓BGtt, ↓BGtf, ↓BGft, ↓BGff, ↓CGtt, ↓CGtf, ↓CGft, ↓CGff, ↓IGtt, ↓IGtf, ↓IGft, ↓IGff, ↓PKt, ↓PKf, ↓CDt, ↓CDf, ↓NOTt, ↓NOTf, ↓NK_ptr]
    refine CK_st Tryd.func6 rfl rfl (Ways_ok (hg.mod (hm.trans hm13)) (o9.mod hm13) (by omega) n) ?_
    rintro _ w4 ⟨rfl, hm4⟩
    try simp only [↓VG_u, ↓UG_u, ↓MG_u, ↓NG_u, ↓PG_u, ↓BG_u, ↓CG_u, ↓IG_u, ↓VGtt, ↓VGtf, ↓VGft, ↓VGff, ↓UGtt, ↓UGtf, ↓UGft, ↓UGff, ↓MGtt, ↓MGtf, ↓MGft, ↓MGff, ↓NGtt, ↓NGtf, ↓NGft, ↓NGff, ↓PGtt, ↓PGtf, ↓PGft, ↓PGff, ↓BGtt, ↓BGtf, ↓BGft, ↓BGff, ↓CGtt, ↓CGtf, ↓CGft, ↓CGff, ↓IGtt, ↓IGtf, ↓IGft, ↓IGff, ↓PKt, ↓PKf, ↓CDt, ↓CDf, ↓NOTt, ↓NOTf, ↓NK_ptr]
    rw [max_i]
    have hm14 := hm13.trans hm4
    have q9 : waysQ (sidesS es va vb a b) n = (if waysQ b n > waysQ a n then waysQ b n else waysQ a n) := by rw [waysQ_may m9 hn, waysQ_may ma hn, waysQ_may mb hn, ways_sides hn ma' mb']; rfl
    simp only [↓VG_u, ↓UG_u, ↓MG_u, ↓NG_u, ↓PG_u, ↓BG_u, ↓CG_u, ↓IG_u, ↓VGtt, ↓VGtf, ↓VGft, ↓VGff, ↓UGtt, ↓UGtf, ↓UGft, ↓UGff, ↓MGtt, ↓MGtf, ↓MGft, ↓MGff, ↓NGtt, ↓NGtf, ↓NGft, ↓NGff, ↓PGtt, ↓PGtf, ↓PGft, ↓PGff, ↓BGtt, ↓BGtf, ↓BGft, ↓BGff, ↓CGtt, ↓CGtf, ↓CGft, ↓CGff, ↓IGtt, ↓IGtf, ↓IGft, ↓IGff, ↓PKt, ↓PKf, ↓CDt, ↓CDf, ↓NOTt, ↓NOTf, ↓NK_ptr, ↓NEf q9]
    refine ldS (cs := (twiceS va2 a).cells.toArray) rfl Tryd.underlying25 rfl iSt (hm14.blk h10 id) ?_
    try simp only [↓VG_u, ↓UG_u, ↓MG_u, ↓NG_u, ↓PG_u, ↓BG_u, ↓CG_u, ↓IG_u, ↓VGtt, ↓VGtf, ↓VGft, ↓VGff, ↓UGtt, ↓UGtf, ↓UGft, ↓UGff, ↓MGtt, ↓MGtf, ↓MGft, ↓MGff, ↓NGtt, ↓NGtf, ↓NGft, ↓NGff, ↓PGtt, ↓PGtf, ↓PGft, ↓PGff, ↓BGtt, ↓BGtf, ↓BGft, ↓BGff, ↓CGtt, ↓CGtf, ↓CGft, ↓CGff, ↓IGtt, ↓IGtf, ↓IGft, ↓IGff, ↓PKt, ↓PKf, ↓CDt, ↓CDf, ↓NOTt, ↓NOTf, ↓NK_ptr]
    refine CK_st Tryd.func6 rfl rfl (Ways_ok (hg.mod (hm.trans hm14)) (o10.mod hm14) (by omega) n) ?_
    rintro _ w5 ⟨rfl, hm5⟩
    try simp only [↓VG_u, ↓UG_u, ↓MG_u, ↓NG_u, ↓PG_u, ↓BG_u, ↓CG_u, ↓IG_u, ↓VGtt, ↓VGtf, ↓VGft, ↓VGff, ↓UGtt, ↓UGtf, ↓UGft, ↓UGff, ↓MGtt, ↓MGtf, ↓MGft, ↓MGff, ↓NGtt, ↓NGtf, ↓NGft, ↓NGff, ↓PGtt, ↓PGtf, ↓PGft, ↓PGff, ↓BGtt, ↓BGtf, ↓BGft, ↓BGff, ↓CGtt, ↓CGtf, ↓CGft, ↓CGff, ↓IGtt, ↓IGtf, ↓IGft, ↓IGff, ↓PKt, ↓PKf, ↓CDt, ↓CDf, ↓NOTt, ↓NOTf, ↓NK_ptr]
    refine CK_st Tryd.func8 rfl rfl (mulLaw_ok ia ia) ?_
    rintro _ _ ⟨rfl, rfl⟩
    have q10 : waysQ (twiceS va2 a) n = mulP (waysQ a n) (waysQ a n) := by rw [waysQ_may m10 hn, waysQ_may ma hn, ways_twice hn ma']
    simp only [↓VG_u, ↓UG_u, ↓MG_u, ↓NG_u, ↓PG_u, ↓BG_u, ↓CG_u, ↓IG_u, ↓VGtt, ↓VGtf, ↓VGft, ↓VGff, ↓UGtt, ↓UGtf, ↓UGft, ↓UGff, ↓MGtt, ↓MGtf, ↓MGft, ↓MGff, ↓NGtt, ↓NGtf, ↓NGft, ↓NGff, ↓PGtt, ↓PGtf, ↓PGft, ↓PGff, ↓BGtt, ↓BGtf, ↓BGft, ↓BGff, ↓CGtt, ↓CGtf, ↓CGft, ↓CGff, ↓IGtt, ↓IGtf, ↓IGft, ↓IGff, ↓PKt, ↓PKf, ↓CDt, ↓CDf, ↓NOTt, ↓NOTf, ↓NK_ptr, ↓NEf q10]
    rw [dispatcherlaw30_LimitsProducts_R3_eq]
    unfold dispatcherlaw30_LimitsProducts_R3_F
    refine condF ?_
    rw [sq_n]
    have hm15 := hm14.trans hm5
    refine prod4 hg ha (by omega) (hm.trans hm15) hn (hm15.blk hb3 id) ?_ ?_ ?_
    · exact r2
    · exact r3
    · exact r11
end
theorem bEx1 : Tryd.prog.built 29 [(0, .int .u8 1), (1, .int .i64 1)] = some condX.cells.toArray := by kernel_rfl
theorem bSt3 (A B : Option Addr) (n c m d : Nat) : Tryd.prog.built 25 [(0, .int .u8 3), (5, .slice A n c), (6, .slice B m d)] = some #[.int .u8 3, .int .u8 0, .int .u8 0, .string (bs []), .int .i64 0, .slice A n c, .slice B m d, .slice none 0 0, .int .i64 0, .int .i64 0] := by kernel_rfl
theorem bSt4 (A B C : Option Addr) (n c m d k e : Nat) : Tryd.prog.built 25 [(0, .int .u8 3), (5, .slice A n c), (6, .slice B m d), (7, .slice C k e)] = some #[.int .u8 3, .int .u8 0, .int .u8 0, .string (bs []), .int .i64 0, .slice A n c, .slice B m d, .slice C k e, .int .i64 0, .int .i64 0] := by kernel_rfl
theorem bSt5 (B : Option Addr) (m d : Nat) : Tryd.prog.built 25 [(0, .int .u8 5), (3, .string { data := #[120] }), (4, .int .i64 2), (6, .slice B m d)] = some #[.int .u8 5, .int .u8 0, .int .u8 0, .string (bs [120]), .int .i64 2, .slice none 0 0, .slice B m d, .slice none 0 0, .int .i64 0, .int .i64 0] := by kernel_rfl
theorem condX_ok (w : World) : condX.Ok w := Ex.ok.2 ⟨reads_nil _ _, by refine ⟨by decide, by decide, by decide, by decide, by decide⟩, by intro x hx; cases hx⟩
theorem sts1_ok {w : World} {g : Nat} {a : St} (h : w.heap[g]? = some (.cells a.cells.toArray tS (0, 0))) (ha : a.Ok w) : StsOk w (.slice (some ⟨g, 0, none⟩) 1 1) [a] :=
  ⟨by simpa using reads_blk (size := 10) (n := 1) h rfl, fun x hx => by rw [List.mem_singleton.1 hx]; exact ha⟩
theorem sts2_ok {w : World} {g : Nat} {a b : St} (h : w.heap[g]? = some (.cells (a.cells ++ b.cells).toArray tS (0, 0))) (ha : a.Ok w) (hb : b.Ok w) : StsOk w (.slice (some ⟨g, 0, none⟩) 2 2) [a, b] :=
  ⟨by simpa using reads_blk (size := 10) (n := 2) h rfl, fun x hx => by
    rcases List.mem_cons.1 hx with rfl | hx
    · exact ha
    · rw [List.mem_singleton.1 hx]; exact hb⟩
theorem sts0_ok (w : World) : StsOk w (.slice none 0 0) [] := ⟨reads_nil _ _, by simp⟩
theorem exs0_ok (w : World) : ExsOk w (.slice none 0 0) [] := ⟨reads_nil _ _, by simp⟩
theorem exs1_ok {w : World} {g : Nat} (h : w.heap[g]? = some (.cells condX.cells.toArray tE (0, 0))) : ExsOk w (.slice (some ⟨g, 0, none⟩) 1 1) [condX] :=
  ⟨by simpa using reads_blk (size := 6) (n := 1) h rfl, fun x hx => by rw [List.mem_singleton.1 hx]; exact condX_ok w⟩
theorem st_mk {w : World} {e : St} (h1 : ExsOk w e.es e.exprs) (h2 : StsOk w e.bs e.body) (h3 : StsOk w e.ls e.els) (h4 : e.fine) : e.Ok w := St.ok.2 ⟨h1, h2, h3, h4⟩
theorem elS : Tryd.prog.elem 23 = tS := by kernel_rfl
theorem elE : Tryd.prog.elem 22 = tE := by kernel_rfl
theorem LimitsProducts_ok {w : World} (hg : Gl w) {a b : St} (ha : a.Ok w) (hb : b.Ok w) (hsz : a.sz + b.sz ≤ 1048576) (n : Int) : Rt Tryd.prog 3 #[.agg a.cells.toArray, .agg b.cells.toArray, .int .i64 n] w fun v w' => v = .bool true ∧ Mod none_ w w' := by
  refine dispatcherlaw30_LimitsProducts_calls ?_
  unfold dispatcherlaw30_LimitsProducts_F
  refine box_k (cs := a.cells.toArray) rfl fun w1 hb1 hm1 hz1 => ?_
  refine box_k (cs := b.cells.toArray) rfl fun w2 hb2 hm2 hz2 => ?_
  have hb12 := hm2.blk hb1 id
  have hm02 := hm1.trans hm2
  generalize hx3 : w.heap.size = b3 at *
  generalize hx4 : w1.heap.size = b4 at *
  refine CK_st Tryd.func4 rfl rfl (awake30_ok (hg.mod hm02)) ?_
  rintro _ w3 ⟨rfl, hm3⟩
  have hm03 := hm02.trans hm3
  have hb13 := hm3.blk hb12 id
  have hb23 := hm3.blk hb2 id
  simp only [↓VG_u, ↓UG_u, ↓MG_u, ↓NG_u, ↓PG_u, ↓BG_u, ↓CG_u, ↓IG_u, ↓VGtt, ↓VGtf, ↓VGft, ↓VGff, ↓UGtt, ↓UGtf, ↓UGft, ↓UGff, ↓MGtt, ↓MGtf, ↓MGft, ↓MGff, ↓NGtt, ↓NGtf, ↓NGft, ↓NGff, ↓PGtt, ↓PGtf, ↓PGft, ↓PGff, ↓BGtt, ↓BGtf, ↓BGft, ↓BGff, ↓CGtt, ↓CGtf, ↓CGft, ↓CGff, ↓IGtt, ↓IGtf, ↓IGft, ↓IGff, ↓PKt, ↓PKf, ↓CDt, ↓CDf, ↓NOTt, ↓NOTf, ↓NK_ptr]
  refine ldS (cs := a.cells.toArray) rfl Tryd.underlying25 rfl iSt hb13 ?_
  refine ldS (cs := b.cells.toArray) rfl Tryd.underlying25 rfl iSt hb23 ?_
  refine bs_k (cs := (a.cells ++ b.cells).toArray) (by kernel_rfl) fun w4 h4 hm4 hz4 => ?_
  have hm04 := hm03.trans hm4
  rw [elS] at h4
  refine CK_st Tryd.func5 rfl rfl (Many_ok [a, b] w4 _ (sts2_ok h4 (ha.mod hm04) (hb.mod hm04)) (by simp only [St.szL]; omega)) ?_
  rintro _ w5 ⟨rfl, hm5⟩
  have hm05 := hm04.trans hm5
  have hm35 := hm4.trans hm5
  by_cases g1 : (3000 : Int) < (St.manyL [a, b] : Nat)
  · simp only [↓VG_u, ↓UG_u, ↓MG_u, ↓NG_u, ↓PG_u, ↓BG_u, ↓CG_u, ↓IG_u, ↓VGtt, ↓VGtf, ↓VGft, ↓VGff, ↓UGtt, ↓UGtf, ↓UGft, ↓UGff, ↓MGtt, ↓MGtf, ↓MGft, ↓MGff, ↓NGtt, ↓NGtf, ↓NGft, ↓NGff, ↓PGtt, ↓PGtf, ↓PGft, ↓PGff, ↓BGtt, ↓BGtf, ↓BGft, ↓BGff, ↓CGtt, ↓CGtf, ↓CGft, ↓CGff, ↓IGtt, ↓IGtf, ↓IGft, ↓IGff, ↓PKt, ↓PKf, ↓CDt, ↓CDf, ↓NOTt, ↓NOTf, ↓NK_ptr, ↓GTt g1]
    first | exact ⟨rfl, hm05⟩ | exact ⟨trivial, hm05⟩
  simp only [↓VG_u, ↓UG_u, ↓MG_u, ↓NG_u, ↓PG_u, ↓BG_u, ↓CG_u, ↓IG_u, ↓VGtt, ↓VGtf, ↓VGft, ↓VGff, ↓UGtt, ↓UGtf, ↓UGft, ↓UGff, ↓MGtt, ↓MGtf, ↓MGft, ↓MGff, ↓NGtt, ↓NGtf, ↓NGft, ↓NGff, ↓PGtt, ↓PGtf, ↓PGft, ↓PGff, ↓BGtt, ↓BGtf, ↓BGft, ↓BGff, ↓CGtt, ↓CGtf, ↓CGft, ↓CGff, ↓IGtt, ↓IGtf, ↓IGft, ↓IGff, ↓PKt, ↓PKf, ↓CDt, ↓CDf, ↓NOTt, ↓NOTf, ↓NK_ptr, ↓GTf (show ((St.manyL [a, b] : Nat) : Int) ≤ 3000 by omega)]
  by_cases g2 : n < 1
  · simp only [↓VG_u, ↓UG_u, ↓MG_u, ↓NG_u, ↓PG_u, ↓BG_u, ↓CG_u, ↓IG_u, ↓VGtt, ↓VGtf, ↓VGft, ↓VGff, ↓UGtt, ↓UGtf, ↓UGft, ↓UGff, ↓MGtt, ↓MGtf, ↓MGft, ↓MGff, ↓NGtt, ↓NGtf, ↓NGft, ↓NGff, ↓PGtt, ↓PGtf, ↓PGft, ↓PGff, ↓BGtt, ↓BGtf, ↓BGft, ↓BGff, ↓CGtt, ↓CGtf, ↓CGft, ↓CGff, ↓IGtt, ↓IGtf, ↓IGft, ↓IGff, ↓PKt, ↓PKf, ↓CDt, ↓CDf, ↓NOTt, ↓NOTf, ↓NK_ptr, ↓LTt g2]
    first | exact ⟨rfl, hm05⟩ | exact ⟨trivial, hm05⟩
  simp only [↓VG_u, ↓UG_u, ↓MG_u, ↓NG_u, ↓PG_u, ↓BG_u, ↓CG_u, ↓IG_u, ↓VGtt, ↓VGtf, ↓VGft, ↓VGff, ↓UGtt, ↓UGtf, ↓UGft, ↓UGff, ↓MGtt, ↓MGtf, ↓MGft, ↓MGff, ↓NGtt, ↓NGtf, ↓NGft, ↓NGff, ↓PGtt, ↓PGtf, ↓PGft, ↓PGff, ↓BGtt, ↓BGtf, ↓BGft, ↓BGff, ↓CGtt, ↓CGtf, ↓CGft, ↓CGff, ↓IGtt, ↓IGtf, ↓IGft, ↓IGff, ↓PKt, ↓PKf, ↓CDt, ↓CDf, ↓NOTt, ↓NOTf, ↓NK_ptr, ↓LTf (show 1 ≤ n by omega)]
  by_cases g3 : 64 < n
  · simp only [↓VG_u, ↓UG_u, ↓MG_u, ↓NG_u, ↓PG_u, ↓BG_u, ↓CG_u, ↓IG_u, ↓VGtt, ↓VGtf, ↓VGft, ↓VGff, ↓UGtt, ↓UGtf, ↓UGft, ↓UGff, ↓MGtt, ↓MGtf, ↓MGft, ↓MGff, ↓NGtt, ↓NGtf, ↓NGft, ↓NGff, ↓PGtt, ↓PGtf, ↓PGft, ↓PGff, ↓BGtt, ↓BGtf, ↓BGft, ↓BGff, ↓CGtt, ↓CGtf, ↓CGft, ↓CGff, ↓IGtt, ↓IGtf, ↓IGft, ↓IGff, ↓PKt, ↓PKf, ↓CDt, ↓CDf, ↓NOTt, ↓NOTf, ↓NK_ptr, ↓GTt g3]
    first | exact ⟨rfl, hm05⟩ | exact ⟨trivial, hm05⟩
  simp only [↓VG_u, ↓UG_u, ↓MG_u, ↓NG_u, ↓PG_u, ↓BG_u, ↓CG_u, ↓IG_u, ↓VGtt, ↓VGtf, ↓VGft, ↓VGff, ↓UGtt, ↓UGtf, ↓UGft, ↓UGff, ↓MGtt, ↓MGtf, ↓MGft, ↓MGff, ↓NGtt, ↓NGtf, ↓NGft, ↓NGff, ↓PGtt, ↓PGtf, ↓PGft, ↓PGff, ↓BGtt, ↓BGtf, ↓BGft, ↓BGff, ↓CGtt, ↓CGtf, ↓CGft, ↓CGff, ↓IGtt, ↓IGtf, ↓IGft, ↓IGff, ↓PKt, ↓PKf, ↓CDt, ↓CDf, ↓NOTt, ↓NOTf, ↓NK_ptr, ↓GTf (show n ≤ 64 by omega)]
  have hb15 := hm35.blk hb13 id
  have hb25 := hm35.blk hb23 id
  rw [build_ok bEx1]
  refine bs_k (cs := condX.cells.toArray) (by kernel_rfl) fun w6 h6 hm6 hz6 => ?_
  rw [elE] at h6
  have hm06 := hm05.trans hm6
  refine ldS (cs := a.cells.toArray) rfl Tryd.underlying25 rfl iSt (hm6.blk hb15 id) ?_
  refine ldS (cs := b.cells.toArray) rfl Tryd.underlying25 rfl iSt (hm6.blk hb25 id) ?_
  refine bs_k (cs := (a.cells ++ b.cells).toArray) (by kernel_rfl) fun w7 h7 hm7 hz7 => ?_
  rw [elS] at h7
  have hm07 := hm06.trans hm7
  rw [build_ok (bSt3 _ _ _ _ _ _)]
  generalize he6 : w5.heap.size = e6 at *
  generalize he7 : w6.heap.size = e7 at *
  have o8 : (bothS (.slice (some ⟨e6, 0, none⟩) 1 1) (.slice (some ⟨e7, 0, none⟩) 2 2) a b).Ok w7 :=
    st_mk (exs1_ok (hm7.blk h6 id)) (sts2_ok h7 (ha.mod hm07) (hb.mod hm07)) (sts0_ok _) (by refine ⟨rfl, rfl, rfl, by show (0 : Nat) ≤ maxLen; decide, rfl, rfl, rfl⟩)
  refine lcl_k (cs := (bothS (.slice (some ⟨e6, 0, none⟩) 1 1) (.slice (some ⟨e7, 0, none⟩) 2 2) a b).cells.toArray) zSt _ iSt rfl (st_one o8) fun w8 h8 hm8 hz8 => ?_
  have hm08 := hm07.trans hm8
  have hm58 := (hm6.trans hm7).trans hm8
  generalize he8 : w7.heap.size = b8 at *
  have rest : ∀ ρ : Sl, ρ 2 = .int .i64 n → ρ 3 = pt b3 → ρ 4 = pt b4 → ρ 7 = .slice (some ⟨e6, 0, none⟩) 1 1 → ρ 8 = pt b8 → sx fn_ Tryd.prog 106 dispatcherlaw30_LimitsProducts_R0 (retK Tryd.prog [ResultVar.tmp 6] (prodR w)) ρ w8 := by
    intro ρ r2 r3 r4 r7 r8
    rw [dispatcherlaw30_LimitsProducts_R0_eq]
    unfold dispatcherlaw30_LimitsProducts_R0_F
    rw [r3, r4, r7]
    have hb18 := hm58.blk hb15 id
    have hb28 := hm58.blk hb25 id
    have h68 := (hm7.trans hm8).blk h6 id
    refine ldS (cs := a.cells.toArray) rfl Tryd.underlying25 rfl iSt hb18 ?_
    refine bs_k (cs := a.cells.toArray) (by kernel_rfl) fun w9 h9 hm9 hz9 => ?_
    rw [elS] at h9
    refine ldS (cs := b.cells.toArray) rfl Tryd.underlying25 rfl iSt (hm9.blk hb28 id) ?_
    refine bs_k (cs := b.cells.toArray) (by kernel_rfl) fun wA hA hmA hzA => ?_
    rw [elS] at hA
    rw [build_ok (bSt4 _ _ _ _ _ _ _ _ _)]
    have hm8A := hm9.trans hmA
    have hm0A := hm08.trans hm8A
    generalize he9 : w8.heap.size = e9 at *
    generalize heA : w9.heap.size = eA at *
    have o9 : (sidesS (.slice (some ⟨e6, 0, none⟩) 1 1) (.slice (some ⟨e9, 0, none⟩) 1 1) (.slice (some ⟨eA, 0, none⟩) 1 1) a b).Ok wA :=
      st_mk (exs1_ok (hm8A.blk h68 id)) (sts1_ok (hmA.blk h9 id) (ha.mod hm0A)) (sts1_ok hA (hb.mod hm0A)) (by refine ⟨rfl, rfl, rfl, by show (0 : Nat) ≤ maxLen; decide, rfl, rfl, rfl⟩)
    refine lcl_k (cs := (sidesS (.slice (some ⟨e6, 0, none⟩) 1 1) (.slice (some ⟨e9, 0, none⟩) 1 1) (.slice (some ⟨eA, 0, none⟩) 1 1) a b).cells.toArray) zSt _ iSt rfl (st_one o9) fun wB hB hmB hzB => ?_
    have hm8B := hm8A.trans hmB
    refine ldS (cs := a.cells.toArray) rfl Tryd.underlying25 rfl iSt (hm8B.blk hb18 id) ?_
    refine bs_k (cs := a.cells.toArray) (by kernel_rfl) fun wC hC hmC hzC => ?_
    rw [elS] at hC
    rw [build_ok (bSt5 _ _ _)]
    have hm8C := hm8B.trans hmC
    have hm0C := hm08.trans hm8C
    generalize heB : wA.heap.size = b9 at *
    generalize heC : wB.heap.size = eC at *
    have o10 : (twiceS (.slice (some ⟨eC, 0, none⟩) 1 1) a).Ok wC :=
      st_mk (exs0_ok _) (sts1_ok hC (ha.mod hm0C)) (sts0_ok _) (by refine ⟨rfl, rfl, rfl, by show (1 : Nat) ≤ maxLen; decide, rfl, rfl, rfl⟩)
    refine lcl_k (cs := (twiceS (.slice (some ⟨eC, 0, none⟩) 1 1) a).cells.toArray) zSt _ iSt rfl (st_one o10) fun wD hD hmD hzD => ?_
    have hm8D := hm8C.trans hmD
    have hm0D := hm08.trans hm8D
    generalize heD : wC.heap.size = b10 at *
    have hb1D := hm8D.blk hb18 id
    have hb2D := hm8D.blk hb28 id
    have h8D := hm8D.blk h8 id
    have hBD := (hmC.trans hmD).blk hB id
    have fin : ∀ ρ : Sl, ρ 2 = .int .i64 n → ρ 3 = pt b3 → ρ 4 = pt b4 → ρ 8 = pt b8 → ρ 9 = pt b9 → ρ 10 = pt b10 → W fn_ Tryd.prog 106 dispatcherlaw30_LimitsProducts_R1 (seqK (sx fn_ Tryd.prog 106 dispatcherlaw30_LimitsProducts_R2 (retK Tryd.prog [ResultVar.tmp 6] (prodR w))) (retK Tryd.prog [ResultVar.tmp 6] (prodR w))) ρ wD := by
      intro ρ r2 r3 r4 r8 r9 r10
      refine dispatcherlaw30_LimitsProducts_R1_quiet (D := []) (fun w' => Mod none_ wD w') ((Mod.refl _ wD).drawn _) ?_
      unfold dispatcherlaw30_LimitsProducts_R1_Q
      rw [r3, r2, r4]
      refine QV_of (v := .agg a.cells.toArray) (fun w' hw => run_ldB (cs := a.cells.toArray) Tryd.underlying25 rfl iSt (hw.blk hb1D id)) ?_
      refine QC_rt (R := fun w' v w'' => v = .int .i64 (waysQ a n) ∧ Mod none_ w' w'') Tryd.func6 rfl rfl (v := .int .i64 (waysQ a n)) (fun w' hw => Ways_ok ((hg.mod hm0D).mod hw) ((ha.mod hm0D).mod hw) (by omega) n) (fun w' u w'' hw hu => ⟨hu.1, hw.trans hu.2⟩) ?_
      refine QV_of (v := .agg b.cells.toArray) (fun w' hw => run_ldB (cs := b.cells.toArray) Tryd.underlying25 rfl iSt (hw.blk hb2D id)) ?_
      refine QC_rt (R := fun w' v w'' => v = .int .i64 (waysQ b n) ∧ Mod none_ w' w'') Tryd.func6 rfl rfl (v := .int .i64 (waysQ b n)) (fun w' hw => Ways_ok ((hg.mod hm0D).mod hw) ((hb.mod hm0D).mod hw) (by omega) n) (fun w' u w'' hw hu => ⟨hu.1, hw.trans hu.2⟩) ?_
      intro wE hmE
      rw [sq_n]
      refine prod2 (n := n) hg ha hsz (hm0D.trans hmE) ⟨by omega, by omega⟩ (hmE.blk hb1D id) (hmE.blk h8D id) (hmE.blk hBD id) (hmE.blk hD id) (((o8.mod hm8).mod hm8D).mod hmE) (((((o9.mod hmB).mod hmC).mod hmD)).mod hmE) ((o10.mod hmD).mod hmE) ?_ ?_ ?_ ?_ ?_ ?_ ?_
      · exact r2
      · exact r3
      · exact r8
      · exact r9
      · exact r10
      · rfl
      · rfl
    refine fin _ ?_ ?_ ?_ ?_ ?_ ?_
    · exact r2
    · exact r3
    · exact r4
    · exact r8
    · rfl
    · rfl
  exact rest _ rfl rfl rfl rfl rfl
end Go.Proofs.YtpkfbaagpjdifaaDoor.Tr
set_option linter.unusedVariables false
set_option maxRecDepth 10000
namespace Go.Proofs.YtpkfbaagpjdifaaDoor.Tr
open Go Go.X Go.RowKit
def argsN : List Int := [5, 5, 5, 5, 5, 3, 3, 1, -1, -1, 1, -1, 3, 3, 1, 3, 3, 2, 3, 1, 3, 1]
theorem gl_of {W : World} (h : laidMetH Tryd.prog [("dispatcher/scan.words", Rows.laid_dispatcher_scan_words), ("dispatcher/tree.args", Rows.laid_dispatcher_tree_args), ("dispatcher/tree.plain", Rows.laid_dispatcher_tree_plain)] W) : Gl W := by
  rw [MakeChecks.laidMetH_plain _ _ _ (by kernel_rfl)] at h
  obtain ⟨ps, ⟨g, t, cs, fuel, p, q, hg, ht, hv, hd, ⟨g2, t2, cs2, fuel2, p2, q2, hg2, ht2, hv2, hd2, ⟨g3, t3, cs3, fuel3, p3, q3, hg3, ht3, hv3, hd3, _, _⟩, _⟩, _⟩, _⟩ := h
  obtain rfl := Option.some.inj ((show Tryd.prog.globalNamed "dispatcher/scan.words" = some 0 by kernel_rfl).symm.trans hg)
  obtain rfl := Option.some.inj ((show (Tryd.prog.globals[0]?).map (·.type) = some 92 by kernel_rfl).symm.trans ht)
  obtain rfl := Option.some.inj ((show Tryd.prog.globalNamed "dispatcher/tree.args" = some 1 by kernel_rfl).symm.trans hg2)
  obtain rfl := Option.some.inj ((show (Tryd.prog.globals[1]?).map (·.type) = some 113 by kernel_rfl).symm.trans ht2)
  obtain rfl := Option.some.inj ((show Tryd.prog.globalNamed "dispatcher/tree.plain" = some 2 by kernel_rfl).symm.trans hg3)
  obtain rfl := Option.some.inj ((show (Tryd.prog.globals[2]?).map (·.type) = some 116 by kernel_rfl).symm.trans ht3)
  refine ⟨?_, ?_, ?_⟩
  · exact laid_arr (xs := wordsL) (val := txt) (dat := fun b => .lit (.string b)) (n := 43) hg hv (show Tryd.prog.underlying 92 = some (.array 43 9) by kernel_rfl) (by kernel_rfl) (by decide) hd (fun m l x b h hx => laid_str uS m l x b h hx)
  · exact laid_arr (xs := argsN) (val := fun n => .int .i64 n) (dat := fun n => .lit (.int .i64 n)) (n := 22) hg2 hv2 (show Tryd.prog.underlying 113 = some (.array 22 3) by kernel_rfl) (by kernel_rfl) (by decide) hd2 (fun m l x b h hx => laid_int uI m l x b h hx)
  · exact laid_arr (xs := plainL) (val := txt) (dat := fun b => .lit (.string b)) (n := 10) hg3 hv3 (show Tryd.prog.underlying 116 = some (.array 10 9) by kernel_rfl) (by kernel_rfl) (by decide) hd3 (fun m l x b h hx => laid_str uS m l x b h hx)
end Go.Proofs.YtpkfbaagpjdifaaDoor.Tr
set_option linter.unusedVariables false
set_option maxRecDepth 4000
namespace Go.Proofs.YtpkfbaagpjdifaaDoor.Tr
open Go Go.X Go.RowKit
end Go.Proofs.YtpkfbaagpjdifaaDoor.Tr
