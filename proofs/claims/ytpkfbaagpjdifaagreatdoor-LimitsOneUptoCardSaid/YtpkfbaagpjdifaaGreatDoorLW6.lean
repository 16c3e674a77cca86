/- Several texts of this repo, one behind the other, without what is not used here. -/
import Derived.Laws.IdiomStrings
import Derived.Test.YtpkfbaagpjdifaaGreatDoorProg
import Derived.Test.YtpkfbaagpjdifaaGreatDoorLW5
set_option linter.unusedVariables false
set_option linter.unusedSimpArgs false
set_option maxRecDepth 4000
namespace Go.X
open Go Go.RowKit
def St.withE (e : St) (v : Value) (x : List Ex) : St := { e with es := v, exprs := x }
theorem Ex.Own.ne {w : World} {tE ty : TypeId} {b : Nat} {cs : Array Value} {fr : Nat × Nat} (hb : w.heap[b]? = some (.cells cs ty fr)) (hne : tE ≠ ty) : ∀ {e : Ex}, e.Own w tE → e.In fun k => k ≠ b := by
  intro e
  induction e using Ex.ind with
  | h e ih =>
    intro h
    obtain ⟨h1, h2, h3⟩ := Ex.own_.1 h
    exact Ex.in_.2 ⟨fun k hk q => owns_ne_blk h1 hb hne (by rw [hk, q]), fun a ha => ih a ha (h3 a ha)⟩
theorem St.Own.ne {w : World} {tE tS ty : TypeId} {b : Nat} {cs : Array Value} {fr : Nat × Nat} (hb : w.heap[b]? = some (.cells cs ty fr)) (hne : tE ≠ ty) (hns : tS ≠ ty) : ∀ {e : St}, e.Own w tE tS → e.In fun k => k ≠ b := by
  intro e
  induction e using St.ind with
  | h e ih1 ih2 =>
    intro h
    obtain ⟨⟨h1, h2⟩, ⟨h3, h4⟩, ⟨h5, h6⟩, h7⟩ := St.own_.1 h
    exact St.in_.2 ⟨⟨fun k hk q => owns_ne_blk h1 hb hne (by rw [hk, q]), fun a ha => (h2 a ha).ne hb hne⟩, ⟨fun k hk q => owns_ne_blk h3 hb hns (by rw [hk, q]), fun a ha => ih1 a ha (h4 a ha)⟩, fun k hk q => owns_ne_blk h5 hb hns (by rw [hk, q]), fun a ha => ih2 a ha (h6 a ha)⟩
end Go.X
namespace Go.Proofs.YtpkfbaagpjdifaaGreatDoor.Tr
open Go Go.X Go.RowKit Go.Proofs.YtpkfbaagpjdifaaGreatDoor.XD Go.Proofs.YtpkfbaagpjdifaaGreatDoor.XK
section
variable {lv : Value} {l : List Tk} {c : Nat}
theorem PW.off2 {w w' : World} {a : Nat} (h : PW w lv l c a) {S : Nat → Prop} (hm : Mod S w w') (h1 : ¬ S c) (h2 : ∀ k, lv.ownBlock = some k → ¬ S k) : PW w' lv l c a := ⟨owns_mod h.toks hm h2, hm.blk h.cur h1⟩
theorem ExsOwn.ne {w w' : World} {base : Nat} {v : Value} {l : List Ex} (h : ExsOwn w base v l) {b : Nat} (hm : Mod (fun i => i = b) w w') {cs : Array Value} {ty : TypeId} {fr : Nat × Nat} (hb : w.heap[b]? = some (.cells cs ty fr)) (hne : tE ≠ ty) : ExsOwn w' base v l :=
  ⟨owns_mod h.row hm fun k hk q => owns_ne_blk h.row hb hne (by rw [hk, q]), fun a ha => (h.own a ha).mod hm ((h.own a ha).ne hb hne), h.at_⟩
theorem StsOwn.ne {w w' : World} {base : Nat} {v : Value} {l : List St} (h : StsOwn w base v l) {b : Nat} (hm : Mod (fun i => i = b) w w') {cs : Array Value} {ty : TypeId} {fr : Nat × Nat} (hb : w.heap[b]? = some (.cells cs ty fr)) (hne : tE ≠ ty) (hns : tS ≠ ty) : StsOwn w' base v l :=
  ⟨owns_mod h.row hm fun k hk q => owns_ne_blk h.row hb hns (by rw [hk, q]), fun a ha => (h.own a ha).mod hm ((h.own a ha).ne hb hne hns), h.at_⟩
theorem addE (hG : Good l) {n a a' : Nat} {pe : Ex} (he : exprTk l n 0 a = some (pe, a')) {base : Nat} {w : World} {b : Nat} {e : St} (hb : w.heap[b]? = some (.cells e.cells.toArray tS (0, 0))) (hO : ExsOwn w base e.es e.exprs) (hp : PW w lv l c a) (hcb : c ≠ b)
    (hlen : e.exprs.length < 1099511627776) (hbase : base ≤ w.heap.size) {K1 K2 K3 : Value → Value → Value → Value → Value → Value → World → Prop}
    (hK : ∀ (w' : World) (x : Ex) (v' : Value), w'.heap[b]? = some (.cells (e.withE v' (e.exprs ++ [x])).cells.toArray tS (0, 0)) → ExsOwn w' base v' (e.exprs ++ [x]) → x.er = pe → PW w' lv l c a' → Mod (fun i => i = c ∨ i = b ∨ some i = e.es.ownBlock) w w' → ∀ x1 x2 x3 x4 x5 x6, K1 x1 x2 x3 x4 x5 x6 w' ∧ K2 x1 x2 x3 x4 x5 x6 w' ∧ K3 x1 x2 x3 x4 x5 x6 w') :
    HK Tryz.prog (fun _ => True) (do pure (Next.value (← Instr.fieldAt 62 (pq b) 5))) fun x26 => (VK Tryz.prog (Instr.loadAt 60 x26) w fun x27 w => True ∧ (CK Tryz.prog (.func (.func 91) #[] #[]) [pq c, .int .i64 0] w fun x29 w => True ∧ (VK Tryz.prog (Instr.buildSlice 60 1 [(0, x29)].toArray) w fun x30 w => True ∧ (IK Tryz.prog .append #[60, 60] 60 [false, false] [x27, x30] w fun x31 w => True ∧ (HK Tryz.prog (fun _ => True) (do pure (Next.value (← Instr.fieldAt 62 (pq b) 5))) fun x32 => UK Tryz.prog (Instr.storeAt 60 x32 x31) w fun _ w => True ∧ K1 x26 x27 x29 x30 x31 x32 w))))) ∧
      (CK Tryz.prog (.func (.func 91) #[] #[]) [pq c, .int .i64 0] w fun x29 w => True ∧ ((VK Tryz.prog (Instr.loadAt 60 x26) w fun x27 w => True ∧ (VK Tryz.prog (Instr.buildSlice 60 1 [(0, x29)].toArray) w fun x30 w => True ∧ (IK Tryz.prog .append #[60, 60] 60 [false, false] [x27, x30] w fun x31 w => True ∧ (HK Tryz.prog (fun _ => True) (do pure (Next.value (← Instr.fieldAt 62 (pq b) 5))) fun x32 => UK Tryz.prog (Instr.storeAt 60 x32 x31) w fun _ w => True ∧ K2 x26 x27 x29 x30 x31 x32 w)))) ∧
        (VK Tryz.prog (Instr.buildSlice 60 1 [(0, x29)].toArray) w fun x30 w => True ∧ (VK Tryz.prog (Instr.loadAt 60 x26) w fun x27 w => True ∧ (IK Tryz.prog .append #[60, 60] 60 [false, false] [x27, x30] w fun x31 w => True ∧ (HK Tryz.prog (fun _ => True) (do pure (Next.value (← Instr.fieldAt 62 (pq b) 5))) fun x32 => UK Tryz.prog (Instr.storeAt 60 x32 x31) w fun _ w => True ∧ K3 x26 x27 x29 x30 x31 x32 w)))))) := by
  refine HV_of (fun w' _ => run_fo (off := 5) (by kernel_rfl) _ w') ?_
  have hrow : ∀ k, e.es.ownBlock = some k → k ≠ b ∧ k ≠ c := fun k hk => ⟨fun q => owns_ne_blk hO.row hb (by decide) (by rw [hk, q]), fun q => owns_ne_blk hO.row hp.cur (by decide) (by rw [hk, q])⟩
  have htk : ∀ k, lv.ownBlock = some k → k ≠ b ∧ some k ≠ e.es.ownBlock := fun k hk => ⟨fun q => owns_ne_blk hp.toks hb (by decide) (by rw [hk, q]), fun q => owns_ne hp.toks hO.row (by decide) k hk q⟩
  have ld : ∀ {w' : World} {K : Value → World → Prop}, w'.heap[b]? = some (.cells e.cells.toArray tS (0, 0)) → K e.es w' → VK Tryz.prog (Instr.loadAt 60 (.pointer (some ((⟨b, 0, none⟩ : Addr).add 5)))) w' K := fun h hk => ld1 uExs rfl (by rw [add_pl, cell_blk h]; rfl) hk
  -- the expression is read
  have ex : ∀ {w' : World} (hm : Mod none_ w w') {K : Value → World → Prop}, (∀ (w2 : World) (x : Ex), x.er = pe → x.Own w2 tE → (x.In fun k => w'.heap.size ≤ k) → PW w2 lv l c a' → Mod (fun i => i = c) w' w2 → K (.agg x.cells.toArray) w2) → CK Tryz.prog (.func (.func 91) #[] #[]) [pq c, .int .i64 0] w' K := by
    intro w' hm K hk
    refine CK_st Tryz.func91 rfl rfl (expr_ok hG n 0 a _ he (by omega) w' (hp.mod0 hm)) ?_
    rintro _ w2 ⟨x, rfl, hg, h2, hm2⟩
    exact hk _ _ hg.er hg.own hg.in_ h2 hm2
  -- what follows
  have tail : ∀ {w2 w3 : World} {x : Ex} {y : Value} {K : Value → Value → World → Prop}, Mod (fun i => i = c) w w2 → Mod none_ w2 w3 → x.er = pe → x.Own w2 tE → (x.In fun k => w.heap.size ≤ k) → PW w2 lv l c a' → reads w3 6 y 1 x.cells →
      (∀ v' w', w'.heap[b]? = some (.cells (e.withE v' (e.exprs ++ [x])).cells.toArray tS (0, 0)) → ExsOwn w' base v' (e.exprs ++ [x]) → PW w' lv l c a' → Mod (fun i => i = c ∨ i = b ∨ some i = e.es.ownBlock) w w' → ∀ u, K v' u w') →
      IK Tryz.prog .append #[60, 60] 60 [false, false] [e.es, y] w3 fun x31 w => True ∧ (HK Tryz.prog (fun _ => True) (do pure (Next.value (← Instr.fieldAt 62 (pq b) 5))) fun x32 => UK Tryz.prog (Instr.storeAt 60 x32 x31) w fun _ w => True ∧ K x31 x32 w) := by
    intro w2 w3 x y K hm2 hm23 her hox hix h2 hy hk
    have hb2 := hm2.blk hb (fun q => hcb q.symm)
    have hb3 := hm23.blk hb2 id
    have hO2 := hO.ne hm2 hp.cur (by decide)
    have hO3 := hO2.mod0 hm23
    have hs2 := hm2.size
    have hs3 := hm23.size
    refine appEx (m := [x]) hO3 (by simpa using hy) (by simp) ?_ (by simp; omega) (by omega) fun v' w4 hO4 hm4 hg4 => ⟨trivial, HV_of (fun w' _ => run_fo (off := 5) (by kernel_rfl) _ w') ?_⟩
    · intro z hz
      rw [List.mem_singleton.1 hz]
      exact ⟨hox.mod0 hm23, hix.mono fun k hk => ⟨by omega, fun q => by have := owns_lt hO.row q.symm; omega⟩⟩
    · have hb4 := hm4.blk hb3 fun q => (hrow b q.symm).1 rfl
      have h4 : PW w4 lv l c a' := (h2.mod0 hm23).off2 hm4 (fun q => (hrow c q.symm).2 rfl) fun k hk q => (htk k hk).2 q
      refine stC (b := b) (o := 0 + 5) (by rw [add_pl]) (by kernel_rfl) (owns_slice hO4.row) hb4 (by simp [St.cells]) fun w5 hb5 hm5 hz5 => ⟨trivial, ?_⟩
      have hcs : e.cells.toArray.setIfInBounds (0 + 5) v' = (e.withE v' (e.exprs ++ [x])).cells.toArray := rfl
      rw [hcs] at hb5
      refine hk v' w5 hb5 (hO4.ne hm5 hb4 (by decide)) (h4.off2 hm5 hcb fun k hk q => (htk k hk).1 q) ?_ _
      exact (((hm2.mono fun _ _ q => Or.inl q).trans (up1 hm23)).trans (hm4.mono fun _ _ q => Or.inr (Or.inr q))).trans (hm5.mono fun _ _ q => Or.inr (Or.inl q))
  have rd : ∀ {w2 w3 : World} {x : Ex}, w3.heap[w2.heap.size]? = some (.cells x.cells.toArray (Tryz.prog.elem 60) (0, 0)) → reads w3 6 (.slice (some ⟨w2.heap.size, 0, none⟩) 1 1) 1 x.cells := fun h => by simpa using reads_blk (size := 6) (n := 1) h rfl
  constructor
  · refine ld hb ⟨trivial, ?_⟩
    refine ex (Mod.refl _ w) fun w2 x her hox hix h2 hm2 => ⟨trivial, ?_⟩
    refine bs_k (cs := x.cells.toArray) (by kernel_rfl) fun w3 h3 hm3 hz3 => ⟨trivial, ?_⟩
    exact tail hm2 hm3 her hox hix h2 (rd h3) fun v' w' hb' hO' hp' hm' u => (hK w' x v' hb' hO' her hp' hm' _ _ _ _ _ _).1
  · refine ex (Mod.refl _ w) fun w2 x her hox hix h2 hm2 => ⟨trivial, ?_⟩
    have hb2 := hm2.blk hb (fun q => hcb q.symm)
    constructor
    · refine ld hb2 ⟨trivial, ?_⟩
      refine bs_k (cs := x.cells.toArray) (by kernel_rfl) fun w3 h3 hm3 hz3 => ⟨trivial, ?_⟩
      exact tail hm2 hm3 her hox hix h2 (rd h3) fun v' w' hb' hO' hp' hm' u => (hK w' x v' hb' hO' her hp' hm' _ _ _ _ _ _).2.1
    · refine bs_k (cs := x.cells.toArray) (by kernel_rfl) fun w3 h3 hm3 hz3 => ⟨trivial, ?_⟩
      refine ld (hm3.blk hb2 id) ⟨trivial, ?_⟩
      exact tail hm2 hm3 her hox hix h2 (rd h3) fun v' w' hb' hO' hp' hm' u => (hK w' x v' hb' hO' her hp' hm' _ _ _ _ _ _).2.2
end
end Go.Proofs.YtpkfbaagpjdifaaGreatDoor.Tr
set_option linter.unusedVariables false
set_option linter.unusedSimpArgs false
set_option maxRecDepth 4000
namespace Go.Proofs.YtpkfbaagpjdifaaGreatDoor.Tr
open Go Go.X Go.RowKit Go.Proofs.YtpkfbaagpjdifaaGreatDoor.XD Go.Proofs.YtpkfbaagpjdifaaGreatDoor.XK
section
variable {lv : Value} {l : List Tk} {c : Nat}
theorem len_sls {A : Option Addr} {n cp : Nat} (cs : List Bool) {w : World} {K : Value → World → Prop} : IK Tryz.prog .len #[111] 3 cs [.slice A n cp] w K = K (.int .i64 n) w := len_sl uSs cs A n cp
theorem len_sle {A : Option Addr} {n cp : Nat} (cs : List Bool) {w : World} {K : Value → World → Prop} : IK Tryz.prog .len #[60] 3 cs [.slice A n cp] w K = K (.int .i64 n) w := len_sl uExs cs A n cp
theorem idx_no {b : Bs} : ∀ (r : List Bs) (n : Nat), idxP r b n = 0 ∨ ∃ i, i < r.length ∧ idxP r b n = n + i + 1
  | [], n => .inl rfl
  | t :: r, n => by
    rw [idxP]
    split
    · exact .inr ⟨0, by simp, by simp⟩
    · rcases idx_no r (n + 1) with h | ⟨i, hi, h⟩
      · exact .inl h
      · exact .inr ⟨i + 1, by simpa using hi, by rw [h]; omega⟩
theorem callK_rng (b : Bs) : 0 ≤ callK b ∧ callK b ≤ 22 := by
  unfold callK
  rcases idx_no callL 0 (b := b) with h | ⟨i, hi, h⟩
  · omega
  · have : callL.length = 22 := rfl
    omega
theorem Call_ok (b : Bs) (w : World) : Rt Tryz.prog 93 #[txt b] w fun v w' => v = .int .u8 (callK b) ∧ Mod none_ w w' := by
  refine dispatcherref02_Call_calls ?_
  unfold dispatcherref02_Call_F
  refine bs_k (cs := (callL.map txt).toArray) (by kernel_rfl) fun w1 hb1 hm1 hz1 => ?_
  have hr : reads w1 1 (.slice (some ⟨w.heap.size, 0, none⟩) 22 22) 22 (callL.map txt) := reads_blk hb1 rfl
  refine W_loopG dispatcherref02_Call_L0_ok (fun m ρ w' => ∃ n : Nat, n ≤ 22 ∧ m = 22 - n ∧ ρ 0 = txt b ∧ ρ 3 = .slice (some ⟨w.heap.size, 0, none⟩) 22 22 ∧ ρ 4 = .int .i64 n ∧ idxP (callL.drop n) b n = callK b ∧ w' = w1) 22 ⟨0, by omega, rfl, rfl, rfl, rfl, rfl, rfl⟩ ?_
  rintro m ρ w2 ⟨n, hn, rfl, q0, q3, q4, hi, rfl⟩
  rw [dispatcherref02_Call_L0_eq]
  unfold dispatcherref02_Call_L0_F
  rw [q0, q3, q4, len_sls]
  have hlen : callL.length = 22 := rfl
  by_cases hlt : n < 22
  · have hl' : n < callL.length := by omega
    obtain ⟨t, ht0⟩ : ∃ t, t = callL[n]'hl' := ⟨_, rfl⟩
    have hx : callL[n]? = some t := by rw [ht0]; exact List.getElem?_eq_getElem hl'
    simp only [↓VG_u, ↓UG_u, ↓MG_u, ↓NG_u, ↓PG_u, ↓BG_u, ↓CG_u, ↓IG_u, ↓VGtt, ↓VGtf, ↓VGft, ↓VGff, ↓UGtt, ↓UGtf, ↓UGft, ↓UGff, ↓MGtt, ↓MGtf, ↓MGft, ↓MGff, ↓NGtt, ↓NGtf, ↓NGft, ↓NGff, ↓PGtt, ↓PGtf, ↓PGft, ↓PGff, ↓BGtt, ↓BGtf, ↓BGft, ↓BGff, ↓CGtt, ↓CGtf, ↓CGft, ↓CGff, ↓IGtt, ↓IGtf, ↓IGft, ↓IGff, ↓PKt, ↓PKf, ↓CDt, ↓CDf, ↓NOTt, ↓NOTf, ↓NK_ptr, ↓LTt (show (n : Int) < ((22 : Nat) : Int) by omega)]
    refine ixld uSs cS uS rfl hr (by omega) (u := txt t) (by rw [Int.toNat_natCast, List.getElem?_map, hx]; rfl) fun x14 => ?_
    rw [List.drop_eq_getElem_cons hl', ← ht0, idxP] at hi
    split at hi
    · rename_i ht
      have heq : (⟨t.toArray⟩ : ByteArray) = ⟨b.toArray⟩ := by rw [ht]
      simp only [txt, ↓VG_u, ↓UG_u, ↓MG_u, ↓NG_u, ↓PG_u, ↓BG_u, ↓CG_u, ↓IG_u, ↓VGtt, ↓VGtf, ↓VGft, ↓VGff, ↓UGtt, ↓UGtf, ↓UGft, ↓UGff, ↓MGtt, ↓MGtf, ↓MGft, ↓MGff, ↓NGtt, ↓NGtf, ↓NGft, ↓NGff, ↓PGtt, ↓PGtf, ↓PGft, ↓PGff, ↓BGtt, ↓BGtf, ↓BGft, ↓BGff, ↓CGtt, ↓CGtf, ↓CGft, ↓CGff, ↓IGtt, ↓IGtf, ↓IGft, ↓IGff, ↓PKt, ↓PKf, ↓CDt, ↓CDf, ↓NOTt, ↓NOTf, ↓NK_ptr, ↓SEQt heq]
      refine BKadd (a := n) (b := 1) rfl rfl (by omega) (by omega) ?_
      rw [conv_i (k := .u8) (by kernel_rfl) (by kernel_rfl), IntWalk.u8_in _ (by omega)]
      exact ⟨by rw [← hi]; rfl, hm1⟩
    · rename_i ht
      have hne : (⟨t.toArray⟩ : ByteArray) ≠ ⟨b.toArray⟩ := fun q => ht (by have := congrArg (fun b => b.data.toList) q; simpa using this)
      simp only [txt, ↓VG_u, ↓UG_u, ↓MG_u, ↓NG_u, ↓PG_u, ↓BG_u, ↓CG_u, ↓IG_u, ↓VGtt, ↓VGtf, ↓VGft, ↓VGff, ↓UGtt, ↓UGtf, ↓UGft, ↓UGff, ↓MGtt, ↓MGtf, ↓MGft, ↓MGff, ↓NGtt, ↓NGtf, ↓NGft, ↓NGff, ↓PGtt, ↓PGtf, ↓PGft, ↓PGff, ↓BGtt, ↓BGtf, ↓BGft, ↓BGff, ↓CGtt, ↓CGtf, ↓CGft, ↓CGff, ↓IGtt, ↓IGtf, ↓IGft, ↓IGff, ↓PKt, ↓PKf, ↓CDt, ↓CDf, ↓NOTt, ↓NOTf, ↓NK_ptr, ↓SEQf hne]
      refine BKadd (a := n) (b := 1) rfl rfl (by omega) (by omega) ?_
      exact ⟨22 - (n + 1), by omega, n + 1, hlt, rfl, q0, q3, rfl, hi, rfl⟩
  · simp only [↓VG_u, ↓UG_u, ↓MG_u, ↓NG_u, ↓PG_u, ↓BG_u, ↓CG_u, ↓IG_u, ↓VGtt, ↓VGtf, ↓VGft, ↓VGff, ↓UGtt, ↓UGtf, ↓UGft, ↓UGff, ↓MGtt, ↓MGtf, ↓MGft, ↓MGff, ↓NGtt, ↓NGtf, ↓NGft, ↓NGff, ↓PGtt, ↓PGtf, ↓PGft, ↓PGff, ↓BGtt, ↓BGtf, ↓BGft, ↓BGff, ↓CGtt, ↓CGtf, ↓CGft, ↓CGff, ↓IGtt, ↓IGtf, ↓IGft, ↓IGff, ↓PKt, ↓PKf, ↓CDt, ↓CDf, ↓NOTt, ↓NOTf, ↓NK_ptr, ↓LTf (show (((22 : Nat) : Int)) ≤ (n : Int) by omega)]
    obtain rfl : n = 22 := by omega
    rw [sq_x, bk_x, sq_n, dispatcherref02_Call_R1_eq]
    unfold dispatcherref02_Call_R1_F
    rw [List.drop_of_length_le (by omega)] at hi
    exact ⟨by rw [← hi]; rfl, hm1⟩
theorem aggS (w : World) : (isAgg 9).run Tryz.prog w = .ok false w := by
  unfold isAgg
  rw [Sem.run_bind, run_underlying uS w]
  rfl
theorem fldTk {w : World} {K : Value → World → Prop} (t : Tk) : VK Tryz.prog (Instr.field 96 (.agg t.cells.toArray) 1) w K = K (txt t.text) w := by
  refine VK_eq_of ?_
  unfold Instr.field
  simp [Sem.run_bind, run_underlying Tryz.underlying96, part, aggS, Tk.cells, asAgg]
end
end Go.Proofs.YtpkfbaagpjdifaaGreatDoor.Tr
set_option linter.unusedVariables false
set_option linter.unusedSimpArgs false
set_option maxRecDepth 4000
namespace Go.Proofs.YtpkfbaagpjdifaaGreatDoor.Tr
open Go Go.X Go.RowKit Go.Proofs.YtpkfbaagpjdifaaGreatDoor.XD Go.Proofs.YtpkfbaagpjdifaaGreatDoor.XK
theorem st_cells_one {e : St} (h1 : e.es.oneCell' = true) (h2 : e.bs.oneCell' = true) (h3 : e.ls.oneCell' = true) : (e.cells.toArray.all (·.oneCell')) = true := by
  simp only [St.cells, List.all_toArray, List.all_cons, List.all_nil, h1, h2, h3]
  rfl
section
variable {lv : Value} {l : List Tk} {c : Nat}
theorem callR3_W (z : Go.X.At) (K : Exit → Sl → World → Prop) (ρ : Sl) (w : World) : sx z Tryz.prog 84 dispatcherref02_cursor_call_R3 K ρ w = W z Tryz.prog 84 dispatcherref02_cursor_call_R3 K ρ w := by kernel_rfl
theorem call_ok (hG : Good l) {s : St} {n a a' : Nat} {res : List Ex} (hr : callP l n s.kind a = some (res, a')) (hs : s.es = nl) (hx : s.exprs = []) (hbs : s.bs = nl) (hls : s.ls = nl) {w : World} (hw : PW w lv l c a) :
    Rt Tryz.prog 94 #[pq c, .agg s.cells.toArray] w fun v w' => ∃ v' xs, v = .agg (s.withE v' xs).cells.toArray ∧ xs.map Ex.er = res ∧ ExsOwn w' w.heap.size v' xs ∧ PW w' lv l c a' ∧ Mod (fun i => i = c) w w' := by
  unfold callP at hr
  cases hn1 : needP l a [40] with
  | none => rw [hn1] at hr; cases hr
  | some a1 =>
  rw [hn1] at hr
  dsimp only at hr
  obtain ⟨hm1, rfl⟩ := need_some hn1
  cases hl : argsLoop l n (argsP s.kind).1 (argsP s.kind).2 10 [] (a + 1) with
  | none => rw [hl] at hr; cases hr
  | some q =>
  obtain ⟨res', a2⟩ := q
  rw [hl] at hr
  dsimp only at hr
  split at hr
  · cases hr
  rename_i hred
  have hred : redsP s.kind = false := by simpa using hred
  cases hn2 : needP l a2 [41] with
  | none => rw [hn2] at hr; cases hr
  | some a3 =>
  rw [hn2] at hr
  obtain ⟨hm2, rfl⟩ := need_some hn2
  cases hr
  refine dispatcherref02_cursor_call_calls ?_
  unfold dispatcherref02_cursor_call_F
  refine box_k (cs := s.cells.toArray) rfl fun w1 hb1 hmm1 hz1 => ?_
  refine al_k (cs := zStc.toArray) zSt rfl _ fun w2 hb2 hmm2 hz2 => ?_
  have hb12 := hmm2.blk hb1 id
  have hmm02 := hmm1.trans hmm2
  have hcw : c < w.heap.size := blk_lt hw.cur
  have hlo : ∀ g, lv.ownBlock = some g → g < w.heap.size := fun g hg => owns_lt hw.toks hg
  obtain ⟨b3, hb3⟩ : ∃ b3, b3 = w.heap.size := ⟨_, rfl⟩
  obtain ⟨b4, hb4⟩ : ∃ b4, b4 = w1.heap.size := ⟨_, rfl⟩
  have hb34 : b4 = b3 + 1 := by omega
  rw [← hb3] at hb1 hb12 ⊢
  rw [← hb4] at hb2 hz2 ⊢
  obtain ⟨f0, f1, f2, f3, f4, f5, _⟩ := st_fo hb12
  simp only [↓f1.e]
  refine CK_st Tryz.func109 rfl rfl (ArgsR_ok s.kind w2) ?_
  rintro _ w3 ⟨rfl, rfl⟩
  rw [extract_ok (v := .int .i64 ((argsP s.kind).1 : Int)) rfl, extract_ok (v := .int .i64 ((argsP s.kind).2 : Int)) rfl]
  simp only [↓f1.e]
  refine CK_st Tryz.func109 rfl rfl (ArgsR_ok s.kind w3) ?_
  rintro _ w4 ⟨rfl, rfl⟩
  rw [extract_ok (v := .int .i64 ((argsP s.kind).1 : Int)) rfl, extract_ok (v := .int .i64 ((argsP s.kind).2 : Int)) rfl]
  refine CK_st Tryz.func63 rfl rfl (need_ok (hw.mod0 hmm02) hG hm1) ?_
  rintro _ w5 ⟨h5, hm5⟩
  have c3 := hm5.blk hb12 (by omega)
  have c4 := hm5.blk hb2 (by omega)
  have hmost : (argsP s.kind).2 ≤ 8 := by unfold argsP; (repeat' split) <;> decide
  have hm05 : Mod (fun i => i = c) w w5 := (up1 hmm02).trans hm5
  have hsw : s.withE nl [] = s := by cases s; simp only at hs hx; subst hs hx; rfl
  -- behind the arguments
  have fin : ∀ (ρ : Sl) (w9 : World) (v' : Value) (xs : List Ex), ρ 0 = pq c → ρ 3 = pq b3 → ρ 4 = pq b4 → w9.heap[b3]? = some (.cells (s.withE v' xs).cells.toArray tS (0, 0)) → w9.heap[b4]? = some (.cells zStc.toArray tS (0, 0)) → ExsOwn w9 b3 v' xs → xs.map Ex.er = res → PW w9 lv l c a2 → Mod (fun i => i = c) w w9 →
      sx fn_ Tryz.prog 84 dispatcherref02_cursor_call_R0 (retK Tryz.prog [ResultVar.cell 4 62] fun v w' => ∃ v' xs, v = .agg (s.withE v' xs).cells.toArray ∧ xs.map Ex.er = res ∧ ExsOwn w' b3 v' xs ∧ PW w' lv l c (a2 + 1) ∧ Mod (fun i => i = c) w w') ρ w9 := by
    intro ρ w9 v' xs q0 q3 q4 h3 h4 hO her hp hm
    rw [dispatcherref02_cursor_call_R0_eq]
    unfold dispatcherref02_cursor_call_R0_F
    rw [q0, q3]
    obtain ⟨f0, f1, f2, f3, f4, f5, _⟩ := st_fo h3
    simp only [↓f1.e]
    refine CK_st Tryz.func115 rfl rfl (Reduces_ok _ w9) ?_
    rintro _ w9 ⟨rfl, rfl⟩
    rw [show redsP (s.withE v' xs).kind = false from hred]
    refine condF ?_
    rw [dispatcherref02_cursor_call_R2_eq]
    unfold dispatcherref02_cursor_call_R2_F
    simp only [sq_n, sq_x, sq_r, bk_n, bk_r, bk_x, rt_r, rt_n, rs_0, rs_t, pk_1, pk_2, up_at, reduceIte, Nat.reduceEqDiff, q0, q3, q4]
    refine CK_st Tryz.func63 rfl rfl (need_ok hp hG hm2) ?_
    rintro _ w10 ⟨h10, hm10⟩
    have h310 := hm10.blk h3 (by omega)
    have h410 := hm10.blk h4 (by omega)
    have hO10 := hO.ne hm10 hp.cur (by decide)
    refine ldS (cs := (s.withE v' xs).cells.toArray) rfl Tryz.underlying62 rfl iSt h310 ?_
    have hone : ((s.withE v' xs).cells.toArray.all (·.oneCell')) = true := st_cells_one (owns_slice hO10.row) (by show s.bs.oneCell' = true; rw [hbs]; rfl) (by show s.ls.oneCell' = true; rw [hls]; rfl)
    refine stS (old := zStc.toArray) (cs := (s.withE v' xs).cells.toArray) rfl rfl iSt rfl hone h410 fun w11 h11 hm11 hz11 => ?_
    refine rsCell (R := fun v w' => ∃ v' xs, v = .agg (s.withE v' xs).cells.toArray ∧ xs.map Ex.er = res ∧ ExsOwn w' b3 v' xs ∧ PW w' lv l c (a2 + 1) ∧ Mod (fun i => i = c) w w') (cs := (s.withE v' xs).cells.toArray) q4 Tryz.underlying62 rfl iSt h11 ⟨v', xs, rfl, her, hO10.ne hm11 h410 (by decide), h10.off hm11 (fun k q => ⟨by omega, fun g hg => by have := hlo g hg; omega⟩), (hm.trans hm10).then hm11 fun i hi q => by omega⟩
  refine W_loopG dispatcherref02_cursor_call_L1_ok (fun m ρ w' => ∃ (v' : Value) (xs : List Ex) (a5 : Nat), argsLoop l n (argsP s.kind).1 (argsP s.kind).2 m (xs.map Ex.er) a5 = some (res, a2) ∧ ρ 0 = pq c ∧ ρ 3 = pq b3 ∧ ρ 4 = pq b4 ∧ ρ 6 = .int .i64 ((argsP s.kind).2 : Int) ∧ ρ 7 = .int .i64 ((argsP s.kind).1 : Int) ∧ w'.heap[b3]? = some (.cells (s.withE v' xs).cells.toArray tS (0, 0)) ∧ w'.heap[b4]? = some (.cells zStc.toArray tS (0, 0)) ∧ ExsOwn w' b3 v' xs ∧ PW w' lv l c a5 ∧ Mod (fun i => i = c) w w') 10
    ⟨nl, [], a + 1, hl, rfl, rfl, rfl, rfl, rfl, by rw [hsw]; exact c3, c4, ExsOwn.nil _ _, h5, hm05⟩ ?_
  rintro m ρ w6 ⟨v', xs, a5, hal, q0, q3, q4, q6, q7, d3, d4, hO, hp, hm⟩
  cases m with
  | zero => simp [argsLoop] at hal
  | succ m =>
  rw [argsLoop, List.length_map] at hal
  rw [dispatcherref02_cursor_call_L1_eq]
  unfold dispatcherref02_cursor_call_L1_F
  rw [q0, q3, q6, q7]
  obtain ⟨A, cp, hv', _⟩ := reads_cap hO.ok.1
  refine CK_st Tryz.func64 rfl rfl (good_ok hp) ?_
  rintro _ w7 ⟨rfl, rfl⟩
  have g5 : ∀ {w' : World}, w'.heap[b3]? = some (.cells (s.withE v' xs).cells.toArray tS (0, 0)) → FO Tryz.prog w' 62 5 5 ⟨b3, 0, none⟩ 60 (.slice A xs.length cp) := fun h => by rw [← hv']; exact (st_fo h).2.2.2.2.2.1
  have hs6 := hm.size
  by_cases hlen : xs.length < (argsP s.kind).2
  · rw [if_pos hlen] at hal
    simp only [↓VG_u, ↓UG_u, ↓MG_u, ↓NG_u, ↓PG_u, ↓BG_u, ↓CG_u, ↓IG_u, ↓VGtt, ↓VGtf, ↓VGft, ↓VGff, ↓UGtt, ↓UGtf, ↓UGft, ↓UGff, ↓MGtt, ↓MGtf, ↓MGft, ↓MGff, ↓NGtt, ↓NGtf, ↓NGft, ↓NGff, ↓PGtt, ↓PGtf, ↓PGft, ↓PGff, ↓BGtt, ↓BGtf, ↓BGft, ↓BGff, ↓CGtt, ↓CGtf, ↓CGft, ↓CGff, ↓IGtt, ↓IGtf, ↓IGft, ↓IGff, ↓PKt, ↓PKf, ↓CDt, ↓CDf, ↓NOTt, ↓NOTf, ↓NK_ptr, ↓(g5 d3).e, ↓len_sle, ↓LTt (show (xs.length : Int) < ((argsP s.kind).2 : Int) by omega)]
    -- one argument more
    have more : ∀ (ρ' : Sl) (w8 : World) (a6 : Nat), ρ' 0 = pq c → ρ' 3 = pq b3 → ρ' 4 = pq b4 → ρ' 6 = .int .i64 ((argsP s.kind).2 : Int) → ρ' 7 = .int .i64 ((argsP s.kind).1 : Int) → w8.heap[b3]? = some (.cells (s.withE v' xs).cells.toArray tS (0, 0)) → w8.heap[b4]? = some (.cells zStc.toArray tS (0, 0)) → ExsOwn w8 b3 v' xs → PW w8 lv l c a6 → Mod (fun i => i = c) w w8 →
        (match exprTk l n 0 a6 with | none => none | some (e, a) => argsLoop l n (argsP s.kind).1 (argsP s.kind).2 m (xs.map Ex.er ++ [e]) a) = some (res, a2) →
        ∀ K : Exit → Sl → World → Prop, (∀ ρ2 w9 v9 xs9 a9, argsLoop l n (argsP s.kind).1 (argsP s.kind).2 m (xs9.map Ex.er) a9 = some (res, a2) → ρ2 0 = pq c → ρ2 3 = pq b3 → ρ2 4 = pq b4 → ρ2 6 = .int .i64 ((argsP s.kind).2 : Int) → ρ2 7 = .int .i64 ((argsP s.kind).1 : Int) → w9.heap[b3]? = some (.cells (s.withE v9 xs9).cells.toArray tS (0, 0)) → w9.heap[b4]? = some (.cells zStc.toArray tS (0, 0)) → ExsOwn w9 b3 v9 xs9 → PW w9 lv l c a9 → Mod (fun i => i = c) w w9 → K .normal ρ2 w9) →
        sx fn_ Tryz.prog 84 dispatcherref02_cursor_call_R3 (blkK 1 K) ρ' w8 := by
      intro ρ' w8 a6 p0 p3 p4 p6 p7 e3 e4 hO8 hp8 hm8 hal8 K hK
      cases he : exprTk l n 0 a6 with
      | none => rw [he] at hal8; cases hal8
      | some q =>
      obtain ⟨pe, a7⟩ := q
      rw [he] at hal8
      dsimp only at hal8
      rw [callR3_W]
      refine dispatcherref02_cursor_call_R3_held (D := []) (fun _ => True) trivial ?_
      unfold dispatcherref02_cursor_call_R3_H
      rw [p0, p3]
      have hd8 : Mod none_ w8 { w8 with drawn := w8.drawn + 1 } := (Mod.refl _ w8).drawn _
      refine addE (e := s.withE v' xs) (base := b3) hG he (hd8.blk e3 id) (hO8.mod0 hd8) (hp8.mod0 hd8) (by omega) (by show xs.length < _; omega) (Nat.le_of_lt (blk_lt e3)) fun w9 x v9 hb9 hO9 her9 hp9 hm9 x1 x2 x3 x4 x5 x6 => ?_
      have hwr : ∀ k, (s.withE v' xs).es.ownBlock = some k → b3 ≤ k ∧ k ≠ b4 := fun k hk => ⟨owns_low hO8.row hk, fun q => owns_ne_blk hO8.row e4 (by decide) (by rw [q] at hk; exact hk)⟩
      have hm09 : Mod (fun i => i = c) w w9 := (hm8.trans (up1 hd8)).then hm9 fun i hi q => by
        rcases q with q | q | q
        · exact q
        · omega
        · have := (hwr i q.symm).1; omega
      have e49 : w9.heap[b4]? = some (.cells zStc.toArray tS (0, 0)) := hm9.blk (hd8.blk e4 id) fun q => by
        rcases q with q | q | q
        · omega
        · omega
        · exact (hwr b4 q.symm).2 rfl
      have e39 : w9.heap[b3]? = some (.cells (s.withE v9 (xs ++ [x])).cells.toArray tS (0, 0)) := hb9
      have fin2 : ∀ ρ2, ρ2 0 = pq c → ρ2 3 = pq b3 → ρ2 4 = pq b4 → ρ2 6 = .int .i64 ((argsP s.kind).2 : Int) → ρ2 7 = .int .i64 ((argsP s.kind).1 : Int) → blkK 1 K .normal ρ2 w9 := by
        intro ρ2 t0 t3 t4 t6 t7
        rw [bk_n]
        exact hK ρ2 w9 v9 (xs ++ [x]) a7 (by rw [List.map_append, List.map_singleton, her9]; exact hal8) t0 t3 t4 t6 t7 e39 e49 hO9 hp9 hm09
      refine ⟨fin2 _ ?_ ?_ ?_ ?_ ?_, fin2 _ ?_ ?_ ?_ ?_ ?_, fin2 _ ?_ ?_ ?_ ?_ ?_⟩
      · exact p0
      · exact p3
      · exact p4
      · exact p6
      · exact p7
      · exact p0
      · exact p3
      · exact p4
      · exact p6
      · exact p7
      · exact p0
      · exact p3
      · exact p4
      · exact p6
      · exact p7
    have next : ∀ (ρ2 : Sl) (w9 : World) (v9 : Value) (xs9 : List Ex) (a9 : Nat), argsLoop l n (argsP s.kind).1 (argsP s.kind).2 m (xs9.map Ex.er) a9 = some (res, a2) → ρ2 0 = pq c → ρ2 3 = pq b3 → ρ2 4 = pq b4 → ρ2 6 = .int .i64 ((argsP s.kind).2 : Int) → ρ2 7 = .int .i64 ((argsP s.kind).1 : Int) → w9.heap[b3]? = some (.cells (s.withE v9 xs9).cells.toArray tS (0, 0)) → w9.heap[b4]? = some (.cells zStc.toArray tS (0, 0)) → ExsOwn w9 b3 v9 xs9 → PW w9 lv l c a9 → Mod (fun i => i = c) w w9 →
        ∃ m', m' < m + 1 ∧ ∃ (v' : Value) (xs : List Ex) (a5 : Nat), argsLoop l n (argsP s.kind).1 (argsP s.kind).2 m' (xs.map Ex.er) a5 = some (res, a2) ∧ ρ2 0 = pq c ∧ ρ2 3 = pq b3 ∧ ρ2 4 = pq b4 ∧ ρ2 6 = .int .i64 ((argsP s.kind).2 : Int) ∧ ρ2 7 = .int .i64 ((argsP s.kind).1 : Int) ∧ w9.heap[b3]? = some (.cells (s.withE v' xs).cells.toArray tS (0, 0)) ∧ w9.heap[b4]? = some (.cells zStc.toArray tS (0, 0)) ∧ ExsOwn w9 b3 v' xs ∧ PW w9 lv l c a5 ∧ Mod (fun i => i = c) w w9 :=
      fun ρ2 w9 v9 xs9 a9 h0 h1 h2 h3 h4 h5 h6 h7 h8 h9 h10 => ⟨m, Nat.lt_succ_self m, v9, xs9, a9, h0, h1, h2, h3, h4, h5, h6, h7, h8, h9, h10⟩
    by_cases hpos : 0 < xs.length
    · rw [if_pos hpos] at hal
      simp only [↓GTt (show (0 : Int) < (xs.length : Int) by omega), ↓CDt, ↓(g5 d3).e, ↓len_sle]
      have comma : (match needP l a5 [44] with | none => none | some a => match exprTk l n 0 a with | none => none | some (e, a) => argsLoop l n (argsP s.kind).1 (argsP s.kind).2 m (xs.map Ex.er ++ [e]) a) = some (res, a2) → ∀ (ρ' : Sl) (w8 : World), Mod none_ w7 w8 → ρ' 0 = pq c → ρ' 3 = pq b3 → ρ' 4 = pq b4 → ρ' 6 = .int .i64 ((argsP s.kind).2 : Int) → ρ' 7 = .int .i64 ((argsP s.kind).1 : Int) →
          ∀ K : Exit → Sl → World → Prop, (∀ ρ2 w9 v9 xs9 a9, argsLoop l n (argsP s.kind).1 (argsP s.kind).2 m (xs9.map Ex.er) a9 = some (res, a2) → ρ2 0 = pq c → ρ2 3 = pq b3 → ρ2 4 = pq b4 → ρ2 6 = .int .i64 ((argsP s.kind).2 : Int) → ρ2 7 = .int .i64 ((argsP s.kind).1 : Int) → w9.heap[b3]? = some (.cells (s.withE v9 xs9).cells.toArray tS (0, 0)) → w9.heap[b4]? = some (.cells zStc.toArray tS (0, 0)) → ExsOwn w9 b3 v9 xs9 → PW w9 lv l c a9 → Mod (fun i => i = c) w w9 → K .normal ρ2 w9) →
          CK Tryz.prog (.func (.func 63) #[] #[]) [pq c, .string ⟨#[44]⟩] w8 fun x49 w => sx fn_ Tryz.prog 84 dispatcherref02_cursor_call_R3 (blkK 1 K) (up (up ρ' 48 (pq c)) 49 x49) w := by
        intro hal ρ' w8 hm78 p0 p3 p4 p6 p7 K hK
        cases hnc : needP l a5 [44] with
        | none => rw [hnc] at hal; cases hal
        | some a8 =>
        rw [hnc] at hal
        dsimp only at hal
        obtain ⟨hmc, rfl⟩ := need_some hnc
        refine CK_st Tryz.func63 rfl rfl (need_ok (hp.mod0 hm78) hG hmc) ?_
        rintro _ w9 ⟨h9, hm9⟩
        refine more _ w9 (a5 + 1) ?_ ?_ ?_ ?_ ?_ (hm9.blk (hm78.blk d3 id) (by omega)) (hm9.blk (hm78.blk d4 id) (by omega)) ((hO.mod0 hm78).ne hm9 (hp.mod0 hm78).cur (by decide)) h9 ((hm.trans (up1 hm78)).trans hm9) hal K hK
        · exact p0
        · exact p3
        · exact p4
        · exact p6
        · exact p7
      by_cases hle : (argsP s.kind).1 ≤ xs.length
      · simp only [↓VG_u, ↓UG_u, ↓MG_u, ↓NG_u, ↓PG_u, ↓BG_u, ↓CG_u, ↓IG_u, ↓VGtt, ↓VGtf, ↓VGft, ↓VGff, ↓UGtt, ↓UGtf, ↓UGft, ↓UGff, ↓MGtt, ↓MGtf, ↓MGft, ↓MGff, ↓NGtt, ↓NGtf, ↓NGft, ↓NGff, ↓PGtt, ↓PGtf, ↓PGft, ↓PGff, ↓BGtt, ↓BGtf, ↓BGft, ↓BGff, ↓CGtt, ↓CGtf, ↓CGft, ↓CGff, ↓IGtt, ↓IGtf, ↓IGft, ↓IGff, ↓PKt, ↓PKf, ↓CDt, ↓CDf, ↓NOTt, ↓NOTf, ↓NK_ptr, ↓GEt (show ((argsP s.kind).1 : Int) ≤ (xs.length : Int) by omega)]
        refine CK_st Tryz.func60 rfl rfl (next_ok hp hG) ?_
        rintro _ w8 ⟨rfl, hm8⟩
        simp only [↓fldTk]
        by_cases ht : (tkAt l a5).text = [41]
        · rw [if_pos ⟨hle, ht⟩] at hal
          have heq : (⟨(tkAt l a5).text.toArray⟩ : ByteArray) = ⟨#[41]⟩ := by rw [ht]
          simp only [txt, ↓VG_u, ↓UG_u, ↓MG_u, ↓NG_u, ↓PG_u, ↓BG_u, ↓CG_u, ↓IG_u, ↓VGtt, ↓VGtf, ↓VGft, ↓VGff, ↓UGtt, ↓UGtf, ↓UGft, ↓UGff, ↓MGtt, ↓MGtf, ↓MGft, ↓MGff, ↓NGtt, ↓NGtf, ↓NGft, ↓NGff, ↓PGtt, ↓PGtf, ↓PGft, ↓PGff, ↓BGtt, ↓BGtf, ↓BGft, ↓BGff, ↓CGtt, ↓CGtf, ↓CGft, ↓CGff, ↓IGtt, ↓IGtf, ↓IGft, ↓IGff, ↓PKt, ↓PKf, ↓CDt, ↓CDf, ↓NOTt, ↓NOTf, ↓NK_ptr, ↓SEQt heq]
          cases hal
          rw [sq_x, bk_x, sq_n]
          refine fin _ w8 v' xs ?_ ?_ ?_ (hm8.blk d3 id) (hm8.blk d4 id) (hO.mod0 hm8) rfl (hp.mod0 hm8) (hm.trans (up1 hm8))
          · exact q0
          · exact q3
          · exact q4
        · rw [if_neg (fun q => ht q.2)] at hal
          have hne : (⟨(tkAt l a5).text.toArray⟩ : ByteArray) ≠ ⟨#[41]⟩ := fun q => ht (by have := congrArg (fun b => b.data.toList) q; simpa using this)
          simp only [txt, ↓VG_u, ↓UG_u, ↓MG_u, ↓NG_u, ↓PG_u, ↓BG_u, ↓CG_u, ↓IG_u, ↓VGtt, ↓VGtf, ↓VGft, ↓VGff, ↓UGtt, ↓UGtf, ↓UGft, ↓UGff, ↓MGtt, ↓MGtf, ↓MGft, ↓MGff, ↓NGtt, ↓NGtf, ↓NGft, ↓NGff, ↓PGtt, ↓PGtf, ↓PGft, ↓PGff, ↓BGtt, ↓BGtf, ↓BGft, ↓BGff, ↓CGtt, ↓CGtf, ↓CGft, ↓CGff, ↓IGtt, ↓IGtf, ↓IGft, ↓IGff, ↓PKt, ↓PKf, ↓CDt, ↓CDf, ↓NOTt, ↓NOTf, ↓NK_ptr, ↓SEQf hne]
          refine comma hal _ w8 hm8 ?_ ?_ ?_ ?_ ?_ _ next
          · exact q0
          · exact q3
          · exact q4
          · exact q6
          · exact q7
      · rw [if_neg (fun q => hle q.1)] at hal
        simp only [↓VG_u, ↓UG_u, ↓MG_u, ↓NG_u, ↓PG_u, ↓BG_u, ↓CG_u, ↓IG_u, ↓VGtt, ↓VGtf, ↓VGft, ↓VGff, ↓UGtt, ↓UGtf, ↓UGft, ↓UGff, ↓MGtt, ↓MGtf, ↓MGft, ↓MGff, ↓NGtt, ↓NGtf, ↓NGft, ↓NGff, ↓PGtt, ↓PGtf, ↓PGft, ↓PGff, ↓BGtt, ↓BGtf, ↓BGft, ↓BGff, ↓CGtt, ↓CGtf, ↓CGft, ↓CGff, ↓IGtt, ↓IGtf, ↓IGft, ↓IGff, ↓PKt, ↓PKf, ↓CDt, ↓CDf, ↓NOTt, ↓NOTf, ↓NK_ptr, ↓GEf (show (xs.length : Int) < ((argsP s.kind).1 : Int) by omega)]
        refine comma hal _ w7 (Mod.refl _ _) ?_ ?_ ?_ ?_ ?_ _ next
        · exact q0
        · exact q3
        · exact q4
        · exact q6
        · exact q7
    · rw [if_neg hpos] at hal
      simp only [↓GTf (show (xs.length : Int) ≤ 0 by omega), ↓CDf]
      refine more _ w7 a5 ?_ ?_ ?_ ?_ ?_ d3 d4 hO hp hm hal _ next
      · exact q0
      · exact q3
      · exact q4
      · exact q6
      · exact q7
  · rw [if_neg hlen] at hal
    cases hal
    simp only [↓VG_u, ↓UG_u, ↓MG_u, ↓NG_u, ↓PG_u, ↓BG_u, ↓CG_u, ↓IG_u, ↓VGtt, ↓VGtf, ↓VGft, ↓VGff, ↓UGtt, ↓UGtf, ↓UGft, ↓UGff, ↓MGtt, ↓MGtf, ↓MGft, ↓MGff, ↓NGtt, ↓NGtf, ↓NGft, ↓NGff, ↓PGtt, ↓PGtf, ↓PGft, ↓PGff, ↓BGtt, ↓BGtf, ↓BGft, ↓BGff, ↓CGtt, ↓CGtf, ↓CGft, ↓CGff, ↓IGtt, ↓IGtf, ↓IGft, ↓IGff, ↓PKt, ↓PKf, ↓CDt, ↓CDf, ↓NOTt, ↓NOTf, ↓NK_ptr, ↓(g5 d3).e, ↓len_sle, ↓LTf (show ((argsP s.kind).2 : Int) ≤ (xs.length : Int) by omega)]
    rw [sq_x, bk_x, sq_n]
    refine fin _ w7 v' xs ?_ ?_ ?_ d3 d4 hO rfl hp hm
    · exact q0
    · exact q3
    · exact q4
end
end Go.Proofs.YtpkfbaagpjdifaaGreatDoor.Tr
set_option linter.unusedVariables false
set_option linter.unusedSimpArgs false
set_option maxRecDepth 4000
namespace Go.Proofs.YtpkfbaagpjdifaaGreatDoor.Tr
open Go Go.X Go.RowKit Go.Proofs.YtpkfbaagpjdifaaGreatDoor.XD Go.Proofs.YtpkfbaagpjdifaaGreatDoor.XK
structure GotS (w w' : World) (e : St) (pe : St) : Prop where
  er : e.er = pe
  own : e.Own w' tE tS
  in_ : e.In fun i => w.heap.size ≤ i
theorem bSt2 (a b : Int) : Tryz.prog.built 62 [(8, .int .i64 a), (9, .int .i64 b)] = some (St.mk 0 0 0 (bs []) 0 nl [] nl [] nl [] a b).cells.toArray := by kernel_rfl
section
variable {lv : Value} {l : List Tk} {c : Nat}
def StmtC (lv : Value) (l : List Tk) (c n : Nat) : Prop := ∀ (a : Nat) (r : St × Nat), stmtP l n a = some r → ∀ w, PW w lv l c a →
  Rt Tryz.prog 65 #[pq c] w fun v w' => ∃ e, v = .agg e.cells.toArray ∧ GotS w w' e r.1 ∧ PW w' lv l c r.2 ∧ Mod (fun i => i = c) w w'
def BlockC (lv : Value) (l : List Tk) (c n : Nat) : Prop := ∀ (a : Nat) (r : List St × Nat), blockP l n a = some r → ∀ w, PW w lv l c a →
  Rt Tryz.prog 92 #[pq c] w fun v w' => ∃ ss, StsOwn w' w.heap.size v ss ∧ ss.map St.er = r.1 ∧ PW w' lv l c r.2 ∧ Mod (fun i => i = c) w w'
structure FrS (lv : Value) (l : List Tk) (c : Nat) (w0 w : World) (b2 b3 b4 : Nat) (t : Tk) (e : St) (a : Nat) : Prop where
  h2 : w.heap[b2]? = some (.cells zStc.toArray tS (0, 0))
  h3 : w.heap[b3]? = some (.cells t.cells.toArray tT (0, 0))
  h4 : w.heap[b4]? = some (.cells e.cells.toArray tS (0, 0))
  pw : PW w lv l c a
  m : Mod (fun i => i = c) w0 w
  lo : w0.heap.size ≤ b2 ∧ b2 < b3 ∧ b3 < b4 ∧ c < w0.heap.size ∧ ∀ g, lv.ownBlock = some g → g < w0.heap.size
  ex : ExsOwn w (b4 + 1) e.es e.exprs
  bd : StsOwn w (b4 + 1) e.bs e.body
  nls : e.ls = nl ∧ e.els = []
variable {w0 w w' : World} {b2 b3 b4 : Nat} {t : Tk} {e : St} {a : Nat}
theorem FrS.ltw (h : FrS lv l c w0 w b2 b3 b4 t e a) : b4 < w.heap.size := blk_lt h.h4
theorem FrS.cur (h : FrS lv l c w0 w b2 b3 b4 t e a) {a' : Nat} (hm : Mod (fun i => i = c) w w') (hp : PW w' lv l c a') : FrS lv l c w0 w' b2 b3 b4 t e a' := by
  have := h.lo
  exact ⟨hm.blk h.h2 (by omega), hm.blk h.h3 (by omega), hm.blk h.h4 (by omega), hp, h.m.trans hm, h.lo, h.ex.ne hm h.pw.cur (by decide), h.bd.ne hm h.pw.cur (by decide) (by decide), h.nls⟩
theorem FrS.mod0 (h : FrS lv l c w0 w b2 b3 b4 t e a) (hm : Mod none_ w w') : FrS lv l c w0 w' b2 b3 b4 t e a := h.cur (up1 hm) (h.pw.mod0 hm)
theorem FrS.put (h : FrS lv l c w0 w b2 b3 b4 t e a) {e' : St} (hm : Mod (fun i => i = b4) w w') (hb : w'.heap[b4]? = some (.cells e'.cells.toArray tS (0, 0))) (hx : ExsOwn w' (b4 + 1) e'.es e'.exprs) (hd : StsOwn w' (b4 + 1) e'.bs e'.body) (hn : e'.ls = nl ∧ e'.els = []) : FrS lv l c w0 w' b2 b3 b4 t e' a := by
  have := h.lo
  refine ⟨hm.blk h.h2 (by omega), hm.blk h.h3 (by omega), hb, h.pw.off hm fun k q => ?_, h.m.then hm fun i hi q => by omega, h.lo, hx, hd, hn⟩
  refine ⟨by omega, fun g hg => ?_⟩
  have := h.lo.2.2.2.2 g hg
  omega
theorem FrS.fst (h : FrS lv l c w0 w b2 b3 b4 t e a) {i off : Nat} {t' : TypeId} {v : Value} (e' : St) (h1 : fieldOff Tryz.prog 62 i = some off) (hc1 : Tryz.prog.cellsOf t' = 1) (hv : v.oneCell' = true) (ho : off < 10) (hcs : e.cells.toArray.setIfInBounds off v = e'.cells.toArray) (hes : e'.es = e.es ∧ e'.exprs = e.exprs) (hbs : e'.bs = e.bs ∧ e'.body = e.body) (hn : e'.ls = nl ∧ e'.els = [])
    {K : Value → Value → World → Prop} (hk : ∀ x w', FrS lv l c w0 w' b2 b3 b4 t e' a → K x undef w') : VK Tryz.prog (Instr.fieldAt 62 (pq b4) i) w fun x w => UK Tryz.prog (Instr.storeAt t' x v) w (K x) := by
  refine fst_k h1 hc1 hv h.h4 (by simpa [St.cells] using ho) hcs fun x w1 hb1 hm1 hz1 => hk _ _ (h.put hm1 hb1 ?_ ?_ hn)
  · rw [hes.1, hes.2]; exact h.ex.off hm1 fun k q => by omega
  · rw [hbs.1, hbs.2]; exact h.bd.off hm1 fun k q => by omega
theorem FrS.no (h : FrS lv l c w0 w b2 b3 b4 t e a) (hG : Good l) {s : Bs} (hf : mayP l a s = false) {K : Value → World → Prop} (hk : ∀ w', FrS lv l c w0 w' b2 b3 b4 t e a → K (.bool false) w') : CK Tryz.prog (.func (.func 59) #[] #[]) [pq c, txt s] w K := by
  refine CK_st Tryz.func59 rfl rfl (may_ok h.pw hG s) ?_
  rintro _ w1 ⟨rfl, h1, hm1⟩
  rw [hf] at h1 ⊢
  exact hk _ (h.cur hm1 h1)
theorem FrS.yes (h : FrS lv l c w0 w b2 b3 b4 t e a) (hG : Good l) {s : Bs} (hf : mayP l a s = true) {K : Value → World → Prop} (hk : ∀ w', FrS lv l c w0 w' b2 b3 b4 t e (a + 1) → K (.bool true) w') : CK Tryz.prog (.func (.func 59) #[] #[]) [pq c, txt s] w K := by
  refine CK_st Tryz.func59 rfl rfl (may_ok h.pw hG s) ?_
  rintro _ w1 ⟨rfl, h1, hm1⟩
  rw [hf] at h1 ⊢
  exact hk _ (h.cur hm1 h1)
theorem FrS.need (h : FrS lv l c w0 w b2 b3 b4 t e a) (hG : Good l) {s : Bs} (hf : mayP l a s = true) {K : Value → World → Prop} (hk : ∀ v w', FrS lv l c w0 w' b2 b3 b4 t e (a + 1) → K v w') : CK Tryz.prog (.func (.func 63) #[] #[]) [pq c, txt s] w K := by
  refine CK_st Tryz.func63 rfl rfl (need_ok h.pw hG hf) ?_
  rintro v w1 ⟨h1, hm1⟩
  exact hk _ _ (h.cur hm1 h1)
theorem FrS.name (h : FrS lv l c w0 w b2 b3 b4 t e a) (hG : Good l) (hk1 : (tkAt l a).kind = 1) {K : Value → World → Prop} (hk : ∀ w', FrS lv l c w0 w' b2 b3 b4 t e (a + 1) → K (txt (tkAt l a).text) w') : CK Tryz.prog (.func (.func 61) #[] #[]) [pq c] w K := by
  refine CK_st Tryz.func61 rfl rfl (name_ok h.pw hG hk1) ?_
  rintro _ w1 ⟨rfl, h1, hm1⟩
  exact hk _ (h.cur hm1 h1)
theorem FrS.retS (h : FrS lv l c w0 w b2 b3 b4 t e a) {pe : St} (her : e.er = pe) (hf : e.fine) {R : Value → World → Prop} {ρ : Value → Sl} (hq : ∀ x, ρ x 2 = pq b2) (hR : ∀ w', GotS w0 w' e pe → PW w' lv l c a → Mod (fun i => i = c) w0 w' → R (.agg e.cells.toArray) w') :
    VK Tryz.prog (Instr.loadAt 62 (pq b4)) w fun x w => UK Tryz.prog (Instr.storeAt 62 (pq b2) x) w fun _ w => resK Tryz.prog (ρ x) (fun vs w => R (packV vs) w) [ResultVar.cell 2 62] w := by
  have lo := h.lo
  refine ldS (cs := e.cells.toArray) rfl Tryz.underlying62 rfl iSt h.h4 ?_
  have hone : (e.cells.toArray.all (·.oneCell')) = true := st_cells_one (owns_slice h.ex.row) (owns_slice h.bd.row) (by rw [h.nls.1]; rfl)
  refine stS (old := zStc.toArray) (cs := e.cells.toArray) rfl rfl iSt rfl hone h.h2 fun w1 h1 hm1 hz1 => ?_
  have hx := h.ex.off hm1 fun k q => by omega
  have hd := h.bd.off hm1 fun k q => by omega
  have hown : e.Own w1 tE tS := St.own_.2 ⟨⟨owns_base hx.row (Nat.zero_le _), hx.own⟩, ⟨owns_base hd.row (Nat.zero_le _), hd.own⟩, ⟨by rw [h.nls.1, h.nls.2]; exact owns_none _ _ _ _, by rw [h.nls.2]; simp⟩, hf⟩
  have hin : e.In fun i => w0.heap.size ≤ i := by
    refine St.in_.2 ⟨⟨fun k hk => by have := owns_low hx.row hk; omega, fun z hz => (hx.at_ z hz).mono fun k hk => by omega⟩, ⟨fun k hk => by have := owns_low hd.row hk; omega, fun z hz => (hd.at_ z hz).mono fun k hk => by omega⟩, ?_⟩
    rw [h.nls.1, h.nls.2]
    exact ⟨fun k hk => by simp [nl, Value.ownBlock] at hk, by simp⟩
  have hR1 := hR w1 ⟨her, hown, hin⟩ (h.pw.off hm1 fun k q => ⟨by omega, fun g hg => by have := lo.2.2.2.2 g hg; omega⟩) (h.m.then hm1 fun i hi q => by omega)
  exact rsCell (R := fun v w => R v w) (cs := e.cells.toArray) (hq _) Tryz.underlying62 rfl iSt h1 hR1
theorem FrS.add (h : FrS lv l c w0 w b2 b3 b4 t e a) (hG : Good l) {n a' : Nat} {pe : Ex} (he : exprTk l n 0 a = some (pe, a')) (hlen : e.exprs.length < 1000) (hb0 : e.body = []) {K1 K2 K3 : Value → Value → Value → Value → Value → Value → World → Prop}
    (hK : ∀ (w' : World) (x : Ex) (v' : Value), FrS lv l c w0 w' b2 b3 b4 t (e.withE v' (e.exprs ++ [x])) a' → x.er = pe → ∀ x1 x2 x3 x4 x5 x6, K1 x1 x2 x3 x4 x5 x6 w' ∧ K2 x1 x2 x3 x4 x5 x6 w' ∧ K3 x1 x2 x3 x4 x5 x6 w') :
    HK Tryz.prog (fun _ => True) (do pure (Next.value (← Instr.fieldAt 62 (pq b4) 5))) fun x26 => (VK Tryz.prog (Instr.loadAt 60 x26) w fun x27 w => True ∧ (CK Tryz.prog (.func (.func 91) #[] #[]) [pq c, .int .i64 0] w fun x29 w => True ∧ (VK Tryz.prog (Instr.buildSlice 60 1 [(0, x29)].toArray) w fun x30 w => True ∧ (IK Tryz.prog .append #[60, 60] 60 [false, false] [x27, x30] w fun x31 w => True ∧ (HK Tryz.prog (fun _ => True) (do pure (Next.value (← Instr.fieldAt 62 (pq b4) 5))) fun x32 => UK Tryz.prog (Instr.storeAt 60 x32 x31) w fun _ w => True ∧ K1 x26 x27 x29 x30 x31 x32 w))))) ∧
      (CK Tryz.prog (.func (.func 91) #[] #[]) [pq c, .int .i64 0] w fun x29 w => True ∧ ((VK Tryz.prog (Instr.loadAt 60 x26) w fun x27 w => True ∧ (VK Tryz.prog (Instr.buildSlice 60 1 [(0, x29)].toArray) w fun x30 w => True ∧ (IK Tryz.prog .append #[60, 60] 60 [false, false] [x27, x30] w fun x31 w => True ∧ (HK Tryz.prog (fun _ => True) (do pure (Next.value (← Instr.fieldAt 62 (pq b4) 5))) fun x32 => UK Tryz.prog (Instr.storeAt 60 x32 x31) w fun _ w => True ∧ K2 x26 x27 x29 x30 x31 x32 w)))) ∧
        (VK Tryz.prog (Instr.buildSlice 60 1 [(0, x29)].toArray) w fun x30 w => True ∧ (VK Tryz.prog (Instr.loadAt 60 x26) w fun x27 w => True ∧ (IK Tryz.prog .append #[60, 60] 60 [false, false] [x27, x30] w fun x31 w => True ∧ (HK Tryz.prog (fun _ => True) (do pure (Next.value (← Instr.fieldAt 62 (pq b4) 5))) fun x32 => UK Tryz.prog (Instr.storeAt 60 x32 x31) w fun _ w => True ∧ K3 x26 x27 x29 x30 x31 x32 w)))))) := by
  have lo := h.lo
  have hltw := h.ltw
  refine addE (base := b4 + 1) hG he h.h4 h.ex h.pw (by omega) (by omega) hltw fun w1 x v' hb1 hO1 her hp1 hm1 x1 x2 x3 x4 x5 x6 => hK w1 x v' ?_ her _ _ _ _ _ _
  have hrow : ∀ k, e.es.ownBlock = some k → b4 + 1 ≤ k := fun k hk => owns_low h.ex.row hk
  have hne : ∀ k, k ≤ b4 → k ≠ c → k ≠ b4 → ¬ (k = c ∨ k = b4 ∨ some k = e.es.ownBlock) := fun k hk h1 h2 q => by
    rcases q with q | q | q
    · exact h1 q
    · exact h2 q
    · have := hrow k q.symm; omega
  refine ⟨hm1.blk h.h2 (hne _ (by omega) (by omega) (by omega)), hm1.blk h.h3 (hne _ (by omega) (by omega) (by omega)), hb1, hp1, h.m.then hm1 fun i hi q => ?_, lo, hO1, ?_, h.nls⟩
  · rcases q with q | q | q
    · exact q
    · omega
    · have := hrow i q.symm; omega
  · have hbr : ∀ k, e.bs.ownBlock = some k → b4 + 1 ≤ k := fun k hk => owns_low h.bd.row hk
    refine ⟨owns_mod h.bd.row hm1 fun k hk q => ?_, fun z hz => ?_, h.bd.at_⟩
    · rcases q with q | q | q
      · have := hbr k hk; omega
      · have := hbr k hk; omega
      · exact owns_ne h.bd.row h.ex.row (by decide) k hk q
    · have hz : z ∈ e.body := hz
      rw [hb0] at hz
      cases hz
theorem FrS.done (h : FrS lv l c w0 w b2 b3 b4 t e a) (hG : Good l) (hs : mayP l a [59] = true) {pe : St} (her : e.er = pe) (hf : e.fine) {ρ : Sl} (q0 : ρ 0 = pq c) (q2 : ρ 2 = pq b2) (q4 : ρ 4 = pq b4) :
    sx fn_ Tryz.prog 141 dispatcherref02_cursor_stmt_R0 (retK Tryz.prog [ResultVar.cell 2 62] fun v w' => ∃ e, v = .agg e.cells.toArray ∧ GotS w0 w' e pe ∧ PW w' lv l c (a + 1) ∧ Mod (fun i => i = c) w0 w') ρ w := by
  rw [dispatcherref02_cursor_stmt_R0_eq]
  unfold dispatcherref02_cursor_stmt_R0_F
  rw [q0, q2, q4]
  refine h.need (s := [59]) hG hs fun v w1 h1 => ?_
  simp only [sq_n, sq_x, sq_r, bk_n, bk_r, bk_x, rt_r, rt_n, rs_0, rs_t, pk_1, pk_2, up_at, reduceIte, Nat.reduceEqDiff]
  refine h1.retS her hf (R := fun v w' => ∃ e, v = .agg e.cells.toArray ∧ GotS w0 w' e pe ∧ PW w' lv l c (a + 1) ∧ Mod (fun i => i = c) w0 w') (fun x => ?_) fun w' hg hp hm => ⟨_, rfl, hg, hp, hm⟩
  exact q2
theorem stF {op kind red turns line col : Int} {name : ByteArray} {es bs ls : Value} {ex : List Ex} {bd el : List St} (h1 : (Lit.int .u8 op).wf = true) (h2 : (Lit.int .u8 kind).wf = true) (h3 : (Lit.int .u8 red).wf = true) (h4 : name.size ≤ maxLen) (h5 : (Lit.int .i64 turns).wf = true) (h6 : (Lit.int .i64 line).wf = true) (h7 : (Lit.int .i64 col).wf = true) : (St.mk op kind red name turns es ex bs bd ls el line col).fine := ⟨h1, h2, h3, h4, h5, h6, h7⟩
theorem u8_wf {n : Int} (h0 : 0 ≤ n) (h1 : n ≤ 255) : (Lit.int .u8 n).wf = true := by
  simp [Lit.wf, IntKind.min, IntKind.max, IntKind.signed, IntKind.bits]
  omega
theorem stmt_step (hG : Good l) {n : Nat} (hB : BlockC lv l c n) : StmtC lv l c (n + 1) := by
  intro a r hr w hw
  rw [stmtP] at hr
  refine dispatcherref02_cursor_stmt_calls ?_
  unfold dispatcherref02_cursor_stmt_F
  refine al_k (cs := zStc.toArray) zSt rfl _ fun w1 hb1 hm1 hz1 => ?_
  refine CK_st Tryz.func60 rfl rfl (next_ok (hw.mod0 hm1) hG) ?_
  rintro _ w2 ⟨rfl, hm2⟩
  refine lcl_k (cs := (tkAt l a).cells.toArray) zTkg _ iTk rfl (tk_one _) fun w3 hb3 hm3 hz3 => ?_
  obtain ⟨k0, k1, k2, k3, k4⟩ := tk_fo hb3
  simp only [↓k3.e, ↓k4.e]
  rw [build_ok (bSt2 _ _)]
  refine lcl_k (cs := (St.mk 0 0 0 (bs []) 0 nl [] nl [] nl [] (tkAt l a).line (tkAt l a).col).cells.toArray) zSt _ iSt rfl (st_cells_one rfl rfl rfl) fun w4 hb4 hm4 hz4 => ?_
  have hs2 := hm2.size
  have hm14 := (hm2.trans hm3).trans hm4
  have hm04 := hm1.trans hm14
  have hF : FrS lv l c w w4 w.heap.size w2.heap.size w3.heap.size (tkAt l a) (St.mk 0 0 0 (bs []) 0 nl [] nl [] nl [] (tkAt l a).line (tkAt l a).col) a :=
    ⟨hm14.blk hb1 id, hm4.blk hb3 id, hb4, hw.mod0 hm04, up1 hm04, ⟨Nat.le_refl _, by omega, by omega, blk_lt hw.cur, fun g hg => owns_lt hw.toks hg⟩, ExsOwn.nil _ _, StsOwn.nil _ _, rfl, rfl⟩
  generalize w3.heap.size = b4 at *
  generalize w2.heap.size = b3 at *
  obtain ⟨tf1, tf2, tf3, tf4⟩ := tk_fine hG a
  have hwl := hG.len
  obtain ⟨k0, k1, k2, k3, k4⟩ := tk_fo hF.h3
  simp only [↓k0.e]
  by_cases hk1 : (tkAt l a).kind = 1
  · rw [if_pos hk1] at hr
    split at hr
    · cases hr
    rename_i hmay
    have hmay : mayP l (a + 1) [91] = false := by simpa using hmay
    cases hn1 : needP l (a + 1) [61] with
    | none => rw [hn1] at hr; cases hr
    | some a2 =>
    rw [hn1] at hr
    dsimp only at hr
    obtain ⟨hm1', rfl⟩ := need_some hn1
    cases he : exprTk l n 0 (a + 1 + 1) with
    | none => rw [he] at hr; cases hr
    | some q =>
    obtain ⟨pe, a3⟩ := q
    rw [he] at hr
    dsimp only at hr
    cases hn2 : needP l a3 [59] with
    | none => rw [hn2] at hr; cases hr
    | some a4 =>
    rw [hn2] at hr
    obtain ⟨hm2', rfl⟩ := need_some hn2
    cases hr
    simp only [↓EQt hk1, ↓CDt]
    refine hF.fst (off := 0) ⟨1, 0, 0, bs [], 0, nl, [], nl, [], nl, [], _, _⟩ (by kernel_rfl) (by kernel_rfl) rfl (by omega) rfl ⟨rfl, rfl⟩ ⟨rfl, rfl⟩ ⟨rfl, rfl⟩ fun x w5 hF5 => ?_
    refine hF5.name hG hk1 fun w6 hF6 => ?_
    refine hF6.fst (off := 3) ⟨1, 0, 0, bs (tkAt l a).text, 0, nl, [], nl, [], nl, [], _, _⟩ (by kernel_rfl) (by kernel_rfl) rfl (by omega) rfl ⟨rfl, rfl⟩ ⟨rfl, rfl⟩ ⟨rfl, rfl⟩ fun x w7 hF7 => ?_
    refine hF7.no (s := [91]) hG hmay fun w8 hF8 => ?_
    simp only [↓CDf]
    rw [dispatcherref02_cursor_stmt_R1_eq]
    unfold dispatcherref02_cursor_stmt_R1_F
    simp only [sq_n, sq_x, sq_r, bk_n, bk_r, bk_x, rt_r, rt_n, rs_0, rs_t, pk_1, pk_2, up_at, reduceIte, Nat.reduceEqDiff]
    refine hF8.need (s := [61]) hG hm1' fun v w9 hF9 => ?_
    refine dispatcherref02_cursor_stmt_R10_held (D := []) (fun _ => True) trivial ?_
    unfold dispatcherref02_cursor_stmt_R10_H
    simp only [sq_n, sq_x, sq_r, bk_n, bk_r, bk_x, rt_r, rt_n, rs_0, rs_t, pk_1, pk_2, up_at, reduceIte, Nat.reduceEqDiff]
    refine (hF9.mod0 ((Mod.refl _ w9).drawn (w9.drawn + 1))).add hG he (by simp) rfl fun w10 x v' hF10 her x1 x2 x3 x4 x5 x6 => ?_
    have fin : ∀ ρ : Sl, ρ 0 = pq c → ρ 2 = pq w.heap.size → ρ 4 = pq b4 → _ := fun ρ q0 q2 q4 => hF10.done (ρ := ρ) hG hm2' (pe := ⟨1, 0, 0, bs (tkAt l a).text, 0, nl, [pe], nl, [], nl, [], (tkAt l a).line, (tkAt l a).col⟩) (by rw [St.er_eq]; simp only [St.withE, List.nil_append, List.map_cons, List.map_nil, her]; rfl) (show (St.mk 1 0 0 (bs (tkAt l a).text) 0 v' [x] nl [] nl [] (tkAt l a).line (tkAt l a).col).fine from stF (by decide) (by decide) (by decide) (bs_size tf1) (by decide) tf3 tf4) q0 q2 q4
    exact ⟨fin _ rfl rfl rfl, fin _ rfl rfl rfl, fin _ rfl rfl rfl⟩
  rw [if_neg hk1] at hr
  simp only [↓EQf hk1, ↓CDf]
  split at hr
  · cases hr
  rename_i hif
  have hif : mayP l a [105, 102] = false := by simpa using hif
  refine hF.no (s := [105, 102]) hG hif fun w5 hF5 => ?_
  simp only [↓CDf]
  cases hwh : mayP l a [119, 104, 105, 108, 101] with
  | true =>
    rw [hwh, if_pos rfl] at hr
    refine hF5.yes (s := [119, 104, 105, 108, 101]) hG hwh fun w6 hF6 => ?_
    simp only [↓CDt]
    cases he : exprTk l n 0 (a + 1) with
    | none => rw [he] at hr; cases hr
    | some q =>
    obtain ⟨pe, a3⟩ := q
    rw [he] at hr
    dsimp only at hr
    cases hb : blockP l n a3 with
    | none => rw [hb] at hr; cases hr
    | some q =>
    obtain ⟨pb, a4⟩ := q
    rw [hb] at hr
    cases hr
    refine hF6.fst (off := 0) ⟨4, 0, 0, bs [], 0, nl, [], nl, [], nl, [], _, _⟩ (by kernel_rfl) (by kernel_rfl) rfl (by omega) rfl ⟨rfl, rfl⟩ ⟨rfl, rfl⟩ ⟨rfl, rfl⟩ fun x w7 hF7 => ?_
    refine dispatcherref02_cursor_stmt_R6_held (D := []) (fun _ => True) trivial ?_
    unfold dispatcherref02_cursor_stmt_R6_H
    simp only [sq_n, sq_x, sq_r, bk_n, bk_r, bk_x, rt_r, rt_n, rs_0, rs_t, pk_1, pk_2, up_at, reduceIte, Nat.reduceEqDiff]
    refine (hF7.mod0 ((Mod.refl _ w7).drawn (w7.drawn + 1))).add hG he (by simp) rfl fun w8 x v' hF8 her x1 x2 x3 x4 x5 x6 => ?_
    have fin : ∀ ρ : Sl, ρ 0 = pq c → ρ 2 = pq w.heap.size → ρ 4 = pq b4 → sx fn_ Tryz.prog 141 dispatcherref02_cursor_stmt_R7 (blkK 0 (seqK (sx fn_ Tryz.prog 141 dispatcherref02_cursor_stmt_R0 (retK Tryz.prog [ResultVar.cell 2 62] fun v w' => ∃ e, v = .agg e.cells.toArray ∧ GotS w w' e ⟨4, 0, 0, bs [], 0, nl, [pe], nl, pb, nl, [], (tkAt l a).line, (tkAt l a).col⟩ ∧ PW w' lv l c a4 ∧ Mod (fun i => i = c) w w')) (retK Tryz.prog [ResultVar.cell 2 62] fun v w' => ∃ e, v = .agg e.cells.toArray ∧ GotS w w' e ⟨4, 0, 0, bs [], 0, nl, [pe], nl, pb, nl, [], (tkAt l a).line, (tkAt l a).col⟩ ∧ PW w' lv l c a4 ∧ Mod (fun i => i = c) w w'))) ρ w8 := by
      intro ρ q0 q2 q4
      rw [dispatcherref02_cursor_stmt_R7_eq]
      unfold dispatcherref02_cursor_stmt_R7_F
      rw [q0, q2, q4]
      refine CK_st Tryz.func92 rfl rfl (hB _ _ hb _ hF8.pw) ?_
      rintro v9 w9 ⟨ss, hO9, hss, h9, hm9⟩
      have hF9 := hF8.cur hm9 h9
      have hlt := hF8.ltw
      refine fst_k (off := 6) (by kernel_rfl) (by kernel_rfl) (owns_slice hO9.row) hF9.h4 (by simp [St.cells, St.withE]) (cs' := (St.mk 4 0 0 (bs []) 0 v' [x] v9 ss nl [] (tkAt l a).line (tkAt l a).col).cells.toArray) rfl fun x10 w10 h10 hm10 hz10 => ?_
      have hF10 : FrS lv l c w w10 w.heap.size b3 b4 (tkAt l a) (St.mk 4 0 0 (bs []) 0 v' [x] v9 ss nl [] (tkAt l a).line (tkAt l a).col) a4 := hF9.put hm10 h10 (hF9.ex.off hm10 fun k q => by omega) ((hO9.off hm10 fun k q => by omega).low (by omega)) ⟨rfl, rfl⟩
      simp only [sq_n, sq_x, sq_r, bk_n, bk_r, bk_x, rt_r, rt_n, rs_0, rs_t, pk_1, pk_2, up_at, reduceIte, Nat.reduceEqDiff]
      refine hF10.retS (pe := ⟨4, 0, 0, bs [], 0, nl, [pe], nl, pb, nl, [], (tkAt l a).line, (tkAt l a).col⟩) (by rw [St.er_eq]; simp only [List.map_cons, List.map_nil, her, hss]; rfl) (stF (by decide) (by decide) (by decide) (by decide) (by decide) tf3 tf4) (R := fun v w' => ∃ e, v = .agg e.cells.toArray ∧ GotS w w' e ⟨4, 0, 0, bs [], 0, nl, [pe], nl, pb, nl, [], (tkAt l a).line, (tkAt l a).col⟩ ∧ PW w' lv l c a4 ∧ Mod (fun i => i = c) w w') (fun x => ?_) fun w' hg hp hm => ⟨_, rfl, hg, hp, hm⟩
      exact q2
    exact ⟨fin _ rfl rfl rfl, fin _ rfl rfl rfl, fin _ rfl rfl rfl⟩
  | false =>
    rw [hwh, if_neg (by simp)] at hr
    refine hF5.no (s := [119, 104, 105, 108, 101]) hG hwh fun w6 hF6 => ?_
    simp only [↓CDf]
    cases hfo : mayP l a [102, 111, 114] with
    | true =>
      rw [hfo, if_pos rfl] at hr
      refine hF6.yes (s := [102, 111, 114]) hG hfo fun w7 hF7 => ?_
      simp only [↓CDt]
      split at hr
      rotate_left
      · cases hr
      rename_i hk1'
      cases hn1 : needP l (a + 2) [60] with
      | none => rw [hn1] at hr; cases hr
      | some a1 =>
      rw [hn1] at hr
      dsimp only at hr
      obtain ⟨hm1', ha1⟩ := need_some hn1
      split at hr
      · cases hr
      rename_i hsz
      have hsz : mayP l a1 [115, 105, 122, 101] = false := by simpa using hsz
      split at hr
      rotate_left
      · cases hr
      rename_i hnum
      cases hb : blockP l n (a1 + 1) with
      | none => rw [hb] at hr; cases hr
      | some q =>
      obtain ⟨pb, a4⟩ := q
      rw [hb] at hr
      cases hr
      obtain ⟨uf1, _⟩ := tk_fine hG (a + 1)
      obtain ⟨_, vf2, _⟩ := tk_fine hG a1
      refine hF7.fst (off := 0) ⟨5, 0, 0, bs [], 0, nl, [], nl, [], nl, [], _, _⟩ (by kernel_rfl) (by kernel_rfl) rfl (by omega) rfl ⟨rfl, rfl⟩ ⟨rfl, rfl⟩ ⟨rfl, rfl⟩ fun x w8 hF8 => ?_
      refine hF8.name hG hk1' fun w9 hF9 => ?_
      refine hF9.fst (off := 3) ⟨5, 0, 0, bs (tkAt l (a + 1)).text, 0, nl, [], nl, [], nl, [], _, _⟩ (by kernel_rfl) (by kernel_rfl) rfl (by omega) rfl ⟨rfl, rfl⟩ ⟨rfl, rfl⟩ ⟨rfl, rfl⟩ fun x w10 hF10 => ?_
      refine hF10.need (s := [60]) hG hm1' fun v w11 hF11 => ?_
      rw [← ha1] at hF11
      refine hF11.no (s := [115, 105, 122, 101]) hG hsz fun w12 hF12 => ?_
      simp only [↓VG_u, ↓UG_u, ↓MG_u, ↓NG_u, ↓PG_u, ↓BG_u, ↓CG_u, ↓IG_u, ↓VGtt, ↓VGtf, ↓VGft, ↓VGff, ↓UGtt, ↓UGtf, ↓UGft, ↓UGff, ↓MGtt, ↓MGtf, ↓MGft, ↓MGff, ↓NGtt, ↓NGtf, ↓NGft, ↓NGff, ↓PGtt, ↓PGtf, ↓PGft, ↓PGff, ↓BGtt, ↓BGtf, ↓BGft, ↓BGff, ↓CGtt, ↓CGtf, ↓CGft, ↓CGff, ↓IGtt, ↓IGtf, ↓IGft, ↓IGff, ↓PKt, ↓PKf, ↓CDt, ↓CDf, ↓NOTt, ↓NOTf, ↓NK_ptr]
      refine CK_st Tryz.func62 rfl rfl (number_ok hF12.pw hG hnum.1 hnum.2.1 hnum.2.2) ?_
      rintro _ w13 ⟨rfl, h13, hm13⟩
      have hF13 := hF12.cur hm13 h13
      refine hF13.fst (off := 4) ⟨5, 0, 0, bs (tkAt l (a + 1)).text, (tkAt l a1).num, nl, [], nl, [], nl, [], _, _⟩ (by kernel_rfl) (by kernel_rfl) rfl (by omega) rfl ⟨rfl, rfl⟩ ⟨rfl, rfl⟩ ⟨rfl, rfl⟩ fun x w14 hF14 => ?_
      rw [dispatcherref02_cursor_stmt_R8_eq]
      unfold dispatcherref02_cursor_stmt_R8_F
      simp only [sq_n, sq_x, sq_r, bk_n, bk_r, bk_x, rt_r, rt_n, rs_0, rs_t, pk_1, pk_2, up_at, reduceIte, Nat.reduceEqDiff]
      refine CK_st Tryz.func92 rfl rfl (hB _ _ hb _ hF14.pw) ?_
      rintro v15 w15 ⟨ss, hO15, hss, h15, hm15⟩
      have hF15 := hF14.cur hm15 h15
      have hlt := hF14.ltw
      refine fst_k (off := 6) (by kernel_rfl) (by kernel_rfl) (owns_slice hO15.row) hF15.h4 (by simp [St.cells]) (cs' := (St.mk 5 0 0 (bs (tkAt l (a + 1)).text) (tkAt l a1).num nl [] v15 ss nl [] (tkAt l a).line (tkAt l a).col).cells.toArray) rfl fun x16 w16 h16 hm16 hz16 => ?_
      have hF16 : FrS lv l c w w16 w.heap.size b3 b4 (tkAt l a) (St.mk 5 0 0 (bs (tkAt l (a + 1)).text) (tkAt l a1).num nl [] v15 ss nl [] (tkAt l a).line (tkAt l a).col) a4 := hF15.put hm16 h16 (hF15.ex.off hm16 fun k q => by omega) ((hO15.off hm16 fun k q => by omega).low (by omega)) ⟨rfl, rfl⟩
      refine hF16.retS (pe := ⟨5, 0, 0, bs (tkAt l (a + 1)).text, (tkAt l a1).num, nl, [], nl, pb, nl, [], (tkAt l a).line, (tkAt l a).col⟩) (by rw [St.er_eq]; simp only [List.map_nil, hss]; rfl) (stF (by decide) (by decide) (by decide) (bs_size uf1) vf2 tf3 tf4) (R := fun v w' => ∃ e, v = .agg e.cells.toArray ∧ GotS w w' e ⟨5, 0, 0, bs (tkAt l (a + 1)).text, (tkAt l a1).num, nl, [], nl, pb, nl, [], (tkAt l a).line, (tkAt l a).col⟩ ∧ PW w' lv l c a4 ∧ Mod (fun i => i = c) w w') (fun x => rfl) fun w' hg hp hm => ⟨_, rfl, hg, hp, hm⟩
    | false =>
      rw [hfo, if_neg (by simp)] at hr
      refine hF6.no (s := [102, 111, 114]) hG hfo fun w7 hF7 => ?_
      simp only [↓CDf]
      cases has : mayP l a [97, 115, 115, 101, 114, 116] with
      | true =>
        rw [has, if_pos rfl] at hr
        refine hF7.yes (s := [97, 115, 115, 101, 114, 116]) hG has fun w8 hF8 => ?_
        simp only [↓CDt]
        cases he : exprTk l n 0 (a + 1) with
        | none => rw [he] at hr; cases hr
        | some q =>
        obtain ⟨pe, a3⟩ := q
        rw [he] at hr
        dsimp only at hr
        cases hn2 : needP l a3 [59] with
        | none => rw [hn2] at hr; cases hr
        | some a4 =>
        rw [hn2] at hr
        obtain ⟨hm2', rfl⟩ := need_some hn2
        cases hr
        refine hF8.fst (off := 0) ⟨6, 0, 0, bs [], 0, nl, [], nl, [], nl, [], _, _⟩ (by kernel_rfl) (by kernel_rfl) rfl (by omega) rfl ⟨rfl, rfl⟩ ⟨rfl, rfl⟩ ⟨rfl, rfl⟩ fun x w9 hF9 => ?_
        refine dispatcherref02_cursor_stmt_R9_held (D := []) (fun _ => True) trivial ?_
        unfold dispatcherref02_cursor_stmt_R9_H
        simp only [sq_n, sq_x, sq_r, bk_n, bk_r, bk_x, rt_r, rt_n, rs_0, rs_t, pk_1, pk_2, up_at, reduceIte, Nat.reduceEqDiff]
        refine (hF9.mod0 ((Mod.refl _ w9).drawn (w9.drawn + 1))).add hG he (by simp) rfl fun w10 x v' hF10 her x1 x2 x3 x4 x5 x6 => ?_
        have fin : ∀ ρ : Sl, ρ 0 = pq c → ρ 2 = pq w.heap.size → ρ 4 = pq b4 → _ := fun ρ q0 q2 q4 => hF10.done (ρ := ρ) hG hm2' (pe := ⟨6, 0, 0, bs [], 0, nl, [pe], nl, [], nl, [], (tkAt l a).line, (tkAt l a).col⟩) (by rw [St.er_eq]; simp only [St.withE, List.nil_append, List.map_cons, List.map_nil, her]; rfl) (show (St.mk 6 0 0 (bs []) 0 v' [x] nl [] nl [] (tkAt l a).line (tkAt l a).col).fine from stF (by decide) (by decide) (by decide) (by decide) (by decide) tf3 tf4) q0 q2 q4
        exact ⟨fin _ rfl rfl rfl, fin _ rfl rfl rfl, fin _ rfl rfl rfl⟩
      | false =>
        rw [has, if_neg (by simp)] at hr
        refine hF7.no (s := [97, 115, 115, 101, 114, 116]) hG has fun w8 hF8 => ?_
        simp only [↓CDf]
        split at hr
        · cases hr
        rename_i hst
        have hst : mayP l a [115, 116, 111, 112] = false := by simpa using hst
        refine hF8.no (s := [115, 116, 111, 112]) hG hst fun w9 hF9 => ?_
        simp only [↓CDf]
        split at hr
        rotate_left
        · cases hr
        rename_i hkc
        cases hc : callP l n (callK (tkAt l a).text) (a + 1) with
        | none => rw [hc] at hr; cases hr
        | some q =>
        obtain ⟨es, a3⟩ := q
        rw [hc] at hr
        dsimp only at hr
        cases hn2 : needP l a3 [59] with
        | none => rw [hn2] at hr; cases hr
        | some a4 =>
        rw [hn2] at hr
        obtain ⟨hm2', rfl⟩ := need_some hn2
        cases hr
        have hal := kind_lt (l := l) (a := a) (by rw [hkc.1]; decide)
        have hrng := callK_rng (tkAt l a).text
        obtain ⟨k0, k1, k2, k3, k4⟩ := tk_fo hF9.h3
        simp only [↓VG_u, ↓UG_u, ↓MG_u, ↓NG_u, ↓PG_u, ↓BG_u, ↓CG_u, ↓IG_u, ↓VGtt, ↓VGtf, ↓VGft, ↓VGff, ↓UGtt, ↓UGtf, ↓UGft, ↓UGff, ↓MGtt, ↓MGtf, ↓MGft, ↓MGff, ↓NGtt, ↓NGtf, ↓NGft, ↓NGff, ↓PGtt, ↓PGtf, ↓PGft, ↓PGff, ↓BGtt, ↓BGtf, ↓BGft, ↓BGff, ↓CGtt, ↓CGtf, ↓CGft, ↓CGff, ↓IGtt, ↓IGtf, ↓IGft, ↓IGff, ↓PKt, ↓PKf, ↓CDt, ↓CDf, ↓NOTt, ↓NOTf, ↓NK_ptr, ↓k0.e, ↓EQt hkc.1, ↓k1.e]
        refine CK_st Tryz.func93 rfl rfl (Call_ok _ w9) ?_
        rintro _ w10 ⟨rfl, hm10⟩
        have hF10 := hF9.mod0 hm10
        simp only [↓VG_u, ↓UG_u, ↓MG_u, ↓NG_u, ↓PG_u, ↓BG_u, ↓CG_u, ↓IG_u, ↓VGtt, ↓VGtf, ↓VGft, ↓VGff, ↓UGtt, ↓UGtf, ↓UGft, ↓UGff, ↓MGtt, ↓MGtf, ↓MGft, ↓MGff, ↓NGtt, ↓NGtf, ↓NGft, ↓NGff, ↓PGtt, ↓PGtf, ↓PGft, ↓PGff, ↓BGtt, ↓BGtf, ↓BGft, ↓BGff, ↓CGtt, ↓CGtf, ↓CGft, ↓CGff, ↓IGtt, ↓IGtf, ↓IGft, ↓IGff, ↓PKt, ↓PKf, ↓CDt, ↓CDf, ↓NOTt, ↓NOTf, ↓NK_ptr, ↓GTt hkc.2]
        refine adv2 hF10.pw (by omega) fun x2 x3 x4 x6 w11 h11 hm11 hz11 => ?_
        have hF11 := hF10.cur hm11 h11
        refine hF11.fst (off := 0) ⟨8, 0, 0, bs [], 0, nl, [], nl, [], nl, [], _, _⟩ (by kernel_rfl) (by kernel_rfl) rfl (by omega) rfl ⟨rfl, rfl⟩ ⟨rfl, rfl⟩ ⟨rfl, rfl⟩ fun x w12 hF12 => ?_
        obtain ⟨k0, k1, k2, k3, k4⟩ := tk_fo hF12.h3
        simp only [↓k1.e]
        refine CK_st Tryz.func93 rfl rfl (Call_ok _ w12) ?_
        rintro _ w13 ⟨rfl, hm13⟩
        have hF13 := hF12.mod0 hm13
        refine hF13.fst (off := 1) ⟨8, callK (tkAt l a).text, 0, bs [], 0, nl, [], nl, [], nl, [], _, _⟩ (by kernel_rfl) (by kernel_rfl) rfl (by omega) rfl ⟨rfl, rfl⟩ ⟨rfl, rfl⟩ ⟨rfl, rfl⟩ fun x w14 hF14 => ?_
        refine ldS (cs := (St.mk 8 (callK (tkAt l a).text) 0 (bs []) 0 nl [] nl [] nl [] (tkAt l a).line (tkAt l a).col).cells.toArray) rfl Tryz.underlying62 rfl iSt hF14.h4 ?_
        refine CK_st Tryz.func94 rfl rfl (call_ok hG (s := ⟨8, callK (tkAt l a).text, 0, bs [], 0, nl, [], nl, [], nl, [], _, _⟩) hc rfl rfl rfl rfl hF14.pw) ?_
        rintro _ w15 ⟨v', xs, rfl, hxs, hO15, h15, hm15⟩
        have hF15 := hF14.cur hm15 h15
        have hlt := hF14.ltw
        refine stS (old := (St.mk 8 (callK (tkAt l a).text) 0 (bs []) 0 nl [] nl [] nl [] (tkAt l a).line (tkAt l a).col).cells.toArray) (cs := (St.mk 8 (callK (tkAt l a).text) 0 (bs []) 0 v' xs nl [] nl [] (tkAt l a).line (tkAt l a).col).cells.toArray) rfl rfl iSt rfl (st_cells_one (owns_slice hO15.row) rfl rfl) hF15.h4 fun w16 h16 hm16 hz16 => ?_
        have hF16 : FrS lv l c w w16 w.heap.size b3 b4 (tkAt l a) (St.mk 8 (callK (tkAt l a).text) 0 (bs []) 0 v' xs nl [] nl [] (tkAt l a).line (tkAt l a).col) a3 := hF15.put hm16 h16 ((hO15.off hm16 fun k q => by omega).low (by omega)) (hF15.bd.off hm16 fun k q => by omega) ⟨rfl, rfl⟩
        refine hF16.done hG hm2' (pe := ⟨8, callK (tkAt l a).text, 0, bs [], 0, nl, es, nl, [], nl, [], (tkAt l a).line, (tkAt l a).col⟩) (by rw [St.er_eq]; simp only [List.map_nil, hxs]; rfl) (stF (by decide) (u8_wf hrng.1 (by omega)) (by decide) (by decide) (by decide) tf3 tf4) ?_ ?_ ?_
        · rfl
        · rfl
        · rfl
end
end Go.Proofs.YtpkfbaagpjdifaaGreatDoor.Tr
set_option linter.unusedVariables false
set_option linter.unusedSimpArgs false
set_option maxRecDepth 4000
namespace Go.Proofs.YtpkfbaagpjdifaaGreatDoor.Tr
open Go Go.X Go.RowKit Go.Proofs.YtpkfbaagpjdifaaGreatDoor.XD Go.Proofs.YtpkfbaagpjdifaaGreatDoor.XK
section
variable {lv : Value} {l : List Tk} {c : Nat}
theorem block_step (hG : Good l) {n : Nat} (hn : n ≤ 1000) (hS : ∀ m, m ≤ n → StmtC lv l c m) : BlockC lv l c (n + 1) := by
  intro a r hr w hw
  rw [blockP] at hr
  cases hn1 : needP l a [123] with
  | none => rw [hn1] at hr; cases hr
  | some a1 =>
  rw [hn1] at hr
  dsimp only at hr
  obtain ⟨hm1, rfl⟩ := need_some hn1
  have hcw : c < w.heap.size := blk_lt hw.cur
  refine dispatcherref02_cursor_block_calls ?_
  unfold dispatcherref02_cursor_block_F
  refine CK_st Tryz.func63 rfl rfl (need_ok (s := [123]) hw hG hm1) ?_
  rintro _ w1 ⟨h1, hmm1⟩
  have hwl := hG.len
  refine W_loopG dispatcherref02_cursor_block_L0_ok (fun m ρ w' => ∃ (xs : List St) (a5 : Nat), m ≤ n ∧ xs.length + m ≤ n ∧ stmtsP l m (xs.map St.er) a5 = some r ∧ ρ 0 = pq c ∧ StsOwn w' w.heap.size (ρ 3) xs ∧ PW w' lv l c a5 ∧ Mod (fun i => i = c) w w') n
    ⟨[], a + 1, Nat.le_refl n, by simp, hr, rfl, StsOwn.nil _ _, h1, hmm1⟩ ?_
  rintro m ρ w2 ⟨xs, a5, hmn, hxn, hss, q0, hO, hp, hm⟩
  cases m with
  | zero => simp [stmtsP] at hss
  | succ m =>
  rw [stmtsP] at hss
  rw [dispatcherref02_cursor_block_L0_eq]
  unfold dispatcherref02_cursor_block_L0_F
  rw [q0]
  refine CK_st Tryz.func64 rfl rfl (good_ok hp) ?_
  rintro _ w3 ⟨rfl, rfl⟩
  simp only [↓VG_u, ↓UG_u, ↓MG_u, ↓NG_u, ↓PG_u, ↓BG_u, ↓CG_u, ↓IG_u, ↓VGtt, ↓VGtf, ↓VGft, ↓VGff, ↓UGtt, ↓UGtf, ↓UGft, ↓UGff, ↓MGtt, ↓MGtf, ↓MGft, ↓MGff, ↓NGtt, ↓NGtf, ↓NGft, ↓NGff, ↓PGtt, ↓PGtf, ↓PGft, ↓PGff, ↓BGtt, ↓BGtf, ↓BGft, ↓BGff, ↓CGtt, ↓CGtf, ↓CGft, ↓CGff, ↓IGtt, ↓IGtf, ↓IGft, ↓IGff, ↓PKt, ↓PKf, ↓CDt, ↓CDf, ↓NOTt, ↓NOTf, ↓NK_ptr]
  refine CK_st Tryz.func59 rfl rfl (may_ok hp hG [125]) ?_
  rintro _ w4 ⟨rfl, h4, hm4⟩
  have hO4 := hO.ne hm4 hp.cur (by decide) (by decide)
  have hm04 := hm.trans hm4
  cases hmy : mayP l a5 [125] with
  | true =>
    rw [hmy] at h4 hss
    simp only [if_true] at h4 hss
    cases hss
    simp only [↓VG_u, ↓UG_u, ↓MG_u, ↓NG_u, ↓PG_u, ↓BG_u, ↓CG_u, ↓IG_u, ↓VGtt, ↓VGtf, ↓VGft, ↓VGff, ↓UGtt, ↓UGtf, ↓UGft, ↓UGff, ↓MGtt, ↓MGtf, ↓MGft, ↓MGff, ↓NGtt, ↓NGtf, ↓NGft, ↓NGff, ↓PGtt, ↓PGtf, ↓PGft, ↓PGff, ↓BGtt, ↓BGtf, ↓BGft, ↓BGff, ↓CGtt, ↓CGtf, ↓CGft, ↓CGff, ↓IGtt, ↓IGtf, ↓IGft, ↓IGff, ↓PKt, ↓PKf, ↓CDt, ↓CDf, ↓NOTt, ↓NOTf, ↓NK_ptr]
    rw [sq_x, bk_x, sq_n, dispatcherref02_cursor_block_R1_eq]
    unfold dispatcherref02_cursor_block_R1_F
    exact ⟨xs, hO4, rfl, h4, hm04⟩
  | false =>
    rw [hmy] at h4 hss
    simp only [Bool.false_eq_true, if_false] at h4 hss
    cases hst : stmtP l m a5 with
    | none => rw [hst] at hss; cases hss
    | some q =>
    obtain ⟨ps, a6⟩ := q
    rw [hst] at hss
    dsimp only at hss
    simp only [↓VG_u, ↓UG_u, ↓MG_u, ↓NG_u, ↓PG_u, ↓BG_u, ↓CG_u, ↓IG_u, ↓VGtt, ↓VGtf, ↓VGft, ↓VGff, ↓UGtt, ↓UGtf, ↓UGft, ↓UGff, ↓MGtt, ↓MGtf, ↓MGft, ↓MGff, ↓NGtt, ↓NGtf, ↓NGft, ↓NGff, ↓PGtt, ↓PGtf, ↓PGft, ↓PGff, ↓BGtt, ↓BGtf, ↓BGft, ↓BGff, ↓CGtt, ↓CGtf, ↓CGft, ↓CGff, ↓IGtt, ↓IGtf, ↓IGft, ↓IGff, ↓PKt, ↓PKf, ↓CDt, ↓CDf, ↓NOTt, ↓NOTf, ↓NK_ptr]
    refine CK_st Tryz.func65 rfl rfl (hS m (by omega) a5 _ hst _ h4) ?_
    rintro _ w5 ⟨e, rfl, hg, h5, hm5⟩
    have hO5 := hO4.ne hm5 h4.cur (by decide) (by decide)
    have hs4 := hm04.size
    have hs5 := hm5.size
    have hm05 := hm04.trans hm5
    refine snocSt hO5 hg.own (hg.in_.mono fun k hk => ⟨by omega, fun q => by have := owns_lt hO4.row q.symm; omega⟩) (by omega) (by omega) fun y v' w6 hO6 hm6 _ => ?_
    have hrow : ∀ k, (ρ 3).ownBlock = some k → k ≠ c := fun k hk q => owns_ne_blk hO5.row h5.cur (by decide) (by rw [hk, q])
    have htk : ∀ k, lv.ownBlock = some k → some k ≠ (ρ 3).ownBlock := fun k hk q => owns_ne h5.toks hO5.row (by decide) k hk q
    refine ⟨m, Nat.lt_succ_self m, xs ++ [e], a6, by omega, by rw [List.length_append]; simp; omega, ?_, q0, hO6, h5.off2 hm6 (fun q => hrow c q.symm rfl) (fun k hk q => htk k hk q), hm05.then hm6 fun i hi q => ?_⟩
    · rw [List.map_append, List.map_singleton, hg.er]; exact hss
    · have := owns_low hO5.row q.symm
      omega
theorem stmtC_all (hG : Good l) : ∀ n, n ≤ 1000 → StmtC lv l c n ∧ BlockC lv l c n := by
  intro n
  induction n using Nat.strongRecOn with
  | ind n ih =>
    intro hn
    cases n with
    | zero => exact ⟨fun a r h => by simp [stmtP] at h, fun a r h => by simp [blockP] at h⟩
    | succ n => exact ⟨stmt_step hG (ih n (by omega) (by omega)).2, block_step hG (by omega) (fun m hm => (ih m (by omega) (by omega)).1)⟩
theorem stmt_ok (hG : Good l) (n : Nat) (hn : n ≤ 1000) : StmtC lv l c n := (stmtC_all hG n hn).1
end
end Go.Proofs.YtpkfbaagpjdifaaGreatDoor.Tr
set_option linter.unusedVariables false
set_option linter.unusedSimpArgs false
set_option maxRecDepth 4000
namespace Go.Proofs.YtpkfbaagpjdifaaGreatDoor.Tr
open Go Go.X Go.RowKit Go.Proofs.YtpkfbaagpjdifaaGreatDoor.XD Go.Proofs.YtpkfbaagpjdifaaGreatDoor.XK
abbrev tD : TypeId := 48
abbrev tP : TypeId := 25
abbrev tW : TypeId := 64
def zPc : Array Value := #[.slice none 0 0, .slice none 0 0]
def zWc : Array Value := #[.int .i64 0, .int .i64 0, .int .i64 0]
theorem zWr' : (Tryz.prog.info? 64).bind (·.zero) = some (.agg zWc) := by kernel_rfl
theorem iWr' : (Tryz.prog.info? 64).map (·.size) = some 3 := by kernel_rfl
structure DsOwn (w : World) (base : Nat) (v : Value) (l : List De) : Prop where
  row : w.ownsRow base tD 4 v l.length (l.flatMap De.cells)
  fine : ∀ a ∈ l, a.fine
theorem DsOwn.mod {S : Nat → Prop} {w w' : World} {base : Nat} {v : Value} {l : List De} (h : DsOwn w base v l) (hm : Mod S w w') (hS : ∀ k, v.ownBlock = some k → ¬ S k) : DsOwn w' base v l := ⟨owns_mod h.row hm hS, h.fine⟩
section
variable {lv : Value} {l : List Tk}
structure FrP (lv : Value) (l : List Tk) (c : Nat) (w0 w : World) (b2 b3 b5 : Nat) (p : Pr) (a : Nat) : Prop where
  h2 : w.heap[b2]? = some (.cells zPc tP (0, 0))
  h3 : w.heap[b3]? = some (.cells zWc tW (0, 0))
  h5 : w.heap[b5]? = some (.cells p.cells.toArray tP (0, 0))
  pw : PW w lv l c a
  m : Mod none_ w0 w
  lo : w0.heap.size ≤ b2 ∧ b2 < b3 ∧ b3 < c ∧ c < b5 ∧ ∀ g, lv.ownBlock = some g → g < w0.heap.size
  d : DsOwn w (b5 + 1) p.ds p.decls
  b : StsOwn w (b5 + 1) p.bs p.body
variable {c : Nat} {w0 w w' : World} {b2 b3 b5 : Nat} {p : Pr} {a : Nat}
theorem FrP.ltw (h : FrP lv l c w0 w b2 b3 b5 p a) : b5 < w.heap.size := blk_lt h.h5
theorem FrP.cur (h : FrP lv l c w0 w b2 b3 b5 p a) {a' : Nat} (hm : Mod (fun i => i = c) w w') (hp : PW w' lv l c a') : FrP lv l c w0 w' b2 b3 b5 p a' := by
  have := h.lo
  exact ⟨hm.blk h.h2 (by omega), hm.blk h.h3 (by omega), hm.blk h.h5 (by omega), hp, h.m.then hm fun i hi q => by omega, h.lo, h.d.mod hm (fun k hk q => by have := owns_low h.d.row hk; omega), h.b.off hm fun k q => by omega⟩
theorem FrP.mod0 (h : FrP lv l c w0 w b2 b3 b5 p a) (hm : Mod none_ w w') : FrP lv l c w0 w' b2 b3 b5 p a := h.cur (up1 hm) (h.pw.mod0 hm)
theorem FrP.fresh (h : FrP lv l c w0 w b2 b3 b5 p a) {b : Nat} (hm : Mod (fun i => i = b) w w') (hb : b5 < b) (hd : p.ds.ownBlock ≠ some b) (hB : ∀ k, p.bs.ownBlock = some k → k ≠ b) (hB2 : ∀ z ∈ p.body, z.In fun k => k ≠ b) : FrP lv l c w0 w' b2 b3 b5 p a := by
  have := h.lo
  refine ⟨hm.blk h.h2 (by omega), hm.blk h.h3 (by omega), hm.blk h.h5 (by omega), h.pw.off hm fun k q => ⟨by omega, fun g hg => by have := h.lo.2.2.2.2 g hg; omega⟩, h.m.then hm fun i hi q => by omega, h.lo, h.d.mod hm (fun k hk q => hd (by rw [hk, q])), ⟨owns_mod h.b.row hm (fun k hk q => hB k hk q), fun z hz => (h.b.own z hz).mod hm ((hB2 z hz).mono fun k hk q => hk q), h.b.at_⟩⟩
theorem FrP.addS (h : FrP lv l c w0 w b2 b3 b5 p a) (hG : Good l) {n a' : Nat} {ps : St} (hn : n ≤ 1000) (hst : stmtP l n a = some (ps, a')) (hlen : p.body.length < 1099511627776) {K1 K2 K3 : Value → Value → Value → Value → Value → Value → World → Prop}
    (hK : ∀ (w' : World) (x : St) (v' : Value), FrP lv l c w0 w' b2 b3 b5 ⟨p.ds, p.decls, v', p.body ++ [x]⟩ a' → x.er = ps → ∀ x1 x2 x3 x4 x5 x6, K1 x1 x2 x3 x4 x5 x6 w' ∧ K2 x1 x2 x3 x4 x5 x6 w' ∧ K3 x1 x2 x3 x4 x5 x6 w') :
    HK Tryz.prog (fun _ => True) (do pure (Next.value (← Instr.fieldAt 25 (pq b5) 1))) fun x26 => (VK Tryz.prog (Instr.loadAt 23 x26) w fun x27 w => True ∧ (CK Tryz.prog (.func (.func 65) #[] #[]) [pq c] w fun x29 w => True ∧ (VK Tryz.prog (Instr.buildSlice 23 1 [(0, x29)].toArray) w fun x30 w => True ∧ (IK Tryz.prog .append #[23, 23] 23 [false, false] [x27, x30] w fun x31 w => True ∧ (HK Tryz.prog (fun _ => True) (do pure (Next.value (← Instr.fieldAt 25 (pq b5) 1))) fun x32 => UK Tryz.prog (Instr.storeAt 23 x32 x31) w fun _ w => True ∧ K1 x26 x27 x29 x30 x31 x32 w))))) ∧
      (CK Tryz.prog (.func (.func 65) #[] #[]) [pq c] w fun x29 w => True ∧ ((VK Tryz.prog (Instr.loadAt 23 x26) w fun x27 w => True ∧ (VK Tryz.prog (Instr.buildSlice 23 1 [(0, x29)].toArray) w fun x30 w => True ∧ (IK Tryz.prog .append #[23, 23] 23 [false, false] [x27, x30] w fun x31 w => True ∧ (HK Tryz.prog (fun _ => True) (do pure (Next.value (← Instr.fieldAt 25 (pq b5) 1))) fun x32 => UK Tryz.prog (Instr.storeAt 23 x32 x31) w fun _ w => True ∧ K2 x26 x27 x29 x30 x31 x32 w)))) ∧
        (VK Tryz.prog (Instr.buildSlice 23 1 [(0, x29)].toArray) w fun x30 w => True ∧ (VK Tryz.prog (Instr.loadAt 23 x26) w fun x27 w => True ∧ (IK Tryz.prog .append #[23, 23] 23 [false, false] [x27, x30] w fun x31 w => True ∧ (HK Tryz.prog (fun _ => True) (do pure (Next.value (← Instr.fieldAt 25 (pq b5) 1))) fun x32 => UK Tryz.prog (Instr.storeAt 23 x32 x31) w fun _ w => True ∧ K3 x26 x27 x29 x30 x31 x32 w)))))) := by
  have lo := h.lo
  have hltw := h.ltw
  refine HV_of (fun w' _ => run_fo (off := 1) (by kernel_rfl) _ w') ?_
  have ld : ∀ {w' : World} {K : Value → World → Prop}, w'.heap[b5]? = some (.cells p.cells.toArray tP (0, 0)) → K p.bs w' → VK Tryz.prog (Instr.loadAt 23 (.pointer (some ((⟨b5, 0, none⟩ : Addr).add 1)))) w' K := fun h hk => ld1 uSts rfl (by rw [add_pl, cell_blk h]; rfl) hk
  have ex : ∀ {w' : World} (hm : Mod none_ w w') {K : Value → World → Prop}, (∀ (w2 : World) (x : St), x.er = ps → x.Own w2 tE tS → (x.In fun k => w'.heap.size ≤ k) → FrP lv l c w0 w2 b2 b3 b5 p a' → w'.heap.size ≤ w2.heap.size → K (.agg x.cells.toArray) w2) → CK Tryz.prog (.func (.func 65) #[] #[]) [pq c] w' K := by
    intro w' hm K hk
    refine CK_st Tryz.func65 rfl rfl (stmt_ok hG n hn a _ hst w' (h.pw.mod0 hm)) ?_
    rintro _ w2 ⟨x, rfl, hg, h2, hm2⟩
    exact hk _ _ hg.er hg.own hg.in_ ((h.mod0 hm).cur hm2 h2) hm2.size
  have tail : ∀ {w2 w3 : World} {x : St} {y : Value} {K : Value → Value → World → Prop}, FrP lv l c w0 w2 b2 b3 b5 p a' → w.heap.size ≤ w2.heap.size → Mod none_ w2 w3 → x.er = ps → x.Own w2 tE tS → (x.In fun k => w.heap.size ≤ k ∧ k < w2.heap.size) → reads w3 10 y 1 x.cells → (∀ k, p.bs.ownBlock = some k → k < w.heap.size) →
      (∀ v' w', FrP lv l c w0 w' b2 b3 b5 ⟨p.ds, p.decls, v', p.body ++ [x]⟩ a' → ∀ u, K v' u w') →
      IK Tryz.prog .append #[23, 23] 23 [false, false] [p.bs, y] w3 fun x31 w => True ∧ (HK Tryz.prog (fun _ => True) (do pure (Next.value (← Instr.fieldAt 25 (pq b5) 1))) fun x32 => UK Tryz.prog (Instr.storeAt 23 x32 x31) w fun _ w => True ∧ K x31 x32 w) := by
    intro w2 w3 x y K hF2 hs2 hm23 her hox hix hy hbs hk
    have hF3 := hF2.mod0 hm23
    have hs3 := hm23.size
    refine appSt (m := [x]) hF3.b (by simpa using hy) (by simp) ?_ (by simp; omega) (by omega) fun v' w4 hO4 hm4 hg4 => ⟨trivial, HV_of (fun w' _ => run_fo (off := 1) (by kernel_rfl) _ w') ?_⟩
    · intro z hz
      rw [List.mem_singleton.1 hz]
      exact ⟨hox.mod0 hm23, hix.mono fun k hk => ⟨by omega, fun q => by have := hbs k q.symm; omega⟩⟩
    · have hrow : ∀ k, p.bs.ownBlock = some k → b5 + 1 ≤ k := fun k hk => owns_low hF3.b.row hk
      have hno : ∀ k, k ≤ b5 → ¬ some k = p.bs.ownBlock := fun k hk q => by have := hrow k q.symm; omega
      have hb4 := hm4.blk hF3.h5 (hno b5 (Nat.le_refl _))
      refine stC (b := b5) (o := 0 + 1) (by rw [add_pl]) (by kernel_rfl) (owns_slice hO4.row) hb4 (by simp [Pr.cells]) fun w5 hb5 hm5 hz5 => ⟨trivial, ?_⟩
      have hcs : p.cells.toArray.setIfInBounds (0 + 1) v' = (Pr.cells ⟨p.ds, p.decls, v', p.body ++ [x]⟩).toArray := rfl
      rw [hcs] at hb5
      have hds : ∀ k, p.ds.ownBlock = some k → ¬ some k = p.bs.ownBlock := fun k hk q => owns_ne hF3.d.row hF3.b.row (by decide) k hk q
      refine hk v' w5 ⟨hm5.blk (hm4.blk hF3.h2 (hno _ (by omega))) (by omega), hm5.blk (hm4.blk hF3.h3 (hno _ (by omega))) (by omega), hb5, ?_, ?_, lo, ?_, ?_⟩ _
      · refine (hF3.pw.off2 hm4 (hno _ (by omega)) fun k hk q => ?_).off hm5 fun k q => ⟨by omega, fun g hg => by have := lo.2.2.2.2 g hg; omega⟩
        exact owns_ne hF3.pw.toks hF3.b.row (by decide) k hk q
      · exact (hF3.m.then hm4 fun i hi q => by have := hrow i q.symm; omega).then hm5 fun i hi q => by omega
      · exact (hF3.d.mod hm4 hds).mod hm5 fun k hk q => by have := owns_low hF3.d.row hk; omega
      · exact hO4.off hm5 fun k q => by omega
  have hbs : ∀ k, p.bs.ownBlock = some k → k < w.heap.size := fun k hk => owns_lt h.b.row hk
  have rd : ∀ {w2 w3 : World} {x : St}, w3.heap[w2.heap.size]? = some (.cells x.cells.toArray (Tryz.prog.elem 23) (0, 0)) → reads w3 10 (.slice (some ⟨w2.heap.size, 0, none⟩) 1 1) 1 x.cells := fun h => by simpa using reads_blk (size := 10) (n := 1) h rfl
  constructor
  · refine ld h.h5 ⟨trivial, ?_⟩
    refine ex (Mod.refl _ w) fun w2 x her hox hix hF2 hs2 => ⟨trivial, ?_⟩
    refine bs_k (cs := x.cells.toArray) (by kernel_rfl) fun w3 h3 hm3 hz3 => ⟨trivial, ?_⟩
    exact tail hF2 hs2 hm3 her hox (hix.and hox.lt) (rd h3) hbs fun v' w' hF' u => (hK w' x v' hF' her _ _ _ _ _ _).1
  · refine ex (Mod.refl _ w) fun w2 x her hox hix hF2 hs2 => ⟨trivial, ?_⟩
    constructor
    · refine ld hF2.h5 ⟨trivial, ?_⟩
      refine bs_k (cs := x.cells.toArray) (by kernel_rfl) fun w3 h3 hm3 hz3 => ⟨trivial, ?_⟩
      exact tail hF2 hs2 hm3 her hox (hix.and hox.lt) (rd h3) hbs fun v' w' hF' u => (hK w' x v' hF' her _ _ _ _ _ _).2.1
    · refine bs_k (cs := x.cells.toArray) (by kernel_rfl) fun w3 h3 hm3 hz3 => ⟨trivial, ?_⟩
      refine ld (hF2.mod0 hm3).h5 ⟨trivial, ?_⟩
      exact tail hF2 hs2 hm3 her hox (hix.and hox.lt) (rd h3) hbs fun v' w' hF' u => (hK w' x v' hF' her _ _ _ _ _ _).2.2
end
end Go.Proofs.YtpkfbaagpjdifaaGreatDoor.Tr
set_option linter.unusedVariables false
set_option linter.unusedSimpArgs false
set_option maxRecDepth 4000
namespace Go.Proofs.YtpkfbaagpjdifaaGreatDoor.Tr
open Go Go.X Go.RowKit Go.Proofs.YtpkfbaagpjdifaaGreatDoor.XD Go.Proofs.YtpkfbaagpjdifaaGreatDoor.XK
section
variable {lv : Value} {l : List Tk} {c : Nat} {w0 w w' : World} {b2 b3 b5 : Nat} {p : Pr} {a : Nat}
theorem bDe (s : Bs) (x y : Int) : Tryz.prog.built 48 [(0, txt s), (2, .int .i64 x), (3, .int .i64 y)] = some (De.mk (bs s) 0 x y).cells.toArray := by kernel_rfl
theorem deFine (s : Bs) (x y : Int) (h1 : (bs s).size ≤ maxLen) (h2 : (Lit.int .i64 x).wf = true) (h3 : (Lit.int .i64 y).wf = true) : (De.mk (bs s) 0 x y).fine := ⟨h1, (by decide : (Lit.int .i64 0).wf = true), h2, h3⟩
theorem zDe' : (Tryz.prog.info? 48).bind (·.zero) = some (.agg (De.mk (bs []) 0 0 0).cells.toArray) := by kernel_rfl
theorem decl_end (h : FrP lv l c w0 w b2 b3 b5 p a) (hG : Good l) (hs : mayP l a [59] = true) {b7 : Nat} {d : De} (hd : w.heap[b7]? = some (.cells d.cells.toArray tD (0, 0))) (hf : d.fine) (hb7 : b5 < b7) (hrow : ∀ k, p.ds.ownBlock = some k → k ≠ b7) (hlen : p.decls.length < 1000000) {ρ : Sl} (q4 : ρ 4 = pq c) (q5 : ρ 5 = pq b5) (q7 : ρ 7 = pq b7) {K : Exit → Sl → World → Prop}
    (hK : ∀ w' v' ρ', FrP lv l c w0 w' b2 b3 b5 ⟨v', p.decls ++ [d], p.bs, p.body⟩ (a + 1) → ρ' 0 = ρ 0 → ρ' 4 = pq c → ρ' 5 = pq b5 → ρ' 2 = ρ 2 → ρ' 3 = ρ 3 → K .normal ρ' w') : sx fn_ Tryz.prog 105 dispatcherref02_Parse_R6 K ρ w := by
  have lo := h.lo
  rw [dispatcherref02_Parse_R6_eq]
  unfold dispatcherref02_Parse_R6_F
  rw [q4, q5, q7]
  refine CK_st Tryz.func63 rfl rfl (need_ok (s := [59]) h.pw hG hs) ?_
  rintro _ w1 ⟨h1, hm1⟩
  have hF1 := h.cur hm1 h1
  have hd1 := hm1.blk hd (by omega)
  have f0 : FO Tryz.prog w1 25 0 0 ⟨b5, 0, none⟩ 22 p.ds := FO.blk hF1.h5 (by kernel_rfl) uDes rfl rfl
  simp only [↓f0.e]
  refine ldS (cs := d.cells.toArray) rfl Tryz.underlying48 rfl iDe hd1 ?_
  have hltw := hF1.ltw
  refine snoc (cs := d.cells.toArray) eDes hF1.d.row (by kernel_rfl) rfl (by intro u hu; have := de_one d; rw [Array.all_eq_true_iff_forall_mem] at this; exact this u (by simpa using hu)) (by unfold maxLen; omega) (by omega) (by omega) fun y v' w2 ho2 hm2 _ => ?_
  have hlow : ∀ k, p.ds.ownBlock = some k → b5 + 1 ≤ k := fun k hk => owns_low hF1.d.row hk
  have hno : ∀ k, k ≤ b5 → ¬ some k = p.ds.ownBlock := fun k hk q => by have := hlow k q.symm; omega
  refine fst_k (off := 0) (by kernel_rfl) (by kernel_rfl) (owns_slice ho2) (hm2.blk hF1.h5 (hno _ (Nat.le_refl _))) (by simp [Pr.cells]) (cs' := (Pr.cells ⟨v', p.decls ++ [d], p.bs, p.body⟩).toArray) rfl fun x w3 h3 hm3 hz3 => ?_
  have hdrow : w2.ownsRow (b5 + 1) tD 4 v' (p.decls ++ [d]).length ((p.decls ++ [d]).flatMap De.cells) := by
    rw [List.length_append, List.flatMap_append]; simpa using ho2
  have hbd : ∀ k, p.bs.ownBlock = some k → ¬ some k = p.ds.ownBlock := fun k hk q => owns_ne hF1.b.row hF1.d.row (by decide) k hk q
  have hbd2 : ∀ z ∈ p.body, z.In fun k => ¬ some k = p.ds.ownBlock := by
    intro z hz
    cases hq : p.ds.ownBlock with
    | none => exact (hF1.b.own z hz).lt.mono fun k _ q => by cases q
    | some g =>
      obtain ⟨cur, hcur⟩ := owns_blk hF1.d.row hq
      exact ((hF1.b.own z hz).ne hcur (by decide) (by decide)).mono fun k hk q => hk (by injection q)
  refine hK w3 v' _ ⟨hm3.blk (hm2.blk hF1.h2 (hno _ (by omega))) (by omega), hm3.blk (hm2.blk hF1.h3 (hno _ (by omega))) (by omega), h3, ?_, ?_, lo, ?_, ?_⟩ ?_ ?_ ?_ ?_ ?_
  · refine (hF1.pw.off2 hm2 (hno _ (by omega)) fun k hk q => ?_).off hm3 fun k q => ⟨by omega, fun g hg => by have := lo.2.2.2.2 g hg; omega⟩
    exact owns_ne hF1.pw.toks hF1.d.row (by decide) k hk q
  · exact (hF1.m.then hm2 fun i hi q => by have := hlow i q.symm; omega).then hm3 fun i hi q => by omega
  · refine DsOwn.mod (w := w2) ⟨hdrow, fun z hz => ?_⟩ hm3 fun k hk q => by have := owns_low hdrow hk; omega
    rcases List.mem_append.1 hz with hz | hz
    · exact hF1.d.fine z hz
    · rw [List.mem_singleton.1 hz]; exact hf
  · have hB2 : StsOwn w2 (b5 + 1) p.bs p.body := ⟨owns_mod hF1.b.row hm2 hbd, fun z hz => (hF1.b.own z hz).mod hm2 (hbd2 z hz), hF1.b.at_⟩
    exact hB2.off hm3 fun k q => by omega
  · rfl
  · exact q4
  · exact q5
  · rfl
  · rfl
theorem decl_mid (h : FrP lv l c w0 w b2 b3 b5 p a) (hG : Good l) {m : Nat} {name : Bs} {ln cl : Int} {r : List De × Nat}
    (hr : (if mayP l a [91] then (if (tkAt l (a + 1)).kind = 2 ∧ 1 ≤ (tkAt l (a + 1)).num ∧ (tkAt l (a + 1)).num ≤ 1000 then (match needP l (a + 2) [93] with | none => none | some a1 => match needP l a1 [59] with | none => none | some a2 => declsP l m (p.decls ++ [⟨bs name, (tkAt l (a1 - 2)).num, ln, cl⟩]) a2) else none) else (match needP l a [59] with | none => none | some a1 => declsP l m (p.decls ++ [⟨bs name, 0, ln, cl⟩]) a1)) = some r)
    {b7 : Nat} (hd : w.heap[b7]? = some (.cells (De.mk (bs name) 0 ln cl).cells.toArray tD (0, 0))) (hf : (De.mk (bs name) 0 ln cl).fine) (hb7 : b5 < b7) (hrow : ∀ k, p.ds.ownBlock = some k → k ≠ b7) (hbs : p.bs = nl) (hbd : p.body = []) (hlen : p.decls.length < 1000000) {ρ : Sl} (q4 : ρ 4 = pq c) (q5 : ρ 5 = pq b5) (q7 : ρ 7 = pq b7) {K : Exit → Sl → World → Prop}
    (hK : ∀ w' v' d a' ρ', declsP l m (p.decls ++ [d]) a' = some r → FrP lv l c w0 w' b2 b3 b5 ⟨v', p.decls ++ [d], p.bs, p.body⟩ a' → ρ' 0 = ρ 0 → ρ' 4 = pq c → ρ' 5 = pq b5 → ρ' 2 = ρ 2 → ρ' 3 = ρ 3 → K .normal ρ' w') : sx fn_ Tryz.prog 105 dispatcherref02_Parse_R3 (blkK 1 K) ρ w := by
  have lo := h.lo
  rw [dispatcherref02_Parse_R3_eq]
  unfold dispatcherref02_Parse_R3_F
  rw [q4, q7]
  refine CK_st Tryz.func59 rfl rfl (may_ok h.pw hG [91]) ?_
  rintro _ w1 ⟨rfl, h1, hm1⟩
  cases hmy : mayP l a [91] with
  | true =>
    rw [hmy] at h1 hr
    simp only [if_true] at h1 hr
    split at hr
    rotate_left
    · cases hr
    rename_i hnum
    cases hn1 : needP l (a + 2) [93] with
    | none => rw [hn1] at hr; cases hr
    | some a1 =>
    rw [hn1] at hr
    dsimp only at hr
    obtain ⟨hm1', rfl⟩ := need_some hn1
    cases hn2 : needP l (a + 2 + 1) [59] with
    | none => rw [hn2] at hr; cases hr
    | some a2 =>
    rw [hn2] at hr
    dsimp only at hr
    obtain ⟨hm2', rfl⟩ := need_some hn2
    rw [show a + 2 + 1 - 2 = a + 1 by omega] at hr
    have hF1 := h.cur hm1 h1
    have hd1 := hm1.blk hd (by omega)
    refine condT ?_
    refine CK_st Tryz.func62 rfl rfl (number_ok hF1.pw hG hnum.1 hnum.2.1 hnum.2.2) ?_
    rintro _ w2 ⟨rfl, h2, hm2⟩
    have hF2 := hF1.cur hm2 h2
    refine fst_k (off := 1) (by kernel_rfl) (by kernel_rfl) rfl (hm2.blk hd1 (by omega)) (by simp [De.cells]) (cs' := (De.mk (bs name) (tkAt l (a + 1)).num ln cl).cells.toArray) rfl fun x w3 h3 hm3 hz3 => ?_
    have hF3 := hF2.fresh hm3 hb7 (fun q => hrow b7 q rfl) (fun k hk => by rw [hbs] at hk; simp [nl, Value.ownBlock] at hk) (by rw [hbd]; simp)
    refine CK_st Tryz.func63 rfl rfl (need_ok (s := [93]) hF3.pw hG hm1') ?_
    rintro _ w4 ⟨h4, hm4⟩
    have hF4 := hF3.cur hm4 h4
    obtain ⟨_, vf2, _⟩ := tk_fine hG (a + 1)
    refine decl_end (d := De.mk (bs name) (tkAt l (a + 1)).num ln cl) hF4 hG hm2' (hm4.blk h3 (by omega)) ⟨hf.1, vf2, hf.2.2⟩ hb7 hrow hlen ?_ ?_ ?_ fun w' v' ρ' hF' p0 p4 p5 p2 p3 => ?_
    · exact q4
    · exact q5
    · exact q7
    · rw [bk_n]
      exact hK w' v' _ _ ρ' hr hF' p0 p4 p5 p2 p3
  | false =>
    rw [hmy] at h1 hr
    simp only [Bool.false_eq_true, if_false] at h1 hr
    cases hn1 : needP l a [59] with
    | none => rw [hn1] at hr; cases hr
    | some a1 =>
    rw [hn1] at hr
    dsimp only at hr
    obtain ⟨hm1', rfl⟩ := need_some hn1
    have hF1 := h.cur hm1 h1
    refine condF ?_
    refine decl_end (d := De.mk (bs name) 0 ln cl) hF1 hG hm1' (hm1.blk hd (by omega)) hf hb7 hrow hlen ?_ ?_ ?_ fun w' v' ρ' hF' p0 p4 p5 p2 p3 => ?_
    · exact q4
    · exact q5
    · exact q7
    · rw [bk_n]
      exact hK w' v' _ _ ρ' hr hF' p0 p4 p5 p2 p3
theorem len_tks {A : Option Addr} {n cp : Nat} (cs : List Bool) {w : World} {K : Value → World → Prop} : IK Tryz.prog .len #[72] 3 cs [.slice A n cp] w K = K (.int .i64 n) w := len_sl uTks cs A n cp
theorem hone (p : Pr) (h1 : p.ds.oneCell' = true) (h2 : p.bs.oneCell' = true) : p.cells.toArray.all (·.oneCell') = true := by simp [Pr.cells, h1, h2]
theorem bWrg : Tryz.prog.built tW [(0, .int .i64 20)] = some #[.int .i64 20, .int .i64 0, .int .i64 0] := by kernel_rfl
theorem bWrZ : Tryz.prog.built tW [] = some zWc := by kernel_rfl
theorem iPr' : (Tryz.prog.info? tP).map (·.size) = some 2 := by kernel_rfl
theorem parse_last (h : FrP lv l c w0 w b2 b3 b5 p a) (ha : l.length ≤ a) (hdp : St.deepAt p.body 1 ≤ 32) (hf : p.fits) {ρ : Sl} (q0 : ρ 0 = lv) (q4 : ρ 4 = pq c) (q5 : ρ 5 = pq b5) (q2 : ρ 2 = pq b2) (q3 : ρ 3 = pq b3) {A : Option Addr} {cp : Nat} (hlv : lv = .slice A l.length cp) {R : Value → World → Prop}
    (hR : ∀ w', PrOwn w' w0.heap.size p → Mod none_ w0 w' → R (.tuple #[.agg p.cells.toArray, .agg zWc]) w') : sx fn_ Tryz.prog 105 dispatcherref02_Parse_R5 (retK Tryz.prog [ResultVar.cell 2 tP, ResultVar.cell 3 tW] R) ρ w := by
  have lo := h.lo
  rw [dispatcherref02_Parse_R5_eqR]
  unfold dispatcherref02_Parse_R5_FR
  rw [q0, q2, q3, q4, q5, hlv, build_ok bWrg]
  refine lcl_k (cs := #[.int .i64 20, .int .i64 0, .int .i64 0]) zWr' _ iWr' rfl (by kernel_rfl) fun w1 hb1 hm1 hz1 => ?_
  have hF1 := h.mod0 hm1
  refine CK_st Tryz.func64 rfl rfl (good_ok hF1.pw) ?_
  rintro _ w2 ⟨rfl, rfl⟩
  obtain ⟨f0, f1, f2⟩ := cur_fo hF1.pw
  simp only [↓VG_u, ↓UG_u, ↓MG_u, ↓NG_u, ↓PG_u, ↓BG_u, ↓CG_u, ↓IG_u, ↓VGtt, ↓VGtf, ↓VGft, ↓VGff, ↓UGtt, ↓UGtf, ↓UGft, ↓UGff, ↓MGtt, ↓MGtf, ↓MGft, ↓MGff, ↓NGtt, ↓NGtf, ↓NGft, ↓NGff, ↓PGtt, ↓PGtf, ↓PGft, ↓PGff, ↓BGtt, ↓BGtf, ↓BGft, ↓BGff, ↓CGtt, ↓CGtf, ↓CGft, ↓CGff, ↓IGtt, ↓IGtf, ↓IGft, ↓IGff, ↓PKt, ↓PKf, ↓CDt, ↓CDf, ↓NOTt, ↓NOTf, ↓NK_ptr]
  refine CK_st Tryz.func64 rfl rfl (good_ok hF1.pw) ?_
  rintro _ w2 ⟨rfl, rfl⟩
  simp only [↓VG_u, ↓UG_u, ↓MG_u, ↓NG_u, ↓PG_u, ↓BG_u, ↓CG_u, ↓IG_u, ↓VGtt, ↓VGtf, ↓VGft, ↓VGff, ↓UGtt, ↓UGtf, ↓UGft, ↓UGff, ↓MGtt, ↓MGtf, ↓MGft, ↓MGff, ↓NGtt, ↓NGtf, ↓NGft, ↓NGff, ↓PGtt, ↓PGtf, ↓PGft, ↓PGff, ↓BGtt, ↓BGtf, ↓BGft, ↓BGff, ↓CGtt, ↓CGtf, ↓CGft, ↓CGff, ↓IGtt, ↓IGtf, ↓IGft, ↓IGff, ↓PKt, ↓PKf, ↓CDt, ↓CDf, ↓NOTt, ↓NOTf, ↓NK_ptr]
  refine ldS (cs := p.cells.toArray) rfl Tryz.underlying25 rfl iPr' hF1.h5 ?_
  have hO : PrOwn w2 (b5 + 1) p := ⟨hF1.d.row, hF1.d.fine, hF1.b⟩
  refine CK_st Tryz.func66 rfl rfl (DeepR_ok hO.ok hf) ?_
  rintro _ w3 ⟨rfl, hm3⟩
  have hF3 := hF1.mod0 hm3
  have hO3 := hO.mod0 hm3
  simp only [↓VG_u, ↓UG_u, ↓MG_u, ↓NG_u, ↓PG_u, ↓BG_u, ↓CG_u, ↓IG_u, ↓VGtt, ↓VGtf, ↓VGft, ↓VGff, ↓UGtt, ↓UGtf, ↓UGft, ↓UGff, ↓MGtt, ↓MGtf, ↓MGft, ↓MGff, ↓NGtt, ↓NGtf, ↓NGft, ↓NGff, ↓PGtt, ↓PGtf, ↓PGft, ↓PGff, ↓BGtt, ↓BGtf, ↓BGft, ↓BGff, ↓CGtt, ↓CGtf, ↓CGft, ↓CGff, ↓IGtt, ↓IGtf, ↓IGft, ↓IGff, ↓PKt, ↓PKf, ↓CDt, ↓CDf, ↓NOTt, ↓NOTf, ↓NK_ptr, ↓GTf (show ((St.deepAt p.body 1 : Nat) : Int) ≤ 32 by omega)]
  refine ldS (cs := p.cells.toArray) rfl Tryz.underlying25 rfl iPr' hF3.h5 ?_
  rw [build_ok bWrZ]
  refine stS (old := zPc) (cs := p.cells.toArray) rfl rfl iPr' rfl (hone _ (owns_slice hO3.d) (owns_slice hO3.b.row)) hF3.h2 fun w4 h4 hm4 hz4 => ?_
  refine stS (old := zWc) (cs := zWc) rfl rfl iWr' rfl (by kernel_rfl) (hm4.blk hF3.h3 (by omega)) fun w5 h5 hm5 hz5 => ?_
  refine rsCell (R := fun v w' => ∃ x3, (do loadVar tW (← asAddr (pq b3)) : Sem Value).run Tryz.prog w' = .ok x3 w' ∧ R (.tuple #[v, x3]) w') (cs := p.cells.toArray) rfl Tryz.underlying25 rfl iPr' (hm5.blk h4 (by omega)) ?_
  refine rsCell (R := fun x3 w' => R (.tuple #[.agg p.cells.toArray, x3]) w') (cs := zWc) rfl Tryz.underlying64 rfl iWr' h5 ?_
  refine hR _ ?_ ((hF3.m.then hm4 fun i hi q => by omega).then hm5 fun i hi q => by omega)
  have e1 : ∀ {S : Nat → Prop} {u u' : World}, PrOwn u (b5 + 1) p → Mod S u u' → (∀ k, S k → k < b5 + 1) → PrOwn u' (b5 + 1) p := fun hO hm hS => ⟨owns_mod hO.d hm fun k hk q => by have := owns_low hO.d hk; have := hS k q; omega, hO.f, hO.b.off hm hS⟩
  have hO5 := e1 (e1 hO3 hm4 fun k q => by omega) hm5 fun k q => by omega
  exact ⟨owns_base hO5.d (by omega), hO5.f, hO5.b.low (by omega)⟩
theorem parse_body (hG : Good l) {fuel : Nat} (hfu : fuel ≤ 1000) {ssF : List St} {v : Value} {ds : List De} (h : FrP lv l c w0 w b2 b3 b5 ⟨v, ds, nl, []⟩ a) (hbs : bodyP l fuel (l.length + 1) [] a = some ssF) (hdp : St.deepAt ssF 1 ≤ 32) (hf : Pr.fits ⟨nl, ds, nl, ssF⟩) {ρ : Sl} (q0 : ρ 0 = lv) (q4 : ρ 4 = pq c) (q5 : ρ 5 = pq b5) (q2 : ρ 2 = pq b2) (q3 : ρ 3 = pq b3) {A : Option Addr} {cp : Nat} (hlv : lv = .slice A l.length cp) {R : Value → World → Prop}
    (hR : ∀ w' q, Pr.er q = ⟨nl, ds, nl, ssF⟩ → PrOwn w' w0.heap.size q → Mod none_ w0 w' → R (.tuple #[.agg q.cells.toArray, .agg zWc]) w') : sx fn_ Tryz.prog 105 dispatcherref02_Parse_R1 (retK Tryz.prog [ResultVar.cell 2 tP, ResultVar.cell 3 tW] R) ρ w := by
  subst hlv
  have lo := h.lo
  have hwl := hG.len
  rw [dispatcherref02_Parse_R1_eq]
  unfold dispatcherref02_Parse_R1_F
  refine W_loopG dispatcherref02_Parse_L4_ok (fun m ρ w' => ∃ (v' : Value) (ss : List St) (a : Nat), bodyP l fuel m (ss.map St.er) a = some ssF ∧ ss.length + m ≤ l.length + 1 ∧ ρ 0 = .slice A l.length cp ∧ ρ 4 = pq c ∧ ρ 5 = pq b5 ∧ ρ 2 = pq b2 ∧ ρ 3 = pq b3 ∧ FrP (.slice A l.length cp) l c w0 w' b2 b3 b5 ⟨v, ds, v', ss⟩ a) (l.length + 1)
    ⟨nl, [], a, hbs, by simp, q0, q4, q5, q2, q3, h⟩ ?_
  rintro m ρ w5 ⟨v', ss, a, hbd, hlen, q0, q4, q5, q2, q3, hF5⟩
  cases m with
  | zero => simp [bodyP] at hbd
  | succ m =>
  rw [bodyP] at hbd
  rw [dispatcherref02_Parse_L4_eq]
  unfold dispatcherref02_Parse_L4_F
  rw [q0, q4]
  refine CK_st Tryz.func64 rfl rfl (good_ok hF5.pw) ?_
  rintro _ w6 ⟨rfl, rfl⟩
  obtain ⟨f0, f1, f2⟩ := cur_fo hF5.pw
  by_cases hlt : a < l.length
  · rw [if_pos hlt] at hbd
    cases hst : stmtP l fuel a with
    | none => rw [hst] at hbd; cases hbd
    | some q =>
    obtain ⟨ps, a1⟩ := q
    rw [hst] at hbd
    dsimp only at hbd
    simp only [↓VG_u, ↓UG_u, ↓MG_u, ↓NG_u, ↓PG_u, ↓BG_u, ↓CG_u, ↓IG_u, ↓VGtt, ↓VGtf, ↓VGft, ↓VGff, ↓UGtt, ↓UGtf, ↓UGft, ↓UGff, ↓MGtt, ↓MGtf, ↓MGft, ↓MGff, ↓NGtt, ↓NGtf, ↓NGft, ↓NGff, ↓PGtt, ↓PGtf, ↓PGft, ↓PGff, ↓BGtt, ↓BGtf, ↓BGft, ↓BGff, ↓CGtt, ↓CGtf, ↓CGft, ↓CGff, ↓IGtt, ↓IGtf, ↓IGft, ↓IGff, ↓PKt, ↓PKf, ↓CDt, ↓CDf, ↓NOTt, ↓NOTf, ↓NK_ptr, ↓f1.e, ↓len_tks, ↓LTt (show ((a : Nat) : Int) < (l.length : Int) by omega)]
    have st : ∀ (ρ2 : Sl), ρ2 0 = .slice A l.length cp → ρ2 4 = pq c → ρ2 5 = pq b5 → ρ2 2 = pq b2 → ρ2 3 = pq b3 → ∀ K : Exit → Sl → World → Prop, (∀ ρ' w', (∃ m', m' < m + 1 ∧ ∃ (v' : Value) (ss : List St) (a : Nat), bodyP l fuel m' (ss.map St.er) a = some ssF ∧ ss.length + m' ≤ l.length + 1 ∧ ρ' 0 = .slice A l.length cp ∧ ρ' 4 = pq c ∧ ρ' 5 = pq b5 ∧ ρ' 2 = pq b2 ∧ ρ' 3 = pq b3 ∧ FrP (.slice A l.length cp) l c w0 w' b2 b3 b5 ⟨v, ds, v', ss⟩ a) → K .normal ρ' w') → W fn_ Tryz.prog 105 dispatcherref02_Parse_R7 (blkK 3 K) ρ2 w6 := by
      intro ρ2 p0 p4 p5 p2 p3 K hK
      refine dispatcherref02_Parse_R7_held (D := []) (fun _ => True) trivial ?_
      unfold dispatcherref02_Parse_R7_H
      rw [p5, p4]
      have hd8 : Mod none_ w6 { w6 with drawn := w6.drawn + 1 } := (Mod.refl _ w6).drawn _
      refine (hF5.mod0 hd8).addS hG hfu hst (by show ss.length < _; omega) fun w' x v2 hF' hx => ?_
      have fin : ∀ (ρ' : Sl), ρ' 0 = .slice A l.length cp → ρ' 4 = pq c → ρ' 5 = pq b5 → ρ' 2 = pq b2 → ρ' 3 = pq b3 → blkK 3 K .normal ρ' w' := by
        intro ρ' p0 p4 p5 p2 p3
        exact hK _ _ ⟨m, Nat.lt_succ_self m, v2, ss ++ [x], a1, by rw [List.map_append, List.map_singleton, hx]; exact hbd, by rw [List.length_append]; simp; omega, p0, p4, p5, p2, p3, hF'⟩
      intro x1 x2 x3 x4 x5 x6
      refine ⟨fin _ ?_ ?_ ?_ ?_ ?_, fin _ ?_ ?_ ?_ ?_ ?_, fin _ ?_ ?_ ?_ ?_ ?_⟩
      all_goals first | exact p0 | exact p4 | exact p5 | exact p2 | exact p3
    refine st _ ?_ ?_ ?_ ?_ ?_ _ fun ρ' w' h => h
    · exact q0
    · exact q4
    · exact q5
    · exact q2
    · exact q3
  · rw [if_neg hlt] at hbd
    have hss : ss.map St.er = ssF := by injection hbd
    simp only [↓VG_u, ↓UG_u, ↓MG_u, ↓NG_u, ↓PG_u, ↓BG_u, ↓CG_u, ↓IG_u, ↓VGtt, ↓VGtf, ↓VGft, ↓VGff, ↓UGtt, ↓UGtf, ↓UGft, ↓UGff, ↓MGtt, ↓MGtf, ↓MGft, ↓MGff, ↓NGtt, ↓NGtf, ↓NGft, ↓NGff, ↓PGtt, ↓PGtf, ↓PGft, ↓PGff, ↓BGtt, ↓BGtf, ↓BGft, ↓BGff, ↓CGtt, ↓CGtf, ↓CGft, ↓CGff, ↓IGtt, ↓IGtf, ↓IGft, ↓IGff, ↓PKt, ↓PKf, ↓CDt, ↓CDf, ↓NOTt, ↓NOTf, ↓NK_ptr, ↓f1.e, ↓len_tks, ↓LTf (show ((l.length : Nat) : Int) ≤ (a : Int) by omega)]
    rw [sq_x, bk_x, sq_n]
    have he : Pr.er ⟨v, ds, v', ss⟩ = ⟨nl, ds, nl, ssF⟩ := by rw [← hss]; rfl
    have hfe : Pr.fits ⟨v, ds, v', ss⟩ := by
      refine ⟨hf.1, ?_⟩
      have := hf.2
      rw [← hss] at this
      rw [← St.szL_er]; exact this
    rw [← hss, St.deepAt_er] at hdp
    refine parse_last hF5 (by omega) hdp hfe ?_ ?_ ?_ ?_ ?_ rfl fun w' h1 h2 => hR w' _ he h1 h2
    · exact q0
    · exact q4
    · exact q5
    · exact q2
    · exact q3
theorem Parse_ok {lv : Value} {l : List Tk} (hG : Good l) {fuel : Nat} (hfu : fuel ≤ 1000) {pr : Pr} (hp : parseP l fuel = some pr) (hfit : pr.fits) {w : World} (ht : w.ownsRow 0 tT 5 lv l.length (l.flatMap Tk.cells)) :
    Rt Tryz.prog 40 #[lv] w fun v w' => ∃ q : Pr, v = .tuple #[.agg q.cells.toArray, .agg zWc] ∧ q.er = pr ∧ PrOwn w' w.heap.size q ∧ Mod none_ w w' := by
  unfold parseP at hp
  cases hds : declsP l (l.length + 1) [] 0 with
  | none => rw [hds] at hp; cases hp
  | some q =>
  obtain ⟨dsF, aF⟩ := q
  rw [hds] at hp
  dsimp only at hp
  cases hbs : bodyP l fuel (l.length + 1) [] aF with
  | none => rw [hbs] at hp; cases hp
  | some ssF =>
  rw [hbs] at hp
  dsimp only at hp
  split at hp
  rotate_left
  · cases hp
  rename_i hdeep
  cases hp
  obtain ⟨A, cp, hlv, _⟩ := reads_cap (reads_of_owns ht)
  have hwl := hG.len
  refine dispatcherref02_Parse_calls ?_
  unfold dispatcherref02_Parse_F
  refine al_k (cs := zPc) zPr rfl _ fun w1 hb1 hm1 hz1 => ?_
  refine al_k (cs := zWc) zWr' rfl _ fun w2 hb2 hm2 hz2 => ?_
  rw [build_ok (cs := #[lv, .int .i64 (0 : Nat), .int .i64 (-1)]) (by rw [hlv]; kernel_rfl)]
  refine box_k (cs := #[lv, .int .i64 (0 : Nat), .int .i64 (-1)]) rfl fun w3 hb3 hm3 hz3 => ?_
  refine al_k (cs := zPc) zPr rfl _ fun w4 hb4 hm4 hz4 => ?_
  have hm24 := hm3.trans hm4
  have hm14 := hm2.trans hm24
  have hm04 := hm1.trans hm14
  have hF : FrP lv l w2.heap.size w w4 w.heap.size w1.heap.size w3.heap.size ⟨nl, [], nl, []⟩ 0 :=
    ⟨hm14.blk hb1 id, hm24.blk hb2 id, hb4, ⟨owns_mod ht hm04 fun _ _ => id, hm4.blk hb3 id⟩, hm04, ⟨Nat.le_refl _, by omega, by omega, by omega, fun g hg => owns_lt ht hg⟩, ⟨owns_none _ _ _ _, by simp⟩, StsOwn.nil _ _⟩
  generalize w3.heap.size = b5 at *
  generalize w2.heap.size = c at *
  generalize w1.heap.size = b3 at *
  refine W_loopG dispatcherref02_Parse_L0_ok (fun m ρ w' => ∃ (v : Value) (ds : List De) (a : Nat), declsP l m ds a = some (dsF, aF) ∧ ds.length + m ≤ l.length + 1 ∧ ρ 0 = lv ∧ ρ 4 = pq c ∧ ρ 5 = pq b5 ∧ ρ 2 = pq w.heap.size ∧ ρ 3 = pq b3 ∧ FrP lv l c w w' w.heap.size b3 b5 ⟨v, ds, nl, []⟩ a) (l.length + 1)
    ⟨nl, [], 0, hds, by simp, rfl, rfl, rfl, rfl, rfl, hF⟩ ?_
  rintro m ρ w5 ⟨v, ds, a, hdl, hlen, q0, q4, q5, q2, q3, hF5⟩
  have lo := hF5.lo
  cases m with
  | zero => simp [declsP] at hdl
  | succ m =>
  rw [declsP] at hdl
  rw [dispatcherref02_Parse_L0_eq]
  unfold dispatcherref02_Parse_L0_F
  rw [q4]
  refine CK_st Tryz.func59 rfl rfl (may_ok hF5.pw hG [105, 110, 116]) ?_
  rintro _ w6 ⟨rfl, h6, hm6⟩
  have hF6 := hF5.cur hm6 h6
  cases hmy : mayP l a [105, 110, 116] with
  | true =>
    rw [hmy] at hF6 hdl
    simp only [if_true] at hF6 hdl
    split at hdl
    rotate_left
    · cases hdl
    rename_i hk1
    refine condT ?_
    refine CK_st Tryz.func60 rfl rfl (next_ok hF6.pw hG) ?_
    rintro _ w7 ⟨rfl, hm7⟩
    refine lcl_k (cs := (tkAt l (a + 1)).cells.toArray) zTkg _ iTk rfl (tk_one _) fun w8 hb8 hm8 hz8 => ?_
    have hF8 := hF6.mod0 (hm7.trans hm8)
    have hltw := hF6.ltw
    have hs7 := hm7.size
    obtain ⟨tf1, tf2, tf3, tf4⟩ := tk_fine hG (a + 1)
    obtain ⟨b6, hb6⟩ : ∃ b6, b6 = w7.heap.size := ⟨_, rfl⟩
    rw [← hb6] at hb8 hz8 ⊢
    have hd8 : Mod none_ w8 { w8 with drawn := w8.drawn + 1 } := (Mod.refl _ w8).drawn _
    refine dispatcherref02_Parse_R2_held (D := []) (fun w' => w'.heap[b6]? = some (.cells (tkAt l (a + 1)).cells.toArray tT (0, 0))) hb8 ?_
    unfold dispatcherref02_Parse_R2_H
    simp only [sq_n, sq_x, sq_r, bk_n, bk_r, bk_x, rt_r, rt_n, rs_0, rs_t, pk_1, pk_2, up_at, reduceIte, Nat.reduceEqDiff, q4]
    refine HV_of (fun w' _ => run_fo (off := 3) (by kernel_rfl) _ w') ?_
    refine HV_of (v := .int .i64 (tkAt l (a + 1)).line) (fun w' hw => run_ld1 uI rfl (by rw [add_pl, cell_blk hw]; rfl)) ?_
    refine HV_of (fun w' _ => run_fo (off := 4) (by kernel_rfl) _ w') ?_
    refine HV_of (v := .int .i64 (tkAt l (a + 1)).col) (fun w' hw => run_ld1 uI rfl (by rw [add_pl, cell_blk hw]; rfl)) ?_
    have fin : ∀ (ρ' : Sl) (w9 : World) (b7 : Nat), ρ' 0 = lv → ρ' 4 = pq c → ρ' 5 = pq b5 → ρ' 2 = pq w.heap.size → ρ' 3 = pq b3 → ρ' 7 = pq b7 → FrP lv l c w w9 w.heap.size b3 b5 ⟨v, ds, nl, []⟩ (a + 1 + 1) → w9.heap[b7]? = some (.cells (De.mk (bs (tkAt l (a + 1)).text) 0 (tkAt l (a + 1)).line (tkAt l (a + 1)).col).cells.toArray tD (0, 0)) → b5 < b7 → (∀ k, v.ownBlock = some k → k ≠ b7) →
        ∀ K : Exit → Sl → World → Prop, (∀ ρ2 w10, (∃ m', m' < m + 1 ∧ ∃ (v : Value) (ds : List De) (a : Nat), declsP l m' ds a = some (dsF, aF) ∧ ds.length + m' ≤ l.length + 1 ∧ ρ2 0 = lv ∧ ρ2 4 = pq c ∧ ρ2 5 = pq b5 ∧ ρ2 2 = pq w.heap.size ∧ ρ2 3 = pq b3 ∧ FrP lv l c w w10 w.heap.size b3 b5 ⟨v, ds, nl, []⟩ a) → K .normal ρ2 w10) →
        sx fn_ Tryz.prog 105 dispatcherref02_Parse_R3 (blkK 1 K) ρ' w9 := by
      intro ρ' w9 b7 p0 p4 p5 p2 p3 p7 hF9 hd9 hlt hne K hK
      refine decl_mid (m := m) hF9 hG (r := (dsF, aF)) hdl hd9 (deFine _ _ _ (bs_size tf1) tf3 tf4) hlt hne rfl rfl (by show ds.length < _; omega) p4 p5 p7 fun w' v' d a' ρ2 hd' hF' t0 t4 t5 t2 t3 => ?_
      exact hK _ _ ⟨m, Nat.lt_succ_self m, v', ds ++ [d], a', hd', by rw [List.length_append]; simp; omega, by rw [t0, p0], t4, t5, by rw [t2, p2], by rw [t3, p3], hF'⟩
    have hdr : ∀ k, v.ownBlock = some k → k < w5.heap.size := fun k hk => owns_lt hF5.d.row hk
    have hs6 := hm6.size
    constructor
    · refine CK_st Tryz.func61 rfl rfl (name_ok (hF8.mod0 hd8).pw hG hk1) ?_
      rintro _ w9 ⟨rfl, h9, hm9⟩
      have hF9 := (hF8.mod0 hd8).cur hm9 h9
      have hb9 := hm9.blk (hd8.blk hb8 id) (by omega)
      refine ⟨hb9, HV_of (v := .agg (De.mk (bs (tkAt l (a + 1)).text) 0 (tkAt l (a + 1)).line (tkAt l (a + 1)).col).cells.toArray) (fun w' _ => run_build (P := Tryz.prog) w' _ _ _ (by simpa using bDe _ _ _)) ?_⟩
      refine al_k (cs := (De.mk (bs []) 0 0 0).cells.toArray) zDe' rfl _ fun w10 hb10 hm10 hz10 => ⟨hm10.blk hb9 id, ?_⟩
      have hs9 := hm9.size
      have hs9' : w8.heap.size ≤ w9.heap.size := hs9
      refine stS (old := (De.mk (bs []) 0 0 0).cells.toArray) (cs := (De.mk (bs (tkAt l (a + 1)).text) 0 (tkAt l (a + 1)).line (tkAt l (a + 1)).col).cells.toArray) rfl rfl iDe rfl (de_one _) hb10 fun w11 h11 hm11 hz11 => ⟨hm11.blk (hm10.blk hb9 id) (by omega), ?_⟩
      have hF11 := (hF9.mod0 hm10).fresh hm11 (by omega) (fun q => by have := hdr _ q; omega) (fun k hk => by simp [nl, Value.ownBlock] at hk) (by simp)
      refine fin _ w11 w9.heap.size ?_ ?_ ?_ ?_ ?_ rfl hF11 h11 (by omega) (fun k hk q => by have := hdr k hk; omega) _ (fun ρ2 w12 h => h)
      · exact q0
      · exact q4
      · exact q5
      · exact q2
      · exact q3
    · refine al_k (cs := (De.mk (bs []) 0 0 0).cells.toArray) zDe' rfl _ fun w9 hb9' hm9 hz9 => ⟨hm9.blk (hd8.blk hb8 id) id, ?_⟩
      have hF9 := (hF8.mod0 hd8).mod0 hm9
      refine CK_st Tryz.func61 rfl rfl (name_ok hF9.pw hG hk1) ?_
      rintro _ w10 ⟨rfl, h10, hm10⟩
      have hF10 := hF9.cur hm10 h10
      have hz9' : w9.heap.size = w8.heap.size + 1 := hz9
      have hb10 := hm10.blk (hm9.blk (hd8.blk hb8 id) id) (by omega)
      refine ⟨hb10, HV_of (v := .agg (De.mk (bs (tkAt l (a + 1)).text) 0 (tkAt l (a + 1)).line (tkAt l (a + 1)).col).cells.toArray) (fun w' _ => run_build (P := Tryz.prog) w' _ _ _ (by simpa using bDe _ _ _)) ?_⟩
      have hc8 : c < w8.heap.size := by omega
      refine stS (old := (De.mk (bs []) 0 0 0).cells.toArray) (cs := (De.mk (bs (tkAt l (a + 1)).text) 0 (tkAt l (a + 1)).line (tkAt l (a + 1)).col).cells.toArray) rfl rfl iDe rfl (de_one _) (hm10.blk hb9' (by show w8.heap.size ≠ c; omega)) fun w11 h11 hm11 hz11 => ⟨hm11.blk hb10 (by show b6 ≠ w8.heap.size; omega), ?_⟩
      have hF11 := hF10.fresh hm11 (by show b5 < w8.heap.size; omega) (fun q => by have := hdr _ q; have : w8.heap.size < w5.heap.size := this; omega) (fun k hk => by simp [nl, Value.ownBlock] at hk) (by simp)
      refine fin _ w11 w8.heap.size ?_ ?_ ?_ ?_ ?_ rfl hF11 h11 (by omega) (fun k hk q => by have := hdr k hk; omega) _ (fun ρ2 w12 h => h)
      · exact q0
      · exact q4
      · exact q5
      · exact q2
      · exact q3
  | false =>
    rw [hmy] at hF6 hdl
    simp only [Bool.false_eq_true, if_false] at hF6 hdl
    cases hdl
    refine condF ?_
    rw [sq_x, bk_x, sq_n]
    refine parse_body hG hfu hF6 hbs hdeep hfit ?_ ?_ ?_ ?_ ?_ hlv fun w' q h1 h2 h3 => ⟨q, rfl, h1, h2, h3⟩
    · exact q0
    · exact q4
    · exact q5
    · exact q2
    · exact q3
end
end Go.Proofs.YtpkfbaagpjdifaaGreatDoor.Tr
set_option linter.unusedVariables false
set_option linter.unusedSimpArgs false
set_option maxRecDepth 4000
namespace Go.Proofs.YtpkfbaagpjdifaaGreatDoor.Tr
open Go Go.X Go.RowKit Go.Proofs.YtpkfbaagpjdifaaGreatDoor.XD Go.Proofs.YtpkfbaagpjdifaaGreatDoor.XK
theorem Ex.er_er : ∀ e : Ex, e.er.er = e.er := by
  intro e
  induction e using Ex.ind with
  | h e ih =>
    rw [Ex.er_eq e.er, Ex.er_eq e]
    simp only [List.map_map]
    congr 1
    exact List.map_congr_left fun a ha => ih a ha
theorem Ex.er_erL (l : List Ex) : (l.map Ex.er).map Ex.er = l.map Ex.er := by rw [List.map_map]; exact List.map_congr_left fun a _ => Ex.er_er a
theorem St.er_er : ∀ e : St, e.er.er = e.er := by
  intro e
  induction e using St.ind with
  | h e ih ih2 =>
    rw [St.er_eq e.er, St.er_eq e]
    simp only [List.map_map]
    have h1 := Ex.er_erL e.exprs
    rw [List.map_map] at h1
    rw [h1]
    congr 1
    · exact List.map_congr_left fun a ha => ih a ha
    · exact List.map_congr_left fun a ha => ih2 a ha
theorem Pr.er_er (p : Pr) : p.er.er = p.er := by
  unfold Pr.er
  simp only [List.map_map]
  congr 1
  exact List.map_congr_left fun a _ => St.er_er a
theorem bytes_k {src dst e : TypeId} (hs : Tryz.prog.underlying src = some .string) (hd : Tryz.prog.underlying dst = some (.slice e)) (he : Tryz.prog.underlying e = some (.int .u8)) (b : Bs) {w : World} {K : Value → World → Prop} (hk : ∀ v w', reads w' 1 v b.length (b.map byteV) → Mod none_ w w' → K v w') : VK Tryz.prog (convert src dst (.string (bs b))) w K := by
  refine VK_of (run_bytes_of_string w src dst e (bs b) hs hd he) (hk _ _ ?_ (((Mod.refl _ w).drawn _).alloc _))
  have hz : (bs b).size = b.length := by simp [bs, ByteArray.size]
  refine ⟨by simp, some ⟨w.heap.size, 0, none⟩, _, by rw [hz], by rw [← hz]; exact grownCap_ge _ _ _ _, fun j u hu => ⟨_, rfl, ?_⟩⟩
  rw [add_pl, show w.heap.size = w.drew.heap.size from rfl, cell_blk (alloc_new w.drew _)]
  have hj : j < b.length := by
    have := (List.getElem?_eq_some_iff.1 hu).1
    simpa using this
  unfold bytesRow
  rw [Array.getElem?_append_left (by simp [bs]; omega)]
  rw [List.getElem?_map] at hu
  simp [bs, byteV] at hu ⊢
  exact hu
theorem readP_some {b : Bs} {pr : Pr} (h : readP b = some pr) : ∃ l, scanP b = some l ∧ Good l ∧ parseP l 40 = some pr := by
  unfold readP at h
  cases hl : scanP b with
  | none => rw [hl] at h; cases h
  | some l =>
    rw [hl] at h
    dsimp only at h
    split at h
    · rename_i hg
      exact ⟨l, rfl, ⟨by simpa using hg.1, hg.2⟩, h⟩
    · cases h
theorem got {b : Bs} {f : Pr → Bool} (h : (readP b).any f = true) : ∃ pr, readP b = some pr ∧ f pr = true := by
  cases hr : readP b with
  | none => rw [hr] at h; cases h
  | some pr => rw [hr] at h; exact ⟨pr, rfl, h⟩
def Pr.fitsB (p : Pr) : Bool := decide (p.decls.length ≤ 1099511627776) && decide (St.szL p.body ≤ 1099511627776)
theorem Pr.fits_of {p : Pr} (h : Pr.fitsB p = true) : p.fits := by
  unfold Pr.fitsB at h
  rw [Bool.and_eq_true, decide_eq_true_iff, decide_eq_true_iff] at h
  exact h
theorem PrOwn.off {S : Nat → Prop} {base : Nat} {p : Pr} {u u' : World} (h : PrOwn u base p) (hm : Mod S u u') (hS : ∀ k, S k → k < base) : PrOwn u' base p := ⟨owns_mod h.d hm fun k hk q => by have := owns_low h.d hk; have := hS k q; omega, h.f, h.b.off hm hS⟩
theorem Parse_tx {b : Bs} {pr : Pr} (h : readP b = some pr) (hf : pr.fits) {v : Value} {w : World} (hr : reads w 1 v b.length (b.map byteV)) {K : Value → Value → World → Prop}
    (hk : ∀ x q w', Pr.er q = pr → PrOwn w' w.heap.size q → Mod none_ w w' → K x (.tuple #[.agg q.cells.toArray, .agg zWc]) w') :
    CK Tryz.prog (.func (.func 39) #[] #[]) [v] w fun x w => VK Tryz.prog (Instr.extract x 0) w fun x13 w => VK Tryz.prog (Instr.extract x 1) w fun _ w => VK Tryz.prog (Instr.extract x 2) w fun _ w => VK Tryz.prog (Instr.extract x 3) w fun _ w => CK Tryz.prog (.func (.func 40) #[] #[]) [x13] w fun x19 w => K x13 x19 w := by
  obtain ⟨l, hl, hG, hp⟩ := readP_some h
  refine CK_st Tryz.func39 rfl rfl (Scan_ok hr hl) ?_
  rintro _ w1 ⟨lv, rfl, ho, hm1⟩
  rw [extract_ok (v := lv) rfl, extract_ok (v := .int .i64 0) rfl, extract_ok (v := .int .i64 0) rfl, extract_ok (v := .int .i64 0) rfl]
  refine CK_st Tryz.func40 rfl rfl (Parse_ok hG (fuel := 40) (by decide) hp hf (owns_base ho (Nat.zero_le _))) ?_
  rintro _ w2 ⟨q, rfl, he, hO, hm2⟩
  have := hm1.size
  exact hk _ q _ he ⟨owns_base hO.d this, hO.f, hO.b.low this⟩ (hm1.trans hm2)
theorem oneOk {w : World} {q : Pr} (h : q.Ok w) : q.cells.toArray.all (·.oneCell') = true := by
  obtain ⟨A, c, h1, _⟩ := reads_cap h.d.1
  obtain ⟨A', c', h2, _⟩ := reads_cap h.b.1
  exact hone _ (by rw [h1]; rfl) (by rw [h2]; rfl)
end Go.Proofs.YtpkfbaagpjdifaaGreatDoor.Tr
set_option linter.unusedVariables false
set_option maxRecDepth 100000
namespace Go.Proofs.YtpkfbaagpjdifaaGreatDoor.XL
open Go Go.X
noncomputable def dispatcherlaw30_read_b : Code := (Tryz.f24.body).getD .skip
noncomputable def dispatcherlaw30_read_F (a0 : Value) (w : World) (R : Value → World → Prop) : Prop :=
  VK Tryz.prog (Instr.alloc 25 true (.tuple #[])) w fun x2 w => VK Tryz.prog (convert 9 75 a0) w fun x11 w => CK Tryz.prog (Value.func (Fn.func 39) #[] #[]) [x11] w fun x12 w => VK Tryz.prog (Instr.extract x12 0) w fun x13 w => VK Tryz.prog (Instr.extract x12 1) w fun x14 w => VK Tryz.prog (Instr.extract x12 2) w fun x15 w => VK Tryz.prog (Instr.extract x12 3) w fun x16 w => CK Tryz.prog (Value.func (Fn.func 40) #[] #[]) [x13] w fun x19 w => VK Tryz.prog (Instr.extract x19 0) w fun x20 w => VK Tryz.prog (Instr.extract x19 1) w fun x21 w => VK Tryz.prog (Instr.alloc 25 true (.tuple #[])) w fun x7 w => VK Tryz.prog (Instr.alloc 64 true (.tuple #[])) w fun x8 w => UK Tryz.prog (Instr.storeAt 25 x7 x20) w fun _ w => UK Tryz.prog (Instr.storeAt 64 x8 x21) w fun _ w => VK Tryz.prog (Instr.loadAt 25 x7) w fun x22 w => UK Tryz.prog (Instr.storeAt 25 x2 x22) w fun _ w => ∃ x2_1, (do loadVar 25 (← asAddr x2) : Sem Value).run Tryz.prog w = .ok x2_1 w ∧ R x2_1 w
theorem dispatcherlaw30_read_eq (a0 : Value) (w : World) (R : Value → World → Prop) : sx fn_ Tryz.prog 23 dispatcherlaw30_read_b (retK Tryz.prog Tryz.f24.results.toList R) (rho0 [a0]) w = dispatcherlaw30_read_F a0 w R := by kernel_rfl
theorem dispatcherlaw30_read_calls {a0 : Value} {w : World} {R : Value → World → Prop} (h : dispatcherlaw30_read_F a0 w R) : Calls Tryz.prog 24 #[a0] w fun e w' => ∃ v, e = .returned v ∧ R v w' :=
  Go.X.calls_of_sx (n := 23) (c := dispatcherlaw30_read_b) Tryz.func24 (by kernel_rfl) (by kernel_rfl) (Nat.le_of_ble_eq_true rfl) (by kernel_rfl) (Eq.mpr (dispatcherlaw30_read_eq a0 w R) h)
noncomputable def dispatcherlaw30_awake_b : Code := (Tryz.f15.body).getD .skip
noncomputable def dispatcherlaw30_awake_R0 : Code := cAt [1, 1, 1, 1, 1] dispatcherlaw30_awake_b
noncomputable def dispatcherlaw30_awake_R0_F (z : At) (K : Exit → Sl → World → Prop) (ρ : Sl) (w : World) : Prop :=
  CK Tryz.prog (Value.func (Fn.func 24) #[] #[]) [(Value.string { data := #[105, 110, 116, 32, 120, 59, 32, 120, 32, 61, 32, 49, 59] })] w fun x34 w => CK Tryz.prog (Value.func (Fn.func 7) #[] #[]) [x34, (Value.int .i64 2)] w fun x35 w => VK Tryz.prog (Instr.extract x35 0) w fun x36 w => VK Tryz.prog (Instr.extract x35 1) w fun x37 w => CK Tryz.prog (Value.func (Fn.func 24) #[] #[]) [(Value.string { data := #[119, 104, 105, 108, 101, 32, 49, 32, 123, 32, 125] })] w fun x39 w => CK Tryz.prog (Value.func (Fn.func 7) #[] #[]) [x39, (Value.int .i64 2)] w fun x40 w => VK Tryz.prog (Instr.extract x40 0) w fun x41 w => VK Tryz.prog (Instr.extract x40 1) w fun x42 w => BK Tryz.prog .eql 3 (.tmp 43) (.const (Value.int .i64 9)) (ρ 2) (Value.int .i64 9) w fun x44 w => MG Tryz.prog x44 true (ρ 3) w fun x46 w => BG Tryz.prog x44 true .eql 27 (.tmp 46) (.const (Value.int .i64 0)) x46 (Value.int .i64 0) w fun x47 w => PK Tryz.prog x44 x47 (Value.bool false) w fun x48 w => MG Tryz.prog x48 true (ρ 4) w fun x50 w => BG Tryz.prog x48 true .eql 3 (.tmp 50) (.const (Value.int .i64 6)) x50 (Value.int .i64 6) w fun x51 w => PK Tryz.prog x48 x51 (Value.bool false) w fun x52 w => MG Tryz.prog x52 true (ρ 5) w fun x54 w => BG Tryz.prog x52 true .eql 27 (.tmp 54) (.const (Value.int .i64 0)) x54 (Value.int .i64 0) w fun x55 w => PK Tryz.prog x52 x55 (Value.bool false) w fun x56 w => MG Tryz.prog x56 true x36 w fun x58 w => BG Tryz.prog x56 true .eql 3 (.tmp 58) (.const (Value.int .i64 1)) x58 (Value.int .i64 1) w fun x59 w => PK Tryz.prog x56 x59 (Value.bool false) w fun x60 w => MG Tryz.prog x60 true x37 w fun x62 w => BG Tryz.prog x60 true .eql 27 (.tmp 62) (.const (Value.int .i64 0)) x62 (Value.int .i64 0) w fun x63 w => PK Tryz.prog x60 x63 (Value.bool false) w fun x64 w => MG Tryz.prog x64 true x42 w fun x66 w => BG Tryz.prog x64 true .eql 27 (.tmp 66) (.const (Value.int .i64 90)) x66 (Value.int .i64 90) w fun x67 w => PK Tryz.prog x64 x67 (Value.bool false) w fun x68 w => K .ret (up (up (up (up (up (up (up (up (up (up (up (up (up (up (up (up (up (up (up (up (up (up (up (up (up (up (up (up (up (up (up (up (up (up (up (up (up (up (up (up (up ρ 34 x34) 35 x35) 33 x35) 36 x36) 37 x37) 6 x36) 7 x37) 39 x39) 40 x40) 38 x40) 41 x41) 42 x42) 8 x41) 9 x42) 43 (ρ 2)) 44 x44) 45 x44) 46 x46) 47 x47) 48 x48) 49 x48) 50 x50) 51 x51) 52 x52) 53 x52) 54 x54) 55 x55) 56 x56) 57 x56) 58 x58) 59 x59) 60 x60) 61 x60) 62 x62) 63 x63) 64 x64) 65 x64) 66 x66) 67 x67) 68 x68) 0 x68) w
theorem dispatcherlaw30_awake_R0_eq (z : At) (K : Exit → Sl → World → Prop) (ρ : Sl) (w : World) : sx z Tryz.prog 69 dispatcherlaw30_awake_R0 K ρ w = dispatcherlaw30_awake_R0_F z K ρ w := by kernel_rfl
noncomputable def dispatcherlaw30_awake_F (w : World) (R : Value → World → Prop) : Prop :=
  CK Tryz.prog (Value.func (Fn.func 24) #[] #[]) [(Value.string { data := #[114, 101, 99, 118, 40, 48, 44, 32, 97, 110, 121, 44, 32, 48, 41, 59] })] w fun x10 w => VK Tryz.prog (Instr.alloc 25 true (.tuple #[])) w fun x1 w => UK Tryz.prog (Instr.storeAt 25 x1 x10) w fun _ w => VK Tryz.prog (Instr.fieldAt 25 x1 1) w fun x11 w => VK Tryz.prog (Instr.loadAt 23 x11) w fun x12 w => IK Tryz.prog .len #[23] 3 [false] [x12] w fun x13 w => BK Tryz.prog .neq 3 (.tmp 13) (.const (Value.int .i64 1)) x13 (Value.int .i64 1) w fun x14 w => VG Tryz.prog x14 false (Instr.fieldAt 25 x1 1) w fun x16 w => VG Tryz.prog x14 false (Instr.loadAt 23 x16) w fun x17 w => VG Tryz.prog x14 false (Instr.indexAt 23 x17 (Value.int .i64 0)) w fun x18 w => VG Tryz.prog x14 false (Instr.loadAt 62 x18) w fun x19 w => CG Tryz.prog x14 false (Value.func (Fn.func 25) #[] #[]) [x19, (Value.int .i64 2)] w fun x20 w => BG Tryz.prog x14 false .neq 3 (.tmp 20) (.const (Value.int .i64 3)) x20 (Value.int .i64 3) w fun x21 w => PK Tryz.prog x14 (Value.bool true) x21 w fun x22 w => CondK x22 (R (Value.bool false) w) (VK Tryz.prog (Instr.loadAt 25 x1) w fun x24 w => CK Tryz.prog (Value.func (Fn.func 7) #[] #[]) [x24, (Value.int .i64 2)] w fun x25 w => VK Tryz.prog (Instr.extract x25 0) w fun x26 w => VK Tryz.prog (Instr.extract x25 1) w fun x27 w => VK Tryz.prog (Instr.loadAt 25 x1) w fun x29 w => CK Tryz.prog (Value.func (Fn.func 9) #[] #[]) [x29, (Value.int .i64 2)] w fun x30 w => VK Tryz.prog (Instr.extract x30 0) w fun x31 w => VK Tryz.prog (Instr.extract x30 1) w fun x32 w => sx fn_ Tryz.prog 69 dispatcherlaw30_awake_R0 (retK Tryz.prog [ResultVar.tmp 0] R) (up (up (up (up (up (up (up (up (up (up (up (up (up (up (up (up (up (up (up (up (up (up (up (up (up (up (up (up (up (rho0 []) 0 (Value.bool false)) 10 x10) 1 x1) 11 x11) 12 x12) 13 x13) 14 x14) 15 x14) 16 x16) 17 x17) 18 x18) 19 x19) 20 x20) 21 x21) 22 x22) 24 x24) 25 x25) 23 x25) 26 x26) 27 x27) 2 x26) 3 x27) 29 x29) 30 x30) 28 x30) 31 x31) 32 x32) 4 x31) 5 x32) w)
theorem dispatcherlaw30_awake_eq (w : World) (R : Value → World → Prop) : sx fn_ Tryz.prog 69 dispatcherlaw30_awake_b (retK Tryz.prog Tryz.f15.results.toList R) (rho0 []) w = dispatcherlaw30_awake_F  w R := by kernel_rfl
theorem dispatcherlaw30_awake_calls {w : World} {R : Value → World → Prop} (h : dispatcherlaw30_awake_F  w R) : Calls Tryz.prog 15 #[] w fun e w' => ∃ v, e = .returned v ∧ R v w' :=
  Go.X.calls_of_sx (n := 69) (c := dispatcherlaw30_awake_b) Tryz.func15 (by kernel_rfl) (by kernel_rfl) (Nat.le_of_ble_eq_true rfl) (by kernel_rfl) (Eq.mpr (dispatcherlaw30_awake_eq  w R) h)
noncomputable def limits_Ways_b : Code := (Tryz.f25.body).getD .skip
noncomputable def limits_Ways_F (a0 a1 : Value) (w : World) (R : Value → World → Prop) : Prop :=
  VK Tryz.prog (Instr.box 62 a0) w fun x2 w => VK Tryz.prog (Instr.loadAt 62 x2) w fun x5 w => VK Tryz.prog (Instr.buildSlice 23 1 [(0, x5)].toArray) w fun x6 w => VK Tryz.prog (Instr.build 25 [(1, x6)].toArray) w fun x7 w => CK Tryz.prog (Value.func (Fn.func 41) #[] #[]) [x7] w fun x8 w => VK Tryz.prog (Op.unary UnOp.not x8) w fun x9 w => MG Tryz.prog x9 false a1 w fun x11 w => BG Tryz.prog x9 false .lss 3 (.tmp 11) (.const (Value.int .i64 1)) x11 (Value.int .i64 1) w fun x12 w => PK Tryz.prog x9 (Value.bool true) x12 w fun x13 w => MG Tryz.prog x13 false a1 w fun x15 w => BG Tryz.prog x13 false .gtr 3 (.tmp 15) (.const (Value.int .i64 64)) x15 (Value.int .i64 64) w fun x16 w => PK Tryz.prog x13 (Value.bool true) x16 w fun x17 w => CondK x17 (R (Value.int .i64 1048576) w) (VK Tryz.prog (Instr.loadAt 62 x2) w fun x18 w => CK Tryz.prog (Value.func (Fn.func 33) #[] #[]) [x18, a1] w fun x20 w => R x20 w)
theorem limits_Ways_eq (a0 a1 : Value) (w : World) (R : Value → World → Prop) : sx fn_ Tryz.prog 21 limits_Ways_b (retK Tryz.prog Tryz.f25.results.toList R) (rho0 [a0, a1]) w = limits_Ways_F a0 a1 w R := by kernel_rfl
theorem limits_Ways_calls {a0 a1 : Value} {w : World} {R : Value → World → Prop} (h : limits_Ways_F a0 a1 w R) : Calls Tryz.prog 25 #[a0, a1] w fun e w' => ∃ v, e = .returned v ∧ R v w' :=
  Go.X.calls_of_sx (n := 21) (c := limits_Ways_b) Tryz.func25 (by kernel_rfl) (by kernel_rfl) (Nat.le_of_ble_eq_true rfl) (by kernel_rfl) (Eq.mpr (limits_Ways_eq a0 a1 w R) h)
noncomputable def dispatcherlaw30_LimitsOne_b : Code := (Tryz.f5.body).getD .skip
noncomputable def dispatcherlaw30_LimitsOne_R0 : Code := cAt [1, 1, 1, 1, 1, 1] dispatcherlaw30_LimitsOne_b
noncomputable def dispatcherlaw30_LimitsOne_R1 : Code := cAt [1, 1, 1, 1, 1, 1, 0, 1] dispatcherlaw30_LimitsOne_b
noncomputable def dispatcherlaw30_LimitsOne_R2 : Code := cAt [1, 1, 1, 1, 1, 1, 1] dispatcherlaw30_LimitsOne_b
noncomputable def dispatcherlaw30_LimitsOne_R3 : Code := cAt [1, 1, 1, 1, 1, 1, 1, 0] dispatcherlaw30_LimitsOne_b
noncomputable def dispatcherlaw30_LimitsOne_R4 : Code := cAt [1, 1, 1, 1, 1, 1, 1, 1] dispatcherlaw30_LimitsOne_b
noncomputable def dispatcherlaw30_LimitsOne_R0_F (z : At) (K : Exit → Sl → World → Prop) (ρ : Sl) (w : World) : Prop :=
  BK Tryz.prog .neq 27 (.tmp 39) (.const (Value.int .i64 0)) (ρ 8) (Value.int .i64 0) w fun x40 w => VG Tryz.prog x40 false (Instr.fieldAt 42 (ρ 7) 2) w fun x42 w => VG Tryz.prog x40 false (Instr.loadAt 3 x42) w fun x43 w => BG Tryz.prog x40 false .eql 3 (.tmp 43) (.const (Value.int .i64 0)) x43 (Value.int .i64 0) w fun x44 w => VG Tryz.prog x40 false (Instr.fieldAt 34 (ρ 5) 4) w fun x45 w => VG Tryz.prog x40 false (Instr.loadAt 3 x45) w fun x46 w => BG Tryz.prog x40 false .eql 3 (.tmp 46) (.const (Value.int .i64 1)) x46 (Value.int .i64 1) w fun x47 w => BG Tryz.prog x40 false .neq 4 (.tmp 44) (.tmp 47) x44 x47 w fun x48 w => PK Tryz.prog x40 (Value.bool true) x48 w fun x49 w => VG Tryz.prog x49 false (Instr.fieldAt 42 (ρ 7) 2) w fun x51 w => VG Tryz.prog x49 false (Instr.loadAt 3 x51) w fun x52 w => BG Tryz.prog x49 false .gtr 3 (.tmp 52) (.const (Value.int .i64 0)) x52 (Value.int .i64 0) w fun x53 w => MG Tryz.prog x49 false x53 w fun x54 w => VG Tryz.prog x54 true (Instr.fieldAt 34 (ρ 5) 4) w fun x55 w => VG Tryz.prog x54 true (Instr.loadAt 3 x55) w fun x56 w => VG Tryz.prog x54 true (Instr.fieldAt 34 (ρ 3) 0) w fun x57 w => VG Tryz.prog x54 true (Instr.loadAt 3 x57) w fun x58 w => IG Tryz.prog x54 true .min #[3, 3] 3 [false, true] [x58, (Value.int .i64 20)] w fun x59 w => VG Tryz.prog x54 true (convert 3 45 x59) w fun x60 w => BG Tryz.prog x54 true .shl 3 (.const (Value.int .i64 1)) (.tmp 60) (Value.int .i64 1) x60 w fun x61 w => BG Tryz.prog x54 true .lss 3 (.tmp 56) (.tmp 61) x56 x61 w fun x62 w => PG Tryz.prog x49 false x54 x62 (Value.bool false) w fun x63 w => PK Tryz.prog x49 (Value.bool true) x63 w fun x64 w => VG Tryz.prog x64 false (Instr.fieldAt 34 (ρ 5) 5) w fun x66 w => VG Tryz.prog x64 false (Instr.loadAt 3 x66) w fun x67 w => VG Tryz.prog x64 false (Instr.fieldAt 34 (ρ 3) 0) w fun x68 w => VG Tryz.prog x64 false (Instr.loadAt 3 x68) w fun x69 w => BG Tryz.prog x64 false .lss 3 (.tmp 67) (.tmp 69) x67 x69 w fun x70 w => PK Tryz.prog x64 (Value.bool true) x70 w fun x71 w => VG Tryz.prog x71 false (Instr.fieldAt 34 (ρ 5) 5) w fun x73 w => VG Tryz.prog x71 false (Instr.loadAt 3 x73) w fun x74 w => VG Tryz.prog x71 false (Instr.fieldAt 42 (ρ 7) 0) w fun x75 w => VG Tryz.prog x71 false (Instr.loadAt 3 x75) w fun x76 w => BG Tryz.prog x71 false .lss 3 (.tmp 74) (.tmp 76) x74 x76 w fun x77 w => PK Tryz.prog x71 (Value.bool true) x77 w fun x78 w => VG Tryz.prog x78 false (Instr.fieldAt 34 (ρ 5) 0) w fun x80 w => VG Tryz.prog x78 false (Instr.loadAt 3 x80) w fun x81 w => VG Tryz.prog x78 false (Instr.fieldAt 34 (ρ 3) 0) w fun x82 w => VG Tryz.prog x78 false (Instr.loadAt 3 x82) w fun x83 w => BG Tryz.prog x78 false .neq 3 (.tmp 81) (.tmp 83) x81 x83 w fun x84 w => PK Tryz.prog x78 (Value.bool true) x84 w fun x85 w => VG Tryz.prog x85 false (Instr.fieldAt 34 (ρ 5) 1) w fun x87 w => VG Tryz.prog x85 false (Instr.loadAt 3 x87) w fun x88 w => VG Tryz.prog x85 false (Instr.fieldAt 34 (ρ 3) 1) w fun x89 w => VG Tryz.prog x85 false (Instr.loadAt 3 x89) w fun x90 w => BG Tryz.prog x85 false .neq 3 (.tmp 88) (.tmp 90) x88 x90 w fun x91 w => PK Tryz.prog x85 (Value.bool true) x91 w fun x92 w => VG Tryz.prog x92 false (Instr.fieldAt 34 (ρ 5) 3) w fun x94 w => VG Tryz.prog x92 false (Instr.loadAt 3 x94) w fun x95 w => VG Tryz.prog x92 false (Instr.fieldAt 34 (ρ 3) 3) w fun x96 w => VG Tryz.prog x92 false (Instr.loadAt 3 x96) w fun x97 w => BG Tryz.prog x92 false .neq 3 (.tmp 95) (.tmp 97) x95 x97 w fun x98 w => PK Tryz.prog x92 (Value.bool true) x98 w fun x99 w => VG Tryz.prog x99 false (Instr.fieldAt 34 (ρ 5) 2) w fun x101 w => VG Tryz.prog x99 false (Instr.loadAt 4 x101) w fun x102 w => VG Tryz.prog x99 false (Instr.fieldAt 34 (ρ 3) 2) w fun x103 w => VG Tryz.prog x99 false (Instr.loadAt 4 x103) w fun x104 w => BG Tryz.prog x99 false .neq 4 (.tmp 102) (.tmp 104) x102 x104 w fun x105 w => PK Tryz.prog x99 (Value.bool true) x105 w fun x106 w => sx z Tryz.prog 132 dispatcherlaw30_LimitsOne_R1 (seqK (sx z Tryz.prog 132 dispatcherlaw30_LimitsOne_R2 K) K) (up (up (up (up (up (up (up (up (up (up (up (up (up (up (up (up (up (up (up (up (up (up (up (up (up (up (up (up (up (up (up (up (up (up (up (up (up (up (up (up (up (up (up (up (up (up (up (up (up (up (up (up (up (up (up (up (up (up (up (up (up (up (up (up (up (up (up (up ρ 39 (ρ 8)) 40 x40) 41 x40) 42 x42) 43 x43) 44 x44) 45 x45) 46 x46) 47 x47) 48 x48) 49 x49) 50 x49) 51 x51) 52 x52) 53 x53) 54 x54) 55 x55) 56 x56) 57 x57) 58 x58) 59 x59) 60 x60) 61 x61) 62 x62) 63 x63) 64 x64) 65 x64) 66 x66) 67 x67) 68 x68) 69 x69) 70 x70) 71 x71) 72 x71) 73 x73) 74 x74) 75 x75) 76 x76) 77 x77) 78 x78) 79 x78) 80 x80) 81 x81) 82 x82) 83 x83) 84 x84) 85 x85) 86 x85) 87 x87) 88 x88) 89 x89) 90 x90) 91 x91) 92 x92) 93 x92) 94 x94) 95 x95) 96 x96) 97 x97) 98 x98) 99 x99) 100 x99) 101 x101) 102 x102) 103 x103) 104 x104) 105 x105) 106 x106) w
theorem dispatcherlaw30_LimitsOne_R0_eq (z : At) (K : Exit → Sl → World → Prop) (ρ : Sl) (w : World) : sx z Tryz.prog 132 dispatcherlaw30_LimitsOne_R0 K ρ w = dispatcherlaw30_LimitsOne_R0_F z K ρ w := by kernel_rfl
noncomputable def dispatcherlaw30_LimitsOne_R1_F (z : At) (K : Exit → Sl → World → Prop) (ρ : Sl) (w : World) : Prop :=
  CondK (ρ 106) (K .ret (up ρ 4 (Value.bool false)) w) (K .normal ρ w)
theorem dispatcherlaw30_LimitsOne_R1_eq (z : At) (K : Exit → Sl → World → Prop) (ρ : Sl) (w : World) : sx z Tryz.prog 132 dispatcherlaw30_LimitsOne_R1 K ρ w = dispatcherlaw30_LimitsOne_R1_F z K ρ w := by kernel_rfl
noncomputable def dispatcherlaw30_LimitsOne_R2_F (z : At) (K : Exit → Sl → World → Prop) (ρ : Sl) (w : World) : Prop :=
  W z Tryz.prog 132 dispatcherlaw30_LimitsOne_R3 (seqK (sx z Tryz.prog 132 dispatcherlaw30_LimitsOne_R4 K) K) ρ w
theorem dispatcherlaw30_LimitsOne_R2_eq (z : At) (K : Exit → Sl → World → Prop) (ρ : Sl) (w : World) : sx z Tryz.prog 132 dispatcherlaw30_LimitsOne_R2 K ρ w = dispatcherlaw30_LimitsOne_R2_F z K ρ w := by kernel_rfl
noncomputable def dispatcherlaw30_LimitsOne_R3_ops : Array Oper := opsOf dispatcherlaw30_LimitsOne_R3
def dispatcherlaw30_LimitsOne_R3_H (S : World → Prop) (K : Exit → Sl → World → Prop) (ρ : Sl) (w : World) : Prop :=
  HK Tryz.prog S (do pure (Next.value (← Instr.loadAt 34 (ρ 5)))) fun x107 => HK Tryz.prog S (do pure (Next.value (← Instr.loadAt 34 (ρ 5)))) fun x108 => (VK Tryz.prog (Instr.alloc 34 true (.tuple #[])) w fun x9 w => S w ∧ (VK Tryz.prog (Instr.alloc 34 true (.tuple #[])) w fun x10 w => S w ∧ (UK Tryz.prog (Instr.storeAt 34 x9 x107) w fun _ w => S w ∧ (UK Tryz.prog (Instr.storeAt 34 x10 x108) w fun _ w => S w ∧ (K Exit.normal (up (up (up (up ρ 107 x107) 108 x108) 9 x9) 10 x10) w))))) ∧ (VK Tryz.prog (Instr.alloc 34 true (.tuple #[])) w fun x10_1 w => S w ∧ (VK Tryz.prog (Instr.alloc 34 true (.tuple #[])) w fun x9_1 w => S w ∧ (UK Tryz.prog (Instr.storeAt 34 x9_1 x107) w fun _ w => S w ∧ (UK Tryz.prog (Instr.storeAt 34 x10_1 x108) w fun _ w => S w ∧ (K Exit.normal (up (up (up (up ρ 107 x107) 108 x108) 10 x10_1) 9 x9_1) w)))))
theorem dispatcherlaw30_LimitsOne_R3_held {D : List Deferred} (S : World → Prop) {K : Exit → Sl → World → Prop} {ρ : Sl} {w : World} (hS : S { w with drawn := w.drawn + 1 }) (h : dispatcherlaw30_LimitsOne_R3_H S K ρ { w with drawn := w.drawn + 1 }) : W ⟨none, D⟩ Tryz.prog 132 dispatcherlaw30_LimitsOne_R3 K ρ w := by
  have e : dispatcherlaw30_LimitsOne_R3 = .region (idOf dispatcherlaw30_LimitsOne_R3) dispatcherlaw30_LimitsOne_R3_ops true := by kernel_rfl
  have q : sxd Tryz.prog S dispatcherlaw30_LimitsOne_R3_ops (K .normal) (Pd.take 0 (Pd.take 1 (Pd.two false false 2 3 (Pd.only false 3 (Pd.only false 4 (Pd.only false 5 Pd.done))) (Pd.only false 2 (Pd.only false 4 (Pd.only false 5 Pd.done)))))) ρ { w with drawn := w.drawn + 1 } = dispatcherlaw30_LimitsOne_R3_H S K ρ { w with drawn := w.drawn + 1 } := by kernel_rfl
  rw [e]
  exact W_pland S (Pd.take 0 (Pd.take 1 (Pd.two false false 2 3 (Pd.only false 3 (Pd.only false 4 (Pd.only false 5 Pd.done))) (Pd.only false 2 (Pd.only false 4 (Pd.only false 5 Pd.done)))))) (by kernel_rfl) (by kernel_rfl) (by kernel_rfl) (by kernel_rfl) hS (Eq.mpr q h)
noncomputable def dispatcherlaw30_LimitsOne_R4_F (z : At) (K : Exit → Sl → World → Prop) (ρ : Sl) (w : World) : Prop :=
  VK Tryz.prog (Instr.fieldAt 34 (ρ 9) 4) w fun x109 w => VK Tryz.prog (Instr.loadAt 3 x109) w fun x110 w => BK Tryz.prog .sub 3 (.tmp 110) (.const (Value.int .i64 1)) x110 (Value.int .i64 1) w fun x111 w => VK Tryz.prog (Instr.fieldAt 34 (ρ 9) 4) w fun x112 w => UK Tryz.prog (Instr.storeAt 3 x112 x111) w fun _ w => VK Tryz.prog (Instr.fieldAt 34 (ρ 10) 5) w fun x113 w => VK Tryz.prog (Instr.loadAt 3 x113) w fun x114 w => BK Tryz.prog .sub 3 (.tmp 114) (.const (Value.int .i64 1)) x114 (Value.int .i64 1) w fun x115 w => VK Tryz.prog (Instr.fieldAt 34 (ρ 10) 5) w fun x116 w => UK Tryz.prog (Instr.storeAt 3 x116 x115) w fun _ w => VK Tryz.prog (Instr.loadAt 25 (ρ 2)) w fun x117 w => VK Tryz.prog (Instr.loadAt 34 (ρ 5)) w fun x118 w => CK Tryz.prog (Value.func (Fn.func 13) #[] #[]) [x117, x118] w fun x119 w => VG Tryz.prog x119 true (Instr.loadAt 25 (ρ 2)) w fun x121 w => VG Tryz.prog x119 true (Instr.loadAt 34 (ρ 9)) w fun x122 w => CG Tryz.prog x119 true (Value.func (Fn.func 13) #[] #[]) [x121, x122] w fun x123 w => VG Tryz.prog x119 true (Op.unary UnOp.not x123) w fun x124 w => PK Tryz.prog x119 x124 (Value.bool false) w fun x125 w => VG Tryz.prog x125 true (Instr.loadAt 25 (ρ 2)) w fun x127 w => VG Tryz.prog x125 true (Instr.loadAt 34 (ρ 10)) w fun x128 w => CG Tryz.prog x125 true (Value.func (Fn.func 13) #[] #[]) [x127, x128] w fun x129 w => VG Tryz.prog x125 true (Op.unary UnOp.not x129) w fun x130 w => PK Tryz.prog x125 x130 (Value.bool false) w fun x131 w => K .ret (up (up (up (up (up (up (up (up (up (up (up (up (up (up (up (up (up (up (up (up (up (up (up (up ρ 109 x109) 110 x110) 111 x111) 112 x112) 113 x113) 114 x114) 115 x115) 116 x116) 117 x117) 118 x118) 119 x119) 120 x119) 121 x121) 122 x122) 123 x123) 124 x124) 125 x125) 126 x125) 127 x127) 128 x128) 129 x129) 130 x130) 131 x131) 4 x131) w
theorem dispatcherlaw30_LimitsOne_R4_eq (z : At) (K : Exit → Sl → World → Prop) (ρ : Sl) (w : World) : sx z Tryz.prog 132 dispatcherlaw30_LimitsOne_R4 K ρ w = dispatcherlaw30_LimitsOne_R4_F z K ρ w := by kernel_rfl
noncomputable def dispatcherlaw30_LimitsOne_F (a0 a1 : Value) (w : World) (R : Value → World → Prop) : Prop :=
  VK Tryz.prog (Instr.box 25 a0) w fun x2 w => VK Tryz.prog (Instr.box 34 a1) w fun x3 w => CK Tryz.prog (Value.func (Fn.func 15) #[] #[]) [] w fun x11 w => VK Tryz.prog (Op.unary UnOp.not x11) w fun x12 w => CondK x12 (R (Value.bool false) w) (VK Tryz.prog (Instr.loadAt 25 x2) w fun x13 w => CK Tryz.prog (Value.func (Fn.func 6) #[] #[]) [x13] w fun x14 w => CondK x14 (R (Value.bool true) w) (VK Tryz.prog (Instr.loadAt 25 x2) w fun x16 w => VK Tryz.prog (Instr.loadAt 34 x3) w fun x17 w => CK Tryz.prog (Value.func (Fn.func 11) #[] #[]) [x16, x17] w fun x18 w => VK Tryz.prog (Instr.extract x18 0) w fun x19 w => VK Tryz.prog (Instr.extract x18 1) w fun x20 w => VK Tryz.prog (Instr.alloc 34 true (.tuple #[])) w fun x5 w => UK Tryz.prog (Instr.storeAt 34 x5 x19) w fun _ w => BK Tryz.prog .neq 27 (.tmp 21) (.const (Value.int .i64 0)) x20 (Value.int .i64 0) w fun x22 w => CondK x22 (VK Tryz.prog (Instr.loadAt 34 x5) w fun x23 w => VK Tryz.prog (Instr.build 34 [].toArray) w fun x24 w => BK Tryz.prog .eql 34 (.tmp 23) (.tmp 24) x23 x24 w fun x25 w => VG Tryz.prog x25 true (Instr.loadAt 25 x2) w fun x27 w => VG Tryz.prog x25 true (Instr.loadAt 34 x3) w fun x28 w => CG Tryz.prog x25 true (Value.func (Fn.func 13) #[] #[]) [x27, x28] w fun x29 w => VG Tryz.prog x25 true (Op.unary UnOp.not x29) w fun x30 w => PK Tryz.prog x25 x30 (Value.bool false) w fun x31 w => R x31 w) (VK Tryz.prog (Instr.loadAt 25 x2) w fun x33 w => VK Tryz.prog (Instr.fieldAt 34 x3 0) w fun x34 w => VK Tryz.prog (Instr.loadAt 3 x34) w fun x35 w => CK Tryz.prog (Value.func (Fn.func 16) #[] #[]) [x33, x35] w fun x36 w => VK Tryz.prog (Instr.extract x36 0) w fun x37 w => VK Tryz.prog (Instr.extract x36 1) w fun x38 w => VK Tryz.prog (Instr.alloc 42 true (.tuple #[])) w fun x7 w => UK Tryz.prog (Instr.storeAt 42 x7 x37) w fun _ w => sx fn_ Tryz.prog 132 dispatcherlaw30_LimitsOne_R0 (retK Tryz.prog [ResultVar.tmp 4] R) (up (up (up (up (up (up (up (up (up (up (up (up (up (up (up (up (up (up (up (up (up (up (up (up (up (up (rho0 [a0, a1]) 2 x2) 3 x3) 4 (Value.bool false)) 11 x11) 12 x12) 13 x13) 14 x14) 16 x16) 17 x17) 18 x18) 15 x18) 19 x19) 20 x20) 5 x5) 6 x20) 21 x20) 22 x22) 33 x33) 34 x34) 35 x35) 36 x36) 32 x36) 37 x37) 38 x38) 7 x7) 8 x38) w)))
theorem dispatcherlaw30_LimitsOne_eq (a0 a1 : Value) (w : World) (R : Value → World → Prop) : sx fn_ Tryz.prog 132 dispatcherlaw30_LimitsOne_b (retK Tryz.prog Tryz.f5.results.toList R) (rho0 [a0, a1]) w = dispatcherlaw30_LimitsOne_F a0 a1 w R := by kernel_rfl
theorem dispatcherlaw30_LimitsOne_calls {a0 a1 : Value} {w : World} {R : Value → World → Prop} (h : dispatcherlaw30_LimitsOne_F a0 a1 w R) : Calls Tryz.prog 5 #[a0, a1] w fun e w' => ∃ v, e = .returned v ∧ R v w' :=
  Go.X.calls_of_sx (n := 132) (c := dispatcherlaw30_LimitsOne_b) Tryz.func5 (by kernel_rfl) (by kernel_rfl) (Nat.le_of_ble_eq_true rfl) (by kernel_rfl) (Eq.mpr (dispatcherlaw30_LimitsOne_eq a0 a1 w R) h)
end Go.Proofs.YtpkfbaagpjdifaaGreatDoor.XL
set_option linter.unusedVariables false
set_option linter.unusedSimpArgs false
set_option maxRecDepth 100000
namespace Go.Proofs.YtpkfbaagpjdifaaGreatDoor.Tr
open Go Go.X Go.RowKit Go.Proofs.YtpkfbaagpjdifaaGreatDoor.XL Go.Proofs.YtpkfbaagpjdifaaGreatDoor.XK
def mayS (l : List St) : Bool := decide (St.deepAt l 1 ≤ 32) && St.mayL l
def waysQ (e : St) (n : Int) : Int := if mayS [e] = true ∧ 1 ≤ n ∧ n ≤ 64 then e.ways n else 1048576
def newL (b : Bs) (f : Pr → Bool) : Bool := (readP b).any fun p => p.fitsB && f p
theorem tl1 : newL [114, 101, 99, 118, 40, 48, 44, 32, 97, 110, 121, 44, 32, 48, 41, 59] (fun p => (match p.body with | [e] => mayS [e] && decide (e.ways 2 = 3) | _ => false) && decide (runsP p 2 = (9, 0)) && decide (stepsP p 2 = (6, 0))) = true := by kernel_rfl
theorem tl2 : newL [105, 110, 116, 32, 120, 59, 32, 120, 32, 61, 32, 49, 59] (fun p => decide (runsP p 2 = (1, 0))) = true := by kernel_rfl
theorem tl3 : newL [119, 104, 105, 108, 101, 32, 49, 32, 123, 32, 125] (fun p => decide (runsP p 2 = (0, 90))) = true := by kernel_rfl
set_option maxRecDepth 4000
theorem bPrL (A : Option Addr) (n c : Nat) : Tryz.prog.built 25 [(1, .slice A n c)] = some #[.slice none 0 0, .slice A n c] := by kernel_rfl
theorem Ways_ok {w : World} (hg : Gl w) {e : St} (he : e.Ok w) (hsz : e.sz ≤ 1000000000000) (n : Int) : Rt Tryz.prog 25 #[.agg e.cells.toArray, .int .i64 n] w fun v w' => v = .int .i64 (waysQ e n) ∧ Mod none_ w w' := by
  refine limits_Ways_calls ?_
  unfold limits_Ways_F
  refine box_k (cs := e.cells.toArray) rfl fun w1 hb1 hm1 hz1 => ?_
  refine ldB (cs := e.cells.toArray) Tryz.underlying62 rfl iSt hb1 ?_
  refine bs_k (cs := e.cells.toArray) (by kernel_rfl) fun w2 h2 hm2 hz2 => ?_
  rw [build_ok (bPrL _ _ _)]
  have hm02 := hm1.trans hm2
  obtain ⟨q, hq⟩ : ∃ q : Pr, q = ⟨.slice none 0 0, [], .slice (some ⟨w1.heap.size, 0, none⟩) 1 1, [e]⟩ := ⟨_, rfl⟩
  have hqc : (#[Value.slice none 0 0, Value.slice (some ⟨w1.heap.size, 0, none⟩) 1 1] : Array Value) = q.cells.toArray := by rw [hq]; rfl
  rw [hqc]
  have hqok : q.Ok w2 := by
    rw [hq]
    refine ⟨⟨reads_nil _ _, by simp⟩, by simpa using reads_blk (size := 10) (n := 1) h2 rfl, fun a ha => ?_⟩
    rw [List.mem_singleton.1 ha]
    exact he.mod hm02
  have hqf : q.fits := by
    rw [hq]
    refine ⟨by show (0 : Nat) ≤ _; omega, ?_⟩
    show St.szL [e] ≤ _
    simp only [St.szL]; omega
  have hqm : q.may = mayS [e] := by
    rw [hq]; unfold Pr.may mayS; simp
  refine CK_st Tryz.func41 rfl rfl (May_ok (hg.mod hm02) hqok hqf) ?_
  rintro _ w3 ⟨rfl, hm3⟩
  have hm03 := hm02.trans hm3
  rw [hqm]
  unfold waysQ
  cases hmay : mayS [e] with
  | false =>
    simp only [↓VG_u, ↓UG_u, ↓MG_u, ↓NG_u, ↓PG_u, ↓BG_u, ↓CG_u, ↓IG_u, ↓VGtt, ↓VGtf, ↓VGft, ↓VGff, ↓UGtt, ↓UGtf, ↓UGft, ↓UGff, ↓MGtt, ↓MGtf, ↓MGft, ↓MGff, ↓NGtt, ↓NGtf, ↓NGft, ↓NGff, ↓PGtt, ↓PGtf, ↓PGft, ↓PGff, ↓BGtt, ↓BGtf, ↓BGft, ↓BGff, ↓CGtt, ↓CGtf, ↓CGft, ↓CGff, ↓IGtt, ↓IGtf, ↓IGft, ↓IGff, ↓PKt, ↓PKf, ↓CDt, ↓CDf, ↓NOTt, ↓NOTf, ↓NK_ptr]
    exact ⟨by rw [if_neg (by simp)], hm03⟩
  | true =>
    simp only [↓VG_u, ↓UG_u, ↓MG_u, ↓NG_u, ↓PG_u, ↓BG_u, ↓CG_u, ↓IG_u, ↓VGtt, ↓VGtf, ↓VGft, ↓VGff, ↓UGtt, ↓UGtf, ↓UGft, ↓UGff, ↓MGtt, ↓MGtf, ↓MGft, ↓MGff, ↓NGtt, ↓NGtf, ↓NGft, ↓NGff, ↓PGtt, ↓PGtf, ↓PGft, ↓PGff, ↓BGtt, ↓BGtf, ↓BGft, ↓BGff, ↓CGtt, ↓CGtf, ↓CGft, ↓CGff, ↓IGtt, ↓IGtf, ↓IGft, ↓IGff, ↓PKt, ↓PKf, ↓CDt, ↓CDf, ↓NOTt, ↓NOTf, ↓NK_ptr]
    by_cases h1 : n < 1
    · simp only [↓VG_u, ↓UG_u, ↓MG_u, ↓NG_u, ↓PG_u, ↓BG_u, ↓CG_u, ↓IG_u, ↓VGtt, ↓VGtf, ↓VGft, ↓VGff, ↓UGtt, ↓UGtf, ↓UGft, ↓UGff, ↓MGtt, ↓MGtf, ↓MGft, ↓MGff, ↓NGtt, ↓NGtf, ↓NGft, ↓NGff, ↓PGtt, ↓PGtf, ↓PGft, ↓PGff, ↓BGtt, ↓BGtf, ↓BGft, ↓BGff, ↓CGtt, ↓CGtf, ↓CGft, ↓CGff, ↓IGtt, ↓IGtf, ↓IGft, ↓IGff, ↓PKt, ↓PKf, ↓CDt, ↓CDf, ↓NOTt, ↓NOTf, ↓NK_ptr, ↓LTt h1]
      rw [if_neg (by omega)]
      first | exact ⟨rfl, hm03⟩ | exact ⟨trivial, hm03⟩
    · simp only [↓VG_u, ↓UG_u, ↓MG_u, ↓NG_u, ↓PG_u, ↓BG_u, ↓CG_u, ↓IG_u, ↓VGtt, ↓VGtf, ↓VGft, ↓VGff, ↓UGtt, ↓UGtf, ↓UGft, ↓UGff, ↓MGtt, ↓MGtf, ↓MGft, ↓MGff, ↓NGtt, ↓NGtf, ↓NGft, ↓NGff, ↓PGtt, ↓PGtf, ↓PGft, ↓PGff, ↓BGtt, ↓BGtf, ↓BGft, ↓BGff, ↓CGtt, ↓CGtf, ↓CGft, ↓CGff, ↓IGtt, ↓IGtf, ↓IGft, ↓IGff, ↓PKt, ↓PKf, ↓CDt, ↓CDf, ↓NOTt, ↓NOTf, ↓NK_ptr, ↓LTf (show 1 ≤ n by omega)]
      by_cases h2 : 64 < n
      · simp only [↓VG_u, ↓UG_u, ↓MG_u, ↓NG_u, ↓PG_u, ↓BG_u, ↓CG_u, ↓IG_u, ↓VGtt, ↓VGtf, ↓VGft, ↓VGff, ↓UGtt, ↓UGtf, ↓UGft, ↓UGff, ↓MGtt, ↓MGtf, ↓MGft, ↓MGff, ↓NGtt, ↓NGtf, ↓NGft, ↓NGff, ↓PGtt, ↓PGtf, ↓PGft, ↓PGff, ↓BGtt, ↓BGtf, ↓BGft, ↓BGff, ↓CGtt, ↓CGtf, ↓CGft, ↓CGff, ↓IGtt, ↓IGtf, ↓IGft, ↓IGff, ↓PKt, ↓PKf, ↓CDt, ↓CDf, ↓NOTt, ↓NOTf, ↓NK_ptr, ↓GTt h2]
        rw [if_neg (by omega)]
        first | exact ⟨rfl, hm03⟩ | exact ⟨trivial, hm03⟩
      · simp only [↓VG_u, ↓UG_u, ↓MG_u, ↓NG_u, ↓PG_u, ↓BG_u, ↓CG_u, ↓IG_u, ↓VGtt, ↓VGtf, ↓VGft, ↓VGff, ↓UGtt, ↓UGtf, ↓UGft, ↓UGff, ↓MGtt, ↓MGtf, ↓MGft, ↓MGff, ↓NGtt, ↓NGtf, ↓NGft, ↓NGff, ↓PGtt, ↓PGtf, ↓PGft, ↓PGff, ↓BGtt, ↓BGtf, ↓BGft, ↓BGff, ↓CGtt, ↓CGtf, ↓CGft, ↓CGff, ↓IGtt, ↓IGtf, ↓IGft, ↓IGff, ↓PKt, ↓PKf, ↓CDt, ↓CDf, ↓NOTt, ↓NOTf, ↓NK_ptr, ↓GTf (show n ≤ 64 by omega)]
        rw [if_pos ⟨by first | rfl | trivial, by omega, by omega⟩]
        refine ldB (cs := e.cells.toArray) Tryz.underlying62 rfl iSt ((hm2.trans hm3).blk hb1 id) ?_
        have hme : e.may = true := by
          unfold mayS at hmay
          simp only [Bool.and_eq_true, St.mayL] at hmay
          exact hmay.2.1
        refine CK_st Tryz.func33 rfl rfl (ways_ok ⟨by omega, by omega⟩ e w3 (he.mod hm03) (by omega) hme) ?_
        rintro _ w4 ⟨rfl, hm4⟩
        exact ⟨rfl, hm03.trans hm4⟩
theorem read30_ok {b : Bs} {pr : Pr} (h : readP b = some pr) (hf : pr.fits) {w : World} : Rt Tryz.prog 24 #[.string (bs b)] w fun v w' => ∃ q : Pr, v = .agg q.cells.toArray ∧ q.er = pr ∧ q.Ok w' ∧ Mod none_ w w' := by
  refine dispatcherlaw30_read_calls ?_
  unfold dispatcherlaw30_read_F
  refine al_k (cs := zPc) zPr rfl _ fun w1 hb1 hm1 hz1 => ?_
  refine bytes_k Tryz.underlying9 Tryz.underlying75 Tryz.underlying5 b fun v w2 hr hm2 => ?_
  refine Parse_tx h hf hr fun x q w3 he hO hm3 => ?_
  have hq := hO.ok
  have hb3 := hm3.blk (hm2.blk hb1 id) id
  have hm03 := (hm1.trans hm2).trans hm3
  rw [extract_ok (v := .agg q.cells.toArray) rfl, extract_ok (v := .agg zWc) rfl]
  refine al_k (cs := zPc) zPr rfl _ fun w4 hb4 hm4 hz4 => ?_
  refine al_k (cs := zWc) zWr' rfl _ fun w5 hb5 hm5 hz5 => ?_
  have hb35 := hm5.blk (hm4.blk hb3 id) id
  have hlt := blk_lt hb3
  refine stS (old := zPc) (cs := q.cells.toArray) rfl rfl iPr' rfl (oneOk hq) (hm5.blk hb4 id) fun w6 hb6 hm6 hz6 => ?_
  refine stS (old := zWc) (cs := zWc) rfl rfl iWr' rfl (by kernel_rfl) (hm6.blk hb5 (by omega)) fun w7 hb7 hm7 hz7 => ?_
  have hb67 := hm7.blk hb6 (by omega)
  refine ldS (cs := q.cells.toArray) rfl Tryz.underlying25 rfl iPr' hb67 ?_
  refine stS (old := zPc) (cs := q.cells.toArray) rfl rfl iPr' rfl (oneOk hq) (hm7.blk (hm6.blk hb35 (by omega)) (by omega)) fun w8 hb8 hm8 hz8 => ?_
  have hm38 : Mod none_ w w8 := ((((hm03.trans hm4).trans hm5).then hm6 fun i hi q => by have := hm03.size; omega).then hm7 fun i hi q => by have := hm03.size; omega).then hm8 fun i hi q => by omega
  have hm37 : Mod none_ w3 w7 := ((hm4.trans hm5).then hm6 fun i hi q => by omega).then hm7 fun i hi q => by omega
  have hs2 := hm2.size
  have hq8 : PrOwn w8 w2.heap.size q := (hO.mod0 hm37).off hm8 fun k q => by omega
  exact rsCell (R := fun v w' => ∃ q : Pr, v = .agg q.cells.toArray ∧ q.er = pr ∧ q.Ok w' ∧ Mod none_ w w') (cs := q.cells.toArray) rfl Tryz.underlying25 rfl iPr' hb8 ⟨q, rfl, he, hq8.ok, hm38⟩
theorem mayS_er (l : List St) : mayS (l.map St.er) = mayS l := by unfold mayS; rw [St.deepAt_er, St.mayL_er]
theorem awake30_ok {w : World} (hg : Gl w) : Rt Tryz.prog 15 #[] w fun v w' => v = .bool true ∧ Mod none_ w w' := by
  obtain ⟨p1, hr1, hf1⟩ := got tl1
  obtain ⟨p2, hr2, hf2⟩ := got tl2
  obtain ⟨p3, hr3, hf3⟩ := got tl3
  rw [Bool.and_eq_true, Bool.and_eq_true, Bool.and_eq_true, decide_eq_true_iff, decide_eq_true_iff] at hf1
  rw [Bool.and_eq_true, decide_eq_true_iff] at hf2 hf3
  obtain ⟨hfit1, ⟨hone, hruns⟩, hsteps⟩ := hf1
  have hfit1 := Pr.fits_of hfit1
  have hfit2 := Pr.fits_of hf2.1
  have hfit3 := Pr.fits_of hf3.1
  refine dispatcherlaw30_awake_calls ?_
  unfold dispatcherlaw30_awake_F
  refine CK_st Tryz.func24 rfl rfl (read30_ok hr1 hfit1) ?_
  rintro _ w1 ⟨q1, rfl, he1, hq1, hm1⟩
  have hpe1 : q1.er = p1.er := by rw [← he1, Pr.er_er]
  refine lcl_k (cs := q1.cells.toArray) zPr _ iPr' rfl (oneOk hq1) fun w2 hb2 hm2 hz2 => ?_
  have hm02 := hm1.trans hm2
  have hq12 := hq1.mod hm2
  have hfq := fits_of hpe1 hfit1
  have hbm : q1.body.map St.er = p1.body.map St.er := by have := congrArg Pr.body hpe1; exact this
  obtain ⟨e0, hb0, hmay0, hw0⟩ : ∃ e0, p1.body = [e0] ∧ mayS [e0] = true ∧ e0.ways 2 = 3 := by
    split at hone
    · rename_i e heq
      rw [Bool.and_eq_true, decide_eq_true_iff] at hone
      exact ⟨e, heq, hone.1, hone.2⟩
    · cases hone
  have hl1 : q1.body.length = 1 := by have := congrArg List.length hbm; rw [List.length_map, List.length_map, hb0] at this; exact this
  obtain ⟨e, hbe⟩ := List.length_eq_one_iff.1 hl1
  have hee : e.er = e0.er := by rw [hbe, hb0] at hbm; simpa using hbm
  have hwe : e.ways 2 = 3 := by rw [← St.ways_er, hee, St.ways_er]; exact hw0
  have hme : mayS [e] = true := by
    rw [← mayS_er, show [e].map St.er = [e0].map St.er by simp [hee], mayS_er]; exact hmay0
  obtain ⟨A, c, hbs, _⟩ := reads_cap hq12.b.1
  rw [hl1] at hbs
  have f1 : FO Tryz.prog w2 25 1 1 ⟨w1.heap.size, 0, none⟩ 23 (.slice A 1 c) := FO.blk hb2 (by kernel_rfl) uSts rfl (by rw [← hbs]; rfl)
  simp only [↓f1.e]
  rw [len_sl uSts]
  simp only [↓VG_u, ↓UG_u, ↓MG_u, ↓NG_u, ↓PG_u, ↓BG_u, ↓CG_u, ↓IG_u, ↓VGtt, ↓VGtf, ↓VGft, ↓VGff, ↓UGtt, ↓UGtf, ↓UGft, ↓UGff, ↓MGtt, ↓MGtf, ↓MGft, ↓MGff, ↓NGtt, ↓NGtf, ↓NGft, ↓NGff, ↓PGtt, ↓PGtf, ↓PGft, ↓PGff, ↓BGtt, ↓BGtf, ↓BGft, ↓BGff, ↓CGtt, ↓CGtf, ↓CGft, ↓CGff, ↓IGtt, ↓IGtf, ↓IGft, ↓IGff, ↓PKt, ↓PKf, ↓CDt, ↓CDf, ↓NOTt, ↓NOTf, ↓NK_ptr, ↓NEf (show ((1 : Nat) : Int) = 1 by rfl), ↓f1.e]
  have hx0 : q1.body[0]? = some e := by rw [hbe]; rfl
  refine ixSt (i := 0) (hbs ▸ hq12.b) hx0 fun x18 => ?_
  have hesz : e.sz ≤ 1048576 := by
    have h1 := St.szL_at hx0
    have h2 : St.szL q1.body = St.szL p1.body := by rw [← St.szL_er, hbm, St.szL_er]
    have h3 : St.szL p1.body ≤ 1000 := by
      have : (newL [114, 101, 99, 118, 40, 48, 44, 32, 97, 110, 121, 44, 32, 48, 41, 59] fun p => decide (St.szL p.body ≤ 1000)) = true := by kernel_rfl
      obtain ⟨p', hr', hf'⟩ := got this
      rw [hr1] at hr'
      cases hr'
      rw [Bool.and_eq_true, decide_eq_true_iff] at hf'
      exact hf'.2
    omega
  refine CK_st Tryz.func25 rfl rfl (Ways_ok (hg.mod hm02) (hq12.b.at hx0) (by omega) 2) ?_
  rintro _ w3 ⟨rfl, hm3⟩
  have hwq : waysQ e 2 = 3 := by unfold waysQ; rw [if_pos ⟨hme, by omega, by omega⟩]; exact hwe
  simp only [↓VG_u, ↓UG_u, ↓MG_u, ↓NG_u, ↓PG_u, ↓BG_u, ↓CG_u, ↓IG_u, ↓VGtt, ↓VGtf, ↓VGft, ↓VGff, ↓UGtt, ↓UGtf, ↓UGft, ↓UGff, ↓MGtt, ↓MGtf, ↓MGft, ↓MGff, ↓NGtt, ↓NGtf, ↓NGft, ↓NGff, ↓PGtt, ↓PGtf, ↓PGft, ↓PGff, ↓BGtt, ↓BGtf, ↓BGft, ↓BGff, ↓CGtt, ↓CGtf, ↓CGft, ↓CGff, ↓IGtt, ↓IGtf, ↓IGft, ↓IGff, ↓PKt, ↓PKf, ↓CDt, ↓CDf, ↓NOTt, ↓NOTf, ↓NK_ptr, ↓NEf hwq]
  have hm03 := hm02.trans hm3
  have hb23 := hm3.blk hb2 id
  refine ldB (cs := q1.cells.toArray) Tryz.underlying25 rfl iPr' hb23 ?_
  refine CK_st Tryz.func7 rfl rfl (Runs_ok (hg.mod hm03) (hq12.mod hm3) hfq 2) ?_
  rintro _ w4 ⟨rfl, hm4⟩
  have hm04 := hm03.trans hm4
  have hb24 := hm4.blk hb23 id
  rw [runsP_er hpe1, hruns, extract_ok (v := .int .i64 9) rfl, extract_ok (v := .int .i64 0) rfl]
  refine ldB (cs := q1.cells.toArray) Tryz.underlying25 rfl iPr' hb24 ?_
  refine CK_st Tryz.func9 rfl rfl (Steps_ok (hg.mod hm04) ((hq12.mod hm3).mod hm4) hfq 2) ?_
  rintro _ w5 ⟨rfl, hm5⟩
  have hm05 := hm04.trans hm5
  rw [stepsP_er hpe1, hsteps, extract_ok (v := .int .i64 6) rfl, extract_ok (v := .int .i64 0) rfl]
  have fin : ∀ ρ : Sl, ρ 2 = .int .i64 9 → ρ 3 = .int .i64 0 → ρ 4 = .int .i64 6 → ρ 5 = .int .i64 0 → sx fn_ Tryz.prog 69 dispatcherlaw30_awake_R0 (retK Tryz.prog [ResultVar.tmp 0] fun v w' => v = .bool true ∧ Mod none_ w w') ρ w5 := by
    intro ρ r2 r3 r4 r5
    rw [dispatcherlaw30_awake_R0_eq]
    unfold dispatcherlaw30_awake_R0_F
    rw [r2, r3, r4, r5]
    refine CK_st Tryz.func24 rfl rfl (read30_ok hr2 hfit2) ?_
    rintro _ w6 ⟨q2, rfl, he2, hq2, hm6⟩
    have hpe2 : q2.er = p2.er := by rw [← he2, Pr.er_er]
    refine CK_st Tryz.func7 rfl rfl (Runs_ok ((hg.mod hm05).mod hm6) hq2 (fits_of hpe2 hfit2) 2) ?_
    rintro _ w7 ⟨rfl, hm7⟩
    rw [runsP_er hpe2, hf2.2, extract_ok (v := .int .i64 1) rfl, extract_ok (v := .int .i64 0) rfl]
    refine CK_st Tryz.func24 rfl rfl (read30_ok hr3 hfit3) ?_
    rintro _ w8 ⟨q3, rfl, he3, hq3, hm8⟩
    have hpe3 : q3.er = p3.er := by rw [← he3, Pr.er_er]
    have hm08 := ((hm05.trans hm6).trans hm7).trans hm8
    refine CK_st Tryz.func7 rfl rfl (Runs_ok (hg.mod hm08) hq3 (fits_of hpe3 hfit3) 2) ?_
    rintro _ w9 ⟨rfl, hm9⟩
    rw [runsP_er hpe3, hf3.2, extract_ok (v := .int .i64 0) rfl, extract_ok (v := .int .i64 90) rfl]
    simp only [↓VG_u, ↓UG_u, ↓MG_u, ↓NG_u, ↓PG_u, ↓BG_u, ↓CG_u, ↓IG_u, ↓VGtt, ↓VGtf, ↓VGft, ↓VGff, ↓UGtt, ↓UGtf, ↓UGft, ↓UGff, ↓MGtt, ↓MGtf, ↓MGft, ↓MGff, ↓NGtt, ↓NGtf, ↓NGft, ↓NGff, ↓PGtt, ↓PGtf, ↓PGft, ↓PGff, ↓BGtt, ↓BGtf, ↓BGft, ↓BGff, ↓CGtt, ↓CGtf, ↓CGft, ↓CGff, ↓IGtt, ↓IGtf, ↓IGft, ↓IGff, ↓PKt, ↓PKf, ↓CDt, ↓CDf, ↓NOTt, ↓NOTf, ↓NK_ptr, ↓EQt (rfl : (9 : Int) = 9)]
    simp only [↓VG_u, ↓UG_u, ↓MG_u, ↓NG_u, ↓PG_u, ↓BG_u, ↓CG_u, ↓IG_u, ↓VGtt, ↓VGtf, ↓VGft, ↓VGff, ↓UGtt, ↓UGtf, ↓UGft, ↓UGff, ↓MGtt, ↓MGtf, ↓MGft, ↓MGff, ↓NGtt, ↓NGtf, ↓NGft, ↓NGff, ↓PGtt, ↓PGtf, ↓PGft, ↓PGff, ↓BGtt, ↓BGtf, ↓BGft, ↓BGff, ↓CGtt, ↓CGtf, ↓CGft, ↓CGff, ↓IGtt, ↓IGtf, ↓IGft, ↓IGff, ↓PKt, ↓PKf, ↓CDt, ↓CDf, ↓NOTt, ↓NOTf, ↓NK_ptr, ↓EQt (rfl : (0 : Int) = 0)]
    simp only [↓VG_u, ↓UG_u, ↓MG_u, ↓NG_u, ↓PG_u, ↓BG_u, ↓CG_u, ↓IG_u, ↓VGtt, ↓VGtf, ↓VGft, ↓VGff, ↓UGtt, ↓UGtf, ↓UGft, ↓UGff, ↓MGtt, ↓MGtf, ↓MGft, ↓MGff, ↓NGtt, ↓NGtf, ↓NGft, ↓NGff, ↓PGtt, ↓PGtf, ↓PGft, ↓PGff, ↓BGtt, ↓BGtf, ↓BGft, ↓BGff, ↓CGtt, ↓CGtf, ↓CGft, ↓CGff, ↓IGtt, ↓IGtf, ↓IGft, ↓IGff, ↓PKt, ↓PKf, ↓CDt, ↓CDf, ↓NOTt, ↓NOTf, ↓NK_ptr, ↓EQt (rfl : (6 : Int) = 6)]
    simp only [↓VG_u, ↓UG_u, ↓MG_u, ↓NG_u, ↓PG_u, ↓BG_u, ↓CG_u, ↓IG_u, ↓VGtt, ↓VGtf, ↓VGft, ↓VGff, ↓UGtt, ↓UGtf, ↓UGft, ↓UGff, ↓MGtt, ↓MGtf, ↓MGft, ↓MGff, ↓NGtt, ↓NGtf, ↓NGft, ↓NGff, ↓PGtt, ↓PGtf, ↓PGft, ↓PGff, ↓BGtt, ↓BGtf, ↓BGft, ↓BGff, ↓CGtt, ↓CGtf, ↓CGft, ↓CGff, ↓IGtt, ↓IGtf, ↓IGft, ↓IGff, ↓PKt, ↓PKf, ↓CDt, ↓CDf, ↓NOTt, ↓NOTf, ↓NK_ptr, ↓EQt (rfl : (0 : Int) = 0)]
    simp only [↓VG_u, ↓UG_u, ↓MG_u, ↓NG_u, ↓PG_u, ↓BG_u, ↓CG_u, ↓IG_u, ↓VGtt, ↓VGtf, ↓VGft, ↓VGff, ↓UGtt, ↓UGtf, ↓UGft, ↓UGff, ↓MGtt, ↓MGtf, ↓MGft, ↓MGff, ↓NGtt, ↓NGtf, ↓NGft, ↓NGff, ↓PGtt, ↓PGtf, ↓PGft, ↓PGff, ↓BGtt, ↓BGtf, ↓BGft, ↓BGff, ↓CGtt, ↓CGtf, ↓CGft, ↓CGff, ↓IGtt, ↓IGtf, ↓IGft, ↓IGff, ↓PKt, ↓PKf, ↓CDt, ↓CDf, ↓NOTt, ↓NOTf, ↓NK_ptr, ↓EQt (rfl : (1 : Int) = 1)]
    simp only [↓VG_u, ↓UG_u, ↓MG_u, ↓NG_u, ↓PG_u, ↓BG_u, ↓CG_u, ↓IG_u, ↓VGtt, ↓VGtf, ↓VGft, ↓VGff, ↓UGtt, ↓UGtf, ↓UGft, ↓UGff, ↓MGtt, ↓MGtf, ↓MGft, ↓MGff, ↓NGtt, ↓NGtf, ↓NGft, ↓NGff, ↓PGtt, ↓PGtf, ↓PGft, ↓PGff, ↓BGtt, ↓BGtf, ↓BGft, ↓BGff, ↓CGtt, ↓CGtf, ↓CGft, ↓CGff, ↓IGtt, ↓IGtf, ↓IGft, ↓IGff, ↓PKt, ↓PKf, ↓CDt, ↓CDf, ↓NOTt, ↓NOTf, ↓NK_ptr, ↓EQt (rfl : (0 : Int) = 0)]
    simp only [↓VG_u, ↓UG_u, ↓MG_u, ↓NG_u, ↓PG_u, ↓BG_u, ↓CG_u, ↓IG_u, ↓VGtt, ↓VGtf, ↓VGft, ↓VGff, ↓UGtt, ↓UGtf, ↓UGft, ↓UGff, ↓MGtt, ↓MGtf, ↓MGft, ↓MGff, ↓NGtt, ↓NGtf, ↓NGft, ↓NGff, ↓PGtt, ↓PGtf, ↓PGft, ↓PGff, ↓BGtt, ↓BGtf, ↓BGft, ↓BGff, ↓CGtt, ↓CGtf, ↓CGft, ↓CGff, ↓IGtt, ↓IGtf, ↓IGft, ↓IGff, ↓PKt, ↓PKf, ↓CDt, ↓CDf, ↓NOTt, ↓NOTf, ↓NK_ptr, ↓EQt (rfl : (90 : Int) = 90)]
    exact ⟨rfl, hm08.trans hm9⟩
  exact fin _ rfl rfl rfl rfl
end Go.Proofs.YtpkfbaagpjdifaaGreatDoor.Tr
set_option linter.unusedVariables false
set_option linter.unusedSimpArgs false
set_option maxRecDepth 4000
namespace Go.X
open Go Go.RowKit
theorem pairN_k {P : Program} {S : World → Prop} {w : World} {t : TypeId} {z : Value} {cs ds : Array Value} (hz0 : (P.info? t).bind (·.zero) = some z) (hi : (P.info? t).map (·.size) = some cs.size) (hd : ds.size = cs.size) (hsz : z.cells.size = cs.size) (h1 : cs.all (·.oneCell') = true) (h2 : ds.all (·.oneCell') = true)
    (hS : ∀ w', Mod none_ w w' → S w') {N N' : Value → Value → World → Prop}
    (hN : ∀ b c w', w.heap.size ≤ b → w.heap.size ≤ c → b ≠ c → w'.heap[b]? = some (.cells cs t (0, 0)) → w'.heap[c]? = some (.cells ds t (0, 0)) → Mod none_ w w' → N (.pointer (some ⟨b, 0, none⟩)) (.pointer (some ⟨c, 0, none⟩)) w' ∧ N' (.pointer (some ⟨b, 0, none⟩)) (.pointer (some ⟨c, 0, none⟩)) w') :
    (VK P (Instr.alloc t true (.tuple #[])) w fun x w => S w ∧ (VK P (Instr.alloc t true (.tuple #[])) w fun y w => S w ∧ (UK P (Instr.storeAt t x (.agg cs)) w fun _ w => S w ∧ (UK P (Instr.storeAt t y (.agg ds)) w fun _ w => S w ∧ N x y w)))) ∧
    (VK P (Instr.alloc t true (.tuple #[])) w fun y w => S w ∧ (VK P (Instr.alloc t true (.tuple #[])) w fun x w => S w ∧ (UK P (Instr.storeAt t x (.agg cs)) w fun _ w => S w ∧ (UK P (Instr.storeAt t y (.agg ds)) w fun _ w => S w ∧ N' x y w)))) := by
  constructor
  · refine al_k hz0 rfl _ fun w1 hb1 hm1 hz1 => ⟨hS _ hm1, ?_⟩
    refine al_k hz0 rfl _ fun w2 hb2 hm2 hz2 => ?_
    have hm02 := hm1.trans hm2
    have hb12 := hm2.blk hb1 id
    refine ⟨hS _ hm02, ?_⟩
    refine stS (cs := cs) rfl rfl hi hsz h1 hb12 fun w3 hb3 hm3 hz3 => ?_
    have hm03 := hm02.then hm3 fun i hi q => by omega
    have hb23 := hm3.blk hb2 (by omega)
    refine ⟨hS _ hm03, ?_⟩
    refine stS (cs := ds) rfl rfl (hd ▸ hi) (hsz.trans hd.symm) h2 hb23 fun w4 hb4 hm4 hz4 => ?_
    have hm04 := hm03.then hm4 fun i hi q => by omega
    exact ⟨hS _ hm04, (hN _ _ _ (Nat.le_refl _) (by omega) (by omega) (hm4.blk hb3 (by omega)) hb4 hm04).1⟩
  · refine al_k hz0 rfl _ fun w1 hb1 hm1 hz1 => ⟨hS _ hm1, ?_⟩
    refine al_k hz0 rfl _ fun w2 hb2 hm2 hz2 => ?_
    have hm02 := hm1.trans hm2
    have hb12 := hm2.blk hb1 id
    refine ⟨hS _ hm02, ?_⟩
    refine stS (cs := cs) rfl rfl hi hsz h1 hb2 fun w3 hb3 hm3 hz3 => ?_
    have hm03 := hm02.then hm3 fun i hi q => by omega
    have hb13 := hm3.blk hb12 (by omega)
    refine ⟨hS _ hm03, ?_⟩
    refine stS (cs := ds) rfl rfl (hd ▸ hi) (hsz.trans hd.symm) h2 hb13 fun w4 hb4 hm4 hz4 => ?_
    have hm04 := hm03.then hm4 fun i hi q => by omega
    exact ⟨hS _ hm04, (hN _ _ _ (by omega) (Nat.le_refl _) (by omega) (hm4.blk hb3 (by omega)) hb4 hm04).2⟩
end Go.X
namespace Go.Proofs.YtpkfbaagpjdifaaGreatDoor.Tr
open Go Go.X Go.RowKit Go.Proofs.YtpkfbaagpjdifaaGreatDoor.XL Go.Proofs.YtpkfbaagpjdifaaGreatDoor.XK
abbrev oneR (w0 : World) : Value → World → Prop := fun v w' => v = .bool true ∧ Mod none_ w0 w'
theorem BK_shl {P : Program} {w : World} {K : Value → World → Prop} {t : TypeId} {x y : Operand} {a n : Int} {k : IntKind} (h0 : 0 ≤ n) (h1 : n ≤ 64) : BK P .shl t x y (.int .i64 a) (.int k n) w K = K (.int .i64 (IntKind.i64.wrap (a * 2 ^ n.toNat))) w := by
  refine BK_of rfl ?_
  rw [binOp_shl, shift_shl_i64 k a n h0 h1]
  rfl
theorem cf_fo6 {w : World} {b : Nat} {e : Cf} {ty : TypeId} {fr : Nat × Nat} (hb : w.heap[b]? = some (.cells e.cells.toArray ty fr)) : FO Tryz.prog w 34 1 1 ⟨b, 0, none⟩ 3 (.int .i64 e.eager) ∧ FO Tryz.prog w 34 2 2 ⟨b, 0, none⟩ 4 (.bool e.loose) ∧ FO Tryz.prog w 34 3 3 ⟨b, 0, none⟩ 3 (.int .i64 e.polls) :=
  ⟨FO.blk hb (by kernel_rfl) uI rfl rfl, FO.blk hb (by kernel_rfl) uBl rfl rfl, FO.blk hb (by kernel_rfl) uI rfl rfl⟩
theorem enough_zero {p : Pr} {c : Cf} (h : (enoughP p c).2 = 0) : (runsP p c.ranks).2 = 0 ∧ (stepsP p c.ranks).2 = 0 ∧ enoughP p c = (⟨c.ranks, c.eager, c.loose, c.polls, (runsP p c.ranks).1, (stepsP p c.ranks).1⟩, 0) := by
  unfold enoughP at h ⊢
  by_cases h1 : (runsP p c.ranks).2 = 0
  · rw [if_neg (by omega)] at h ⊢
    by_cases h2 : (stepsP p c.ranks).2 = 0
    · rw [if_neg (by omega)]; exact ⟨h1, h2, rfl⟩
    · rw [if_pos h2] at h; exact absurd h h2
  · rw [if_pos h1] at h; exact absurd h h1
section
variable {w0 w : World} (hg : Gl w0) {p : Pr} (h : p.Ok w0) (hf : p.fits) {c : Cf} (he : (enoughP p c).2 = 0) (hm : Mod none_ w0 w) {b2 b5 : Nat} (hb2 : w.heap[b2]? = some (.cells p.cells.toArray 25 (0, 0))) (hb5 : w.heap[b5]? = some (.cells (enoughP p c).1.cells.toArray 34 (0, 0)))
include hg h hf he hm hb2 hb5
theorem one4 {b9 b10 : Nat} (h9 : w.heap[b9]? = some (.cells (enoughP p c).1.cells.toArray 34 (0, 0))) (h10 : w.heap[b10]? = some (.cells (enoughP p c).1.cells.toArray 34 (0, 0))) (l9 : w0.heap.size ≤ b9) (l10 : w0.heap.size ≤ b10) (n1 : b9 ≠ b10) (n2 : b2 ≠ b9) (n3 : b2 ≠ b10) (n4 : b5 ≠ b9) (n5 : b5 ≠ b10)
    {ρ : Sl} (r2 : ρ 2 = pt b2) (r5 : ρ 5 = pt b5) (r9 : ρ 9 = pt b9) (r10 : ρ 10 = pt b10) : sx fn_ Tryz.prog 132 dispatcherlaw30_LimitsOne_R4 (retK Tryz.prog [ResultVar.tmp 4] (oneR w0)) ρ w := by
  obtain ⟨hr0, hs0, hen⟩ := enough_zero he
  obtain ⟨_, _, _, _, _, _, hrb, hsb, _⟩ := one_parts hf hr0 hs0
  have hsb0 : c.ranks ≤ (stepsP p c.ranks).1 ∧ 1 ≤ c.ranks := ⟨(one_parts hf hr0 hs0).2.2.2.2.1, (one_parts hf hr0 hs0).2.1.1⟩
  obtain ⟨x, hx⟩ : ∃ x : Cf, x = ⟨c.ranks, c.eager, c.loose, c.polls, (runsP p c.ranks).1, (stepsP p c.ranks).1⟩ := ⟨_, rfl⟩
  have hx1 : (enoughP p c).1 = x := by rw [hen, hx]
  rw [hx1] at hb5 h9 h10
  have xr : x.runs = (runsP p c.ranks).1 := by rw [hx]
  have xs : x.steps = (stepsP p c.ranks).1 := by rw [hx]
  have xk : x.ranks = c.ranks := by rw [hx]
  rw [dispatcherlaw30_LimitsOne_R4_eq]
  unfold dispatcherlaw30_LimitsOne_R4_F
  rw [r2, r5, r9, r10]
  obtain ⟨f0, f4, f5⟩ := cf_fo h9
  simp only [↓f4.e]
  rw [BK_sub, wrap_i (by omega) (by omega), fo (off := 4) (by kernel_rfl), add_pl]
  refine stC (b := b9) (o := 0 + 4) rfl cI rfl h9 (by simp [Cf.cells]) fun w1 hb1 hm1 hz1 => ?_
  obtain ⟨g0, g4, g5⟩ := cf_fo (hm1.blk h10 (by omega))
  simp only [↓g5.e]
  rw [BK_sub, wrap_i (by omega) (by omega), fo (off := 5) (by kernel_rfl), add_pl]
  refine stC (b := b10) (o := 0 + 5) rfl cI rfl (hm1.blk h10 (by omega)) (by simp [Cf.cells]) fun w2 hb22 hm2 hz2 => ?_
  obtain ⟨less, hless⟩ : ∃ less : Cf, less = ⟨x.ranks, x.eager, x.loose, x.polls, x.runs - 1, x.steps⟩ := ⟨_, rfl⟩
  obtain ⟨fewer, hfewer⟩ : ∃ fewer : Cf, fewer = ⟨x.ranks, x.eager, x.loose, x.polls, x.runs, x.steps - 1⟩ := ⟨_, rfl⟩
  have e9 : x.cells.toArray.setIfInBounds (0 + 4) (.int .i64 (x.runs - 1)) = less.cells.toArray := by rw [hless]; rfl
  have e10 : x.cells.toArray.setIfInBounds (0 + 5) (.int .i64 (x.steps - 1)) = fewer.cells.toArray := by rw [hfewer]; rfl
  rw [e9] at hb1
  rw [e10] at hb22
  have hm02 : Mod none_ w0 w2 := (hm.then hm1 fun i hi q => by omega).then hm2 fun i hi q => by omega
  have hp2 := hm2.blk (hm1.blk hb2 (by omega)) (by omega)
  have h52 := hm2.blk (hm1.blk hb5 (by omega)) (by omega)
  have h92 := hm2.blk hb1 (by omega)
  have fx : fitsB p x = true := by
    unfold fitsB enoughP
    rw [xk, if_neg (by omega), if_neg (by omega)]
    exact decide_eq_true ⟨rfl, by show (runsP p c.ranks).1 ≤ x.runs; omega, by show (stepsP p c.ranks).1 ≤ x.steps; omega, by omega, by omega⟩
  have fl : fitsB p less = false := by
    unfold fitsB enoughP
    have k1 : less.ranks = c.ranks := by rw [hless]; exact xk
    have k2 : less.runs = x.runs - 1 := by rw [hless]
    rw [k1, if_neg (by omega), if_neg (by omega)]
    exact decide_eq_false fun q => by have : (runsP p c.ranks).1 ≤ less.runs := q.2.1; omega
  have ff : fitsB p fewer = false := by
    unfold fitsB enoughP
    have k1 : fewer.ranks = c.ranks := by rw [hfewer]; exact xk
    have k2 : fewer.steps = x.steps - 1 := by rw [hfewer]
    rw [k1, if_neg (by omega), if_neg (by omega)]
    exact decide_eq_false fun q => by have : (stepsP p c.ranks).1 ≤ fewer.steps := q.2.2.1; omega
  refine ldS (cs := p.cells.toArray) rfl Tryz.underlying25 rfl iPr hp2 ?_
  refine ldS (cs := x.cells.toArray) rfl Tryz.underlying34 rfl iCfg h52 ?_
  refine CK_st Tryz.func13 rfl rfl (Fits_ok (hg.mod hm02) (h.mod hm02) hf x) ?_
  rintro _ w3 ⟨rfl, hm3⟩
  rw [fx]
  try simp only [↓VG_u, ↓UG_u, ↓MG_u, ↓NG_u, ↓PG_u, ↓BG_u, ↓CG_u, ↓IG_u, ↓VGtt, ↓VGtf, ↓VGft, ↓VGff, ↓UGtt, ↓UGtf, ↓UGft, ↓UGff, ↓MGtt, ↓MGtf, ↓MGft, ↓MGff, ↓NGtt, ↓NGtf, ↓NGft, ↓NGff, ↓PGtt, ↓PGtf, ↓PGft, ↓PGff, ↓BGtt, ↓BGtf, ↓BGft, ↓BGff, ↓CGtt, ↓CGtf, ↓CGft, ↓CGff, ↓IGtt, ↓IGtf, ↓IGft, ↓IGff, ↓PKt, ↓PKf, ↓CDt, ↓CDf, ↓NOTt, ↓NOTf, ↓NK_ptr]
  refine ldS (cs := p.cells.toArray) rfl Tryz.underlying25 rfl iPr (hm3.blk hp2 id) ?_
  try simp only [↓VG_u, ↓UG_u, ↓MG_u, ↓NG_u, ↓PG_u, ↓BG_u, ↓CG_u, ↓IG_u, ↓VGtt, ↓VGtf, ↓VGft, ↓VGff, ↓UGtt, ↓UGtf, ↓UGft, ↓UGff, ↓MGtt, ↓MGtf, ↓MGft, ↓MGff, ↓NGtt, ↓NGtf, ↓NGft, ↓NGff, ↓PGtt, ↓PGtf, ↓PGft, ↓PGff, ↓BGtt, ↓BGtf, ↓BGft, ↓BGff, ↓CGtt, ↓CGtf, ↓CGft, ↓CGff, ↓IGtt, ↓IGtf, ↓IGft, ↓IGff, ↓PKt, ↓PKf, ↓CDt, ↓CDf, ↓NOTt, ↓NOTf, ↓NK_ptr]
  refine ldS (cs := less.cells.toArray) rfl Tryz.underlying34 rfl iCfg (hm3.blk h92 id) ?_
  try simp only [↓VG_u, ↓UG_u, ↓MG_u, ↓NG_u, ↓PG_u, ↓BG_u, ↓CG_u, ↓IG_u, ↓VGtt, ↓VGtf, ↓VGft, ↓VGff, ↓UGtt, ↓UGtf, ↓UGft, ↓UGff, ↓MGtt, ↓MGtf, ↓MGft, ↓MGff, ↓NGtt, ↓NGtf, ↓NGft, ↓NGff, ↓PGtt, ↓PGtf, ↓PGft, ↓PGff, ↓BGtt, ↓BGtf, ↓BGft, ↓BGff, ↓CGtt, ↓CGtf, ↓CGft, ↓CGff, ↓IGtt, ↓IGtf, ↓IGft, ↓IGff, ↓PKt, ↓PKf, ↓CDt, ↓CDf, ↓NOTt, ↓NOTf, ↓NK_ptr]
  have hm03 := hm02.trans hm3
  refine CK_st Tryz.func13 rfl rfl (Fits_ok (hg.mod hm03) (h.mod hm03) hf less) ?_
  rintro _ w4 ⟨rfl, hm4⟩
  rw [fl]
  try simp only [↓VG_u, ↓UG_u, ↓MG_u, ↓NG_u, ↓PG_u, ↓BG_u, ↓CG_u, ↓IG_u, ↓VGtt, ↓VGtf, ↓VGft, ↓VGff, ↓UGtt, ↓UGtf, ↓UGft, ↓UGff, ↓MGtt, ↓MGtf, ↓MGft, ↓MGff, ↓NGtt, ↓NGtf, ↓NGft, ↓NGff, ↓PGtt, ↓PGtf, ↓PGft, ↓PGff, ↓BGtt, ↓BGtf, ↓BGft, ↓BGff, ↓CGtt, ↓CGtf, ↓CGft, ↓CGff, ↓IGtt, ↓IGtf, ↓IGft, ↓IGff, ↓PKt, ↓PKf, ↓CDt, ↓CDf, ↓NOTt, ↓NOTf, ↓NK_ptr]
  have hm24 := hm3.trans hm4
  have hm04 := hm03.trans hm4
  refine ldS (cs := p.cells.toArray) rfl Tryz.underlying25 rfl iPr (hm24.blk hp2 id) ?_
  try simp only [↓VG_u, ↓UG_u, ↓MG_u, ↓NG_u, ↓PG_u, ↓BG_u, ↓CG_u, ↓IG_u, ↓VGtt, ↓VGtf, ↓VGft, ↓VGff, ↓UGtt, ↓UGtf, ↓UGft, ↓UGff, ↓MGtt, ↓MGtf, ↓MGft, ↓MGff, ↓NGtt, ↓NGtf, ↓NGft, ↓NGff, ↓PGtt, ↓PGtf, ↓PGft, ↓PGff, ↓BGtt, ↓BGtf, ↓BGft, ↓BGff, ↓CGtt, ↓CGtf, ↓CGft, ↓CGff, ↓IGtt, ↓IGtf, ↓IGft, ↓IGff, ↓PKt, ↓PKf, ↓CDt, ↓CDf, ↓NOTt, ↓NOTf, ↓NK_ptr]
  refine ldS (cs := fewer.cells.toArray) rfl Tryz.underlying34 rfl iCfg (hm24.blk hb22 id) ?_
  try simp only [↓VG_u, ↓UG_u, ↓MG_u, ↓NG_u, ↓PG_u, ↓BG_u, ↓CG_u, ↓IG_u, ↓VGtt, ↓VGtf, ↓VGft, ↓VGff, ↓UGtt, ↓UGtf, ↓UGft, ↓UGff, ↓MGtt, ↓MGtf, ↓MGft, ↓MGff, ↓NGtt, ↓NGtf, ↓NGft, ↓NGff, ↓PGtt, ↓PGtf, ↓PGft, ↓PGff, ↓BGtt, ↓BGtf, ↓BGft, ↓BGff, ↓CGtt, ↓CGtf, ↓CGft, ↓CGff, ↓IGtt, ↓IGtf, ↓IGft, ↓IGff, ↓PKt, ↓PKf, ↓CDt, ↓CDf, ↓NOTt, ↓NOTf, ↓NK_ptr]
  refine CK_st Tryz.func13 rfl rfl (Fits_ok (hg.mod hm04) (h.mod hm04) hf fewer) ?_
  rintro _ w5 ⟨rfl, hm5⟩
  rw [ff]
  try simp only [↓VG_u, ↓UG_u, ↓MG_u, ↓NG_u, ↓PG_u, ↓BG_u, ↓CG_u, ↓IG_u, ↓VGtt, ↓VGtf, ↓VGft, ↓VGff, ↓UGtt, ↓UGtf, ↓UGft, ↓UGff, ↓MGtt, ↓MGtf, ↓MGft, ↓MGff, ↓NGtt, ↓NGtf, ↓NGft, ↓NGff, ↓PGtt, ↓PGtf, ↓PGft, ↓PGff, ↓BGtt, ↓BGtf, ↓BGft, ↓BGff, ↓CGtt, ↓CGtf, ↓CGft, ↓CGff, ↓IGtt, ↓IGtf, ↓IGft, ↓IGff, ↓PKt, ↓PKf, ↓CDt, ↓CDf, ↓NOTt, ↓NOTf, ↓NK_ptr]
  first | exact ⟨rfl, hm04.trans hm5⟩ | exact ⟨trivial, hm04.trans hm5⟩
theorem one0 {b3 b7 : Nat} (hb3 : w.heap[b3]? = some (.cells c.cells.toArray 34 (0, 0))) (hb7 : w.heap[b7]? = some (.cells (ofP p c.ranks).1.cells.toArray 42 (0, 0)))
    {ρ : Sl} (r2 : ρ 2 = pt b2) (r3 : ρ 3 = pt b3) (r5 : ρ 5 = pt b5) (r7 : ρ 7 = pt b7) (r8 : ρ 8 = .int .i64 (ofP p c.ranks).2) : sx fn_ Tryz.prog 132 dispatcherlaw30_LimitsOne_R0 (retK Tryz.prog [ResultVar.tmp 4] (oneR w0)) ρ w := by
  obtain ⟨hr0, hs0, hen⟩ := enough_zero he
  obtain ⟨ho, hn, hd1, hd2, hs1, hs2, hrb, hsb, hd0⟩ := one_parts hf hr0 hs0
  have x1 : (enoughP p c).1.runs = (runsP p c.ranks).1 := by rw [hen]
  have x2 : (enoughP p c).1.steps = (stepsP p c.ranks).1 := by rw [hen]
  have x3 : (enoughP p c).1.ranks = c.ranks := by rw [hen]
  have x4 : (enoughP p c).1.eager = c.eager := by rw [hen]
  have x5 : (enoughP p c).1.loose = c.loose := by rw [hen]
  have x6 : (enoughP p c).1.polls = c.polls := by rw [hen]
  obtain ⟨f0, f4, f5⟩ := cf_fo hb5
  obtain ⟨f1, f2, f3⟩ := cf_fo6 hb5
  obtain ⟨g0, g4, g5⟩ := cf_fo hb3
  obtain ⟨g1, g2, g3⟩ := cf_fo6 hb3
  obtain ⟨d0, d1, d2⟩ := bd_fo hb7
  have rest : ∀ ρ : Sl, ρ 2 = pt b2 → ρ 5 = pt b5 → ρ 106 = .bool false → (sx fn_ Tryz.prog 132 dispatcherlaw30_LimitsOne_R1 (seqK (sx fn_ Tryz.prog 132 dispatcherlaw30_LimitsOne_R2 (retK Tryz.prog [ResultVar.tmp 4] (oneR w0))) (retK Tryz.prog [ResultVar.tmp 4] (oneR w0)))) ρ w := by
    intro ρ q2 q5 q106
    rw [dispatcherlaw30_LimitsOne_R1_eq]
    unfold dispatcherlaw30_LimitsOne_R1_F
    rw [q106]
    refine condF ?_
    rw [sq_n, dispatcherlaw30_LimitsOne_R2_eq]
    unfold dispatcherlaw30_LimitsOne_R2_F
    refine dispatcherlaw30_LimitsOne_R3_held (D := []) (fun w' => Mod none_ w w') ((Mod.refl _ w).drawn _) ?_
    unfold dispatcherlaw30_LimitsOne_R3_H
    rw [q5]
    refine HV_of (v := .agg (enoughP p c).1.cells.toArray) (fun w' hw => run_ldB (cs := (enoughP p c).1.cells.toArray) Tryz.underlying34 rfl iCfg (hw.blk hb5 id)) ?_
    refine HV_of (v := .agg (enoughP p c).1.cells.toArray) (fun w' hw => run_ldB (cs := (enoughP p c).1.cells.toArray) Tryz.underlying34 rfl iCfg (hw.blk hb5 id)) ?_
    have hmd : Mod none_ w { w with drawn := w.drawn + 1 } := (Mod.refl _ w).drawn _
    have l2 := X.blk_lt hb2
    have l5 := X.blk_lt hb5
    have hsm := hm.size
    refine pairN_k (S := fun w' => Mod none_ w w') (cs := (enoughP p c).1.cells.toArray) (ds := (enoughP p c).1.cells.toArray) zCfg iCfg rfl rfl (cf_one _) (cf_one _) (fun w' hw => hmd.trans hw) fun b c' w' hb hc hne h1 h2 hmw => ?_
    have hb : w.heap.size ≤ b := hb
    have hc : w.heap.size ≤ c' := hc
    have hmw2 := hmd.trans hmw
    have fin : ∀ ρ : Sl, ρ 2 = pt b2 → ρ 5 = pt b5 → ρ 9 = pt b → ρ 10 = pt c' → b ≠ c' → seqK (sx fn_ Tryz.prog 132 dispatcherlaw30_LimitsOne_R4 (retK Tryz.prog [ResultVar.tmp 4] (oneR w0))) (retK Tryz.prog [ResultVar.tmp 4] (oneR w0)) .normal ρ w' := by
      intro ρ a2 a5 a9 a10 hne
      rw [sq_n]
      exact one4 hg h hf he (hm.trans hmw2) (hmw2.blk hb2 id) (hmw2.blk hb5 id) h1 h2 (by omega) (by omega) hne (by omega) (by omega) (by omega) (by omega) a2 a5 a9 a10
    refine ⟨fin _ ?_ ?_ ?_ ?_ hne, fin _ ?_ ?_ ?_ ?_ hne⟩
    · exact q2
    · exact q5
    · rfl
    · rfl
    · exact q2
    · exact q5
    · rfl
    · rfl
  rw [dispatcherlaw30_LimitsOne_R0_eq]
  unfold dispatcherlaw30_LimitsOne_R0_F
  rw [r8, r7, r5, r3]
  have tail : True := trivial
  have nb : ∀ {x y : Operand} {K : Value → World → Prop} (t : Bool), BK Tryz.prog .neq 4 x y (.bool t) (.bool t) w K = K (.bool false) w := fun t => by rw [BK_neqB uBl, beq_self_eq_true, Bool.not_true]
  by_cases hd : (ofP p c.ranks).1.d = 0
  · have hr1 : (enoughP p c).1.runs = 1 := by rw [x1]; exact hd1.1 hd
    simp only [↓VG_u, ↓UG_u, ↓MG_u, ↓NG_u, ↓PG_u, ↓BG_u, ↓CG_u, ↓IG_u, ↓VGtt, ↓VGtf, ↓VGft, ↓VGff, ↓UGtt, ↓UGtf, ↓UGft, ↓UGff, ↓MGtt, ↓MGtf, ↓MGft, ↓MGff, ↓NGtt, ↓NGtf, ↓NGft, ↓NGff, ↓PGtt, ↓PGtf, ↓PGft, ↓PGff, ↓BGtt, ↓BGtf, ↓BGft, ↓BGff, ↓CGtt, ↓CGtf, ↓CGft, ↓CGff, ↓IGtt, ↓IGtf, ↓IGft, ↓IGff, ↓PKt, ↓PKf, ↓CDt, ↓CDf, ↓NOTt, ↓NOTf, ↓NK_ptr, ↓NEf ho, ↓d2.e, ↓EQt hd, ↓f4.e, ↓EQt hr1, ↓nb]
    simp only [↓VG_u, ↓UG_u, ↓MG_u, ↓NG_u, ↓PG_u, ↓BG_u, ↓CG_u, ↓IG_u, ↓VGtt, ↓VGtf, ↓VGft, ↓VGff, ↓UGtt, ↓UGtf, ↓UGft, ↓UGff, ↓MGtt, ↓MGtf, ↓MGft, ↓MGff, ↓NGtt, ↓NGtf, ↓NGft, ↓NGff, ↓PGtt, ↓PGtf, ↓PGft, ↓PGff, ↓BGtt, ↓BGtf, ↓BGft, ↓BGff, ↓CGtt, ↓CGtf, ↓CGft, ↓CGff, ↓IGtt, ↓IGtf, ↓IGft, ↓IGff, ↓PKt, ↓PKf, ↓CDt, ↓CDf, ↓NOTt, ↓NOTf, ↓NK_ptr, ↓d2.e, ↓GTf (show (ofP p c.ranks).1.d ≤ 0 by omega)]
    simp only [↓VG_u, ↓UG_u, ↓MG_u, ↓NG_u, ↓PG_u, ↓BG_u, ↓CG_u, ↓IG_u, ↓VGtt, ↓VGtf, ↓VGft, ↓VGff, ↓UGtt, ↓UGtf, ↓UGft, ↓UGff, ↓MGtt, ↓MGtf, ↓MGft, ↓MGff, ↓NGtt, ↓NGtf, ↓NGft, ↓NGff, ↓PGtt, ↓PGtf, ↓PGft, ↓PGff, ↓BGtt, ↓BGtf, ↓BGft, ↓BGff, ↓CGtt, ↓CGtf, ↓CGft, ↓CGff, ↓IGtt, ↓IGtf, ↓IGft, ↓IGff, ↓PKt, ↓PKf, ↓CDt, ↓CDf, ↓NOTt, ↓NOTf, ↓NK_ptr, ↓f5.e, ↓g0.e, ↓LTf (show c.ranks ≤ (enoughP p c).1.steps by omega)]
    simp only [↓VG_u, ↓UG_u, ↓MG_u, ↓NG_u, ↓PG_u, ↓BG_u, ↓CG_u, ↓IG_u, ↓VGtt, ↓VGtf, ↓VGft, ↓VGff, ↓UGtt, ↓UGtf, ↓UGft, ↓UGff, ↓MGtt, ↓MGtf, ↓MGft, ↓MGff, ↓NGtt, ↓NGtf, ↓NGft, ↓NGff, ↓PGtt, ↓PGtf, ↓PGft, ↓PGff, ↓BGtt, ↓BGtf, ↓BGft, ↓BGff, ↓CGtt, ↓CGtf, ↓CGft, ↓CGff, ↓IGtt, ↓IGtf, ↓IGft, ↓IGff, ↓PKt, ↓PKf, ↓CDt, ↓CDf, ↓NOTt, ↓NOTf, ↓NK_ptr, ↓f5.e, ↓d0.e, ↓LTf (show (ofP p c.ranks).1.s ≤ (enoughP p c).1.steps by omega)]
    simp only [↓VG_u, ↓UG_u, ↓MG_u, ↓NG_u, ↓PG_u, ↓BG_u, ↓CG_u, ↓IG_u, ↓VGtt, ↓VGtf, ↓VGft, ↓VGff, ↓UGtt, ↓UGtf, ↓UGft, ↓UGff, ↓MGtt, ↓MGtf, ↓MGft, ↓MGff, ↓NGtt, ↓NGtf, ↓NGft, ↓NGff, ↓PGtt, ↓PGtf, ↓PGft, ↓PGff, ↓BGtt, ↓BGtf, ↓BGft, ↓BGff, ↓CGtt, ↓CGtf, ↓CGft, ↓CGff, ↓IGtt, ↓IGtf, ↓IGft, ↓IGff, ↓PKt, ↓PKf, ↓CDt, ↓CDf, ↓NOTt, ↓NOTf, ↓NK_ptr, ↓f0.e, ↓g0.e, ↓NEf x3]
    simp only [↓VG_u, ↓UG_u, ↓MG_u, ↓NG_u, ↓PG_u, ↓BG_u, ↓CG_u, ↓IG_u, ↓VGtt, ↓VGtf, ↓VGft, ↓VGff, ↓UGtt, ↓UGtf, ↓UGft, ↓UGff, ↓MGtt, ↓MGtf, ↓MGft, ↓MGff, ↓NGtt, ↓NGtf, ↓NGft, ↓NGff, ↓PGtt, ↓PGtf, ↓PGft, ↓PGff, ↓BGtt, ↓BGtf, ↓BGft, ↓BGff, ↓CGtt, ↓CGtf, ↓CGft, ↓CGff, ↓IGtt, ↓IGtf, ↓IGft, ↓IGff, ↓PKt, ↓PKf, ↓CDt, ↓CDf, ↓NOTt, ↓NOTf, ↓NK_ptr, ↓f1.e, ↓g1.e, ↓NEf x4]
    simp only [↓VG_u, ↓UG_u, ↓MG_u, ↓NG_u, ↓PG_u, ↓BG_u, ↓CG_u, ↓IG_u, ↓VGtt, ↓VGtf, ↓VGft, ↓VGff, ↓UGtt, ↓UGtf, ↓UGft, ↓UGff, ↓MGtt, ↓MGtf, ↓MGft, ↓MGff, ↓NGtt, ↓NGtf, ↓NGft, ↓NGff, ↓PGtt, ↓PGtf, ↓PGft, ↓PGff, ↓BGtt, ↓BGtf, ↓BGft, ↓BGff, ↓CGtt, ↓CGtf, ↓CGft, ↓CGff, ↓IGtt, ↓IGtf, ↓IGft, ↓IGff, ↓PKt, ↓PKf, ↓CDt, ↓CDf, ↓NOTt, ↓NOTf, ↓NK_ptr, ↓f3.e, ↓g3.e, ↓NEf x6]
    simp only [↓VG_u, ↓UG_u, ↓MG_u, ↓NG_u, ↓PG_u, ↓BG_u, ↓CG_u, ↓IG_u, ↓VGtt, ↓VGtf, ↓VGft, ↓VGff, ↓UGtt, ↓UGtf, ↓UGft, ↓UGff, ↓MGtt, ↓MGtf, ↓MGft, ↓MGff, ↓NGtt, ↓NGtf, ↓NGft, ↓NGff, ↓PGtt, ↓PGtf, ↓PGft, ↓PGff, ↓BGtt, ↓BGtf, ↓BGft, ↓BGff, ↓CGtt, ↓CGtf, ↓CGft, ↓CGff, ↓IGtt, ↓IGtf, ↓IGft, ↓IGff, ↓PKt, ↓PKf, ↓CDt, ↓CDf, ↓NOTt, ↓NOTf, ↓NK_ptr, ↓f2.e, ↓g2.e]
    rw [x5, nb]
    try simp only [↓VG_u, ↓UG_u, ↓MG_u, ↓NG_u, ↓PG_u, ↓BG_u, ↓CG_u, ↓IG_u, ↓VGtt, ↓VGtf, ↓VGft, ↓VGff, ↓UGtt, ↓UGtf, ↓UGft, ↓UGff, ↓MGtt, ↓MGtf, ↓MGft, ↓MGff, ↓NGtt, ↓NGtf, ↓NGft, ↓NGff, ↓PGtt, ↓PGtf, ↓PGft, ↓PGff, ↓BGtt, ↓BGtf, ↓BGft, ↓BGff, ↓CGtt, ↓CGtf, ↓CGft, ↓CGff, ↓IGtt, ↓IGtf, ↓IGft, ↓IGff, ↓PKt, ↓PKf, ↓CDt, ↓CDf, ↓NOTt, ↓NOTf, ↓NK_ptr]
    refine rest _ ?_ ?_ ?_
    · exact r2
    · exact r5
    · rfl
  · have hr1 : (enoughP p c).1.runs ≠ 1 := by rw [x1]; exact fun q => hd (hd1.2 q)
    have hdp : 0 < (ofP p c.ranks).1.d := by omega
    obtain ⟨hn16, hpow⟩ := hd2 hdp
    simp only [↓VG_u, ↓UG_u, ↓MG_u, ↓NG_u, ↓PG_u, ↓BG_u, ↓CG_u, ↓IG_u, ↓VGtt, ↓VGtf, ↓VGft, ↓VGff, ↓UGtt, ↓UGtf, ↓UGft, ↓UGff, ↓MGtt, ↓MGtf, ↓MGft, ↓MGff, ↓NGtt, ↓NGtf, ↓NGft, ↓NGff, ↓PGtt, ↓PGtf, ↓PGft, ↓PGff, ↓BGtt, ↓BGtf, ↓BGft, ↓BGff, ↓CGtt, ↓CGtf, ↓CGft, ↓CGff, ↓IGtt, ↓IGtf, ↓IGft, ↓IGff, ↓PKt, ↓PKf, ↓CDt, ↓CDf, ↓NOTt, ↓NOTf, ↓NK_ptr, ↓NEf ho, ↓d2.e, ↓EQf hd, ↓f4.e, ↓EQf hr1, ↓nb]
    simp only [↓VG_u, ↓UG_u, ↓MG_u, ↓NG_u, ↓PG_u, ↓BG_u, ↓CG_u, ↓IG_u, ↓VGtt, ↓VGtf, ↓VGft, ↓VGff, ↓UGtt, ↓UGtf, ↓UGft, ↓UGff, ↓MGtt, ↓MGtf, ↓MGft, ↓MGff, ↓NGtt, ↓NGtf, ↓NGft, ↓NGff, ↓PGtt, ↓PGtf, ↓PGft, ↓PGff, ↓BGtt, ↓BGtf, ↓BGft, ↓BGff, ↓CGtt, ↓CGtf, ↓CGft, ↓CGff, ↓IGtt, ↓IGtf, ↓IGft, ↓IGff, ↓PKt, ↓PKf, ↓CDt, ↓CDf, ↓NOTt, ↓NOTf, ↓NK_ptr, ↓d2.e, ↓GTt hdp]
    simp only [↓VG_u, ↓UG_u, ↓MG_u, ↓NG_u, ↓PG_u, ↓BG_u, ↓CG_u, ↓IG_u, ↓VGtt, ↓VGtf, ↓VGft, ↓VGff, ↓UGtt, ↓UGtf, ↓UGft, ↓UGff, ↓MGtt, ↓MGtf, ↓MGft, ↓MGff, ↓NGtt, ↓NGtf, ↓NGft, ↓NGff, ↓PGtt, ↓PGtf, ↓PGft, ↓PGff, ↓BGtt, ↓BGtf, ↓BGft, ↓BGff, ↓CGtt, ↓CGtf, ↓CGft, ↓CGff, ↓IGtt, ↓IGtf, ↓IGft, ↓IGff, ↓PKt, ↓PKf, ↓CDt, ↓CDf, ↓NOTt, ↓NOTf, ↓NK_ptr, ↓f4.e, ↓g0.e]
    rw [min_i]
    have hmin : (if (20 : Int) < c.ranks then 20 else c.ranks) = c.ranks := by rw [if_neg (by omega)]
    rw [hmin]
    try simp only [↓VG_u, ↓UG_u, ↓MG_u, ↓NG_u, ↓PG_u, ↓BG_u, ↓CG_u, ↓IG_u, ↓VGtt, ↓VGtf, ↓VGft, ↓VGff, ↓UGtt, ↓UGtf, ↓UGft, ↓UGff, ↓MGtt, ↓MGtf, ↓MGft, ↓MGff, ↓NGtt, ↓NGtf, ↓NGft, ↓NGff, ↓PGtt, ↓PGtf, ↓PGft, ↓PGff, ↓BGtt, ↓BGtf, ↓BGft, ↓BGff, ↓CGtt, ↓CGtf, ↓CGft, ↓CGff, ↓IGtt, ↓IGtf, ↓IGft, ↓IGff, ↓PKt, ↓PKf, ↓CDt, ↓CDf, ↓NOTt, ↓NOTf, ↓NK_ptr]
    rw [conv_i (k := .u64) (by kernel_rfl) (by kernel_rfl), show IntKind.u64.wrap c.ranks = c.ranks by rw [IntKind.wrap_u64]; omega]
    try simp only [↓VG_u, ↓UG_u, ↓MG_u, ↓NG_u, ↓PG_u, ↓BG_u, ↓CG_u, ↓IG_u, ↓VGtt, ↓VGtf, ↓VGft, ↓VGff, ↓UGtt, ↓UGtf, ↓UGft, ↓UGff, ↓MGtt, ↓MGtf, ↓MGft, ↓MGff, ↓NGtt, ↓NGtf, ↓NGft, ↓NGff, ↓PGtt, ↓PGtf, ↓PGft, ↓PGff, ↓BGtt, ↓BGtf, ↓BGft, ↓BGff, ↓CGtt, ↓CGtf, ↓CGft, ↓CGff, ↓IGtt, ↓IGtf, ↓IGft, ↓IGff, ↓PKt, ↓PKf, ↓CDt, ↓CDf, ↓NOTt, ↓NOTf, ↓NK_ptr]
    rw [BK_shl (by omega) (by omega), Int.one_mul]
    have hp2 : 0 ≤ (2 : Int) ^ c.ranks.toNat := Int.pow_nonneg (by omega)
    rw [wrap_i (n := (2 : Int) ^ c.ranks.toNat) (by omega) (by omega)]
    simp only [↓VG_u, ↓UG_u, ↓MG_u, ↓NG_u, ↓PG_u, ↓BG_u, ↓CG_u, ↓IG_u, ↓VGtt, ↓VGtf, ↓VGft, ↓VGff, ↓UGtt, ↓UGtf, ↓UGft, ↓UGff, ↓MGtt, ↓MGtf, ↓MGft, ↓MGff, ↓NGtt, ↓NGtf, ↓NGft, ↓NGff, ↓PGtt, ↓PGtf, ↓PGft, ↓PGff, ↓BGtt, ↓BGtf, ↓BGft, ↓BGff, ↓CGtt, ↓CGtf, ↓CGft, ↓CGff, ↓IGtt, ↓IGtf, ↓IGft, ↓IGff, ↓PKt, ↓PKf, ↓CDt, ↓CDf, ↓NOTt, ↓NOTf, ↓NK_ptr, ↓LTf (show (2 : Int) ^ c.ranks.toNat ≤ (enoughP p c).1.runs by omega)]
    simp only [↓VG_u, ↓UG_u, ↓MG_u, ↓NG_u, ↓PG_u, ↓BG_u, ↓CG_u, ↓IG_u, ↓VGtt, ↓VGtf, ↓VGft, ↓VGff, ↓UGtt, ↓UGtf, ↓UGft, ↓UGff, ↓MGtt, ↓MGtf, ↓MGft, ↓MGff, ↓NGtt, ↓NGtf, ↓NGft, ↓NGff, ↓PGtt, ↓PGtf, ↓PGft, ↓PGff, ↓BGtt, ↓BGtf, ↓BGft, ↓BGff, ↓CGtt, ↓CGtf, ↓CGft, ↓CGff, ↓IGtt, ↓IGtf, ↓IGft, ↓IGff, ↓PKt, ↓PKf, ↓CDt, ↓CDf, ↓NOTt, ↓NOTf, ↓NK_ptr, ↓f5.e, ↓g0.e, ↓LTf (show c.ranks ≤ (enoughP p c).1.steps by omega)]
    simp only [↓VG_u, ↓UG_u, ↓MG_u, ↓NG_u, ↓PG_u, ↓BG_u, ↓CG_u, ↓IG_u, ↓VGtt, ↓VGtf, ↓VGft, ↓VGff, ↓UGtt, ↓UGtf, ↓UGft, ↓UGff, ↓MGtt, ↓MGtf, ↓MGft, ↓MGff, ↓NGtt, ↓NGtf, ↓NGft, ↓NGff, ↓PGtt, ↓PGtf, ↓PGft, ↓PGff, ↓BGtt, ↓BGtf, ↓BGft, ↓BGff, ↓CGtt, ↓CGtf, ↓CGft, ↓CGff, ↓IGtt, ↓IGtf, ↓IGft, ↓IGff, ↓PKt, ↓PKf, ↓CDt, ↓CDf, ↓NOTt, ↓NOTf, ↓NK_ptr, ↓f5.e, ↓d0.e, ↓LTf (show (ofP p c.ranks).1.s ≤ (enoughP p c).1.steps by omega)]
    simp only [↓VG_u, ↓UG_u, ↓MG_u, ↓NG_u, ↓PG_u, ↓BG_u, ↓CG_u, ↓IG_u, ↓VGtt, ↓VGtf, ↓VGft, ↓VGff, ↓UGtt, ↓UGtf, ↓UGft, ↓UGff, ↓MGtt, ↓MGtf, ↓MGft, ↓MGff, ↓NGtt, ↓NGtf, ↓NGft, ↓NGff, ↓PGtt, ↓PGtf, ↓PGft, ↓PGff, ↓BGtt, ↓BGtf, ↓BGft, ↓BGff, ↓CGtt, ↓CGtf, ↓CGft, ↓CGff, ↓IGtt, ↓IGtf, ↓IGft, ↓IGff, ↓PKt, ↓PKf, ↓CDt, ↓CDf, ↓NOTt, ↓NOTf, ↓NK_ptr, ↓f0.e, ↓g0.e, ↓NEf x3]
    simp only [↓VG_u, ↓UG_u, ↓MG_u, ↓NG_u, ↓PG_u, ↓BG_u, ↓CG_u, ↓IG_u, ↓VGtt, ↓VGtf, ↓VGft, ↓VGff, ↓UGtt, ↓UGtf, ↓UGft, ↓UGff, ↓MGtt, ↓MGtf, ↓MGft, ↓MGff, ↓NGtt, ↓NGtf, ↓NGft, ↓NGff, ↓PGtt, ↓PGtf, ↓PGft, ↓PGff, ↓BGtt, ↓BGtf, ↓BGft, ↓BGff, ↓CGtt, ↓CGtf, ↓CGft, ↓CGff, ↓IGtt, ↓IGtf, ↓IGft, ↓IGff, ↓PKt, ↓PKf, ↓CDt, ↓CDf, ↓NOTt, ↓NOTf, ↓NK_ptr, ↓f1.e, ↓g1.e, ↓NEf x4]
    simp only [↓VG_u, ↓UG_u, ↓MG_u, ↓NG_u, ↓PG_u, ↓BG_u, ↓CG_u, ↓IG_u, ↓VGtt, ↓VGtf, ↓VGft, ↓VGff, ↓UGtt, ↓UGtf, ↓UGft, ↓UGff, ↓MGtt, ↓MGtf, ↓MGft, ↓MGff, ↓NGtt, ↓NGtf, ↓NGft, ↓NGff, ↓PGtt, ↓PGtf, ↓PGft, ↓PGff, ↓BGtt, ↓BGtf, ↓BGft, ↓BGff, ↓CGtt, ↓CGtf, ↓CGft, ↓CGff, ↓IGtt, ↓IGtf, ↓IGft, ↓IGff, ↓PKt, ↓PKf, ↓CDt, ↓CDf, ↓NOTt, ↓NOTf, ↓NK_ptr, ↓f3.e, ↓g3.e, ↓NEf x6]
    simp only [↓VG_u, ↓UG_u, ↓MG_u, ↓NG_u, ↓PG_u, ↓BG_u, ↓CG_u, ↓IG_u, ↓VGtt, ↓VGtf, ↓VGft, ↓VGff, ↓UGtt, ↓UGtf, ↓UGft, ↓UGff, ↓MGtt, ↓MGtf, ↓MGft, ↓MGff, ↓NGtt, ↓NGtf, ↓NGft, ↓NGff, ↓PGtt, ↓PGtf, ↓PGft, ↓PGff, ↓BGtt, ↓BGtf, ↓BGft, ↓BGff, ↓CGtt, ↓CGtf, ↓CGft, ↓CGff, ↓IGtt, ↓IGtf, ↓IGft, ↓IGff, ↓PKt, ↓PKf, ↓CDt, ↓CDf, ↓NOTt, ↓NOTf, ↓NK_ptr, ↓f2.e, ↓g2.e]
    rw [x5, nb]
    try simp only [↓VG_u, ↓UG_u, ↓MG_u, ↓NG_u, ↓PG_u, ↓BG_u, ↓CG_u, ↓IG_u, ↓VGtt, ↓VGtf, ↓VGft, ↓VGff, ↓UGtt, ↓UGtf, ↓UGft, ↓UGff, ↓MGtt, ↓MGtf, ↓MGft, ↓MGff, ↓NGtt, ↓NGtf, ↓NGft, ↓NGff, ↓PGtt, ↓PGtf, ↓PGft, ↓PGff, ↓BGtt, ↓BGtf, ↓BGft, ↓BGff, ↓CGtt, ↓CGtf, ↓CGft, ↓CGff, ↓IGtt, ↓IGtf, ↓IGft, ↓IGff, ↓PKt, ↓PKf, ↓CDt, ↓CDf, ↓NOTt, ↓NOTf, ↓NK_ptr]
    refine rest _ ?_ ?_ ?_
    · exact r2
    · exact r5
    · rfl
end
theorem LimitsOne_ok {w : World} (hg : Gl w) {p : Pr} (h : p.Ok w) (hf : p.fits) (c : Cf) : Rt Tryz.prog 5 #[.agg p.cells.toArray, .agg c.cells.toArray] w fun v w' => v = .bool true ∧ Mod none_ w w' := by
  refine dispatcherlaw30_LimitsOne_calls ?_
  unfold dispatcherlaw30_LimitsOne_F
  refine box_k (cs := p.cells.toArray) rfl fun w1 hb1 hm1 hz1 => ?_
  refine box_k (cs := c.cells.toArray) rfl fun w2 hb2 hm2 hz2 => ?_
  have hb12 := hm2.blk hb1 id
  have hm02 := hm1.trans hm2
  generalize hx2 : w.heap.size = b2 at *
  generalize hx3 : w1.heap.size = b3 at *
  refine CK_st Tryz.func15 rfl rfl (awake30_ok (hg.mod hm02)) ?_
  rintro _ w3 ⟨rfl, hm3⟩
  have hm03 := hm02.trans hm3
  have hb13 := hm3.blk hb12 id
  have hb23 := hm3.blk hb2 id
  simp only [↓VG_u, ↓UG_u, ↓MG_u, ↓NG_u, ↓PG_u, ↓BG_u, ↓CG_u, ↓IG_u, ↓VGtt, ↓VGtf, ↓VGft, ↓VGff, ↓UGtt, ↓UGtf, ↓UGft, ↓UGff, ↓MGtt, ↓MGtf, ↓MGft, ↓MGff, ↓NGtt, ↓NGtf, ↓NGft, ↓NGff, ↓PGtt, ↓PGtf, ↓PGft, ↓PGff, ↓BGtt, ↓BGtf, ↓BGft, ↓BGff, ↓CGtt, ↓CGtf, ↓CGft, ↓CGff, ↓IGtt, ↓IGtf, ↓IGft, ↓IGff, ↓PKt, ↓PKf, ↓CDt, ↓CDf, ↓NOTt, ↓NOTf, ↓NK_ptr]
  refine ldB (cs := p.cells.toArray) Tryz.underlying25 rfl iPr hb13 ?_
  refine CK_st Tryz.func6 rfl rfl (Great_ok (h.mod hm03) hf) ?_
  rintro _ w4 ⟨rfl, hm4⟩
  have hm04 := hm03.trans hm4
  have hb14 := hm4.blk hb13 id
  have hb24 := hm4.blk hb23 id
  cases hgr : p.great with
  | true => exact condT (by first | exact ⟨rfl, hm04⟩ | exact ⟨trivial, hm04⟩)
  | false =>
  refine condF ?_
  refine ldB (cs := p.cells.toArray) Tryz.underlying25 rfl iPr hb14 ?_
  refine ldB (cs := c.cells.toArray) Tryz.underlying34 rfl iCfg hb24 ?_
  refine CK_st Tryz.func11 rfl rfl (Enough_ok (hg.mod hm04) (h.mod hm04) hf c) ?_
  rintro _ w5 ⟨rfl, hm5⟩
  rw [extract_ok (v := (enoughP p c).1.v) rfl, extract_ok (v := .int .i64 (enoughP p c).2) rfl]
  refine lcl_k (cs := (enoughP p c).1.cells.toArray) zCfg _ iCfg rfl (cf_one _) fun w6 hb6 hm6 hz6 => ?_
  have hm46 := hm5.trans hm6
  have hm06 := hm04.trans hm46
  have hb16 := hm46.blk hb14 id
  have hb26 := hm46.blk hb24 id
  generalize hx5 : w5.heap.size = b5 at *
  by_cases he : (enoughP p c).2 = 0
  · simp only [↓VG_u, ↓UG_u, ↓MG_u, ↓NG_u, ↓PG_u, ↓BG_u, ↓CG_u, ↓IG_u, ↓VGtt, ↓VGtf, ↓VGft, ↓VGff, ↓UGtt, ↓UGtf, ↓UGft, ↓UGff, ↓MGtt, ↓MGtf, ↓MGft, ↓MGff, ↓NGtt, ↓NGtf, ↓NGft, ↓NGff, ↓PGtt, ↓PGtf, ↓PGft, ↓PGff, ↓BGtt, ↓BGtf, ↓BGft, ↓BGff, ↓CGtt, ↓CGtf, ↓CGft, ↓CGff, ↓IGtt, ↓IGtf, ↓IGft, ↓IGff, ↓PKt, ↓PKf, ↓CDt, ↓CDf, ↓NOTt, ↓NOTf, ↓NK_ptr, ↓NEf he]
    obtain ⟨hr0, hs0, hen⟩ := enough_zero he
    refine ldB (cs := p.cells.toArray) Tryz.underlying25 rfl iPr hb16 ?_
    obtain ⟨g0, g4, g5⟩ := cf_fo hb26
    simp only [↓g0.e]
    refine CK_st Tryz.func16 rfl rfl (Of_ok (hg.mod hm06) (h.mod hm06) hf c.ranks) ?_
    rintro _ w7 ⟨rfl, hm7⟩
    rw [extract_ok (v := (ofP p c.ranks).1.v) rfl, extract_ok (v := .int .i64 (ofP p c.ranks).2) rfl]
    refine lcl_k (cs := (ofP p c.ranks).1.cells.toArray) zBnd _ iBnd rfl (bd_one _) fun w8 hb8 hm8 hz8 => ?_
    have hm68 := hm7.trans hm8
    exact one0 hg h hf he (hm06.trans hm68) (hm68.blk hb16 id) (hm68.blk hb6 id) (hm68.blk hb26 id) hb8 rfl rfl rfl rfl rfl
  · simp only [↓VG_u, ↓UG_u, ↓MG_u, ↓NG_u, ↓PG_u, ↓BG_u, ↓CG_u, ↓IG_u, ↓VGtt, ↓VGtf, ↓VGft, ↓VGff, ↓UGtt, ↓UGtf, ↓UGft, ↓UGff, ↓MGtt, ↓MGtf, ↓MGft, ↓MGff, ↓NGtt, ↓NGtf, ↓NGft, ↓NGff, ↓PGtt, ↓PGtf, ↓PGft, ↓PGff, ↓BGtt, ↓BGtf, ↓BGft, ↓BGff, ↓CGtt, ↓CGtf, ↓CGft, ↓CGff, ↓IGtt, ↓IGtf, ↓IGft, ↓IGff, ↓PKt, ↓PKf, ↓CDt, ↓CDf, ↓NOTt, ↓NOTf, ↓NK_ptr, ↓NEt he]
    have hz : (enoughP p c).1 = zCf := by
      unfold enoughP at he ⊢
      split
      · rfl
      · rename_i q
        rw [if_neg q] at he
        split
        · rfl
        · rename_i q2
          rw [if_neg q2] at he
          exact absurd rfl he
    have hfb : fitsB p c = false := by unfold fitsB; exact decide_eq_false fun q => he q.1
    refine ldS (cs := (enoughP p c).1.cells.toArray) rfl Tryz.underlying34 rfl iCfg hb6 ?_
    rw [build_ok bCfg, hz, show Value.agg zCf.cells.toArray = zCf.v from rfl, BK_CfE, decide_eq_true rfl]
    try simp only [↓VG_u, ↓UG_u, ↓MG_u, ↓NG_u, ↓PG_u, ↓BG_u, ↓CG_u, ↓IG_u, ↓VGtt, ↓VGtf, ↓VGft, ↓VGff, ↓UGtt, ↓UGtf, ↓UGft, ↓UGff, ↓MGtt, ↓MGtf, ↓MGft, ↓MGff, ↓NGtt, ↓NGtf, ↓NGft, ↓NGff, ↓PGtt, ↓PGtf, ↓PGft, ↓PGff, ↓BGtt, ↓BGtf, ↓BGft, ↓BGff, ↓CGtt, ↓CGtf, ↓CGft, ↓CGff, ↓IGtt, ↓IGtf, ↓IGft, ↓IGff, ↓PKt, ↓PKf, ↓CDt, ↓CDf, ↓NOTt, ↓NOTf, ↓NK_ptr]
    refine ldS (cs := p.cells.toArray) rfl Tryz.underlying25 rfl iPr hb16 ?_
    try simp only [↓VG_u, ↓UG_u, ↓MG_u, ↓NG_u, ↓PG_u, ↓BG_u, ↓CG_u, ↓IG_u, ↓VGtt, ↓VGtf, ↓VGft, ↓VGff, ↓UGtt, ↓UGtf, ↓UGft, ↓UGff, ↓MGtt, ↓MGtf, ↓MGft, ↓MGff, ↓NGtt, ↓NGtf, ↓NGft, ↓NGff, ↓PGtt, ↓PGtf, ↓PGft, ↓PGff, ↓BGtt, ↓BGtf, ↓BGft, ↓BGff, ↓CGtt, ↓CGtf, ↓CGft, ↓CGff, ↓IGtt, ↓IGtf, ↓IGft, ↓IGff, ↓PKt, ↓PKf, ↓CDt, ↓CDf, ↓NOTt, ↓NOTf, ↓NK_ptr]
    refine ldS (cs := c.cells.toArray) rfl Tryz.underlying34 rfl iCfg hb26 ?_
    try simp only [↓VG_u, ↓UG_u, ↓MG_u, ↓NG_u, ↓PG_u, ↓BG_u, ↓CG_u, ↓IG_u, ↓VGtt, ↓VGtf, ↓VGft, ↓VGff, ↓UGtt, ↓UGtf, ↓UGft, ↓UGff, ↓MGtt, ↓MGtf, ↓MGft, ↓MGff, ↓NGtt, ↓NGtf, ↓NGft, ↓NGff, ↓PGtt, ↓PGtf, ↓PGft, ↓PGff, ↓BGtt, ↓BGtf, ↓BGft, ↓BGff, ↓CGtt, ↓CGtf, ↓CGft, ↓CGff, ↓IGtt, ↓IGtf, ↓IGft, ↓IGff, ↓PKt, ↓PKf, ↓CDt, ↓CDf, ↓NOTt, ↓NOTf, ↓NK_ptr]
    refine CK_st Tryz.func13 rfl rfl (Fits_ok (hg.mod hm06) (h.mod hm06) hf c) ?_
    rintro _ w7 ⟨rfl, hm7⟩
    rw [hfb]
    try simp only [↓VG_u, ↓UG_u, ↓MG_u, ↓NG_u, ↓PG_u, ↓BG_u, ↓CG_u, ↓IG_u, ↓VGtt, ↓VGtf, ↓VGft, ↓VGff, ↓UGtt, ↓UGtf, ↓UGft, ↓UGff, ↓MGtt, ↓MGtf, ↓MGft, ↓MGff, ↓NGtt, ↓NGtf, ↓NGft, ↓NGff, ↓PGtt, ↓PGtf, ↓PGft, ↓PGff, ↓BGtt, ↓BGtf, ↓BGft, ↓BGff, ↓CGtt, ↓CGtf, ↓CGft, ↓CGff, ↓IGtt, ↓IGtf, ↓IGft, ↓IGff, ↓PKt, ↓PKf, ↓CDt, ↓CDf, ↓NOTt, ↓NOTf, ↓NK_ptr]
    first | exact ⟨rfl, hm06.trans hm7⟩ | exact ⟨trivial, hm06.trans hm7⟩
end Go.Proofs.YtpkfbaagpjdifaaGreatDoor.Tr
