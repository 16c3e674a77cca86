/- Several texts of this repo, one behind the other, without what is not used here. -/
import Derived.Lib.SliceRun
import Derived.Laws.OwnMore
import Derived.Laws.IdiomStrings
import Derived.Laws.BytesArg
import Derived.Laws.MakeOwn
import Derived.Laws.CopyRow
import Derived.Laws.Bits64b
import Derived.Laws.Shifts
import Derived.Test.YtmbgbffgkdcieaaBW2
set_option linter.unusedVariables false
set_option linter.unusedSimpArgs false
namespace Go.X
open Go Go.RowKit
section
variable {P : Program} {w : World} {K : Value → World → Prop}
theorem VGtt (s : Sem Value) : VG P (.bool true) true s w K = VK P s w K := by rw [VG_b]; rfl
theorem VGtf (s : Sem Value) : VG P (.bool true) false s w K = K undef w := by rw [VG_b]; rfl
theorem VGft (s : Sem Value) : VG P (.bool false) true s w K = K undef w := by rw [VG_b]; rfl
theorem VGff (s : Sem Value) : VG P (.bool false) false s w K = VK P s w K := by rw [VG_b]; rfl
theorem UGtt (s : Sem Unit) : UG P (.bool true) true s w K = UK P s w K := by rw [UG_b]; rfl
theorem UGtf (s : Sem Unit) : UG P (.bool true) false s w K = K undef w := by rw [UG_b]; rfl
theorem UGft (s : Sem Unit) : UG P (.bool false) true s w K = K undef w := by rw [UG_b]; rfl
theorem UGff (s : Sem Unit) : UG P (.bool false) false s w K = UK P s w K := by rw [UG_b]; rfl
theorem MGtt (v : Value) : MG P (.bool true) true v w K = K v w := by rw [MG_b]; rfl
theorem MGtf (v : Value) : MG P (.bool true) false v w K = K undef w := by rw [MG_b]; rfl
theorem MGft (v : Value) : MG P (.bool false) true v w K = K undef w := by rw [MG_b]; rfl
theorem MGff (v : Value) : MG P (.bool false) false v w K = K v w := by rw [MG_b]; rfl
theorem NGtt (v : Value) : NG P (.bool true) true v w K = NK P v w K := by rw [NG_b]; rfl
theorem NGtf (v : Value) : NG P (.bool true) false v w K = K undef w := by rw [NG_b]; rfl
theorem NGft (v : Value) : NG P (.bool false) true v w K = K undef w := by rw [NG_b]; rfl
theorem NGff (v : Value) : NG P (.bool false) false v w K = NK P v w K := by rw [NG_b]; rfl
theorem PGtt (c a b : Value) : PG P (.bool true) true c a b w K = PK P c a b w K := by rw [PG_b]; rfl
theorem PGtf (c a b : Value) : PG P (.bool true) false c a b w K = K undef w := by rw [PG_b]; rfl
theorem PGft (c a b : Value) : PG P (.bool false) true c a b w K = K undef w := by rw [PG_b]; rfl
theorem PGff (c a b : Value) : PG P (.bool false) false c a b w K = PK P c a b w K := by rw [PG_b]; rfl
theorem BGtt (op : BinOp) (ty : TypeId) (x y : Operand) (a b : Value) : BG P (.bool true) true op ty x y a b w K = BK P op ty x y a b w K := by rw [BG_b]; rfl
theorem BGtf (op : BinOp) (ty : TypeId) (x y : Operand) (a b : Value) : BG P (.bool true) false op ty x y a b w K = K undef w := by rw [BG_b]; rfl
theorem BGft (op : BinOp) (ty : TypeId) (x y : Operand) (a b : Value) : BG P (.bool false) true op ty x y a b w K = K undef w := by rw [BG_b]; rfl
theorem BGff (op : BinOp) (ty : TypeId) (x y : Operand) (a b : Value) : BG P (.bool false) false op ty x y a b w K = BK P op ty x y a b w K := by rw [BG_b]; rfl
theorem CGtt (f : Value) (args : List Value) : CG P (.bool true) true f args w K = CK P f args w K := by rw [CG_b]; rfl
theorem CGtf (f : Value) (args : List Value) : CG P (.bool true) false f args w K = K undef w := by rw [CG_b]; rfl
theorem CGft (f : Value) (args : List Value) : CG P (.bool false) true f args w K = K undef w := by rw [CG_b]; rfl
theorem CGff (f : Value) (args : List Value) : CG P (.bool false) false f args w K = CK P f args w K := by rw [CG_b]; rfl
theorem IGtt (b : Builtin) (ts : Array TypeId) (ty : TypeId) (cs : List Bool) (args : List Value) : IG P (.bool true) true b ts ty cs args w K = IK P b ts ty cs args w K := by rw [IG_b]; rfl
theorem IGtf (b : Builtin) (ts : Array TypeId) (ty : TypeId) (cs : List Bool) (args : List Value) : IG P (.bool true) false b ts ty cs args w K = K undef w := by rw [IG_b]; rfl
theorem IGft (b : Builtin) (ts : Array TypeId) (ty : TypeId) (cs : List Bool) (args : List Value) : IG P (.bool false) true b ts ty cs args w K = K undef w := by rw [IG_b]; rfl
theorem IGff (b : Builtin) (ts : Array TypeId) (ty : TypeId) (cs : List Bool) (args : List Value) : IG P (.bool false) false b ts ty cs args w K = IK P b ts ty cs args w K := by rw [IG_b]; rfl
theorem PKt (a b : Value) : PK P (.bool true) a b w K = K a w := by rw [PK_bool]; rfl
theorem PKf (a b : Value) : PK P (.bool false) a b w K = K b w := by rw [PK_bool]; rfl
theorem CDt (A B : Prop) : CondK (.bool true) A B = A := by rw [CondK_bool]; rfl
theorem CDf (A B : Prop) : CondK (.bool false) A B = B := by rw [CondK_bool]; rfl
theorem NOTt : VK P (Op.unary .not (.bool true)) w K = K (.bool false) w := not_ok true
theorem NOTf : VK P (Op.unary .not (.bool false)) w K = K (.bool true) w := not_ok false
section
variable {k : IntKind} {a b : Int}
theorem EQt (h : a = b) (t : TypeId) (x y : Operand) (K : Value → World → Prop) : BK P .eql t x y (.int k a) (.int k b) w K = K (.bool true) w := by rw [BK_eql, h]; simp
theorem EQf (h : a ≠ b) (t : TypeId) (x y : Operand) (K : Value → World → Prop) : BK P .eql t x y (.int k a) (.int k b) w K = K (.bool false) w := by rw [BK_eql, beq_eq_false_iff_ne.2 h]
theorem NEf (h : a = b) (t : TypeId) (x y : Operand) (K : Value → World → Prop) : BK P .neq t x y (.int k a) (.int k b) w K = K (.bool false) w := by rw [BK_neq, h]; simp
theorem LTt (h : a < b) (t : TypeId) (x y : Operand) (K : Value → World → Prop) : BK P .lss t x y (.int k a) (.int k b) w K = K (.bool true) w := by rw [BK_lss, decide_eq_true h]
theorem LTf (h : b ≤ a) (t : TypeId) (x y : Operand) (K : Value → World → Prop) : BK P .lss t x y (.int k a) (.int k b) w K = K (.bool false) w := by rw [BK_lss, decide_eq_false (by omega)]
theorem GTt (h : b < a) (t : TypeId) (x y : Operand) (K : Value → World → Prop) : BK P .gtr t x y (.int k a) (.int k b) w K = K (.bool true) w := by rw [BK_gtr, decide_eq_true h]
theorem GTf (h : a ≤ b) (t : TypeId) (x y : Operand) (K : Value → World → Prop) : BK P .gtr t x y (.int k a) (.int k b) w K = K (.bool false) w := by rw [BK_gtr, decide_eq_false (by omega)]
end
section
variable {a b : ByteArray}
end
structure FO (P : Program) (w : World) (t : TypeId) (i off : Nat) (a : Addr) (t' : TypeId) (v : Value) : Prop where
  h1 : fieldOff P t i = some off
  h2 : ∀ K : Value → World → Prop, VK P (Instr.loadAt t' (.pointer (some (a.add off)))) w K = K v w
theorem FO.mk' {t t' : TypeId} {i off : Nat} {a : Addr} {v : Value} {d : TypeDesc} (h1 : fieldOff P t i = some off) (h2 : P.underlying t' = some d) (h3 : (match d with | .struct _ | .array _ _ => true | _ => false) = false) (h4 : w.cell? (a.add off) = some v) : FO P w t i off a t' v :=
  ⟨h1, fun K => VK_eq_of (run_ld1 h2 h3 h4)⟩
theorem FO.blk {t t' ty : TypeId} {i off b : Nat} {fr : Nat × Nat} {cs : Array Value} {v : Value} {d : TypeDesc} (hb : w.heap[b]? = some (.cells cs ty fr)) (h1 : fieldOff P t i = some off) (h2 : P.underlying t' = some d) (h3 : (match d with | .struct _ | .array _ _ => true | _ => false) = false) (h4 : cs[off]? = some v) : FO P w t i off ⟨b, 0, none⟩ t' v :=
  FO.mk' h1 h2 h3 (by rw [add_pl, Nat.zero_add, cell_blk hb]; exact h4)
theorem FO.e {t t' : TypeId} {i off : Nat} {a : Addr} {v : Value} (h : FO P w t i off a t' v) (K : Value → Value → World → Prop) :
    (VK P (Instr.fieldAt t (.pointer (some a)) i) w fun x w => VK P (Instr.loadAt t' x) w (K x)) = K (.pointer (some (a.add off))) v w := by
  rw [fo h.h1, h.h2]
end
theorem least_of {p : Nat → Prop} : ∀ n, p n → ∃ m, p m ∧ ∀ k, p k → m ≤ k := by
  intro n
  induction n using Nat.strongRecOn with
  | ind n ih =>
    intro hn
    by_cases h : ∃ k, k < n ∧ p k
    · obtain ⟨k, hk, hp⟩ := h
      exact ih k hk hp
    · exact ⟨n, hn, fun k hk => Nat.le_of_not_lt fun q => h ⟨k, q, hk⟩⟩
open Classical in
theorem W_loopG {P : Program} {z : At} {n : Nat} {c : Code} {K : Exit → Sl → World → Prop} {ρ : Sl} {w : World} (hd : dstOk n c = true) (I : Nat → Sl → World → Prop) (m : Nat) (h0 : I m ρ w)
    (round : ∀ m ρ w, I m ρ w → sx z P n c (seqK (fun ρ' w' => ∃ m', m' < m ∧ I m' ρ' w') K) ρ w) : W z P n (.loop c) K ρ w := by
  intro a hl
  have hmin : ∀ {ρ w}, (∃ m, I m ρ w) → ∃ m, I m ρ w ∧ ∀ k, I k ρ w → m ≤ k := fun ⟨m, h⟩ => least_of m h
  let μ : Sl → World → Nat := fun ρ w => if h : ∃ m, I m ρ w then Classical.choose (hmin h) else 0
  let M : Act → World → Nat := fun a w => μ (fun i => a.tmps.getD i undef) w
  have hM : ∀ a ρ w, Lk z n a ρ → M a w = μ ρ w := by
    intro a ρ w hl
    have : (fun i => a.tmps.getD i undef) = ρ := funext hl.val
    show μ (fun i => a.tmps.getD i undef) w = μ ρ w
    rw [this]
  refine wpIn_loop (fun a w => ∃ ρ, Lk z n a ρ ∧ ∃ m, I m ρ w) M ⟨ρ, hl, m, h0⟩ ?_
  rintro a w ⟨ρ, hl, hI⟩
  obtain ⟨hs, hle⟩ := Classical.choose_spec (hmin hI)
  have hμ : μ ρ w = Classical.choose (hmin hI) := dif_pos hI
  refine wpIn_mono (sx_W c _ ρ w hd (round _ ρ w hs) a hl) ?_
  rintro e a' w' ⟨ρ', hl', hk⟩
  cases e with
  | normal =>
    obtain ⟨m', hlt, hI'⟩ := hk
    refine ⟨⟨ρ', hl', m', hI'⟩, ?_⟩
    rw [hM a' ρ' w' hl', hM a ρ w hl, hμ]
    have h' : ∃ m, I m ρ' w' := ⟨m', hI'⟩
    have : μ ρ' w' = Classical.choose (hmin h') := dif_pos h'
    rw [this]
    exact Nat.lt_of_le_of_lt ((Classical.choose_spec (hmin h')).2 _ hI') hlt
  | exit id => exact ⟨ρ', hl', hk⟩
  | goto l => exact ⟨ρ', hl', hk⟩
  | ret => exact ⟨ρ', hl', hk⟩
  | panic c => exact ⟨ρ', hl', hk⟩
  | outgrown => exact ⟨ρ', hl', hk⟩
end Go.X
set_option linter.unusedVariables false
namespace Go.X
open Go Go.RowKit
section
variable {P : Program} {w : World} {K : Value → World → Prop}
theorem stS {t ty : TypeId} {b : Nat} {old cs : Array Value} {x v : Value} (hx : x = .pointer (some ⟨b, 0, none⟩)) (hv : v = .agg cs) (hi : (P.info? t).map (·.size) = some cs.size) (ho : old.size = cs.size) (h1 : cs.all (·.oneCell') = true) (hb : w.heap[b]? = some (.cells old ty (0, 0)))
    (hk : ∀ w', w'.heap[b]? = some (.cells cs ty (0, 0)) → Mod (fun i => i = b) w w' → w'.heap.size = w.heap.size → K undef w') : UK P (Instr.storeAt t x v) w K := by
  rw [hx, hv]
  exact stB hi ho h1 hb (hk _ (setB_new _ _ _ (blk_lt hb)) ((Mod.refl _ w).set _ (fun _ => rfl)) (by rw [setB_size]))
theorem stC {t ty : TypeId} {b o : Nat} {cs : Array Value} {x v : Value} (hx : x = .pointer (some ⟨b, o, none⟩)) (hc1 : P.cellsOf t = 1) (hv : v.oneCell' = true) (hb : w.heap[b]? = some (.cells cs ty (0, 0))) (ho : o < cs.size)
    (hk : ∀ w', w'.heap[b]? = some (.cells (cs.setIfInBounds o v) ty (0, 0)) → Mod (fun i => i = b) w w' → w'.heap.size = w.heap.size → K undef w') : UK P (Instr.storeAt t x v) w K := by
  rw [hx]
  exact st1 hc1 hv hb ho (hk _ (setB_new _ _ _ (blk_lt hb)) ((Mod.refl _ w).set _ (fun _ => rfl)) (by rw [setB_size]))
theorem ldS {t ty : TypeId} {d : TypeDesc} {b : Nat} {cs : Array Value} {x : Value} (hx : x = .pointer (some ⟨b, 0, none⟩)) (hu : P.underlying t = some d) (hd : (match d with | .struct _ | .array _ _ => true | _ => false) = true) (hi : (P.info? t).map (·.size) = some cs.size) (hb : w.heap[b]? = some (.cells cs ty (0, 0))) (hk : K (.agg cs) w) : VK P (Instr.loadAt t x) w K := by
  rw [hx]
  exact ldB hu hd hi hb hk
theorem FAt.vs {t t' : TypeId} {i : Nat} {a : Addr} {v x : Value} {K : Value → Value → World → Prop} (h : FAt P w t i a t' v) (hx : x = .pointer (some a)) (hk : ∀ y, K y v w) : VK P (Instr.fieldAt t x i) w fun y w => VK P (Instr.loadAt t' y) w (K y) := by
  rw [hx]; exact h.vk' hk
theorem ldOne {t ty : TypeId} {d : TypeDesc} {b : Nat} {fr : Nat × Nat} {x v : Value} (hx : x = .pointer (some ⟨b, 0, none⟩)) (hu : P.underlying t = some d) (hd : (match d with | .struct _ | .array _ _ => true | _ => false) = false) (hb : w.heap[b]? = some (.cells #[v] ty fr)) (hk : K v w) : VK P (Instr.loadAt t x) w K := by
  rw [hx]; exact ld1 hu hd (by rw [cell_blk hb]; rfl) hk
theorem CK_eq {f g : Value} {as1 bs : List Value} (hf : f = g) (h : as1 = bs) (hk : CK P g bs w K) : CK P f as1 w K := by rw [hf, h]; exact hk
theorem rtCell {t ty : TypeId} {d : TypeDesc} {b i : Nat} {cs : Array Value} {R : Value → World → Prop} {ρ : Sl} (hx : ρ i = .pointer (some ⟨b, 0, none⟩)) (hu : P.underlying t = some d) (hd : (match d with | .struct _ | .array _ _ => true | _ => false) = true) (hi : (P.info? t).map (·.size) = some cs.size) (hb : w.heap[b]? = some (.cells cs ty (0, 0))) (hk : R (.agg cs) w) :
    retK P [ResultVar.cell i t] R .ret ρ w := by
  show ∃ v, (do loadVar t (← asAddr (ρ i)) : Sem Value).run P w = .ok v w ∧ R v w
  rw [hx]
  exact ⟨_, res_ld (run_ldB hu hd hi hb), hk⟩
theorem rsCell {t ty : TypeId} {d : TypeDesc} {b : Nat} {cs : Array Value} {R : Value → World → Prop} {x : Value} (hx : x = .pointer (some ⟨b, 0, none⟩)) (hu : P.underlying t = some d) (hd : (match d with | .struct _ | .array _ _ => true | _ => false) = true) (hi : (P.info? t).map (·.size) = some cs.size) (hb : w.heap[b]? = some (.cells cs ty (0, 0))) (hk : R (.agg cs) w) :
    ∃ v, (do loadVar t (← asAddr x) : Sem Value).run P w = .ok v w ∧ R v w := by
  rw [hx]
  exact ⟨_, res_ld (run_ldB hu hd hi hb), hk⟩
end
end Go.X
set_option linter.unusedVariables false
set_option linter.unusedSimpArgs false
set_option maxRecDepth 4000
namespace Go.X
open Go Go.RowKit
theorem run_append_none {P : Program} (w : World) (base : Nat) (t ty e : TypeId) (i : TypeInfo) (size c2 : Nat) (ht : P.underlying t = some (.slice e)) (hi : P.info? e = some i) (v : Value) (n : Nat) (xs : List Value) (hown : w.ownsRow base e size v n xs) :
    (Builtin.append_ #[t, t] ty #[v, .slice none 0 c2]).run P w = .ok v w := by
  rcases hown.2 with ⟨rfl, rfl⟩ | ⟨g, cap, cur, rfl, _, _, hnc, _⟩
  · simp [Builtin.append_, run_underlying ht, sizeOf, typeInfo, hi, Builtin.lenOf, Builtin.firstCells]
  · simp [Builtin.append_, run_underlying ht, sizeOf, typeInfo, hi, Builtin.lenOf, Builtin.firstCells, hnc, storeCells]
theorem ap_any {P : Program} {w : World} {K : Value → World → Prop} {t ty e : TypeId} {size bytes base : Nat} (hE : elemOk P t e size bytes = true) {v : Value} {n : Nat} {xs : List Value} (hown : w.ownsRow base e size v n xs) {v2 : Value} {m : Nat} {news : List Value} (hr : reads w size v2 m news) (h1 : ∀ u ∈ news, u.oneCell' = true)
    (h63 : n + m ≤ maxLen) (hbytes : (n + m) * bytes ≤ 140737488355328) (hbase : base ≤ w.heap.size)
    (hk : ∀ v' w', w'.ownsRow base e size v' (n + m) (xs ++ news) → Mod (fun k => some k = v.ownBlock) w w' → (v'.ownBlock = v.ownBlock ∨ v'.ownBlock = some w.heap.size) → K v' w') : IK P .append #[t, t] ty [false, false] [v, v2] w K := by
  have hE' := hE
  unfold elemOk at hE
  split at hE
  · rename_i e' i hu hi
    simp only [Bool.and_eq_true, beq_iff_eq] at hE
    obtain ⟨⟨⟨⟨rfl, hz⟩, hs⟩, hb⟩, hp⟩ := hE
    split at hz
    · rename_i z hzz
      have hz : z.cells.size = size := by simpa using hz
      have hpos : 0 < size := Nat.le_of_ble_eq_true hp
      obtain ⟨hl, A, c, rfl, _, hrd⟩ := hr
      cases A with
      | none =>
        have h0 : news = [] := by
          rcases Nat.eq_zero_or_pos news.length with q | q
          · exact List.length_eq_zero_iff.1 q
          · obtain ⟨a, ha, _⟩ := hrd 0 _ (List.getElem?_eq_getElem q)
            cases ha
        subst h0
        have hm0 : m = 0 := by
          rcases Nat.eq_zero_or_pos m with q | q
          · exact q
          · have := Nat.mul_pos q hpos; simp at hl; omega
        subst hm0
        refine IK_of (s := Builtin.append_ #[t, t] ty #[v, .slice none 0 c]) rfl (run_append_none w base t ty _ i size c hu hi v n xs hown) (hk v w (by simpa using hown) (Mod.refl _ _) (.inl rfl))
      | some a =>
        obtain ⟨v', w', hrun, h2, h3, h4, h5⟩ := run_append_own_at (P := P) w base t ty _ i z size bytes hu hi hzz hs hb hz hpos v n xs hown a m c news hl (fun j u hj => by obtain ⟨a', ha, hc⟩ := hrd j u hj; cases ha; exact hc) h1 h63 hbytes hbase
        exact IK_of (s := Builtin.append_ #[t, t] ty #[v, .slice (some a) m c]) rfl hrun (hk v' w' h2 (Mod.ofGrown h3) h5)
    · cases hz
  · cases hE
theorem fst_k {P : Program} {w : World} {K : Value → Value → World → Prop} {t t' ty : TypeId} {i off b : Nat} {cs cs' : Array Value} {v : Value} (h1 : fieldOff P t i = some off) (hc1 : P.cellsOf t' = 1) (hv : v.oneCell' = true) (hb : w.heap[b]? = some (.cells cs ty (0, 0))) (ho : off < cs.size) (hcs : cs.setIfInBounds off v = cs')
    (hk : ∀ x w', w'.heap[b]? = some (.cells cs' ty (0, 0)) → Mod (fun j => j = b) w w' → w'.heap.size = w.heap.size → K x undef w') : VK P (Instr.fieldAt t (.pointer (some ⟨b, 0, none⟩)) i) w fun x w => UK P (Instr.storeAt t' x v) w (K x) := by
  rw [fo h1, add_pl, Nat.zero_add]
  exact stC rfl hc1 hv hb ho fun w' h2 h3 h4 => hk _ _ (hcs ▸ h2) h3 h4
theorem Mod.fresh {w w' w'' : World} {b : Nat} (h : Mod none_ w w') (hm : Mod (fun i => i = b) w' w'') (hb : w.heap.size ≤ b) : Mod none_ w w'' := h.then hm fun i hi q => by omega
end Go.X
set_option linter.unusedVariables false
set_option linter.unusedSimpArgs false
set_option maxRecDepth 4000
namespace Go.Proofs.Ytmbgbffgkdcieaa.Tr
open Go Go.X Go.RowKit Go.Proofs.Ytmbgbffgkdcieaa.XF Go.Proofs.Ytmbgbffgkdcieaa.XK
theorem vU8 : Try.prog.underlying 5 = some (.int .u8) := by kernel_rfl
theorem vI : Try.prog.underlying 3 = some (.int .i64) := by kernel_rfl
theorem vN : Try.prog.underlying 2 = some (.int .i64) := by kernel_rfl
theorem vB : Try.prog.underlying 4 = some .bool := by kernel_rfl
theorem vIs : Try.prog.underlying 26 = some (.slice 3) := by kernel_rfl
theorem vNs : Try.prog.underlying 22 = some (.slice 2) := by kernel_rfl
theorem vCs : Try.prog.underlying 25 = some (.slice 30) := by kernel_rfl
theorem cI : Try.prog.cellsOf 3 = 1 := by kernel_rfl
theorem cN : Try.prog.cellsOf 2 = 1 := by kernel_rfl
theorem cC : Try.prog.cellsOf 30 = 2 := by kernel_rfl
theorem truth_ok (b : Bool) (w : World) : Rt Try.prog 29 #[.bool b] w fun v w' => v = .int .i64 (truV b) ∧ w' = w := by
  refine vm_truth_calls ?_
  unfold vm_truth_F
  cases b <;> simp only [CDt, CDf] <;> exact ⟨by trivial, by trivial⟩
theorem in_ok (n m : Int) (w : World) : Rt Try.prog 51 #[.int .i64 n, .int .i64 m] w fun v w' => v = .bool (inV n m) ∧ w' = w := by
  refine code_in_calls ?_
  unfold code_in_F inV
  rw [BK_geq]
  by_cases h : 0 ≤ n
  · simp only [h, decide_true, ↓VG_u, ↓UG_u, ↓MG_u, ↓NG_u, ↓PG_u, ↓BG_u, ↓CG_u, ↓IG_u, ↓VGtt, ↓VGtf, ↓VGft, ↓VGff, ↓UGtt, ↓UGtf, ↓UGft, ↓UGff, ↓MGtt, ↓MGtf, ↓MGft, ↓MGff, ↓NGtt, ↓NGtf, ↓NGft, ↓NGff, ↓PGtt, ↓PGtf, ↓PGft, ↓PGff, ↓BGtt, ↓BGtf, ↓BGft, ↓BGff, ↓CGtt, ↓CGtf, ↓CGft, ↓CGff, ↓IGtt, ↓IGtf, ↓IGft, ↓IGff, ↓PKt, ↓PKf, ↓CDt, ↓CDf, ↓NOTt, ↓NOTf, ↓NK_ptr, BK_lss]
    exact ⟨by simp, trivial⟩
  · simp only [h, decide_false, ↓VG_u, ↓UG_u, ↓MG_u, ↓NG_u, ↓PG_u, ↓BG_u, ↓CG_u, ↓IG_u, ↓VGtt, ↓VGtf, ↓VGft, ↓VGff, ↓UGtt, ↓UGtf, ↓UGft, ↓UGff, ↓MGtt, ↓MGtf, ↓MGft, ↓MGff, ↓NGtt, ↓NGtf, ↓NGft, ↓NGff, ↓PGtt, ↓PGtf, ↓PGft, ↓PGff, ↓BGtt, ↓BGtf, ↓BGft, ↓BGff, ↓CGtt, ↓CGtf, ↓CGft, ↓CGff, ↓IGtt, ↓IGtf, ↓IGft, ↓IGff, ↓PKt, ↓PKf, ↓CDt, ↓CDf, ↓NOTt, ↓NOTf, ↓NK_ptr]
    exact ⟨by simp, trivial⟩
theorem BK_quo {P : Program} {w : World} {K : Value → World → Prop} {t : TypeId} {x y : Operand} {a b : Int} (hb : b ≠ 0) : BK P .quo t x y (.int .i64 a) (.int .i64 b) w K = K (.int .i64 (IntKind.i64.wrap (a.tdiv b))) w := by
  refine BK_of rfl ?_
  rw [binOp_quo]
  simp [Op.intDiv, hb]
theorem conv_k {w : World} {K : Value → World → Prop} {src dst : TypeId} {q k : IntKind} {n : Int} (hs : (Try.prog.underlying src).isSome = true) (hd : Try.prog.underlying dst = some (.int k)) : VK Try.prog (convert src dst (.int q n)) w K = K (.int k (k.wrap n)) w := by
  have ek : Try.prog.intKind dst = k := by simp [Program.intKind, hd]
  have := run_convert_int (P := Try.prog) w src dst q n hs (by rw [ek]; exact hd)
  rw [ek] at this
  exact VK_eq_of this
def lm (k : Int) : Int × Int := (isCall k).getD (0, 0)
theorem args_R5 {K : Exit → Sl → World → Prop} {ρ : Sl} {w : World} {k : Int} {b : Bool} (h3 : ρ 3 = .int .u8 k) (h36 : ρ 36 = .bool b) (hb : b = true → lm k = (1, 1)) (hn : b = false → k ≠ 8 ∧ k ≠ 11 ∧ k ≠ 15 ∧ k ≠ 20 ∧ k ≠ 22 ∧ ¬ (1 ≤ k ∧ k ≤ 5) ∧ k ≠ 9 ∧ k ≠ 10 ∧ k ≠ 12) (h6 : ρ 6 = .int .i64 0) (h7 : ρ 7 = .int .i64 0)
    (hK : ∀ ρ' : Sl, ρ' 3 = ρ 3 → ρ' 4 = ρ 4 → ρ' 5 = ρ 5 → ρ' 6 = .int .i64 (lm k).1 → ρ' 7 = .int .i64 (lm k).2 → K .normal ρ' w) : sx fn_ Try.prog 82 code_args_R5 K ρ w := by
  rw [code_args_R5_eq]; unfold code_args_R5_F
  rw [h36]
  cases b with
  | true => refine condT ?_; exact hK _ rfl rfl rfl (by rw [hb rfl]; rfl) (by rw [hb rfl]; rfl)
  | false =>
    refine condF ?_
    obtain ⟨n1, n2, n3, n4, n5, n6, n7, n8, n9⟩ := hn rfl
    rw [h3]
    refine caseI (fun q => ?_) (fun q => ?_)
    · refine condT ?_; exact hK _ rfl rfl rfl (by rw [q]; rfl) (by rw [q]; rfl)
    refine condF ?_
    rw [BK_geq]
    by_cases c1 : 1 ≤ k
    · simp only [c1, decide_true, ↓VG_u, ↓UG_u, ↓MG_u, ↓NG_u, ↓PG_u, ↓BG_u, ↓CG_u, ↓IG_u, ↓VGtt, ↓VGtf, ↓VGft, ↓VGff, ↓UGtt, ↓UGtf, ↓UGft, ↓UGff, ↓MGtt, ↓MGtf, ↓MGft, ↓MGff, ↓NGtt, ↓NGtf, ↓NGft, ↓NGff, ↓PGtt, ↓PGtf, ↓PGft, ↓PGff, ↓BGtt, ↓BGtf, ↓BGft, ↓BGff, ↓CGtt, ↓CGtf, ↓CGft, ↓CGff, ↓IGtt, ↓IGtf, ↓IGft, ↓IGff, ↓PKt, ↓PKf, ↓CDt, ↓CDf, ↓NOTt, ↓NOTf, ↓NK_ptr, ↓BK_leq]
      by_cases c2 : k ≤ 22
      · simp only [c2, decide_true, ↓VG_u, ↓UG_u, ↓MG_u, ↓NG_u, ↓PG_u, ↓BG_u, ↓CG_u, ↓IG_u, ↓VGtt, ↓VGtf, ↓VGft, ↓VGff, ↓UGtt, ↓UGtf, ↓UGft, ↓UGff, ↓MGtt, ↓MGtf, ↓MGft, ↓MGff, ↓NGtt, ↓NGtf, ↓NGft, ↓NGff, ↓PGtt, ↓PGtf, ↓PGft, ↓PGff, ↓BGtt, ↓BGtf, ↓BGft, ↓BGff, ↓CGtt, ↓CGtf, ↓CGft, ↓CGff, ↓IGtt, ↓IGtf, ↓IGft, ↓IGff, ↓PKt, ↓PKf, ↓CDt, ↓CDf, ↓NOTt, ↓NOTf, ↓NK_ptr]
        have e : lm k = (3, 3) := by unfold lm isCall; rw [if_neg n6, if_neg (by omega), if_neg (by omega), if_neg q, if_pos ⟨c1, c2⟩]; rfl
        exact hK _ rfl rfl rfl (by rw [e]; rfl) (by rw [e]; rfl)
      · simp only [c2, decide_false, ↓VG_u, ↓UG_u, ↓MG_u, ↓NG_u, ↓PG_u, ↓BG_u, ↓CG_u, ↓IG_u, ↓VGtt, ↓VGtf, ↓VGft, ↓VGff, ↓UGtt, ↓UGtf, ↓UGft, ↓UGff, ↓MGtt, ↓MGtf, ↓MGft, ↓MGff, ↓NGtt, ↓NGtf, ↓NGft, ↓NGff, ↓PGtt, ↓PGtf, ↓PGft, ↓PGff, ↓BGtt, ↓BGtf, ↓BGft, ↓BGff, ↓CGtt, ↓CGtf, ↓CGft, ↓CGff, ↓IGtt, ↓IGtf, ↓IGft, ↓IGff, ↓PKt, ↓PKf, ↓CDt, ↓CDf, ↓NOTt, ↓NOTf, ↓NK_ptr]
        have e : lm k = (0, 0) := by unfold lm isCall; rw [if_neg n6, if_neg (by omega), if_neg (by omega), if_neg q, if_neg (by omega)]; rfl
        exact hK _ rfl rfl rfl (by rw [e]; exact h6) (by rw [e]; exact h7)
    · simp only [c1, decide_false, ↓VG_u, ↓UG_u, ↓MG_u, ↓NG_u, ↓PG_u, ↓BG_u, ↓CG_u, ↓IG_u, ↓VGtt, ↓VGtf, ↓VGft, ↓VGff, ↓UGtt, ↓UGtf, ↓UGft, ↓UGff, ↓MGtt, ↓MGtf, ↓MGft, ↓MGff, ↓NGtt, ↓NGtf, ↓NGft, ↓NGff, ↓PGtt, ↓PGtf, ↓PGft, ↓PGff, ↓BGtt, ↓BGtf, ↓BGft, ↓BGff, ↓CGtt, ↓CGtf, ↓CGft, ↓CGff, ↓IGtt, ↓IGtf, ↓IGft, ↓IGff, ↓PKt, ↓PKf, ↓CDt, ↓CDf, ↓NOTt, ↓NOTf, ↓NK_ptr]
      have e : lm k = (0, 0) := by unfold lm isCall; rw [if_neg n6, if_neg (by omega), if_neg (by omega), if_neg q, if_neg (by omega)]; rfl
      exact hK _ rfl rfl rfl (by rw [e]; exact h6) (by rw [e]; exact h7)
theorem args_R4 {K : Exit → Sl → World → Prop} {ρ : Sl} {w : World} {k : Int} {b : Bool} (h3 : ρ 3 = .int .u8 k) (h29 : ρ 29 = .bool b) (hb : b = true → lm k = (1, 8)) (hn : b = false → ¬ (1 ≤ k ∧ k ≤ 5) ∧ k ≠ 9 ∧ k ≠ 10 ∧ k ≠ 12) (h6 : ρ 6 = .int .i64 0) (h7 : ρ 7 = .int .i64 0)
    (hK : ∀ ρ' : Sl, ρ' 3 = ρ 3 → ρ' 4 = ρ 4 → ρ' 5 = ρ 5 → ρ' 6 = .int .i64 (lm k).1 → ρ' 7 = .int .i64 (lm k).2 → K .normal ρ' w) : sx fn_ Try.prog 82 code_args_R4 K ρ w := by
  rw [code_args_R4_eq]; unfold code_args_R4_F
  rw [h29]
  cases b with
  | true => refine condT ?_; exact hK _ rfl rfl rfl (by rw [hb rfl]; rfl) (by rw [hb rfl]; rfl)
  | false =>
    refine condF ?_
    obtain ⟨n6, n7, n8, n9⟩ := hn rfl
    rw [h3]
    refine caseI (fun q8 => ?_) (fun q8 => ?_)
    · refine condT ?_; exact args_R5 (k := k) (b := true) h3 rfl (fun _ => by rw [q8]; rfl) (fun z => by cases z) h6 h7 hK
    refine condF ?_
    refine caseI (fun q11 => ?_) (fun q11 => ?_)
    · refine condT ?_; exact args_R5 (k := k) (b := true) h3 rfl (fun _ => by rw [q11]; rfl) (fun z => by cases z) h6 h7 hK
    refine condF ?_
    refine caseI (fun q15 => ?_) (fun q15 => ?_)
    · refine condT ?_; exact args_R5 (k := k) (b := true) h3 rfl (fun _ => by rw [q15]; rfl) (fun z => by cases z) h6 h7 hK
    refine condF ?_
    refine caseI (fun q20 => ?_) (fun q20 => ?_)
    · refine condT ?_; exact args_R5 (k := k) (b := true) h3 rfl (fun _ => by rw [q20]; rfl) (fun z => by cases z) h6 h7 hK
    refine condF ?_
    refine caseI (fun q22 => ?_) (fun q22 => ?_)
    · exact args_R5 (k := k) (b := true) h3 rfl (fun _ => by rw [q22]; rfl) (fun z => by cases z) h6 h7 hK
    exact args_R5 (k := k) (b := false) h3 rfl (fun z => by cases z) (fun _ => ⟨q8, q11, q15, q20, q22, n6, n7, n8, n9⟩) h6 h7 hK
theorem args_R1 {K : Exit → Sl → World → Prop} {ρ : Sl} {w : World} {k : Int} (h3 : ρ 3 = .int .u8 k) (h22 : ρ 22 = .bool (decide (1 ≤ k ∧ k ≤ 5))) (h6 : ρ 6 = .int .i64 0) (h7 : ρ 7 = .int .i64 0)
    (hK : ∀ ρ' : Sl, ρ' 3 = ρ 3 → ρ' 4 = ρ 4 → ρ' 5 = ρ 5 → ρ' 6 = .int .i64 (lm k).1 → ρ' 7 = .int .i64 (lm k).2 → K .normal ρ' w) : sx fn_ Try.prog 82 code_args_R1 K ρ w := by
  rw [code_args_R1_eq]; unfold code_args_R1_F
  rw [h22]
  by_cases c : 1 ≤ k ∧ k ≤ 5
  · rw [decide_eq_true c]
    have e : lm k = (5, 5) := by unfold lm isCall; rw [if_pos c]; rfl
    refine condT ?_; exact hK _ rfl rfl rfl (by rw [e]; rfl) (by rw [e]; rfl)
  rw [decide_eq_false c]
  refine condF ?_
  rw [h3]
  refine caseI (fun q9 => ?_) (fun q9 => ?_)
  · refine condT ?_; exact args_R4 (k := k) (b := true) h3 rfl (fun _ => by rw [q9]; rfl) (fun z => by cases z) h6 h7 hK
  refine condF ?_
  refine caseI (fun q10 => ?_) (fun q10 => ?_)
  · refine condT ?_; exact args_R4 (k := k) (b := true) h3 rfl (fun _ => by rw [q10]; rfl) (fun z => by cases z) h6 h7 hK
  refine condF ?_
  refine caseI (fun q12 => ?_) (fun q12 => ?_)
  · exact args_R4 (k := k) (b := true) h3 rfl (fun _ => by rw [q12]; rfl) (fun z => by cases z) h6 h7 hK
  exact args_R4 (k := k) (b := false) h3 rfl (fun z => by cases z) (fun _ => ⟨c, q9, q10, q12⟩) h6 h7 hK
theorem args_ok (n : Int) (w : World) : Rt Try.prog 52 #[.int .i64 n] w fun v w' => v = .int .i64 (argsV n) ∧ w' = w := by
  refine code_args_calls ?_
  unfold code_args_F
  rw [BK_lss]
  by_cases h : n < 0
  · simp only [h, decide_true, ↓VG_u, ↓UG_u, ↓MG_u, ↓NG_u, ↓PG_u, ↓BG_u, ↓CG_u, ↓IG_u, ↓VGtt, ↓VGtf, ↓VGft, ↓VGff, ↓UGtt, ↓UGtf, ↓UGft, ↓UGff, ↓MGtt, ↓MGtf, ↓MGft, ↓MGff, ↓NGtt, ↓NGtf, ↓NGft, ↓NGff, ↓PGtt, ↓PGtf, ↓PGft, ↓PGff, ↓BGtt, ↓BGtf, ↓BGft, ↓BGff, ↓CGtt, ↓CGtf, ↓CGft, ↓CGff, ↓IGtt, ↓IGtf, ↓IGft, ↓IGff, ↓PKt, ↓PKf, ↓CDt, ↓CDf, ↓NOTt, ↓NOTf, ↓NK_ptr]
    exact ⟨by unfold argsV; rw [if_pos (.inl h)], by trivial⟩
  simp only [h, decide_false, ↓VG_u, ↓UG_u, ↓MG_u, ↓NG_u, ↓PG_u, ↓BG_u, ↓CG_u, ↓IG_u, ↓VGtt, ↓VGtf, ↓VGft, ↓VGff, ↓UGtt, ↓UGtf, ↓UGft, ↓UGff, ↓MGtt, ↓MGtf, ↓MGft, ↓MGff, ↓NGtt, ↓NGtf, ↓NGft, ↓NGff, ↓PGtt, ↓PGtf, ↓PGft, ↓PGff, ↓BGtt, ↓BGtf, ↓BGft, ↓BGff, ↓CGtt, ↓CGtf, ↓CGft, ↓CGff, ↓IGtt, ↓IGtf, ↓IGft, ↓IGff, ↓PKt, ↓PKf, ↓CDt, ↓CDf, ↓NOTt, ↓NOTf, ↓NK_ptr, ↓BK_geq]
  by_cases h2 : 3072 ≤ n
  · simp only [h2, decide_true, ↓VG_u, ↓UG_u, ↓MG_u, ↓NG_u, ↓PG_u, ↓BG_u, ↓CG_u, ↓IG_u, ↓VGtt, ↓VGtf, ↓VGft, ↓VGff, ↓UGtt, ↓UGtf, ↓UGft, ↓UGff, ↓MGtt, ↓MGtf, ↓MGft, ↓MGff, ↓NGtt, ↓NGtf, ↓NGft, ↓NGff, ↓PGtt, ↓PGtf, ↓PGft, ↓PGff, ↓BGtt, ↓BGtf, ↓BGft, ↓BGff, ↓CGtt, ↓CGtf, ↓CGft, ↓CGff, ↓IGtt, ↓IGtf, ↓IGft, ↓IGff, ↓PKt, ↓PKf, ↓CDt, ↓CDf, ↓NOTt, ↓NOTf, ↓NK_ptr]
    exact ⟨by unfold argsV; rw [if_pos (.inr h2)], by trivial⟩
  simp only [h2, decide_false, ↓VG_u, ↓UG_u, ↓MG_u, ↓NG_u, ↓PG_u, ↓BG_u, ↓CG_u, ↓IG_u, ↓VGtt, ↓VGtf, ↓VGft, ↓VGff, ↓UGtt, ↓UGtf, ↓UGft, ↓UGff, ↓MGtt, ↓MGtf, ↓MGft, ↓MGff, ↓NGtt, ↓NGtf, ↓NGft, ↓NGff, ↓PGtt, ↓PGtf, ↓PGft, ↓PGff, ↓BGtt, ↓BGtf, ↓BGft, ↓BGff, ↓CGtt, ↓CGtf, ↓CGft, ↓CGff, ↓IGtt, ↓IGtf, ↓IGft, ↓IGff, ↓PKt, ↓PKf, ↓CDt, ↓CDf, ↓NOTt, ↓NOTf, ↓NK_ptr]
  rw [BK_rem (by decide), Int.tmod_eq_emod_of_nonneg (by omega), conv_k (by kernel_rfl) vU8]
  rw [BK_rem (by decide), Int.tmod_eq_emod_of_nonneg (by omega), BK_quo (by decide), Int.tdiv_eq_ediv_of_nonneg (by omega), BK_quo (by decide), Int.tdiv_eq_ediv_of_nonneg (by omega)]
  rw [wrap_i (n := n % 1024 / 32) (by omega) (by omega), wrap_i (n := n / 1024) (by omega) (by omega)]
  have hk : IntKind.u8.wrap (n % 32) = n % 32 := by rw [IntKind.wrap_u8]; omega
  rw [hk, BK_geq]
  have fin : ∀ (ρ : Sl) (b : Bool), ρ 80 = .bool b → ρ 4 = .int .i64 (n % 1024 / 32) → (b = true → argsV n = -1) → (b = false → argsV n = n % 1024 / 32) →
      sx fn_ Try.prog 82 code_args_R2 (seqK (sx fn_ Try.prog 82 code_args_R3 (retK Try.prog [ResultVar.tmp 2] fun v w' => v = .int .i64 (argsV n) ∧ w' = w)) (retK Try.prog [ResultVar.tmp 2] fun v w' => v = .int .i64 (argsV n) ∧ w' = w)) ρ w := by
    intro ρ b g80 g4 e1 e2
    rw [code_args_R2_eq]; unfold code_args_R2_F
    rw [g80]
    cases b with
    | true => refine condT ?_; exact ⟨by rw [e1 rfl]; rfl, rfl⟩
    | false =>
      refine condF ?_
      rw [sq_n, code_args_R3_eq]; unfold code_args_R3_F
      exact ⟨by rw [e2 rfl, ← g4]; rfl, rfl⟩
  have ev : argsV n = match isCall (n % 32) with | none => -1 | some (a, b) => if n % 1024 / 32 < a ∨ b < n % 1024 / 32 ∨ (0 < n / 1024 ∧ n % 32 ≠ 17 ∧ n % 32 ≠ 18) then -1 else n % 1024 / 32 := by
    unfold argsV; rw [if_neg (by omega)]; cases isCall (n % 32) <;> rfl
  have el : lm (n % 32) = (isCall (n % 32)).getD (0, 0) := rfl
  have ei : ∀ a b, isCall (n % 32) = some (a, b) → 1 ≤ b := fun a b hq => by
    unfold isCall at hq
    repeat' split at hq
    all_goals first | (injection hq with hq; injection hq with h1 h2; omega) | cases hq
  generalize hmm : n % 1024 / 32 = m at *
  generalize hrr : n / 1024 = r at *
  generalize hkk : n % 32 = k at *
  have key : ∀ ρ : Sl, ρ 3 = .int .u8 k → ρ 4 = .int .i64 m → ρ 5 = .int .i64 r → ρ 6 = .int .i64 (lm k).1 → ρ 7 = .int .i64 (lm k).2 →
      sx fn_ Try.prog 82 code_args_R0 (retK Try.prog [ResultVar.tmp 2] fun v w' => v = .int .i64 (argsV n) ∧ w' = w) ρ w := by
    intro ρ g3 g4 g5 g6 g7
    rw [code_args_R0_eq]; unfold code_args_R0_F
    rw [g3, g4, g5, g6, g7, BK_eql]
    cases hic : isCall k with
    | none =>
      rw [hic] at ev el
      dsimp only at ev
      rw [el]
      simp only [Option.getD_none, beq_self_eq_true, ↓VG_u, ↓UG_u, ↓MG_u, ↓NG_u, ↓PG_u, ↓BG_u, ↓CG_u, ↓IG_u, ↓VGtt, ↓VGtf, ↓VGft, ↓VGff, ↓UGtt, ↓UGtf, ↓UGft, ↓UGff, ↓MGtt, ↓MGtf, ↓MGft, ↓MGff, ↓NGtt, ↓NGtf, ↓NGft, ↓NGff, ↓PGtt, ↓PGtf, ↓PGft, ↓PGff, ↓BGtt, ↓BGtf, ↓BGft, ↓BGff, ↓CGtt, ↓CGtf, ↓CGft, ↓CGff, ↓IGtt, ↓IGtf, ↓IGft, ↓IGff, ↓PKt, ↓PKf, ↓CDt, ↓CDf, ↓NOTt, ↓NOTf, ↓NK_ptr]
      exact fin _ true rfl (by exact g4) (fun _ => ev) (fun q => by cases q)
    | some ab =>
      obtain ⟨a, b⟩ := ab
      have hb1 := ei a b hic
      rw [hic] at ev el
      dsimp only at ev
      rw [el]
      simp only [Option.getD_some, beq_eq_false_iff_ne.2 (show b ≠ 0 by omega), ↓VG_u, ↓UG_u, ↓MG_u, ↓NG_u, ↓PG_u, ↓BG_u, ↓CG_u, ↓IG_u, ↓VGtt, ↓VGtf, ↓VGft, ↓VGff, ↓UGtt, ↓UGtf, ↓UGft, ↓UGff, ↓MGtt, ↓MGtf, ↓MGft, ↓MGff, ↓NGtt, ↓NGtf, ↓NGft, ↓NGff, ↓PGtt, ↓PGtf, ↓PGft, ↓PGff, ↓BGtt, ↓BGtf, ↓BGft, ↓BGff, ↓CGtt, ↓CGtf, ↓CGft, ↓CGff, ↓IGtt, ↓IGtf, ↓IGft, ↓IGff, ↓PKt, ↓PKf, ↓CDt, ↓CDf, ↓NOTt, ↓NOTf, ↓NK_ptr, ↓BK_lss]
      by_cases c1 : m < a
      · simp only [c1, decide_true, ↓VG_u, ↓UG_u, ↓MG_u, ↓NG_u, ↓PG_u, ↓BG_u, ↓CG_u, ↓IG_u, ↓VGtt, ↓VGtf, ↓VGft, ↓VGff, ↓UGtt, ↓UGtf, ↓UGft, ↓UGff, ↓MGtt, ↓MGtf, ↓MGft, ↓MGff, ↓NGtt, ↓NGtf, ↓NGft, ↓NGff, ↓PGtt, ↓PGtf, ↓PGft, ↓PGff, ↓BGtt, ↓BGtf, ↓BGft, ↓BGff, ↓CGtt, ↓CGtf, ↓CGft, ↓CGff, ↓IGtt, ↓IGtf, ↓IGft, ↓IGff, ↓PKt, ↓PKf, ↓CDt, ↓CDf, ↓NOTt, ↓NOTf, ↓NK_ptr]
        exact fin _ true rfl (by exact g4) (fun _ => by rw [ev, if_pos (.inl c1)]) (fun q => by cases q)
      simp only [c1, decide_false, ↓VG_u, ↓UG_u, ↓MG_u, ↓NG_u, ↓PG_u, ↓BG_u, ↓CG_u, ↓IG_u, ↓VGtt, ↓VGtf, ↓VGft, ↓VGff, ↓UGtt, ↓UGtf, ↓UGft, ↓UGff, ↓MGtt, ↓MGtf, ↓MGft, ↓MGff, ↓NGtt, ↓NGtf, ↓NGft, ↓NGff, ↓PGtt, ↓PGtf, ↓PGft, ↓PGff, ↓BGtt, ↓BGtf, ↓BGft, ↓BGff, ↓CGtt, ↓CGtf, ↓CGft, ↓CGff, ↓IGtt, ↓IGtf, ↓IGft, ↓IGff, ↓PKt, ↓PKf, ↓CDt, ↓CDf, ↓NOTt, ↓NOTf, ↓NK_ptr, ↓BK_gtr]
      by_cases c2 : b < m
      · simp only [c2, decide_true, ↓VG_u, ↓UG_u, ↓MG_u, ↓NG_u, ↓PG_u, ↓BG_u, ↓CG_u, ↓IG_u, ↓VGtt, ↓VGtf, ↓VGft, ↓VGff, ↓UGtt, ↓UGtf, ↓UGft, ↓UGff, ↓MGtt, ↓MGtf, ↓MGft, ↓MGff, ↓NGtt, ↓NGtf, ↓NGft, ↓NGff, ↓PGtt, ↓PGtf, ↓PGft, ↓PGff, ↓BGtt, ↓BGtf, ↓BGft, ↓BGff, ↓CGtt, ↓CGtf, ↓CGft, ↓CGff, ↓IGtt, ↓IGtf, ↓IGft, ↓IGff, ↓PKt, ↓PKf, ↓CDt, ↓CDf, ↓NOTt, ↓NOTf, ↓NK_ptr]
        exact fin _ true rfl (by exact g4) (fun _ => by rw [ev, if_pos (.inr (.inl c2))]) (fun q => by cases q)
      simp only [c2, decide_false, ↓VG_u, ↓UG_u, ↓MG_u, ↓NG_u, ↓PG_u, ↓BG_u, ↓CG_u, ↓IG_u, ↓VGtt, ↓VGtf, ↓VGft, ↓VGff, ↓UGtt, ↓UGtf, ↓UGft, ↓UGff, ↓MGtt, ↓MGtf, ↓MGft, ↓MGff, ↓NGtt, ↓NGtf, ↓NGft, ↓NGff, ↓PGtt, ↓PGtf, ↓PGft, ↓PGff, ↓BGtt, ↓BGtf, ↓BGft, ↓BGff, ↓CGtt, ↓CGtf, ↓CGft, ↓CGff, ↓IGtt, ↓IGtf, ↓IGft, ↓IGff, ↓PKt, ↓PKf, ↓CDt, ↓CDf, ↓NOTt, ↓NOTf, ↓NK_ptr, ↓BK_gtr]
      by_cases c3 : 0 < r
      · simp only [c3, decide_true, ↓VG_u, ↓UG_u, ↓MG_u, ↓NG_u, ↓PG_u, ↓BG_u, ↓CG_u, ↓IG_u, ↓VGtt, ↓VGtf, ↓VGft, ↓VGff, ↓UGtt, ↓UGtf, ↓UGft, ↓UGff, ↓MGtt, ↓MGtf, ↓MGft, ↓MGff, ↓NGtt, ↓NGtf, ↓NGft, ↓NGff, ↓PGtt, ↓PGtf, ↓PGft, ↓PGff, ↓BGtt, ↓BGtf, ↓BGft, ↓BGff, ↓CGtt, ↓CGtf, ↓CGft, ↓CGff, ↓IGtt, ↓IGtf, ↓IGft, ↓IGff, ↓PKt, ↓PKf, ↓CDt, ↓CDf, ↓NOTt, ↓NOTf, ↓NK_ptr, ↓BK_neq]
        by_cases c4 : k = 17
        · simp only [c4, ↓VG_u, ↓UG_u, ↓MG_u, ↓NG_u, ↓PG_u, ↓BG_u, ↓CG_u, ↓IG_u, ↓VGtt, ↓VGtf, ↓VGft, ↓VGff, ↓UGtt, ↓UGtf, ↓UGft, ↓UGff, ↓MGtt, ↓MGtf, ↓MGft, ↓MGff, ↓NGtt, ↓NGtf, ↓NGft, ↓NGff, ↓PGtt, ↓PGtf, ↓PGft, ↓PGff, ↓BGtt, ↓BGtf, ↓BGft, ↓BGff, ↓CGtt, ↓CGtf, ↓CGft, ↓CGff, ↓IGtt, ↓IGtf, ↓IGft, ↓IGff, ↓PKt, ↓PKf, ↓CDt, ↓CDf, ↓NOTt, ↓NOTf, ↓NK_ptr, ↓BK_neq, bne_self_eq_false]
          exact fin _ false rfl (by exact g4) (fun q => by cases q) (fun _ => by rw [ev, if_neg (by omega)])
        · simp only [bne_iff_ne.2 c4, ↓VG_u, ↓UG_u, ↓MG_u, ↓NG_u, ↓PG_u, ↓BG_u, ↓CG_u, ↓IG_u, ↓VGtt, ↓VGtf, ↓VGft, ↓VGff, ↓UGtt, ↓UGtf, ↓UGft, ↓UGff, ↓MGtt, ↓MGtf, ↓MGft, ↓MGff, ↓NGtt, ↓NGtf, ↓NGft, ↓NGff, ↓PGtt, ↓PGtf, ↓PGft, ↓PGff, ↓BGtt, ↓BGtf, ↓BGft, ↓BGff, ↓CGtt, ↓CGtf, ↓CGft, ↓CGff, ↓IGtt, ↓IGtf, ↓IGft, ↓IGff, ↓PKt, ↓PKf, ↓CDt, ↓CDf, ↓NOTt, ↓NOTf, ↓NK_ptr, ↓BK_neq]
          by_cases c5 : k = 18
          · simp only [c5, ↓VG_u, ↓UG_u, ↓MG_u, ↓NG_u, ↓PG_u, ↓BG_u, ↓CG_u, ↓IG_u, ↓VGtt, ↓VGtf, ↓VGft, ↓VGff, ↓UGtt, ↓UGtf, ↓UGft, ↓UGff, ↓MGtt, ↓MGtf, ↓MGft, ↓MGff, ↓NGtt, ↓NGtf, ↓NGft, ↓NGff, ↓PGtt, ↓PGtf, ↓PGft, ↓PGff, ↓BGtt, ↓BGtf, ↓BGft, ↓BGff, ↓CGtt, ↓CGtf, ↓CGft, ↓CGff, ↓IGtt, ↓IGtf, ↓IGft, ↓IGff, ↓PKt, ↓PKf, ↓CDt, ↓CDf, ↓NOTt, ↓NOTf, ↓NK_ptr, ↓BK_neq, bne_self_eq_false]
            exact fin _ false rfl (by exact g4) (fun q => by cases q) (fun _ => by rw [ev, if_neg (by omega)])
          · simp only [bne_iff_ne.2 c5, ↓VG_u, ↓UG_u, ↓MG_u, ↓NG_u, ↓PG_u, ↓BG_u, ↓CG_u, ↓IG_u, ↓VGtt, ↓VGtf, ↓VGft, ↓VGff, ↓UGtt, ↓UGtf, ↓UGft, ↓UGff, ↓MGtt, ↓MGtf, ↓MGft, ↓MGff, ↓NGtt, ↓NGtf, ↓NGft, ↓NGff, ↓PGtt, ↓PGtf, ↓PGft, ↓PGff, ↓BGtt, ↓BGtf, ↓BGft, ↓BGff, ↓CGtt, ↓CGtf, ↓CGft, ↓CGff, ↓IGtt, ↓IGtf, ↓IGft, ↓IGff, ↓PKt, ↓PKf, ↓CDt, ↓CDf, ↓NOTt, ↓NOTf, ↓NK_ptr, ↓BK_neq]
            exact fin _ true rfl (by exact g4) (fun _ => by rw [ev, if_pos (.inr (.inr ⟨c3, c4, c5⟩))]) (fun q => by cases q)
      · simp only [c3, decide_false, ↓VG_u, ↓UG_u, ↓MG_u, ↓NG_u, ↓PG_u, ↓BG_u, ↓CG_u, ↓IG_u, ↓VGtt, ↓VGtf, ↓VGft, ↓VGff, ↓UGtt, ↓UGtf, ↓UGft, ↓UGff, ↓MGtt, ↓MGtf, ↓MGft, ↓MGff, ↓NGtt, ↓NGtf, ↓NGft, ↓NGff, ↓PGtt, ↓PGtf, ↓PGft, ↓PGff, ↓BGtt, ↓BGtf, ↓BGft, ↓BGff, ↓CGtt, ↓CGtf, ↓CGft, ↓CGff, ↓IGtt, ↓IGtf, ↓IGft, ↓IGff, ↓PKt, ↓PKf, ↓CDt, ↓CDf, ↓NOTt, ↓NOTf, ↓NK_ptr]
        exact fin _ false rfl (by exact g4) (fun q => by cases q) (fun _ => by rw [ev, if_neg (by omega)])
  by_cases d1 : 1 ≤ k
  · simp only [d1, decide_true, ↓VG_u, ↓UG_u, ↓MG_u, ↓NG_u, ↓PG_u, ↓BG_u, ↓CG_u, ↓IG_u, ↓VGtt, ↓VGtf, ↓VGft, ↓VGff, ↓UGtt, ↓UGtf, ↓UGft, ↓UGff, ↓MGtt, ↓MGtf, ↓MGft, ↓MGff, ↓NGtt, ↓NGtf, ↓NGft, ↓NGff, ↓PGtt, ↓PGtf, ↓PGft, ↓PGff, ↓BGtt, ↓BGtf, ↓BGft, ↓BGff, ↓CGtt, ↓CGtf, ↓CGft, ↓CGff, ↓IGtt, ↓IGtf, ↓IGft, ↓IGff, ↓PKt, ↓PKf, ↓CDt, ↓CDf, ↓NOTt, ↓NOTf, ↓NK_ptr, ↓BK_leq]
    refine args_R1 (k := k) rfl ?_ rfl rfl fun ρ' a1 a2 a3 a4 a5 => ?_
    · show Value.bool (decide (k ≤ 5)) = _
      simp [d1]
    · exact key ρ' (by rw [a1]; rfl) (by rw [a2]; rfl) (by rw [a3]; rfl) a4 a5
  · simp only [d1, decide_false, ↓VG_u, ↓UG_u, ↓MG_u, ↓NG_u, ↓PG_u, ↓BG_u, ↓CG_u, ↓IG_u, ↓VGtt, ↓VGtf, ↓VGft, ↓VGff, ↓UGtt, ↓UGtf, ↓UGft, ↓UGff, ↓MGtt, ↓MGtf, ↓MGft, ↓MGff, ↓NGtt, ↓NGtf, ↓NGft, ↓NGff, ↓PGtt, ↓PGtf, ↓PGft, ↓PGff, ↓BGtt, ↓BGtf, ↓BGft, ↓BGff, ↓CGtt, ↓CGtf, ↓CGft, ↓CGff, ↓IGtt, ↓IGtf, ↓IGft, ↓IGff, ↓PKt, ↓PKf, ↓CDt, ↓CDf, ↓NOTt, ↓NOTf, ↓NK_ptr]
    refine args_R1 (k := k) rfl ?_ rfl rfl fun ρ' a1 a2 a3 a4 a5 => ?_
    · show Value.bool false = _
      simp [d1]
    · exact key ρ' (by rw [a1]; rfl) (by rw [a2]; rfl) (by rw [a3]; rfl) a4 a5
end Go.Proofs.Ytmbgbffgkdcieaa.Tr
set_option linter.unusedVariables false
set_option linter.unusedSimpArgs false
set_option maxRecDepth 4000
namespace Go.Proofs.Ytmbgbffgkdcieaa.Tr
open Go Go.X Go.RowKit Go.Proofs.Ytmbgbffgkdcieaa.XF Go.Proofs.Ytmbgbffgkdcieaa.XK
def pgC (P : Pg) (A A' : Option Addr) (c c' : Nat) : List Value := [.slice A P.code.length c, .int .i64 P.vars, .slice A' P.arrs.length c']
abbrev TR (P : Pg) (i : Ins) (w0 : World) : Value → World → Prop := fun v w' => v = .tuple #[.int .i64 (P.tk i).1, .int .i64 (P.tk i).2.1, .bool (P.tk i).2.2] ∧ Mod none_ w0 w'
abbrev TK (P : Pg) (i : Ins) (w0 : World) : Exit → Sl → World → Prop := retK Try.prog [ResultVar.tmp 4, ResultVar.tmp 5, ResultVar.tmp 6] (TR P i w0)
abbrev TK2 (P : Pg) (i : Ins) (w0 : World) : Exit → Sl → World → Prop := blkK 0 (seqK (sx fn_ Try.prog 102 code_Program_takes_R2 (TK P i w0)) (TK P i w0))
structure TkC (P : Pg) (i : Ins) (A A' : Option Addr) (c c' : Nat) (w0 w : World) (b1 b2 : Nat) (ρ : Sl) : Prop where
  h2 : ρ 2 = .pointer (some ⟨b1, 0, none⟩)
  h3 : ρ 3 = .pointer (some ⟨b2, 0, none⟩)
  h12 : ρ 12 = .int .u8 i.op
  h6 : ρ 6 = .bool (decide (i.n = 0))
  b1 : w.heap[b1]? = some (.cells (pgC P A A' c c').toArray 28 (0, 0))
  b2 : w.heap[b2]? = some (.cells i.cells.toArray 30 (0, 0))
  m : Mod none_ w0 w
theorem TkC.up {P : Pg} {i : Ins} {A A' : Option Addr} {c c' : Nat} {w0 w : World} {b1 b2 : Nat} {ρ ρ' : Sl} (h : TkC P i A A' c c' w0 w b1 b2 ρ) (e2 : ρ' 2 = ρ 2) (e3 : ρ' 3 = ρ 3) (e12 : ρ' 12 = ρ 12) (e6 : ρ' 6 = ρ 6) : TkC P i A A' c c' w0 w b1 b2 ρ' :=
  ⟨e2.trans h.h2, e3.trans h.h3, e12.trans h.h12, e6.trans h.h6, h.b1, h.b2, h.m⟩
section
variable {P : Pg} {i : Ins} {A A' : Option Addr} {c c' : Nat} {w0 w : World} {b1 b2 : Nat} {ρ : Sl}
theorem TkC.g0 (h : TkC P i A A' c c' w0 w b1 b2 ρ) : FO Try.prog w 30 0 0 ⟨b2, 0, none⟩ 5 (.int .u8 i.op) := FO.blk h.b2 (by kernel_rfl) vU8 rfl rfl
theorem TkC.g1 (h : TkC P i A A' c c' w0 w b1 b2 ρ) : FO Try.prog w 30 1 1 ⟨b2, 0, none⟩ 2 (.int .i64 i.n) := FO.blk h.b2 (by kernel_rfl) vN rfl rfl
theorem TkC.f0 (h : TkC P i A A' c c' w0 w b1 b2 ρ) : FO Try.prog w 28 0 0 ⟨b1, 0, none⟩ 25 (.slice A P.code.length c) := FO.blk h.b1 (by kernel_rfl) vCs rfl rfl
theorem TkC.f1 (h : TkC P i A A' c c' w0 w b1 b2 ρ) : FO Try.prog w 28 1 1 ⟨b1, 0, none⟩ 3 (.int .i64 P.vars) := FO.blk h.b1 (by kernel_rfl) vI rfl rfl
theorem TkC.f2 (h : TkC P i A A' c c' w0 w b1 b2 ρ) : FO Try.prog w 28 2 2 ⟨b1, 0, none⟩ 26 (.slice A' P.arrs.length c') := FO.blk h.b1 (by kernel_rfl) vIs rfl rfl
theorem takes_R2 (h : TkC P i A A' c c' w0 w b1 b2 ρ) (e : P.tk i = (2, 1, decide (i.n = 0) && decide (10 ≤ i.op) && decide (i.op ≤ 20))) : sx fn_ Try.prog 102 code_Program_takes_R2 (TK P i w0) ρ w := by
  rw [code_Program_takes_R2_eq]; unfold code_Program_takes_R2_F
  refine code_Program_takes_R4_quiet (D := []) (fun w' => Mod none_ w w') ((Mod.refl _ w).drawn _) ?_
  unfold code_Program_takes_R4_Q
  have cl : ∀ w', Mod none_ w w' → w'.cell? ((⟨b2, 0, none⟩ : Addr).add 0) = some (.int .u8 i.op) := fun w' hw => by rw [add_pl, cell_blk (hw.blk h.b2 id)]; rfl
  rw [h.h6, h.h3]
  by_cases z : i.n = 0
  · rw [decide_eq_true z]
    simp only [QG_b, if_true]
    refine Qfo (off := 0) (a := ⟨b2, 0, none⟩) (by kernel_rfl) (Qld vU8 rfl (v := .int .u8 i.op) cl (Qgeq (QP_of ?_)))
    simp only [if_true]
    by_cases z1 : 10 ≤ i.op
    · rw [decide_eq_true z1]
      simp only [QG_b, if_true]
      refine Qfo (off := 0) (a := ⟨b2, 0, none⟩) (by kernel_rfl) (Qld vU8 rfl (v := .int .u8 i.op) cl (Qleq (QP_of ?_)))
      intro w2 hm2
      rw [sq_n, code_Program_takes_R5_eq]; unfold code_Program_takes_R5_F
      refine ⟨?_, h.m.trans hm2⟩
      rw [e, decide_eq_true z, decide_eq_true z1]; rfl
    · rw [decide_eq_false z1]
      simp only [QG_b, Bool.false_eq_true, if_false]
      refine QP_of ?_
      intro w2 hm2
      rw [sq_n, code_Program_takes_R5_eq]; unfold code_Program_takes_R5_F
      refine ⟨?_, h.m.trans hm2⟩
      rw [e, decide_eq_true z, decide_eq_false z1]; rfl
  · rw [decide_eq_false z]
    simp only [QG_b, Bool.false_eq_true, if_false]
    refine QP_of ?_
    simp only [QG_b, Bool.false_eq_true, if_false]
    refine QP_of ?_
    intro w2 hm2
    rw [sq_n, code_Program_takes_R5_eq]; unfold code_Program_takes_R5_F
    refine ⟨?_, h.m.trans hm2⟩
    rw [e, decide_eq_false z]; rfl
theorem tk_else (hn : i.op ≠ 1 ∧ i.op ≠ 2 ∧ i.op ≠ 3 ∧ i.op ≠ 4 ∧ i.op ≠ 5 ∧ i.op ≠ 7 ∧ i.op ≠ 6 ∧ i.op ≠ 8 ∧ i.op ≠ 9 ∧ i.op ≠ 21 ∧ i.op ≠ 25 ∧ i.op ≠ 27 ∧ i.op ≠ 26 ∧ i.op ≠ 22 ∧ i.op ≠ 23 ∧ i.op ≠ 24 ∧ i.op ≠ 28 ∧ i.op ≠ 29) : P.tk i = (2, 1, decide (i.n = 0) && decide (10 ≤ i.op) && decide (i.op ≤ 20)) := by
  obtain ⟨n1, n2, n3, n4, n5, n7, n6, n8, n9, n21, n25, n27, n26, n22, n23, n24, n28, n29⟩ := hn
  unfold Pg.tk
  simp only [*, if_false, or_self]
theorem takes_R6 (h : TkC P i A A' c c' w0 w b1 b2 ρ) {b : Bool} (h71 : ρ 71 = .bool b) (hb : b = true → i.op = 23 ∨ i.op = 24) (hn : b = false → i.op ≠ 1 ∧ i.op ≠ 2 ∧ i.op ≠ 3 ∧ i.op ≠ 4 ∧ i.op ≠ 5 ∧ i.op ≠ 7 ∧ i.op ≠ 6 ∧ i.op ≠ 8 ∧ i.op ≠ 9 ∧ i.op ≠ 21 ∧ i.op ≠ 25 ∧ i.op ≠ 27 ∧ i.op ≠ 26 ∧ i.op ≠ 22 ∧ i.op ≠ 23 ∧ i.op ≠ 24) : sx fn_ Try.prog 102 code_Program_takes_R6 (TK2 P i w0) ρ w := by
  rw [code_Program_takes_R6_eq]; unfold code_Program_takes_R6_F
  rw [h71]
  cases b with
  | true =>
    refine condT ?_
    have e : P.tk i = (1, 0, inV i.n P.code.length) := by unfold Pg.tk; rcases hb rfl with q | q <;> simp [q]
    rw [h.h3, h.h2, h.g1.e, h.f0.e, len_sl vCs]
    refine CK_st Try.func51 rfl rfl (in_ok _ _ _) ?_
    rintro _ w' ⟨rfl, rfl⟩
    exact ⟨by rw [e]; rfl, h.m⟩
  | false =>
    refine condF ?_
    obtain ⟨n1, n2, n3, n4, n5, n7, n6, n8, n9, n21, n25, n27, n26, n22, n23, n24⟩ := hn rfl
    rw [h.h12]
    refine caseI (fun q => ?_) (fun q28 => ?_)
    · refine condT ?_
      have e : P.tk i = (argsV i.n, 0, decide (0 ≤ argsV i.n)) := by unfold Pg.tk; simp [q]
      rw [h.h3, h.g1.e]
      refine CK_st Try.func52 rfl rfl (args_ok _ _) ?_
      rintro _ w' ⟨rfl, rfl⟩
      rw [BK_geq]
      exact ⟨by rw [e]; rfl, h.m⟩
    refine condF ?_
    refine caseI (fun q => ?_) (fun q29 => ?_)
    · refine condT ?_
      have e : P.tk i = (0, 0, decide (i.n = 0)) := by unfold Pg.tk; simp [q]
      exact ⟨by rw [e, ← h.h6]; rfl, h.m⟩
    refine condF ?_
    unfold TK2
    rw [bk_n, sq_n]
    exact takes_R2 (h.up rfl rfl rfl rfl) (tk_else ⟨n1, n2, n3, n4, n5, n7, n6, n8, n9, n21, n25, n27, n26, n22, n23, n24, q28, q29⟩)
theorem takes_R3 (h : TkC P i A A' c c' w0 w b1 b2 ρ) {b : Bool} (h56 : ρ 56 = .bool b) (hb : b = true → i.op = 25 ∨ i.op = 27) (hn : b = false → i.op ≠ 1 ∧ i.op ≠ 2 ∧ i.op ≠ 3 ∧ i.op ≠ 4 ∧ i.op ≠ 5 ∧ i.op ≠ 7 ∧ i.op ≠ 6 ∧ i.op ≠ 8 ∧ i.op ≠ 9 ∧ i.op ≠ 21 ∧ i.op ≠ 25 ∧ i.op ≠ 27) : sx fn_ Try.prog 102 code_Program_takes_R3 (TK2 P i w0) ρ w := by
  rw [code_Program_takes_R3_eq]; unfold code_Program_takes_R3_F
  rw [h56]
  cases b with
  | true =>
    refine condT ?_
    have e : P.tk i = (1, 0, decide (i.n = 0)) := by unfold Pg.tk; rcases hb rfl with q | q <;> simp [q]
    exact ⟨by rw [e, ← h.h6]; rfl, h.m⟩
  | false =>
    refine condF ?_
    obtain ⟨n1, n2, n3, n4, n5, n7, n6, n8, n9, n21, n25, n27⟩ := hn rfl
    rw [h.h12]
    refine caseI (fun q => ?_) (fun n26 => ?_)
    · refine condT ?_
      have e : P.tk i = (1, 2, decide (i.n = 0)) := by unfold Pg.tk; simp [q]
      exact ⟨by rw [e, ← h.h6]; rfl, h.m⟩
    refine condF ?_
    refine caseI (fun q => ?_) (fun n22 => ?_)
    · refine condT ?_
      have e : P.tk i = (0, 0, inV i.n P.code.length) := by unfold Pg.tk; simp [q]
      rw [h.h3, h.h2, h.g1.e, h.f0.e, len_sl vCs]
      refine CK_st Try.func51 rfl rfl (in_ok _ _ _) ?_
      rintro _ w' ⟨rfl, rfl⟩
      exact ⟨by rw [e]; rfl, h.m⟩
    refine condF ?_
    refine caseI (fun q => ?_) (fun n23 => ?_)
    · refine condT ?_
      exact takes_R6 (h.up rfl rfl rfl rfl) (b := true) rfl (fun _ => .inl q) (fun z => by cases z)
    refine condF ?_
    refine caseI (fun q => ?_) (fun n24 => ?_)
    · exact takes_R6 (h.up rfl rfl rfl rfl) (b := true) rfl (fun _ => .inr q) (fun z => by cases z)
    exact takes_R6 (h.up rfl rfl rfl rfl) (b := false) rfl (fun z => by cases z) (fun _ => ⟨n1, n2, n3, n4, n5, n7, n6, n8, n9, n21, n25, n27, n26, n22, n23, n24⟩)
theorem takes_R1 (h : TkC P i A A' c c' w0 w b1 b2 ρ) {b : Bool} (h50 : ρ 50 = .bool b) (hb : b = true → i.op = 6 ∨ i.op = 8 ∨ i.op = 9 ∨ i.op = 21) (hn : b = false → i.op ≠ 1 ∧ i.op ≠ 2 ∧ i.op ≠ 3 ∧ i.op ≠ 4 ∧ i.op ≠ 5 ∧ i.op ≠ 7 ∧ i.op ≠ 6 ∧ i.op ≠ 8 ∧ i.op ≠ 9 ∧ i.op ≠ 21) : sx fn_ Try.prog 102 code_Program_takes_R1 (TK2 P i w0) ρ w := by
  rw [code_Program_takes_R1_eq]; unfold code_Program_takes_R1_F
  rw [h50]
  cases b with
  | true =>
    refine condT ?_
    have e : P.tk i = (1, 1, decide (i.n = 0)) := by unfold Pg.tk; rcases hb rfl with q | q | q | q <;> simp [q]
    exact ⟨by rw [e, ← h.h6]; rfl, h.m⟩
  | false =>
    refine condF ?_
    obtain ⟨n1, n2, n3, n4, n5, n7, n6, n8, n9, n21⟩ := hn rfl
    rw [h.h12]
    refine caseI (fun q => ?_) (fun n25 => ?_)
    · refine condT ?_
      exact takes_R3 (h.up rfl rfl rfl rfl) (b := true) rfl (fun _ => .inl q) (fun z => by cases z)
    refine condF ?_
    refine caseI (fun q => ?_) (fun n27 => ?_)
    · exact takes_R3 (h.up rfl rfl rfl rfl) (b := true) rfl (fun _ => .inr q) (fun z => by cases z)
    exact takes_R3 (h.up rfl rfl rfl rfl) (b := false) rfl (fun z => by cases z) (fun _ => ⟨n1, n2, n3, n4, n5, n7, n6, n8, n9, n21, n25, n27⟩)
theorem takes_R0 (h : TkC P i A A' c c' w0 w b1 b2 ρ) {b : Bool} (h50 : ρ 50 = .bool b) (hb : b = true → i.op = 6) (hn : b = false → i.op ≠ 1 ∧ i.op ≠ 2 ∧ i.op ≠ 3 ∧ i.op ≠ 4 ∧ i.op ≠ 5 ∧ i.op ≠ 7 ∧ i.op ≠ 6) : sx fn_ Try.prog 102 code_Program_takes_R0 (seqK (sx fn_ Try.prog 102 code_Program_takes_R1 (TK2 P i w0)) (TK2 P i w0)) ρ w := by
  rw [code_Program_takes_R0_eq]; unfold code_Program_takes_R0_F
  rw [h50]
  cases b with
  | true =>
    refine condT ?_
    rw [sq_n]
    exact takes_R1 h (b := true) h50 (fun _ => .inl (hb rfl)) (fun z => by cases z)
  | false =>
    refine condF ?_
    obtain ⟨n1, n2, n3, n4, n5, n7, n6⟩ := hn rfl
    rw [h.h12]
    refine caseI (fun q => ?_) (fun n8 => ?_)
    · refine condT ?_
      exact takes_R1 (h.up rfl rfl rfl rfl) (b := true) rfl (fun _ => .inr (.inl q)) (fun z => by cases z)
    refine condF ?_
    refine caseI (fun q => ?_) (fun n9 => ?_)
    · refine condT ?_
      exact takes_R1 (h.up rfl rfl rfl rfl) (b := true) rfl (fun _ => .inr (.inr (.inl q))) (fun z => by cases z)
    refine condF ?_
    refine caseI (fun q => ?_) (fun n21 => ?_)
    · exact takes_R1 (h.up rfl rfl rfl rfl) (b := true) rfl (fun _ => .inr (.inr (.inr q))) (fun z => by cases z)
    exact takes_R1 (h.up rfl rfl rfl rfl) (b := false) rfl (fun z => by cases z) (fun _ => ⟨n1, n2, n3, n4, n5, n7, n6, n8, n9, n21⟩)
end
theorem takes_ok {P : Pg} {i : Ins} {A A' : Option Addr} {c c' : Nat} (w : World) : Rt Try.prog 34 #[.agg (pgC P A A' c c').toArray, .agg i.cells.toArray] w (TR P i w) := by
  refine code_Program_takes_calls ?_
  unfold code_Program_takes_F
  refine box_k (cs := (pgC P A A' c c').toArray) rfl fun w1 hb1 hm1 hz1 => ?_
  refine box_k (cs := i.cells.toArray) rfl fun w2 hb2 hm2 hz2 => ?_
  have h : TkC P i A A' c c' w w2 w.heap.size w1.heap.size (fun k => if k = 2 then .pointer (some ⟨w.heap.size, 0, none⟩) else if k = 3 then .pointer (some ⟨w1.heap.size, 0, none⟩) else if k = 12 then .int .u8 i.op else .bool (decide (i.n = 0))) :=
    ⟨rfl, rfl, rfl, rfl, hm2.blk hb1 id, hb2, hm1.trans hm2⟩
  rw [h.g1.e, BK_eql, h.g0.e]
  have ez : (i.n == 0) = decide (i.n = 0) := rfl
  rw [ez]
  refine caseI (fun q => ?_) (fun n1 => ?_)
  · refine condT ?_
    exact ⟨by rw [show P.tk i = (0, 1, true) by unfold Pg.tk; simp [q]], h.m⟩
  refine condF ?_
  refine caseI (fun q => ?_) (fun n2 => ?_)
  · refine condT ?_
    rw [h.g1.e, h.f1.e]
    refine CK_st Try.func51 rfl rfl (in_ok _ _ _) ?_
    rintro _ w' ⟨rfl, rfl⟩
    exact ⟨by rw [show P.tk i = (0, 1, inV i.n P.vars) by unfold Pg.tk; simp [q]], h.m⟩
  refine condF ?_
  refine caseI (fun q => ?_) (fun n3 => ?_)
  · refine condT ?_
    rw [h.g1.e, h.f1.e]
    refine CK_st Try.func51 rfl rfl (in_ok _ _ _) ?_
    rintro _ w' ⟨rfl, rfl⟩
    exact ⟨by rw [show P.tk i = (1, 0, inV i.n P.vars) by unfold Pg.tk; simp [q]], h.m⟩
  refine condF ?_
  refine caseI (fun q => ?_) (fun n4 => ?_)
  · refine condT ?_
    rw [h.g1.e, h.f2.e, len_sl vIs]
    refine CK_st Try.func51 rfl rfl (in_ok _ _ _) ?_
    rintro _ w' ⟨rfl, rfl⟩
    exact ⟨by rw [show P.tk i = (1, 1, inV i.n P.arrs.length) by unfold Pg.tk; simp [q]], h.m⟩
  refine condF ?_
  refine caseI (fun q => ?_) (fun n5 => ?_)
  · refine condT ?_
    rw [h.g1.e, h.f2.e, len_sl vIs]
    refine CK_st Try.func51 rfl rfl (in_ok _ _ _) ?_
    rintro _ w' ⟨rfl, rfl⟩
    exact ⟨by rw [show P.tk i = (2, 0, inV i.n P.arrs.length) by unfold Pg.tk; simp [q]], h.m⟩
  refine condF ?_
  refine caseI (fun q => ?_) (fun n7 => ?_)
  · refine condT ?_
    rw [h.g1.e]
    refine CK_st Try.func51 rfl rfl (in_ok _ _ _) ?_
    rintro _ w' ⟨rfl, rfl⟩
    exact ⟨by rw [show P.tk i = (0, 1, inV i.n 10) by unfold Pg.tk; simp [q]], h.m⟩
  refine condF ?_
  refine caseI (fun q => ?_) (fun n6 => ?_)
  · exact takes_R0 (h.up rfl rfl rfl rfl) (b := true) rfl (fun _ => q) (fun z => by cases z)
  exact takes_R0 (h.up rfl rfl rfl rfl) (b := false) rfl (fun z => by cases z) (fun _ => ⟨n1, n2, n3, n4, n5, n7, n6⟩)
end Go.Proofs.Ytmbgbffgkdcieaa.Tr
set_option linter.unusedVariables false
set_option linter.unusedSimpArgs false
set_option maxRecDepth 4000
namespace Go.Proofs.Ytmbgbffgkdcieaa.Tr
open Go Go.X Go.RowKit Go.Proofs.Ytmbgbffgkdcieaa.XF Go.Proofs.Ytmbgbffgkdcieaa.XK
section
variable {P : Program} {w : World} {K : Value → World → Prop}
theorem BK_mask {t : TypeId} {x y : Operand} {a : Int} (h0 : 0 ≤ a) (h1 : a < 4294967296) : BK P .and t x y (.int .u64 a) (.int .u64 4294967295) w K = K (.int .u64 a) w := by
  refine BK_of rfl ?_
  rw [binOp_and, intBits_and]
  have h := bits_and_u64_nat a.toNat 4294967295 (by omega) (by omega)
  have e : a.toNat &&& 4294967295 = a.toNat % 4294967296 := Nat.and_two_pow_sub_one_eq_mod a.toNat 32
  rw [e, show a.toNat % 4294967296 = a.toNat by omega, show ((a.toNat : Nat) : Int) = a by omega] at h
  rw [show bits .and .u64 a 4294967295 = a from h]
  rfl
theorem BK_half {t : TypeId} {x y : Operand} {a : Int} (h0 : 0 ≤ a) (h1 : a < 4294967296) : BK P .shr t x y (.int .u64 a) (.int .u64 32) w K = K (.int .u64 0) w := by
  refine BK_of rfl ?_
  rw [binOp_shr, shift_shr_any _ _ _ _ (by decide)]
  have : a / 2 ^ min (Int.toNat 32) IntKind.u64.bits = 0 := by
    show a / 4294967296 = 0
    omega
  rw [this]
  rfl
theorem wrap_u {n : Int} (h0 : 0 ≤ n) (h1 : n < 18446744073709551616) : IntKind.u64.wrap n = n := by rw [IntKind.wrap_u64]; omega
end
theorem Mul64_one {n : Int} (h0 : 0 ≤ n) (h1 : n < 4294967296) (w : World) : Rt Try.prog 55 #[.int .u64 1, .int .u64 n] w fun v w' => v = .tuple #[.int .u64 0, .int .u64 n] ∧ w' = w := by
  refine math_bits_Mul64_calls ?_
  unfold math_bits_Mul64_F
  rw [BK_mask (by decide) (by decide), BK_half (by decide) (by decide), BK_mask h0 h1, BK_half h0 h1, BK_mul, BK_mul, BK_half (by rw [wrap_u (by omega) (by omega)]; omega) (by rw [wrap_u (by omega) (by omega)]; omega), BK_add]
  rw [math_bits_Mul64_R0_eq]; unfold math_bits_Mul64_R0_F
  simp only [sq_n, sq_x, sq_r, bk_n, bk_r, bk_x, rt_r, rt_n, rs_0, rs_t, pk_1, pk_2, up_at, reduceIte, Nat.reduceEqDiff]
  rw [show (0 : Int) * n = 0 by omega, show IntKind.u64.wrap (IntKind.u64.wrap 0 + 0) = 0 by decide]
  rw [BK_mask (by decide) (by decide), BK_half (by decide) (by decide), BK_mul, BK_add, BK_mul, BK_add, show IntKind.u64.wrap (0 + IntKind.u64.wrap (1 * 0)) = 0 by decide, BK_half (by decide) (by decide), BK_add]
  show BK Try.prog .mul _ _ _ (Value.int .u64 1) (Value.int .u64 n) w _
  rw [BK_mul]
  refine ⟨?_, rfl⟩
  show Value.tuple #[.int .u64 _, .int .u64 (IntKind.u64.wrap (1 * n))] = _
  rw [wrap_u (n := 1 * n) (by omega) (by omega), show (1 : Int) * n = n by omega]
  rfl
theorem Mul_one {n : Int} (h0 : 0 ≤ n) (h1 : n < 4294967296) (w : World) : Rt Try.prog 50 #[.int .u64 1, .int .u64 n] w fun v w' => v = .tuple #[.int .u64 0, .int .u64 n] ∧ w' = w := by
  refine math_bits_Mul_calls ?_
  unfold math_bits_Mul_F
  refine condF ?_
  refine CK_st Try.func55 rfl rfl (Mul64_one h0 h1 w) ?_
  rintro _ w' ⟨rfl, rfl⟩
  rw [extract_ok rfl, extract_ok rfl]
  exact ⟨rfl, rfl⟩
section
variable {P : Program} {w : World} {K : Value → World → Prop}
theorem mk_k {t e : TypeId} {q : IntKind} (ht : P.underlying t = some (.slice e)) (hi : (P.info? e).map (fun i => (i.zero, i.size, i.bytes)) = some (some (.int q 0), 1, 8)) {n : Nat} (hn : n ≤ 1048576)
    (hk : ∀ w', w'.heap[w.heap.size]? = some (.cells (Array.replicate n (.int q 0)) e (0, 0)) → Mod none_ w w' → w'.heap.size = w.heap.size + 1 → K (.slice (some ⟨w.heap.size, 0, none⟩) n n) w') : VK P (Instr.makeSlice t (.int .i64 (n : Int)) (.int .i64 (n : Int))) w K := by
  cases hq : P.info? e with
  | none => rw [hq] at hi; cases hi
  | some i =>
    rw [hq] at hi
    injection hi with hi
    injection hi with hz hi
    injection hi with hs hb
    have hrun := run_make (P := P) (w := w) t e i (.int q 0) ht hq hz .i64 .i64 n n (by omega) (by omega) (by rw [hb]; omega) (by omega)
    have ec : madeCells (Value.int q 0).cells ((n : Int).toNat * i.size) = Array.replicate n (.int q 0) := by
      rw [hs, Nat.mul_one, Int.toNat_natCast]
      apply Array.ext
      · rw [size_madeCells]; simp
      · intro j h1 h2
        simp [madeCells, Value.cells, Nat.mod_one]
    rw [ec, Int.toNat_natCast] at hrun
    exact VK_of hrun (hk _ (alloc_new w _) ((Mod.refl _ w).alloc _) (alloc_size w _))
theorem cp_k {t s e ty : TypeId} (ht : P.underlying t = some (.slice e)) (hs : (P.info? e).map (·.size) = some 1) {g o dLen dCap : Nat} {cur : Array Value} (hg : w.heap[g]? = some (.cells cur e (0, 0))) {src : Value} {m : Nat} {ys : List Value} (hr : reads w 1 src m ys) (h1 : ∀ v ∈ ys, v.oneCell' = true) (hfit : o + Nat.min m dLen ≤ cur.size)
    (hk : ∀ w', w'.heap[g]? = some (.cells (cur.toList.take o ++ ys.take dLen ++ cur.toList.drop (o + Nat.min m dLen)).toArray e (0, 0)) → Mod (fun b => b = g) w w' → w'.heap.size = w.heap.size → K (.int .i64 (Nat.min m dLen)) w') :
    IK P .copy #[t, s] ty [false, false] [.slice (some ⟨g, o, none⟩) dLen dCap, src] w K := by
  obtain ⟨hl, A, c, rfl, hnc, hr⟩ := hr
  have hl' : ys.length = m := by omega
  have el : (ys.take dLen).length = Nat.min m dLen := by rw [List.length_take, hl', Nat.min_comm]
  have hlt : g < w.heap.size := blk_lt hg
  rcases Nat.eq_zero_or_pos (Nat.min m dLen) with z | z
  · have hrun := run_copy_none (P := P) w t s ty e (some ⟨g, o, none⟩) A dLen dCap m c ht hs z
    refine IK_of (s := Builtin.copy_ #[t, s] ty #[.slice (some ⟨g, o, none⟩) dLen dCap, .slice A m c]) rfl hrun ?_
    have e0 : ys.take dLen = [] := List.length_eq_zero_iff.1 (by rw [el, z])
    have h2 := hk w (by rw [e0, z, List.append_nil, Nat.add_zero, List.take_append_drop]; exact hg) (Mod.refl _ _) rfl
    rw [z] at h2
    exact h2
  · obtain ⟨a, rfl⟩ : ∃ a, A = some a := by
      obtain ⟨x, hx⟩ : ∃ x, ys[0]? = some x := ⟨_, List.getElem?_eq_getElem (by have : Nat.min m dLen ≤ m := Nat.min_le_left _ _; omega)⟩
      obtain ⟨a, ha, _⟩ := hr 0 x hx
      exact ⟨a, ha⟩
    have hrun := run_copy_row (P := P) w t s ty e g o dLen dCap a m c cur e (ys.take dLen) ht hs hg el (fun j v hj => by
      rw [List.getElem?_take] at hj
      split at hj
      · obtain ⟨a', ha, hc⟩ := hr j v hj
        cases ha
        exact hc
      · cases hj) (by rw [el]; exact hfit) (fun v hv => h1 v (List.mem_of_mem_take hv))
    refine IK_of (s := Builtin.copy_ #[t, s] ty #[.slice (some ⟨g, o, none⟩) dLen dCap, .slice (some a) m c]) rfl hrun ?_
    rw [el]
    exact hk _ (setRow_heap w g cur _ e _ hg) ⟨rfl, rfl, rfl, Nat.le_of_eq (size_setRow w g _).symm, fun k _ hkg => setRow_other w g k _ hkg⟩ (size_setRow w g _)
end
theorem put_r {P : Program} {w : World} {K : Value → Value → World → Prop} {t e : TypeId} {base n i : Nat} {v u : Value} {xs : List Value} (hu : P.underlying t = some (.slice e)) (hc : P.cellsOf e = 0 + 1) (hv : u.oneCell' = true) (hown : w.ownsRow base e 1 v n xs) (hi : i < n)
    (hk : ∀ x w', w'.ownsRow base e 1 v n (xs.set i u) → Mod (fun b => some b = v.ownBlock) w w' → w'.heap.size = w.heap.size → K x undef w') : VK P (Instr.indexAt t v (.int .i64 (i : Int))) w fun x w => UK P (Instr.storeAt e x u) w (K x) := by
  obtain ⟨hl, q | ⟨g, cap, cur, rfl, hb, hg, hn, hm, hs, ht⟩⟩ := hown
  · omega
  · rw [ixa hu hc (by omega) (by omega), add_pl]
    simp only [Int.toNat_natCast, Nat.zero_add, Nat.mul_one]
    refine st_k hc hv hg (by omega) fun w' h1 h2 h3 h4 => hk _ w' ⟨by rw [List.length_set]; exact hl, .inr ⟨g, cap, _, rfl, hb, h1, hn, hm, by simpa using hs, ?_⟩⟩ (h4.mono fun _ _ q => by rw [q]; rfl) h3
    rw [Array.toList_setIfInBounds, ← ht, List.take_set]
theorem owns_new {w : World} {b n : Nat} {cs : List Value} {e : TypeId} (h : w.heap[b]? = some (.cells cs.toArray e (0, 0))) (hn : cs.length = n) (hmx : n ≤ 1048576) : w.ownsRow 0 e 1 (.slice (some ⟨b, 0, none⟩) n n) n cs :=
  ⟨by omega, .inr ⟨b, n, cs.toArray, rfl, Nat.zero_le _, h, Nat.le_refl _, by unfold maxLen; omega, by simp [hn], by rw [Nat.mul_one]; exact List.take_of_length_le (by simp [hn])⟩⟩
def reps (n k : Nat) : Array Value := (List.replicate k (Value.int .i64 (-1)) ++ List.replicate (n - k) (Value.int .i64 0)).toArray
theorem reps_size {n k : Nat} (h : k ≤ n) : (reps n k).size = n := by unfold reps; simp; omega
theorem reps_step {n k : Nat} (h1 : 1 ≤ k) (h : k ≤ n) : ((reps n k).toList.take k ++ (List.replicate k (Value.int .i64 (-1))).take (n - k) ++ (reps n k).toList.drop (k + Nat.min k (n - k))).toArray = reps n (k + Nat.min k (n - k)) := by
  unfold reps
  have e1 : Nat.min k (n - k) = min (n - k) k := Nat.min_comm _ _
  generalize hj : Nat.min k (n - k) = j at *
  have hjn : k + j ≤ n := by omega
  congr 1
  simp only [List.take_replicate]
  rw [← e1, List.take_append_of_le_length (by simp), List.take_of_length_le (by simp), List.drop_append, List.drop_eq_nil_of_le (by simp), List.drop_replicate, List.replicate_append_replicate, List.nil_append]
  simp only [List.length_replicate]
  rw [show n - k - (k + j - k) = n - (k + j) by omega]
theorem Repeat_ok {v : Value} {n : Nat} (h1 : 1 ≤ n) (hn : n ≤ 4000) {w : World} (hv : reads w 1 v 1 [.int .i64 (-1)]) : Rt Try.prog 33 #[v, .int .i64 n] w fun r w' => r = .slice (some ⟨w.heap.size, 0, none⟩) n n ∧ w'.heap[w.heap.size]? = some (.cells (reps n n) 3 (0, 0)) ∧ Mod none_ w w' := by
  obtain ⟨A, c, rfl, hc⟩ := reads_cap hv
  refine slices_Repeat_int_int_calls ?_
  unfold slices_Repeat_int_int_F
  rw [BK_lss, decide_eq_false (by omega)]
  refine condF ?_
  rw [slices_Repeat_int_int_R0_eq]; unfold slices_Repeat_int_int_R0_F
  simp only [sq_n, sq_x, sq_r, bk_n, bk_r, bk_x, rt_r, rt_n, rs_0, rs_t, pk_1, pk_2, up_at, reduceIte, Nat.reduceEqDiff]
  have e0 : ∀ {i : Nat} {l : List Value}, rho0 l i = l.getD i undef := rfl
  simp only [e0, List.getD_cons_zero, List.getD_cons_succ]
  rw [len_sl vIs, conv_k (by kernel_rfl) (k := .u64) (by kernel_rfl), conv_k (by kernel_rfl) (k := .u64) (by kernel_rfl), show IntKind.u64.wrap ((1 : Nat) : Int) = 1 by decide, wrap_u (n := (n : Int)) (by omega) (by omega)]
  refine CK_st Try.func50 rfl rfl (Mul_one (n := (n : Int)) (by omega) (by omega) w) ?_
  rintro _ w' ⟨rfl, rfl⟩
  rw [extract_ok (v := .int .u64 0) rfl, extract_ok (v := .int .u64 (n : Int)) rfl, BK_gtr]
  simp only [show decide ((0 : Int) < 0) = false from rfl, ↓VG_u, ↓UG_u, ↓MG_u, ↓NG_u, ↓PG_u, ↓BG_u, ↓CG_u, ↓IG_u, ↓VGtt, ↓VGtf, ↓VGft, ↓VGff, ↓UGtt, ↓UGtf, ↓UGft, ↓UGff, ↓MGtt, ↓MGtf, ↓MGft, ↓MGff, ↓NGtt, ↓NGtf, ↓NGft, ↓NGff, ↓PGtt, ↓PGtf, ↓PGft, ↓PGff, ↓BGtt, ↓BGtf, ↓BGft, ↓BGff, ↓CGtt, ↓CGtf, ↓CGft, ↓CGff, ↓IGtt, ↓IGtf, ↓IGft, ↓IGff, ↓PKt, ↓PKf, ↓CDt, ↓CDf, ↓NOTt, ↓NOTf, ↓NK_ptr, ↓BK_gtr]
  rw [decide_eq_false (show ¬ (9223372036854775807 : Int) < (n : Int) by omega)]
  simp only [↓VG_u, ↓UG_u, ↓MG_u, ↓NG_u, ↓PG_u, ↓BG_u, ↓CG_u, ↓IG_u, ↓VGtt, ↓VGtf, ↓VGft, ↓VGff, ↓UGtt, ↓UGtf, ↓UGft, ↓UGff, ↓MGtt, ↓MGtf, ↓MGft, ↓MGff, ↓NGtt, ↓NGtf, ↓NGft, ↓NGff, ↓PGtt, ↓PGtf, ↓PGft, ↓PGff, ↓BGtt, ↓BGtf, ↓BGft, ↓BGff, ↓CGtt, ↓CGtf, ↓CGft, ↓CGff, ↓IGtt, ↓IGtf, ↓IGft, ↓IGff, ↓PKt, ↓PKf, ↓CDt, ↓CDf, ↓NOTt, ↓NOTf, ↓NK_ptr]
  rw [slices_Repeat_int_int_R1_eq]; unfold slices_Repeat_int_int_R1_F
  simp only [sq_n, sq_x, sq_r, bk_n, bk_r, bk_x, rt_r, rt_n, rs_0, rs_t, pk_1, pk_2, up_at, reduceIte, Nat.reduceEqDiff]
  simp only [e0, List.getD_cons_zero, List.getD_cons_succ]
  rw [conv_k (by kernel_rfl) (k := .i64) (by kernel_rfl), wrap_i (n := (n : Int)) (by omega) (by omega)]
  refine mk_k (e := 3) (q := .i64) vIs (by kernel_rfl) (by omega) fun w1 hb1 hm1 hz1 => ?_
  refine cp_k (e := 3) vIs (by kernel_rfl) hb1 (reads_mod hv hm1 fun _ _ _ q => q) (by intro x hx; rw [List.mem_singleton.1 hx]; rfl) (by rw [Nat.zero_add, show Nat.min 1 n = 1 from Nat.min_eq_left h1]; simp; omega) fun w2 hb2 hm2 hz2 => ?_
  have e1 : Nat.min 1 n = 1 := Nat.min_eq_left h1
  have hb2' : w2.heap[w'.heap.size]? = some (.cells (reps n 1) 3 (0, 0)) := by
    rw [hb2]
    congr 2
    unfold reps
    rw [e1]
    simp [List.take_of_length_le, h1]
  rw [e1]
  have hm02 : Mod none_ w' w2 := hm1.then hm2 fun i hi q => by omega
  clear hb2 hb1
  refine W_loop slices_Repeat_int_int_L2_ok (fun ρ w3 => ∃ k : Nat, 1 ≤ k ∧ k ≤ n ∧ ρ 8 = .int .i64 k ∧ ρ 7 = .slice (some ⟨w'.heap.size, 0, none⟩) n n ∧ w3.heap[w'.heap.size]? = some (.cells (reps n k) 3 (0, 0)) ∧ Mod none_ w' w3) (fun ρ _ => n - (intOf (ρ 8)).toNat)
    ⟨1, Nat.le_refl _, h1, rfl, rfl, hb2', hm02⟩ ?_
  rintro ρ w3 ⟨k, k1, k2, g8, g7, hb, hm⟩
  rw [slices_Repeat_int_int_L2_eq]; unfold slices_Repeat_int_int_L2_F
  rw [g8, g7, len_sl vIs, BK_lss]
  by_cases hlt : k < n
  · rw [decide_eq_true (by omega)]
    refine condT ?_
    refine slices_Repeat_int_int_R4_held (D := []) (fun _ => True) trivial ?_
    unfold slices_Repeat_int_int_R4_H
    simp only [sq_n, sq_x, sq_r, bk_n, bk_r, bk_x, rt_r, rt_n, rs_0, rs_t, pk_1, pk_2, up_at, reduceIte, Nat.reduceEqDiff, g8, g7]
    refine HV_of (v := .slice (some ⟨w'.heap.size, k, none⟩) (n - k) (n - k)) (fun w _ => ?_) ?_
    · obtain ⟨z, hz, hzs⟩ := info_of (show Try.prog.cellsOf 3 = 0 + 1 from cI)
      rw [run_sliceAt_slice (h := elem_of vIs), run_slice_l w 26 (some ⟨w'.heap.size, 0, none⟩) n n (elem_of vIs) .i64 (k : Int) (by omega) (by omega), show Try.prog.elem 26 = 3 by simp [Program.elem, vIs]]
      simp [sizeOf, typeInfo, hz, hzs, sliced, show ¬ n = k by omega, add_pl]
    refine HV_of (v := sliced (some ⟨w'.heap.size, 0, none⟩) 0 k n 1) (fun w _ => ?_) ?_
    · have := run_cut (P := Try.prog) (t := 26) (e := 3) (sz := 0) vIs cI (A := some ⟨w'.heap.size, 0, none⟩) (n := n) (c := n) (Nat.le_refl _) (k := .i64) (i := (k : Int)) (by omega) (by omega) w
      simpa using this
    generalize hq : ({ w3 with drawn := w3.drawn + 1 } : World) = wd
    have hbd : wd.heap[w'.heap.size]? = some (.cells (reps n k) 3 (0, 0)) := by rw [← hq]; exact hb
    have hmd : Mod none_ w' wd := by rw [← hq]; exact hm.drawn _
    have hr := reads_cut (reads_blk (size := 1) (n := n) hbd (by rw [reps_size k2]; omega)) (m := k) k2 1
    have et : (reps n k).toList.take (k * 1) = List.replicate k (Value.int .i64 (-1)) := by
      unfold reps
      simp [List.take_append_of_le_length]
    rw [et] at hr
    refine cp_k (e := 3) (o := k) (dLen := n - k) (dCap := n - k) vIs (by kernel_rfl) hbd hr (by intro x hx; rw [List.eq_of_mem_replicate hx]; rfl) (by rw [reps_size k2]; have : Nat.min k (n - k) ≤ n - k := Nat.min_le_right _ _; omega) fun w4 hb4 hm4 hz4 => ?_
    rw [reps_step k1 k2] at hb4
    have hj : 1 ≤ Nat.min k (n - k) ∧ Nat.min k (n - k) ≤ n - k := ⟨Nat.le_min.2 ⟨k1, by omega⟩, Nat.min_le_right _ _⟩
    generalize Nat.min k (n - k) = j at *
    refine ⟨trivial, HB_of (v := .int .i64 ((k + j : Nat) : Int)) (fun _ => rfl) (fun w => ?_) ?_⟩
    · have : IntKind.i64.wrap ((k : Int) + (j : Int)) = ((k + j : Nat) : Int) := by rw [wrap_i (by omega) (by omega)]; omega
      rw [← this]; rfl
    refine ⟨⟨k + j, by omega, by omega, by trivial, by trivial, hb4, hmd.then hm4 fun i hi q => by omega⟩, ?_⟩
    simp only [sq_n, sq_x, sq_r, bk_n, bk_r, bk_x, rt_r, rt_n, rs_0, rs_t, pk_1, pk_2, up_at, reduceIte, Nat.reduceEqDiff, intOf]
    omega
  · obtain rfl : k = n := by omega
    rw [decide_eq_false (by omega)]
    refine condF ?_
    rw [sq_x, bk_x, sq_n, slices_Repeat_int_int_R3_eq]; unfold slices_Repeat_int_int_R3_F
    exact ⟨by rw [← g7]; rfl, hb, hm⟩
end Go.Proofs.Ytmbgbffgkdcieaa.Tr
set_option linter.unusedVariables false
set_option linter.unusedSimpArgs false
set_option maxRecDepth 4000
namespace Go.Proofs.Ytmbgbffgkdcieaa.Tr
open Go Go.X Go.RowKit Go.Proofs.Ytmbgbffgkdcieaa.XF Go.Proofs.Ytmbgbffgkdcieaa.XK
def InsRow (w : World) (s : Value) (l : List Ins) : Prop := reads w 2 s l.length (l.flatMap Ins.cells) ∧ True
theorem InsRow.mod {w w' : World} {s : Value} {l : List Ins} (h : InsRow w s l) (hm : Mod none_ w w') : InsRow w' s l := ⟨reads_mod h.1 hm fun _ _ _ q => q, trivial⟩
theorem Ins.cells_len (i : Ins) : i.cells.length = 1 + 1 := rfl
theorem ixIns {w : World} {s : Value} {l : List Ins} {i : Nat} {e : Ins} {K : Value → Value → World → Prop} (h : InsRow w s l) (hi : l[i]? = some e) (hk : ∀ x, K x (.agg e.cells.toArray) w) :
    VK Try.prog (Instr.indexAt 25 s (.int .i64 (i : Int))) w fun x w => VK Try.prog (Instr.loadAt 30 x) w (K x) := by
  have hlt : i < l.length := (List.getElem?_eq_some_iff.1 hi).1
  refine ixldA vCs cC Try.underlying30 rfl h.1 (by omega) (by omega) fun x => ?_
  rw [show ((i : Int).toNat) = i by omega, fl_drop (k := 1 + 1) Ins.cells_len hi]
  exact hk x
theorem ixInsA {w : World} {s : Value} {l : List Ins} {i : Nat} {e : Ins} {K : Value → World → Prop} (h : InsRow w s l) (hi : l[i]? = some e) (hk : ∀ a, (∀ j u, e.cells[j]? = some u → w.cell? (a.add j) = some u) → K (.pointer (some a)) w) :
    VK Try.prog (Instr.indexAt 25 s (.int .i64 (i : Int))) w K := by
  have hlt : i < l.length := (List.getElem?_eq_some_iff.1 hi).1
  refine ixat vCs cC h.1 (by omega) (by omega) fun a ha _ => hk a fun j u hu => ?_
  have hj : j < 1 + 1 := (List.getElem?_eq_some_iff.1 hu).1
  refine ha j u hj ?_
  rw [show ((i : Int).toNat) = i by omega, fl_get (k := 1 + 1) Ins.cells_len hi hj]
  exact hu
theorem IndexFuncIns_ok {w : World} {s : Value} {l : List Ins} {p : Ins → Bool} {fv : Value} (h : InsRow w s l) (hlen : l.length ≤ 1099511627776)
    (hf : ∀ a ∈ l, ∀ w', Mod none_ w w' → ∀ K : Value → World → Prop, (∀ w'', Mod none_ w' w'' → K (.bool (p a)) w'') → CK Try.prog fv [.agg a.cells.toArray] w' K) :
    Rt Try.prog 53 #[s, fv] w fun v w' => (∃ r : Int, v = .int .i64 r ∧ (if l.any p then 0 ≤ r else r = -1)) ∧ Mod none_ w w' := by
  obtain ⟨A, c, hs, _⟩ := reads_cap h.1
  refine slices_IndexFunc_code_Instr_code_Instr_calls ?_
  unfold slices_IndexFunc_code_Instr_code_Instr_F
  simp only [hs, fo28_0, fo28_1, fo28_2, fo30_0, fo30_1, fo36_0, fo36_1, fo36_2, fo36_3, fo36_4, fo36_5, fo36_6, fo36_7, fo36_8, fo36_9, fo36_10, fo38_0, fo38_1, fo38_2, fo54_0, fo54_1, fo54_2, fo54_3, fo54_4, fo54_5, fo54_6, fo54_7, fo56_0, fo56_1, fo56_2, fo56_3, fo56_4, fo56_5, fo56_6, fo56_7, fo56_8, fo56_9, ld2, ld3, ld4, ld5, ld22, ld25, ld26, len22, len25, len26, ldK_some, cellE, blkC_c, add_pl, Nat.zero_add, List.getElem?_toArray, List.getElem?_cons_succ, List.getElem?_cons_zero]
  refine W_loop slices_IndexFunc_code_Instr_code_Instr_L0_ok (fun ρ w' => ∃ n : Nat, n ≤ l.length ∧ ρ 8 = .int .i64 n ∧ ρ 7 = .int .i64 l.length ∧ ρ 0 = .slice A l.length c ∧ ρ 1 = fv ∧ (∀ a ∈ l.take n, p a = false) ∧ Mod none_ w w') (fun ρ _ => l.length - (intOf (ρ 8)).toNat)
    ⟨0, Nat.zero_le _, rfl, rfl, rfl, rfl, by simp, Mod.refl _ _⟩ ?_
  rintro ρ w1 ⟨n, hn, h8, h7, h0, h1, hno, hm⟩
  rw [slices_IndexFunc_code_Instr_code_Instr_L0_eq]
  unfold slices_IndexFunc_code_Instr_code_Instr_L0_F
  simp only [h8, h7, h0, h1, BK_lss]
  by_cases hlt : n < l.length
  · rw [show decide ((n : Int) < (l.length : Int)) = true by rw [decide_eq_true_eq]; omega]
    simp only [CondK_bool, MG_u, NG_u, VG_u, UG_u, PG_u, BG_u, CG_u, IG_u, MG_b, NG_b, VG_b, UG_b, PG_b, BG_b, CG_b, IG_b, PK_bool, NK_ptr, not_ok, reduceCtorEq, if_true, if_false, Bool.true_eq_false, Bool.false_eq_true, Bool.not_true, Bool.not_false]
    have hx : l[n]? = some l[n] := List.getElem?_eq_getElem hlt
    have hmem : l[n] ∈ l := List.getElem_mem hlt
    have h2 := h.mod hm
    rw [hs] at h2
    refine ixIns h2 hx fun y => ?_
    refine hf _ hmem w1 hm _ fun w2 hm2 => ?_
    refine caseC (fun hp => ?_) (fun hp => ?_)
    · refine ⟨⟨_, rfl, ?_⟩, hm.trans hm2⟩
      rw [if_pos (List.any_eq_true.2 ⟨_, hmem, hp⟩)]
      omega
    · rw [BK_add, wrap_i (by omega) (by omega)]
      refine ⟨⟨n + 1, hlt, rfl, h7, h0, h1, ?_, hm.trans hm2⟩, ?_⟩
      · rw [List.take_add_one, hx, Option.toList_some]
        intro a q
        rcases List.mem_append.1 q with q | q
        · exact hno a q
        · rw [List.mem_singleton.1 q]; exact hp
      · simp only [sq_n, sq_x, sq_r, bk_n, bk_r, bk_x, rt_r, rt_n, rs_0, rs_t, pk_1, pk_2, up_at, reduceIte, Nat.reduceEqDiff, intOf]; omega
  · obtain rfl : n = l.length := by omega
    rw [show decide (((l.length : Nat) : Int) < (l.length : Int)) = false by simp]
    simp only [CondK_bool, MG_u, NG_u, VG_u, UG_u, PG_u, BG_u, CG_u, IG_u, MG_b, NG_b, VG_b, UG_b, PG_b, BG_b, CG_b, IG_b, PK_bool, NK_ptr, not_ok, reduceCtorEq, if_true, if_false, Bool.true_eq_false, Bool.false_eq_true, Bool.not_true, Bool.not_false, sq_n, sq_x, sq_r, bk_n, bk_r, bk_x, rt_r, rt_n, rs_0, rs_t, pk_1, pk_2, up_at, reduceIte, Nat.reduceEqDiff]
    rw [slices_IndexFunc_code_Instr_code_Instr_R1_eq]
    unfold slices_IndexFunc_code_Instr_code_Instr_R1_F
    simp only [sq_n, sq_x, sq_r, bk_n, bk_r, bk_x, rt_r, rt_n, rs_0, rs_t, pk_1, pk_2, up_at, reduceIte, Nat.reduceEqDiff]
    refine ⟨⟨_, rfl, ?_⟩, hm⟩
    rw [if_neg]
    intro q
    obtain ⟨a, ha, hp⟩ := List.any_eq_true.1 q
    rw [List.take_length] at hno
    rw [hno a ha] at hp
    cases hp
theorem ContainsFuncIns_ok {w : World} {s : Value} {l : List Ins} {p : Ins → Bool} {fv : Value} (h : InsRow w s l) (hlen : l.length ≤ 1099511627776)
    (hf : ∀ a ∈ l, ∀ w', Mod none_ w w' → ∀ K : Value → World → Prop, (∀ w'', Mod none_ w' w'' → K (.bool (p a)) w'') → CK Try.prog fv [.agg a.cells.toArray] w' K) :
    Rt Try.prog 49 #[s, fv] w fun v w' => v = .bool (l.any p) ∧ Mod none_ w w' := by
  refine slices_ContainsFunc_code_Instr_code_Instr_calls ?_
  unfold slices_ContainsFunc_code_Instr_code_Instr_F
  refine CK_st Try.func53 rfl rfl (IndexFuncIns_ok h hlen hf) ?_
  rintro _ w1 ⟨⟨r, rfl, hr⟩, hm⟩
  rw [BK_geq]
  refine ⟨?_, hm⟩
  cases hp : l.any p with
  | true =>
    rw [hp, if_pos rfl] at hr
    rw [decide_eq_true hr]
  | false =>
    rw [hp, if_neg (by simp)] at hr
    rw [hr]
    rfl
structure PgOk (w : World) (P : Pg) (cs : List Value) : Prop where
  e : ∃ A A' c c', cs = pgC P A A' c c'
  code : ∃ s, cs[0]? = some s ∧ InsRow w s P.code
  arrs : ∃ s, cs[2]? = some s ∧ reads w 1 s P.arrs.length (i64s P.arrs)
theorem PgOk.mod {w w' : World} {P : Pg} {cs : List Value} (h : PgOk w P cs) (hm : Mod none_ w w') : PgOk w' P cs :=
  ⟨h.e, let ⟨s, a, b⟩ := h.code; ⟨s, a, b.mod hm⟩, let ⟨s, a, b⟩ := h.arrs; ⟨s, a, reads_mod b hm fun _ _ _ q => q⟩⟩
theorem PgOk.mk' {w : World} {P : Pg} {cv av : Value} (hc : InsRow w cv P.code) (ha : reads w 1 av P.arrs.length (i64s P.arrs)) : PgOk w P [cv, .int .i64 P.vars, av] := by
  obtain ⟨A, c, e1, _⟩ := reads_cap hc.1
  obtain ⟨A', c', e2, _⟩ := reads_cap ha
  exact ⟨⟨A, A', c, c', by rw [e1, e2]; rfl⟩, ⟨cv, rfl, hc⟩, ⟨av, rfl, ha⟩⟩
theorem whole1_ok {w : World} {P : Pg} {cs : List Value} {b : Nat} {i : Ins} (h : PgOk w P cs) (hb : w.heap[b]? = some (.cells cs.toArray 28 (0, 0))) :
    Rt Try.prog 48 #[.agg i.cells.toArray, .pointer (some ⟨b, 0, none⟩)] w fun v w' => v = .bool (!(P.tk i).2.2) ∧ Mod none_ w w' := by
  obtain ⟨A, A', c, c', rfl⟩ := h.e
  refine code_Program_whole_1_calls ?_
  unfold code_Program_whole_1_F
  refine box_k (cs := i.cells.toArray) rfl fun w1 hb1 hm1 hz1 => ?_
  have hbb := hm1.blk hb id
  refine ldB Try.underlying28 rfl (by kernel_rfl) hbb ?_
  refine ldB Try.underlying30 rfl (by kernel_rfl) hb1 ?_
  refine CK_st Try.func34 rfl rfl (takes_ok w1) ?_
  rintro _ w2 ⟨rfl, hm2⟩
  rw [extract_ok (v := .int .i64 (P.tk i).1) rfl, extract_ok (v := .int .i64 (P.tk i).2.1) rfl, extract_ok (v := .bool (P.tk i).2.2) rfl, not_ok]
  exact ⟨rfl, hm1.trans hm2⟩
theorem cellsV_le : ∀ (l : List Int) (c r : Int), 0 ≤ c → c ≤ 1000 → cellsV c l = some r → c ≤ r ∧ r ≤ 1000
  | [], c, r, h0, h1, h => by injection h with h; omega
  | n :: l, c, r, h0, h1, h => by
    unfold cellsV at h
    split at h
    · cases h
    · have := cellsV_le l (c + n) r (by omega) (by omega) h
      omega
theorem cellsV_at (l : List Int) (c : Int) (n : Nat) (x : Int) (hx : l[n]? = some x) {s : Int} (hs : cellsV c (l.take n) = some s) : cellsV c l = (if x < 1 ∨ 1000 - s < x then none else cellsV (s + x) (l.drop (n + 1))) ∧ cellsV c (l.take (n + 1)) = (if x < 1 ∨ 1000 - s < x then none else some (s + x)) := by
  induction l generalizing c n with
  | nil => cases hx
  | cons y l ih =>
    cases n with
    | zero =>
      simp only [List.getElem?_cons_zero, Option.some.injEq] at hx
      simp only [List.take_zero, cellsV, Option.some.injEq] at hs
      subst hx hs
      simp only [cellsV, List.take_succ_cons, List.take_zero, List.drop_succ_cons, List.drop_zero]
      exact ⟨trivial, trivial⟩
    | succ n =>
      simp only [List.getElem?_cons_succ] at hx
      simp only [List.take_succ_cons, cellsV] at hs
      split at hs
      · cases hs
      · rename_i hn
        obtain ⟨a, b⟩ := ih (c + y) n hx hs
        simp only [cellsV, List.take_succ_cons, List.drop_succ_cons, if_neg hn]
        exact ⟨a, b⟩
theorem lastOp {l : List Ins} {i : Ins} (h : l[l.length - 1]? = some i) : (l.getLast?.any fun i => decide (i.op = 29)) = decide (i.op = 29) := by
  rw [List.getLast?_eq_getElem?, h]; rfl
theorem whole_ok {w : World} {P : Pg} {cs : List Value} (h : PgOk w P cs) (h1 : P.code.length ≤ 1048576) (h2 : P.arrs.length ≤ 1048576) (w0 : World) (hw0 : Mod none_ w0 w) :
    Rt Try.prog 32 #[.agg cs.toArray] w fun v w' => v = .bool P.whole ∧ Mod none_ w0 w' := by
  obtain ⟨A, A', c, c', ecs⟩ := h.e
  refine code_Program_whole_calls ?_
  unfold code_Program_whole_F
  refine box_k (cs := cs.toArray) rfl fun w1 hb1 hm1 hz1 => ?_
  have h' := h.mod hm1
  have f2 : FO Try.prog w1 28 2 2 ⟨w.heap.size, 0, none⟩ 26 (.slice A' P.arrs.length c') := FO.blk hb1 (by kernel_rfl) vIs rfl (by rw [ecs]; rfl)
  rw [f2.e, len_sl vIs]
  have harr : reads w1 1 (.slice A' P.arrs.length c') P.arrs.length (i64s P.arrs) := by
    obtain ⟨s, a, b⟩ := h'.arrs
    rw [ecs] at a
    cases a
    exact b
  have hcode : InsRow w1 (.slice A P.code.length c) P.code := by
    obtain ⟨s, a, b⟩ := h'.code
    rw [ecs] at a
    cases a
    exact b
  refine W_loop code_Program_whole_L0_ok (fun ρ w2 => ∃ n : Nat, ∃ s : Int, n ≤ P.arrs.length ∧ cellsV 0 (P.arrs.take n) = some s ∧ ρ 11 = .int .i64 n ∧ ρ 3 = .int .i64 s ∧ ρ 10 = .int .i64 P.arrs.length ∧ ρ 9 = .slice A' P.arrs.length c' ∧ ρ 1 = .pointer (some ⟨w.heap.size, 0, none⟩) ∧ Mod none_ w1 w2) (fun ρ _ => P.arrs.length - (intOf (ρ 11)).toNat)
    ⟨0, 0, Nat.zero_le _, rfl, rfl, rfl, rfl, rfl, rfl, Mod.refl _ _⟩ ?_
  rintro ρ w2 ⟨n, s, hn, hs, g11, g3, g10, g9, g1, hm2⟩
  rw [code_Program_whole_L0_eq]; unfold code_Program_whole_L0_F
  rw [g11, g3, g10, g9, BK_lss]
  have hsr := cellsV_le _ _ _ (by omega) (by omega) hs
  by_cases hlt : n < P.arrs.length
  · rw [decide_eq_true (by omega)]
    refine condT ?_
    obtain ⟨x, hx⟩ : ∃ x, P.arrs[n]? = some x := ⟨_, List.getElem?_eq_getElem hlt⟩
    obtain ⟨v1, v2⟩ := cellsV_at P.arrs 0 n x hx hs
    refine ixld vIs cI vI rfl (reads_mod harr hm2 fun _ _ _ q => q) (by omega) (by simpa using i64s_get hx) fun y => ?_
    rw [BK_lss]
    have bad : x < 1 ∨ 1000 - s < x → P.whole = false := fun q => by
      rw [if_pos q] at v1
      unfold Pg.whole
      rw [v1]; simp
    by_cases c1 : x < 1
    · simp only [c1, decide_true, ↓VG_u, ↓UG_u, ↓MG_u, ↓NG_u, ↓PG_u, ↓BG_u, ↓CG_u, ↓IG_u, ↓VGtt, ↓VGtf, ↓VGft, ↓VGff, ↓UGtt, ↓UGtf, ↓UGft, ↓UGff, ↓MGtt, ↓MGtf, ↓MGft, ↓MGff, ↓NGtt, ↓NGtf, ↓NGft, ↓NGff, ↓PGtt, ↓PGtf, ↓PGft, ↓PGff, ↓BGtt, ↓BGtf, ↓BGft, ↓BGff, ↓CGtt, ↓CGtf, ↓CGft, ↓CGff, ↓IGtt, ↓IGtf, ↓IGft, ↓IGff, ↓PKt, ↓PKf, ↓CDt, ↓CDf, ↓NOTt, ↓NOTf, ↓NK_ptr]
      exact ⟨by rw [bad (.inl c1)]; rfl, hw0.trans (hm1.trans hm2)⟩
    simp only [c1, decide_false, ↓VG_u, ↓UG_u, ↓MG_u, ↓NG_u, ↓PG_u, ↓BG_u, ↓CG_u, ↓IG_u, ↓VGtt, ↓VGtf, ↓VGft, ↓VGff, ↓UGtt, ↓UGtf, ↓UGft, ↓UGff, ↓MGtt, ↓MGtf, ↓MGft, ↓MGff, ↓NGtt, ↓NGtf, ↓NGft, ↓NGff, ↓PGtt, ↓PGtf, ↓PGft, ↓PGff, ↓BGtt, ↓BGtf, ↓BGft, ↓BGff, ↓CGtt, ↓CGtf, ↓CGft, ↓CGff, ↓IGtt, ↓IGtf, ↓IGft, ↓IGff, ↓PKt, ↓PKf, ↓CDt, ↓CDf, ↓NOTt, ↓NOTf, ↓NK_ptr, ↓BK_sub]
    rw [wrap_i (n := 1000 - s) (by omega) (by omega)]
    simp only [↓VG_u, ↓UG_u, ↓MG_u, ↓NG_u, ↓PG_u, ↓BG_u, ↓CG_u, ↓IG_u, ↓VGtt, ↓VGtf, ↓VGft, ↓VGff, ↓UGtt, ↓UGtf, ↓UGft, ↓UGff, ↓MGtt, ↓MGtf, ↓MGft, ↓MGff, ↓NGtt, ↓NGtf, ↓NGft, ↓NGff, ↓PGtt, ↓PGtf, ↓PGft, ↓PGff, ↓BGtt, ↓BGtf, ↓BGft, ↓BGff, ↓CGtt, ↓CGtf, ↓CGft, ↓CGff, ↓IGtt, ↓IGtf, ↓IGft, ↓IGff, ↓PKt, ↓PKf, ↓CDt, ↓CDf, ↓NOTt, ↓NOTf, ↓NK_ptr, ↓BK_gtr]
    by_cases c2 : 1000 - s < x
    · simp only [c2, decide_true, ↓VG_u, ↓UG_u, ↓MG_u, ↓NG_u, ↓PG_u, ↓BG_u, ↓CG_u, ↓IG_u, ↓VGtt, ↓VGtf, ↓VGft, ↓VGff, ↓UGtt, ↓UGtf, ↓UGft, ↓UGff, ↓MGtt, ↓MGtf, ↓MGft, ↓MGff, ↓NGtt, ↓NGtf, ↓NGft, ↓NGff, ↓PGtt, ↓PGtf, ↓PGft, ↓PGff, ↓BGtt, ↓BGtf, ↓BGft, ↓BGff, ↓CGtt, ↓CGtf, ↓CGft, ↓CGff, ↓IGtt, ↓IGtf, ↓IGft, ↓IGff, ↓PKt, ↓PKf, ↓CDt, ↓CDf, ↓NOTt, ↓NOTf, ↓NK_ptr]
      exact ⟨by rw [bad (.inr c2)]; rfl, hw0.trans (hm1.trans hm2)⟩
    simp only [c2, decide_false, ↓VG_u, ↓UG_u, ↓MG_u, ↓NG_u, ↓PG_u, ↓BG_u, ↓CG_u, ↓IG_u, ↓VGtt, ↓VGtf, ↓VGft, ↓VGff, ↓UGtt, ↓UGtf, ↓UGft, ↓UGff, ↓MGtt, ↓MGtf, ↓MGft, ↓MGff, ↓NGtt, ↓NGtf, ↓NGft, ↓NGff, ↓PGtt, ↓PGtf, ↓PGft, ↓PGff, ↓BGtt, ↓BGtf, ↓BGft, ↓BGff, ↓CGtt, ↓CGtf, ↓CGft, ↓CGff, ↓IGtt, ↓IGtf, ↓IGft, ↓IGff, ↓PKt, ↓PKf, ↓CDt, ↓CDf, ↓NOTt, ↓NOTf, ↓NK_ptr, ↓BK_add]
    rw [if_neg (by omega)] at v2
    refine ⟨⟨n + 1, s + x, by omega, v2, ?_, ?_, g10, g9, g1, hm2⟩, ?_⟩
    · show Value.int .i64 (IntKind.i64.wrap ((n : Int) + 1)) = _
      rw [wrap_i (by omega) (by omega)]; rfl
    · show Value.int .i64 (IntKind.i64.wrap (s + x)) = _
      rw [wrap_i (by omega) (by omega)]
    · show P.arrs.length - (IntKind.i64.wrap ((n : Int) + 1)).toNat < P.arrs.length - ((n : Int)).toNat
      rw [wrap_i (by omega) (by omega)]; omega
  · obtain rfl : n = P.arrs.length := by omega
    rw [decide_eq_false (by omega)]
    refine condF ?_
    rw [List.take_length] at hs
    have hsome : (cellsV 0 P.arrs).isSome = true := by rw [hs]; rfl
    rw [sq_x, bk_x, sq_n, code_Program_whole_R1_eq]; unfold code_Program_whole_R1_F
    have hb2 := hm2.blk hb1 id
    have k0 : FO Try.prog w2 28 0 0 ⟨w.heap.size, 0, none⟩ 25 (.slice A P.code.length c) := FO.blk hb2 (by kernel_rfl) vCs rfl (by rw [ecs]; rfl)
    have k1 : FO Try.prog w2 28 1 1 ⟨w.heap.size, 0, none⟩ 3 (.int .i64 P.vars) := FO.blk hb2 (by kernel_rfl) vI rfl (by rw [ecs]; rfl)
    simp only [sq_n, sq_x, sq_r, bk_n, bk_r, bk_x, rt_r, rt_n, rs_0, rs_t, pk_1, pk_2, up_at, reduceIte, Nat.reduceEqDiff, g1]
    have hm02 := hw0.trans (hm1.trans hm2)
    have hW : P.whole = (decide (0 < P.code.length) && decide (P.code.length ≤ 4000) && decide (0 ≤ P.vars) && decide (P.vars ≤ 64) && P.code.all (fun i => (P.tk i).2.2) && (P.code.getLast?.any fun i => decide (i.op = 29))) := by
      unfold Pg.whole; rw [hsome, Bool.true_and]
    rw [mkFunc, k0.e, len_sl vCs, BK_gtr]
    by_cases c1 : 0 < P.code.length
    case neg =>
      simp only [show ¬ (0 : Int) < (P.code.length : Int) by omega, decide_false, ↓VG_u, ↓UG_u, ↓MG_u, ↓NG_u, ↓PG_u, ↓BG_u, ↓CG_u, ↓IG_u, ↓VGtt, ↓VGtf, ↓VGft, ↓VGff, ↓UGtt, ↓UGtf, ↓UGft, ↓UGff, ↓MGtt, ↓MGtf, ↓MGft, ↓MGff, ↓NGtt, ↓NGtf, ↓NGft, ↓NGff, ↓PGtt, ↓PGtf, ↓PGft, ↓PGff, ↓BGtt, ↓BGtf, ↓BGft, ↓BGff, ↓CGtt, ↓CGtf, ↓CGft, ↓CGff, ↓IGtt, ↓IGtf, ↓IGft, ↓IGff, ↓PKt, ↓PKf, ↓CDt, ↓CDf, ↓NOTt, ↓NOTf, ↓NK_ptr]
      exact ⟨by rw [hW, decide_eq_false c1]; rfl, hm02⟩
    simp only [show (0 : Int) < (P.code.length : Int) by omega, decide_true, ↓VG_u, ↓UG_u, ↓MG_u, ↓NG_u, ↓PG_u, ↓BG_u, ↓CG_u, ↓IG_u, ↓VGtt, ↓VGtf, ↓VGft, ↓VGff, ↓UGtt, ↓UGtf, ↓UGft, ↓UGff, ↓MGtt, ↓MGtf, ↓MGft, ↓MGff, ↓NGtt, ↓NGtf, ↓NGft, ↓NGff, ↓PGtt, ↓PGtf, ↓PGft, ↓PGff, ↓BGtt, ↓BGtf, ↓BGft, ↓BGff, ↓CGtt, ↓CGtf, ↓CGft, ↓CGff, ↓IGtt, ↓IGtf, ↓IGft, ↓IGff, ↓PKt, ↓PKf, ↓CDt, ↓CDf, ↓NOTt, ↓NOTf, ↓NK_ptr, ↓BK_leq]
    by_cases c2 : P.code.length ≤ 4000
    case neg =>
      simp only [show ¬ (P.code.length : Int) ≤ 4000 by omega, decide_false, ↓VG_u, ↓UG_u, ↓MG_u, ↓NG_u, ↓PG_u, ↓BG_u, ↓CG_u, ↓IG_u, ↓VGtt, ↓VGtf, ↓VGft, ↓VGff, ↓UGtt, ↓UGtf, ↓UGft, ↓UGff, ↓MGtt, ↓MGtf, ↓MGft, ↓MGff, ↓NGtt, ↓NGtf, ↓NGft, ↓NGff, ↓PGtt, ↓PGtf, ↓PGft, ↓PGff, ↓BGtt, ↓BGtf, ↓BGft, ↓BGff, ↓CGtt, ↓CGtf, ↓CGft, ↓CGff, ↓IGtt, ↓IGtf, ↓IGft, ↓IGff, ↓PKt, ↓PKf, ↓CDt, ↓CDf, ↓NOTt, ↓NOTf, ↓NK_ptr]
      exact ⟨by rw [hW, decide_eq_true c1, decide_eq_false c2]; rfl, hm02⟩
    simp only [show (P.code.length : Int) ≤ 4000 by omega, decide_true, ↓VG_u, ↓UG_u, ↓MG_u, ↓NG_u, ↓PG_u, ↓BG_u, ↓CG_u, ↓IG_u, ↓VGtt, ↓VGtf, ↓VGft, ↓VGff, ↓UGtt, ↓UGtf, ↓UGft, ↓UGff, ↓MGtt, ↓MGtf, ↓MGft, ↓MGff, ↓NGtt, ↓NGtf, ↓NGft, ↓NGff, ↓PGtt, ↓PGtf, ↓PGft, ↓PGff, ↓BGtt, ↓BGtf, ↓BGft, ↓BGff, ↓CGtt, ↓CGtf, ↓CGft, ↓CGff, ↓IGtt, ↓IGtf, ↓IGft, ↓IGff, ↓PKt, ↓PKf, ↓CDt, ↓CDf, ↓NOTt, ↓NOTf, ↓NK_ptr, ↓k1.e, ↓BK_geq]
    by_cases c3 : 0 ≤ P.vars
    case neg =>
      simp only [c3, decide_false, ↓VG_u, ↓UG_u, ↓MG_u, ↓NG_u, ↓PG_u, ↓BG_u, ↓CG_u, ↓IG_u, ↓VGtt, ↓VGtf, ↓VGft, ↓VGff, ↓UGtt, ↓UGtf, ↓UGft, ↓UGff, ↓MGtt, ↓MGtf, ↓MGft, ↓MGff, ↓NGtt, ↓NGtf, ↓NGft, ↓NGff, ↓PGtt, ↓PGtf, ↓PGft, ↓PGff, ↓BGtt, ↓BGtf, ↓BGft, ↓BGff, ↓CGtt, ↓CGtf, ↓CGft, ↓CGff, ↓IGtt, ↓IGtf, ↓IGft, ↓IGff, ↓PKt, ↓PKf, ↓CDt, ↓CDf, ↓NOTt, ↓NOTf, ↓NK_ptr]
      exact ⟨by rw [hW, decide_eq_true c1, decide_eq_true c2, decide_eq_false c3]; rfl, hm02⟩
    simp only [c3, decide_true, ↓VG_u, ↓UG_u, ↓MG_u, ↓NG_u, ↓PG_u, ↓BG_u, ↓CG_u, ↓IG_u, ↓VGtt, ↓VGtf, ↓VGft, ↓VGff, ↓UGtt, ↓UGtf, ↓UGft, ↓UGff, ↓MGtt, ↓MGtf, ↓MGft, ↓MGff, ↓NGtt, ↓NGtf, ↓NGft, ↓NGff, ↓PGtt, ↓PGtf, ↓PGft, ↓PGff, ↓BGtt, ↓BGtf, ↓BGft, ↓BGff, ↓CGtt, ↓CGtf, ↓CGft, ↓CGff, ↓IGtt, ↓IGtf, ↓IGft, ↓IGff, ↓PKt, ↓PKf, ↓CDt, ↓CDf, ↓NOTt, ↓NOTf, ↓NK_ptr, ↓k1.e, ↓BK_leq]
    by_cases c4 : P.vars ≤ 64
    case neg =>
      simp only [c4, decide_false, ↓VG_u, ↓UG_u, ↓MG_u, ↓NG_u, ↓PG_u, ↓BG_u, ↓CG_u, ↓IG_u, ↓VGtt, ↓VGtf, ↓VGft, ↓VGff, ↓UGtt, ↓UGtf, ↓UGft, ↓UGff, ↓MGtt, ↓MGtf, ↓MGft, ↓MGff, ↓NGtt, ↓NGtf, ↓NGft, ↓NGff, ↓PGtt, ↓PGtf, ↓PGft, ↓PGff, ↓BGtt, ↓BGtf, ↓BGft, ↓BGff, ↓CGtt, ↓CGtf, ↓CGft, ↓CGff, ↓IGtt, ↓IGtf, ↓IGft, ↓IGff, ↓PKt, ↓PKf, ↓CDt, ↓CDf, ↓NOTt, ↓NOTf, ↓NK_ptr]
      exact ⟨by rw [hW, decide_eq_true c1, decide_eq_true c2, decide_eq_true c3, decide_eq_false c4]; rfl, hm02⟩
    simp only [c4, decide_true, ↓VG_u, ↓UG_u, ↓MG_u, ↓NG_u, ↓PG_u, ↓BG_u, ↓CG_u, ↓IG_u, ↓VGtt, ↓VGtf, ↓VGft, ↓VGff, ↓UGtt, ↓UGtf, ↓UGft, ↓UGff, ↓MGtt, ↓MGtf, ↓MGft, ↓MGff, ↓NGtt, ↓NGtf, ↓NGft, ↓NGff, ↓PGtt, ↓PGtf, ↓PGft, ↓PGff, ↓BGtt, ↓BGtf, ↓BGft, ↓BGff, ↓CGtt, ↓CGtf, ↓CGft, ↓CGff, ↓IGtt, ↓IGtf, ↓IGft, ↓IGff, ↓PKt, ↓PKf, ↓CDt, ↓CDf, ↓NOTt, ↓NOTf, ↓NK_ptr, ↓k0.e]
    have hPg : PgOk w2 P cs := h'.mod hm2
    have hc2 : InsRow w2 (.slice A P.code.length c) P.code := hcode.mod hm2
    refine CK_st Try.func49 rfl rfl (ContainsFuncIns_ok (p := fun i => !(P.tk i).2.2) hc2 (by omega) fun a ha w3 hm3 K hK => ?_) ?_
    · refine CK_fn (f := 48) (first := #[]) (cap := #[.pointer (some ⟨w.heap.size, 0, none⟩)]) (args := [.agg a.cells.toArray]) Try.func48 rfl rfl (whole1_ok (hPg.mod hm3) (hm3.blk hb2 id)) ?_
      rintro _ w4 ⟨rfl, hm4⟩
      exact hK w4 hm4
    rintro _ w3 ⟨rfl, hm3⟩
    have hall : (!(P.code.any fun i => !(P.tk i).2.2)) = P.code.all (fun i => (P.tk i).2.2) := by
      rw [List.not_any_eq_all_not]; simp
    have hb3 := hm3.blk hb2 id
    have k03 : FO Try.prog w3 28 0 0 ⟨w.heap.size, 0, none⟩ 25 (.slice A P.code.length c) := FO.blk hb3 (by kernel_rfl) vCs rfl (by rw [ecs]; rfl)
    cases hany : P.code.any fun i => !(P.tk i).2.2 with
    | true =>
      rw [hany] at hall
      simp only [↓VG_u, ↓UG_u, ↓MG_u, ↓NG_u, ↓PG_u, ↓BG_u, ↓CG_u, ↓IG_u, ↓VGtt, ↓VGtf, ↓VGft, ↓VGff, ↓UGtt, ↓UGtf, ↓UGft, ↓UGff, ↓MGtt, ↓MGtf, ↓MGft, ↓MGff, ↓NGtt, ↓NGtf, ↓NGft, ↓NGff, ↓PGtt, ↓PGtf, ↓PGft, ↓PGff, ↓BGtt, ↓BGtf, ↓BGft, ↓BGff, ↓CGtt, ↓CGtf, ↓CGft, ↓CGff, ↓IGtt, ↓IGtf, ↓IGft, ↓IGff, ↓PKt, ↓PKf, ↓CDt, ↓CDf, ↓NOTt, ↓NOTf, ↓NK_ptr]
      exact ⟨by rw [hW, ← hall, decide_eq_true c1, decide_eq_true c2, decide_eq_true c3, decide_eq_true c4]; rfl, hm02.trans hm3⟩
    | false =>
      rw [hany] at hall
      simp only [↓VG_u, ↓UG_u, ↓MG_u, ↓NG_u, ↓PG_u, ↓BG_u, ↓CG_u, ↓IG_u, ↓VGtt, ↓VGtf, ↓VGft, ↓VGff, ↓UGtt, ↓UGtf, ↓UGft, ↓UGff, ↓MGtt, ↓MGtf, ↓MGft, ↓MGff, ↓NGtt, ↓NGtf, ↓NGft, ↓NGff, ↓PGtt, ↓PGtf, ↓PGft, ↓PGff, ↓BGtt, ↓BGtf, ↓BGft, ↓BGff, ↓CGtt, ↓CGtf, ↓CGft, ↓CGff, ↓IGtt, ↓IGtf, ↓IGft, ↓IGff, ↓PKt, ↓PKf, ↓CDt, ↓CDf, ↓NOTt, ↓NOTf, ↓NK_ptr, ↓k03.e, ↓BK_sub]
      rw [show IntKind.i64.wrap ((P.code.length : Int) - 1) = ((P.code.length - 1 : Nat) : Int) by rw [wrap_i (by omega) (by omega)]; omega]
      obtain ⟨i, hi⟩ : ∃ i, P.code[P.code.length - 1]? = some i := ⟨_, List.getElem?_eq_getElem (by omega)⟩
      refine ixInsA (hc2.mod hm3) hi fun a ha => ?_
      have k2 : FO Try.prog w3 30 0 0 a 5 (.int .u8 i.op) := FO.mk' (by kernel_rfl) vU8 rfl (ha 0 _ rfl)
      rw [k2.e, BK_eql]
      refine ⟨?_, hm02.trans hm3⟩
      rw [hW, ← hall, lastOp hi, decide_eq_true c1, decide_eq_true c2, decide_eq_true c3, decide_eq_true c4]
      rfl
end Go.Proofs.Ytmbgbffgkdcieaa.Tr
set_option linter.unusedVariables false
set_option linter.unusedSimpArgs false
set_option maxRecDepth 4000
namespace Go.Proofs.Ytmbgbffgkdcieaa.Tr
open Go Go.X Go.RowKit Go.Proofs.Ytmbgbffgkdcieaa.XF Go.Proofs.Ytmbgbffgkdcieaa.XK
theorem wayV_len (a : Int) (i : Ins) : (wayV a i).length ≤ 2 := by
  unfold wayV
  split
  · simp
  · split
    · simp
    · split <;> simp
theorem ways_ok {at_ : Int} {i : Ins} (h0 : 0 ≤ at_) (h1 : at_ ≤ 1000000) (w : World) : Rt Try.prog 35 #[.int .i64 at_, .agg i.cells.toArray] w fun v w' => reads w' 1 v (wayV at_ i).length (i64s (wayV at_ i)) ∧ (∀ k, v.ownBlock = some k → w.heap.size ≤ k) ∧ Mod none_ w w' := by
  refine code_ways_calls ?_
  unfold code_ways_F
  refine box_k (cs := i.cells.toArray) rfl fun w1 hb1 hm1 hz1 => ?_
  have g0 : FO Try.prog w1 30 0 0 ⟨w.heap.size, 0, none⟩ 5 (.int .u8 i.op) := FO.blk hb1 (by kernel_rfl) vU8 rfl rfl
  have g1 : FO Try.prog w1 30 1 1 ⟨w.heap.size, 0, none⟩ 2 (.int .i64 i.n) := FO.blk hb1 (by kernel_rfl) vN rfl rfl
  have ew : IntKind.i64.wrap (at_ + 1) = at_ + 1 := wrap_i (by omega) (by omega)
  rw [g0.e]
  have row : ∀ (w' : World) (b : Nat) (l : List Int), w'.heap[b]? = some (.cells (i64s l).toArray (Try.prog.elem 26) (0, 0)) → reads w' 1 (.slice (some ⟨b, 0, none⟩) l.length l.length) l.length (i64s l) := fun w' b l hb => by
    have := reads_blk (size := 1) (n := l.length) hb (by simp [i64s])
    simpa using this
  refine caseI (fun q => ?_) (fun n29 => ?_)
  · refine condT ?_
    have e : wayV at_ i = [] := by unfold wayV; rw [if_pos q]
    rw [e]
    exact ⟨reads_nil _ _, fun k q => (by cases q), hm1⟩
  refine condF ?_
  refine caseI (fun q => ?_) (fun n22 => ?_)
  · refine condT ?_
    have e : wayV at_ i = [i.n] := by unfold wayV; rw [if_neg n29, if_pos q]
    rw [e, g1.e]
    refine bs_k (cs := (i64s [i.n]).toArray) (by kernel_rfl) fun w2 hb2 hm2 hz2 => ?_
    exact ⟨row w2 _ [i.n] hb2, fun k q => (by cases q; exact hm1.size), hm1.trans hm2⟩
  refine condF ?_
  have key : ∀ (ρ : Sl) (b : Bool), ρ 14 = .bool b → ρ 0 = .int .i64 at_ → ρ 3 = .pointer (some ⟨w.heap.size, 0, none⟩) → (b = true → i.op = 23 ∨ i.op = 24) → (b = false → ¬ (i.op = 23 ∨ i.op = 24)) →
      sx fn_ Try.prog 25 code_ways_R0 (blkK 0 (seqK (sx fn_ Try.prog 25 code_ways_R1 (retK Try.prog [ResultVar.tmp 4] fun v w' => reads w' 1 v (wayV at_ i).length (i64s (wayV at_ i)) ∧ (∀ k, v.ownBlock = some k → w.heap.size ≤ k) ∧ Mod none_ w w')) (retK Try.prog [ResultVar.tmp 4] fun v w' => reads w' 1 v (wayV at_ i).length (i64s (wayV at_ i)) ∧ (∀ k, v.ownBlock = some k → w.heap.size ≤ k) ∧ Mod none_ w w'))) ρ w1 := by
    intro ρ b g14 gg0 gg3 hb hn
    rw [code_ways_R0_eq]; unfold code_ways_R0_F
    rw [g14, gg0, gg3]
    cases b with
    | true =>
      refine condT ?_
      have e : wayV at_ i = [at_ + 1, i.n] := by unfold wayV; rw [if_neg n29, if_neg n22, if_pos (hb rfl)]
      rw [BK_add, ew, g1.e, e]
      refine bs_k (cs := (i64s [at_ + 1, i.n]).toArray) (by kernel_rfl) fun w2 hb2 hm2 hz2 => ?_
      exact ⟨row w2 _ [at_ + 1, i.n] hb2, fun k q => (by cases q; exact hm1.size), hm1.trans hm2⟩
    | false =>
      refine condF ?_
      have e : wayV at_ i = [at_ + 1] := by unfold wayV; rw [if_neg n29, if_neg n22, if_neg (hn rfl)]
      rw [bk_n, sq_n, code_ways_R1_eq]; unfold code_ways_R1_F
      rw [gg0, BK_add, ew, e]
      refine bs_k (cs := (i64s [at_ + 1]).toArray) (by kernel_rfl) fun w2 hb2 hm2 hz2 => ?_
      exact ⟨row w2 _ [at_ + 1] hb2, fun k q => (by cases q; exact hm1.size), hm1.trans hm2⟩
  refine caseI (fun q => ?_) (fun n23 => ?_)
  · refine condT ?_
    exact key _ true rfl rfl rfl (fun _ => .inl q) (fun z => by cases z)
  refine condF ?_
  refine caseI (fun q => ?_) (fun n24 => ?_)
  · exact key _ true rfl rfl rfl (fun _ => .inr q) (fun z => by cases z)
  · exact key _ false rfl rfl rfl (fun z => by cases z) (fun _ => by omega)
end Go.Proofs.Ytmbgbffgkdcieaa.Tr
set_option linter.unusedVariables false
set_option linter.unusedSimpArgs false
set_option maxRecDepth 4000
namespace Go.Proofs.Ytmbgbffgkdcieaa.Tr
open Go Go.X Go.RowKit Go.Proofs.Ytmbgbffgkdcieaa.XF Go.Proofs.Ytmbgbffgkdcieaa.XK
abbrev tI : TypeId := 3
theorem i64s_len (l : List Int) : (i64s l).length = l.length := by unfold i64s; simp
theorem i64s_one (l : List Int) : ∀ v ∈ i64s l, v.oneCell' = true := by
  intro v hv
  unfold i64s at hv
  obtain ⟨x, _, rfl⟩ := List.mem_map.1 hv
  rfl
theorem getD_some {l : List Int} {i : Nat} (h : i < l.length) : l[i]? = some (l.getD i 0) := by rw [List.getD_eq_getElem?_getD, List.getElem?_eq_getElem h]; rfl
theorem ways_loop {n B : Nat} {high : Int} {K : Exit → Sl → World → Prop} {ws out todo : List Int} {w : World} {ρ : Sl} (hws : ∀ x ∈ ws, 0 ≤ x ∧ x < n) (hout : out.length = n)
    (rows : reads w 1 (ρ 74) ws.length (i64s ws)) (g76 : ρ 76 = .int .i64 0) (g75 : ρ 75 = .int .i64 ws.length) (g10 : ρ 10 = .int .i64 high) (g4 : ρ 4 = .slice (some ⟨B, 0, none⟩) n n) (hB : w.ownsRow 0 tI 1 (.slice (some ⟨B, 0, none⟩) n n) n (i64s out))
    (htodo : reads w 1 (ρ 5) todo.length (i64s todo)) (hTB : (ρ 5).ownBlock ≠ some B) (hWB : (ρ 74).ownBlock ≠ some B) (hlen : todo.length + ws.length ≤ 100000)
    (hret : wlS high ws out todo = none → ∀ ρ' w', ρ' 2 = .slice none 0 0 → ρ' 3 = .int .i64 50 → Mod (fun b => b = B) w w' → K .ret ρ' w')
    (hexit : ∀ o t, wlS high ws out todo = some (o, t) → ∀ ρ' w', ρ' 4 = ρ 4 → ρ' 1 = ρ 1 → w'.ownsRow 0 tI 1 (.slice (some ⟨B, 0, none⟩) n n) n (i64s o) → reads w' 1 (ρ' 5) t.length (i64s t) → (ρ' 5).ownBlock ≠ some B → Mod (fun b => b = B) w w' → K (.exit 2) ρ' w') :
    W fn_ Try.prog 108 (Code.loop code_Heights_L5) K ρ w := by
  have hBlt : B < w.heap.size := by
    obtain ⟨c, hc⟩ := owns_blk hB rfl
    exact X.blk_lt hc
  refine W_loop code_Heights_L5_ok (fun ρ' w' => ∃ (k : Nat) (out1 todo1 : List Int), k ≤ ws.length ∧ out1.length = n ∧ todo1.length ≤ todo.length + k ∧ wlS high (ws.drop k) out1 todo1 = wlS high ws out todo ∧ ρ' 76 = .int .i64 k ∧ ρ' 75 = .int .i64 ws.length ∧ ρ' 74 = ρ 74 ∧ ρ' 10 = .int .i64 high ∧ ρ' 4 = .slice (some ⟨B, 0, none⟩) n n ∧ ρ' 1 = ρ 1 ∧
      w'.ownsRow 0 tI 1 (.slice (some ⟨B, 0, none⟩) n n) n (i64s out1) ∧ reads w' 1 (ρ' 5) todo1.length (i64s todo1) ∧ (ρ' 5).ownBlock ≠ some B ∧ Mod (fun b => b = B) w w') (fun ρ _ => ws.length - (intOf (ρ 76)).toNat)
    ⟨0, out, todo, Nat.zero_le _, hout, Nat.le_refl _, rfl, g76, g75, rfl, g10, g4, rfl, hB, htodo, hTB, Mod.refl _ _⟩ ?_
  rintro ρ1 w1 ⟨k, out1, todo1, hk, ho1, hl1, hwl, e76, e75, e74, e10, e4, e1, hB1, ht1, hT1, hm1⟩
  rw [code_Heights_L5_eq]; unfold code_Heights_L5_F
  rw [e76, e75, e74, e10, e4, BK_lss]
  have rows1 := reads_mod rows hm1 fun q _ hq z => hWB (by rw [hq, z])
  obtain ⟨AT, cT, eT, hcT⟩ := reads_cap ht1
  by_cases hlt : k < ws.length
  · rw [decide_eq_true (by omega)]
    refine condT ?_
    have hx := getD_some hlt
    generalize hxe : ws.getD k 0 = x at hx
    have hxr := hws x (List.mem_of_getElem? hx)
    have hxn : x = ((x.toNat : Nat) : Int) := by omega
    have hdrop : ws.drop k = x :: ws.drop (k + 1) := by rw [List.drop_eq_getElem_cons hlt]; congr 1; rw [List.getElem?_eq_getElem hlt] at hx; injection hx
    rw [hdrop, wlS] at hwl
    refine ixld vIs cI vI rfl rows1 (by omega) (by simpa using i64s_get hx) fun y => ?_
    have hy := getD_some (l := out1) (i := x.toNat) (by omega)
    refine ixld vIs cI vI rfl (reads_of_owns hB1) hxr.1 (i64s_get hy) fun y2 => ?_
    have next : ∀ (ρ2 : Sl) (w2 : World) (out2 todo2 : List Int), out2.length = n → todo2.length ≤ todo.length + (k + 1) → wlS high (ws.drop (k + 1)) out2 todo2 = wlS high ws out todo → ρ2 76 = .int .i64 k → ρ2 75 = .int .i64 ws.length → ρ2 74 = ρ 74 → ρ2 10 = .int .i64 high → ρ2 4 = .slice (some ⟨B, 0, none⟩) n n → ρ2 1 = ρ 1 →
        w2.ownsRow 0 tI 1 (.slice (some ⟨B, 0, none⟩) n n) n (i64s out2) → reads w2 1 (ρ2 5) todo2.length (i64s todo2) → (ρ2 5).ownBlock ≠ some B → Mod (fun b => b = B) w w2 →
        sx fn_ Try.prog 108 code_Heights_R6 (seqK (fun ρ' w' => (∃ (k : Nat) (out1 todo1 : List Int), k ≤ ws.length ∧ out1.length = n ∧ todo1.length ≤ todo.length + k ∧ wlS high (ws.drop k) out1 todo1 = wlS high ws out todo ∧ ρ' 76 = .int .i64 k ∧ ρ' 75 = .int .i64 ws.length ∧ ρ' 74 = ρ 74 ∧ ρ' 10 = .int .i64 high ∧ ρ' 4 = .slice (some ⟨B, 0, none⟩) n n ∧ ρ' 1 = ρ 1 ∧
          w'.ownsRow 0 tI 1 (.slice (some ⟨B, 0, none⟩) n n) n (i64s out1) ∧ reads w' 1 (ρ' 5) todo1.length (i64s todo1) ∧ (ρ' 5).ownBlock ≠ some B ∧ Mod (fun b => b = B) w w') ∧ ws.length - (intOf (ρ' 76)).toNat < ws.length - (intOf (Value.int .i64 k)).toNat) K) ρ2 w2 := by
      intro ρ2 w2 out2 todo2 a1 a2 a3 a4 a5 a6 a7 a8 a9 a10 a11 a12 a13
      rw [code_Heights_R6_eq]; unfold code_Heights_R6_F
      rw [a4, BK_add, wrap_i (n := (k : Int) + 1) (by omega) (by omega)]
      rw [sq_n]
      refine ⟨⟨k + 1, out2, todo2, hlt, a1, a2, a3, rfl, a5, a6, a7, a8, a9, a10, a11, a12, a13⟩, ?_⟩
      simp only [sq_n, sq_x, sq_r, bk_n, bk_r, bk_x, rt_r, rt_n, rs_0, rs_t, pk_1, pk_2, up_at, reduceIte, Nat.reduceEqDiff, intOf]
      omega
    refine caseI (fun q => ?_) (fun q => ?_)
    · refine condT ?_
      rw [if_pos q] at hwl
      rw [hxn]
      refine put_r vIs cI rfl hB1 (i := x.toNat) (by omega) fun y3 w2 hB2 hm2 hz2 => ?_
      have hm2' : Mod (fun b => b = B) w1 w2 := hm2.mono fun b _ q => by injection q
      have ht2 := reads_mod ht1 hm2' fun b _ hb z => hT1 (by rw [hb, z])
      rw [eT] at ht2 ⊢
      rw [len_sl vIs, BK_add, show IntKind.i64.wrap ((todo1.length : Int) + 1) = ((todo1.length + 1 : Nat) : Int) by rw [wrap_i (by omega) (by omega)]; omega]
      refine mk_k (e := 3) (q := .i64) vIs (by kernel_rfl) (by omega) fun w3 hb3 hm3 hz3 => ?_
      have ht3 := reads_mod ht2 hm3 fun _ _ _ q => q
      refine cp_k (e := 3) (o := 0) (dLen := todo1.length + 1) (dCap := todo1.length + 1) vIs (by kernel_rfl) hb3 ht3 (i64s_one _) (by simp) fun w4 hb4 hm4 hz4 => ?_
      have hmin : Nat.min todo1.length (todo1.length + 1) = todo1.length := Nat.min_eq_left (by omega)
      have hb4' : w4.heap[w2.heap.size]? = some (.cells (i64s todo1 ++ [Value.int .i64 0]).toArray 3 (0, 0)) := by
        rw [hb4]
        congr 2
        rw [hmin]
        rw [List.take_zero, List.nil_append, List.take_of_length_le (by rw [i64s_len]; omega), Array.toList_replicate, Nat.zero_add, List.drop_replicate, show todo1.length + 1 - todo1.length = 1 by omega]
        rfl
      rw [len_sl vIs]
      refine put_r (w := w4) vIs cI rfl (owns_new hb4' (by rw [List.length_append, i64s_len]; rfl) (by omega)) (i := todo1.length) (by omega) fun y4 w5 hB5 hm5 hz5 => ?_
      have hm5' : Mod (fun b => b = w2.heap.size) w4 w5 := hm5.mono fun b _ q => by injection q
      have hm25 : Mod none_ w2 w5 := (hm3.then hm4 fun i hi q => by omega).then hm5' fun i hi q => by omega
      rw [code_Heights_R7_eq]; unfold code_Heights_R7_F
      rw [bk_n, bk_n, sq_n]
      have eset : (i64s todo1 ++ [Value.int .i64 0]).set todo1.length (.int .i64 ((x.toNat : Nat) : Int)) = i64s (todo1 ++ [x]) := by
        rw [← i64s_len todo1, List.set_append_right _ _ (Nat.le_refl _), Nat.sub_self, ← hxn]
        unfold i64s
        simp
      refine next _ w5 (out1.set x.toNat high) (todo1 ++ [x]) (by rw [List.length_set]; exact ho1) (by rw [List.length_append, List.length_singleton]; omega) hwl e76 e75 e74 e10 e4 e1 ?_ ?_ ?_ ?_
      · refine owns_mod ?_ hm25 fun _ _ q => q
        have : (i64s out1).set x.toNat (.int .i64 high) = i64s (out1.set x.toNat high) := by unfold i64s; rw [List.map_set]
        rw [← this]
        exact hB2
      · rw [eset] at hB5
        have := reads_of_owns hB5
        rw [show (todo1 ++ [x]).length = todo1.length + 1 by simp]
        exact this
      · show some w2.heap.size ≠ some B
        intro z
        injection z with z
        have := hm1.size
        omega
      · exact (hm1.trans hm2').then hm25 fun _ _ q => q.elim
    · refine condF ?_
      rw [if_neg q] at hwl
      refine caseI (fun q2 => ?_) (fun q2 => ?_)
      · refine condT ?_
        rw [if_pos q2] at hwl
        exact next _ w1 out1 todo1 ho1 (by omega) hwl e76 e75 e74 e10 e4 e1 hB1 ht1 hT1 hm1
      · refine condF ?_
        rw [if_neg q2] at hwl
        exact hret hwl.symm _ w1 rfl rfl hm1
  · obtain rfl : k = ws.length := by omega
    rw [decide_eq_false (by omega)]
    refine condF ?_
    rw [List.drop_length, wlS] at hwl
    rw [sq_x]
    exact hexit out1 todo1 hwl.symm _ w1 (by rw [g4]; exact e4) e1 hB1 ht1 hT1 hm1
end Go.Proofs.Ytmbgbffgkdcieaa.Tr
set_option linter.unusedVariables false
set_option linter.unusedSimpArgs false
set_option maxRecDepth 4000
namespace Go.Proofs.Ytmbgbffgkdcieaa.Tr
open Go Go.X Go.RowKit Go.Proofs.Ytmbgbffgkdcieaa.XF Go.Proofs.Ytmbgbffgkdcieaa.XK
theorem QixIns {C : World → Prop} {s : Value} {l : List Ins} {i : Nat} {e : Ins} {K : Value → Prop} {w0 : World} (hw0 : C w0) (h : ∀ w, C w → InsRow w s l) (hi : l[i]? = some e) (hk : ∀ a, (∀ w, C w → ∀ j u, e.cells[j]? = some u → w.cell? (a.add j) = some u) → K (.pointer (some a))) :
    QK Try.prog C (do pure (Next.value (← Instr.indexAt 25 s (.int .i64 (i : Int))))) K := by
  have hlt : i < l.length := (List.getElem?_eq_some_iff.1 hi).1
  obtain ⟨hl, A, c, hs, hc, hr⟩ := (h w0 hw0).1
  obtain ⟨a, ha | q⟩ := rd_cell (size := 2) (hs ▸ (h w0 hw0).1) hlt
  · subst ha
    subst hs
    refine QV_of (fun w _ => run_ixa vCs cC (by omega) (by omega) w) (hk _ fun w hw j u hu => ?_)
    obtain ⟨_, A', c', hs', _, hr'⟩ := (h w hw).1
    cases hs'
    have hj : j < 1 + 1 := (List.getElem?_eq_some_iff.1 hu).1
    obtain ⟨a', ha', hcell⟩ := hr' (i * 2 + j) u (by rw [fl_get (k := 1 + 1) Ins.cells_len hi hj]; exact hu)
    cases ha'
    rw [add_add, show ((i : Int).toNat) = i by omega]
    exact hcell
  · omega
abbrev HR_ (P : Pg) (w0 : World) : Value → World → Prop := fun v w' => (∃ lv, v = .tuple #[lv, .int .i64 (if P.heights.isSome then 0 else 50)]) ∧ Mod none_ w0 w'
theorem heights_ok {w : World} {P : Pg} {cs : List Value} (h : PgOk w P cs) (h1 : P.code.length ≤ 1048576) (h2 : P.arrs.length ≤ 1048576) : Rt Try.prog 21 #[.agg cs.toArray] w (HR_ P w) := by
  obtain ⟨A, A', c, c', ecs⟩ := h.e
  refine code_Heights_calls ?_
  unfold code_Heights_F
  refine box_k (cs := cs.toArray) rfl fun w1 hb1 hm1 hz1 => ?_
  have ihP : (Try.prog.info? 28).map (·.size) = some cs.toArray.size := by rw [ecs]; kernel_rfl
  refine ldB Try.underlying28 rfl ihP hb1 ?_
  refine CK_st Try.func32 rfl rfl (whole_ok (h.mod hm1) h1 h2 w1 (Mod.refl _ _)) ?_
  rintro _ w2 ⟨rfl, hm2⟩
  rw [not_ok]
  cases hw : P.whole with
  | false =>
    refine condT ?_
    have : P.heights = none := by unfold Pg.heights; rw [hw]; rfl
    exact ⟨⟨_, by rw [this]; rfl⟩, hm1.trans hm2⟩
  | true =>
    refine condF ?_
    have hl := whole_len hw
    have hcode1 : InsRow w1 (.slice A P.code.length c) P.code := by
      obtain ⟨s, a, b⟩ := (h.mod hm1).code
      rw [ecs] at a
      cases a
      exact b
    refine bs_k (cs := #[.int .i64 (-1)]) (by kernel_rfl) fun w3 hb3 hm3 hz3 => ?_
    have hm13 := hm2.trans hm3
    have k3 : FO Try.prog w3 28 0 0 ⟨w.heap.size, 0, none⟩ 25 (.slice A P.code.length c) := FO.blk (hm13.blk hb1 id) (by kernel_rfl) vCs rfl (by rw [ecs]; rfl)
    rw [k3.e, len_sl vCs]
    refine CK_st Try.func33 rfl rfl (Repeat_ok (n := P.code.length) (by omega) (by omega) (reads_blk (size := 1) (n := 1) hb3 rfl)) ?_
    rintro _ w4 ⟨rfl, hb4, hm4⟩
    have hz13 := hm13.size
    have hz4 := hm4.size
    have er : reps P.code.length P.code.length = (List.replicate P.code.length (Value.int .i64 (-1))).toArray := by unfold reps; simp
    rw [er] at hb4
    generalize hBe : w3.heap.size = B at *
    refine put_r (i := 0) vIs cI rfl (owns_new hb4 (by simp) (by omega)) (by omega) fun y w5 hB5 hm5 hz5 => ?_
    have hm5' : Mod (fun b => b = B) w4 w5 := hm5.mono fun b _ q => by injection q
    refine bs_k (cs := #[.int .i64 0]) (by kernel_rfl) fun w6 hb6 hm6 hz6 => ?_
    have hm16 : Mod none_ w1 w6 := ((hm13.trans hm4).then hm5' fun i hi q => by omega).trans hm6
    have e0 : (List.replicate P.code.length (Value.int .i64 (-1))).set 0 (.int .i64 0) = i64s ((List.replicate P.code.length (-1)).set 0 0) := by unfold i64s; rw [List.map_set, List.map_replicate]
    rw [e0] at hB5
    refine W_loopG code_Heights_L0_ok (fun m ρ w' => ∃ out todo : List Int, WlI P out todo ∧ (∀ b : Nat, out.getD b 0 ≤ 200) ∧ wl P m out todo = P.heights ∧ wlM out todo ≤ m ∧ m ≤ 9000 ∧ ρ 4 = .slice (some ⟨B, 0, none⟩) P.code.length P.code.length ∧ ρ 1 = .pointer (some ⟨w.heap.size, 0, none⟩) ∧
        w'.ownsRow 0 tI 1 (.slice (some ⟨B, 0, none⟩) P.code.length P.code.length) P.code.length (i64s out) ∧ reads w' 1 (ρ 5) todo.length (i64s todo) ∧ (ρ 5).ownBlock ≠ some B ∧ Mod none_ w1 w') (2 * P.code.length + 1)
      ⟨(List.replicate P.code.length (-1)).set 0 0, [0], WlI.start hw, fun b => ?_, ?_, wlM_start hw, by omega, rfl, rfl, owns_mod hB5 hm6 fun _ _ q => q, reads_blk (size := 1) (n := 1) hb6 rfl, ?_, hm16⟩ ?_
    · rw [getD_set (by simp; omega)]
      split
      · omega
      · rw [List.getD_eq_getElem?_getD, List.getElem?_replicate]
        split <;> simp
    · unfold Pg.heights; rw [if_pos hw]
    · show some w5.heap.size ≠ some B
      intro z
      have := X.blk_lt hb4
      injection z with z
      omega
    rintro m ρ w7 ⟨out, todo, hI, h200, hwl, hM, hm9, g4, g1, hB7, ht7, hT7, hm7⟩
    rw [code_Heights_L0_eq]; unfold code_Heights_L0_F
    obtain ⟨AT, cT, eT, hcT⟩ := reads_cap ht7
    rw [eT] at ht7
    rw [eT, len_sl vIs, BK_gtr]
    rcases List.eq_nil_or_concat todo with rfl | ⟨l, a, rfl⟩
    · rw [decide_eq_false (by simp)]
      refine condF ?_
      rw [sq_x, bk_x, sq_n, code_Heights_R1_eq]; unfold code_Heights_R1_F
      rw [wl_nil] at hwl
      exact ⟨⟨_, by rw [← hwl]; rfl⟩, hm1.trans hm7⟩
    · rw [List.concat_eq_append] at *
      have hlen : (l ++ [a]).length = l.length + 1 := by simp
      have hml : 1 + l.length ≤ m := by unfold wlM at hM; rw [hlen] at hM; omega
      rw [hlen] at ht7 ⊢
      rw [decide_eq_true (by omega)]
      refine condT ?_
      rw [len_sl vIs, BK_sub, show IntKind.i64.wrap (((l.length + 1 : Nat) : Int) - 1) = (l.length : Int) by rw [wrap_i (by omega) (by omega)]; omega]
      refine ixld vIs cI vI rfl ht7 (by omega) (u := .int .i64 a) (by unfold i64s; simp) fun y2 => ?_
      rw [len_sl vIs, BK_sub, show IntKind.i64.wrap (((l.length + 1 : Nat) : Int) - 1) = (l.length : Int) by rw [wrap_i (by omega) (by omega)]; omega]
      refine VK_of (run_cut (sz := 0) vIs cI (by omega) (by omega) (by omega) w7) ?_
      rw [Int.toNat_natCast]
      obtain ⟨a0, a1, a2⟩ := hI.td a (by simp)
      obtain ⟨an, rfl⟩ : ∃ an : Nat, a = an := ⟨a.toNat, by omega⟩
      have han : an < P.code.length := by omega
      obtain ⟨m', rfl⟩ : ∃ m', m = m' + 1 := ⟨m - 1, by omega⟩
      rw [wl_snoc] at hwl
      have hip : P.code[an]? = some (P.code.getD an zIns) := by rw [List.getD_eq_getElem?_getD, List.getElem?_eq_getElem han]; rfl
      have hop := whole_op hw (P.code.getD an zIns) (List.mem_of_getElem? hip)
      have hstep := fun o t => @WlI.step P hw out l o t (an : Int) hI
      simp only [Int.toNat_natCast] at hwl a2 hstep
      have hways := wayV_in hw han
      generalize hie : P.code.getD an zIns = i at *
      have htk := tk_nn hop
      have hh200 := h200 an
      generalize hhe : out.getD an 0 = hgt at *
      have hb7 := hm7.blk hb1 id
      have hcode7 := hcode1.mod hm7
      refine code_Heights_R2_quiet (D := []) (fun w' => Mod none_ w7 w') ((Mod.refl _ w7).drawn _) ?_
      unfold code_Heights_R2_Q
      simp only [sq_n, sq_x, sq_r, bk_n, bk_r, bk_x, rt_r, rt_n, rs_0, rs_t, pk_1, pk_2, up_at, reduceIte, Nat.reduceEqDiff, g1]
      refine QV_of (fun w' hw' => run_ldB Try.underlying28 rfl ihP (hw'.blk hb7 id)) ?_
      refine Qfo (off := 0) (a := ⟨w.heap.size, 0, none⟩) (by kernel_rfl) (Qld vCs rfl (v := .slice A P.code.length c) (fun w' hw' => by rw [add_pl, cell_blk (hw'.blk hb7 id), ecs]; rfl) ?_)
      refine QixIns (w0 := w7) (Mod.refl _ _) (fun w' hw' => hcode7.mod hw') hip fun ad had => ?_
      refine QV_of (fun w' hw' => run_ldA (cs := i.cells) Try.underlying30 rfl (by kernel_rfl) (had w' hw')) ?_
      refine QC_rt (R := fun w' => TR P i w') Try.func34 rfl rfl (v := .tuple #[.int .i64 (P.tk i).1, .int .i64 (P.tk i).2.1, .bool (P.tk i).2.2]) (fun w' hw' => by rw [ecs]; exact takes_ok w') (fun w' u w'' hw' hu => ⟨hu.1, hw'.trans hu.2⟩) ?_
      refine QV_of (v := .int .i64 (P.tk i).1) (fun w' _ => rfl) ?_
      refine QV_of (v := .int .i64 (P.tk i).2.1) (fun w' _ => rfl) ?_
      refine QV_of (v := .bool (P.tk i).2.2) (fun w' _ => rfl) ?_
      intro w8 hm8
      rw [code_Heights_R3_eq]; unfold code_Heights_R3_F
      simp only [sq_n, sq_x, sq_r, bk_n, bk_r, bk_x, rt_r, rt_n, rs_0, rs_t, pk_1, pk_2, up_at, reduceIte, Nat.reduceEqDiff, g4, g1]
      have hm18 := hm7.trans hm8
      have hB8 := owns_mod hB7 hm8 fun _ _ q => q
      have hgo := getD_some (l := out) (i := an) (by rw [hI.len]; exact han)
      rw [hhe] at hgo
      have fail : P.heights = none → HR_ P w (.tuple #[.slice none 0 0, .int .i64 50]) w8 := fun q => ⟨⟨_, by rw [q]; rfl⟩, hm1.trans hm18⟩
      refine ixld vIs cI vI rfl (reads_of_owns hB8) (by omega) (u := .int .i64 hgt) (by simpa using i64s_get hgo) fun y3 => ?_
      rw [BK_sub, wrap_i (n := hgt - (P.tk i).1) (by omega) (by omega), BK_add, wrap_i (n := hgt - (P.tk i).1 + (P.tk i).2.1) (by omega) (by omega)]
      refine ixld vIs cI vI rfl (reads_of_owns hB8) (by omega) (u := .int .i64 hgt) (by simpa using i64s_get hgo) fun y4 => ?_
      rw [BK_lss]
      by_cases c1 : hgt < (P.tk i).1
      · simp only [c1, decide_true, ↓VG_u, ↓UG_u, ↓MG_u, ↓NG_u, ↓PG_u, ↓BG_u, ↓CG_u, ↓IG_u, ↓VGtt, ↓VGtf, ↓VGft, ↓VGff, ↓UGtt, ↓UGtf, ↓UGft, ↓UGff, ↓MGtt, ↓MGtf, ↓MGft, ↓MGff, ↓NGtt, ↓NGtf, ↓NGft, ↓NGff, ↓PGtt, ↓PGtf, ↓PGft, ↓PGff, ↓BGtt, ↓BGtf, ↓BGft, ↓BGff, ↓CGtt, ↓CGtf, ↓CGft, ↓CGff, ↓IGtt, ↓IGtf, ↓IGft, ↓IGff, ↓PKt, ↓PKf, ↓CDt, ↓CDf, ↓NOTt, ↓NOTf, ↓NK_ptr]
        rw [if_pos (.inl c1)] at hwl
        exact fail hwl.symm
      simp only [c1, decide_false, ↓VG_u, ↓UG_u, ↓MG_u, ↓NG_u, ↓PG_u, ↓BG_u, ↓CG_u, ↓IG_u, ↓VGtt, ↓VGtf, ↓VGft, ↓VGff, ↓UGtt, ↓UGtf, ↓UGft, ↓UGff, ↓MGtt, ↓MGtf, ↓MGft, ↓MGff, ↓NGtt, ↓NGtf, ↓NGft, ↓NGff, ↓PGtt, ↓PGtf, ↓PGft, ↓PGff, ↓BGtt, ↓BGtf, ↓BGft, ↓BGff, ↓CGtt, ↓CGtf, ↓CGft, ↓CGff, ↓IGtt, ↓IGtf, ↓IGft, ↓IGff, ↓PKt, ↓PKf, ↓CDt, ↓CDf, ↓NOTt, ↓NOTf, ↓NK_ptr, ↓BK_gtr]
      by_cases c2 : 200 < hgt - (P.tk i).1 + (P.tk i).2.1
      · simp only [c2, decide_true, ↓VG_u, ↓UG_u, ↓MG_u, ↓NG_u, ↓PG_u, ↓BG_u, ↓CG_u, ↓IG_u, ↓VGtt, ↓VGtf, ↓VGft, ↓VGff, ↓UGtt, ↓UGtf, ↓UGft, ↓UGff, ↓MGtt, ↓MGtf, ↓MGft, ↓MGff, ↓NGtt, ↓NGtf, ↓NGft, ↓NGff, ↓PGtt, ↓PGtf, ↓PGft, ↓PGff, ↓BGtt, ↓BGtf, ↓BGft, ↓BGff, ↓CGtt, ↓CGtf, ↓CGft, ↓CGff, ↓IGtt, ↓IGtf, ↓IGft, ↓IGff, ↓PKt, ↓PKf, ↓CDt, ↓CDf, ↓NOTt, ↓NOTf, ↓NK_ptr]
        rw [if_pos (.inr c2)] at hwl
        exact fail hwl.symm
      simp only [c2, decide_false, ↓VG_u, ↓UG_u, ↓MG_u, ↓NG_u, ↓PG_u, ↓BG_u, ↓CG_u, ↓IG_u, ↓VGtt, ↓VGtf, ↓VGft, ↓VGff, ↓UGtt, ↓UGtf, ↓UGft, ↓UGff, ↓MGtt, ↓MGtf, ↓MGft, ↓MGff, ↓NGtt, ↓NGtf, ↓NGft, ↓NGff, ↓PGtt, ↓PGtf, ↓PGft, ↓PGff, ↓BGtt, ↓BGtf, ↓BGft, ↓BGff, ↓CGtt, ↓CGtf, ↓CGft, ↓CGff, ↓IGtt, ↓IGtf, ↓IGft, ↓IGff, ↓PKt, ↓PKf, ↓CDt, ↓CDf, ↓NOTt, ↓NOTf, ↓NK_ptr]
      rw [if_neg (by omega)] at hwl
      have k8 : FO Try.prog w8 28 0 0 ⟨w.heap.size, 0, none⟩ 25 (.slice A P.code.length c) := FO.blk (hm18.blk hb1 id) (by kernel_rfl) vCs rfl (by rw [ecs]; rfl)
      rw [k8.e]
      refine ixIns (hcode1.mod hm18) hip fun y5 => ?_
      refine CK_st Try.func35 rfl rfl (ways_ok (i := i) (by omega) (by omega) w8) ?_
      rintro v9 w9 ⟨hrow, hnew, hm9'⟩
      obtain ⟨A9, c9, e9, _⟩ := reads_cap hrow
      rw [e9, len_sl vIs]
      rw [code_Heights_R4_eq]; unfold code_Heights_R4_F
      have hm19 := hm18.trans hm9'
      have fail9 : P.heights = none → ∀ w', Mod none_ w1 w' → HR_ P w (.tuple #[.slice none 0 0, .int .i64 50]) w' := fun q w' hq => ⟨⟨_, by rw [q]; rfl⟩, hm1.trans hq⟩
      have htk : (l ++ [(an : Int)]).take l.length = l := by simp
      have hcut := reads_cut ht7 (m := l.length) (by omega) 1
      have hcut' : reads w7 1 (sliced AT 0 l.length cT 1) l.length (i64s l) := by
        have e : (i64s (l ++ [(an : Int)])).take (l.length * 1) = i64s l := by unfold i64s; simp
        rw [e] at hcut
        exact hcut
      have hTc : (sliced AT 0 l.length cT 1).ownBlock ≠ some B := by
        rw [eT] at hT7
        intro z
        apply hT7
        rw [← z]
        unfold sliced
        cases AT with
        | none => by_cases q : cT = 0 <;> simp [q, Value.ownBlock]
        | some x => by_cases q : cT = 0 <;> simp [q, Value.ownBlock, add_block]
      have hBlt : B < w8.heap.size := by
        obtain ⟨c, hc⟩ := owns_blk hB8 rfl
        exact X.blk_lt hc
      refine ways_loop (n := P.code.length) (B := B) (high := hgt - (P.tk i).1 + (P.tk i).2.1) (ws := wayV an i) (out := out) (todo := l) hways hI.len (by simp only [sq_n, sq_x, sq_r, bk_n, bk_r, bk_x, rt_r, rt_n, rs_0, rs_t, pk_1, pk_2, up_at, reduceIte, Nat.reduceEqDiff]; rw [← e9]; exact hrow) (by simp only [sq_n, sq_x, sq_r, bk_n, bk_r, bk_x, rt_r, rt_n, rs_0, rs_t, pk_1, pk_2, up_at, reduceIte, Nat.reduceEqDiff]) (by simp only [sq_n, sq_x, sq_r, bk_n, bk_r, bk_x, rt_r, rt_n, rs_0, rs_t, pk_1, pk_2, up_at, reduceIte, Nat.reduceEqDiff]) (by simp only [sq_n, sq_x, sq_r, bk_n, bk_r, bk_x, rt_r, rt_n, rs_0, rs_t, pk_1, pk_2, up_at, reduceIte, Nat.reduceEqDiff]) (by simp only [sq_n, sq_x, sq_r, bk_n, bk_r, bk_x, rt_r, rt_n, rs_0, rs_t, pk_1, pk_2, up_at, reduceIte, Nat.reduceEqDiff, g4]) (owns_mod hB8 hm9' fun _ _ q => q)
        (by simp only [sq_n, sq_x, sq_r, bk_n, bk_r, bk_x, rt_r, rt_n, rs_0, rs_t, pk_1, pk_2, up_at, reduceIte, Nat.reduceEqDiff]; exact reads_mod (reads_mod hcut' hm8 fun _ _ _ q => q) hm9' fun _ _ _ q => q) (by simp only [sq_n, sq_x, sq_r, bk_n, bk_r, bk_x, rt_r, rt_n, rs_0, rs_t, pk_1, pk_2, up_at, reduceIte, Nat.reduceEqDiff]; exact hTc) (by simp only [sq_n, sq_x, sq_r, bk_n, bk_r, bk_x, rt_r, rt_n, rs_0, rs_t, pk_1, pk_2, up_at, reduceIte, Nat.reduceEqDiff]; rw [← e9]; intro z; have := hnew _ z; omega) (by have := wayV_len an i; omega) ?_ ?_
      · intro hs ρ' w' q2 q3 hm
        rw [hs] at hwl
        rw [bk_r, bk_r, sq_r, bk_r, sq_r]
        have : HR_ P w (.tuple #[ρ' 2, ρ' 3]) w' := by
          rw [q2, q3]
          exact fail9 hwl.symm w' (hm19.then hm fun k hk q => by omega)
        exact this
      · intro o t hs ρ' w' q4 q1 hBo ht hTo hm
        rw [hs] at hwl
        dsimp only at hwl
        obtain ⟨s1, s2⟩ := hstep o t hs (by omega) (by omega)
        rw [bk_x, bk_n, sq_n]
        have hS := wlS_ok (by omega) (fun x hx => by rw [hI.len]; exact hways x hx) hs
        refine ⟨m', Nat.lt_succ_self _, o, t, s1, fun b => ?_, hwl, by omega, by omega, by rw [q4]; simp only [sq_n, sq_x, sq_r, bk_n, bk_r, bk_x, rt_r, rt_n, rs_0, rs_t, pk_1, pk_2, up_at, reduceIte, Nat.reduceEqDiff, g4], by rw [q1]; simp only [sq_n, sq_x, sq_r, bk_n, bk_r, bk_x, rt_r, rt_n, rs_0, rs_t, pk_1, pk_2, up_at, reduceIte, Nat.reduceEqDiff, g1], hBo, ht, hTo, hm19.then hm fun k hk q => by omega⟩
        rcases hS.new b with z | z
        · rw [z]; exact h200 b
        · rw [z.1]; omega
theorem may_ok {w : World} {P : Pg} {cs : List Value} (h : PgOk w P cs) (h1 : P.code.length ≤ 1048576) (h2 : P.arrs.length ≤ 1048576) : Rt Try.prog 14 #[.agg cs.toArray] w fun v w' => v = .bool P.may ∧ Mod none_ w w' := by
  obtain ⟨A, A', c, c', ecs⟩ := h.e
  refine code_May_calls ?_
  unfold code_May_F
  refine box_k (cs := cs.toArray) rfl fun w1 hb1 hm1 hz1 => ?_
  have ihP : (Try.prog.info? 28).map (·.size) = some cs.toArray.size := by rw [ecs]; kernel_rfl
  refine ldB Try.underlying28 rfl ihP hb1 ?_
  refine CK_st Try.func21 rfl rfl (heights_ok (h.mod hm1) h1 h2) ?_
  rintro _ w2 ⟨⟨lv, rfl⟩, hm2⟩
  rw [extract_ok (v := lv) rfl, extract_ok (v := .int .i64 (if P.heights.isSome then 0 else 50)) rfl]
  refine caseI (fun q => ?_) (fun q => ?_)
  · refine ⟨?_, hm1.trans hm2⟩
    unfold Pg.may
    cases hq : P.heights.isSome with
    | true => rfl
    | false => rw [hq] at q; simp at q
  · refine ⟨?_, hm1.trans hm2⟩
    unfold Pg.may
    cases hq : P.heights.isSome with
    | true => rw [hq] at q; simp at q
    | false => rfl
end Go.Proofs.Ytmbgbffgkdcieaa.Tr
set_option linter.unusedVariables false
set_option linter.unusedSimpArgs false
set_option maxRecDepth 4000
namespace Go.X
open Go Go.RowKit
theorem bs0_k {P : Program} {w : World} {K : Value → World → Prop} {t e : TypeId} {n : Nat} (hu : P.underlying t = some (.slice e)) (hi : (P.info? e).map (·.size) = some n)
    (hk : ∀ w', w'.heap[w.heap.size]? = some (.cells #[] e (0, 0)) → Mod none_ w w' → w'.heap.size = w.heap.size + 1 → K (.slice (some ⟨w.heap.size, 0, none⟩) 0 0) w') : VK P (Instr.buildSlice t 0 [].toArray) w K := by
  obtain ⟨ie, hie, _⟩ := Option.map_eq_some_iff.1 hi
  have hr : (Instr.buildSlice t 0 [].toArray).run P w = .ok (.slice (some ⟨w.heap.size, 0, none⟩) 0 0) (w.alloc (.cells #[] e)) := by
    simp [Instr.buildSlice, Sem.run_bind, run_underlying hu, sizeOf, typeInfo, hie, Instr.fill, newRow]
    rw [Array.eq_empty_of_size_eq_zero (xs := Array.map _ (Array.range 0)) (by simp)]
  exact VK_of hr (new_k w _ hk)
theorem owns_zero {w : World} {b : Nat} {e : TypeId} {size base : Nat} (h : w.heap[b]? = some (.cells #[] e (0, 0))) (hb : base ≤ b) : w.ownsRow base e size (.slice (some ⟨b, 0, none⟩) 0 0) 0 [] :=
  ⟨by simp, .inr ⟨b, 0, #[], rfl, hb, h, Nat.le_refl _, Nat.zero_le _, by simp, by simp⟩⟩
end Go.X
namespace Go.Proofs.Ytmbgbffgkdcieaa.Tr
open Go Go.X Go.RowKit Go.Proofs.Ytmbgbffgkdcieaa.XF Go.Proofs.Ytmbgbffgkdcieaa.XK
theorem BK_sln {t e : TypeId} (h : Try.prog.underlying t = some (.slice e)) {w : World} {K : Value → World → Prop} {x y : Operand} (a : Option Addr) (n c : Nat) : BK Try.prog .eql t x y (.slice a n c) (.slice none 0 0) w K = K (.bool a.isNone) w :=
  BK_of rfl (Lib.run_eql_slice_nil w t e a n c 0 0 h)
theorem eIs : elemOk Try.prog 26 3 1 8 = true := by kernel_rfl
theorem eNs : elemOk Try.prog 22 2 1 8 = true := by kernel_rfl
theorem eCs : elemOk Try.prog 25 30 2 16 = true := by kernel_rfl
theorem clone_k {t e : TypeId} {size bytes : Nat} (hE : elemOk Try.prog t e size bytes = true) (hu : Try.prog.underlying t = some (.slice e)) (hi : (Try.prog.info? e).map (·.size) = some size) (hb : bytes ≤ 64) {w : World} {v : Value} {n : Nat} {xs : List Value} (h : reads w size v n xs) (h1 : ∀ u ∈ xs, u.oneCell' = true) (hn : n ≤ 1099511627776) (hpos : 0 < size) {R : Value → World → Prop}
    (hk : ∀ v' w', w'.ownsRow w.heap.size e size v' n xs → Mod none_ w w' → R v' w') {x y : Operand} :
    BK Try.prog .eql t x y v (.slice none 0 0) w fun x4 w => CondK x4 (R (.slice none 0 0) w) (VK Try.prog (Instr.buildSlice t 0 [].toArray) w fun x5 w => IK Try.prog .append #[t, t] t [false, false] [x5, v] w fun x7 w => R x7 w) := by
  obtain ⟨A, c, rfl, hnc⟩ := reads_cap h
  rw [BK_sln hu]
  cases A with
  | none =>
    refine condT (hk _ _ ?_ (Mod.refl _ _))
    have h0 : xs = [] := by
      obtain ⟨hl, A', c', q, _, hr⟩ := h
      cases q
      rcases Nat.eq_zero_or_pos xs.length with q | q
      · exact List.length_eq_zero_iff.1 q
      · obtain ⟨a, ha, _⟩ := hr 0 _ (List.getElem?_eq_getElem q)
        cases ha
    have hn0 : n = 0 := by
      have := h.1
      rw [h0] at this
      rcases Nat.eq_zero_or_pos n with q | q
      · exact q
      · have := Nat.mul_pos q hpos; simp at *; omega
    rw [h0, hn0]
    exact ⟨by simp, .inl ⟨rfl, rfl⟩⟩
  | some a =>
    refine condF ?_
    refine bs0_k hu hi fun w1 hb1 hm1 hz1 => ?_
    have hown : w1.ownsRow w.heap.size e size (.slice (some ⟨w.heap.size, 0, none⟩) 0 0) 0 [] := owns_zero hb1 (Nat.le_refl _)
    have hnb : (0 + n) * bytes ≤ 140737488355328 := by
      have : (0 + n) * bytes ≤ 1099511627776 * 64 := Nat.mul_le_mul (by omega) hb
      omega
    refine ap_any hE hown (reads_mod h hm1 (fun _ _ _ => id)) h1 (by unfold maxLen; omega) hnb (by omega) fun v' w' h2 hm2 _ => ?_
    refine hk v' w' (by simpa using h2) (hm1.then hm2 fun i hi q => ?_)
    have : i = w.heap.size := by simpa [Value.ownBlock] using q
    omega
theorem ins_one (l : List Ins) : ∀ u ∈ l.flatMap Ins.cells, u.oneCell' = true := by
  intro u hu
  obtain ⟨i, _, hi⟩ := List.mem_flatMap.1 hu
  unfold Ins.cells at hi
  rcases List.mem_cons.1 hi with rfl | hi
  · rfl
  · rw [List.mem_singleton.1 hi]; rfl
theorem cloneC_ok {w : World} {v : Value} {l : List Ins} (h : InsRow w v l) (hn : l.length ≤ 1048576) : Rt Try.prog 22 #[v] w fun v' w' => w'.ownsRow w.heap.size 30 2 v' l.length (l.flatMap Ins.cells) ∧ Mod none_ w w' := by
  refine slices_Clone_code_Instr_code_Instr_calls ?_
  unfold slices_Clone_code_Instr_code_Instr_F
  exact clone_k (R := fun v' w' => w'.ownsRow w.heap.size 30 2 v' l.length (l.flatMap Ins.cells) ∧ Mod none_ w w') eCs vCs (by kernel_rfl) (by omega) h.1 (ins_one l) (by omega) (by omega) fun v' w' a b => ⟨a, b⟩
theorem cloneI_ok {w : World} {v : Value} {l : List Int} (h : reads w 1 v l.length (i64s l)) (hn : l.length ≤ 1048576) : Rt Try.prog 23 #[v] w fun v' w' => w'.ownsRow w.heap.size 3 1 v' l.length (i64s l) ∧ Mod none_ w w' := by
  refine slices_Clone_int_int_calls ?_
  unfold slices_Clone_int_int_F
  exact clone_k (R := fun v' w' => w'.ownsRow w.heap.size 3 1 v' l.length (i64s l) ∧ Mod none_ w w') eIs vIs (by kernel_rfl) (by omega) h (i64s_one l) (by omega) (by omega) fun v' w' a b => ⟨a, b⟩
theorem owns_new_ge {w : World} {base : Nat} {e : TypeId} {size : Nat} {v : Value} {n : Nat} {xs : List Value} (h : w.ownsRow base e size v n xs) {g : Nat} (hg : v.ownBlock = some g) : base ≤ g := by
  rcases h.2 with ⟨rfl, _⟩ | ⟨g', cap, cur, rfl, hb, _⟩
  · cases hg
  · cases hg; exact hb
def CpP (P : Pg) (w : World) (v : Value) (w' : World) : Prop := ∃ cv av, v = .agg #[cv, .int .i64 P.vars, av] ∧ InsRow w' cv P.code ∧ reads w' 1 av P.arrs.length (i64s P.arrs) ∧ (∀ k, cv.ownBlock = some k → w.heap.size ≤ k ∧ k < w'.heap.size) ∧ (∀ k, av.ownBlock = some k → w.heap.size ≤ k ∧ k < w'.heap.size) ∧ cv.oneCell' = true ∧ av.oneCell' = true ∧ Mod none_ w w'
theorem owns_oc {w : World} {base : Nat} {e : TypeId} {size : Nat} {v : Value} {n : Nat} {xs : List Value} (h : w.ownsRow base e size v n xs) : v.oneCell' = true := by
  rcases h.2 with ⟨rfl, _⟩ | ⟨g, cap, cur, rfl, _⟩ <;> rfl
def zPg : Value := .agg #[.slice none 0 0, .int .i64 0, .slice none 0 0]
theorem zPg_z : (Try.prog.info? 28).bind (·.zero) = some zPg := by kernel_rfl
theorem iPg : (Try.prog.info? 28).map (·.size) = some 3 := by kernel_rfl
theorem copyP_ok {w : World} {P : Pg} {cs : List Value} (h : PgOk w P cs) (h1 : P.code.length ≤ 1048576) (h2 : P.arrs.length ≤ 1048576) : Rt Try.prog 15 #[.agg cs.toArray] w (CpP P w) := by
  obtain ⟨A, A', c, c', ecs⟩ := h.e
  refine code_Copy_calls ?_
  unfold code_Copy_F
  refine box_k (cs := cs.toArray) rfl fun w1 hb1 hm1 hz1 => ?_
  have hcode1 : InsRow w1 (.slice A P.code.length c) P.code := by
    obtain ⟨s, a, b⟩ := (h.mod hm1).code
    rw [ecs] at a
    cases a
    exact b
  have harr1 : reads w1 1 (.slice A' P.arrs.length c') P.arrs.length (i64s P.arrs) := by
    obtain ⟨s, a, b⟩ := (h.mod hm1).arrs
    rw [ecs] at a
    cases a
    exact b
  refine al_k (cs := #[.slice none 0 0, .int .i64 0, .slice none 0 0]) zPg_z rfl _ fun w2 hb2 hm2 hz2 => ?_
  have hb12 := hm2.blk hb1 id
  rw [ecs] at hb12
  have fin : ∀ (wE : World) (cv av : Value) (ρ' : Sl), ρ' 1 = .pointer (some ⟨w.heap.size, 0, none⟩) → ρ' 2 = .pointer (some ⟨w1.heap.size, 0, none⟩) → wE.heap[w.heap.size]? = some (.cells #[cv, .int .i64 P.vars, av] 28 (0, 0)) → wE.heap[w1.heap.size]? = some (.cells #[.slice none 0 0, .int .i64 0, .slice none 0 0] 28 (0, 0)) →
      InsRow wE cv P.code → reads wE 1 av P.arrs.length (i64s P.arrs) → (∀ k, cv.ownBlock = some k → w2.heap.size ≤ k ∧ k < wE.heap.size) → (∀ k, av.ownBlock = some k → w2.heap.size ≤ k ∧ k < wE.heap.size) → cv.oneCell' = true → av.oneCell' = true → Mod none_ w wE →
      sx fn_ Try.prog 12 code_Copy_R1 (retK Try.prog [ResultVar.cell 2 28] (CpP P w)) ρ' wE := by
    intro wE cv av ρ' q1 q2 e1 e2 r1 r2 n1 n2 o1 o2 hm
    rw [code_Copy_R1_eq]; unfold code_Copy_R1_F
    rw [q1]
    refine ldB Try.underlying28 rfl (by rw [iPg]; rfl) e1 ?_
    refine stS (cs := #[cv, .int .i64 P.vars, av]) (old := #[.slice none 0 0, .int .i64 0, .slice none 0 0]) q2 rfl (by rw [iPg]; rfl) rfl (by simp [o1, o2]; rfl) e2 fun wF hbF hmF hzF => ?_
    have hmF' : ∀ b, b = w1.heap.size → b < w2.heap.size := fun b q => by omega
    refine rtCell (b := w1.heap.size) (show _ = _ by exact q2) Try.underlying28 rfl (by rw [iPg]; rfl) hbF ?_
    refine ⟨cv, av, rfl, ⟨reads_mod r1.1 hmF fun k _ q z => ?_, trivial⟩, reads_mod r2 hmF fun k _ q z => ?_, fun k q => by have := n1 k q; have := hmF.size; omega, fun k q => by have := n2 k q; have := hmF.size; omega, o1, o2, hm.then hmF fun i hi q => by omega⟩
    · have := n1 k q; have := hmF' k z; omega
    · have := n2 k q; have := hmF' k z; omega
  refine code_Copy_R0_held (D := []) (fun _ => True) trivial ?_
  unfold code_Copy_R0_H
  have hfo : ∀ (i off : Nat), fieldOff Try.prog 28 i = some off → ∀ w', (Instr.fieldAt 28 (.pointer (some ⟨w.heap.size, 0, none⟩)) i).run Try.prog w' = .ok (.pointer (some (Addr.add ⟨w.heap.size, 0, none⟩ off))) w' := fun i off q w' => run_fo q _ w'
  generalize hq : ({ w2 with drawn := w2.drawn + 1 } : World) = wd
  have hbd1 : wd.heap[w.heap.size]? = some (.cells (pgC P A A' c c').toArray 28 (0, 0)) := by rw [← hq]; exact hb12
  have hbd2 : wd.heap[w1.heap.size]? = some (.cells #[.slice none 0 0, .int .i64 0, .slice none 0 0] 28 (0, 0)) := by rw [← hq]; exact hb2
  have hmd : Mod none_ w1 wd := by rw [← hq]; exact hm2.drawn _
  have hzd : wd.heap.size = w2.heap.size := by rw [← hq]
  have l4 : ∀ (w' : World) (K : Value → World → Prop), Mod none_ wd w' → K (.slice A P.code.length c) w' → VK Try.prog (Instr.loadAt 25 (.pointer (some (Addr.add ⟨w.heap.size, 0, none⟩ 0)))) w' K := fun w' K hm hk => ld1 vCs rfl (by rw [add_pl, cell_blk (hm.blk hbd1 id)]; rfl) hk
  have l7 : ∀ (w' : World) (K : Value → World → Prop), Mod none_ wd w' → K (.slice A' P.arrs.length c') w' → VK Try.prog (Instr.loadAt 26 (.pointer (some (Addr.add ⟨w.heap.size, 0, none⟩ 2)))) w' K := fun w' K hm hk => ld1 vIs rfl (by rw [add_pl, cell_blk (hm.blk hbd1 id)]; rfl) hk
  have tail : ∀ (w3 w4 : World) (cv av : Value) (K M : World → Prop), w3.ownsRow wd.heap.size 30 2 cv P.code.length (P.code.flatMap Ins.cells) → Mod none_ wd w3 → w4.ownsRow w3.heap.size 3 1 av P.arrs.length (i64s P.arrs) → Mod none_ w3 w4 →
      (∀ wE, wE.heap[w.heap.size]? = some (.cells #[cv, .int .i64 P.vars, av] 28 (0, 0)) → wE.heap[w1.heap.size]? = some (.cells #[.slice none 0 0, .int .i64 0, .slice none 0 0] 28 (0, 0)) →
        InsRow wE cv P.code → reads wE 1 av P.arrs.length (i64s P.arrs) → (∀ k, cv.ownBlock = some k → w2.heap.size ≤ k ∧ k < wE.heap.size) → (∀ k, av.ownBlock = some k → w2.heap.size ≤ k ∧ k < wE.heap.size) → cv.oneCell' = true → av.oneCell' = true → Mod none_ w wE → K wE) → (∀ w5, (UK Try.prog (Instr.storeAt 26 (.pointer (some (Addr.add ⟨w.heap.size, 0, none⟩ 2))) av) w5 fun _ w6 => True ∧ K w6) → M w5) →
      UK Try.prog (Instr.storeAt 25 (.pointer (some (Addr.add ⟨w.heap.size, 0, none⟩ 0))) cv) w4 fun _ w5 => True ∧ M w5 := by
    intro w3 w4 cv av K M r3 m3 r4 m4 hk hM
    have hd4 := m3.trans m4
    rw [add_pl]
    refine stC rfl (by kernel_rfl) (owns_oc r3) (hd4.blk hbd1 id) (by show 0 < 3; omega) fun w5 hb5 hm5 hz5 => ⟨trivial, hM w5 ?_⟩
    rw [add_pl]
    refine stC rfl (by kernel_rfl) (owns_oc r4) hb5 (by show 0 + 2 < 3; omega) fun w6 hb6 hm6 hz6 => ⟨trivial, ?_⟩
    have n3 : ∀ k, cv.ownBlock = some k → w2.heap.size ≤ k ∧ k < w6.heap.size := fun k q => by
      have := owns_new_ge r3 q
      obtain ⟨x, hx⟩ := owns_blk r3 q
      have := X.blk_lt hx
      have := m4.size
      omega
    have n4 : ∀ k, av.ownBlock = some k → w2.heap.size ≤ k ∧ k < w6.heap.size := fun k q => by
      have := owns_new_ge r4 q
      obtain ⟨x, hx⟩ := owns_blk r4 q
      have := X.blk_lt hx
      have := m3.size
      omega
    have hm46 := hm5.trans hm6
    refine hk w6 hb6 ?_ ⟨reads_mod (reads_mod (reads_of_owns r3) m4 fun _ _ _ q => q) hm46 fun k _ q z => ?_, trivial⟩ (reads_mod (reads_of_owns r4) hm46 fun k _ q z => ?_) n3 n4 (owns_oc r3) (owns_oc r4) ?_
    · exact hm46.blk (hd4.blk hbd2 id) (by omega)
    · have := n3 k q; omega
    · have := n4 k q; omega
    · exact (((hm1.trans hmd).trans hd4)).then hm46 fun i hi q => by omega
  have c22 : ∀ (w' : World) (K : Value → World → Prop), Mod none_ wd w' → (∀ cv w3, w3.ownsRow w'.heap.size 30 2 cv P.code.length (P.code.flatMap Ins.cells) → Mod none_ w' w3 → K cv w3) → CK Try.prog (.func (.func 22) #[] #[]) [.slice A P.code.length c] w' K := fun w' K hm hk =>
    CK_st Try.func22 rfl rfl (cloneC_ok ((hcode1.mod hmd).mod hm) h1) fun v w3 q => hk v w3 q.1 q.2
  have c23 : ∀ (w' : World) (K : Value → World → Prop), Mod none_ wd w' → (∀ av w3, w3.ownsRow w'.heap.size 3 1 av P.arrs.length (i64s P.arrs) → Mod none_ w' w3 → K av w3) → CK Try.prog (.func (.func 23) #[] #[]) [.slice A' P.arrs.length c'] w' K := fun w' K hm hk =>
    CK_st Try.func23 rfl rfl (cloneI_ok (reads_mod (reads_mod harr1 hmd fun _ _ _ q => q) hm fun _ _ _ q => q) h2) fun v w3 q => hk v w3 q.1 q.2
  have e1 : ∀ (f : Sl → Sl), True := fun _ => trivial
  refine HV_of (fun w' _ => hfo 0 0 (by kernel_rfl) w') ?_
  refine HV_of (fun w' _ => hfo 2 2 (by kernel_rfl) w') ?_
  refine ⟨l4 _ _ (Mod.refl _ _) ⟨trivial, ?_, ?_⟩, l7 _ _ (Mod.refl _ _) ⟨trivial, l4 _ _ (Mod.refl _ _) ⟨trivial, ?_⟩⟩⟩
  · refine c22 _ _ (Mod.refl _ _) fun cv w3 r3 m3 => ⟨trivial, l7 _ _ m3 ⟨trivial, ?_⟩⟩
    refine HV_of (fun w' _ => hfo 0 0 (by kernel_rfl) w') ?_
    refine c23 _ _ m3 fun av w4 r4 m4 => ⟨trivial, tail w3 w4 cv av _ _ r3 m3 r4 m4 (fun wE a b d e f g i j k => fin wE cv av _ rfl rfl a b d e f g i j k) fun w5 h => HV_of (fun w' _ => hfo 2 2 (by kernel_rfl) w') h⟩
  · refine l7 _ _ (Mod.refl _ _) ⟨trivial, c22 _ _ (Mod.refl _ _) fun cv w3 r3 m3 => ⟨trivial, ?_⟩⟩
    refine HV_of (fun w' _ => hfo 0 0 (by kernel_rfl) w') ?_
    refine c23 _ _ m3 fun av w4 r4 m4 => ⟨trivial, tail w3 w4 cv av _ _ r3 m3 r4 m4 (fun wE a b d e f g i j k => fin wE cv av _ rfl rfl a b d e f g i j k) fun w5 h => HV_of (fun w' _ => hfo 2 2 (by kernel_rfl) w') h⟩
  · refine c22 _ _ (Mod.refl _ _) fun cv w3 r3 m3 => ⟨trivial, ?_⟩
    refine HV_of (fun w' _ => hfo 0 0 (by kernel_rfl) w') ?_
    refine c23 _ _ m3 fun av w4 r4 m4 => ⟨trivial, tail w3 w4 cv av _ _ r3 m3 r4 m4 (fun wE a b d e f g i j k => fin wE cv av _ rfl rfl a b d e f g i j k) fun w5 h => HV_of (fun w' _ => hfo 2 2 (by kernel_rfl) w') h⟩
end Go.Proofs.Ytmbgbffgkdcieaa.Tr
set_option linter.unusedVariables false
set_option linter.unusedSimpArgs false
namespace Go.X
open Go Go.RowKit
def basesV : Int → List Int → List Int
  | _, [] => []
  | c, n :: r => c :: basesV (c + n) r
theorem basesV_len : ∀ (c : Int) (l : List Int), (basesV c l).length = l.length
  | _, [] => rfl
  | c, n :: r => by simp [basesV, basesV_len (c + n) r]
theorem basesV_snoc : ∀ (c s : Int) (l : List Int) (x : Int), cellsV c l = some s → basesV c (l ++ [x]) = basesV c l ++ [s]
  | c, s, [], x, h => by
    simp only [cellsV, Option.some.injEq] at h
    subst h; rfl
  | c, s, n :: r, x, h => by
    unfold cellsV at h
    split at h
    · cases h
    · simp only [List.cons_append, basesV, basesV_snoc (c + n) s r x h]
theorem basesV_in : ∀ (c r : Int) (l : List Int), cellsV c l = some r → c ≤ r ∧ ∀ a : Nat, a < l.length → c ≤ (basesV c l).getD a 0 ∧ (basesV c l).getD a 0 + l.getD a 0 ≤ r
  | c, r, [], h => by
    simp only [cellsV, Option.some.injEq] at h
    subst h
    exact ⟨Int.le_refl _, fun a ha => absurd ha (Nat.not_lt_zero _)⟩
  | c, r, n :: l, h => by
    unfold cellsV at h
    split at h
    · cases h
    · have ih := basesV_in (c + n) r l h
      refine ⟨by omega, fun a ha => ?_⟩
      cases a with
      | zero => simp [basesV]; omega
      | succ a =>
        have := ih.2 a (by simpa using ha)
        simp only [basesV, List.getD_cons_succ]
        omega
theorem cellsV_top : ∀ (c r : Int) (l : List Int), c ≤ 1000 → cellsV c l = some r → r ≤ 1000
  | c, r, [], hc, h => by
    simp only [cellsV, Option.some.injEq] at h
    omega
  | c, r, n :: l, hc, h => by
    unfold cellsV at h
    split at h
    · cases h
    · exact cellsV_top (c + n) r l (by omega) h
def Pg.total (P : Pg) : Int := (cellsV 0 P.arrs).getD 0
theorem whole_cells {P : Pg} (h : P.whole = true) : cellsV 0 P.arrs = some P.total ∧ 0 ≤ P.total ∧ P.total ≤ 1000 := by
  unfold Pg.whole at h
  simp only [Bool.and_eq_true] at h
  have h1 := h.1.1.1.1.1.1
  unfold Pg.total
  cases hq : cellsV 0 P.arrs with
  | none => rw [hq] at h1; cases h1
  | some r => exact ⟨rfl, (basesV_in 0 r _ hq).1, cellsV_top 0 r _ (by omega) hq⟩
def new0 (P : Pg) (rank size : Int) : Rk := ⟨P, rank, size, 0, [], List.replicate P.vars.toNat 0, List.replicate P.total.toNat 0, basesV 0 P.arrs, zRs, 0, zCl, 0⟩
theorem inv_new {P : Pg} {H : List Int} (h : P.heights = some H) (rank size : Int) : (new0 P rank size).Inv H := by
  obtain ⟨hw, ht⟩ := heights_hts h
  have hl := whole_len hw
  have hc := whole_cells hw
  refine ⟨h, fun _ => ⟨Int.le_refl _, by show (0 : Int) < P.code.length; omega, ?_⟩, Nat.zero_le _, ?_, basesV_len _ _, fun a ha => ?_, ?_, Nat.zero_le _, Nat.zero_le _⟩
  · show H.getD 0 0 = 0
    exact ht.zero
  · show ((List.replicate P.vars.toNat (0 : Int)).length : Int) = P.vars
    rw [List.length_replicate]; omega
  · have := (basesV_in 0 P.total P.arrs hc.1).2 a ha
    refine ⟨this.1, ?_⟩
    show (basesV 0 P.arrs).getD a 0 + P.arrs.getD a 0 ≤ ((List.replicate P.total.toNat (0 : Int)).length : Int)
    rw [List.length_replicate]; omega
  · show (List.replicate P.total.toNat (0 : Int)).length ≤ 1000
    rw [List.length_replicate]; omega
end Go.X
set_option linter.unusedVariables false
set_option linter.unusedSimpArgs false
set_option maxRecDepth 4000
namespace Go.Proofs.Ytmbgbffgkdcieaa.Tr
open Go Go.X Go.RowKit Go.Proofs.Ytmbgbffgkdcieaa.XF Go.Proofs.Ytmbgbffgkdcieaa.XK
def V0 (cv av vs : Value) : RkV := ⟨cv, av, .slice none 0 0, vs, .slice none 0 0, .slice none 0 0, .slice none 0 0, .slice none 0 0⟩
theorem built_rk (P : Pg) (rank size : Int) (cv av : Value) (a : Option Addr) (n c : Nat) : Try.prog.built tR [(0, .agg #[cv, .int .i64 P.vars, av]), (1, .int .i64 rank), (2, .int .i64 size), (5, .slice a n c)] = some (rkC (new0 P rank size) (V0 cv av (.slice a n c))).toArray := by kernel_rfl
def NewP (P : Pg) (rank size : Int) (w : World) (v : Value) (w' : World) : Prop :=
  (P.may = false ∧ v = .tuple #[.pointer none, .int .i64 50] ∨ P.may = true ∧ (size < 1 ∨ 64 < size ∨ rank < 0 ∨ size ≤ rank) ∧ v = .tuple #[.pointer none, .int .i64 2] ∨
    P.may = true ∧ (1 ≤ size ∧ size ≤ 64 ∧ 0 ≤ rank ∧ rank < size) ∧ ∃ p V, v = .tuple #[.pointer (some ⟨p, 0, none⟩), .int .i64 0] ∧ RkAt w' p (new0 P rank size) V ∧ ∀ b, V.G p b → w.heap.size ≤ b) ∧ Mod none_ w w'
theorem nums_zero (n : Nat) : (Array.replicate n (Value.int .i64 0)) = (i64s (List.replicate n 0)).toArray := by unfold i64s; simp
theorem new_ok {w : World} {P : Pg} {cs : List Value} (h : PgOk w P cs) (h1 : P.code.length ≤ 1048576) (h2 : P.arrs.length ≤ 1048576) (rank size : Int) : Rt Try.prog 6 #[.agg cs.toArray, .int .i64 rank, .int .i64 size] w (NewP P rank size w) := by
  obtain ⟨A, A', c, c', ecs⟩ := h.e
  refine vm_New_calls ?_
  unfold vm_New_F
  refine box_k (cs := cs.toArray) rfl fun w1 hb1 hm1 hz1 => ?_
  have ihP : (Try.prog.info? 28).map (·.size) = some cs.toArray.size := by rw [ecs]; kernel_rfl
  refine ldB Try.underlying28 rfl ihP hb1 ?_
  refine CK_st Try.func14 rfl rfl (may_ok (h.mod hm1) h1 h2) ?_
  rintro _ w2 ⟨rfl, hm2⟩
  have hm02 := hm1.trans hm2
  rw [not_ok]
  cases hmay : P.may with
  | false => refine condT ?_; exact ⟨.inl ⟨hmay, rfl⟩, hm02⟩
  | true =>
    refine condF ?_
    have bad : (size < 1 ∨ 64 < size ∨ rank < 0 ∨ size ≤ rank) → NewP P rank size w (.tuple #[.pointer none, .int .i64 2]) w2 := fun q => ⟨.inr (.inl ⟨hmay, q, rfl⟩), hm02⟩
    rw [BK_lss]
    by_cases c1 : size < 1
    · simp only [c1, decide_true, ↓VG_u, ↓UG_u, ↓MG_u, ↓NG_u, ↓PG_u, ↓BG_u, ↓CG_u, ↓IG_u, ↓VGtt, ↓VGtf, ↓VGft, ↓VGff, ↓UGtt, ↓UGtf, ↓UGft, ↓UGff, ↓MGtt, ↓MGtf, ↓MGft, ↓MGff, ↓NGtt, ↓NGtf, ↓NGft, ↓NGff, ↓PGtt, ↓PGtf, ↓PGft, ↓PGff, ↓BGtt, ↓BGtf, ↓BGft, ↓BGff, ↓CGtt, ↓CGtf, ↓CGft, ↓CGff, ↓IGtt, ↓IGtf, ↓IGft, ↓IGff, ↓PKt, ↓PKf, ↓CDt, ↓CDf, ↓NOTt, ↓NOTf, ↓NK_ptr]
      exact bad (.inl c1)
    simp only [c1, decide_false, ↓VG_u, ↓UG_u, ↓MG_u, ↓NG_u, ↓PG_u, ↓BG_u, ↓CG_u, ↓IG_u, ↓VGtt, ↓VGtf, ↓VGft, ↓VGff, ↓UGtt, ↓UGtf, ↓UGft, ↓UGff, ↓MGtt, ↓MGtf, ↓MGft, ↓MGff, ↓NGtt, ↓NGtf, ↓NGft, ↓NGff, ↓PGtt, ↓PGtf, ↓PGft, ↓PGff, ↓BGtt, ↓BGtf, ↓BGft, ↓BGff, ↓CGtt, ↓CGtf, ↓CGft, ↓CGff, ↓IGtt, ↓IGtf, ↓IGft, ↓IGff, ↓PKt, ↓PKf, ↓CDt, ↓CDf, ↓NOTt, ↓NOTf, ↓NK_ptr, ↓BK_gtr]
    by_cases c2 : 64 < size
    · simp only [c2, decide_true, ↓VG_u, ↓UG_u, ↓MG_u, ↓NG_u, ↓PG_u, ↓BG_u, ↓CG_u, ↓IG_u, ↓VGtt, ↓VGtf, ↓VGft, ↓VGff, ↓UGtt, ↓UGtf, ↓UGft, ↓UGff, ↓MGtt, ↓MGtf, ↓MGft, ↓MGff, ↓NGtt, ↓NGtf, ↓NGft, ↓NGff, ↓PGtt, ↓PGtf, ↓PGft, ↓PGff, ↓BGtt, ↓BGtf, ↓BGft, ↓BGff, ↓CGtt, ↓CGtf, ↓CGft, ↓CGff, ↓IGtt, ↓IGtf, ↓IGft, ↓IGff, ↓PKt, ↓PKf, ↓CDt, ↓CDf, ↓NOTt, ↓NOTf, ↓NK_ptr]
      exact bad (.inr (.inl c2))
    simp only [c2, decide_false, ↓VG_u, ↓UG_u, ↓MG_u, ↓NG_u, ↓PG_u, ↓BG_u, ↓CG_u, ↓IG_u, ↓VGtt, ↓VGtf, ↓VGft, ↓VGff, ↓UGtt, ↓UGtf, ↓UGft, ↓UGff, ↓MGtt, ↓MGtf, ↓MGft, ↓MGff, ↓NGtt, ↓NGtf, ↓NGft, ↓NGff, ↓PGtt, ↓PGtf, ↓PGft, ↓PGff, ↓BGtt, ↓BGtf, ↓BGft, ↓BGff, ↓CGtt, ↓CGtf, ↓CGft, ↓CGff, ↓IGtt, ↓IGtf, ↓IGft, ↓IGff, ↓PKt, ↓PKf, ↓CDt, ↓CDf, ↓NOTt, ↓NOTf, ↓NK_ptr, ↓BK_lss]
    by_cases c3 : rank < 0
    · simp only [c3, decide_true, ↓VG_u, ↓UG_u, ↓MG_u, ↓NG_u, ↓PG_u, ↓BG_u, ↓CG_u, ↓IG_u, ↓VGtt, ↓VGtf, ↓VGft, ↓VGff, ↓UGtt, ↓UGtf, ↓UGft, ↓UGff, ↓MGtt, ↓MGtf, ↓MGft, ↓MGff, ↓NGtt, ↓NGtf, ↓NGft, ↓NGff, ↓PGtt, ↓PGtf, ↓PGft, ↓PGff, ↓BGtt, ↓BGtf, ↓BGft, ↓BGff, ↓CGtt, ↓CGtf, ↓CGft, ↓CGff, ↓IGtt, ↓IGtf, ↓IGft, ↓IGff, ↓PKt, ↓PKf, ↓CDt, ↓CDf, ↓NOTt, ↓NOTf, ↓NK_ptr]
      exact bad (.inr (.inr (.inl c3)))
    simp only [c3, decide_false, ↓VG_u, ↓UG_u, ↓MG_u, ↓NG_u, ↓PG_u, ↓BG_u, ↓CG_u, ↓IG_u, ↓VGtt, ↓VGtf, ↓VGft, ↓VGff, ↓UGtt, ↓UGtf, ↓UGft, ↓UGff, ↓MGtt, ↓MGtf, ↓MGft, ↓MGff, ↓NGtt, ↓NGtf, ↓NGft, ↓NGff, ↓PGtt, ↓PGtf, ↓PGft, ↓PGff, ↓BGtt, ↓BGtf, ↓BGft, ↓BGff, ↓CGtt, ↓CGtf, ↓CGft, ↓CGff, ↓IGtt, ↓IGtf, ↓IGft, ↓IGff, ↓PKt, ↓PKf, ↓CDt, ↓CDf, ↓NOTt, ↓NOTf, ↓NK_ptr, ↓BK_geq]
    by_cases c4 : size ≤ rank
    · simp only [c4, decide_true, ↓VG_u, ↓UG_u, ↓MG_u, ↓NG_u, ↓PG_u, ↓BG_u, ↓CG_u, ↓IG_u, ↓VGtt, ↓VGtf, ↓VGft, ↓VGff, ↓UGtt, ↓UGtf, ↓UGft, ↓UGff, ↓MGtt, ↓MGtf, ↓MGft, ↓MGff, ↓NGtt, ↓NGtf, ↓NGft, ↓NGff, ↓PGtt, ↓PGtf, ↓PGft, ↓PGff, ↓BGtt, ↓BGtf, ↓BGft, ↓BGff, ↓CGtt, ↓CGtf, ↓CGft, ↓CGff, ↓IGtt, ↓IGtf, ↓IGft, ↓IGff, ↓PKt, ↓PKf, ↓CDt, ↓CDf, ↓NOTt, ↓NOTf, ↓NK_ptr]
      exact bad (.inr (.inr (.inr c4)))
    simp only [c4, decide_false, ↓VG_u, ↓UG_u, ↓MG_u, ↓NG_u, ↓PG_u, ↓BG_u, ↓CG_u, ↓IG_u, ↓VGtt, ↓VGtf, ↓VGft, ↓VGff, ↓UGtt, ↓UGtf, ↓UGft, ↓UGff, ↓MGtt, ↓MGtf, ↓MGft, ↓MGff, ↓NGtt, ↓NGtf, ↓NGft, ↓NGff, ↓PGtt, ↓PGtf, ↓PGft, ↓PGff, ↓BGtt, ↓BGtf, ↓BGft, ↓BGff, ↓CGtt, ↓CGtf, ↓CGft, ↓CGff, ↓IGtt, ↓IGtf, ↓IGft, ↓IGff, ↓PKt, ↓PKf, ↓CDt, ↓CDf, ↓NOTt, ↓NOTf, ↓NK_ptr]
    have hh : ∃ H, P.heights = some H := Option.isSome_iff_exists.1 hmay
    obtain ⟨H, hH⟩ := hh
    obtain ⟨hw, hts⟩ := heights_hts hH
    have hl := whole_len hw
    have hcl := whole_cells hw
    obtain ⟨nv, hnv⟩ : ∃ nv : Nat, P.vars = nv := ⟨P.vars.toNat, by omega⟩
    have hb2 := hm2.blk hb1 id
    have hP2 : PgOk w2 P cs := h.mod hm02
    -- the loop, and the cells
    have rest : ∀ (ρ : Sl) (wp : World) (p : Nat) (cv av : Value) (vb : Nat), ρ 8 = .pointer (some ⟨p, 0, none⟩) → ρ 3 = .pointer (some ⟨w.heap.size, 0, none⟩) → wp.heap[p]? = some (.cells (rkC (new0 P rank size) (V0 cv av (.slice (some ⟨vb, 0, none⟩) nv nv))).toArray tR (0, 0)) → InsRow wp cv P.code → reads wp 1 av P.arrs.length (i64s P.arrs) →
        wp.heap[vb]? = some (.cells (i64s (List.replicate nv 0)).toArray tN (0, 0)) → (∀ k, cv.ownBlock = some k → w.heap.size < k ∧ k < wp.heap.size ∧ k ≠ p ∧ k ≠ vb) → (∀ k, av.ownBlock = some k → w.heap.size < k ∧ k < wp.heap.size ∧ k ≠ p ∧ k ≠ vb) → w.heap.size < p → w.heap.size < vb → p ≠ vb → Mod none_ w1 wp →
        sx fn_ Try.prog 68 vm_New_R1 (retK Try.prog [ResultVar.tmp 6, ResultVar.tmp 7] (NewP P rank size w)) ρ wp := by
      intro ρ wp p cv av vb g8 g3 hbp rc ra hbv nc na lp lv npv hmp
      have hplt := X.blk_lt hbp
      have hvlt := X.blk_lt hbv
      rw [vm_New_R1_eq]; unfold vm_New_R1_F
      have f2 : FO Try.prog wp 28 2 2 ⟨w.heap.size, 0, none⟩ 26 (.slice A' P.arrs.length c') := FO.blk (hmp.blk hb1 id) (by kernel_rfl) vIs rfl (by rw [ecs]; rfl)
      have harr0 : reads w 1 (.slice A' P.arrs.length c') P.arrs.length (i64s P.arrs) := by
        obtain ⟨s, a, b⟩ := h.arrs
        rw [ecs] at a
        cases a
        exact b
      have hm0p : Mod none_ w wp := hm1.trans hmp
      have hwp := hm0p.size
      rw [g3, f2.e, len_sl vIs]
      refine W_loop vm_New_L2_ok (fun ρ' wL => ∃ (n : Nat) (s : Int) (bv : Value), n ≤ P.arrs.length ∧ cellsV 0 (P.arrs.take n) = some s ∧ ρ' 44 = .int .i64 n ∧ ρ' 43 = .int .i64 P.arrs.length ∧ ρ' 42 = .slice A' P.arrs.length c' ∧ ρ' 8 = .pointer (some ⟨p, 0, none⟩) ∧ ρ' 9 = .int .i64 s ∧
          wL.heap[p]? = some (.cells (rkC (new0 P rank size) { V0 cv av (.slice (some ⟨vb, 0, none⟩) nv nv) with b := bv }).toArray tR (0, 0)) ∧ wL.ownsRow wp.heap.size tI 1 bv n (i64s (basesV 0 (P.arrs.take n))) ∧ Mod (fun b => b = p) wp wL) (fun ρ _ => P.arrs.length - (intOf (ρ 44)).toNat)
        ⟨0, 0, .slice none 0 0, Nat.zero_le _, rfl, rfl, rfl, rfl, g8, rfl, hbp, ⟨rfl, .inl ⟨rfl, rfl⟩⟩, Mod.refl _ _⟩ ?_
      rintro ρ1 wL ⟨n, s, bv, hn, hs, e44, e43, e42, e8, e9, hbL, hown, hmL⟩
      rw [vm_New_L2_eq]; unfold vm_New_L2_F
      rw [e44, e43, e42, e8, e9, BK_lss]
      have hsr := cellsV_le _ _ _ (by omega) (by omega) hs
      have hm0L : Mod (fun b => b = p) w wL := (hm0p.mono fun _ _ q => q.elim).trans hmL
      by_cases hlt : n < P.arrs.length
      · rw [decide_eq_true (by omega)]
        refine condT ?_
        obtain ⟨x, hx⟩ : ∃ x, P.arrs[n]? = some x := ⟨_, List.getElem?_eq_getElem hlt⟩
        obtain ⟨v1, v2⟩ := cellsV_at P.arrs 0 n x hx hs
        have hnb : ¬ (x < 1 ∨ 1000 - s < x) := fun q => by
          rw [if_pos q, hcl.1] at v1
          cases v1
        rw [if_neg hnb] at v2
        refine ixld vIs cI vI rfl (reads_mod harr0 hm0L fun k hk _ q => by omega) (by omega) (by simpa using i64s_get hx) fun y => ?_
        rw [NK_ptr]
        have fb : FO Try.prog wL tR 7 9 ⟨p, 0, none⟩ 26 bv := FO.blk hbL (by kernel_rfl) vIs rfl rfl
        rw [fb.e]
        refine bs_k (cs := #[.int .i64 s]) (by kernel_rfl) fun w3 hb3 hm3 hz3 => ?_
        have hown3 := owns_mod hown hm3 fun _ _ q => q
        have hszL := hmL.size
        refine ap_any eIs hown3 (reads_blk (size := 1) (n := 1) hb3 rfl) (by intro u hu; rw [List.mem_singleton.1 hu]; rfl) (by unfold maxLen; omega) (by omega) (by omega) fun v' w4 hown4 hm4 hv4 => ?_
        rw [NK_ptr, fo (show fieldOff Try.prog tR 7 = some 9 by kernel_rfl)]
        have hbvp : ∀ k, some k = bv.ownBlock → wp.heap.size ≤ k := fun k q => owns_new_ge hown q.symm
        have hb4 := hm4.blk (hm3.blk hbL id) (fun q => by have := hbvp _ q; omega)
        refine stC (o := 9) (by rw [add_pl]) (by kernel_rfl) (owns_oc hown4) hb4 (by show 9 < 31; omega) fun w5 hb5 hm5 hz5 => ?_
        rw [BK_add, wrap_i (n := s + x) (by omega) (by omega), BK_add, wrap_i (n := (n : Int) + 1) (by omega) (by omega)]
        rw [sq_n]
        have hv'p : ∀ k, v'.ownBlock = some k → k ≠ p := fun k q => by have := owns_new_ge hown4 q; omega
        refine ⟨⟨n + 1, s + x, v', hlt, v2, rfl, e43, e42, e8, rfl, hb5, ?_, ((hmL.then hm3 fun i hi q => q.elim).then hm4 fun i hi q => by have := hbvp _ q; omega).then hm5 fun i hi q => q⟩, ?_⟩
        · have e := owns_mod hown4 hm5 hv'p
          have et : P.arrs.take (n + 1) = P.arrs.take n ++ [x] := by rw [List.take_add_one, hx]; rfl
          rw [et, basesV_snoc 0 s _ x hs]
          have : i64s (basesV 0 (P.arrs.take n) ++ [s]) = i64s (basesV 0 (P.arrs.take n)) ++ [Value.int .i64 s] := by unfold i64s; simp
          rw [this]
          exact e
        · simp only [sq_n, sq_x, sq_r, bk_n, bk_r, bk_x, rt_r, rt_n, rs_0, rs_t, pk_1, pk_2, up_at, reduceIte, Nat.reduceEqDiff, intOf]; omega
      · obtain rfl : n = P.arrs.length := by omega
        rw [decide_eq_false (by omega)]
        refine condF ?_
        rw [List.take_length] at hs hown
        have hst : s = P.total := by rw [hcl.1] at hs; injection hs with hs; exact hs.symm
        rw [sq_x, bk_x, sq_n, vm_New_R3_eq]; unfold vm_New_R3_F
        simp only [sq_n, sq_x, sq_r, bk_n, bk_r, bk_x, rt_r, rt_n, rs_0, rs_t, pk_1, pk_2, up_at, reduceIte, Nat.reduceEqDiff, e8, e9]
        obtain ⟨ns, hns⟩ : ∃ ns : Nat, s = ns := ⟨s.toNat, by omega⟩
        rw [hns]
        refine mk_k (e := 2) (q := .i64) vNs (by kernel_rfl) (by omega) fun w3 hb3 hm3 hz3 => ?_
        rw [NK_ptr, fo (show fieldOff Try.prog tR 6 = some 8 by kernel_rfl)]
        have hszL := hmL.size
        refine stC (o := 8) (by rw [add_pl]) (by kernel_rfl) rfl (hm3.blk hbL id) (by show 8 < 31; omega) fun w5 hb5 hm5 hz5 => ?_
        have hm0p5 : Mod (fun b => b = p) wp w5 := (hmL.then hm3 fun i hi q => q.elim).then hm5 fun i hi q => q
        have hw5 : w5.heap.size = wL.heap.size + 1 := by omega
        refine ⟨.inr (.inr ⟨hmay, by omega, p, { V0 cv av (.slice (some ⟨vb, 0, none⟩) nv nv) with b := bv, l := .slice (some ⟨wL.heap.size, 0, none⟩) ns ns }, rfl, ?_, ?_⟩), (hm0p.then hm0p5 fun i hi q => by omega)⟩
        · have nb : ∀ k, bv.ownBlock = some k → wp.heap.size ≤ k ∧ k < wL.heap.size := fun k q => by
            have := owns_new_ge hown q
            obtain ⟨x, hx⟩ := owns_blk hown q
            exact ⟨this, X.blk_lt hx⟩
          have ev : P.vars.toNat = nv := by omega
          have et : P.total.toNat = ns := by omega
          have n5 : ∀ k, k = wL.heap.size → k ≠ p := fun k q => by omega
          refine ⟨hb5, reads_mod rc.1 hm0p5 fun k _ q => (nc k q).2.2.1, reads_mod ra hm0p5 fun k _ q => (na k q).2.2.1, ⟨rfl, .inl ⟨rfl, rfl⟩⟩, ?_, ?_, ?_, reads_nil _ _, reads_nil _ _, ⟨fun q => (by cases q), fun q => ?_, fun q => ?_, fun b q => (by cases q), fun b q => (by cases q), fun b q z => ?_, fun b q z => ?_⟩, fun b q => ?_⟩
          · show w5.ownsRow 0 tN 1 (.slice (some ⟨vb, 0, none⟩) nv nv) (List.replicate P.vars.toNat (0 : Int)).length (i64s (List.replicate P.vars.toNat 0))
            rw [ev, List.length_replicate]
            exact owns_new (hm0p5.blk hbv npv.symm) (by rw [i64s_len, List.length_replicate]) (by omega)
          · show w5.ownsRow 0 tN 1 (.slice (some ⟨wL.heap.size, 0, none⟩) ns ns) (List.replicate P.total.toNat (0 : Int)).length (i64s (List.replicate P.total.toNat 0))
            rw [et, List.length_replicate]
            rw [nums_zero] at hb3
            exact owns_new (hm5.blk hb3 (n5 _ rfl)) (by rw [i64s_len, List.length_replicate]) (by omega)
          · show reads w5 1 bv (basesV 0 P.arrs).length (i64s (basesV 0 P.arrs))
            rw [basesV_len]
            exact reads_mod (reads_mod (reads_of_owns hown) hm3 fun _ _ _ q => q) hm5 fun k _ q z => by have := nb k q; omega
          · have q : some vb = some p := q
            injection q with q; exact npv q.symm
          · have q : some wL.heap.size = some p := q
            injection q with q; exact n5 _ q.symm rfl
          · have q : some vb = some b := q
            have z : some wL.heap.size = some b := z
            injection q with q; injection z with z; omega
          · have hr : b ≠ p ∧ b ≠ vb ∧ b ≠ wL.heap.size := by
              rcases q with q | q | q | q | q
              · have := nc b q; exact ⟨this.2.2.1, this.2.2.2, by omega⟩
              · have := na b q; exact ⟨this.2.2.1, this.2.2.2, by omega⟩
              · have := nb b q; exact ⟨by omega, by omega, by omega⟩
              · cases q
              · cases q
            rcases z with z | z | z | z
            · exact hr.1 z
            · cases z
            · have z : some vb = some b := z
              injection z with z; exact hr.2.1 z.symm
            · have z : some wL.heap.size = some b := z
              injection z with z; exact hr.2.2 z.symm
          · rcases q with (q | q | q | q) | q | q | q | q | q
            · omega
            · cases q
            · have q : some vb = some b := q
              injection q with q; omega
            · have q : some wL.heap.size = some b := q
              injection q with q; omega
            · have := nc b q; omega
            · have := na b q; omega
            · have := nb b q; omega
            · cases q
            · cases q
        · intro b q
          rcases q with (q | q | q | q) | q | q | q | q | q
          · omega
          · cases q
          · have q : some vb = some b := q
            injection q with q; omega
          · have q : some wL.heap.size = some b := q
            injection q with q; omega
          · have := nc b q; omega
          · have := na b q; omega
          · have := owns_new_ge hown q; omega
          · cases q
          · cases q
    generalize hq : ({ w2 with drawn := w2.drawn + 1 } : World) = wd at *
    have hmd : Mod none_ w2 wd := by rw [← hq]; exact (Mod.refl _ w2).drawn _
    have hm1d := hm2.trans hmd
    have hP : PgOk wd P cs := hP2.mod hmd
    have hz1 : w.heap.size < wd.heap.size := by have := hm1d.size; omega
    have build : ∀ (cv av : Value) (vb : Nat) (w' : World), (Instr.build tR [(0, .agg #[cv, .int .i64 P.vars, av]), (1, .int .i64 rank), (2, .int .i64 size), (5, .slice (some ⟨vb, 0, none⟩) nv nv)].toArray).run Try.prog w' = .ok (.agg (rkC (new0 P rank size) (V0 cv av (.slice (some ⟨vb, 0, none⟩) nv nv))).toArray) w' := fun cv av vb w' => run_build w' tR _ _ (by simpa using built_rk P rank size cv av (some ⟨vb, 0, none⟩) nv nv)
    refine vm_New_R0_held (D := []) (fun w' => Mod none_ w2 w') ((Mod.refl _ w2).drawn _) ?_
    rw [hq]
    unfold vm_New_R0_H
    refine HV_of (v := .agg cs.toArray) (fun w' hw' => run_ldB Try.underlying28 rfl ihP (hw'.blk hb2 id)) ?_
    refine HV_of (v := .pointer (some (Addr.add ⟨w.heap.size, 0, none⟩ 1))) (fun w' hw' => run_fo (by kernel_rfl) _ w') ?_
    refine HV_of (v := .int .i64 (nv : Int)) (fun w' hw' => run_ld1 vI rfl (by rw [add_pl, cell_blk (hw'.blk hb2 id), ecs, ← hnv]; rfl)) ?_
    constructor
    · refine CK_st Try.func15 rfl rfl (copyP_ok hP h1 h2) ?_
      rintro _ w3 ⟨cv, av, rfl, rc, ra, nc, na, oc, oa, m3⟩
      refine ⟨hmd.trans m3, ?_⟩
      refine mk_k (e := 2) (q := .i64) vNs (by kernel_rfl) (by omega) fun w4 hb4 m4 z4 => ⟨(hmd.trans m3).trans m4, ?_⟩
      refine HV_of (fun w' _ => build cv av w3.heap.size w') ?_
      refine box_k (cs := (rkC (new0 P rank size) (V0 cv av (.slice (some ⟨w3.heap.size, 0, none⟩) nv nv))).toArray) rfl fun w5 hb5 m5 z5 => ⟨((hmd.trans m3).trans m4).trans m5, ?_⟩
      have s3 := m3.size
      have m35 := m4.trans m5
      rw [nums_zero] at hb4
      exact rest _ w5 w4.heap.size cv av w3.heap.size rfl rfl hb5 (rc.mod m35) (reads_mod ra m35 fun _ _ _ q => q) (m5.blk hb4 id) (fun k q => by have := nc k q; omega) (fun k q => by have := na k q; omega) (by omega) (by omega) (by omega) ((hm1d.trans m3).trans m35)
    · refine mk_k (e := 2) (q := .i64) vNs (by kernel_rfl) (by omega) fun w3 hb3 m3 z3 => ⟨hmd.trans m3, ?_⟩
      refine CK_st Try.func15 rfl rfl (copyP_ok (hP.mod m3) h1 h2) ?_
      rintro _ w4 ⟨cv, av, rfl, rc, ra, nc, na, oc, oa, m4⟩
      refine ⟨(hmd.trans m3).trans m4, ?_⟩
      refine HV_of (fun w' _ => build cv av wd.heap.size w') ?_
      refine box_k (cs := (rkC (new0 P rank size) (V0 cv av (.slice (some ⟨wd.heap.size, 0, none⟩) nv nv))).toArray) rfl fun w5 hb5 m5 z5 => ⟨((hmd.trans m3).trans m4).trans m5, ?_⟩
      have s4 := m4.size
      rw [nums_zero] at hb3
      exact rest _ w5 w4.heap.size cv av wd.heap.size rfl rfl hb5 (rc.mod m5) (reads_mod ra m5 fun _ _ _ q => q) ((m4.trans m5).blk hb3 id) (fun k q => by have := nc k q; omega) (fun k q => by have := na k q; omega) (by omega) (by omega) (by omega) ((hm1d.trans m3).trans (m4.trans m5))
end Go.Proofs.Ytmbgbffgkdcieaa.Tr
set_option linter.unusedVariables false
set_option linter.unusedSimpArgs false
set_option maxRecDepth 4000
namespace Go.Proofs.Ytmbgbffgkdcieaa.Tr
open Go Go.X Go.RowKit Go.Proofs.Ytmbgbffgkdcieaa.XF Go.Proofs.Ytmbgbffgkdcieaa.XK
theorem stO {P : Program} {w : World} {K : Value → World → Prop} {t ty : TypeId} {b o : Nat} {old : Array Value} {cs : List Value} (hi : (P.info? t).map (·.size) = some cs.length) (hfit : o + cs.length ≤ old.size) (h1 : ∀ v ∈ cs, v.oneCell' = true) (hb : w.heap[b]? = some (.cells old ty (0, 0)))
    (hk : ∀ w', w'.heap[b]? = some (.cells (old.toList.take o ++ cs ++ old.toList.drop (o + cs.length)).toArray ty (0, 0)) → Mod (fun k => k = b) w w' → w'.heap.size = w.heap.size → K undef w') : UK P (Instr.storeAt t (.pointer (some ⟨b, o, none⟩)) (.agg cs.toArray)) w K := by
  have hst := run_storeCells_at P b o ty cs 0 old w hb (by simpa using hfit) h1
  have hrun : (Instr.storeAt t (.pointer (some ⟨b, o, none⟩)) (.agg cs.toArray)).run P w = .ok () (w.setRow b (old.toList.take o ++ cs ++ old.toList.drop (o + cs.length)).toArray) := by
    cases hq : P.info? t with
    | none => rw [hq] at hi; cases hi
    | some i =>
      rw [hq] at hi
      have hs : i.size = cs.length := by injection hi
      simp only [Nat.add_zero] at hst
      simp [Instr.storeAt, Instr.sureAddr, storeVar, sizeOf, typeInfo, hq, hs, Value.cells, hst]
  refine UK_of hrun (hk _ (setRow_heap w b old _ ty _ hb) ⟨rfl, rfl, rfl, Nat.le_of_eq (size_setRow w b _).symm, fun k _ hkb => setRow_other w b k _ hkb⟩ (size_setRow w b _))
theorem uRp : Try.prog.underlying 31 = some (.pointer tR) := by kernel_rfl
section
variable {w : World} {p : Nat} {s : Rk} {V : RkV}
theorem f_c (h : RkAt w p s V) : FO Try.prog w 28 0 0 ⟨p, 0, none⟩ 25 V.c := FO.blk h.blk (by kernel_rfl) vCs rfl rfl
theorem f_at (h : RkAt w p s V) : FO Try.prog w tR 3 5 ⟨p, 0, none⟩ 3 (.int .i64 s.at_) := FO.blk h.blk (by kernel_rfl) vI rfl rfl
theorem f_st (h : RkAt w p s V) : FO Try.prog w tR 4 6 ⟨p, 0, none⟩ 22 V.s := FO.blk h.blk (by kernel_rfl) vNs rfl rfl
theorem code_row (h : RkAt w p s V) : InsRow w V.c s.pg.code := ⟨h.code, trivial⟩
theorem none_ok (h : RkAt w p s V) (hl : 0 < s.pg.code.length) : Rt Try.prog 16 #[.pointer (some ⟨p, 0, none⟩)] w fun v w' => v = .bool false ∧ w' = w := by
  obtain ⟨A, c, e, _⟩ := reads_cap h.code
  refine vm_Rank_none_calls ?_
  unfold vm_Rank_none_F
  rw [BK_eqlP uRp]
  simp only [Option.isNone_some, ↓VG_u, ↓UG_u, ↓MG_u, ↓NG_u, ↓PG_u, ↓BG_u, ↓CG_u, ↓IG_u, ↓VGtt, ↓VGtf, ↓VGft, ↓VGff, ↓UGtt, ↓UGtf, ↓UGft, ↓UGff, ↓MGtt, ↓MGtf, ↓MGft, ↓MGff, ↓NGtt, ↓NGtf, ↓NGft, ↓NGff, ↓PGtt, ↓PGtf, ↓PGft, ↓PGff, ↓BGtt, ↓BGtf, ↓BGft, ↓BGff, ↓CGtt, ↓CGtf, ↓CGft, ↓CGff, ↓IGtt, ↓IGtf, ↓IGft, ↓IGff, ↓PKt, ↓PKf, ↓CDt, ↓CDf, ↓NOTt, ↓NOTf, ↓NK_ptr]
  rw [fo (show fieldOff Try.prog tR 0 = some 0 by kernel_rfl)]
  have ea : (⟨p, 0, none⟩ : Addr).add 0 = ⟨p, 0, none⟩ := by rw [add_pl]
  simp only [↓VG_u, ↓UG_u, ↓MG_u, ↓NG_u, ↓PG_u, ↓BG_u, ↓CG_u, ↓IG_u, ↓VGtt, ↓VGtf, ↓VGft, ↓VGff, ↓UGtt, ↓UGtf, ↓UGft, ↓UGff, ↓MGtt, ↓MGtf, ↓MGft, ↓MGff, ↓NGtt, ↓NGtf, ↓NGft, ↓NGff, ↓PGtt, ↓PGtf, ↓PGft, ↓PGff, ↓BGtt, ↓BGtf, ↓BGft, ↓BGff, ↓CGtt, ↓CGtf, ↓CGft, ↓CGff, ↓IGtt, ↓IGtf, ↓IGft, ↓IGff, ↓PKt, ↓PKf, ↓CDt, ↓CDf, ↓NOTt, ↓NOTf, ↓NK_ptr, ea]
  rw [(f_c h).e, e]
  try simp only [↓VG_u, ↓UG_u, ↓MG_u, ↓NG_u, ↓PG_u, ↓BG_u, ↓CG_u, ↓IG_u, ↓VGtt, ↓VGtf, ↓VGft, ↓VGff, ↓UGtt, ↓UGtf, ↓UGft, ↓UGff, ↓MGtt, ↓MGtf, ↓MGft, ↓MGff, ↓NGtt, ↓NGtf, ↓NGft, ↓NGff, ↓PGtt, ↓PGtf, ↓PGft, ↓PGff, ↓BGtt, ↓BGtf, ↓BGft, ↓BGff, ↓CGtt, ↓CGtf, ↓CGft, ↓CGff, ↓IGtt, ↓IGtf, ↓IGft, ↓IGff, ↓PKt, ↓PKf, ↓CDt, ↓CDf, ↓NOTt, ↓NOTf, ↓NK_ptr]
  rw [len_sl vCs]
  simp only [↓VG_u, ↓UG_u, ↓MG_u, ↓NG_u, ↓PG_u, ↓BG_u, ↓CG_u, ↓IG_u, ↓VGtt, ↓VGtf, ↓VGft, ↓VGff, ↓UGtt, ↓UGtf, ↓UGft, ↓UGff, ↓MGtt, ↓MGtf, ↓MGft, ↓MGff, ↓NGtt, ↓NGtf, ↓NGft, ↓NGff, ↓PGtt, ↓PGtf, ↓PGft, ↓PGff, ↓BGtt, ↓BGtf, ↓BGft, ↓BGff, ↓CGtt, ↓CGtf, ↓CGft, ↓CGff, ↓IGtt, ↓IGtf, ↓IGft, ↓IGff, ↓PKt, ↓PKf, ↓CDt, ↓CDf, ↓NOTt, ↓NOTf, ↓NK_ptr, ↓BK_eql]
  refine ⟨?_, by trivial⟩
  rw [beq_eq_false_iff_ne.2 (by omega)]
theorem push_ok (h : RkAt w p s V) (hl : s.stack.length ≤ 1000) (n : Int) : Rt Try.prog 24 #[.pointer (some ⟨p, 0, none⟩), .int .i64 n] w fun _ w' => ∃ V', RkAt w' p (s.push n) V' ∧ Fr p w V w' V' := by
  refine vm_Rank_push_calls ?_
  unfold vm_Rank_push_F
  rw [NK_ptr, (f_st h).e]
  refine bs_k (cs := #[.int .i64 n]) (by kernel_rfl) fun w1 hb1 hm1 hz1 => ?_
  have h1 := h.calm hm1
  refine ap_any eNs h1.stack (reads_blk (size := 1) (n := 1) hb1 rfl) (by intro u hu; rw [List.mem_singleton.1 hu]; rfl) (by unfold maxLen; omega) (by omega) (Nat.zero_le _) fun v' w2 ho hm2 hv => ?_
  rw [NK_ptr, fo (show fieldOff Try.prog tR 4 = some 6 by kernel_rfl)]
  have hb2 := hm2.blk h1.blk (fun q => h.dj.sp q.symm)
  refine stC (o := 6) (by rw [add_pl]) (by kernel_rfl) (owns_oc ho) hb2 (by show 6 < 31; omega) fun w3 hb3 hm3 hz3 => ?_
  have e1 : i64s s.stack ++ [Value.int .i64 n] = i64s (s.push n).stack := by unfold Rk.push i64s; simp
  have e2 : s.stack.length + 1 = (s.push n).stack.length := by unfold Rk.push; simp
  rw [show (#[Value.int .i64 n].toList) = [Value.int .i64 n] from rfl, e1, e2] at ho
  have hmm : Mod (sb V.s) w w2 := (hm1.mono fun _ _ q => q.elim).trans (hm2.mono fun k _ q => q.symm)
  obtain ⟨r1, r2⟩ := RkAt.stk (s' := s.push n) (v' := v') h hmm ho (hv.imp id fun q k z => by rw [q] at z; injection z with z; omega) hm3 hb3 rfl rfl rfl rfl rfl rfl
  exact ⟨_, r1, r2⟩
theorem owns_pop {w : World} {e : TypeId} {v : Value} {n : Nat} {xs : List Value} (h : w.ownsRow 0 e 1 v (n + 1) xs) : ∃ g cap, v = .slice (some ⟨g, 0, none⟩) (n + 1) cap ∧ n + 1 ≤ cap ∧ w.ownsRow 0 e 1 (.slice (some ⟨g, 0, none⟩) n cap) n (xs.take n) := by
  obtain ⟨hl, q | ⟨g, cap, cur, rfl, hb, hg, hn, hm, hs, ht⟩⟩ := h
  · omega
  · refine ⟨g, cap, rfl, hn, by rw [List.length_take]; omega, .inr ⟨g, cap, cur, rfl, hb, hg, by omega, hm, hs, ?_⟩⟩
    rw [← ht, List.take_take]
    congr 1
    omega
theorem pop_ok (h : RkAt w p s V) (h0 : 0 < s.stack.length) (hl : s.stack.length ≤ 1000) : Rt Try.prog 25 #[.pointer (some ⟨p, 0, none⟩)] w fun v w' => v = .int .i64 s.top ∧ ∃ sl, RkAt w' p s.drop1 { V with s := sl } ∧ Fr p w V w' { V with s := sl } := by
  obtain ⟨n, hn⟩ : ∃ n, s.stack.length = n + 1 := ⟨s.stack.length - 1, by omega⟩
  have hst := h.stack
  rw [hn] at hst
  obtain ⟨g, cap, eV, hcap, hpop⟩ := owns_pop hst
  refine vm_Rank_pop_calls ?_
  unfold vm_Rank_pop_F
  rw [NK_ptr, (f_st h).e, eV, len_sl vNs, BK_sub, show IntKind.i64.wrap (((n + 1 : Nat) : Int) - 1) = (n : Int) by rw [wrap_i (by omega) (by omega)]; omega]
  rw [NK_ptr, (f_st h).e, eV]
  have htop : s.stack[n]? = some s.top := by
    unfold Rk.top
    rw [List.getLast?_eq_getElem?, hn, Nat.add_sub_cancel, List.getElem?_eq_getElem (by omega)]
    rfl
  have hr := reads_of_owns hst
  rw [eV] at hr
  refine ixld vNs cN vN rfl hr (by omega) (by simpa using i64s_get htop) fun y => ?_
  rw [NK_ptr, (f_st h).e, eV]
  refine VK_of (run_cut (sz := 0) vNs cN (by omega) (by omega) (by omega) w) ?_
  rw [NK_ptr, fo (show fieldOff Try.prog tR 4 = some 6 by kernel_rfl)]
  have esl : sliced (some ⟨g, 0, none⟩) 0 ((n : Int)).toNat cap (0 + 1) = .slice (some ⟨g, 0, none⟩) n cap := by
    unfold sliced
    rw [Int.toNat_natCast, if_neg (by omega)]
    simp [add_pl]
  rw [esl]
  refine stC (o := 6) (by rw [add_pl]) (by kernel_rfl) rfl h.blk (by show 6 < 31; omega) fun w3 hb3 hm3 hz3 => ?_
  have e1 : (i64s s.stack).take n = i64s s.drop1.stack := by unfold Rk.drop1 i64s; rw [← List.map_take, List.dropLast_eq_take, hn]; rfl
  have e2 : n = s.drop1.stack.length := by unfold Rk.drop1; rw [List.length_dropLast]; omega
  rw [e1] at hpop
  obtain ⟨r1, r2⟩ := RkAt.stk (s' := s.drop1) (v' := .slice (some ⟨g, 0, none⟩) n cap) h (Mod.refl _ _) (by rw [← e2]; exact hpop) (.inl (by rw [eV]; rfl)) hm3 hb3 rfl rfl rfl rfl rfl rfl
  rw [vm_Rank_pop_R0_eq]; unfold vm_Rank_pop_R0_F
  exact ⟨rfl, _, r1, r2⟩
theorem outC_one (kind fault : Int) (c : Cl) (A : Option Addr) (n m : Nat) : ∀ v ∈ [Value.int .u8 kind] ++ clC c (.slice A n m) ++ [Value.int .u8 fault], v.oneCell' = true := by
  simp [clC, Value.oneCell']
theorem built_out (kind fault : Int) : Try.prog.built 38 [(0, .int .u8 kind), (2, .int .u8 fault)] = some ([Value.int .u8 kind] ++ clC zCl (.slice none 0 0) ++ [Value.int .u8 fault]).toArray := by kernel_rfl
theorem ends_ok (h : RkAt w p s V) (kind fault : Int) : Rt Try.prog 27 #[.pointer (some ⟨p, 0, none⟩), .int .u8 kind, .int .u8 fault] w fun _ w' => ∃ V', RkAt w' p (s.ends kind fault) V' ∧ Fr p w V w' V' := by
  refine vm_Rank_ends_calls ?_
  unfold vm_Rank_ends_F
  rw [build_ok (built_out kind fault), NK_ptr, fo (show fieldOff Try.prog tR 9 = some 18 by kernel_rfl), add_pl]
  refine stO (o := 18) (by kernel_rfl) (by show 18 + 13 ≤ 31; omega) (outC_one kind fault zCl none 0 0) h.blk fun w3 hb3 hm3 hz3 => ?_
  obtain ⟨r1, r2⟩ := RkAt.out (s' := s.ends kind fault) (r' := V.r) (q' := .slice none 0 0) h (Mod.refl _ _) h.row (reads_nil _ _) (fun k q => .inl q) (fun k q => by cases q) hm3 hb3 rfl rfl rfl rfl rfl
  exact ⟨_, r1, r2⟩
end
end Go.Proofs.Ytmbgbffgkdcieaa.Tr
set_option linter.unusedVariables false
set_option linter.unusedSimpArgs false
set_option maxRecDepth 4000
namespace Go.Proofs.Ytmbgbffgkdcieaa.Tr
open Go Go.X Go.RowKit Go.Proofs.Ytmbgbffgkdcieaa.XF Go.Proofs.Ytmbgbffgkdcieaa.XK
theorem hagg_of {P : Program} {t : TypeId} {d : TypeDesc} (hu : P.underlying t = some d) (hd : (match d with | .struct _ | .array _ _ => true | _ => false) = false) (w : World) : (isAgg t).run P w = .ok false w := by
  unfold isAgg
  simp only [Sem.run_bind, run_underlying hu, Result.andThen_ok]
  cases d <;> first | rfl | cases hd
theorem run_idx {P : Program} {t e : TypeId} {n : Nat} {cs : Array Value} {k : IntKind} {i : Int} {v : Value} {d : TypeDesc} (hu : P.underlying t = some (.array n e)) (he : P.underlying e = some d) (hd : (match d with | .struct _ | .array _ _ => true | _ => false) = false) (hs : (P.info? e).map (·.size) = some 1) (h0 : 0 ≤ i) (h1 : i < n) (hv : cs[i.toNat]? = some v) (w : World) :
    (Instr.index t (.agg cs) (.int k i)).run P w = .ok v w := by
  cases hq : P.info? e with
  | none => rw [hq] at hs; cases hs
  | some x =>
    rw [hq] at hs
    have hs : x.size = 1 := by injection hs
    have hagg := hagg_of (P := P) he hd w
    simp [Instr.index, run_underlying hu, asIntOf, h0, h1, sizeOf, typeInfo, hq, hs, part, hagg, hv]
section
variable {w : World} {p : Nat} {s : Rk} {V : RkV}
theorem f_as (h : RkAt w p s V) : FO Try.prog w 28 2 2 ⟨p, 0, none⟩ 26 V.a := FO.blk h.blk (by kernel_rfl) vIs rfl rfl
def CellP (w : World) (s : Rk) (V : RkV) (a place : Int) (v : Value) (w' : World) : Prop :=
  (match s.cellAt a place with
    | none => v = .pointer none
    | some c => c < s.cells.length ∧ ∃ g cap, V.l = .slice (some ⟨g, 0, none⟩) s.cells.length cap ∧ v = .pointer (some ⟨g, c, none⟩)) ∧ Mod none_ w w'
theorem cell_ok (h : RkAt w p s V) (hI : s.Wk) {a place : Int} (h0 : 0 ≤ a) (h1 : a < s.pg.arrs.length) : Rt Try.prog 26 #[.pointer (some ⟨p, 0, none⟩), .int .i64 a, .int .i64 place] w (CellP w s V a place) := by
  obtain ⟨an, rfl⟩ : ∃ n : Nat, a = n := ⟨a.toNat, by omega⟩
  have han : an < s.pg.arrs.length := by omega
  obtain ⟨x, hx⟩ : ∃ x, s.pg.arrs[an]? = some x := ⟨_, List.getElem?_eq_getElem han⟩
  have hxd : s.pg.arrs.getD an 0 = x := by rw [List.getD_eq_getElem?_getD, hx]; rfl
  have hb := hI.base an han
  rw [hxd] at hb
  refine vm_Rank_cell_calls ?_
  unfold vm_Rank_cell_F
  rw [BK_lss]
  have ea : (⟨p, 0, none⟩ : Addr).add 0 = ⟨p, 0, none⟩ := by rw [add_pl]
  by_cases c1 : place < 0
  · simp only [c1, decide_true, ↓VG_u, ↓UG_u, ↓MG_u, ↓NG_u, ↓PG_u, ↓BG_u, ↓CG_u, ↓IG_u, ↓VGtt, ↓VGtf, ↓VGft, ↓VGff, ↓UGtt, ↓UGtf, ↓UGft, ↓UGff, ↓MGtt, ↓MGtf, ↓MGft, ↓MGff, ↓NGtt, ↓NGtf, ↓NGft, ↓NGff, ↓PGtt, ↓PGtf, ↓PGft, ↓PGff, ↓BGtt, ↓BGtf, ↓BGft, ↓BGff, ↓CGtt, ↓CGtf, ↓CGft, ↓CGff, ↓IGtt, ↓IGtf, ↓IGft, ↓IGff, ↓PKt, ↓PKf, ↓CDt, ↓CDf, ↓NOTt, ↓NOTf, ↓NK_ptr]
    refine ⟨?_, Mod.refl _ _⟩
    have : s.cellAt an place = none := by unfold Rk.cellAt; rw [if_pos (.inl c1)]
    rw [this]
  simp only [c1, decide_false, ↓VG_u, ↓UG_u, ↓MG_u, ↓NG_u, ↓PG_u, ↓BG_u, ↓CG_u, ↓IG_u, ↓VGtt, ↓VGtf, ↓VGft, ↓VGff, ↓UGtt, ↓UGtf, ↓UGft, ↓UGff, ↓MGtt, ↓MGtf, ↓MGft, ↓MGff, ↓NGtt, ↓NGtf, ↓NGft, ↓NGff, ↓PGtt, ↓PGtf, ↓PGft, ↓PGff, ↓BGtt, ↓BGtf, ↓BGft, ↓BGff, ↓CGtt, ↓CGtf, ↓CGft, ↓CGff, ↓IGtt, ↓IGtf, ↓IGft, ↓IGff, ↓PKt, ↓PKf, ↓CDt, ↓CDf, ↓NOTt, ↓NOTf, ↓NK_ptr]
  rw [fo (show fieldOff Try.prog tR 0 = some 0 by kernel_rfl), ea]
  try simp only [↓VG_u, ↓UG_u, ↓MG_u, ↓NG_u, ↓PG_u, ↓BG_u, ↓CG_u, ↓IG_u, ↓VGtt, ↓VGtf, ↓VGft, ↓VGff, ↓UGtt, ↓UGtf, ↓UGft, ↓UGff, ↓MGtt, ↓MGtf, ↓MGft, ↓MGff, ↓NGtt, ↓NGtf, ↓NGft, ↓NGff, ↓PGtt, ↓PGtf, ↓PGft, ↓PGff, ↓BGtt, ↓BGtf, ↓BGft, ↓BGff, ↓CGtt, ↓CGtf, ↓CGft, ↓CGff, ↓IGtt, ↓IGtf, ↓IGft, ↓IGff, ↓PKt, ↓PKf, ↓CDt, ↓CDf, ↓NOTt, ↓NOTf, ↓NK_ptr]
  rw [(f_as h).e]
  try simp only [↓VG_u, ↓UG_u, ↓MG_u, ↓NG_u, ↓PG_u, ↓BG_u, ↓CG_u, ↓IG_u, ↓VGtt, ↓VGtf, ↓VGft, ↓VGff, ↓UGtt, ↓UGtf, ↓UGft, ↓UGff, ↓MGtt, ↓MGtf, ↓MGft, ↓MGff, ↓NGtt, ↓NGtf, ↓NGft, ↓NGff, ↓PGtt, ↓PGtf, ↓PGft, ↓PGff, ↓BGtt, ↓BGtf, ↓BGft, ↓BGff, ↓CGtt, ↓CGtf, ↓CGft, ↓CGff, ↓IGtt, ↓IGtf, ↓IGft, ↓IGff, ↓PKt, ↓PKf, ↓CDt, ↓CDf, ↓NOTt, ↓NOTf, ↓NK_ptr]
  refine ixld vIs cI vI rfl h.arrs (by omega) (by simpa using i64s_get hx) fun y => ?_
  simp only [↓VG_u, ↓UG_u, ↓MG_u, ↓NG_u, ↓PG_u, ↓BG_u, ↓CG_u, ↓IG_u, ↓VGtt, ↓VGtf, ↓VGft, ↓VGff, ↓UGtt, ↓UGtf, ↓UGft, ↓UGff, ↓MGtt, ↓MGtf, ↓MGft, ↓MGff, ↓NGtt, ↓NGtf, ↓NGft, ↓NGff, ↓PGtt, ↓PGtf, ↓PGft, ↓PGff, ↓BGtt, ↓BGtf, ↓BGft, ↓BGff, ↓CGtt, ↓CGtf, ↓CGft, ↓CGff, ↓IGtt, ↓IGtf, ↓IGft, ↓IGff, ↓PKt, ↓PKf, ↓CDt, ↓CDf, ↓NOTt, ↓NOTf, ↓NK_ptr, ↓BK_geq]
  by_cases c2 : x ≤ place
  · simp only [c2, decide_true, ↓VG_u, ↓UG_u, ↓MG_u, ↓NG_u, ↓PG_u, ↓BG_u, ↓CG_u, ↓IG_u, ↓VGtt, ↓VGtf, ↓VGft, ↓VGff, ↓UGtt, ↓UGtf, ↓UGft, ↓UGff, ↓MGtt, ↓MGtf, ↓MGft, ↓MGff, ↓NGtt, ↓NGtf, ↓NGft, ↓NGff, ↓PGtt, ↓PGtf, ↓PGft, ↓PGff, ↓BGtt, ↓BGtf, ↓BGft, ↓BGff, ↓CGtt, ↓CGtf, ↓CGft, ↓CGff, ↓IGtt, ↓IGtf, ↓IGft, ↓IGff, ↓PKt, ↓PKf, ↓CDt, ↓CDf, ↓NOTt, ↓NOTf, ↓NK_ptr]
    refine ⟨?_, Mod.refl _ _⟩
    have : s.cellAt an place = none := by unfold Rk.cellAt; rw [if_pos (.inr (by rw [Int.toNat_natCast, hxd]; exact c2))]
    rw [this]
  simp only [c2, decide_false, ↓VG_u, ↓UG_u, ↓MG_u, ↓NG_u, ↓PG_u, ↓BG_u, ↓CG_u, ↓IG_u, ↓VGtt, ↓VGtf, ↓VGft, ↓VGff, ↓UGtt, ↓UGtf, ↓UGft, ↓UGff, ↓MGtt, ↓MGtf, ↓MGft, ↓MGff, ↓NGtt, ↓NGtf, ↓NGft, ↓NGff, ↓PGtt, ↓PGtf, ↓PGft, ↓PGff, ↓BGtt, ↓BGtf, ↓BGft, ↓BGff, ↓CGtt, ↓CGtf, ↓CGft, ↓CGff, ↓IGtt, ↓IGtf, ↓IGft, ↓IGff, ↓PKt, ↓PKf, ↓CDt, ↓CDf, ↓NOTt, ↓NOTf, ↓NK_ptr]
  have hb2 : 0 ≤ s.bases.getD an 0 ∧ s.bases.getD an 0 + place < s.cells.length := by omega
  have hcell : s.cellAt an place = some (s.bases.getD an 0 + place).toNat := by
    unfold Rk.cellAt
    rw [if_neg (by rw [Int.toNat_natCast, hxd]; omega), Int.toNat_natCast]
  have hbn : an < s.bases.length := by rw [hI.bases]; exact han
  have hbx : s.bases[an]? = some (s.bases.getD an 0) := by rw [List.getD_eq_getElem?_getD, List.getElem?_eq_getElem hbn]; rfl
  have hcs := hI.cells
  obtain ⟨g, cap, eV, cur, hcur⟩ : ∃ g cap, V.l = .slice (some ⟨g, 0, none⟩) s.cells.length cap ∧ ∃ cur, w.heap[g]? = some (.cells cur tN (0, 0)) := by
    rcases h.cells.2 with ⟨_, q⟩ | ⟨g, cap, cur, e, _, hg, _⟩
    · omega
    · exact ⟨g, cap, e, cur, hg⟩
  refine vm_Rank_cell_R0_quiet (D := []) (fun w' => Mod none_ w w') ((Mod.refl _ w).drawn _) ?_
  unfold vm_Rank_cell_R0_Q
  simp only [sq_n, sq_x, sq_r, bk_n, bk_r, bk_x, rt_r, rt_n, rs_0, rs_t, pk_1, pk_2, up_at, reduceIte, Nat.reduceEqDiff]
  have e0 : ∀ {i : Nat} {l : List Value}, rho0 l i = l.getD i undef := rfl
  simp only [e0, List.getD_cons_zero, List.getD_cons_succ]
  refine QN_ptr ?_
  refine Qfo (off := 8) (a := ⟨p, 0, none⟩) (by kernel_rfl) (Qld vNs rfl (v := V.l) (fun w' hw => by rw [add_pl, cell_blk (h.calm hw).blk]; rfl) ?_)
  refine QN_ptr ?_
  refine Qfo (off := 9) (a := ⟨p, 0, none⟩) (by kernel_rfl) (Qld vIs rfl (v := V.b) (fun w' hw => by rw [add_pl, cell_blk (h.calm hw).blk]; rfl) ?_)
  refine q_ixld vIs cI vI rfl (w := w) (Mod.refl _ _) (fun w' hw => (h.calm hw).bases) (by omega) (u := .int .i64 (s.bases.getD an 0)) (by rw [Int.toNat_natCast]; exact i64s_get hbx) fun y2 => ?_
  refine Qadd ?_
  rw [wrap_i (n := s.bases.getD an 0 + place) (by omega) (by omega), eV]
  refine QV_of (fun w' _ => run_ixa vNs cN (by omega) (by omega) w') ?_
  intro w2 hm2
  rw [vm_Rank_cell_R1_eq]; unfold vm_Rank_cell_R1_F
  refine ⟨?_, hm2⟩
  rw [hcell]
  refine ⟨by omega, g, cap, eV, ?_⟩
  show Value.pointer (some (Addr.add ⟨g, 0, none⟩ ((s.bases.getD an 0 + place).toNat * (0 + 1)))) = _
  rw [add_pl]
  simp
theorem word_ok (h : RkAt w p s V) {n : Int} (h0 : 0 ≤ n) (h1 : n < 10) : Rt Try.prog 28 #[.pointer (some ⟨p, 0, none⟩), .int .i64 n] w fun v w' => v = .int .i64 (wordV n s.rank s.size s.last) ∧ Mod none_ w w' := by
  refine vm_Rank_word_calls ?_
  unfold vm_Rank_word_F
  rw [NK_ptr, fo (show fieldOff Try.prog tR 8 = some 10 by kernel_rfl), add_pl]
  refine ldA (cs := rsC s.last V.r) Try.underlying54 rfl (by kernel_rfl) (fun j v hj => ?_) ?_
  · rw [add_pl, cell_blk h.blk, List.getElem?_toArray]
    have hlt : j < 8 := (List.getElem?_eq_some_iff.1 hj).1
    rcases j with _ | _ | _ | _ | _ | _ | _ | _ | j
    all_goals first | exact hj | omega
  refine al_k (cs := (rsC zRs (.slice none 0 0)).toArray) (z := .agg (rsC zRs (.slice none 0 0)).toArray) (by kernel_rfl) rfl _ fun w1 hb1 hm1 hz1 => ?_
  obtain ⟨A, c, eR, _⟩ := reads_cap h.row
  refine stS (cs := (rsC s.last V.r).toArray) (old := (rsC zRs (.slice none 0 0)).toArray) rfl rfl (by kernel_rfl) rfl (by rw [eR]; simp [rsC, Value.oneCell']) hb1 fun w2 hb2 hm2 hz2 => ?_
  have hm02 : Mod none_ w w2 := hm1.then hm2 fun i hi q => by omega
  have h2 := h.calm hm02
  refine vm_Rank_word_R0_quiet (D := []) (fun w' => Mod none_ w2 w') ((Mod.refl _ w2).drawn _) ?_
  unfold vm_Rank_word_R0_Q
  simp only [sq_n, sq_x, sq_r, bk_n, bk_r, bk_x, rt_r, rt_n, rs_0, rs_t, pk_1, pk_2, up_at, reduceIte, Nat.reduceEqDiff]
  have e0 : ∀ {i : Nat} {l : List Value}, rho0 l i = l.getD i undef := rfl
  simp only [e0, List.getD_cons_zero, List.getD_cons_succ]
  have hx : ∀ w', Mod none_ w2 w' → w'.heap[w.heap.size]? = some (.cells (rsC s.last V.r).toArray 54 (0, 0)) := fun w' hw => hw.blk hb2 id
  refine QN_ptr ?_
  refine Qfo (off := 3) (a := ⟨p, 0, none⟩) (by kernel_rfl) (Qld vI rfl (v := .int .i64 s.rank) (fun w' hw => by rw [add_pl, cell_blk (h2.calm hw).blk]; rfl) ?_)
  refine QN_ptr ?_
  refine Qfo (off := 4) (a := ⟨p, 0, none⟩) (by kernel_rfl) (Qld vI rfl (v := .int .i64 s.size) (fun w' hw => by rw [add_pl, cell_blk (h2.calm hw).blk]; rfl) ?_)
  refine Qfo (off := 1) (a := ⟨w.heap.size, 0, none⟩) (by kernel_rfl) (Qld vN rfl (v := .int .i64 s.last.value) (fun w' hw => by rw [add_pl, cell_blk (hx w' hw)]; rfl) ?_)
  refine Qfo (off := 2) (a := ⟨w.heap.size, 0, none⟩) (by kernel_rfl) (Qld vI rfl (v := .int .i64 s.last.peer) (fun w' hw => by rw [add_pl, cell_blk (hx w' hw)]; rfl) ?_)
  refine Qfo (off := 3) (a := ⟨w.heap.size, 0, none⟩) (by kernel_rfl) (Qld vI rfl (v := .int .i64 s.last.tag) (fun w' hw => by rw [add_pl, cell_blk (hx w' hw)]; rfl) ?_)
  refine Qfo (off := 0) (a := ⟨w.heap.size, 0, none⟩) (by kernel_rfl) (Qld vB rfl (v := .bool s.last.flag) (fun w' hw => by rw [add_pl, cell_blk (hx w' hw)]; rfl) ?_)
  refine QC_rt (R := fun w' v w'' => v = .int .i64 (truV s.last.flag) ∧ w'' = w') Try.func29 rfl rfl (v := .int .i64 (truV s.last.flag)) (fun w' _ => truth_ok _ w') (fun w' u w'' hw hu => ⟨hu.1, by rw [hu.2]; exact hw⟩) ?_
  refine Qfo (off := 5) (a := ⟨w.heap.size, 0, none⟩) (by kernel_rfl) (Qld vI rfl (v := .int .i64 s.last.index) (fun w' hw => by rw [add_pl, cell_blk (hx w' hw)]; rfl) ?_)
  refine Qfo (off := 4) (a := ⟨w.heap.size, 0, none⟩) (by kernel_rfl) (Qld vI rfl (v := .int .i64 s.last.req) (fun w' hw => by rw [add_pl, cell_blk (hx w' hw)]; rfl) ?_)
  refine Qfo (off := 6) (a := ⟨w.heap.size, 0, none⟩) (by kernel_rfl) (Qld vI rfl (v := .int .i64 s.last.comm) (fun w' hw => by rw [add_pl, cell_blk (hx w' hw)]; rfl) ?_)
  refine QV_of (v := .agg (i64s [s.rank, s.size, -1, s.last.value, s.last.peer, s.last.tag, truV s.last.flag, s.last.index, s.last.req, s.last.comm]).toArray) (fun w' _ => run_build w' _ _ _ (by kernel_rfl)) ?_
  obtain ⟨x, hx10⟩ : ∃ x, ([s.rank, s.size, -1, s.last.value, s.last.peer, s.last.tag, truV s.last.flag, s.last.index, s.last.req, s.last.comm] : List Int)[n.toNat]? = some x := ⟨_, List.getElem?_eq_getElem (by show n.toNat < 10; omega)⟩
  refine QV_of (v := .int .i64 x) (fun w' _ => run_idx (n := 10) (e := 2) (by kernel_rfl) vN rfl (by kernel_rfl) h0 h1 (by rw [List.getElem?_toArray]; exact i64s_get hx10) w') ?_
  intro w3 hm3
  rw [vm_Rank_word_R1_eq]; unfold vm_Rank_word_R1_F
  refine ⟨?_, hm02.trans hm3⟩
  unfold wordV
  rw [List.getD_eq_getElem?_getD, hx10]
  rfl
end
end Go.Proofs.Ytmbgbffgkdcieaa.Tr
set_option linter.unusedVariables false
set_option linter.unusedSimpArgs false
set_option maxRecDepth 4000
namespace Go.Proofs.Ytmbgbffgkdcieaa.Tr
open Go Go.X Go.RowKit Go.Proofs.Ytmbgbffgkdcieaa.XF Go.Proofs.Ytmbgbffgkdcieaa.XK
abbrev TwR (op a b : Int) (w : World) : Value → World → Prop := fun v w' => v = .int .i64 (twoV op a b) ∧ w' = w
theorem two1_ok (a b : Int) (w : World) : Rt Try.prog 37 #[.int .i64 a, .int .i64 b] w (TwR 10 a b w) := by
  refine vm_two_1_calls ?_
  unfold vm_two_1_F
  rw [BK_mul]
  exact ⟨by simp [twoV], by trivial⟩
theorem two2_ok (a b : Int) (hb : b ≠ 0) (w : World) : Rt Try.prog 38 #[.int .i64 a, .int .i64 b] w (TwR 11 a b w) := by
  refine vm_two_2_calls ?_
  unfold vm_two_2_F
  by_cases c1 : a = -9223372036854775808
  · simp only [↓VG_u, ↓UG_u, ↓MG_u, ↓NG_u, ↓PG_u, ↓BG_u, ↓CG_u, ↓IG_u, ↓VGtt, ↓VGtf, ↓VGft, ↓VGff, ↓UGtt, ↓UGtf, ↓UGft, ↓UGff, ↓MGtt, ↓MGtf, ↓MGft, ↓MGff, ↓NGtt, ↓NGtf, ↓NGft, ↓NGff, ↓PGtt, ↓PGtf, ↓PGft, ↓PGff, ↓BGtt, ↓BGtf, ↓BGft, ↓BGff, ↓CGtt, ↓CGtf, ↓CGft, ↓CGff, ↓IGtt, ↓IGtf, ↓IGft, ↓IGff, ↓PKt, ↓PKf, ↓CDt, ↓CDf, ↓NOTt, ↓NOTf, ↓NK_ptr, ↓EQt c1]
    by_cases c2 : b = -1
    · simp only [↓VG_u, ↓UG_u, ↓MG_u, ↓NG_u, ↓PG_u, ↓BG_u, ↓CG_u, ↓IG_u, ↓VGtt, ↓VGtf, ↓VGft, ↓VGff, ↓UGtt, ↓UGtf, ↓UGft, ↓UGff, ↓MGtt, ↓MGtf, ↓MGft, ↓MGff, ↓NGtt, ↓NGtf, ↓NGft, ↓NGff, ↓PGtt, ↓PGtf, ↓PGft, ↓PGff, ↓BGtt, ↓BGtf, ↓BGft, ↓BGff, ↓CGtt, ↓CGtf, ↓CGft, ↓CGff, ↓IGtt, ↓IGtf, ↓IGft, ↓IGff, ↓PKt, ↓PKf, ↓CDt, ↓CDf, ↓NOTt, ↓NOTf, ↓NK_ptr, ↓EQt c2]
      exact ⟨by simp [twoV, c1, c2], by trivial⟩
    · simp only [↓VG_u, ↓UG_u, ↓MG_u, ↓NG_u, ↓PG_u, ↓BG_u, ↓CG_u, ↓IG_u, ↓VGtt, ↓VGtf, ↓VGft, ↓VGff, ↓UGtt, ↓UGtf, ↓UGft, ↓UGff, ↓MGtt, ↓MGtf, ↓MGft, ↓MGff, ↓NGtt, ↓NGtf, ↓NGft, ↓NGff, ↓PGtt, ↓PGtf, ↓PGft, ↓PGff, ↓BGtt, ↓BGtf, ↓BGft, ↓BGff, ↓CGtt, ↓CGtf, ↓CGft, ↓CGff, ↓IGtt, ↓IGtf, ↓IGft, ↓IGff, ↓PKt, ↓PKf, ↓CDt, ↓CDf, ↓NOTt, ↓NOTf, ↓NK_ptr, ↓EQf c2]
      rw [BK_quo hb]
      exact ⟨by simp [twoV, c1, c2], by trivial⟩
  · simp only [↓VG_u, ↓UG_u, ↓MG_u, ↓NG_u, ↓PG_u, ↓BG_u, ↓CG_u, ↓IG_u, ↓VGtt, ↓VGtf, ↓VGft, ↓VGff, ↓UGtt, ↓UGtf, ↓UGft, ↓UGff, ↓MGtt, ↓MGtf, ↓MGft, ↓MGff, ↓NGtt, ↓NGtf, ↓NGft, ↓NGff, ↓PGtt, ↓PGtf, ↓PGft, ↓PGff, ↓BGtt, ↓BGtf, ↓BGft, ↓BGff, ↓CGtt, ↓CGtf, ↓CGft, ↓CGff, ↓IGtt, ↓IGtf, ↓IGft, ↓IGff, ↓PKt, ↓PKf, ↓CDt, ↓CDf, ↓NOTt, ↓NOTf, ↓NK_ptr, ↓EQf c1]
    rw [BK_quo hb]
    exact ⟨by simp [twoV, c1], by trivial⟩
theorem two3_ok (a b : Int) (hb : b ≠ 0) (w : World) : Rt Try.prog 39 #[.int .i64 a, .int .i64 b] w (TwR 12 a b w) := by
  refine vm_two_3_calls ?_
  unfold vm_two_3_F
  by_cases c2 : b = -1
  · simp only [↓VG_u, ↓UG_u, ↓MG_u, ↓NG_u, ↓PG_u, ↓BG_u, ↓CG_u, ↓IG_u, ↓VGtt, ↓VGtf, ↓VGft, ↓VGff, ↓UGtt, ↓UGtf, ↓UGft, ↓UGff, ↓MGtt, ↓MGtf, ↓MGft, ↓MGff, ↓NGtt, ↓NGtf, ↓NGft, ↓NGff, ↓PGtt, ↓PGtf, ↓PGft, ↓PGff, ↓BGtt, ↓BGtf, ↓BGft, ↓BGff, ↓CGtt, ↓CGtf, ↓CGft, ↓CGff, ↓IGtt, ↓IGtf, ↓IGft, ↓IGff, ↓PKt, ↓PKf, ↓CDt, ↓CDf, ↓NOTt, ↓NOTf, ↓NK_ptr, ↓EQt c2]
    exact ⟨by simp [twoV, c2], by trivial⟩
  · simp only [↓VG_u, ↓UG_u, ↓MG_u, ↓NG_u, ↓PG_u, ↓BG_u, ↓CG_u, ↓IG_u, ↓VGtt, ↓VGtf, ↓VGft, ↓VGff, ↓UGtt, ↓UGtf, ↓UGft, ↓UGff, ↓MGtt, ↓MGtf, ↓MGft, ↓MGff, ↓NGtt, ↓NGtf, ↓NGft, ↓NGff, ↓PGtt, ↓PGtf, ↓PGft, ↓PGff, ↓BGtt, ↓BGtf, ↓BGft, ↓BGff, ↓CGtt, ↓CGtf, ↓CGft, ↓CGff, ↓IGtt, ↓IGtf, ↓IGft, ↓IGff, ↓PKt, ↓PKf, ↓CDt, ↓CDf, ↓NOTt, ↓NOTf, ↓NK_ptr, ↓EQf c2]
    rw [BK_rem hb]
    exact ⟨by simp [twoV, c2], by trivial⟩
theorem two4_ok (a b : Int) (w : World) : Rt Try.prog 40 #[.int .i64 a, .int .i64 b] w (TwR 13 a b w) := by
  refine vm_two_4_calls ?_
  unfold vm_two_4_F
  rw [BK_add]
  exact ⟨by simp [twoV], by trivial⟩
theorem two5_ok (a b : Int) (w : World) : Rt Try.prog 41 #[.int .i64 a, .int .i64 b] w (TwR 14 a b w) := by
  refine vm_two_5_calls ?_
  unfold vm_two_5_F
  rw [BK_sub]
  exact ⟨by simp [twoV], by trivial⟩
theorem two6_ok (a b : Int) (w : World) : Rt Try.prog 42 #[.int .i64 a, .int .i64 b] w (TwR 15 a b w) := by
  refine vm_two_6_calls ?_
  unfold vm_two_6_F
  rw [BK_lss]
  refine CK_st Try.func29 rfl rfl (truth_ok _ w) ?_
  rintro _ w' ⟨rfl, rfl⟩
  exact ⟨by simp [twoV], by trivial⟩
theorem two7_ok (a b : Int) (w : World) : Rt Try.prog 43 #[.int .i64 a, .int .i64 b] w (TwR 16 a b w) := by
  refine vm_two_7_calls ?_
  unfold vm_two_7_F
  rw [BK_leq]
  refine CK_st Try.func29 rfl rfl (truth_ok _ w) ?_
  rintro _ w' ⟨rfl, rfl⟩
  exact ⟨by simp [twoV], by trivial⟩
theorem two8_ok (a b : Int) (w : World) : Rt Try.prog 44 #[.int .i64 a, .int .i64 b] w (TwR 17 a b w) := by
  refine vm_two_8_calls ?_
  unfold vm_two_8_F
  rw [BK_gtr]
  refine CK_st Try.func29 rfl rfl (truth_ok _ w) ?_
  rintro _ w' ⟨rfl, rfl⟩
  exact ⟨by simp [twoV], by trivial⟩
theorem two9_ok (a b : Int) (w : World) : Rt Try.prog 45 #[.int .i64 a, .int .i64 b] w (TwR 18 a b w) := by
  refine vm_two_9_calls ?_
  unfold vm_two_9_F
  rw [BK_geq]
  refine CK_st Try.func29 rfl rfl (truth_ok _ w) ?_
  rintro _ w' ⟨rfl, rfl⟩
  exact ⟨by simp [twoV], by trivial⟩
theorem two10_ok (a b : Int) (w : World) : Rt Try.prog 46 #[.int .i64 a, .int .i64 b] w (TwR 19 a b w) := by
  refine vm_two_10_calls ?_
  unfold vm_two_10_F
  rw [BK_eql]
  refine CK_st Try.func29 rfl rfl (truth_ok _ w) ?_
  rintro _ w' ⟨rfl, rfl⟩
  exact ⟨by simp [twoV]; rfl, by trivial⟩
theorem two11_ok (a b : Int) (w : World) : Rt Try.prog 47 #[.int .i64 a, .int .i64 b] w (TwR 20 a b w) := by
  refine vm_two_11_calls ?_
  unfold vm_two_11_F
  rw [BK_neq]
  refine CK_st Try.func29 rfl rfl (truth_ok _ w) ?_
  rintro _ w' ⟨rfl, rfl⟩
  exact ⟨by simp [twoV]; rfl, by trivial⟩
def fns : List Value := [Value.func (.func 37) #[] #[], Value.func (.func 38) #[] #[], Value.func (.func 39) #[] #[], Value.func (.func 40) #[] #[], Value.func (.func 41) #[] #[], Value.func (.func 42) #[] #[], Value.func (.func 43) #[] #[], Value.func (.func 44) #[] #[], Value.func (.func 45) #[] #[], Value.func (.func 46) #[] #[], Value.func (.func 47) #[] #[]]
theorem two_ok (w : World) : Rt Try.prog 31 #[] w fun v w' => v = .agg fns.toArray ∧ Mod none_ w w' := by
  refine vm_two_calls ?_
  unfold vm_two_F
  refine al_k (z := .agg (List.replicate 11 (Value.nilFunc)).toArray) (cs := (List.replicate 11 (Value.nilFunc)).toArray) (by kernel_rfl) rfl _ fun w1 hb1 hm1 hz1 => ?_
  rw [build_ok (cs := fns.toArray) (by kernel_rfl)]
  refine stS (cs := fns.toArray) (old := (List.replicate 11 Value.nilFunc).toArray) rfl rfl (by kernel_rfl) rfl (by kernel_rfl) hb1 fun w2 hb2 hm2 hz2 => ?_
  refine rsCell (R := fun v w' => v = .agg fns.toArray ∧ Mod none_ w w') rfl Try.underlying73 rfl (by kernel_rfl) hb2 ?_
  exact ⟨rfl, hm1.then hm2 fun i hi q => by omega⟩
end Go.Proofs.Ytmbgbffgkdcieaa.Tr
set_option linter.unusedVariables false
set_option linter.unusedSimpArgs false
set_option maxRecDepth 4000
namespace Go.Proofs.Ytmbgbffgkdcieaa.Tr
open Go Go.X Go.RowKit Go.Proofs.Ytmbgbffgkdcieaa.XF Go.Proofs.Ytmbgbffgkdcieaa.XK
abbrev DoP (p : Nat) (w : World) (V : RkV) (s' : Rk) : World → Prop := fun w' => ∃ V', RkAt w' p s' V' ∧ Fr p w V w' V'
abbrev DK (p : Nat) (w : World) (V : RkV) (s' : Rk) : Exit → Sl → World → Prop := retK Try.prog [] fun _ w' => DoP p w V s' w'
structure DC (i : Ins) (p b : Nat) (s : Rk) (V : RkV) (w0 w : World) (V0 : RkV) (ρ : Sl) : Prop where
  r0 : ρ 0 = .pointer (some ⟨p, 0, none⟩)
  r3 : ρ 3 = .pointer (some ⟨b, 0, none⟩)
  r11 : ρ 11 = .int .u8 i.op
  blk : w.heap[b]? = some (.cells i.cells.toArray 30 (0, 0))
  at_ : RkAt w p s V
  fr : Fr p w0 V0 w V
  nb : w0.heap.size ≤ b
  out : ¬ V.G p b
section
variable {i : Ins} {p b : Nat} {s s' : Rk} {V V0 : RkV} {w0 w w' : World} {ρ : Sl}
theorem push_do (h : RkAt w p s V) (f : Fr p w0 V0 w V) (hl : s.stack.length ≤ 1000) (n : Int) {K : World → Prop} (hk : ∀ w', DoP p w0 V0 (s.push n) w' → K w') : CK Try.prog (.func (.func 24) #[] #[]) [.pointer (some ⟨p, 0, none⟩), .int .i64 n] w fun _ w' => K w' :=
  CK_st Try.func24 rfl rfl (push_ok h hl n) fun _ w' ⟨V', r, g⟩ => hk w' ⟨V', r, f.trans g⟩
theorem ends_do (h : RkAt w p s V) (f : Fr p w0 V0 w V) (kind fault : Int) {K : World → Prop} (hk : ∀ w', DoP p w0 V0 (s.ends kind fault) w' → K w') : CK Try.prog (.func (.func 27) #[] #[]) [.pointer (some ⟨p, 0, none⟩), .int .u8 kind, .int .u8 fault] w fun _ w' => K w' :=
  CK_st Try.func27 rfl rfl (ends_ok h kind fault) fun _ w' ⟨V', r, g⟩ => hk w' ⟨V', r, f.trans g⟩
theorem pop_do (h : RkAt w p s V) (h0 : 0 < s.stack.length) (hl : s.stack.length ≤ 1000) {K : Value → World → Prop} (hk : ∀ w' sl, RkAt w' p s.drop1 { V with s := sl } → Fr p w V w' { V with s := sl } → K (.int .i64 s.top) w') : CK Try.prog (.func (.func 25) #[] #[]) [.pointer (some ⟨p, 0, none⟩)] w K :=
  CK_st Try.func25 rfl rfl (pop_ok h h0 hl) fun _ w' ⟨e, V', r, g⟩ => by rw [e]; exact hk w' V' r g
theorem DC.next {V' : RkV} (h : DC i p b s V w0 w V0 ρ) (r : RkAt w' p s' V') (g : Fr p w V w' V') {ρ' : Sl} (e0 : ρ' 0 = ρ 0) (e3 : ρ' 3 = ρ 3) (e11 : ρ' 11 = ρ 11) : DC i p b s' V' w0 w' V0 ρ' := by
  have hb := X.blk_lt h.blk
  exact ⟨e0.trans h.r0, e3.trans h.r3, e11.trans h.r11, g.mod.blk h.blk fun q => h.out (.inl q), r, h.fr.trans g, h.nb, fun q => (g.g b q).elim h.out fun z => by omega⟩
theorem DC.drawn (h : DC i p b s V w0 w V0 ρ) (n : Nat) : DC i p b s V w0 { w with drawn := n } V0 ρ := by
  have hm : Mod none_ w { w with drawn := n } := (Mod.refl _ w).drawn n
  exact h.next (h.at_.calm hm) (Fr.calm hm) rfl rfl rfl
theorem DC.n (h : DC i p b s V w0 w V0 ρ) : FO Try.prog w 30 1 1 ⟨b, 0, none⟩ 2 (.int .i64 i.n) := FO.blk h.blk (by kernel_rfl) vN rfl rfl
theorem DC.op (h : DC i p b s V w0 w V0 ρ) : FO Try.prog w 30 0 0 ⟨b, 0, none⟩ 5 (.int .u8 i.op) := FO.blk h.blk (by kernel_rfl) vU8 rfl rfl
theorem do_R0 (h : DC i p b s V w0 w V0 ρ) (hk : s.Wk) (h0 : 0 ≤ i.n) (h1 : i.n < s.vars.length) : W fn_ Try.prog 221 vm_Rank_do_R0 (blkK 0 (DK p w0 V0 (s.push (s.vars.getD i.n.toNat 0)))) ρ w := by
  refine vm_Rank_do_R0_tail (D := []) ?_
  have hd := h.drawn (w.drawn + 1)
  generalize ({ w with drawn := w.drawn + 1 } : World) = wd at *
  unfold vm_Rank_do_R0_T
  rw [h.r0, h.r3]
  refine QN_ptr ?_
  refine Qfo (off := 7) (a := ⟨p, 0, none⟩) (by kernel_rfl) (Qld vNs rfl (v := V.v) (fun w' hw => by rw [hw, add_pl, cell_blk hd.at_.blk]; rfl) ?_)
  refine Qfo (off := 1) (a := ⟨b, 0, none⟩) (by kernel_rfl) (Qld vN rfl (v := .int .i64 i.n) (fun w' hw => by rw [hw, add_pl, cell_blk hd.blk]; rfl) ?_)
  have hx := getD_some (l := s.vars) (i := i.n.toNat) (by omega)
  refine q_ixld (C := fun w' => w' = wd) vNs cN vN rfl (w := wd) rfl (v := V.v) (n := s.vars.length) (xs := i64s s.vars) (fun w' hw => by rw [hw]; exact reads_of_owns hd.at_.vars) h0 (i64s_get hx) fun y => ?_
  exact push_do hd.at_ hd.fr (by have := hk.st; omega) _ fun w' q => q
theorem do_R1 (h : DC i p b s V w0 w V0 ρ) (hk : s.Wk) (h0 : 0 ≤ i.n) (h1 : i.n < s.vars.length) (hs : 0 < s.stack.length) : W fn_ Try.prog 221 vm_Rank_do_R1 (blkK 0 (DK p w0 V0 { s.drop1 with vars := s.vars.set i.n.toNat s.top })) ρ w := by
  have hd := h.drawn (w.drawn + 1)
  refine vm_Rank_do_R1_held (D := []) (fun w' => w'.cell? ⟨p, 7, none⟩ = some V.v ∧ w'.heap[b]? = some (.cells i.cells.toArray 30 (0, 0))) ⟨by rw [cell_blk hd.at_.blk]; rfl, hd.blk⟩ ?_
  generalize ({ w with drawn := w.drawn + 1 } : World) = wd at *
  unfold vm_Rank_do_R1_H
  rw [h.r0, h.r3]
  refine HN_ptr ?_
  refine HV_of (v := .pointer (some (Addr.add ⟨p, 0, none⟩ 7))) (fun w' _ => run_fo (by kernel_rfl) _ w') ?_
  refine HV_of (v := V.v) (fun w' hw => run_ld1 vNs rfl (by rw [add_pl]; exact hw.1)) ?_
  refine HV_of (v := .pointer (some (Addr.add ⟨b, 0, none⟩ 1))) (fun w' _ => run_fo (by kernel_rfl) _ w') ?_
  refine HV_of (v := .int .i64 i.n) (fun w' hw => run_ld1 vN rfl (by rw [add_pl, cell_blk hw.2]; rfl)) ?_
  refine CK_st Try.func25 rfl rfl (pop_ok hd.at_ hs (by have := hk.st; omega)) ?_
  rintro _ w3 ⟨rfl, sl, r, g⟩
  have h3 := hd.next (ρ' := ρ) r g rfl rfl rfl
  refine ⟨⟨by rw [cell_blk r.blk]; rfl, h3.blk⟩, ?_⟩
  have hl3 : s.drop1.vars.length = s.vars.length := rfl
  obtain ⟨gb, cap, eV⟩ : ∃ gb cap, V.v = .slice (some ⟨gb, 0, none⟩) s.vars.length cap := by
    rcases h.at_.vars.2 with ⟨_, q⟩ | ⟨g, cap, cur, e, _⟩
    · omega
    · exact ⟨g, cap, e⟩
  rw [eV]
  refine HV_of (fun w' _ => run_ixa vNs cN h0 (by omega) w') ?_
  have hov : w3.ownsRow 0 tN 1 (.slice (some ⟨gb, 0, none⟩) s.vars.length cap) s.vars.length (i64s s.vars) := by rw [← eV]; exact r.vars
  rw [add_pl, Nat.zero_add]
  refine st_row cN rfl hov (k := i.n.toNat * (0 + 1)) (by omega) fun w4 ho4 hm4 => ?_
  have hm4' : Mod (sb V.v) w3 w4 := hm4.mono fun k _ q => by rw [q, eV]; rfl
  have ho4' : w4.ownsRow 0 tN 1 V.v (s.vars.set i.n.toNat s.top).length (i64s (s.vars.set i.n.toNat s.top)) := by
    rw [eV, List.length_set]
    have : (i64s s.vars).set (i.n.toNat * (0 + 1)) (Value.int .i64 s.top) = i64s (s.vars.set i.n.toNat s.top) := by unfold i64s; rw [List.map_set]; congr 1; omega
    rw [← this]
    exact ho4
  obtain ⟨r4, g4⟩ := RkAt.var (s' := { s.drop1 with vars := s.vars.set i.n.toNat s.top }) r hm4' ho4' rfl rfl rfl rfl rfl rfl rfl
  have h4 := h3.next (ρ' := ρ) r4 g4 rfl rfl rfl
  refine ⟨⟨by rw [cell_blk r4.blk, ← eV]; rfl, h4.blk⟩, ?_⟩
  exact ⟨_, r4, h4.fr⟩
theorem do_R2 (h : DC i p b s V w0 w V0 ρ) (hk : s.Wk) (h0 : 0 ≤ i.n) (h1 : i.n < s.pg.arrs.length) (hs : 0 < s.stack.length) {K1 K2 : Exit → Sl → World → Prop}
    (hK : ∀ ρ' w' sl (v : Value), DC i p b s.drop1 { V with s := sl } w0 w' V0 ρ' → CellP w' s.drop1 { V with s := sl } i.n s.top v w' → ρ' 4 = v → K1 .normal ρ' w') : W fn_ Try.prog 221 vm_Rank_do_R2 K1 ρ w := by
  have hd := h.drawn (w.drawn + 1)
  refine vm_Rank_do_R2_held (D := []) (fun w' => w'.heap[b]? = some (.cells i.cells.toArray 30 (0, 0))) hd.blk ?_
  generalize ({ w with drawn := w.drawn + 1 } : World) = wd at *
  unfold vm_Rank_do_R2_H
  rw [h.r0, h.r3]
  refine HV_of (v := .pointer (some (Addr.add ⟨b, 0, none⟩ 1))) (fun w' _ => run_fo (by kernel_rfl) _ w') ?_
  refine HV_of (v := .int .i64 i.n) (fun w' hw => run_ld1 vN rfl (by rw [add_pl, cell_blk hw]; rfl)) ?_
  refine CK_st Try.func25 rfl rfl (pop_ok hd.at_ hs (by have := hk.st; omega)) ?_
  rintro _ w3 ⟨rfl, sl, r, g⟩
  have h3 := hd.next (ρ' := ρ) r g rfl rfl rfl
  refine ⟨h3.blk, ?_⟩
  refine CK_st Try.func26 rfl rfl (cell_ok r hk.drop1 h0 h1) ?_
  rintro v w4 ⟨hv, hm4⟩
  have h4 := h3.next (ρ' := ρ) (r.calm hm4) (Fr.calm hm4) rfl rfl rfl
  refine ⟨h4.blk, ?_⟩
  exact hK _ w4 sl v (h4.next (h4.at_) (Fr.refl _ _ _) rfl rfl rfl) ⟨hv, Mod.refl _ _⟩ rfl
theorem cells_at (h : RkAt w p s V) {g cap c : Nat} (eV : V.l = .slice (some ⟨g, 0, none⟩) s.cells.length cap) (hc : c < s.cells.length) : w.cell? ⟨g, c, none⟩ = some (.int .i64 (s.cells.getD c 0)) := by
  obtain ⟨hl, A, c', e, _, hr⟩ := reads_of_owns h.cells
  rw [eV] at e
  cases e
  obtain ⟨a, ha, hcell⟩ := hr c _ (i64s_get (getD_some hc))
  cases ha
  rw [add_pl, Nat.zero_add] at hcell
  exact hcell
abbrev BD (p : Nat) (w0 : World) (V0 : RkV) (s' : Rk) : Exit → Sl → World → Prop := blkK 0 (DK p w0 V0 s')
theorem do_at (h : DC i p b s V w0 w V0 ρ) (hk : s.Wk) (h0 : 0 ≤ i.n) (h1 : i.n < s.pg.arrs.length) (hs : 0 < s.stack.length) (he : s' = match s.cellAt i.n s.top with | some c => s.drop1.push (s.cells.getD c 0) | none => s.drop1.ends 4 2) :
    W fn_ Try.prog 221 vm_Rank_do_R2 (seqK (sx fn_ Try.prog 221 vm_Rank_do_R3 (seqK (sx fn_ Try.prog 221 vm_Rank_do_R4 (BD p w0 V0 s')) (BD p w0 V0 s'))) (seqK (sx fn_ Try.prog 221 vm_Rank_do_R4 (BD p w0 V0 s')) (BD p w0 V0 s'))) ρ w := by
  refine do_R2 (K2 := BD p w0 V0 s') h hk h0 h1 hs fun ρ' w3 sl v h3 hv e4 => ?_
  rw [sq_n, vm_Rank_do_R3_eq]; unfold vm_Rank_do_R3_F
  have hcc : s.drop1.cellAt i.n s.top = s.cellAt i.n s.top := rfl
  unfold CellP at hv
  rw [hcc] at hv
  cases hq : s.cellAt i.n s.top with
  | none =>
    rw [hq] at hv he
    rw [e4, hv.1, BK_neqP (by kernel_rfl : Try.prog.underlying 68 = some (.pointer 2))]
    refine condF ?_
    rw [sq_n, vm_Rank_do_R4_eq]; unfold vm_Rank_do_R4_F
    rw [show (up (up ρ' 77 (Value.pointer none)) 78 (.bool (!(none : Option Addr).isNone))) 0 = .pointer (some ⟨p, 0, none⟩) from h3.r0]
    exact ends_do h3.at_ h3.fr 4 2 fun w' q => by rw [he]; exact q
  | some c =>
    rw [hq] at hv he
    obtain ⟨⟨hc, g, cap, eV, ev⟩, _⟩ := hv
    rw [e4, ev, BK_neqP (by kernel_rfl : Try.prog.underlying 68 = some (.pointer 2))]
    refine condT ?_
    rw [NK_ptr]
    refine ld1 vN rfl (cells_at h3.at_ eV hc) ?_
    rw [h3.r0]
    refine push_do h3.at_ h3.fr (by have := hk.drop1.st; omega) _ fun w' q => ?_
    show DoP p w0 V0 s' w'
    rw [he]; exact q
theorem do_put (h : DC i p b s V w0 w V0 ρ) (hk : s.Wk) (h0 : 0 ≤ i.n) (h1 : i.n < s.pg.arrs.length) (hs : 0 < s.stack.length) {x : Int} (h5 : ρ 5 = .int .i64 x) (he : s' = match s.cellAt i.n s.top with | some c => { s.drop1 with cells := s.cells.set c x } | none => s.drop1.ends 4 2) :
    W fn_ Try.prog 221 vm_Rank_do_R5 (seqK (sx fn_ Try.prog 221 vm_Rank_do_R6 (seqK (sx fn_ Try.prog 221 vm_Rank_do_R7 (BD p w0 V0 s')) (BD p w0 V0 s'))) (seqK (sx fn_ Try.prog 221 vm_Rank_do_R7 (BD p w0 V0 s')) (BD p w0 V0 s'))) ρ w := by
  have hd := h.drawn (w.drawn + 1)
  refine vm_Rank_do_R5_held (D := []) (fun w' => w'.heap[b]? = some (.cells i.cells.toArray 30 (0, 0))) hd.blk ?_
  generalize ({ w with drawn := w.drawn + 1 } : World) = wd at *
  unfold vm_Rank_do_R5_H
  rw [h.r0, h.r3]
  refine HV_of (v := .pointer (some (Addr.add ⟨b, 0, none⟩ 1))) (fun w' _ => run_fo (by kernel_rfl) _ w') ?_
  refine HV_of (v := .int .i64 i.n) (fun w' hw => run_ld1 vN rfl (by rw [add_pl, cell_blk hw]; rfl)) ?_
  refine CK_st Try.func25 rfl rfl (pop_ok hd.at_ hs (by have := hk.st; omega)) ?_
  rintro _ w3 ⟨rfl, sl, r, g⟩
  have h3 := hd.next (ρ' := ρ) r g rfl rfl rfl
  refine ⟨h3.blk, ?_⟩
  refine CK_st Try.func26 rfl rfl (cell_ok r hk.drop1 h0 h1) ?_
  rintro v w4 ⟨hv, hm4⟩
  have h4 := h3.next (ρ' := ρ) (r.calm hm4) (Fr.calm hm4) rfl rfl rfl
  refine ⟨h4.blk, ?_⟩
  rw [sq_n, vm_Rank_do_R6_eq]; unfold vm_Rank_do_R6_F
  have hcc : s.drop1.cellAt i.n s.top = s.cellAt i.n s.top := rfl
  rw [hcc] at hv
  have e6 : ∀ {f : Sl} {x : Value}, up f 6 x 6 = x := rfl
  rw [e6]
  cases hq : s.cellAt i.n s.top with
  | none =>
    rw [hq] at hv he
    rw [hv, BK_neqP (by kernel_rfl : Try.prog.underlying 68 = some (.pointer 2))]
    refine condF ?_
    rw [sq_n, vm_Rank_do_R7_eq]; unfold vm_Rank_do_R7_F
    refine CK_eq rfl (bs := [.pointer (some ⟨p, 0, none⟩), .int .u8 4, .int .u8 2]) (by rw [← h.r0]; rfl) ?_
    exact ends_do h4.at_ h4.fr 4 2 fun w' q => by rw [he]; exact q
  | some c =>
    rw [hq] at hv he
    obtain ⟨hc, g2, cap, eV, ev⟩ := hv
    rw [ev, BK_neqP (by kernel_rfl : Try.prog.underlying 68 = some (.pointer 2))]
    refine condT ?_
    rw [NK_ptr]
    have hov : w4.ownsRow 0 tN 1 (.slice (some ⟨g2, 0, none⟩) s.cells.length cap) s.cells.length (i64s s.cells) := by
      have := h4.at_.cells
      rw [eV] at this
      exact this
    simp only [sq_n, sq_x, sq_r, bk_n, bk_r, bk_x, rt_r, rt_n, rs_0, rs_t, pk_1, pk_2, up_at, reduceIte, Nat.reduceEqDiff, h5]
    refine st_row cN rfl hov (k := c) (by have : c < s.cells.length := hc; omega) fun w5 ho5 hm5 => ?_
    have hm5' : Mod (sb ({ V with s := sl } : RkV).l) w4 w5 := hm5.mono fun k _ q => by rw [q, eV]; rfl
    obtain ⟨r5, g5⟩ := RkAt.cell (s' := { s.drop1 with cells := s.cells.set c x }) h4.at_ hm5' (by
      rw [eV]
      show w5.ownsRow 0 tN 1 _ (s.cells.set c x).length (i64s (s.cells.set c x))
      rw [List.length_set]
      have : (i64s s.cells).set c (Value.int .i64 x) = i64s (s.cells.set c x) := by unfold i64s; rw [List.map_set]
      rw [← this]
      exact ho5) rfl rfl rfl rfl rfl rfl rfl
    show DoP p w0 V0 s' w5
    rw [he]
    exact ⟨_, r5, h4.fr.trans g5⟩
theorem jump_do (h : RkAt w p s V) (f : Fr p w0 V0 w V) (n : Int) {K : World → Prop} (hk : ∀ w', DoP p w0 V0 (s.jump n) w' → K w') : VK Try.prog (Instr.fieldAt tR (.pointer (some ⟨p, 0, none⟩)) 3) w fun y w => UK Try.prog (Instr.storeAt 3 y (.int .i64 n)) w fun _ w => K w := by
  rw [fo (show fieldOff Try.prog tR 3 = some 5 by kernel_rfl)]
  refine stC (o := 5) (by rw [add_pl]) (by kernel_rfl) rfl h.blk (by show 5 < 31; omega) fun w3 hb3 hm3 hz3 => ?_
  obtain ⟨r, g⟩ := RkAt.put (s' := s.jump n) h hm3 hb3 rfl rfl rfl rfl rfl rfl rfl
  exact hk _ ⟨_, r, f.trans g⟩
end
end Go.Proofs.Ytmbgbffgkdcieaa.Tr
set_option linter.unusedVariables false
set_option linter.unusedSimpArgs false
set_option maxRecDepth 4000
namespace Go.Proofs.Ytmbgbffgkdcieaa.Tr
open Go Go.X Go.RowKit Go.Proofs.Ytmbgbffgkdcieaa.XF Go.Proofs.Ytmbgbffgkdcieaa.XK
theorem twoF {op a b : Int} (h0 : 10 ≤ op) (h1 : op ≤ 20) (hb : b = 0 → op ≠ 11 ∧ op ≠ 12) : ∃ f fn, fns[(op - 10).toNat]? = some (.func (.func f) #[] #[]) ∧ Try.prog.funcs[f]? = some fn ∧ fn.body.isNone = false ∧ (fn.name == "runtime.NumGoroutine") = false ∧ ∀ w, Rt Try.prog f #[.int .i64 a, .int .i64 b] w (TwR op a b w) := by
  have h : op = 10 ∨ op = 11 ∨ op = 12 ∨ op = 13 ∨ op = 14 ∨ op = 15 ∨ op = 16 ∨ op = 17 ∨ op = 18 ∨ op = 19 ∨ op = 20 := by omega
  rcases h with rfl | rfl | rfl | rfl | rfl | rfl | rfl | rfl | rfl | rfl | rfl
  · exact ⟨37, Try.f37, rfl, Try.func37, rfl, rfl, fun w => two1_ok a b w⟩
  · exact ⟨38, Try.f38, rfl, Try.func38, rfl, rfl, fun w => two2_ok a b (fun q => by have := hb q; omega) w⟩
  · exact ⟨39, Try.f39, rfl, Try.func39, rfl, rfl, fun w => two3_ok a b (fun q => by have := hb q; omega) w⟩
  · exact ⟨40, Try.f40, rfl, Try.func40, rfl, rfl, fun w => two4_ok a b w⟩
  · exact ⟨41, Try.f41, rfl, Try.func41, rfl, rfl, fun w => two5_ok a b w⟩
  · exact ⟨42, Try.f42, rfl, Try.func42, rfl, rfl, fun w => two6_ok a b w⟩
  · exact ⟨43, Try.f43, rfl, Try.func43, rfl, rfl, fun w => two7_ok a b w⟩
  · exact ⟨44, Try.f44, rfl, Try.func44, rfl, rfl, fun w => two8_ok a b w⟩
  · exact ⟨45, Try.f45, rfl, Try.func45, rfl, rfl, fun w => two9_ok a b w⟩
  · exact ⟨46, Try.f46, rfl, Try.func46, rfl, rfl, fun w => two10_ok a b w⟩
  · exact ⟨47, Try.f47, rfl, Try.func47, rfl, rfl, fun w => two11_ok a b w⟩
section
variable {i : Ins} {p b : Nat} {s s' : Rk} {V V0 : RkV} {w0 w w' : World} {ρ : Sl}
theorem do_row (h : DC i p b s V w0 w V0 ρ) (hk : s.Wk) {x : Int} (h7 : ρ 7 = .int .i64 x) {t : Bool} (h118 : ρ 118 = .bool t) (ht : t = decide (0 ≤ x ∧ x < s.last.row.length)) (he : s' = if 0 ≤ x ∧ x < s.last.row.length then s.push (s.last.row.getD x.toNat 0) else s.ends 4 2) :
    sx fn_ Try.prog 221 vm_Rank_do_R8 (seqK (sx fn_ Try.prog 221 vm_Rank_do_R9 (BD p w0 V0 s')) (BD p w0 V0 s')) ρ w := by
  rw [vm_Rank_do_R8_eq]; unfold vm_Rank_do_R8_F
  rw [h118, ht]
  by_cases c : 0 ≤ x ∧ x < s.last.row.length
  · rw [decide_eq_true c]
    rw [if_pos c] at he
    refine condT ?_
    rw [h.r0, h7, NK_ptr, fo (show fieldOff Try.prog tR 8 = some 10 by kernel_rfl), add_pl]
    have f7 : FO Try.prog w 54 7 7 ⟨p, 0 + 10, none⟩ 22 V.r := FO.mk' (by kernel_rfl) vNs rfl (by rw [add_pl, cell_blk h.at_.blk]; rfl)
    rw [f7.e]
    refine ixld vNs cN vN rfl h.at_.row c.1 (i64s_get (getD_some (by omega))) fun y => ?_
    refine push_do h.at_ h.fr (by have := hk.st; omega) _ fun w' q => ?_
    show DoP p w0 V0 s' w'
    rw [he]; exact q
  · rw [decide_eq_false c]
    rw [if_neg c] at he
    refine condF ?_
    rw [sq_n, vm_Rank_do_R9_eq]; unfold vm_Rank_do_R9_F
    rw [h.r0]
    exact ends_do h.at_ h.fr 4 2 fun w' q => by rw [he]; exact q
theorem do_jz (h : DC i p b s V w0 w V0 ρ) (hk : s.Wk) (hs : 0 < s.stack.length) (he : s' = if (decide (s.top = 0) == decide (i.op = 23)) then s.drop1.jump i.n else s.drop1) :
    W fn_ Try.prog 221 vm_Rank_do_R12 (seqK (sx fn_ Try.prog 221 vm_Rank_do_R13 (BD p w0 V0 s')) (BD p w0 V0 s')) ρ w := by
  have hd := h.drawn (w.drawn + 1)
  refine vm_Rank_do_R12_held (D := []) (fun w' => w'.heap[b]? = some (.cells i.cells.toArray 30 (0, 0))) hd.blk ?_
  generalize ({ w with drawn := w.drawn + 1 } : World) = wd at *
  unfold vm_Rank_do_R12_H
  rw [h.r0, h.r3]
  refine HV_of (v := .pointer (some (Addr.add ⟨b, 0, none⟩ 0))) (fun w' _ => run_fo (by kernel_rfl) _ w') ?_
  refine HV_of (v := .int .u8 i.op) (fun w' hw => run_ld1 vU8 rfl (by rw [add_pl, cell_blk hw]; rfl)) ?_
  refine HB_of (v := .bool (decide (i.op = 23))) (fun _ => rfl) (fun _ => rfl) ?_
  refine CK_st Try.func25 rfl rfl (pop_ok hd.at_ hs (by have := hk.st; omega)) ?_
  rintro _ w3 ⟨rfl, sl, r, g⟩
  have h3 := hd.next (ρ' := ρ) r g rfl rfl rfl
  refine ⟨h3.blk, ?_⟩
  refine HB_of (v := .bool (decide (s.top = 0))) (fun _ => rfl) (fun _ => rfl) ?_
  generalize hu : decide (s.top = 0) = u at *
  generalize hv : decide (i.op = 23) = v at *
  refine HB_of (v := .bool (u == v)) (fun w => by cases u <;> cases v <;> rfl) (fun w => by cases u <;> cases v <;> rfl) ?_
  rw [sq_n, vm_Rank_do_R13_eq]; unfold vm_Rank_do_R13_F
  have e178 : ∀ {f : Sl} {x : Value}, up f 178 x 178 = x := rfl
  rw [e178]
  cases hc : (u == v) with
  | true =>
    rw [hc] at he
    refine condT ?_
    simp only [sq_n, sq_x, sq_r, bk_n, bk_r, bk_x, rt_r, rt_n, rs_0, rs_t, pk_1, pk_2, up_at, reduceIte, Nat.reduceEqDiff, h.r0, h.r3]
    rw [h3.n.e, NK_ptr]
    exact jump_do h3.at_ h3.fr i.n fun w' q => by rw [he]; exact q
  | false =>
    rw [hc] at he
    refine condF ?_
    show DoP p w0 V0 s' w3
    rw [he]
    exact ⟨_, r, h3.fr⟩
theorem do_dup (h : DC i p b s V w0 w V0 ρ) (hk : s.Wk) (hs : 0 < s.stack.length) : W fn_ Try.prog 221 vm_Rank_do_R14 (BD p w0 V0 (s.push s.top)) ρ w := by
  refine vm_Rank_do_R14_tail (D := []) ?_
  have hd := h.drawn (w.drawn + 1)
  generalize ({ w with drawn := w.drawn + 1 } : World) = wd at *
  unfold vm_Rank_do_R14_T
  rw [h.r0]
  obtain ⟨A, c, eS, hcS⟩ := reads_cap (reads_of_owns hd.at_.stack)
  have hld : ∀ w', w' = wd → w'.cell? (Addr.add ⟨p, 0, none⟩ 6) = some V.s := fun w' hw => by rw [hw, add_pl, cell_blk hd.at_.blk]; rfl
  refine QN_ptr ?_
  refine Qfo (off := 6) (a := ⟨p, 0, none⟩) (by kernel_rfl) (Qld vNs rfl (v := V.s) hld ?_)
  refine QN_ptr ?_
  refine Qfo (off := 6) (a := ⟨p, 0, none⟩) (by kernel_rfl) (Qld vNs rfl (v := V.s) hld ?_)
  have hst := hk.st
  rw [eS]
  refine QI_len vNs _ A s.stack.length c ?_
  refine QB_of (v := .int .i64 ((s.stack.length - 1 : Nat) : Int)) (fun _ => rfl) (fun w' => ?_) ?_
  · have : IntKind.i64.wrap ((s.stack.length : Int) - 1) = ((s.stack.length - 1 : Nat) : Int) := by rw [wrap_i (by omega) (by omega)]; omega
    rw [← this]; rfl
  have htop : s.stack[s.stack.length - 1]? = some s.top := by
    unfold Rk.top
    rw [List.getLast?_eq_getElem?, List.getElem?_eq_getElem (by omega)]
    rfl
  refine q_ixld (C := fun w' => w' = wd) vNs cN vN rfl (w := wd) rfl (n := s.stack.length) (xs := i64s s.stack) (fun w' hw => by rw [hw, ← eS]; exact reads_of_owns hd.at_.stack) (by omega) (by rw [Int.toNat_natCast]; exact i64s_get htop) fun y => ?_
  exact push_do hd.at_ hd.fr (by omega) _ fun w' q => q
theorem sx_R16 {K : Exit → Sl → World → Prop} : sx fn_ Try.prog 221 vm_Rank_do_R16 K ρ w = W fn_ Try.prog 221 vm_Rank_do_R16 K ρ w := by
  have e : vm_Rank_do_R16 = .region (idOf vm_Rank_do_R16) vm_Rank_do_R16_ops true := by kernel_rfl
  rw [e]; rfl
theorem do_two (h : DC i p b s V w0 w V0 ρ) (hk : s.Wk) {x y : Int} (h8 : ρ 8 = .int .i64 y) (h9 : ρ 9 = .int .i64 x) {t : Bool} (h27 : ρ 27 = .bool t) (ht : t = decide (y = 0 ∧ (i.op = 11 ∨ i.op = 12))) (o0 : 10 ≤ i.op) (o1 : i.op ≤ 20) (he : s' = if y = 0 ∧ (i.op = 11 ∨ i.op = 12) then s.ends 4 1 else s.push (twoV i.op x y)) :
    sx fn_ Try.prog 221 vm_Rank_do_R15 (seqK (sx fn_ Try.prog 221 vm_Rank_do_R16 (BD p w0 V0 s')) (BD p w0 V0 s')) ρ w := by
  rw [vm_Rank_do_R15_eq]; unfold vm_Rank_do_R15_F
  rw [h27, ht]
  by_cases c : y = 0 ∧ (i.op = 11 ∨ i.op = 12)
  · rw [decide_eq_true c]
    rw [if_pos c] at he
    refine condT ?_
    rw [h.r0]
    exact ends_do h.at_ h.fr 4 1 fun w' q => by show DoP p w0 V0 s' w'; rw [he]; exact q
  · rw [decide_eq_false c]
    rw [if_neg c] at he
    refine condF ?_
    rw [sq_n, sx_R16]
    obtain ⟨f, fn, hf, e1, e2, e3, hc⟩ := twoF (op := i.op) (a := x) (b := y) o0 o1 (fun q => ⟨fun z => c ⟨q, .inl z⟩, fun z => c ⟨q, .inr z⟩⟩)
    have hd := h.drawn (w.drawn + 1)
    refine vm_Rank_do_R16_held (D := []) (fun w' => w'.heap[b]? = some (.cells i.cells.toArray 30 (0, 0))) hd.blk ?_
    generalize ({ w with drawn := w.drawn + 1 } : World) = wd at *
    unfold vm_Rank_do_R16_H
    rw [h.r0, h.r3, h8, h9]
    refine HV_of (v := .pointer (some (Addr.add ⟨b, 0, none⟩ 0))) (fun w' _ => run_fo (by kernel_rfl) _ w') ?_
    refine HV_of (v := .int .u8 i.op) (fun w' hw => run_ld1 vU8 rfl (by rw [add_pl, cell_blk hw]; rfl)) ?_
    refine HB_of (v := .int .u8 (i.op - 10)) (fun _ => rfl) (fun w' => ?_) ?_
    · have : IntKind.u8.wrap (i.op - 10) = i.op - 10 := by rw [IntKind.wrap_u8]; omega
      rw [← this]; rfl
    refine CK_st Try.func31 rfl rfl (two_ok wd) ?_
    rintro _ w3 ⟨rfl, hm3⟩
    have h3 := hd.next (ρ' := ρ) (hd.at_.calm hm3) (Fr.calm hm3) rfl rfl rfl
    refine ⟨h3.blk, ?_⟩
    refine HV_of (v := .func (.func f) #[] #[]) (fun w' _ => run_idx (n := 11) (e := 72) (by kernel_rfl) Try.underlying72 rfl (by kernel_rfl) (by omega) (by omega) (by rw [List.getElem?_toArray]; exact hf) w') ?_
    refine ⟨⟨f, fn, #[], #[], rfl, e1, e2, e3⟩, ?_⟩
    refine CK_st e1 e2 e3 (hc w3) ?_
    rintro _ w4 ⟨rfl, rfl⟩
    refine ⟨h3.blk, ?_⟩
    refine CK_st Try.func24 rfl rfl (push_ok h3.at_ (by have := hk.st; omega) _) ?_
    rintro _ w5 ⟨V', r, g⟩
    have h5 := h3.next (ρ' := ρ) r g rfl rfl rfl
    refine ⟨h5.blk, ?_⟩
    show DoP p w0 V0 s' w5
    rw [he]; exact ⟨V', r, h5.fr⟩
end
end Go.Proofs.Ytmbgbffgkdcieaa.Tr
set_option linter.unusedVariables false
set_option linter.unusedSimpArgs false
set_option maxRecDepth 4000
namespace Go.Proofs.Ytmbgbffgkdcieaa.Tr
open Go Go.X Go.RowKit Go.Proofs.Ytmbgbffgkdcieaa.XF Go.Proofs.Ytmbgbffgkdcieaa.XK
def CallC : Prop := ∀ (w : World) (p : Nat) (s : Rk) (V : RkV) (n : Int), RkAt w p s V → s.Wk → 0 ≤ argsV n → argsV n ≤ s.stack.length → Rt Try.prog 30 #[.pointer (some ⟨p, 0, none⟩), .int .i64 n] w fun _ w' => ∃ V', RkAt w' p (s.doV ⟨28, n⟩) V' ∧ Fr p w V w' V'
section
variable {i : Ins} {p b : Nat} {s s' : Rk} {V V0 : RkV} {w0 w w' : World} {ρ : Sl}
theorem do_R11 (h : DC i p b s V w0 w V0 ρ) (hk : s.Wk) (hop : (s.pg.tk i).2.2 = true) (hle : (s.pg.tk i).1 ≤ s.stack.length) (hC : i.op = 28 → CallC) {t : Bool} (h169 : ρ 169 = .bool t) (ht : t = true → i.op = 23 ∨ i.op = 24) (hf : t = false → i.op ≠ 23 ∧ i.op ≠ 24) (hn : i.op ≠ 1 ∧ i.op ≠ 2 ∧ i.op ≠ 3 ∧ i.op ≠ 4 ∧ i.op ≠ 5 ∧ i.op ≠ 6 ∧ i.op ≠ 7 ∧ i.op ≠ 8 ∧ i.op ≠ 9 ∧ i.op ≠ 21 ∧ i.op ≠ 22) (he : s' = s.doV i) :
    sx fn_ Try.prog 221 vm_Rank_do_R11 (BD p w0 V0 s') ρ w := by
  obtain ⟨n1, n2, n3, n4, n5, n6, n7, n8, n9, n21, n22⟩ := hn
  have hst := hk.st
  rw [vm_Rank_do_R11_eq]; unfold vm_Rank_do_R11_F
  rw [h169]
  cases t with
  | true =>
    refine condT ?_
    have hz := ht rfl
    refine do_jz h hk ?_ ?_
    · rcases hz with q | q
      · rw [(Rk.tk23 q).1] at hle; omega
      · rw [(Rk.tk24 q).1] at hle; omega
    · rw [he]
      rcases hz with q | q
      · unfold Rk.doV; simp [q]
      · unfold Rk.doV
        by_cases c : s.top = 0 <;> simp [q, c]
  | false =>
    refine condF ?_
    obtain ⟨n23, n24⟩ := hf rfl
    rw [h.r11]
    refine caseI (fun q => ?_) (fun n25 => ?_)
    · refine condT ?_
      rw [(Rk.tk25 q).1] at hle
      rw [h.r0]
      refine pop_do h.at_ (by omega) (by omega) fun w' sl r g => ?_
      show DoP p w0 V0 s' w'
      rw [he, show s.doV i = s.drop1 by unfold Rk.doV; simp [q]]
      exact ⟨_, r, h.fr.trans g⟩
    refine condF ?_
    refine caseI (fun q => ?_) (fun n26 => ?_)
    · refine condT ?_
      rw [(Rk.tk26 q).1] at hle
      rw [he, show s.doV i = s.push s.top by unfold Rk.doV; simp [q]]
      exact do_dup (h.next h.at_ (Fr.refl _ _ _) rfl rfl rfl) hk (by omega)
    refine condF ?_
    refine caseI (fun q => ?_) (fun n27 => ?_)
    · refine condT ?_
      rw [(Rk.tk27 q).1] at hle
      rw [h.r0]
      refine pop_do h.at_ (by omega) (by omega) fun w' sl r g => ?_
      refine caseI (fun z => ?_) (fun z => ?_)
      · refine condT ?_
        refine ends_do (w0 := w0) (V0 := V0) r (h.fr.trans g) 3 0 fun w' q2 => ?_
        show DoP p w0 V0 s' w'
        rw [he, show s.doV i = s.drop1.ends 3 0 by unfold Rk.doV; simp [q, z]]
        exact q2
      · refine condF ?_
        show DoP p w0 V0 s' w'
        rw [he, show s.doV i = s.drop1 by unfold Rk.doV; simp [q, z]]
        exact ⟨_, r, h.fr.trans g⟩
    refine condF ?_
    refine caseI (fun q => ?_) (fun n28 => ?_)
    · refine condT ?_
      have t28 := Rk.tk28 (P := s.pg) q
      rw [t28.1] at hle
      rw [t28.2.2] at hop
      rw [h.r3, h.n.e, h.r0]
      refine CK_st Try.func30 rfl rfl (hC q w p s V i.n h.at_ hk (of_decide_eq_true hop) hle) ?_
      rintro _ w3 ⟨V', r, g⟩
      show DoP p w0 V0 s' w3
      rw [he, show i = ⟨28, i.n⟩ by rw [← q]]
      exact ⟨V', r, h.fr.trans g⟩
    refine condF ?_
    refine caseI (fun q => ?_) (fun n29 => ?_)
    · refine condT ?_
      rw [h.r0]
      refine ends_do h.at_ h.fr 2 0 fun w' q2 => ?_
      show DoP p w0 V0 s' w'
      rw [he, show s.doV i = s.ends 2 0 by unfold Rk.doV; simp [q]]
      exact q2
    refine condF ?_
    obtain ⟨e1, e2, e3, e4, e5⟩ := Rk.tkE hop ⟨n1, n2, n3, n4, n5, n6, n7, n8, n9, n21, n22, n23, n24, n25, n26, n27, n29, n28⟩
    rw [e1] at hle
    rw [h.r0]
    refine CK_st Try.func25 rfl rfl (pop_ok h.at_ (by omega) (by omega)) ?_
    rintro _ w3 ⟨rfl, sl, r3, g3⟩
    have h3 := h.next (ρ' := ρ) r3 g3 rfl rfl rfl
    have hl3 : s.drop1.stack.length = s.stack.length - 1 := by unfold Rk.drop1; rw [List.length_dropLast]
    refine CK_st Try.func25 rfl rfl (pop_ok r3 (by omega) (by omega)) ?_
    rintro _ w4 ⟨rfl, sl4, r4, g4⟩
    have h4 := h3.next (ρ' := ρ) r4 g4 rfl rfl rfl
    rw [h.r3, BK_eql]
    have hs' : s' = if s.top = 0 ∧ (i.op = 11 ∨ i.op = 12) then s.drop1.drop1.ends 4 1 else s.drop1.drop1.push (twoV i.op s.drop1.top s.top) := by
      rw [he]; unfold Rk.doV; simp [n1, n2, n3, n4, n5, n6, n7, n8, n9, n21, n22, n23, n24, n25, n26, n27, n28, n29]
    by_cases c1 : s.top = 0
    case neg =>
      simp only [beq_eq_false_iff_ne.2 c1, ↓VG_u, ↓UG_u, ↓MG_u, ↓NG_u, ↓PG_u, ↓BG_u, ↓CG_u, ↓IG_u, ↓VGtt, ↓VGtf, ↓VGft, ↓VGff, ↓UGtt, ↓UGtf, ↓UGft, ↓UGff, ↓MGtt, ↓MGtf, ↓MGft, ↓MGff, ↓NGtt, ↓NGtf, ↓NGft, ↓NGff, ↓PGtt, ↓PGtf, ↓PGft, ↓PGff, ↓BGtt, ↓BGtf, ↓BGft, ↓BGff, ↓CGtt, ↓CGtf, ↓CGft, ↓CGff, ↓IGtt, ↓IGtf, ↓IGft, ↓IGff, ↓PKt, ↓PKf, ↓CDt, ↓CDf, ↓NOTt, ↓NOTf, ↓NK_ptr]
      exact do_two (t := false) (h4.next h4.at_ (Fr.refl _ _ _) rfl rfl rfl) hk.drop1.drop1 rfl rfl rfl (decide_eq_false (fun z => c1 z.1)).symm e3 e4 hs'
    simp only [beq_iff_eq.2 c1, ↓VG_u, ↓UG_u, ↓MG_u, ↓NG_u, ↓PG_u, ↓BG_u, ↓CG_u, ↓IG_u, ↓VGtt, ↓VGtf, ↓VGft, ↓VGff, ↓UGtt, ↓UGtf, ↓UGft, ↓UGff, ↓MGtt, ↓MGtf, ↓MGft, ↓MGff, ↓NGtt, ↓NGtf, ↓NGft, ↓NGff, ↓PGtt, ↓PGtf, ↓PGft, ↓PGff, ↓BGtt, ↓BGtf, ↓BGft, ↓BGff, ↓CGtt, ↓CGtf, ↓CGft, ↓CGff, ↓IGtt, ↓IGtf, ↓IGft, ↓IGff, ↓PKt, ↓PKf, ↓CDt, ↓CDf, ↓NOTt, ↓NOTf, ↓NK_ptr]
    rw [h4.op.e]
    simp only [↓VG_u, ↓UG_u, ↓MG_u, ↓NG_u, ↓PG_u, ↓BG_u, ↓CG_u, ↓IG_u, ↓VGtt, ↓VGtf, ↓VGft, ↓VGff, ↓UGtt, ↓UGtf, ↓UGft, ↓UGff, ↓MGtt, ↓MGtf, ↓MGft, ↓MGff, ↓NGtt, ↓NGtf, ↓NGft, ↓NGff, ↓PGtt, ↓PGtf, ↓PGft, ↓PGff, ↓BGtt, ↓BGtf, ↓BGft, ↓BGff, ↓CGtt, ↓CGtf, ↓CGft, ↓CGff, ↓IGtt, ↓IGtf, ↓IGft, ↓IGff, ↓PKt, ↓PKf, ↓CDt, ↓CDf, ↓NOTt, ↓NOTf, ↓NK_ptr, ↓BK_eql]
    by_cases c2 : i.op = 11
    · simp only [beq_iff_eq.2 c2, ↓VG_u, ↓UG_u, ↓MG_u, ↓NG_u, ↓PG_u, ↓BG_u, ↓CG_u, ↓IG_u, ↓VGtt, ↓VGtf, ↓VGft, ↓VGff, ↓UGtt, ↓UGtf, ↓UGft, ↓UGff, ↓MGtt, ↓MGtf, ↓MGft, ↓MGff, ↓NGtt, ↓NGtf, ↓NGft, ↓NGff, ↓PGtt, ↓PGtf, ↓PGft, ↓PGff, ↓BGtt, ↓BGtf, ↓BGft, ↓BGff, ↓CGtt, ↓CGtf, ↓CGft, ↓CGff, ↓IGtt, ↓IGtf, ↓IGft, ↓IGff, ↓PKt, ↓PKf, ↓CDt, ↓CDf, ↓NOTt, ↓NOTf, ↓NK_ptr]
      exact do_two (t := true) (h4.next h4.at_ (Fr.refl _ _ _) rfl rfl rfl) hk.drop1.drop1 rfl rfl rfl (decide_eq_true ⟨c1, .inl c2⟩).symm e3 e4 hs'
    simp only [beq_eq_false_iff_ne.2 c2, ↓VG_u, ↓UG_u, ↓MG_u, ↓NG_u, ↓PG_u, ↓BG_u, ↓CG_u, ↓IG_u, ↓VGtt, ↓VGtf, ↓VGft, ↓VGff, ↓UGtt, ↓UGtf, ↓UGft, ↓UGff, ↓MGtt, ↓MGtf, ↓MGft, ↓MGff, ↓NGtt, ↓NGtf, ↓NGft, ↓NGff, ↓PGtt, ↓PGtf, ↓PGft, ↓PGff, ↓BGtt, ↓BGtf, ↓BGft, ↓BGff, ↓CGtt, ↓CGtf, ↓CGft, ↓CGff, ↓IGtt, ↓IGtf, ↓IGft, ↓IGff, ↓PKt, ↓PKf, ↓CDt, ↓CDf, ↓NOTt, ↓NOTf, ↓NK_ptr]
    rw [h4.op.e]
    simp only [↓VG_u, ↓UG_u, ↓MG_u, ↓NG_u, ↓PG_u, ↓BG_u, ↓CG_u, ↓IG_u, ↓VGtt, ↓VGtf, ↓VGft, ↓VGff, ↓UGtt, ↓UGtf, ↓UGft, ↓UGff, ↓MGtt, ↓MGtf, ↓MGft, ↓MGff, ↓NGtt, ↓NGtf, ↓NGft, ↓NGff, ↓PGtt, ↓PGtf, ↓PGft, ↓PGff, ↓BGtt, ↓BGtf, ↓BGft, ↓BGff, ↓CGtt, ↓CGtf, ↓CGft, ↓CGff, ↓IGtt, ↓IGtf, ↓IGft, ↓IGff, ↓PKt, ↓PKf, ↓CDt, ↓CDf, ↓NOTt, ↓NOTf, ↓NK_ptr, ↓BK_eql]
    by_cases c3 : i.op = 12
    · simp only [beq_iff_eq.2 c3, ↓VG_u, ↓UG_u, ↓MG_u, ↓NG_u, ↓PG_u, ↓BG_u, ↓CG_u, ↓IG_u, ↓VGtt, ↓VGtf, ↓VGft, ↓VGff, ↓UGtt, ↓UGtf, ↓UGft, ↓UGff, ↓MGtt, ↓MGtf, ↓MGft, ↓MGff, ↓NGtt, ↓NGtf, ↓NGft, ↓NGff, ↓PGtt, ↓PGtf, ↓PGft, ↓PGff, ↓BGtt, ↓BGtf, ↓BGft, ↓BGff, ↓CGtt, ↓CGtf, ↓CGft, ↓CGff, ↓IGtt, ↓IGtf, ↓IGft, ↓IGff, ↓PKt, ↓PKf, ↓CDt, ↓CDf, ↓NOTt, ↓NOTf, ↓NK_ptr]
      exact do_two (t := true) (h4.next h4.at_ (Fr.refl _ _ _) rfl rfl rfl) hk.drop1.drop1 rfl rfl rfl (decide_eq_true ⟨c1, .inr c3⟩).symm e3 e4 hs'
    simp only [beq_eq_false_iff_ne.2 c3, ↓VG_u, ↓UG_u, ↓MG_u, ↓NG_u, ↓PG_u, ↓BG_u, ↓CG_u, ↓IG_u, ↓VGtt, ↓VGtf, ↓VGft, ↓VGff, ↓UGtt, ↓UGtf, ↓UGft, ↓UGff, ↓MGtt, ↓MGtf, ↓MGft, ↓MGff, ↓NGtt, ↓NGtf, ↓NGft, ↓NGff, ↓PGtt, ↓PGtf, ↓PGft, ↓PGff, ↓BGtt, ↓BGtf, ↓BGft, ↓BGff, ↓CGtt, ↓CGtf, ↓CGft, ↓CGff, ↓IGtt, ↓IGtf, ↓IGft, ↓IGff, ↓PKt, ↓PKf, ↓CDt, ↓CDf, ↓NOTt, ↓NOTf, ↓NK_ptr]
    exact do_two (t := false) (h4.next h4.at_ (Fr.refl _ _ _) rfl rfl rfl) hk.drop1.drop1 rfl rfl rfl (decide_eq_false (fun z => z.2.elim c2 c3)).symm e3 e4 hs'
end
end Go.Proofs.Ytmbgbffgkdcieaa.Tr
set_option linter.unusedVariables false
set_option linter.unusedSimpArgs false
set_option maxRecDepth 4000
namespace Go.Proofs.Ytmbgbffgkdcieaa.Tr
open Go Go.X Go.RowKit Go.Proofs.Ytmbgbffgkdcieaa.XF Go.Proofs.Ytmbgbffgkdcieaa.XK
theorem NEG_ok {P : Program} {w : World} {K : Value → World → Prop} {k : IntKind} {n : Int} : VK P (Op.unary .neg (.int k n)) w K = K (.int k (k.wrap (-n))) w := VK_eq_of (by simp [Op.unary, Op.intArith])
section
variable {i : Ins} {p b : Nat} {s s' : Rk} {V V0 : RkV} {w0 w w' : World} {ρ : Sl}
theorem do_ok (h0 : RkAt w p s V) (hk : s.Wk) (hop : (s.pg.tk i).2.2 = true) (hle : (s.pg.tk i).1 ≤ s.stack.length) (hC : i.op = 28 → CallC) : Rt Try.prog 17 #[.pointer (some ⟨p, 0, none⟩), .agg i.cells.toArray] w fun _ w' => DoP p w V (s.doV i) w' := by
  refine vm_Rank_do_calls ?_
  unfold vm_Rank_do_F
  refine box_k (cs := i.cells.toArray) rfl fun w1 hb1 hm1 hz1 => ?_
  have h : ∀ ρ : Sl, ρ 0 = .pointer (some ⟨p, 0, none⟩) → ρ 3 = .pointer (some ⟨w.heap.size, 0, none⟩) → ρ 11 = .int .u8 i.op → DC i p w.heap.size s V w w1 V ρ := fun ρ a b c => ⟨a, b, c, hb1, h0.calm hm1, Fr.calm hm1, Nat.le_refl _, fun q => Nat.lt_irrefl _ (h0.old _ q)⟩
  have hst := hk.st
  have h1 := h (fun k => if k = 0 then .pointer (some ⟨p, 0, none⟩) else if k = 3 then .pointer (some ⟨w.heap.size, 0, none⟩) else .int .u8 i.op) rfl rfl rfl
  have fin : ∀ {s' : Rk} {w' : World}, s.doV i = s' → DoP p w V s' w' → DoP p w V (s.doV i) w' := fun e q => by rw [e]; exact q
  rw [h1.op.e]
  refine caseI (fun q => ?_) (fun n1 => ?_)
  · refine condT ?_
    rw [h1.n.e]
    exact push_do h1.at_ h1.fr (by omega) _ fun w' q2 => fin (by unfold Rk.doV; simp [q]) q2
  refine condF ?_
  have rng : ∀ {m : Int}, inV i.n m = true → 0 ≤ i.n ∧ i.n < m := fun q => by unfold inV at q; simpa using q
  refine caseI (fun q => ?_) (fun n2 => ?_)
  · refine condT ?_
    have hr := rng (m := s.pg.vars) (by unfold Pg.tk at hop; simpa [q] using hop)
    rw [show s.doV i = s.push (s.vars.getD i.n.toNat 0) by unfold Rk.doV; simp [q]]
    exact do_R0 (h _ rfl rfl rfl) hk hr.1 (by rw [hk.vars]; exact hr.2)
  refine condF ?_
  refine caseI (fun q => ?_) (fun n3 => ?_)
  · refine condT ?_
    have hr := rng (m := s.pg.vars) (by unfold Pg.tk at hop; simpa [q] using hop)
    rw [(Rk.tk3 q).1] at hle
    rw [show s.doV i = { s.drop1 with vars := s.vars.set i.n.toNat s.top } by unfold Rk.doV; simp [q]]
    exact do_R1 (h _ rfl rfl rfl) hk hr.1 (by rw [hk.vars]; exact hr.2) (by omega)
  refine condF ?_
  refine caseI (fun q => ?_) (fun n4 => ?_)
  · refine condT ?_
    have hr := rng (m := s.pg.arrs.length) (by unfold Pg.tk at hop; simpa [q] using hop)
    rw [(Rk.tk4 q).1] at hle
    exact do_at (h _ rfl rfl rfl) hk hr.1 hr.2 (by omega) (by unfold Rk.doV; simp [q]; rfl)
  refine condF ?_
  refine caseI (fun q => ?_) (fun n5 => ?_)
  · refine condT ?_
    have hr := rng (m := s.pg.arrs.length) (by unfold Pg.tk at hop; simpa [q] using hop)
    rw [(Rk.tk5 q).1] at hle
    refine CK_st Try.func25 rfl rfl (pop_ok h1.at_ (by omega) (by omega)) ?_
    rintro _ w3 ⟨rfl, sl, r3, g3⟩
    have hl3 : s.drop1.stack.length = s.stack.length - 1 := by unfold Rk.drop1; rw [List.length_dropLast]
    exact do_put ((h _ rfl rfl rfl).next r3 g3 rfl rfl rfl) hk.drop1 hr.1 hr.2 (by omega) rfl (by unfold Rk.doV; simp [q]; rfl)
  refine condF ?_
  refine caseI (fun q => ?_) (fun n6 => ?_)
  · refine condT ?_
    rw [(Rk.tk6 q).1] at hle
    refine CK_st Try.func25 rfl rfl (pop_ok h1.at_ (by omega) (by omega)) ?_
    rintro _ w3 ⟨rfl, sl, r3, g3⟩
    have hs' : s.doV i = if 0 ≤ s.top ∧ s.top < s.drop1.last.row.length then s.drop1.push (s.drop1.last.row.getD s.top.toNat 0) else s.drop1.ends 4 2 := by unfold Rk.doV; simp [q]; rfl
    rw [BK_geq]
    by_cases c : 0 ≤ s.top
    · simp only [c, decide_true, ↓VG_u, ↓UG_u, ↓MG_u, ↓NG_u, ↓PG_u, ↓BG_u, ↓CG_u, ↓IG_u, ↓VGtt, ↓VGtf, ↓VGft, ↓VGff, ↓UGtt, ↓UGtf, ↓UGft, ↓UGff, ↓MGtt, ↓MGtf, ↓MGft, ↓MGff, ↓NGtt, ↓NGtf, ↓NGft, ↓NGff, ↓PGtt, ↓PGtf, ↓PGft, ↓PGff, ↓BGtt, ↓BGtf, ↓BGft, ↓BGff, ↓CGtt, ↓CGtf, ↓CGft, ↓CGff, ↓IGtt, ↓IGtf, ↓IGft, ↓IGff, ↓PKt, ↓PKf, ↓CDt, ↓CDf, ↓NOTt, ↓NOTf, ↓NK_ptr]
      rw [fo (show fieldOff Try.prog tR 8 = some 10 by kernel_rfl), add_pl]
      try simp only [↓VG_u, ↓UG_u, ↓MG_u, ↓NG_u, ↓PG_u, ↓BG_u, ↓CG_u, ↓IG_u, ↓VGtt, ↓VGtf, ↓VGft, ↓VGff, ↓UGtt, ↓UGtf, ↓UGft, ↓UGff, ↓MGtt, ↓MGtf, ↓MGft, ↓MGff, ↓NGtt, ↓NGtf, ↓NGft, ↓NGff, ↓PGtt, ↓PGtf, ↓PGft, ↓PGff, ↓BGtt, ↓BGtf, ↓BGft, ↓BGff, ↓CGtt, ↓CGtf, ↓CGft, ↓CGff, ↓IGtt, ↓IGtf, ↓IGft, ↓IGff, ↓PKt, ↓PKf, ↓CDt, ↓CDf, ↓NOTt, ↓NOTf, ↓NK_ptr]
      have f7 : FO Try.prog w3 54 7 7 ⟨p, 0 + 10, none⟩ 22 V.r := FO.mk' (by kernel_rfl) vNs rfl (by rw [add_pl, cell_blk r3.blk]; rfl)
      rw [f7.e]
      obtain ⟨AR, cR, eR, _⟩ := reads_cap r3.row
      have eR' : V.r = .slice AR s.drop1.last.row.length cR := eR
      try simp only [↓VG_u, ↓UG_u, ↓MG_u, ↓NG_u, ↓PG_u, ↓BG_u, ↓CG_u, ↓IG_u, ↓VGtt, ↓VGtf, ↓VGft, ↓VGff, ↓UGtt, ↓UGtf, ↓UGft, ↓UGff, ↓MGtt, ↓MGtf, ↓MGft, ↓MGff, ↓NGtt, ↓NGtf, ↓NGft, ↓NGff, ↓PGtt, ↓PGtf, ↓PGft, ↓PGff, ↓BGtt, ↓BGtf, ↓BGft, ↓BGff, ↓CGtt, ↓CGtf, ↓CGft, ↓CGff, ↓IGtt, ↓IGtf, ↓IGft, ↓IGff, ↓PKt, ↓PKf, ↓CDt, ↓CDf, ↓NOTt, ↓NOTf, ↓NK_ptr]
      rw [eR', len_sl vNs]
      try simp only [↓VG_u, ↓UG_u, ↓MG_u, ↓NG_u, ↓PG_u, ↓BG_u, ↓CG_u, ↓IG_u, ↓VGtt, ↓VGtf, ↓VGft, ↓VGff, ↓UGtt, ↓UGtf, ↓UGft, ↓UGff, ↓MGtt, ↓MGtf, ↓MGft, ↓MGff, ↓NGtt, ↓NGtf, ↓NGft, ↓NGff, ↓PGtt, ↓PGtf, ↓PGft, ↓PGff, ↓BGtt, ↓BGtf, ↓BGft, ↓BGff, ↓CGtt, ↓CGtf, ↓CGft, ↓CGff, ↓IGtt, ↓IGtf, ↓IGft, ↓IGff, ↓PKt, ↓PKf, ↓CDt, ↓CDf, ↓NOTt, ↓NOTf, ↓NK_ptr, ↓BK_lss]
      exact do_row ((h _ rfl rfl rfl).next r3 g3 rfl rfl rfl) hk.drop1 rfl rfl (by rw [decide_eq_decide]; simp [c]) hs'
    · simp only [c, decide_false, ↓VG_u, ↓UG_u, ↓MG_u, ↓NG_u, ↓PG_u, ↓BG_u, ↓CG_u, ↓IG_u, ↓VGtt, ↓VGtf, ↓VGft, ↓VGff, ↓UGtt, ↓UGtf, ↓UGft, ↓UGff, ↓MGtt, ↓MGtf, ↓MGft, ↓MGff, ↓NGtt, ↓NGtf, ↓NGft, ↓NGff, ↓PGtt, ↓PGtf, ↓PGft, ↓PGff, ↓BGtt, ↓BGtf, ↓BGft, ↓BGff, ↓CGtt, ↓CGtf, ↓CGft, ↓CGff, ↓IGtt, ↓IGtf, ↓IGft, ↓IGff, ↓PKt, ↓PKf, ↓CDt, ↓CDf, ↓NOTt, ↓NOTf, ↓NK_ptr]
      exact do_row ((h _ rfl rfl rfl).next r3 g3 rfl rfl rfl) hk.drop1 rfl rfl (by simp [c]) hs'
  refine condF ?_
  refine caseI (fun q => ?_) (fun n7 => ?_)
  · refine condT ?_
    have hr := rng (m := 10) (by unfold Pg.tk at hop; simpa [q] using hop)
    rw [h1.n.e]
    refine CK_st Try.func28 rfl rfl (word_ok h1.at_ hr.1 hr.2) ?_
    rintro _ w3 ⟨rfl, hm3⟩
    exact push_do (h1.at_.calm hm3) (h1.fr.trans (Fr.calm hm3)) (by omega) _ fun w' q2 => fin (by unfold Rk.doV; simp [q]) q2
  refine condF ?_
  refine caseI (fun q => ?_) (fun n8 => ?_)
  · refine condT ?_
    rw [(Rk.tk8 q).1] at hle
    refine CK_st Try.func25 rfl rfl (pop_ok h1.at_ (by omega) (by omega)) ?_
    rintro _ w3 ⟨rfl, sl, r3, g3⟩
    rw [NEG_ok]
    have := hk.drop1.st
    exact push_do r3 (h1.fr.trans g3) (by omega) _ fun w' q2 => fin (by unfold Rk.doV; simp [q]) q2
  refine condF ?_
  refine caseI (fun q => ?_) (fun n9 => ?_)
  · refine condT ?_
    rw [(Rk.tk9 q).1] at hle
    refine CK_st Try.func25 rfl rfl (pop_ok h1.at_ (by omega) (by omega)) ?_
    rintro _ w3 ⟨rfl, sl, r3, g3⟩
    rw [BK_eql]
    refine CK_st Try.func29 rfl rfl (truth_ok _ w3) ?_
    rintro _ w4 ⟨rfl, rfl⟩
    have := hk.drop1.st
    exact push_do r3 (h1.fr.trans g3) (by omega) _ fun w' q2 => fin (by unfold Rk.doV; simp [q]; rfl) q2
  refine condF ?_
  refine caseI (fun q => ?_) (fun n21 => ?_)
  · refine condT ?_
    rw [(Rk.tk21 q).1] at hle
    refine CK_st Try.func25 rfl rfl (pop_ok h1.at_ (by omega) (by omega)) ?_
    rintro _ w3 ⟨rfl, sl, r3, g3⟩
    rw [BK_neq]
    refine CK_st Try.func29 rfl rfl (truth_ok _ w3) ?_
    rintro _ w4 ⟨rfl, rfl⟩
    have := hk.drop1.st
    exact push_do r3 (h1.fr.trans g3) (by omega) _ fun w' q2 => fin (by unfold Rk.doV; simp [q]; rfl) q2
  refine condF ?_
  refine caseI (fun q => ?_) (fun n22 => ?_)
  · rw [vm_Rank_do_R10_eq]; unfold vm_Rank_do_R10_F
    refine condT ?_
    have e0 : ∀ {i : Nat} {l : List Value}, rho0 l i = l.getD i undef := rfl
    simp only [sq_n, sq_x, sq_r, bk_n, bk_r, bk_x, rt_r, rt_n, rs_0, rs_t, pk_1, pk_2, up_at, reduceIte, Nat.reduceEqDiff, e0, List.getD_cons_zero]
    rw [h1.n.e, NK_ptr]
    exact jump_do h1.at_ h1.fr i.n fun w' q2 => fin (by unfold Rk.doV; simp [q]) q2
  · rw [vm_Rank_do_R10_eq]; unfold vm_Rank_do_R10_F
    refine condF ?_
    refine caseI (fun q => ?_) (fun n23 => ?_)
    · refine condT ?_
      exact do_R11 (t := true) (h _ rfl rfl rfl) hk hop hle hC rfl (fun _ => .inl q) (fun z => by cases z) ⟨n1, n2, n3, n4, n5, n6, n7, n8, n9, n21, n22⟩ rfl
    refine condF ?_
    refine caseI (fun q => ?_) (fun n24 => ?_)
    · exact do_R11 (t := true) (h _ rfl rfl rfl) hk hop hle hC rfl (fun _ => .inr q) (fun z => by cases z) ⟨n1, n2, n3, n4, n5, n6, n7, n8, n9, n21, n22⟩ rfl
    exact do_R11 (t := false) (h _ rfl rfl rfl) hk hop hle hC rfl (fun z => by cases z) (fun _ => ⟨n23, n24⟩) ⟨n1, n2, n3, n4, n5, n6, n7, n8, n9, n21, n22⟩ rfl
end
end Go.Proofs.Ytmbgbffgkdcieaa.Tr
set_option linter.unusedVariables false
set_option linter.unusedSimpArgs false
set_option maxRecDepth 4000
namespace Go.Proofs.Ytmbgbffgkdcieaa.Tr
open Go Go.X Go.RowKit Go.Proofs.Ytmbgbffgkdcieaa.XF Go.Proofs.Ytmbgbffgkdcieaa.XK
def outC (s : Rk) (q : Value) : List Value := [.int .u8 s.kind] ++ clC s.call q ++ [.int .u8 s.fault]
def zOut : List Value := [Value.int .u8 0] ++ clC zCl (.slice none 0 0) ++ [Value.int .u8 0]
def ToldP (s : Rk) (w : World) (v : Value) (w' : World) : Prop := ∃ q', v = .agg (outC s q').toArray ∧ q'.oneCell' = true ∧ reads w' 1 q' s.call.reqs.length (i64s s.call.reqs) ∧ (∀ k, q'.ownBlock = some k → w.heap.size ≤ k) ∧ Mod none_ w w'
theorem zO : (Try.prog.info? 38).bind (·.zero) = some (.agg zOut.toArray) := by kernel_rfl
theorem iO : (Try.prog.info? 38).map (·.size) = some 13 := by kernel_rfl
section
variable {w : World} {p : Nat} {s : Rk} {V : RkV}
theorem told_ok (h : RkAt w p s V) (hq : s.call.reqs.length ≤ 8) : Rt Try.prog 18 #[.pointer (some ⟨p, 0, none⟩)] w (ToldP s w) := by
  refine vm_Rank_told_calls ?_
  unfold vm_Rank_told_F
  refine al_k (cs := zOut.toArray) zO rfl _ fun w1 hb1 hm1 hz1 => ?_
  have h1 := h.calm hm1
  rw [NK_ptr, fo (show fieldOff Try.prog tR 9 = some 18 by kernel_rfl), add_pl]
  refine ldA (cs := outC s V.q) Try.underlying38 rfl (by rw [iO]; rfl) (fun j v hj => ?_) ?_
  · rw [add_pl, cell_blk h1.blk, List.getElem?_toArray]
    have hlt : j < 13 := (List.getElem?_eq_some_iff.1 hj).1
    rcases j with _ | _ | _ | _ | _ | _ | _ | _ | _ | _ | _ | _ | _ | j
    all_goals first | exact hj | omega
  refine al_k (cs := zOut.toArray) zO rfl _ fun w2 hb2 hm2 hz2 => ?_
  obtain ⟨A, c, eq, _⟩ := reads_cap h.reqs
  refine stS (cs := (outC s V.q).toArray) (old := zOut.toArray) rfl rfl (by rw [iO]; rfl) rfl (by rw [eq]; simp [outC, clC, Value.oneCell']) hb2 fun w3 hb3 hm3 hz3 => ?_
  have hm03 : Mod none_ w w3 := (hm1.trans hm2).then hm3 fun i hi q => by have := hm1.size; omega
  rw [fo (show fieldOff Try.prog 38 1 = some 1 by kernel_rfl), add_pl]
  have f8 : FO Try.prog w3 36 8 8 ⟨w1.heap.size, 0 + 1, none⟩ 26 V.q := FO.mk' (by kernel_rfl) vIs rfl (by rw [add_pl, cell_blk hb3]; rfl)
  rw [f8.e]
  refine CK_st Try.func23 rfl rfl (cloneI_ok (h.calm hm03).reqs (by omega)) ?_
  rintro q' w4 ⟨ho4, hm4⟩
  rw [fo (show fieldOff Try.prog 38 1 = some 1 by kernel_rfl), add_pl, fo (show fieldOff Try.prog 36 8 = some 8 by kernel_rfl), add_pl]
  refine stC (o := 9) rfl (by kernel_rfl) (owns_oc ho4) (hm4.blk hb3 id) (by show 9 < 13; omega) fun w5 hb5 hm5 hz5 => ?_
  have e5 : (outC s V.q).toArray.setIfInBounds 9 q' = (outC s q').toArray := rfl
  rw [e5] at hb5
  refine ldB Try.underlying38 rfl (by rw [iO]; rfl) hb5 ?_
  have s1 := hm1.size
  have hb15 : w5.heap[w.heap.size]? = some (.cells zOut.toArray 38 (0, 0)) := hm5.blk (hm4.blk (hm3.blk (hm2.blk hb1 id) (by omega)) id) (by omega)
  have oq := owns_oc ho4
  obtain ⟨A4, c4, eq4, _⟩ := reads_cap (reads_of_owns ho4)
  refine stS (cs := (outC s q').toArray) (old := zOut.toArray) rfl rfl (by rw [iO]; rfl) rfl (by rw [eq4]; simp [outC, clC, Value.oneCell']) hb15 fun w6 hb6 hm6 hz6 => ?_
  have s3 := hm03.size
  have nq : ∀ k, q'.ownBlock = some k → w3.heap.size ≤ k := fun k q => owns_new_ge ho4 q
  refine rsCell (R := ToldP s w) rfl Try.underlying38 rfl (by rw [iO]; rfl) hb6 ⟨q', rfl, oq, reads_mod (reads_mod (reads_of_owns ho4) hm5 fun k _ q z => ?_) hm6 fun k _ q z => ?_, fun k q => ?_, ((hm03.trans hm4).then hm5 fun i hi q => by omega).then hm6 fun i hi q => by omega⟩
  · have := nq k q; omega
  · have := nq k q; omega
  · have := nq k q; omega
end
end Go.Proofs.Ytmbgbffgkdcieaa.Tr
set_option linter.unusedVariables false
set_option linter.unusedSimpArgs false
set_option maxRecDepth 4000
namespace Go.Proofs.Ytmbgbffgkdcieaa.Tr
open Go Go.X Go.RowKit Go.Proofs.Ytmbgbffgkdcieaa.XF Go.Proofs.Ytmbgbffgkdcieaa.XK
theorem HixIns {S : World → Prop} {s : Value} {l : List Ins} {i : Nat} {e : Ins} {K : Value → Prop} {w0 : World} (hw0 : S w0) (h : ∀ w, S w → InsRow w s l) (hi : l[i]? = some e) (hk : ∀ a, (∀ w, S w → ∀ j u, e.cells[j]? = some u → w.cell? (a.add j) = some u) → K (.pointer (some a))) :
    HK Try.prog S (do pure (Next.value (← Instr.indexAt 25 s (.int .i64 (i : Int))))) K := by
  have hlt : i < l.length := (List.getElem?_eq_some_iff.1 hi).1
  obtain ⟨hl, A, c, hs, hc, hr⟩ := (h w0 hw0).1
  obtain ⟨a, ha | q⟩ := rd_cell (size := 2) (hs ▸ (h w0 hw0).1) hlt
  · subst ha
    subst hs
    refine HV_of (fun w _ => run_ixa vCs cC (by omega) (by omega) w) (hk _ fun w hw j u hu => ?_)
    obtain ⟨_, A', c', hs', _, hr'⟩ := (h w hw).1
    cases hs'
    have hj : j < 1 + 1 := (List.getElem?_eq_some_iff.1 hu).1
    obtain ⟨a', ha', hcell⟩ := hr' (i * 2 + j) u (by rw [fl_get (k := 1 + 1) Ins.cells_len hi hj]; exact hu)
    cases ha'
    rw [add_add, show ((i : Int).toNat) = i by omega]
    exact hcell
  · omega
theorem zIns_z : (Try.prog.info? 30).bind (·.zero) = some (.agg zIns.cells.toArray) := by kernel_rfl
def RunP (p : Nat) (w : World) (V : RkV) (r : Rk × Nat) (v : Value) (w' : World) : Prop := ∃ q' V', v = .tuple #[.agg (outC r.1 q').toArray, .int .i64 (r.2 : Int)] ∧ q'.oneCell' = true ∧ reads w' 1 q' r.1.call.reqs.length (i64s r.1.call.reqs) ∧ (∀ k, q'.ownBlock = some k → w.heap.size ≤ k ∧ ¬ V'.G p k) ∧ RkAt w' p r.1 V' ∧ Fr p w V w' V'
section
variable {w : World} {p : Nat} {s : Rk} {V : RkV}
theorem Run_ok (h : RkAt w p s V) {H : List Int} (hI : s.Inv H) (hC : ∀ i ∈ s.pg.code, i.op = 28 → CallC) {steps : Int} (hst : steps < 9223372036854775807) : Rt Try.prog 7 #[.pointer (some ⟨p, 0, none⟩), .int .i64 steps] w (RunP p w V (Rk.run steps.toNat s)) := by
  refine vm_Rank_Run_calls ?_
  unfold vm_Rank_Run_F
  have hl := whole_len (heights_hts hI.hts).1
  refine al_k (cs := zOut.toArray) zO rfl _ fun w1 hb1 hm1 hz1 => ?_
  have h1 := h.calm hm1
  refine CK_st Try.func16 rfl rfl (none_ok h1 hl.1) ?_
  rintro _ w2 ⟨rfl, rfl⟩
  refine condF ?_
  have hx4F : ¬ V.F p w.heap.size := fun q => Nat.lt_irrefl _ (h.old _ (.inl q))
  have hx4G : ¬ V.G p w.heap.size := fun q => Nat.lt_irrefl _ (h.old _ q)
  refine W_loop vm_Rank_Run_L0_ok (fun ρ wL => ∃ (k : Nat) (V' : RkV), (Rk.run k s).2 = k ∧ (k : Int) ≤ max steps 0 ∧ RkAt wL p (Rk.run k s).1 V' ∧ Fr p w2 V wL V' ∧ ρ 6 = .int .i64 k ∧ ρ 0 = .pointer (some ⟨p, 0, none⟩) ∧ ρ 1 = .int .i64 steps ∧ ρ 4 = .pointer (some ⟨w.heap.size, 0, none⟩)) (fun ρ _ => steps.toNat - (intOf (ρ 6)).toNat)
    ⟨0, V, rfl, by omega, h1, Fr.refl _ _ _, rfl, rfl, rfl, rfl⟩ ?_
  rintro ρ wL ⟨k, V', hk, hks, hL, fL, e6, e0, e1, e4⟩
  rw [vm_Rank_Run_L0_eq]; unfold vm_Rank_Run_L0_F
  have hIk := Rk.Inv.run k hI
  have hpg := Rk.Inv.run_pg k hI
  generalize hsk : (Rk.run k s).1 = sk at *
  rw [e0, e6, e1, NK_ptr, fo (show fieldOff Try.prog tR 9 = some 18 by kernel_rfl), add_pl]
  have fk : FO Try.prog wL 38 0 0 ⟨p, 0 + 18, none⟩ 5 (.int .u8 sk.kind) := FO.mk' (by kernel_rfl) vU8 rfl (by rw [add_pl, cell_blk hL.blk]; rfl)
  rw [fk.e, BK_eql]
  have hkn : k ≤ steps.toNat := by omega
  have hrk : Rk.run k s = (sk, k) := by rw [← hsk]; exact Prod.ext rfl hk
  have stop : (sk.kind ≠ 0 ∨ steps ≤ k) → Rk.run steps.toNat s = (sk, k) := fun q => by
    rcases q with q | q
    · have := Rk.run_end k (steps.toNat - k) s (by rw [hsk]; exact q)
      rw [show k + (steps.toNat - k) = steps.toNat by omega] at this
      rw [this, hrk]
    · rw [show steps.toNat = k by omega, hrk]
  have out : ∀ (ρ' : Sl), ρ' 0 = .pointer (some ⟨p, 0, none⟩) → ρ' 4 = .pointer (some ⟨w.heap.size, 0, none⟩) → ρ' 6 = .int .i64 k → Rk.run steps.toNat s = (sk, k) →
      sx fn_ Try.prog 48 vm_Rank_Run_R1 (retK Try.prog [ResultVar.cell 4 38, ResultVar.tmp 5] (RunP p w V (Rk.run steps.toNat s))) ρ' wL := by
    intro ρ' q0 q4 q6 hr
    rw [vm_Rank_Run_R1_eq]; unfold vm_Rank_Run_R1_F
    rw [q0, q4, q6]
    refine CK_st Try.func18 rfl rfl (told_ok hL hIk.reqs) ?_
    rintro _ w3 ⟨q', rfl, oc, rq, nq, hm3⟩
    obtain ⟨A, c, eq, _⟩ := reads_cap rq
    have hz1' := fL.mod.size
    have hbL : wL.heap[w.heap.size]? = some (.cells zOut.toArray 38 (0, 0)) := fL.mod.blk hb1 hx4F
    refine stS (cs := (outC sk q').toArray) (old := zOut.toArray) rfl rfl (by rw [iO]; rfl) rfl (by rw [eq]; simp [outC, clC, Value.oneCell']) (hm3.blk hbL id) fun w4 hb4 hm4 hz4 => ?_
    show ∃ v, (do loadVar 38 (← asAddr (ρ' 4)) : Sem Value).run Try.prog w4 = .ok v w4 ∧ RunP p w V (Rk.run steps.toNat s) (.tuple #[v, .int .i64 (k : Int)]) w4
    rw [q4, hr]
    refine ⟨_, res_ld (run_ldB Try.underlying38 rfl (by rw [iO]; rfl) hb4), q', V', rfl, oc, reads_mod rq hm4 fun k _ q z => ?_, fun k q => ?_, ?_, ?_⟩
    · have := nq k q; omega
    · have hk := nq k q
      have hsz := fL.mod.size
      exact ⟨by omega, fun z => by have := hL.old k z; omega⟩
    · have hg : ∀ b, V'.G p b → b ≠ w.heap.size := fun b q z => by
        rcases fL.g b q with y | y
        · exact hx4G (z ▸ y)
        · omega
      exact (hL.calm hm3).mod hm4 fun b q z => hg b q z
    · have fL' : Fr p w V wL V' := (Fr.calm hm1).trans fL
      exact ⟨(fL'.mod.then hm3 fun i hi q => q.elim).then hm4 fun i hi q => by omega, fL'.f, fL'.g⟩
  by_cases c0 : sk.kind = 0
  case neg =>
    simp only [beq_eq_false_iff_ne.2 c0, ↓VG_u, ↓UG_u, ↓MG_u, ↓NG_u, ↓PG_u, ↓BG_u, ↓CG_u, ↓IG_u, ↓VGtt, ↓VGtf, ↓VGft, ↓VGff, ↓UGtt, ↓UGtf, ↓UGft, ↓UGff, ↓MGtt, ↓MGtf, ↓MGft, ↓MGff, ↓NGtt, ↓NGtf, ↓NGft, ↓NGff, ↓PGtt, ↓PGtf, ↓PGft, ↓PGff, ↓BGtt, ↓BGtf, ↓BGft, ↓BGff, ↓CGtt, ↓CGtf, ↓CGft, ↓CGff, ↓IGtt, ↓IGtf, ↓IGft, ↓IGff, ↓PKt, ↓PKf, ↓CDt, ↓CDf, ↓NOTt, ↓NOTf, ↓NK_ptr]
    rw [sq_x, bk_x, sq_n]
    exact out _ e0 e4 e6 (stop (.inl c0))
  simp only [beq_iff_eq.2 c0, ↓VG_u, ↓UG_u, ↓MG_u, ↓NG_u, ↓PG_u, ↓BG_u, ↓CG_u, ↓IG_u, ↓VGtt, ↓VGtf, ↓VGft, ↓VGff, ↓UGtt, ↓UGtf, ↓UGft, ↓UGff, ↓MGtt, ↓MGtf, ↓MGft, ↓MGff, ↓NGtt, ↓NGtf, ↓NGft, ↓NGff, ↓PGtt, ↓PGtf, ↓PGft, ↓PGff, ↓BGtt, ↓BGtf, ↓BGft, ↓BGff, ↓CGtt, ↓CGtf, ↓CGft, ↓CGff, ↓IGtt, ↓IGtf, ↓IGft, ↓IGff, ↓PKt, ↓PKf, ↓CDt, ↓CDf, ↓NOTt, ↓NOTf, ↓NK_ptr, ↓BK_lss]
  by_cases c1 : (k : Int) < steps
  case neg =>
    simp only [c1, decide_false, ↓VG_u, ↓UG_u, ↓MG_u, ↓NG_u, ↓PG_u, ↓BG_u, ↓CG_u, ↓IG_u, ↓VGtt, ↓VGtf, ↓VGft, ↓VGff, ↓UGtt, ↓UGtf, ↓UGft, ↓UGff, ↓MGtt, ↓MGtf, ↓MGft, ↓MGff, ↓NGtt, ↓NGtf, ↓NGft, ↓NGff, ↓PGtt, ↓PGtf, ↓PGft, ↓PGff, ↓BGtt, ↓BGtf, ↓BGft, ↓BGff, ↓CGtt, ↓CGtf, ↓CGft, ↓CGff, ↓IGtt, ↓IGtf, ↓IGft, ↓IGff, ↓PKt, ↓PKf, ↓CDt, ↓CDf, ↓NOTt, ↓NOTf, ↓NK_ptr]
    rw [sq_x, bk_x, sq_n]
    exact out _ e0 e4 e6 (stop (.inr (by omega)))
  simp only [c1, decide_true, ↓VG_u, ↓UG_u, ↓MG_u, ↓NG_u, ↓PG_u, ↓BG_u, ↓CG_u, ↓IG_u, ↓VGtt, ↓VGtf, ↓VGft, ↓VGff, ↓UGtt, ↓UGtf, ↓UGft, ↓UGff, ↓MGtt, ↓MGtf, ↓MGft, ↓MGff, ↓NGtt, ↓NGtf, ↓NGft, ↓NGff, ↓PGtt, ↓PGtf, ↓PGft, ↓PGff, ↓BGtt, ↓BGtf, ↓BGft, ↓BGff, ↓CGtt, ↓CGtf, ↓CGft, ↓CGff, ↓IGtt, ↓IGtf, ↓IGft, ↓IGff, ↓PKt, ↓PKf, ↓CDt, ↓CDf, ↓NOTt, ↓NOTf, ↓NK_ptr]
  obtain ⟨d1, d2, d3, d4, d5⟩ := hIk.done c0
  rw [hpg] at d1 d2 d3
  have hip : s.pg.code[sk.at_.toNat]? = some (s.pg.code.getD sk.at_.toNat zIns) := by rw [List.getD_eq_getElem?_getD, List.getElem?_eq_getElem d3]; rfl
  generalize hie : s.pg.code.getD sk.at_.toNat zIns = i at *
  have hrow : InsRow wL V'.c s.pg.code := by have := code_row hL; rw [hpg] at this; exact this
  refine vm_Rank_Run_R2_held (D := []) (fun w' => Mod none_ wL w') ((Mod.refl _ wL).drawn _) ?_
  have hmd : Mod none_ wL { wL with drawn := wL.drawn + 1 } := (Mod.refl _ wL).drawn _
  generalize ({ wL with drawn := wL.drawn + 1 } : World) = wd at *
  unfold vm_Rank_Run_R2_H
  simp only [sq_n, sq_x, sq_r, bk_n, bk_r, bk_x, rt_r, rt_n, rs_0, rs_t, pk_1, pk_2, up_at, reduceIte, Nat.reduceEqDiff, e0]
  have ea : (⟨p, 0, none⟩ : Addr).add 0 = ⟨p, 0, none⟩ := by rw [add_pl]
  refine HN_ptr ?_
  refine HV_of (v := .pointer (some ⟨p, 0, none⟩)) (fun w' _ => by rw [run_fo (off := 0) (by kernel_rfl), ea]) ?_
  refine HV_of (v := .pointer (some ⟨p, 0, none⟩)) (fun w' _ => by rw [run_fo (off := 0) (by kernel_rfl), ea]) ?_
  refine HV_of (v := V'.c) (fun w' hw => run_ld1 vCs rfl (by rw [cell_blk (hL.calm hw).blk]; rfl)) ?_
  refine HN_ptr ?_
  refine HV_of (v := .pointer (some (Addr.add ⟨p, 0, none⟩ 5))) (fun w' _ => run_fo (by kernel_rfl) _ w') ?_
  refine HV_of (v := .int .i64 sk.at_) (fun w' hw => run_ld1 vI rfl (by rw [add_pl, cell_blk (hL.calm hw).blk]; rfl)) ?_
  rw [show sk.at_ = ((sk.at_.toNat : Nat) : Int) by omega]
  refine HixIns (w0 := wL) (Mod.refl _ _) (fun w' hw => hrow.mod hw) hip fun ad had => ?_
  refine HV_of (v := .agg i.cells.toArray) (fun w' hw => run_ldA (cs := i.cells) Try.underlying30 rfl (by kernel_rfl) (had w' hw)) ?_
  refine al_k (cs := zIns.cells.toArray) zIns_z rfl _ fun w3 hb3 hm3 hz3 => ?_
  refine ⟨hmd.trans hm3, ?_⟩
  refine stS (cs := i.cells.toArray) (old := zIns.cells.toArray) rfl rfl (by kernel_rfl) rfl (by simp [Ins.cells, Value.oneCell']) hb3 fun w4 hb4 hm4 hz4 => ?_
  have hszd := hmd.size
  have hm04 : Mod none_ wL w4 := (hmd.trans hm3).then hm4 fun j hj q => by omega
  refine ⟨hm04, ?_⟩
  have h4 := hL.calm hm04
  rw [vm_Rank_Run_R3_eq]; unfold vm_Rank_Run_R3_F
  simp only [sq_n, sq_x, sq_r, bk_n, bk_r, bk_x, rt_r, rt_n, rs_0, rs_t, pk_1, pk_2, up_at, reduceIte, Nat.reduceEqDiff, e0, e6]
  rw [NK_ptr, (f_at h4).e, BK_add, wrap_i (n := sk.at_ + 1) (by omega) (by omega), NK_ptr, fo (show fieldOff Try.prog tR 3 = some 5 by kernel_rfl)]
  refine stC (o := 5) (by rw [add_pl]) (by kernel_rfl) rfl h4.blk (by show 5 < 31; omega) fun w5 hb5 hm5 hz5 => ?_
  obtain ⟨r5, g5⟩ := RkAt.put (s' := { sk with at_ := sk.at_ + 1 }) h4 hm5 hb5 rfl rfl rfl rfl rfl rfl rfl
  rw [BK_add, wrap_i (n := (k : Int) + 1) (by omega) (by omega)]
  have hplt : p < wL.heap.size := hL.old p (.inl (.inl rfl))
  refine ldB Try.underlying30 rfl (by kernel_rfl) (hm5.blk hb4 (by omega)) ?_
  refine CK_st Try.func17 rfl rfl (do_ok r5 (hIk.wk.at1 _) (by show (sk.pg.tk i).2.2 = true; rw [hpg]; exact d1) (by show (sk.pg.tk i).1 ≤ _; rw [hpg]; exact d2) (hC i (List.mem_of_getElem? hip))) ?_
  rintro _ w6 ⟨V6, r6, g6⟩
  have hstep : Rk.run (k + 1) s = (sk.step, k + 1) := by rw [Rk.run_snoc k s hk (by rw [hsk]; exact c0), hsk]
  have es : sk.step = Rk.doV { sk with at_ := sk.at_ + 1 } i := by unfold Rk.step; rw [hpg, hie]
  refine ⟨⟨k + 1, V6, by rw [hstep], by omega, ?_, ((fL.trans (Fr.calm hm04)).trans g5).trans g6, rfl, by trivial, e1, e4⟩, ?_⟩
  · rw [hstep, es]; exact r6
  · simp only [sq_n, sq_x, sq_r, bk_n, bk_r, bk_x, rt_r, rt_n, rs_0, rs_t, pk_1, pk_2, up_at, reduceIte, Nat.reduceEqDiff, intOf]; omega
end
end Go.Proofs.Ytmbgbffgkdcieaa.Tr
set_option linter.unusedVariables false
set_option linter.unusedSimpArgs false
set_option maxRecDepth 4000
namespace Go.Proofs.Ytmbgbffgkdcieaa.Tr
open Go Go.X Go.RowKit Go.Proofs.Ytmbgbffgkdcieaa.XF Go.Proofs.Ytmbgbffgkdcieaa.XK
section
variable {w : World} {p : Nat} {s : Rk} {V : RkV}
end
end Go.Proofs.Ytmbgbffgkdcieaa.Tr
set_option linter.unusedVariables false
set_option linter.unusedSimpArgs false
set_option maxRecDepth 4000
namespace Go.Proofs.Ytmbgbffgkdcieaa.Tr
open Go Go.X Go.RowKit Go.Proofs.Ytmbgbffgkdcieaa.XF Go.Proofs.Ytmbgbffgkdcieaa.XK
def numF (ab : Nat) : Value := .func (.func 36) #[] #[.pointer (some ⟨ab, 0, none⟩)]
theorem num_ok {w : World} {ab : Nat} {sl : Value} {l : List Int} {k : Nat} (hb : w.heap[ab]? = some (.cells #[sl] 22 (0, 0))) (hr : reads w 1 sl l.length (i64s l)) (hk : k < l.length) :
    Rt Try.prog 36 #[.int .i64 k, .pointer (some ⟨ab, 0, none⟩)] w fun v w' => v = .int .i64 (l.getD k 0) ∧ w' = w := by
  refine vm_Rank_call_1_calls ?_
  unfold vm_Rank_call_1_F
  refine ldOne rfl vNs rfl hb ?_
  refine ixld vNs cN vN rfl hr (by omega) (by rw [Int.toNat_natCast]; exact i64s_get (getD_some hk)) fun y => ?_
  exact ⟨rfl, rfl⟩
theorem num_k {w : World} {ab : Nat} {sl : Value} {l : List Int} {k : Nat} {K : Value → World → Prop} (hb : w.heap[ab]? = some (.cells #[sl] 22 (0, 0))) (hr : reads w 1 sl l.length (i64s l)) (hk : k < l.length) (hK : K (.int .i64 (l.getD k 0)) w) : CK Try.prog (numF ab) [.int .i64 (k : Int)] w K := by
  refine CK_fn (f := 36) (first := #[]) (cap := #[.pointer (some ⟨ab, 0, none⟩)]) (args := [.int .i64 (k : Int)]) Try.func36 rfl rfl (num_ok hb hr hk) ?_
  rintro _ w' ⟨rfl, rfl⟩
  exact hK
structure SK (ρ ρ' : Sl) : Prop where
  e0 : ρ' 0 = ρ 0
  e4 : ρ' 4 = ρ 4
  e5 : ρ' 5 = ρ 5
  e6 : ρ' 6 = ρ 6
  e7 : ρ' 7 = ρ 7
  e48 : ρ' 48 = ρ 48
theorem SK.trans {a b c : Sl} (h : SK a b) (k : SK b c) : SK a c := ⟨k.e0.trans h.e0, k.e4.trans h.e4, k.e5.trans h.e5, k.e6.trans h.e6, k.e7.trans h.e7, k.e48.trans h.e48⟩
section
variable {K : Exit → Sl → World → Prop} {ρ : Sl} {w : World} {k : Int}
theorem call_R28 (h48 : ρ 48 = .int .u8 k) (h18 : k = 18 → ∀ ρ', SK ρ ρ' → K (.exit 5) ρ' w) (h21 : k = 21 → ∀ ρ', SK ρ ρ' → K (.exit 6) ρ' w) (hn : k ≠ 18 → k ≠ 21 → ∀ ρ', SK ρ ρ' → K .normal ρ' w) : sx fn_ Try.prog 138 vm_Rank_call_R28 K ρ w := by
  rw [vm_Rank_call_R28_eq]; unfold vm_Rank_call_R28_F
  rw [h48]
  refine caseI (fun q => ?_) (fun n18 => ?_)
  · refine condT ?_; exact h18 q _ ⟨rfl, rfl, rfl, rfl, rfl, rfl⟩
  refine condF ?_
  refine caseI (fun q => ?_) (fun n21 => ?_)
  · refine condT ?_; exact h21 q _ ⟨rfl, rfl, rfl, rfl, rfl, rfl⟩
  refine condF ?_
  exact hn n18 n21 _ ⟨rfl, rfl, rfl, rfl, rfl, rfl⟩
theorem call_R27 {t : Bool} (h66 : ρ 66 = .bool t) (ht : t = true → K (.exit 4) ρ w) (hf : t = false → K .normal ρ w) : sx fn_ Try.prog 138 vm_Rank_call_R27 K ρ w := by
  rw [vm_Rank_call_R27_eq]; unfold vm_Rank_call_R27_F
  rw [h66]
  exact caseC ht hf
theorem call_R24 (h48 : ρ 48 = .int .u8 k) (hb : k = 15 ∨ k = 20 ∨ k = 22 → ∀ ρ', SK ρ ρ' → K (.exit 4) ρ' w) (h18 : k = 18 → ∀ ρ', SK ρ ρ' → K (.exit 5) ρ' w) (h21 : k = 21 → ∀ ρ', SK ρ ρ' → K (.exit 6) ρ' w) (hn : k ≠ 15 → k ≠ 20 → k ≠ 22 → k ≠ 18 → k ≠ 21 → ∀ ρ', SK ρ ρ' → K .normal ρ' w) : sx fn_ Try.prog 138 vm_Rank_call_R24 K ρ w := by
  rw [vm_Rank_call_R24_eq]; unfold vm_Rank_call_R24_F
  rw [h48]
  have step : ∀ (ρ' : Sl) (t : Bool), SK ρ ρ' → ρ' 66 = .bool t → (t = true → k = 15 ∨ k = 20 ∨ k = 22) → (t = false → k ≠ 15 ∧ k ≠ 20 ∧ k ≠ 22) → sx fn_ Try.prog 138 vm_Rank_call_R27 (seqK (sx fn_ Try.prog 138 vm_Rank_call_R28 K) K) ρ' w := fun ρ' t hs h66 ht hf => by
    refine call_R27 h66 (fun q => ?_) (fun q => ?_)
    · exact hb (ht q) ρ' hs
    · rw [sq_n]
      obtain ⟨a, b, c⟩ := hf q
      exact call_R28 (hs.e48.trans h48) (fun z ρ2 h2 => h18 z ρ2 (hs.trans h2)) (fun z ρ2 h2 => h21 z ρ2 (hs.trans h2)) (fun z1 z2 ρ2 h2 => hn a b c z1 z2 ρ2 (hs.trans h2))
  refine caseI (fun q => ?_) (fun n1 => ?_)
  · refine condT ?_; exact step _ true ⟨rfl, rfl, rfl, rfl, rfl, rfl⟩ rfl (fun _ => .inl q) (fun z => by cases z)
  refine condF ?_
  refine caseI (fun q => ?_) (fun n2 => ?_)
  · refine condT ?_; exact step _ true ⟨rfl, rfl, rfl, rfl, rfl, rfl⟩ rfl (fun _ => .inr (.inl q)) (fun z => by cases z)
  refine condF ?_
  refine caseI (fun q => ?_) (fun n3 => ?_)
  · exact step _ true ⟨rfl, rfl, rfl, rfl, rfl, rfl⟩ rfl (fun _ => .inr (.inr q)) (fun z => by cases z)
  · exact step _ false ⟨rfl, rfl, rfl, rfl, rfl, rfl⟩ rfl (fun z => by cases z) (fun _ => ⟨n1, n2, n3⟩)
theorem call_R23 {t : Bool} (h60 : ρ 60 = .bool t) (ht : t = true → K (.exit 3) ρ w) (hf : t = false → K .normal ρ w) : sx fn_ Try.prog 138 vm_Rank_call_R23 K ρ w := by
  rw [vm_Rank_call_R23_eq]; unfold vm_Rank_call_R23_F
  rw [h60]
  exact caseC ht hf
theorem call_R15 {t : Bool} (h55 : ρ 55 = .bool t) (ht : t = true → K (.exit 2) ρ w) (hf : t = false → K .normal ρ w) : sx fn_ Try.prog 138 vm_Rank_call_R15 K ρ w := by
  rw [vm_Rank_call_R15_eq]; unfold vm_Rank_call_R15_F
  rw [h55]
  exact caseC ht hf
theorem call_R6 {t : Bool} (h49 : ρ 49 = .bool t) (ht : t = true → K (.exit 1) ρ w) (hf : t = false → K .normal ρ w) : sx fn_ Try.prog 138 vm_Rank_call_R6 K ρ w := by
  rw [vm_Rank_call_R6_eq]; unfold vm_Rank_call_R6_F
  rw [h49]
  exact caseC ht hf
theorem call_R16 (h48 : ρ 48 = .int .u8 k) (hr : k = 8 ∨ k = 9 ∨ k = 10 ∨ k = 11 ∨ k = 12 → ∀ ρ', SK ρ ρ' → K (.exit 3) ρ' w) (hn : ¬ (k = 8 ∨ k = 9 ∨ k = 10 ∨ k = 11 ∨ k = 12) → ∀ ρ', SK ρ ρ' → sx fn_ Try.prog 138 vm_Rank_call_R24 K ρ' w) : sx fn_ Try.prog 138 vm_Rank_call_R16 K ρ w := by
  rw [vm_Rank_call_R16_eq]; unfold vm_Rank_call_R16_F
  rw [h48]
  have step : ∀ (ρ' : Sl) (t : Bool), SK ρ ρ' → ρ' 60 = .bool t → (t = true → k = 8 ∨ k = 9 ∨ k = 10 ∨ k = 11 ∨ k = 12) → (t = false → ¬ (k = 8 ∨ k = 9 ∨ k = 10 ∨ k = 11 ∨ k = 12)) → sx fn_ Try.prog 138 vm_Rank_call_R23 (seqK (sx fn_ Try.prog 138 vm_Rank_call_R24 K) K) ρ' w := fun ρ' t hs h60 ht hf =>
    call_R23 h60 (fun q => hr (ht q) ρ' hs) (fun q => hn (hf q) ρ' hs)
  refine caseI (fun q => ?_) (fun n1 => ?_)
  · refine condT ?_; exact step _ true ⟨rfl, rfl, rfl, rfl, rfl, rfl⟩ rfl (fun _ => by omega) (fun z => by cases z)
  refine condF ?_
  refine caseI (fun q => ?_) (fun n2 => ?_)
  · refine condT ?_; exact step _ true ⟨rfl, rfl, rfl, rfl, rfl, rfl⟩ rfl (fun _ => by omega) (fun z => by cases z)
  refine condF ?_
  refine caseI (fun q => ?_) (fun n3 => ?_)
  · refine condT ?_; exact step _ true ⟨rfl, rfl, rfl, rfl, rfl, rfl⟩ rfl (fun _ => by omega) (fun z => by cases z)
  refine condF ?_
  refine caseI (fun q => ?_) (fun n4 => ?_)
  · refine condT ?_; exact step _ true ⟨rfl, rfl, rfl, rfl, rfl, rfl⟩ rfl (fun _ => by omega) (fun z => by cases z)
  refine condF ?_
  refine caseI (fun q => ?_) (fun n5 => ?_)
  · exact step _ true ⟨rfl, rfl, rfl, rfl, rfl, rfl⟩ rfl (fun _ => by omega) (fun z => by cases z)
  · exact step _ false ⟨rfl, rfl, rfl, rfl, rfl, rfl⟩ rfl (fun z => by cases z) (fun _ => by omega)
theorem call_R7 (h48 : ρ 48 = .int .u8 k) (hr : k = 6 ∨ k = 7 ∨ k = 13 ∨ k = 14 → ∀ ρ', SK ρ ρ' → K (.exit 2) ρ' w) (hn : ¬ (k = 6 ∨ k = 7 ∨ k = 13 ∨ k = 14) → ∀ ρ', SK ρ ρ' → sx fn_ Try.prog 138 vm_Rank_call_R16 K ρ' w) : sx fn_ Try.prog 138 vm_Rank_call_R7 K ρ w := by
  rw [vm_Rank_call_R7_eq]; unfold vm_Rank_call_R7_F
  rw [h48]
  have step : ∀ (ρ' : Sl) (t : Bool), SK ρ ρ' → ρ' 55 = .bool t → (t = true → k = 6 ∨ k = 7 ∨ k = 13 ∨ k = 14) → (t = false → ¬ (k = 6 ∨ k = 7 ∨ k = 13 ∨ k = 14)) → sx fn_ Try.prog 138 vm_Rank_call_R15 (seqK (sx fn_ Try.prog 138 vm_Rank_call_R16 K) K) ρ' w := fun ρ' t hs h55 ht hf =>
    call_R15 h55 (fun q => hr (ht q) ρ' hs) (fun q => hn (hf q) ρ' hs)
  refine caseI (fun q => ?_) (fun n1 => ?_)
  · refine condT ?_; exact step _ true ⟨rfl, rfl, rfl, rfl, rfl, rfl⟩ rfl (fun _ => by omega) (fun z => by cases z)
  refine condF ?_
  refine caseI (fun q => ?_) (fun n2 => ?_)
  · refine condT ?_; exact step _ true ⟨rfl, rfl, rfl, rfl, rfl, rfl⟩ rfl (fun _ => by omega) (fun z => by cases z)
  refine condF ?_
  refine caseI (fun q => ?_) (fun n3 => ?_)
  · refine condT ?_; exact step _ true ⟨rfl, rfl, rfl, rfl, rfl, rfl⟩ rfl (fun _ => by omega) (fun z => by cases z)
  refine condF ?_
  refine caseI (fun q => ?_) (fun n4 => ?_)
  · exact step _ true ⟨rfl, rfl, rfl, rfl, rfl, rfl⟩ rfl (fun _ => by omega) (fun z => by cases z)
  · exact step _ false ⟨rfl, rfl, rfl, rfl, rfl, rfl⟩ rfl (fun z => by cases z) (fun _ => by omega)
end
end Go.Proofs.Ytmbgbffgkdcieaa.Tr
set_option linter.unusedVariables false
set_option linter.unusedSimpArgs false
set_option maxRecDepth 4000
namespace Go.Proofs.Ytmbgbffgkdcieaa.Tr
open Go Go.X Go.RowKit Go.Proofs.Ytmbgbffgkdcieaa.XF Go.Proofs.Ytmbgbffgkdcieaa.XK
theorem FnNum (ab : Nat) : FnL Try.prog (numF ab) := ⟨_, _, _, _, rfl, Try.func36, rfl, rfl⟩
structure CM (cb ab : Nat) (sl : Value) (l : List Int) (c : Cl) (q : Value) (w : World) : Prop where
  hc : w.heap[cb]? = some (.cells (clC c q).toArray 36 (0, 0))
  ha : w.heap[ab]? = some (.cells #[sl] 22 (0, 0))
  hl : reads w 1 sl l.length (i64s l)
  ne : cb ≠ ab
  ns : ¬ sb sl cb
section
variable {cb ab : Nat} {sl q : Value} {l : List Int} {c : Cl} {w : World} {K : Exit → Sl → World → Prop} {ρ : Sl}
theorem CM.mod {S : Nat → Prop} {w' : World} (h : CM cb ab sl l c q w) (hm : Mod S w w') (h1 : ¬ S cb) (h2 : ¬ S ab) (h3 : ∀ k, sb sl k → ¬ S k) : CM cb ab sl l c q w' := ⟨hm.blk h.hc h1, hm.blk h.ha h2, reads_mod h.hl hm fun k _ z => h3 k z, h.ne, h.ns⟩
theorem CM.calm {w' : World} (h : CM cb ab sl l c q w) (hm : Mod none_ w w') : CM cb ab sl l c q w' := h.mod hm id id fun _ _ => id
theorem CM.put {w' : World} {c' : Cl} {q' : Value} (h : CM cb ab sl l c q w) (hm : Mod (fun b => b = cb) w w') (hb : w'.heap[cb]? = some (.cells (clC c' q').toArray 36 (0, 0))) : CM cb ab sl l c' q' w' :=
  ⟨hb, hm.blk h.ha h.ne.symm, reads_mod h.hl hm fun k _ z y => h.ns (y ▸ z), h.ne, h.ns⟩
def EndA (cb ab : Nat) (sl : Value) (l : List Int) (ρ : Sl) (w : World) (c' : Cl) (q : Value) (K : Sl → World → Prop) : Prop := ∀ ρ' w', SK ρ ρ' → CM cb ab sl l c' q w' → Mod (fun b => b = cb) w w' → w'.heap.size = w.heap.size → K ρ' w'
theorem f36 {i off : Nat} (h : fieldOff Try.prog 36 i = some off) (w' : World) : (Instr.fieldAt 36 (.pointer (some ⟨cb, 0, none⟩)) i).run Try.prog w' = .ok (.pointer (some ⟨cb, off, none⟩)) w' := by
  rw [run_fo h, add_pl, Nat.zero_add]
theorem call_R5 (h : CM cb ab sl l c q w) (e4 : ρ 4 = .pointer (some ⟨cb, 0, none⟩)) (e7 : ρ 7 = numF ab) (h3 : 3 ≤ l.length) (hk : EndA cb ab sl l ρ w { c with comm := l.getD 0 0, peer := l.getD 1 0, tag := l.getD 2 0 } q (K (.exit 0))) : sx fn_ Try.prog 138 vm_Rank_call_R5 K ρ w := by
  rw [vm_Rank_call_R5_eq]; unfold vm_Rank_call_R5_F
  rw [e4, e7]
  refine num_k h.ha h.hl (k := 0) (by omega) ?_
  refine num_k h.ha h.hl (k := 1) (by omega) ?_
  refine num_k h.ha h.hl (k := 2) (by omega) ?_
  refine fst_k (off := 1) (by kernel_rfl) (by kernel_rfl) rfl h.hc (by show 1 < 11; omega) rfl fun x w1 hb1 hm1 hz1 => ?_
  refine fst_k (off := 2) (by kernel_rfl) (by kernel_rfl) rfl hb1 (by show 2 < 11; omega) rfl fun x w2 hb2 hm2 hz2 => ?_
  refine fst_k (off := 3) (by kernel_rfl) (by kernel_rfl) rfl hb2 (by show 3 < 11; omega) rfl fun x w3 hb3 hm3 hz3 => ?_
  have hm := (hm1.trans hm2).trans hm3
  exact hk _ w3 ⟨rfl, rfl, rfl, rfl, rfl, rfl⟩ (h.put hm hb3) hm (by omega)
theorem call_R11 (h : CM cb ab sl l c q w) (e4 : ρ 4 = .pointer (some ⟨cb, 0, none⟩)) (e7 : ρ 7 = numF ab) (h3 : 1 ≤ l.length) (hk : EndA cb ab sl l ρ w { c with comm := l.getD 0 0 } q (K (.exit 0))) : sx fn_ Try.prog 138 vm_Rank_call_R11 K ρ w := by
  rw [vm_Rank_call_R11_eq]; unfold vm_Rank_call_R11_F
  rw [e4, e7]
  refine num_k h.ha h.hl (k := 0) (by omega) ?_
  refine fst_k (off := 1) (by kernel_rfl) (by kernel_rfl) rfl h.hc (by show 1 < 11; omega) rfl fun x w1 hb1 hm1 hz1 => ?_
  exact hk _ w1 ⟨rfl, rfl, rfl, rfl, rfl, rfl⟩ (h.put hm1 hb1) hm1 (by omega)
theorem call_R13 (h : CM cb ab sl l c q w) (e4 : ρ 4 = .pointer (some ⟨cb, 0, none⟩)) (e7 : ρ 7 = numF ab) (h3 : 3 ≤ l.length) (hk : EndA cb ab sl l ρ w { c with comm := l.getD 0 0, color := l.getD 1 0, key := l.getD 2 0 } q (K (.exit 0))) : sx fn_ Try.prog 138 vm_Rank_call_R13 K ρ w := by
  rw [vm_Rank_call_R13_eq]; unfold vm_Rank_call_R13_F
  rw [e4, e7]
  refine num_k h.ha h.hl (k := 0) (by omega) ?_
  refine num_k h.ha h.hl (k := 1) (by omega) ?_
  refine num_k h.ha h.hl (k := 2) (by omega) ?_
  refine fst_k (off := 1) (by kernel_rfl) (by kernel_rfl) rfl h.hc (by show 1 < 11; omega) rfl fun x w1 hb1 hm1 hz1 => ?_
  refine fst_k (off := 9) (by kernel_rfl) (by kernel_rfl) rfl hb1 (by show 9 < 11; omega) rfl fun x w2 hb2 hm2 hz2 => ?_
  refine fst_k (off := 10) (by kernel_rfl) (by kernel_rfl) rfl hb2 (by show 10 < 11; omega) rfl fun x w3 hb3 hm3 hz3 => ?_
  have hm := (hm1.trans hm2).trans hm3
  exact hk _ w3 ⟨rfl, rfl, rfl, rfl, rfl, rfl⟩ (h.put hm hb3) hm (by omega)
theorem h_arg {S : World → Prop} {k : Nat} {i : Int} {x : Int} {K : Value → Value → Value → Prop} (h : CM cb ab sl l c q w) (hS : ∀ w', S w' → Mod (fun b => b = cb) w w') (hk : l[k]? = some x) (hi : i = (k : Int)) (hK : ∀ x1 x2, K x1 x2 (.int .i64 x)) :
    HK Try.prog S (do pure (Next.value (← Instr.loadAt 22 (.pointer (some ⟨ab, 0, none⟩))))) fun x1 => HK Try.prog S (do pure (Next.value (← Instr.indexAt 22 x1 (.int .i64 i)))) fun x2 => HK Try.prog S (do pure (Next.value (← Instr.loadAt 2 x2))) (K x1 x2) := by
  subst hi
  have hlt : k < l.length := (List.getElem?_eq_some_iff.1 hk).1
  obtain ⟨hll, A, cc, hs, hc, hr⟩ := h.hl
  obtain ⟨a, ha, hcell⟩ := hr k _ (i64s_get hk)
  refine HV_of (v := sl) (fun w' hw => ?_) ?_
  · exact run_ld1 vNs rfl (by rw [cell_blk ((hS w' hw).blk h.ha h.ne.symm)]; rfl)
  · subst ha
    subst hs
    refine HV_of (fun w' _ => run_ixa vNs cN (by omega) (by omega) w') ?_
    refine HV_of (v := .int .i64 x) (fun w' hw => run_ld1 vN rfl ?_) (hK _ _)
    obtain ⟨_, A', c', hs', _, hr'⟩ := reads_mod h.hl (hS w' hw) fun k _ z y => h.ns (y ▸ z)
    cases hs'
    obtain ⟨a', ha', hcell'⟩ := hr' k _ (i64s_get hk)
    cases ha'
    rw [show ((k : Int).toNat * (0 + 1)) = k by omega]
    exact hcell'
theorem getD_at {l : List Int} {k : Nat} (h : k < l.length) : l[k]? = some (l.getD k 0) := by simp [List.getD_eq_getElem?_getD, h]
theorem sx_R9 : sx fn_ Try.prog 138 vm_Rank_call_R9 K ρ w = W fn_ Try.prog 138 vm_Rank_call_R9 K ρ w := by
  have e : vm_Rank_call_R9 = .region (idOf vm_Rank_call_R9) vm_Rank_call_R9_ops true := by kernel_rfl
  rw [e]; rfl
theorem call_R9 (h : CM cb ab sl l c q w) (e4 : ρ 4 = .pointer (some ⟨cb, 0, none⟩)) (e6 : ρ 6 = .pointer (some ⟨ab, 0, none⟩)) (e7 : ρ 7 = numF ab) (h3 : 5 ≤ l.length) (hk : EndA cb ab sl l ρ w { c with value := l.getD 3 0, size := l.getD 4 0 } q (K .normal)) : sx fn_ Try.prog 138 vm_Rank_call_R9 K ρ w := by
  rw [sx_R9]
  refine vm_Rank_call_R9_held (D := []) (fun w' => Mod (fun b => b = cb) w w') ((Mod.refl _ w).drawn _) ?_
  have hd : Mod (fun b => b = cb) w { w with drawn := w.drawn + 1 } := (Mod.refl _ w).drawn _
  have hdn : Mod none_ w { w with drawn := w.drawn + 1 } := (Mod.refl _ w).drawn _
  have hsz : ({ w with drawn := w.drawn + 1 } : World).heap.size = w.heap.size := rfl
  generalize ({ w with drawn := w.drawn + 1 } : World) = wd at *
  unfold vm_Rank_call_R9_H
  rw [e4, e6, e7]
  refine h_arg h (fun _ q => q) (k := 3) (i := 3) (getD_at (by omega)) rfl fun _ _ => ?_
  refine HV_of (fun w' _ => f36 (off := 4) (by kernel_rfl) w') ⟨FnNum _, ?_⟩
  have hD := h.calm hdn
  refine num_k hD.ha hD.hl (k := 4) (by omega) ⟨hd, ?_⟩
  refine stC (o := 4) rfl (by kernel_rfl) rfl hD.hc (by show 4 < 11; omega) fun w1 hb1 hm1 hz1 => ⟨hd.trans hm1, ?_⟩
  refine HV_of (fun w' _ => f36 (off := 5) (by kernel_rfl) w') ?_
  refine stC (o := 5) rfl (by kernel_rfl) rfl hb1 (by show 5 < 11; omega) fun w2 hb2 hm2 hz2 => ⟨(hd.trans hm1).trans hm2, ?_⟩
  exact hk _ w2 ⟨rfl, rfl, rfl, rfl, rfl, rfl⟩ (hD.put (hm1.trans hm2) hb2) ((hd.trans hm1).trans hm2) (by omega)
theorem call_R12 (h : CM cb ab sl l c q w) (e4 : ρ 4 = .pointer (some ⟨cb, 0, none⟩)) (e6 : ρ 6 = .pointer (some ⟨ab, 0, none⟩)) (e7 : ρ 7 = numF ab) (h3 : 2 ≤ l.length) (hk : EndA cb ab sl l ρ w { c with comm := l.getD 0 0, value := l.getD 1 0 } q (K (.exit 0))) : sx fn_ Try.prog 138 vm_Rank_call_R12 K ρ w := by
  rw [vm_Rank_call_R12_eq]; unfold vm_Rank_call_R12_F
  refine vm_Rank_call_R19_held (D := []) (fun w' => Mod (fun b => b = cb) w w') ((Mod.refl _ w).drawn _) ?_
  have hd : Mod (fun b => b = cb) w { w with drawn := w.drawn + 1 } := (Mod.refl _ w).drawn _
  have hdn : Mod none_ w { w with drawn := w.drawn + 1 } := (Mod.refl _ w).drawn _
  have hsz : ({ w with drawn := w.drawn + 1 } : World).heap.size = w.heap.size := rfl
  generalize ({ w with drawn := w.drawn + 1 } : World) = wd at *
  unfold vm_Rank_call_R19_H
  rw [e4, e6, e7]
  have hD := h.calm hdn
  refine h_arg h (fun _ q => q) (k := 1) (i := 1) (getD_at (by omega)) rfl fun _ _ => ⟨FnNum _, ?_⟩
  refine num_k hD.ha hD.hl (k := 0) (by omega) ⟨hd, ?_⟩
  refine HV_of (fun w' _ => f36 (off := 1) (by kernel_rfl) w') ?_
  refine stC (o := 1) rfl (by kernel_rfl) rfl hD.hc (by show 1 < 11; omega) fun w1 hb1 hm1 hz1 => ⟨hd.trans hm1, ?_⟩
  refine HV_of (fun w' _ => f36 (off := 4) (by kernel_rfl) w') ?_
  refine stC (o := 4) rfl (by kernel_rfl) rfl hb1 (by show 4 < 11; omega) fun w2 hb2 hm2 hz2 => ⟨(hd.trans hm1).trans hm2, ?_⟩
  rw [sq_n, vm_Rank_call_R20_eq]; unfold vm_Rank_call_R20_F
  exact hk _ w2 ⟨rfl, rfl, rfl, rfl, rfl, rfl⟩ (hD.put (hm1.trans hm2) hb2) ((hd.trans hm1).trans hm2) (by omega)
theorem call_R14 (h : CM cb ab sl l c q w) (e4 : ρ 4 = .pointer (some ⟨cb, 0, none⟩)) (e6 : ρ 6 = .pointer (some ⟨ab, 0, none⟩)) (e7 : ρ 7 = numF ab) (h3 : 3 ≤ l.length) (hk : EndA cb ab sl l ρ w { c with comm := l.getD 0 0, value := l.getD 2 0, root := l.getD 1 0 } q (K (.exit 0))) : sx fn_ Try.prog 138 vm_Rank_call_R14 K ρ w := by
  rw [vm_Rank_call_R14_eq]; unfold vm_Rank_call_R14_F
  refine vm_Rank_call_R21_held (D := []) (fun w' => Mod (fun b => b = cb) w w') ((Mod.refl _ w).drawn _) ?_
  have hd : Mod (fun b => b = cb) w { w with drawn := w.drawn + 1 } := (Mod.refl _ w).drawn _
  have hdn : Mod none_ w { w with drawn := w.drawn + 1 } := (Mod.refl _ w).drawn _
  have hsz : ({ w with drawn := w.drawn + 1 } : World).heap.size = w.heap.size := rfl
  generalize ({ w with drawn := w.drawn + 1 } : World) = wd at *
  unfold vm_Rank_call_R21_H
  rw [e4, e6, e7]
  have hD := h.calm hdn
  refine h_arg h (fun _ q => q) (k := 2) (i := 2) (getD_at (by omega)) rfl fun _ _ => ⟨FnNum _, ?_⟩
  refine num_k hD.ha hD.hl (k := 0) (by omega) ⟨hd, ?_⟩
  refine HV_of (fun w' _ => f36 (off := 1) (by kernel_rfl) w') ⟨FnNum _, ?_⟩
  refine num_k hD.ha hD.hl (k := 1) (by omega) ⟨hd, ?_⟩
  refine stC (o := 1) rfl (by kernel_rfl) rfl hD.hc (by show 1 < 11; omega) fun w1 hb1 hm1 hz1 => ⟨hd.trans hm1, ?_⟩
  refine HV_of (fun w' _ => f36 (off := 6) (by kernel_rfl) w') ?_
  refine stC (o := 6) rfl (by kernel_rfl) rfl hb1 (by show 6 < 11; omega) fun w2 hb2 hm2 hz2 => ⟨(hd.trans hm1).trans hm2, ?_⟩
  refine HV_of (fun w' _ => f36 (off := 4) (by kernel_rfl) w') ?_
  refine stC (o := 4) rfl (by kernel_rfl) rfl hb2 (by show 4 < 11; omega) fun w3 hb3 hm3 hz3 => ⟨((hd.trans hm1).trans hm2).trans hm3, ?_⟩
  rw [sq_n, vm_Rank_call_R22_eq]; unfold vm_Rank_call_R22_F
  exact hk _ w3 ⟨rfl, rfl, rfl, rfl, rfl, rfl⟩ (hD.put ((hm1.trans hm2).trans hm3) hb3) (((hd.trans hm1).trans hm2).trans hm3) (by omega)
end
end Go.Proofs.Ytmbgbffgkdcieaa.Tr
set_option linter.unusedVariables false
set_option linter.unusedSimpArgs false
set_option maxRecDepth 4000
namespace Go.X
open Go Go.RowKit
theorem RkAt.out2 {w w1 w' : World} {p : Nat} {s s' : Rk} {V : RkV} {r' q' : Value} {S : Nat → Prop} (h : RkAt w p s V) (hm0 : Mod S w w1) (hS : ∀ b, V.G p b → ¬ S b) (hr : reads w1 1 r' s'.last.row.length (i64s s'.last.row)) (hq : reads w1 1 q' s'.call.reqs.length (i64s s'.call.reqs))
    (hrn : ∀ k, r'.ownBlock = some k → V.r.ownBlock = some k ∨ w.heap.size ≤ k ∧ k < w1.heap.size) (hqn : ∀ k, q'.ownBlock = some k → V.q.ownBlock = some k ∨ w.heap.size ≤ k ∧ k < w1.heap.size)
    (hm : Mod (fun b => b = p) w1 w') (hb : w'.heap[p]? = some (.cells (rkC s' { V with r := r', q := q' }).toArray tR (0, 0)))
    (e1 : s'.pg = s.pg) (e2 : s'.stack = s.stack) (e3 : s'.vars = s.vars) (e4 : s'.cells = s.cells) (e5 : s'.bases = s.bases) : RkAt w' p s' { V with r := r', q := q' } ∧ ∀ b, ({ V with r := r', q := q' } : RkV).G p b → V.G p b ∨ w.heap.size ≤ b := by
  have hs := hm0.size
  have h1 := h.mod hm0 hS
  have hp : p < w.heap.size := h.old p (.inl (.inl rfl))
  have hF : ∀ b, V.R b → b ≠ p := fun b q z => h.dj.ro b q (.inl z)
  have hold : ∀ b, V.F p b → b < w.heap.size := fun b q => h.old b (.inl q)
  have hR : ∀ b, ({ V with r := r', q := q' } : RkV).R b → V.R b ∨ w.heap.size ≤ b ∧ b < w1.heap.size := fun b q => by
    rcases q with q | q | q | q | q
    · exact .inl (.inl q)
    · exact .inl (.inr (.inl q))
    · exact .inl (.inr (.inr (.inl q)))
    · exact (hrn b q).imp (fun z => .inr (.inr (.inr (.inl z)))) id
    · exact (hqn b q).imp (fun z => .inr (.inr (.inr (.inr z)))) id
  have hnp : ∀ b, V.R b ∨ w.heap.size ≤ b ∧ b < w1.heap.size → b ≠ p := fun b q => by
    rcases q with q | q
    · exact hF b q
    · omega
  refine ⟨⟨hb, ?_, ?_, ?_, ?_, ?_, ?_, ?_, ?_, ⟨h.dj.sp, h.dj.vp, h.dj.lp, h.dj.sv, h.dj.sl, h.dj.vl, fun b q z => ?_⟩, fun b q => ?_⟩, fun b q => ?_⟩
  · rw [e1]; exact reads_mod h1.code hm fun k _ q => hF k (.inl q)
  · rw [e1]; exact reads_mod h1.arrs hm fun k _ q => hF k (.inr (.inl q))
  · rw [e2]; exact owns_mod h1.stack hm fun k q z => h.dj.sp (z ▸ q)
  · rw [e3]; exact owns_mod h1.vars hm fun k q z => h.dj.vp (z ▸ q)
  · rw [e4]; exact owns_mod h1.cells hm fun k q z => h.dj.lp (z ▸ q)
  · rw [e5]; exact reads_mod h1.bases hm fun k _ q => hF k (.inr (.inr (.inl q)))
  · exact reads_mod hr hm fun k _ q => hnp k (hR k (.inr (.inr (.inr (.inl q)))))
  · exact reads_mod hq hm fun k _ q => hnp k (hR k (.inr (.inr (.inr (.inr q)))))
  · rcases hR b q with y | y
    · exact h.dj.ro b y z
    · have := hold b z; omega
  · refine Nat.lt_of_lt_of_le ?_ hm.size
    rcases q with q | q
    · have := hold b q; omega
    · rcases hR b q with y | y
      · have := h.old b (.inr y); omega
      · exact y.2
  · rcases q with q | q
    · exact .inl (.inl q)
    · rcases hR b q with y | y
      · exact .inl (.inr y)
      · exact .inr y.1
theorem owns_cut {w : World} {e : TypeId} {v : Value} {n k : Nat} {xs : List Value} (h : w.ownsRow 0 e 1 v (n + k) xs) (hk : 0 < k) : ∃ g cap, v = .slice (some ⟨g, 0, none⟩) (n + k) cap ∧ n + k ≤ cap ∧ w.ownsRow 0 e 1 (.slice (some ⟨g, 0, none⟩) n cap) n (xs.take n) ∧ reads w 1 (.slice (some ⟨g, n, none⟩) k (cap - n)) k (xs.drop n) := by
  have hr := reads_of_owns h
  obtain ⟨hl, q | ⟨g, cap, cur, rfl, hb, hg, hn, hm, hs, ht⟩⟩ := h
  · omega
  · refine ⟨g, cap, rfl, hn, ⟨by rw [List.length_take]; omega, .inr ⟨g, cap, cur, rfl, hb, hg, by omega, hm, hs, ?_⟩⟩, ⟨by rw [List.length_drop]; omega, some ⟨g, n, none⟩, cap - n, rfl, by omega, fun i u hi => ?_⟩⟩
    · rw [← ht, List.take_take]
      congr 1
      omega
    · rw [List.getElem?_drop] at hi
      obtain ⟨_, A, c, hs', _, hr'⟩ := hr
      cases hs'
      obtain ⟨a, ha, hc⟩ := hr' _ u hi
      cases ha
      refine ⟨_, rfl, ?_⟩
      rw [add_pl] at hc ⊢
      simpa using hc
theorem call_len {n : Int} (h : 0 ≤ argsV n) : (1 ≤ n % 32 ∧ n % 32 ≤ 5 → n / 32 % 32 = 5) ∧ (n % 32 = 6 ∨ n % 32 = 7 ∨ n % 32 = 13 ∨ n % 32 = 14 → n / 32 % 32 = 3) ∧ (n % 32 = 15 ∨ n % 32 = 20 ∨ n % 32 = 22 → n / 32 % 32 = 1) ∧ (n % 32 = 18 → n / 32 % 32 = 2) ∧ (n % 32 = 21 → n / 32 % 32 = 3) ∧ (n % 32 = 16 ∨ n % 32 = 17 ∨ n % 32 = 19 → n / 32 % 32 = 3) ∧ 1 ≤ n % 32 ∧ n % 32 ≤ 22 := by
  obtain ⟨m1, m2, m3, m4, m5⟩ := Rk.argsV_many h
  unfold argsV at h
  rw [if_neg (by omega)] at h
  have hc : isCall (n % 32) ≠ none := fun q => by rw [q] at h; dsimp only at h; omega
  have hh : ∀ a b, isCall (n % 32) = some (a, b) → a ≤ n % 1024 / 32 ∧ n % 1024 / 32 ≤ b := fun a b q => by
    rw [q] at h
    dsimp only at h
    split at h
    · omega
    · omega
  unfold isCall at hc hh
  repeat' split at hc
  all_goals first | (exact absurd rfl hc) | skip
  · have := hh 5 5 (by simp_all); omega
  · rename_i a b; have := hh 1 8 (by rw [if_neg a, if_pos b]); omega
  · rename_i a b c; have := hh 1 1 (by rw [if_neg a, if_neg b, if_pos c]); omega
  · rename_i a b c d; have := hh 2 2 (by rw [if_neg a, if_neg b, if_neg c, if_pos d]); omega
  · rename_i a b c d e; have := hh 3 3 (by rw [if_neg a, if_neg b, if_neg c, if_neg d, if_pos e]); omega
end Go.X
namespace Go.Proofs.Ytmbgbffgkdcieaa.Tr
open Go Go.X Go.RowKit Go.Proofs.Ytmbgbffgkdcieaa.XF Go.Proofs.Ytmbgbffgkdcieaa.XK
def EndQ (cb ab : Nat) (sl : Value) (l : List Int) (ρ : Sl) (w : World) (c' : Cl) (K : Sl → World → Prop) : Prop := ∀ ρ' w' q', SK ρ ρ' → CM cb ab sl l c' q' w' → Mod (fun b => b = cb) w w' → reads w' 1 q' c'.reqs.length (i64s c'.reqs) → (∀ k, sb q' k → w.heap.size ≤ k ∧ k < w'.heap.size) → K ρ' w'
section
variable {cb ab : Nat} {sl q : Value} {l : List Int} {c : Cl} {w : World} {K : Exit → Sl → World → Prop} {ρ : Sl}
theorem EndQ.of {c' : Cl} {K : Sl → World → Prop} (h : EndQ cb ab sl l ρ w c' K) (e : c'.reqs = []) : EndA cb ab sl l ρ w c' (.slice none 0 0) K := fun ρ' w' hs hc hm hz => h ρ' w' _ hs hc hm (by rw [e]; exact reads_nil _ _) (fun k q => by cases q)
theorem call_R10 (h : CM cb ab sl l c (.slice none 0 0) w) (hso : ∀ k, sb sl k → k < w.heap.size) (e4 : ρ 4 = .pointer (some ⟨cb, 0, none⟩)) (e6 : ρ 6 = .pointer (some ⟨ab, 0, none⟩)) (e7 : ρ 7 = numF ab) (hlen : l.length ≤ 1000) (hk : EndQ cb ab sl l ρ w { c with reqs := l } (K (.exit 0))) : sx fn_ Try.prog 138 vm_Rank_call_R10 K ρ w := by
  rw [vm_Rank_call_R10_eq]; unfold vm_Rank_call_R10_F
  have hcb : cb < w.heap.size := X.blk_lt h.hc
  have hab : ab < w.heap.size := X.blk_lt h.ha
  refine ldOne e6 vNs rfl h.ha ?_
  obtain ⟨A, cc, es, _⟩ := reads_cap h.hl
  rw [es, len_sl vNs, ← es]
  refine W_loop vm_Rank_call_L17_ok (fun ρ' w' => ∃ (k : Nat) (q' : Value), k ≤ l.length ∧ SK ρ ρ' ∧ CM cb ab sl l { c with reqs := l.take k } q' w' ∧ Mod (fun b => b = cb) w w' ∧ w'.ownsRow w.heap.size 3 1 q' k (i64s (l.take k)) ∧ ρ' 92 = .int .i64 k ∧ ρ' 91 = .int .i64 l.length) (fun ρ' _ => l.length - (intOf (ρ' 92)).toNat)
    ⟨0, .slice none 0 0, by omega, ⟨rfl, rfl, rfl, rfl, rfl, rfl⟩, h.put (Mod.refl _ _) (by exact h.hc), Mod.refl _ _, World.ownsRow_nil _ _ _ _, rfl, rfl⟩ ?_
  rintro ρ' w' ⟨k, q', hkl, hS, hC, hM, hO, e92, e91⟩
  rw [vm_Rank_call_L17_eq]; unfold vm_Rank_call_L17_F
  rw [e92, e91, BK_lss]
  have hms := hM.size
  have hown : ∀ {w2 : World} {v : Value} {n : Nat} {xs : List Value}, w2.ownsRow w.heap.size 3 1 v n xs → ∀ g, sb v g → w.heap.size ≤ g ∧ g < w2.heap.size := fun {w2 v n xs} ho g z => by
    rcases ho.2 with ⟨y, _⟩ | ⟨g', cap', cur', rfl, hb', hg', _⟩
    · rw [y] at z; cases z
    · cases z; exact ⟨hb', X.blk_lt hg'⟩
  by_cases hlt : k < l.length
  · rw [decide_eq_true (by omega)]
    refine condT ?_
    refine vm_Rank_call_R25_held (D := []) (fun _ => True) trivial ?_
    unfold vm_Rank_call_R25_H
    have hdn : Mod none_ w' { w' with drawn := w'.drawn + 1 } := (Mod.refl _ w').drawn _
    generalize ({ w' with drawn := w'.drawn + 1 } : World) = wd at *
    have hds := hdn.size
    have x4 : ρ' 4 = .pointer (some ⟨cb, 0, none⟩) := hS.e4.trans e4
    have x7 : ρ' 7 = numF ab := hS.e7.trans e7
    have hD := hC.calm hdn
    have hOd := owns_mod hO hdn fun _ _ => id
    have hrng : ∀ g, sb q' g → w.heap.size ≤ g := fun g z => (hown hOd g z).1
    simp only [sq_n, sq_x, sq_r, bk_n, bk_r, bk_x, rt_r, rt_n, rs_0, rs_t, pk_1, pk_2, up_at, reduceIte, Nat.reduceEqDiff, x4, x7]
    refine HV_of (fun w' _ => f36 (off := 8) (by kernel_rfl) w') ?_
    have ld8 : ∀ {w2 : World} {K : Value → World → Prop}, Mod none_ wd w2 → K q' w2 → VK Try.prog (Instr.loadAt 26 (.pointer (some ⟨cb, 8, none⟩))) w2 K := fun hm hK => ld1 vIs rfl (by rw [cell_blk (hm.blk hD.hc id)]; rfl) hK
    have et : i64s (l.take k) ++ [Value.int .i64 (l.getD k 0)] = i64s (l.take (k + 1)) := by
      have et : l.take (k + 1) = l.take k ++ [l.getD k 0] := by rw [List.take_add_one, getD_at hlt]; rfl
      rw [et]; simp [i64s]
    have app : ∀ {w2 : World} {bv : Nat} {K : Value → World → Prop}, Mod none_ wd w2 → w2.heap[bv]? = some (.cells #[.int .i64 (l.getD k 0)] 3 (0, 0)) → (∀ v w3, w3.ownsRow w.heap.size 3 1 v (k + 1) (i64s (l.take (k + 1))) → Mod (fun b => w.heap.size ≤ b) wd w3 → K v w3) → IK Try.prog .append #[26, 26] 26 [false, false] [q', .slice (some ⟨bv, 0, none⟩) 1 1] w2 K := fun {w2 bv K} hm hb hK => by
      have hz := hm.size
      refine ap_any eIs (owns_mod hOd hm fun _ _ => id) (reads_blk (size := 1) (n := 1) hb rfl) (by intro u hu; rw [List.mem_singleton.1 hu]; rfl) (by unfold maxLen; omega) (by omega) (by omega) fun v' w4 hown4 hm4 hv4 => ?_
      rw [show (#[Value.int .i64 (l.getD k 0)].toList) = [Value.int .i64 (l.getD k 0)] from rfl, et] at hown4
      exact hK v' w4 hown4 ((hm.mono fun _ _ z => z.elim).trans (hm4.mono fun b _ z => hrng b z.symm))
    have fin : ∀ {w3 : World} {v : Value} {K : Value → World → Prop}, w3.ownsRow w.heap.size 3 1 v (k + 1) (i64s (l.take (k + 1))) → Mod (fun b => w.heap.size ≤ b) wd w3 → (∀ w4, CM cb ab sl l { c with reqs := l.take (k + 1) } v w4 → Mod (fun b => b = cb) w w4 → w4.ownsRow w.heap.size 3 1 v (k + 1) (i64s (l.take (k + 1))) → K undef w4) → UK Try.prog (Instr.storeAt 26 (.pointer (some ⟨cb, 8, none⟩)) v) w3 K := fun {w3 v K} ho hm hK => by
      have h3 : CM cb ab sl l { c with reqs := l.take k } q' w3 := hD.mod hm (by omega) (by omega) fun g z y => by have := hso g z; omega
      refine stC (o := 8) rfl (by kernel_rfl) (owns_oc ho) h3.hc (by show 8 < 11; omega) fun w4 hb4 hm4 hz4 => ?_
      refine hK w4 (h3.put hm4 (by exact hb4)) (((hM.trans (hdn.mono fun _ _ z => z.elim)).then hm fun i hi z => by omega).trans hm4) (owns_mod ho hm4 fun g z y => ?_)
      have := (hown ho g z).1
      omega
    have nx : ∀ {w4 : World} {v : Value} (ρ4 : Sl), SK ρ' ρ4 → ρ4 91 = ρ' 91 → ρ4 92 = ρ' 92 → CM cb ab sl l { c with reqs := l.take (k + 1) } v w4 → Mod (fun b => b = cb) w w4 → w4.ownsRow w.heap.size 3 1 v (k + 1) (i64s (l.take (k + 1))) →
        sx fn_ Try.prog 138 vm_Rank_call_R26 (seqK (fun ρ'' w'' => (∃ (k : Nat) (q' : Value), k ≤ l.length ∧ SK ρ ρ'' ∧ CM cb ab sl l { c with reqs := l.take k } q' w'' ∧ Mod (fun b => b = cb) w w'' ∧ w''.ownsRow w.heap.size 3 1 q' k (i64s (l.take k)) ∧ ρ'' 92 = .int .i64 k ∧ ρ'' 91 = .int .i64 l.length) ∧ l.length - (intOf (ρ'' 92)).toNat < l.length - (intOf (.int .i64 (k : Int))).toNat) (blkK 8 (seqK (sx fn_ Try.prog 138 vm_Rank_call_R18 K) K))) ρ4 w4 := fun {w4 v} ρ4 s4 q91 q92 c4 m4 o4 => by
      rw [vm_Rank_call_R26_eq]; unfold vm_Rank_call_R26_F
      rw [q92, e92, BK_add, wrap_i (n := (k : Int) + 1) (by omega) (by omega)]
      have s5 := hS.trans s4
      refine ⟨⟨k + 1, v, by omega, ⟨s5.e0, s5.e4, s5.e5, s5.e6, s5.e7, s5.e48⟩, c4, m4, o4, rfl, q91.trans e91⟩, ?_⟩
      show l.length - (intOf (.int .i64 ((k : Int) + 1))).toNat < _
      simp only [intOf]
      omega
    refine ⟨?_, ?_⟩
    · refine ld8 (Mod.refl _ _) ⟨trivial, FnNum _, ?_⟩
      refine num_k hD.ha hD.hl hlt ⟨trivial, ?_⟩
      refine bs_k (cs := #[.int .i64 (l.getD k 0)]) (by kernel_rfl) fun w1 hb1 hm1 hz1 => ⟨trivial, ?_⟩
      refine app hm1 hb1 fun v w3 ho3 hm3 => ⟨trivial, ?_⟩
      refine HV_of (fun w' _ => f36 (off := 8) (by kernel_rfl) w') ?_
      refine fin ho3 hm3 fun w4 c4 m4 o4 => ⟨trivial, ?_⟩
      exact nx _ ⟨rfl, rfl, rfl, rfl, rfl, rfl⟩ rfl rfl c4 m4 o4
    · refine ⟨FnNum _, num_k hD.ha hD.hl hlt ⟨trivial, ?_, ?_⟩⟩
      · refine ld8 (Mod.refl _ _) ⟨trivial, ?_⟩
        refine bs_k (cs := #[.int .i64 (l.getD k 0)]) (by kernel_rfl) fun w1 hb1 hm1 hz1 => ⟨trivial, ?_⟩
        refine app hm1 hb1 fun v w3 ho3 hm3 => ⟨trivial, ?_⟩
        refine HV_of (fun w' _ => f36 (off := 8) (by kernel_rfl) w') ?_
        refine fin ho3 hm3 fun w4 c4 m4 o4 => ⟨trivial, ?_⟩
        exact nx _ ⟨rfl, rfl, rfl, rfl, rfl, rfl⟩ rfl rfl c4 m4 o4
      · refine bs_k (cs := #[.int .i64 (l.getD k 0)]) (by kernel_rfl) fun w1 hb1 hm1 hz1 => ⟨trivial, ?_⟩
        refine ld8 hm1 ⟨trivial, ?_⟩
        refine app hm1 hb1 fun v w3 ho3 hm3 => ⟨trivial, ?_⟩
        refine HV_of (fun w' _ => f36 (off := 8) (by kernel_rfl) w') ?_
        refine fin ho3 hm3 fun w4 c4 m4 o4 => ⟨trivial, ?_⟩
        exact nx _ ⟨rfl, rfl, rfl, rfl, rfl, rfl⟩ rfl rfl c4 m4 o4
  · rw [decide_eq_false (by omega)]
    refine condF ?_
    obtain rfl : k = l.length := by omega
    rw [sq_x, bk_x, sq_n, vm_Rank_call_R18_eq]; unfold vm_Rank_call_R18_F
    rw [List.take_length] at hC hO
    exact hk _ w' q' ⟨hS.e0, hS.e4, hS.e5, hS.e6, hS.e7, hS.e48⟩ hC hM (reads_of_owns hO) fun g z => hown hO g z
end
end Go.Proofs.Ytmbgbffgkdcieaa.Tr
