/- Several texts of this repo, one behind the other, without what is not used here. -/
import Derived.Lib.SliceRun
import Derived.Laws.OwnMore
import Derived.Laws.IdiomStrings
import Derived.Laws.BytesArg
import Derived.MapKept
import Derived.Laws.StructEq
import Derived.Test.YtbnbcimjapiicaaDoorProg
import Derived.Test.YtbnbcimjapiicaaDoorBN2
set_option linter.unusedVariables false
set_option linter.unusedSimpArgs false
namespace Go.X
open Go Go.RowKit
theorem bytes_inj {a b : ByteArray} (h : a.data.toList = b.data.toList) : a = b := by
  cases a; cases b
  simp only [Array.toList_inj] at h
  rw [h]
section
variable {P : Program} {w : World} {K : Value → World → Prop}
theorem VGtt (s : Sem Value) : VG P (.bool true) true s w K = VK P s w K := by rw [VG_b]; rfl
theorem VGtf (s : Sem Value) : VG P (.bool true) false s w K = K undef w := by rw [VG_b]; rfl
theorem VGft (s : Sem Value) : VG P (.bool false) true s w K = K undef w := by rw [VG_b]; rfl
theorem VGff (s : Sem Value) : VG P (.bool false) false s w K = VK P s w K := by rw [VG_b]; rfl
theorem UGtt (s : Sem Unit) : UG P (.bool true) true s w K = UK P s w K := by rw [UG_b]; rfl
theorem UGtf (s : Sem Unit) : UG P (.bool true) false s w K = K undef w := by rw [UG_b]; rfl
theorem UGft (s : Sem Unit) : UG P (.bool false) true s w K = K undef w := by rw [UG_b]; rfl
theorem UGff (s : Sem Unit) : UG P (.bool false) false s w K = UK P s w K := by rw [UG_b]; rfl
theorem MGtt (v : Value) : MG P (.bool true) true v w K = K v w := by rw [MG_b]; rfl
theorem MGtf (v : Value) : MG P (.bool true) false v w K = K undef w := by rw [MG_b]; rfl
theorem MGft (v : Value) : MG P (.bool false) true v w K = K undef w := by rw [MG_b]; rfl
theorem MGff (v : Value) : MG P (.bool false) false v w K = K v w := by rw [MG_b]; rfl
theorem NGtt (v : Value) : NG P (.bool true) true v w K = NK P v w K := by rw [NG_b]; rfl
theorem NGtf (v : Value) : NG P (.bool true) false v w K = K undef w := by rw [NG_b]; rfl
theorem NGft (v : Value) : NG P (.bool false) true v w K = K undef w := by rw [NG_b]; rfl
theorem NGff (v : Value) : NG P (.bool false) false v w K = NK P v w K := by rw [NG_b]; rfl
theorem PGtt (c a b : Value) : PG P (.bool true) true c a b w K = PK P c a b w K := by rw [PG_b]; rfl
theorem PGtf (c a b : Value) : PG P (.bool true) false c a b w K = K undef w := by rw [PG_b]; rfl
theorem PGft (c a b : Value) : PG P (.bool false) true c a b w K = K undef w := by rw [PG_b]; rfl
theorem PGff (c a b : Value) : PG P (.bool false) false c a b w K = PK P c a b w K := by rw [PG_b]; rfl
theorem BGtt (op : BinOp) (ty : TypeId) (x y : Operand) (a b : Value) : BG P (.bool true) true op ty x y a b w K = BK P op ty x y a b w K := by rw [BG_b]; rfl
theorem BGtf (op : BinOp) (ty : TypeId) (x y : Operand) (a b : Value) : BG P (.bool true) false op ty x y a b w K = K undef w := by rw [BG_b]; rfl
theorem BGft (op : BinOp) (ty : TypeId) (x y : Operand) (a b : Value) : BG P (.bool false) true op ty x y a b w K = K undef w := by rw [BG_b]; rfl
theorem BGff (op : BinOp) (ty : TypeId) (x y : Operand) (a b : Value) : BG P (.bool false) false op ty x y a b w K = BK P op ty x y a b w K := by rw [BG_b]; rfl
theorem CGtt (f : Value) (args : List Value) : CG P (.bool true) true f args w K = CK P f args w K := by rw [CG_b]; rfl
theorem CGtf (f : Value) (args : List Value) : CG P (.bool true) false f args w K = K undef w := by rw [CG_b]; rfl
theorem CGft (f : Value) (args : List Value) : CG P (.bool false) true f args w K = K undef w := by rw [CG_b]; rfl
theorem CGff (f : Value) (args : List Value) : CG P (.bool false) false f args w K = CK P f args w K := by rw [CG_b]; rfl
theorem IGtt (b : Builtin) (ts : Array TypeId) (ty : TypeId) (cs : List Bool) (args : List Value) : IG P (.bool true) true b ts ty cs args w K = IK P b ts ty cs args w K := by rw [IG_b]; rfl
theorem IGtf (b : Builtin) (ts : Array TypeId) (ty : TypeId) (cs : List Bool) (args : List Value) : IG P (.bool true) false b ts ty cs args w K = K undef w := by rw [IG_b]; rfl
theorem IGft (b : Builtin) (ts : Array TypeId) (ty : TypeId) (cs : List Bool) (args : List Value) : IG P (.bool false) true b ts ty cs args w K = K undef w := by rw [IG_b]; rfl
theorem IGff (b : Builtin) (ts : Array TypeId) (ty : TypeId) (cs : List Bool) (args : List Value) : IG P (.bool false) false b ts ty cs args w K = IK P b ts ty cs args w K := by rw [IG_b]; rfl
theorem PKt (a b : Value) : PK P (.bool true) a b w K = K a w := by rw [PK_bool]; rfl
theorem PKf (a b : Value) : PK P (.bool false) a b w K = K b w := by rw [PK_bool]; rfl
theorem CDt (A B : Prop) : CondK (.bool true) A B = A := by rw [CondK_bool]; rfl
theorem CDf (A B : Prop) : CondK (.bool false) A B = B := by rw [CondK_bool]; rfl
theorem NOTt : VK P (Op.unary .not (.bool true)) w K = K (.bool false) w := not_ok true
theorem NOTf : VK P (Op.unary .not (.bool false)) w K = K (.bool true) w := not_ok false
section
variable {k : IntKind} {a b : Int}
theorem EQt (h : a = b) (t : TypeId) (x y : Operand) (K : Value → World → Prop) : BK P .eql t x y (.int k a) (.int k b) w K = K (.bool true) w := by rw [BK_eql, h]; simp
theorem EQf (h : a ≠ b) (t : TypeId) (x y : Operand) (K : Value → World → Prop) : BK P .eql t x y (.int k a) (.int k b) w K = K (.bool false) w := by rw [BK_eql, beq_eq_false_iff_ne.2 h]
theorem NEt (h : a ≠ b) (t : TypeId) (x y : Operand) (K : Value → World → Prop) : BK P .neq t x y (.int k a) (.int k b) w K = K (.bool true) w := by rw [BK_neq, bne_iff_ne.2 h]
theorem NEf (h : a = b) (t : TypeId) (x y : Operand) (K : Value → World → Prop) : BK P .neq t x y (.int k a) (.int k b) w K = K (.bool false) w := by rw [BK_neq, h]; simp
theorem LTt (h : a < b) (t : TypeId) (x y : Operand) (K : Value → World → Prop) : BK P .lss t x y (.int k a) (.int k b) w K = K (.bool true) w := by rw [BK_lss, decide_eq_true h]
theorem LTf (h : b ≤ a) (t : TypeId) (x y : Operand) (K : Value → World → Prop) : BK P .lss t x y (.int k a) (.int k b) w K = K (.bool false) w := by rw [BK_lss, decide_eq_false (by omega)]
theorem GTt (h : b < a) (t : TypeId) (x y : Operand) (K : Value → World → Prop) : BK P .gtr t x y (.int k a) (.int k b) w K = K (.bool true) w := by rw [BK_gtr, decide_eq_true h]
theorem GTf (h : a ≤ b) (t : TypeId) (x y : Operand) (K : Value → World → Prop) : BK P .gtr t x y (.int k a) (.int k b) w K = K (.bool false) w := by rw [BK_gtr, decide_eq_false (by omega)]
theorem GEt (h : b ≤ a) (t : TypeId) (x y : Operand) (K : Value → World → Prop) : BK P .geq t x y (.int k a) (.int k b) w K = K (.bool true) w := by rw [BK_geq, decide_eq_true h]
theorem GEf (h : a < b) (t : TypeId) (x y : Operand) (K : Value → World → Prop) : BK P .geq t x y (.int k a) (.int k b) w K = K (.bool false) w := by rw [BK_geq, decide_eq_false (by omega)]
end
section
variable {a b : ByteArray}
theorem SEQt (h : a = b) (t : TypeId) (x y : Operand) (K : Value → World → Prop) : BK P .eql t x y (.string a) (.string b) w K = K (.bool true) w := by rw [BK_eqlS, h]; simp
theorem SEQf (h : a ≠ b) (t : TypeId) (x y : Operand) (K : Value → World → Prop) : BK P .eql t x y (.string a) (.string b) w K = K (.bool false) w := by
  rw [BK_eqlS, beq_eq_false_iff_ne.2]
  exact fun q => h (bytes_inj (by rw [← ByteArray.toList_eq, ← ByteArray.toList_eq]; exact q))
theorem SNEt (h : a ≠ b) (t : TypeId) (x y : Operand) (K : Value → World → Prop) : BK P .neq t x y (.string a) (.string b) w K = K (.bool true) w := by
  rw [BK_neqS, beq_eq_false_iff_ne.2]
  · rfl
  · exact fun q => h (bytes_inj (by rw [← ByteArray.toList_eq, ← ByteArray.toList_eq]; exact q))
theorem SNEf (h : a = b) (t : TypeId) (x y : Operand) (K : Value → World → Prop) : BK P .neq t x y (.string a) (.string b) w K = K (.bool false) w := by rw [BK_neqS, h]; simp
end
/-- A field that is read, its place known. -/
structure FO (P : Program) (w : World) (t : TypeId) (i off : Nat) (a : Addr) (t' : TypeId) (v : Value) : Prop where
  h1 : fieldOff P t i = some off
  h2 : ∀ K : Value → World → Prop, VK P (Instr.loadAt t' (.pointer (some (a.add off)))) w K = K v w
theorem FO.mk' {t t' : TypeId} {i off : Nat} {a : Addr} {v : Value} {d : TypeDesc} (h1 : fieldOff P t i = some off) (h2 : P.underlying t' = some d) (h3 : (match d with | .struct _ | .array _ _ => true | _ => false) = false) (h4 : w.cell? (a.add off) = some v) : FO P w t i off a t' v :=
  ⟨h1, fun K => VK_eq_of (run_ld1 h2 h3 h4)⟩
/-- Of a block. -/
theorem FO.blk {t t' ty : TypeId} {i off b : Nat} {fr : Nat × Nat} {cs : Array Value} {v : Value} {d : TypeDesc} (hb : w.heap[b]? = some (.cells cs ty fr)) (h1 : fieldOff P t i = some off) (h2 : P.underlying t' = some d) (h3 : (match d with | .struct _ | .array _ _ => true | _ => false) = false) (h4 : cs[off]? = some v) : FO P w t i off ⟨b, 0, none⟩ t' v :=
  FO.mk' h1 h2 h3 (by rw [add_pl, Nat.zero_add, cell_blk hb]; exact h4)
theorem FO.e {t t' : TypeId} {i off : Nat} {a : Addr} {v : Value} (h : FO P w t i off a t' v) (K : Value → Value → World → Prop) :
    (VK P (Instr.fieldAt t (.pointer (some a)) i) w fun x w => VK P (Instr.loadAt t' x) w (K x)) = K (.pointer (some (a.add off))) v w := by
  rw [fo h.h1, h.h2]
end
theorem least_of {p : Nat → Prop} : ∀ n, p n → ∃ m, p m ∧ ∀ k, p k → m ≤ k := by
  intro n
  induction n using Nat.strongRecOn with
  | ind n ih =>
    intro hn
    by_cases h : ∃ k, k < n ∧ p k
    · obtain ⟨k, hk, hp⟩ := h
      exact ih k hk hp
    · exact ⟨n, hn, fun k hk => Nat.le_of_not_lt fun q => h ⟨k, q, hk⟩⟩
open Classical in
theorem W_loopG {P : Program} {z : At} {n : Nat} {c : Code} {K : Exit → Sl → World → Prop} {ρ : Sl} {w : World} (hd : dstOk n c = true) (I : Nat → Sl → World → Prop) (m : Nat) (h0 : I m ρ w)
    (round : ∀ m ρ w, I m ρ w → sx z P n c (seqK (fun ρ' w' => ∃ m', m' < m ∧ I m' ρ' w') K) ρ w) : W z P n (.loop c) K ρ w := by
  intro a hl
  have hmin : ∀ {ρ w}, (∃ m, I m ρ w) → ∃ m, I m ρ w ∧ ∀ k, I k ρ w → m ≤ k := fun ⟨m, h⟩ => least_of m h
  let μ : Sl → World → Nat := fun ρ w => if h : ∃ m, I m ρ w then Classical.choose (hmin h) else 0
  let M : Act → World → Nat := fun a w => μ (fun i => a.tmps.getD i undef) w
  have hM : ∀ a ρ w, Lk z n a ρ → M a w = μ ρ w := by
    intro a ρ w hl
    have : (fun i => a.tmps.getD i undef) = ρ := funext hl.val
    show μ (fun i => a.tmps.getD i undef) w = μ ρ w
    rw [this]
  refine wpIn_loop (fun a w => ∃ ρ, Lk z n a ρ ∧ ∃ m, I m ρ w) M ⟨ρ, hl, m, h0⟩ ?_
  rintro a w ⟨ρ, hl, hI⟩
  obtain ⟨hs, hle⟩ := Classical.choose_spec (hmin hI)
  have hμ : μ ρ w = Classical.choose (hmin hI) := dif_pos hI
  refine wpIn_mono (sx_W c _ ρ w hd (round _ ρ w hs) a hl) ?_
  rintro e a' w' ⟨ρ', hl', hk⟩
  cases e with
  | normal =>
    obtain ⟨m', hlt, hI'⟩ := hk
    refine ⟨⟨ρ', hl', m', hI'⟩, ?_⟩
    rw [hM a' ρ' w' hl', hM a ρ w hl, hμ]
    have h' : ∃ m, I m ρ' w' := ⟨m', hI'⟩
    have : μ ρ' w' = Classical.choose (hmin h') := dif_pos h'
    rw [this]
    exact Nat.lt_of_le_of_lt ((Classical.choose_spec (hmin h')).2 _ hI') hlt
  | exit id => exact ⟨ρ', hl', hk⟩
  | goto l => exact ⟨ρ', hl', hk⟩
  | ret => exact ⟨ρ', hl', hk⟩
  | panic c => exact ⟨ρ', hl', hk⟩
  | outgrown => exact ⟨ρ', hl', hk⟩
end Go.X
set_option linter.unusedVariables false
set_option linter.unusedSimpArgs false
set_option maxRecDepth 4000
namespace Go.X
open Go Go.RowKit
/-- An element's place and its cells, in every world of a class. -/
theorem YHixA {P : Program} {S : World → Prop} {w0 : World} {t e : TypeId} {d : TypeDesc} {sz : Nat} (hu : P.underlying t = some (.slice e)) (hc : P.cellsOf e = sz + 1) (hue : P.underlying e = some d) (hd : (match d with | .struct _ | .array _ _ => true | _ => false) = true) {v : Value} {n : Nat} {xs : List Value} (hw0 : S w0) (h : ∀ w, S w → reads w (sz + 1) v n xs)
    {i : Nat} (h1 : i < n) {K : Value → Value → Prop} (hk : ∀ x, K x (.agg ((xs.drop (i * (sz + 1))).take (sz + 1)).toArray)) : HK P S (do pure (Next.value (← Instr.indexAt t v (.int .i64 (i : Int))))) fun x => HK P S (do pure (Next.value (← Instr.loadAt e x))) (K x) := by
  obtain ⟨hlen, A, c, rfl, hnc, hA⟩ := h w0 hw0
  have hj : i * (sz + 1) < xs.length := by rw [hlen]; exact Nat.mul_lt_mul_of_pos_right h1 (by omega)
  obtain ⟨a, rfl, _⟩ := hA (i * (sz + 1)) _ (List.getElem?_eq_getElem hj)
  refine HV_of (fun w _ => run_ixa hu hc (by omega) (by omega) w) ?_
  refine HV_of (fun w hw => ?_) (hk _)
  have hx := h w hw
  obtain ⟨_, A', c', hA', _, hcell⟩ := hx
  cases hA'
  have hsz : ((xs.drop (i * (sz + 1))).take (sz + 1)).length = sz + 1 := by
    rw [List.length_take, List.length_drop, hlen]
    have : (i + 1) * (sz + 1) ≤ n * (sz + 1) := Nat.mul_le_mul_right _ h1
    rw [Nat.add_mul, Nat.one_mul] at this
    omega
  obtain ⟨z, hz, hzs⟩ := info_of hc
  refine run_ldA hue hd (by rw [hz, hsz, ← hzs]; rfl) fun j u hu' => ?_
  have hj2 : j < sz + 1 := by
    have := (List.getElem?_eq_some_iff.1 hu').1
    omega
  rw [List.getElem?_take_of_lt hj2, List.getElem?_drop] at hu'
  obtain ⟨a', ha', hcell'⟩ := hcell _ _ hu'
  cases ha'
  rw [Int.toNat_natCast, add_add]
  exact hcell'
end Go.X
namespace Go.Proofs.YtbnbcimjapiicaaDoor.Tr
open Go Go.X Go.RowKit Go.Proofs.YtbnbcimjapiicaaDoor.XC Go.Proofs.YtbnbcimjapiicaaDoor.XK
theorem ex_fo {w : World} {b : Nat} {e : Ex} {ty : TypeId} {fr : Nat × Nat} (hb : w.heap[b]? = some (.cells e.cells.toArray ty fr)) : FO Tryd.prog w 60 0 0 ⟨b, 0, none⟩ 5 (.int .u8 e.op) ∧ FO Tryd.prog w 60 1 1 ⟨b, 0, none⟩ 2 (.int .i64 e.num) ∧ FO Tryd.prog w 60 2 2 ⟨b, 0, none⟩ 9 (.string e.name) ∧
    FO Tryd.prog w 60 3 3 ⟨b, 0, none⟩ 58 e.s ∧ FO Tryd.prog w 60 4 4 ⟨b, 0, none⟩ 3 (.int .i64 e.line) ∧ FO Tryd.prog w 60 5 5 ⟨b, 0, none⟩ 3 (.int .i64 e.col) :=
  ⟨FO.blk hb (by kernel_rfl) uU8 rfl rfl, FO.blk hb (by kernel_rfl) uI64 rfl rfl, FO.blk hb (by kernel_rfl) uS rfl rfl, FO.blk hb (by kernel_rfl) uExs rfl rfl, FO.blk hb (by kernel_rfl) uI rfl rfl, FO.blk hb (by kernel_rfl) uI rfl rfl⟩
theorem st_fo {w : World} {b : Nat} {e : St} {ty : TypeId} {fr : Nat × Nat} (hb : w.heap[b]? = some (.cells e.cells.toArray ty fr)) : FO Tryd.prog w 62 0 0 ⟨b, 0, none⟩ 5 (.int .u8 e.op) ∧ FO Tryd.prog w 62 1 1 ⟨b, 0, none⟩ 5 (.int .u8 e.kind) ∧ FO Tryd.prog w 62 2 2 ⟨b, 0, none⟩ 5 (.int .u8 e.red) ∧
    FO Tryd.prog w 62 3 3 ⟨b, 0, none⟩ 9 (.string e.name) ∧ FO Tryd.prog w 62 4 4 ⟨b, 0, none⟩ 3 (.int .i64 e.turns) ∧ FO Tryd.prog w 62 5 5 ⟨b, 0, none⟩ 58 e.es ∧ FO Tryd.prog w 62 6 6 ⟨b, 0, none⟩ 23 e.bs ∧ FO Tryd.prog w 62 7 7 ⟨b, 0, none⟩ 23 e.ls ∧
    FO Tryd.prog w 62 8 8 ⟨b, 0, none⟩ 3 (.int .i64 e.line) ∧ FO Tryd.prog w 62 9 9 ⟨b, 0, none⟩ 3 (.int .i64 e.col) :=
  ⟨FO.blk hb (by kernel_rfl) uU8 rfl rfl, FO.blk hb (by kernel_rfl) uU8 rfl rfl, FO.blk hb (by kernel_rfl) uU8 rfl rfl, FO.blk hb (by kernel_rfl) uS rfl rfl, FO.blk hb (by kernel_rfl) uI rfl rfl, FO.blk hb (by kernel_rfl) uExs rfl rfl, FO.blk hb (by kernel_rfl) uSts rfl rfl, FO.blk hb (by kernel_rfl) uSts rfl rfl, FO.blk hb (by kernel_rfl) uI rfl rfl, FO.blk hb (by kernel_rfl) uI rfl rfl⟩
end Go.Proofs.YtbnbcimjapiicaaDoor.Tr
set_option linter.unusedVariables false
set_option linter.unusedSimpArgs false
set_option maxRecDepth 4000
namespace Go.X
open Go Go.RowKit
theorem run_append_none {P : Program} (w : World) (base : Nat) (t ty e : TypeId) (i : TypeInfo) (size c2 : Nat) (ht : P.underlying t = some (.slice e)) (hi : P.info? e = some i) (v : Value) (n : Nat) (xs : List Value) (hown : w.ownsRow base e size v n xs) :
    (Builtin.append_ #[t, t] ty #[v, .slice none 0 c2]).run P w = .ok v w := by
  rcases hown.2 with ⟨rfl, rfl⟩ | ⟨g, cap, cur, rfl, _, _, hnc, _⟩
  · simp [Builtin.append_, run_underlying ht, sizeOf, typeInfo, hi, Builtin.lenOf, Builtin.firstCells]
  · simp [Builtin.append_, run_underlying ht, sizeOf, typeInfo, hi, Builtin.lenOf, Builtin.firstCells, hnc, storeCells]
/-- Elements of any slice, behind one's own. -/
theorem ap_any {P : Program} {w : World} {K : Value → World → Prop} {t ty e : TypeId} {size bytes base : Nat} (hE : elemOk P t e size bytes = true) {v : Value} {n : Nat} {xs : List Value} (hown : w.ownsRow base e size v n xs) {v2 : Value} {m : Nat} {news : List Value} (hr : reads w size v2 m news) (h1 : ∀ u ∈ news, u.oneCell' = true)
    (h63 : n + m ≤ maxLen) (hbytes : (n + m) * bytes ≤ 140737488355328) (hbase : base ≤ w.heap.size)
    (hk : ∀ v' w', w'.ownsRow base e size v' (n + m) (xs ++ news) → Mod (fun k => some k = v.ownBlock) w w' → (v'.ownBlock = v.ownBlock ∨ v'.ownBlock = some w.heap.size) → K v' w') : IK P .append #[t, t] ty [false, false] [v, v2] w K := by
  have hE' := hE
  unfold elemOk at hE
  split at hE
  · rename_i e' i hu hi
    simp only [Bool.and_eq_true, beq_iff_eq] at hE
    obtain ⟨⟨⟨⟨rfl, hz⟩, hs⟩, hb⟩, hp⟩ := hE
    split at hz
    · rename_i z hzz
      have hz : z.cells.size = size := by simpa using hz
      have hpos : 0 < size := Nat.le_of_ble_eq_true hp
      obtain ⟨hl, A, c, rfl, _, hrd⟩ := hr
      cases A with
      | none =>
        have h0 : news = [] := by
          rcases Nat.eq_zero_or_pos news.length with q | q
          · exact List.length_eq_zero_iff.1 q
          · obtain ⟨a, ha, _⟩ := hrd 0 _ (List.getElem?_eq_getElem q)
            cases ha
        subst h0
        have hm0 : m = 0 := by
          rcases Nat.eq_zero_or_pos m with q | q
          · exact q
          · have := Nat.mul_pos q hpos; simp at hl; omega
        subst hm0
        refine IK_of (s := Builtin.append_ #[t, t] ty #[v, .slice none 0 c]) rfl (run_append_none w base t ty _ i size c hu hi v n xs hown) (hk v w (by simpa using hown) (Mod.refl _ _) (.inl rfl))
      | some a =>
        obtain ⟨v', w', hrun, h2, h3, h4, h5⟩ := run_append_own_at (P := P) w base t ty _ i z size bytes hu hi hzz hs hb hz hpos v n xs hown a m c news hl (fun j u hj => by obtain ⟨a', ha, hc⟩ := hrd j u hj; cases ha; exact hc) h1 h63 hbytes hbase
        exact IK_of (s := Builtin.append_ #[t, t] ty #[v, .slice (some a) m c]) rfl hrun (hk v' w' h2 (Mod.ofGrown h3) h5)
    · cases hz
  · cases hE
/-- A slice's part. -/
theorem cut_lh {P : Program} {w : World} {K : Value → World → Prop} {t e : TypeId} {sz : Nat} (hu : P.underlying t = some (.slice e)) (hc : P.cellsOf e = sz + 1) {v : Value} {n i j : Nat} {xs : List Value} (h : reads w (sz + 1) v n xs) (hij : i ≤ j) (hj : j ≤ n)
    (hk : ∀ v', reads w (sz + 1) v' (j - i) ((xs.take (j * (sz + 1))).drop (i * (sz + 1))) → K v' w) : VK P (Instr.sliceAt t v (some (.int .i64 (i : Int))) (some (.int .i64 (j : Int))) none) w K := by
  obtain ⟨hl, A, c, rfl, hnc, hr⟩ := h
  obtain ⟨z, hz, hzs⟩ := info_of hc
  have he : P.elem t = e := by simp [Program.elem, hu]
  have hrun : (Instr.sliceAt t (.slice A n c) (some (.int .i64 (i : Int))) (some (.int .i64 (j : Int))) none).run P w = .ok (sliced A i j c (sz + 1)) w := by
    rw [run_sliceAt_slice (h := elem_of hu), run_slice_lh w t A n c (elem_of hu) .i64 .i64 _ _ (by omega) (by omega) (by omega), he]
    simp [sizeOf, typeInfo, hz, hzs]
  have hmul : j * (sz + 1) ≤ n * (sz + 1) := Nat.mul_le_mul_right _ hj
  refine VK_of hrun (hk _ ⟨?_, ?_⟩)
  · rw [List.length_drop, List.length_take, hl, Nat.min_eq_left hmul, ← Nat.sub_mul]
  · refine ⟨_, _, rfl, by omega, fun k u hku => ?_⟩
    rw [List.getElem?_drop] at hku
    have hlt : i * (sz + 1) + k < j * (sz + 1) := by
      have := (List.getElem?_eq_some_iff.1 hku).1
      rw [List.length_take] at this
      omega
    rw [List.getElem?_take_of_lt hlt] at hku
    obtain ⟨a, rfl, hcell⟩ := hr _ u hku
    by_cases hci : c = i
    · have : i < j := Nat.lt_of_mul_lt_mul_right (a := sz + 1) (by omega)
      omega
    · refine ⟨a.add (i * (sz + 1)), by simp [sliced, hci], ?_⟩
      rw [add_add]
      exact hcell
def byteV (c : UInt8) : Value := .int .u8 (c.toNat : Int)
/-- A text out of bytes. -/
theorem str_of {P : Program} {w : World} {K : Value → World → Prop} {src dst e : TypeId} (hs : P.underlying src = some (.slice e)) (he : P.underlying e = some (.int .u8)) (hd : P.underlying dst = some .string) {v : Value} {n : Nat} {b : List UInt8} (h : reads w 1 v n (b.map byteV)) (hk : K (.string ⟨b.toArray⟩) w) : VK P (convert src dst v) w K := by
  obtain ⟨hl, A, c, rfl, _, hr⟩ := h
  have hn : n = b.length := by simpa using hl.symm
  subst hn
  cases A with
  | none =>
    have h0 : b = [] := by
      cases b with
      | nil => rfl
      | cons x r => obtain ⟨a, ha, _⟩ := hr 0 (byteV x) rfl; cases ha
    subst h0
    exact VK_of (run_convert_bytes_nil w src e hs he _ _ dst hd) hk
  | some a =>
    refine VK_of (run_convert_bytes_back w src dst e a c b hs he hd fun j hj => ?_) hk
    obtain ⟨a', ha, hcell⟩ := hr j (byteV b[j]) (by rw [List.getElem?_map, List.getElem?_eq_getElem hj]; rfl)
    cases ha
    exact hcell
/-- A struct's field, stored. -/
theorem fst_k {P : Program} {w : World} {K : Value → Value → World → Prop} {t t' ty : TypeId} {i off b : Nat} {cs cs' : Array Value} {v : Value} (h1 : fieldOff P t i = some off) (hc1 : P.cellsOf t' = 1) (hv : v.oneCell' = true) (hb : w.heap[b]? = some (.cells cs ty (0, 0))) (ho : off < cs.size) (hcs : cs.setIfInBounds off v = cs')
    (hk : ∀ x w', w'.heap[b]? = some (.cells cs' ty (0, 0)) → Mod (fun j => j = b) w w' → w'.heap.size = w.heap.size → K x undef w') : VK P (Instr.fieldAt t (.pointer (some ⟨b, 0, none⟩)) i) w fun x w => UK P (Instr.storeAt t' x v) w (K x) := by
  rw [fo h1, add_pl, Nat.zero_add]
  exact stC rfl hc1 hv hb ho fun w' h2 h3 h4 => hk _ _ (hcs ▸ h2) h3 h4
/-- A new struct's own variable, made out of a literal or not. -/
theorem Mod.fresh {w w' w'' : World} {b : Nat} (h : Mod none_ w w') (hm : Mod (fun i => i = b) w' w'') (hb : w.heap.size ≤ b) : Mod none_ w w'' := h.then hm fun i hi q => by omega
end Go.X
set_option linter.unusedVariables false
set_option linter.unusedSimpArgs false
set_option maxRecDepth 4000
namespace Go.Proofs.YtbnbcimjapiicaaDoor.Tr
open Go Go.X Go.RowKit Go.Proofs.YtbnbcimjapiicaaDoor.XC Go.Proofs.YtbnbcimjapiicaaDoor.XK
theorem zPr : (Tryd.prog.info? 25).bind (·.zero) = some (.agg #[.slice none 0 0, .slice none 0 0]) := by kernel_rfl
end Go.Proofs.YtbnbcimjapiicaaDoor.Tr
set_option linter.unusedVariables false
set_option linter.unusedSimpArgs false
namespace Go.X
open Go Go.RowKit
structure Ent (κ : Type) where
  k : κ
  v : Value
  b : Nat
section
variable {κ : Type} [DecidableEq κ]
def Ent.enc (enc : κ → Value) (e : Ent κ) : MapEntry := { key := enc e.k, val := e.v, born := e.b }
/-- The first entry of a key, and its place. -/
def findE (k : κ) : List (Ent κ) → Nat → Option (Nat × Value)
  | [], _ => none
  | e :: r, i => if k = e.k then some (i, e.v) else findE k r (i + 1)
/-- What a key type must be for its maps to be read so. -/
structure KeyT (P : Program) (kt : TypeId) (enc : κ → Value) : Prop where
  find : ∀ (k : κ) (l : List (Ent κ)) (w : World), (Instr.findKey kt (enc k) (l.map (Ent.enc enc))).run P w = .ok (findE k l 0) w
  check : ∀ (e : Bool) (k : κ) (w : World), (Instr.checkKey e 10000 kt (enc k)).run P w = .ok () w
  bits : ∀ k : κ, Instr.sameBits 10000 (enc k) (enc k) = true
  inj : ∀ a b : κ, enc a = enc b → a = b
variable {P : Program} {kt : TypeId} {enc : κ → Value}
/-- A map's block. -/
def IsMap (enc : κ → Value) (w : World) (b : Nat) (l : List (Ent κ)) (clock : Nat) : Prop := w.heap[b]? = some (.map (l.map (Ent.enc enc)).toArray clock)
omit [DecidableEq κ] in
theorem IsMap.mod {S : Nat → Prop} {w w' : World} {b : Nat} {l : List (Ent κ)} {c : Nat} (h : IsMap enc w b l c) (hm : Mod S w w') (hS : ¬ S b) : IsMap enc w' b l c := hm.blk h hS
variable (T : KeyT P kt enc) {t e : TypeId} (ht : P.underlying t = some (.map kt e))
include T ht
theorem run_look {w : World} {b : Nat} {l : List (Ent κ)} {c : Nat} (h : IsMap enc w b l c) {z : Value} (hz : (P.info? e).bind (·.zero) = some z) (k : κ) (ok : Bool) :
    (Instr.lookup t (.map (some b)) (enc k) ok).run P w = .ok (match findE k l 0 with | some (_, v) => if ok then .tuple #[v, .bool true] else v | none => if ok then .tuple #[z, .bool false] else z) w := by
  obtain ⟨i, hi, hzz⟩ := Option.bind_eq_some_iff.1 hz
  have hg : (getObj b).run P w = .ok (.map (l.map (Ent.enc enc)).toArray c) w := MapKept.run_getObj_map h
  unfold Instr.lookup
  simp only [Sem.run_bind, run_underlying ht, Result.andThen_ok, hg, Sem.run_pure, T.check, List.toList_toArray, T.find]
  cases findE k l 0 with
  | none => simp [zeroValue, typeInfo, hi, hzz, Sem.run_bind]
  | some p => simp
theorem run_update {w : World} {b : Nat} {l : List (Ent κ)} {c : Nat} (h : IsMap enc w b l c) (k : κ) (v : Value) :
    (Instr.mapUpdate t (.map (some b)) (enc k) v).run P w = .ok () (match findE k l 0 with
      | some (i, _) => setB w b (.map ((l.map (Ent.enc enc)).toArray.modify i fun e => { e with key := enc k, val := v }) c)
      | none => setB w b (.map ((l.map (Ent.enc enc)).toArray.push { key := enc k, val := v, born := c }) (c + 1))) := by
  have hg : (getObj b).run P w = .ok (.map (l.map (Ent.enc enc)).toArray c) w := MapKept.run_getObj_map h
  have hs : ∀ o, (setObj b o).run P w = .ok () (setB w b o) := fun o => MapKept.run_setObj_map o h
  unfold Instr.mapUpdate
  simp only [Sem.run_bind, run_underlying ht, Result.andThen_ok, hg, Sem.run_pure, T.check, List.toList_toArray, T.find]
  cases hf : findE k l 0 with
  | none => simp only [hs]
  | some p =>
    obtain ⟨i, u⟩ := p
    have hk : ∃ e, l[i]? = some e ∧ e.k = k := by
      have gen : ∀ (l : List (Ent κ)) (n : Nat), findE k l n = some (i, u) → ∃ e, n ≤ i ∧ l[i - n]? = some e ∧ e.k = k := by
        intro l
        induction l with
        | nil => intro n h; simp [findE] at h
        | cons e r ih =>
          intro n h
          unfold findE at h
          split at h
          · rename_i hk
            cases h
            exact ⟨e, Nat.le_refl _, by simp, hk.symm⟩
          · obtain ⟨e', h1, h2, h3⟩ := ih (n + 1) h
            refine ⟨e', by omega, ?_, h3⟩
            rw [show i - n = (i - (n + 1)) + 1 by omega]
            simpa using h2
      obtain ⟨e, _, h2, h3⟩ := gen l 0 hf
      exact ⟨e, by simpa using h2, h3⟩
    obtain ⟨e0, he0, rfl⟩ := hk
    have : (l.map (Ent.enc enc)).toArray[i]? = some (e0.enc enc) := by simp [he0]
    simp only [this, Option.map_some, Option.getD_some, Ent.enc, Instr.keyThatStays, T.bits, if_true, Sem.run_bind, Sem.run_pure, Result.andThen_ok, hs]
omit [DecidableEq κ] T ht in
theorem modify_ents (l : List (Ent κ)) (i : Nat) (f : MapEntry → MapEntry) (g : Ent κ → Ent κ) (h : ∀ e, l[i]? = some e → f (e.enc enc) = (g e).enc enc) : (l.map (Ent.enc enc)).toArray.modify i f = ((l.modify i g).map (Ent.enc enc)).toArray := by
  apply Array.ext_getElem?
  intro j
  rw [Array.getElem?_modify]
  simp only [List.getElem?_toArray, List.getElem?_map, List.getElem?_modify]
  by_cases e : i = j
  · subst e
    simp only [if_true]
    cases hl : l[i]? with
    | none => rfl
    | some x => simp [h x hl]
  · simp [e]
omit T ht in
theorem findE_at {k : κ} {l : List (Ent κ)} {i : Nat} {u : Value} (h : findE k l 0 = some (i, u)) : ∃ e, l[i]? = some e ∧ e.k = k ∧ e.v = u := by
  have gen : ∀ (l : List (Ent κ)) (n : Nat), findE k l n = some (i, u) → ∃ e, n ≤ i ∧ l[i - n]? = some e ∧ e.k = k ∧ e.v = u := by
    intro l
    induction l with
    | nil => intro n h; simp [findE] at h
    | cons e r ih =>
      intro n h
      unfold findE at h
      split at h
      · rename_i hk
        cases h
        exact ⟨e, Nat.le_refl _, by simp, hk.symm, rfl⟩
      · obtain ⟨e', h1, h2, h3⟩ := ih (n + 1) h
        refine ⟨e', by omega, ?_, h3⟩
        rw [show i - n = (i - (n + 1)) + 1 by omega]
        simpa using h2
  obtain ⟨e, _, h2, h3⟩ := gen l 0 h
  exact ⟨e, by simpa using h2, h3⟩
omit T ht in
/-- The entries behind a store. -/
def putE (k : κ) (v : Value) (c : Nat) (l : List (Ent κ)) : List (Ent κ) :=
  match findE k l 0 with
  | some (i, _) => l.modify i fun e => ⟨e.k, v, e.b⟩
  | none => l ++ [⟨k, v, c⟩]
def clkE (k : κ) (c : Nat) (l : List (Ent κ)) : Nat := if (findE k l 0).isSome then c else c + 1
theorem run_put {w : World} {b : Nat} {l : List (Ent κ)} {c : Nat} (h : IsMap enc w b l c) (k : κ) (v : Value) :
    ∃ w', (Instr.mapUpdate t (.map (some b)) (enc k) v).run P w = .ok () w' ∧ IsMap enc w' b (putE k v c l) (clkE k c l) ∧ Mod (fun i => i = b) w w' := by
  have hr := run_update T ht h k v
  unfold putE clkE
  cases hf : findE k l 0 with
  | none =>
    rw [hf] at hr
    refine ⟨_, hr, ?_, (Mod.refl _ w).set _ (fun _ => rfl)⟩
    unfold IsMap
    rw [setB_new _ _ _ (X.blk_lt h)]
    simp [Ent.enc]
  | some p =>
    obtain ⟨i, u⟩ := p
    rw [hf] at hr
    refine ⟨_, hr, ?_, (Mod.refl _ w).set _ (fun _ => rfl)⟩
    unfold IsMap
    obtain ⟨e0, he0, hk0, _⟩ := findE_at hf
    rw [setB_new _ _ _ (X.blk_lt h), modify_ents l i _ (fun e => ⟨e.k, v, e.b⟩) (fun e he => by rw [he0] at he; cases he; rw [← hk0]; rfl)]
    rfl
omit [DecidableEq κ] T ht in
omit [DecidableEq κ] T ht in
theorem make_ok (t : TypeId) {w : World} {K : Value → World → Prop} (hk : ∀ w', IsMap enc w' w.heap.size [] 0 → Mod none_ w w' → w'.heap.size = w.heap.size + 1 → K (.map (some w.heap.size)) w') : VK P (Instr.makeMap t none) w K := by
  have hr : (Instr.makeMap t none).run P w = .ok (.map (some w.heap.size)) (w.alloc (.map #[] 0)) := by
    simp [Instr.makeMap, Sem.run_bind]
  exact VK_of hr (new_k w _ hk)
end
end Go.X
set_option linter.unusedVariables false
set_option maxRecDepth 100000
namespace Go.Proofs.YtbnbcimjapiicaaDoor.XG
open Go Go.X
/-- dispatcher/scope.New -/
noncomputable def scope_New_b : Code := (Tryd.f13.body).getD .skip
noncomputable def scope_New_L0 : Code := cAt [1, 1, 1, 0, 1, 0, 0] scope_New_b
noncomputable def scope_New_R1 : Code := cAt [1, 1, 1, 1] scope_New_b
noncomputable def scope_New_R2 : Code := cAt [1, 1, 1, 0, 1, 0, 0, 1, 1, 0, 0, 1, 1, 1, 0, 0] scope_New_b
noncomputable def scope_New_R3 : Code := cAt [1, 1, 1, 0, 1, 0, 0, 1, 1, 0, 0, 1, 1, 1, 0, 1] scope_New_b
noncomputable def scope_New_R4 : Code := cAt [1, 1, 1, 0, 1, 0, 0, 1, 1, 1] scope_New_b
noncomputable def scope_New_R5 : Code := cAt [1, 1, 1, 1, 0, 1, 1, 0, 0] scope_New_b
noncomputable def scope_New_R6 : Code := cAt [1, 1, 1, 1, 0, 1, 1, 0, 1] scope_New_b
noncomputable def scope_New_R7 : Code := cAt [1, 1, 1, 1, 1] scope_New_b
noncomputable def scope_New_L0_F (z : At) (K : Exit → Sl → World → Prop) (ρ : Sl) (w : World) : Prop :=
  BK Tryd.prog BinOp.lss 3 (Operand.tmp 19) (Operand.tmp 18) (ρ 19) (ρ 18) w fun x20 w => CondK x20 (VK Tryd.prog (Instr.indexAt 22 (ρ 17) (ρ 19)) w fun x21 w => VK Tryd.prog (Instr.loadAt 40 x21) w fun x22 w => VK Tryd.prog (Instr.alloc 40 true (.tuple #[])) w fun x6 w => UK Tryd.prog (Instr.storeAt 40 x6 x22) w fun _ w => VK Tryd.prog (Instr.loadAt 40 x6) w fun x24 w => CK Tryd.prog (Value.func (Fn.func 37) #[] #[]) [(ρ 4), x24] w fun x25 w => BK Tryd.prog BinOp.neq 28 (Operand.tmp 26) (Operand.const (Value.int IntKind.i64 0)) x25 (Value.int IntKind.i64 0) w fun x27 w => CondK x27 (W z Tryd.prog 45 scope_New_R2 (seqK (sx z Tryd.prog 45 scope_New_R3 (blkK 1 (seqK (sx z Tryd.prog 45 scope_New_R4 K) K))) (blkK 1 (seqK (sx z Tryd.prog 45 scope_New_R4 K) K))) (up (up (up (up (up (up (up (up (up (up ρ 20 x20) 21 x21) 22 x22) 6 x6) 23 (ρ 4)) 24 x24) 25 x25) 7 x25) 26 x25) 27 x27) w) (BK Tryd.prog BinOp.add 3 (Operand.tmp 19) (Operand.const (Value.int IntKind.i64 1)) (ρ 19) (Value.int IntKind.i64 1) w fun x34 w => K Exit.normal (up (up (up (up (up (up (up (up (up (up (up (up ρ 20 x20) 21 x21) 22 x22) 6 x6) 23 (ρ 4)) 24 x24) 25 x25) 7 x25) 26 x25) 27 x27) 34 x34) 19 x34) w)) (K (Exit.exit 0) (up ρ 20 x20) w)
theorem scope_New_L0_eq (z : At) (K : Exit → Sl → World → Prop) (ρ : Sl) (w : World) : sx z Tryd.prog 45 scope_New_L0 K ρ w = scope_New_L0_F z K ρ w := by kernel_rfl
theorem scope_New_L0_ok : dstOk 45 scope_New_L0 = true := by kernel_rfl
noncomputable def scope_New_R1_F (z : At) (K : Exit → Sl → World → Prop) (ρ : Sl) (w : World) : Prop :=
  VK Tryd.prog (Instr.fieldAt 25 (ρ 1) 1) w fun x36 w => VK Tryd.prog (Instr.loadAt 23 x36) w fun x37 w => CK Tryd.prog (Value.func (Fn.func 38) #[] #[]) [(ρ 4), x37] w fun x38 w => VK Tryd.prog (Instr.alloc 30 true (.tuple #[])) w fun x8 w => UK Tryd.prog (Instr.storeAt 30 x8 x38) w fun _ w => VK Tryd.prog (Instr.fieldAt 30 x8 0) w fun x39 w => VK Tryd.prog (Instr.loadAt 28 x39) w fun x40 w => BK Tryd.prog BinOp.neq 28 (Operand.tmp 40) (Operand.const (Value.int IntKind.i64 0)) x40 (Value.int IntKind.i64 0) w fun x41 w => CondK x41 (W z Tryd.prog 45 scope_New_R5 (seqK (sx z Tryd.prog 45 scope_New_R6 (seqK (sx z Tryd.prog 45 scope_New_R7 K) K)) (seqK (sx z Tryd.prog 45 scope_New_R7 K) K)) (up (up (up (up (up (up (up (up ρ 35 (ρ 4)) 36 x36) 37 x37) 38 x38) 8 x8) 39 x39) 40 x40) 41 x41) w) (VK Tryd.prog (Instr.build 30 [].toArray) w fun x44 w => UK Tryd.prog (Instr.storeAt 30 (ρ 3) x44) w fun _ w => K Exit.ret (up (up (up (up (up (up (up (up (up (up (up ρ 35 (ρ 4)) 36 x36) 37 x37) 38 x38) 8 x8) 39 x39) 40 x40) 41 x41) 43 (ρ 4)) 44 x44) 2 (ρ 4)) w)
theorem scope_New_R1_eq (z : At) (K : Exit → Sl → World → Prop) (ρ : Sl) (w : World) : sx z Tryd.prog 45 scope_New_R1 K ρ w = scope_New_R1_F z K ρ w := by kernel_rfl
noncomputable def scope_New_R2_ops : Array Oper := opsOf scope_New_R2
def scope_New_R2_T (K : Exit → Sl → World → Prop) (ρ : Sl) (w : World) : Prop :=
  let C : World → Prop := fun w' => w' = w; QK Tryd.prog C (do pure (Next.value (← Instr.fieldAt 40 (ρ 6) 2))) fun x29 => QK Tryd.prog C (do pure (Next.value (← Instr.loadAt 3 x29))) fun x30 => QK Tryd.prog C (do pure (Next.value (← Instr.fieldAt 40 (ρ 6) 3))) fun x31 => QK Tryd.prog C (do pure (Next.value (← Instr.loadAt 3 x31))) fun x32 => QK Tryd.prog C (do pure (Next.value (← Instr.build 30 [(0, (ρ 7)), (1, x30), (2, x32)].toArray))) fun x33 => UK Tryd.prog (Instr.storeAt 30 (ρ 3) x33) w fun _ w => K Exit.normal (up (up (up (up (up (up (up ρ 28 (ρ 7)) 29 x29) 30 x30) 31 x31) 32 x32) 33 x33) 2 (Value.pointer none)) w
theorem scope_New_R2_tail {D : List Deferred} {K : Exit → Sl → World → Prop} {ρ : Sl} {w : World} (h : scope_New_R2_T K ρ { w with drawn := w.drawn + 1 }) : W ⟨none, D⟩ Tryd.prog 45 scope_New_R2 K ρ w := by
  have e : scope_New_R2 = .region (idOf scope_New_R2) scope_New_R2_ops true := by kernel_rfl
  have q : sxq Tryd.prog (fun w' => w' = { w with drawn := w.drawn + 1 }) scope_New_R2_ops (fun ρ' => sxL Tryd.prog scope_New_R2_ops (K .normal) (scope_New_R2_ops.toList.drop 7) ρ' { w with drawn := w.drawn + 1 }) (scope_New_R2_ops.toList.take 7) ρ = scope_New_R2_T K ρ { w with drawn := w.drawn + 1 } := by kernel_rfl
  rw [e]
  exact W_tail 7 (by kernel_rfl) (by kernel_rfl) (by kernel_rfl) (by kernel_rfl) (Eq.mpr q h)
noncomputable def scope_New_R3_F (z : At) (K : Exit → Sl → World → Prop) (ρ : Sl) (w : World) : Prop :=
  K Exit.ret ρ w
theorem scope_New_R3_eq (z : At) (K : Exit → Sl → World → Prop) (ρ : Sl) (w : World) : sx z Tryd.prog 45 scope_New_R3 K ρ w = scope_New_R3_F z K ρ w := by kernel_rfl
noncomputable def scope_New_R5_ops : Array Oper := opsOf scope_New_R5
def scope_New_R5_T (K : Exit → Sl → World → Prop) (ρ : Sl) (w : World) : Prop :=
  let C : World → Prop := fun w' => w' = w; QK Tryd.prog C (do pure (Next.value (← Instr.loadAt 30 (ρ 8)))) fun x42 => UK Tryd.prog (Instr.storeAt 30 (ρ 3) x42) w fun _ w => K Exit.normal (up (up ρ 42 x42) 2 (Value.pointer none)) w
theorem scope_New_R5_tail {D : List Deferred} {K : Exit → Sl → World → Prop} {ρ : Sl} {w : World} (h : scope_New_R5_T K ρ { w with drawn := w.drawn + 1 }) : W ⟨none, D⟩ Tryd.prog 45 scope_New_R5 K ρ w := by
  have e : scope_New_R5 = .region (idOf scope_New_R5) scope_New_R5_ops true := by kernel_rfl
  have q : sxq Tryd.prog (fun w' => w' = { w with drawn := w.drawn + 1 }) scope_New_R5_ops (fun ρ' => sxL Tryd.prog scope_New_R5_ops (K .normal) (scope_New_R5_ops.toList.drop 2) ρ' { w with drawn := w.drawn + 1 }) (scope_New_R5_ops.toList.take 2) ρ = scope_New_R5_T K ρ { w with drawn := w.drawn + 1 } := by kernel_rfl
  rw [e]
  exact W_tail 2 (by kernel_rfl) (by kernel_rfl) (by kernel_rfl) (by kernel_rfl) (Eq.mpr q h)
noncomputable def scope_New_R6_F (z : At) (K : Exit → Sl → World → Prop) (ρ : Sl) (w : World) : Prop :=
  K Exit.ret ρ w
theorem scope_New_R6_eq (z : At) (K : Exit → Sl → World → Prop) (ρ : Sl) (w : World) : sx z Tryd.prog 45 scope_New_R6 K ρ w = scope_New_R6_F z K ρ w := by kernel_rfl
noncomputable def scope_New_F (a0 : Value) (w : World) (R : Value → World → Prop) : Prop :=
  VK Tryd.prog (Instr.box 25 a0) w fun x1 w => VK Tryd.prog (Instr.alloc 30 true (.tuple #[])) w fun x3 w => VK Tryd.prog (Instr.loadAt 25 x1) w fun x9 w => CK Tryd.prog (Value.func (Fn.func 29) #[] #[]) [x9] w fun x10 w => VK Tryd.prog (Op.unary UnOp.not x10) w fun x11 w => CondK x11 (VK Tryd.prog (Instr.build 30 [(0, (Value.int IntKind.i64 2))].toArray) w fun x12 w => UK Tryd.prog (Instr.storeAt 30 x3 x12) w fun _ w => ∃ x3_1, (do loadVar 30 (← asAddr x3) : Sem Value).run Tryd.prog w = .ok x3_1 w ∧ R (Value.tuple #[(Value.pointer none), x3_1]) w) (VK Tryd.prog (Instr.makeMap 69 none) w fun x13 w => VK Tryd.prog (Instr.build 71 [(1, x13)].toArray) w fun x14 w => VK Tryd.prog (Instr.box 71 x14) w fun x15 w => VK Tryd.prog (Instr.fieldAt 25 x1 0) w fun x16 w => VK Tryd.prog (Instr.loadAt 22 x16) w fun x17 w => IK Tryd.prog Builtin.len #[22] 3 [false] [x17] w fun x18 w => W fn_ Tryd.prog 45 (Code.loop scope_New_L0) (blkK 0 (seqK (sx fn_ Tryd.prog 45 scope_New_R1 (retK Tryd.prog [ResultVar.tmp 2, ResultVar.cell 3 30] R)) (retK Tryd.prog [ResultVar.tmp 2, ResultVar.cell 3 30] R))) (up (up (up (up (up (up (up (up (up (up (up (up (up (up (rho0 [a0]) 1 x1) 2 (Value.pointer none)) 3 x3) 9 x9) 10 x10) 11 x11) 13 x13) 14 x14) 15 x15) 4 x15) 16 x16) 17 x17) 18 x18) 19 (Value.int IntKind.i64 0)) w)
theorem scope_New_eq (a0 : Value) (w : World) (R : Value → World → Prop) : sx fn_ Tryd.prog 45 scope_New_b (retK Tryd.prog Tryd.f13.results.toList R) (rho0 [a0]) w = scope_New_F a0 w R := by kernel_rfl
theorem scope_New_calls {a0 : Value} {w : World} {R : Value → World → Prop} (h : scope_New_F a0 w R) : Calls Tryd.prog 13 #[a0] w fun e w' => ∃ v, e = .returned v ∧ R v w' :=
  Go.X.calls_of_sx (n := 45) (c := scope_New_b) Tryd.func13 (by kernel_rfl) (by kernel_rfl) (Nat.le_of_ble_eq_true rfl) (by kernel_rfl) (Eq.mpr (scope_New_eq a0 w R) h)
/-- (*dispatcher/scope.Table).Find -/
noncomputable def scope_Table_Find_b : Code := (Tryd.f16.body).getD .skip
noncomputable def scope_Table_Find_F (a0 a1 : Value) (w : World) (R : Value → World → Prop) : Prop :=
  VK Tryd.prog (Instr.alloc 37 true (.tuple #[])) w fun x4 w => BK Tryd.prog BinOp.eql 32 (Operand.tmp 5) (Operand.const (Value.pointer none)) a0 (Value.pointer none) w fun x6 w => CondK x6 (VK Tryd.prog (Instr.build 37 [].toArray) w fun x7 w => UK Tryd.prog (Instr.storeAt 37 x4 x7) w fun _ w => ∃ x4_1, (do loadVar 37 (← asAddr x4) : Sem Value).run Tryd.prog w = .ok x4_1 w ∧ R x4_1 w) (NK Tryd.prog a0 w fun x9 w => VK Tryd.prog (Instr.fieldAt 71 x9 1) w fun x10 w => VK Tryd.prog (Instr.loadAt 69 x10) w fun x11 w => VK Tryd.prog (Instr.lookup 69 x11 a1 false) w fun x13 w => UK Tryd.prog (Instr.storeAt 37 x4 x13) w fun _ w => ∃ x4_2, (do loadVar 37 (← asAddr x4) : Sem Value).run Tryd.prog w = .ok x4_2 w ∧ R x4_2 w)
theorem scope_Table_Find_eq (a0 a1 : Value) (w : World) (R : Value → World → Prop) : sx fn_ Tryd.prog 14 scope_Table_Find_b (retK Tryd.prog Tryd.f16.results.toList R) (rho0 [a0, a1]) w = scope_Table_Find_F a0 a1 w R := by kernel_rfl
theorem scope_Table_Find_calls {a0 a1 : Value} {w : World} {R : Value → World → Prop} (h : scope_Table_Find_F a0 a1 w R) : Calls Tryd.prog 16 #[a0, a1] w fun e w' => ∃ v, e = .returned v ∧ R v w' :=
  Go.X.calls_of_sx (n := 14) (c := scope_Table_Find_b) Tryd.func16 (by kernel_rfl) (by kernel_rfl) (Nat.le_of_ble_eq_true rfl) (by kernel_rfl) (Eq.mpr (scope_Table_Find_eq a0 a1 w R) h)
/-- (*dispatcher/scope.Table).Vars -/
noncomputable def scope_Table_Vars_b : Code := (Tryd.f22.body).getD .skip
noncomputable def scope_Table_Vars_F (a0 : Value) (w : World) (R : Value → World → Prop) : Prop :=
  BK Tryd.prog BinOp.eql 32 (Operand.tmp 3) (Operand.const (Value.pointer none)) a0 (Value.pointer none) w fun x4 w => CondK x4 (R (Value.int IntKind.i64 0) w) (NK Tryd.prog a0 w fun x6 w => VK Tryd.prog (Instr.fieldAt 71 x6 2) w fun x7 w => VK Tryd.prog (Instr.loadAt 3 x7) w fun x8 w => R x8 w)
theorem scope_Table_Vars_eq (a0 : Value) (w : World) (R : Value → World → Prop) : sx fn_ Tryd.prog 9 scope_Table_Vars_b (retK Tryd.prog Tryd.f22.results.toList R) (rho0 [a0]) w = scope_Table_Vars_F a0 w R := by kernel_rfl
theorem scope_Table_Vars_calls {a0 : Value} {w : World} {R : Value → World → Prop} (h : scope_Table_Vars_F a0 w R) : Calls Tryd.prog 22 #[a0] w fun e w' => ∃ v, e = .returned v ∧ R v w' :=
  Go.X.calls_of_sx (n := 9) (c := scope_Table_Vars_b) Tryd.func22 (by kernel_rfl) (by kernel_rfl) (Nat.le_of_ble_eq_true rfl) (by kernel_rfl) (Eq.mpr (scope_Table_Vars_eq a0 w R) h)
/-- (*dispatcher/scope.Table).declare -/
noncomputable def scope_Table_declare_b : Code := (Tryd.f37.body).getD .skip
noncomputable def scope_Table_declare_R0 : Code := cAt [1, 0, 0] scope_Table_declare_b
noncomputable def scope_Table_declare_R1 : Code := cAt [1, 0, 1] scope_Table_declare_b
noncomputable def scope_Table_declare_R2 : Code := cAt [1, 1] scope_Table_declare_b
noncomputable def scope_Table_declare_R3 : Code := cAt [1, 1, 1, 1] scope_Table_declare_b
noncomputable def scope_Table_declare_R4 : Code := cAt [1, 1, 1, 0, 1, 0] scope_Table_declare_b
noncomputable def scope_Table_declare_R5 : Code := cAt [1, 1, 1, 1, 1] scope_Table_declare_b
noncomputable def scope_Table_declare_R6 : Code := cAt [1, 1, 1, 1, 0, 0, 1] scope_Table_declare_b
noncomputable def scope_Table_declare_R7 : Code := cAt [1, 1, 1, 1, 1, 0] scope_Table_declare_b
noncomputable def scope_Table_declare_R8 : Code := cAt [1, 1, 1, 1, 1, 1] scope_Table_declare_b
noncomputable def scope_Table_declare_R9 : Code := cAt [1, 1, 1, 1, 0, 0, 1, 1, 1, 1, 0] scope_Table_declare_b
noncomputable def scope_Table_declare_R10 : Code := cAt [1, 1, 1, 1, 0, 0, 1, 1, 1, 1, 1] scope_Table_declare_b
noncomputable def scope_Table_declare_R11 : Code := cAt [1, 1, 1, 1, 1, 1, 0] scope_Table_declare_b
noncomputable def scope_Table_declare_R12 : Code := cAt [1, 1, 1, 1, 1, 1, 1] scope_Table_declare_b
noncomputable def scope_Table_declare_R0_ops : Array Oper := opsOf scope_Table_declare_R0
def scope_Table_declare_R0_Q (C : World → Prop) (K : Exit → Sl → World → Prop) (ρ : Sl) : Prop :=
  QK Tryd.prog C (nilCk (ρ 0)) fun x7 => QK Tryd.prog C (do pure (Next.value (← Instr.fieldAt 71 x7 1))) fun x8 => QK Tryd.prog C (do pure (Next.value (← Instr.loadAt 69 x8))) fun x9 => QK Tryd.prog C (do pure (Next.value (← Instr.fieldAt 40 (ρ 3) 0))) fun x10 => QK Tryd.prog C (do pure (Next.value (← Instr.loadAt 9 x10))) fun x11 => QK Tryd.prog C (do pure (Next.value (← Instr.lookup 69 x9 x11 false))) fun x12 => QK Tryd.prog C (do pure (Next.value (← Instr.build 37 [].toArray))) fun x13 => QK Tryd.prog C (do pure (Next.value (← (do eqGuard BinOp.neq 37 (Operand.tmp 12) (Operand.tmp 13) x12 x13; binOp BinOp.neq 37 x12 x13)))) fun x14 => ∀ w', C w' → K Exit.normal (up (up (up (up (up (up (up (up (up ρ 6 (ρ 0)) 7 x7) 8 x8) 9 x9) 10 x10) 11 x11) 12 x12) 13 x13) 14 x14) w'
theorem scope_Table_declare_R0_quiet {D : List Deferred} (C : World → Prop) {K : Exit → Sl → World → Prop} {ρ : Sl} {w : World} (hC : C { w with drawn := w.drawn + 1 }) (h : scope_Table_declare_R0_Q C K ρ) : W ⟨none, D⟩ Tryd.prog 101 scope_Table_declare_R0 K ρ w := by
  have e : scope_Table_declare_R0 = .region (idOf scope_Table_declare_R0) scope_Table_declare_R0_ops true := by kernel_rfl
  have q : sxq Tryd.prog C scope_Table_declare_R0_ops (fun ρ' => ∀ w', C w' → K .normal ρ' w') scope_Table_declare_R0_ops.toList ρ = scope_Table_declare_R0_Q C K ρ := by kernel_rfl
  rw [e]
  exact W_quiet C (by kernel_rfl) (by kernel_rfl) (by kernel_rfl) hC (Eq.mpr q h)
noncomputable def scope_Table_declare_R1_F (z : At) (K : Exit → Sl → World → Prop) (ρ : Sl) (w : World) : Prop :=
  CondK (ρ 14) (K Exit.ret (up ρ 4 (Value.int IntKind.i64 40)) w) (K Exit.normal ρ w)
theorem scope_Table_declare_R1_eq (z : At) (K : Exit → Sl → World → Prop) (ρ : Sl) (w : World) : sx z Tryd.prog 101 scope_Table_declare_R1 K ρ w = scope_Table_declare_R1_F z K ρ w := by kernel_rfl
noncomputable def scope_Table_declare_R2_F (z : At) (K : Exit → Sl → World → Prop) (ρ : Sl) (w : World) : Prop :=
  NK Tryd.prog (ρ 0) w fun x16 w => VK Tryd.prog (Instr.fieldAt 71 x16 2) w fun x17 w => VK Tryd.prog (Instr.loadAt 3 x17) w fun x18 w => VK Tryd.prog (Instr.build 37 [(0, (Value.int IntKind.u8 1)), (1, x18)].toArray) w fun x19 w => VK Tryd.prog (Instr.alloc 37 true (.tuple #[])) w fun x5 w => UK Tryd.prog (Instr.storeAt 37 x5 x19) w fun _ w => VK Tryd.prog (Instr.fieldAt 40 (ρ 3) 1) w fun x20 w => VK Tryd.prog (Instr.loadAt 3 x20) w fun x21 w => BK Tryd.prog BinOp.gtr 3 (Operand.tmp 21) (Operand.const (Value.int IntKind.i64 0)) x21 (Value.int IntKind.i64 0) w fun x22 w => CondK x22 (W z Tryd.prog 101 scope_Table_declare_R4 (seqK (sx z Tryd.prog 101 scope_Table_declare_R3 K) K) (up (up (up (up (up (up (up (up (up ρ 15 (ρ 0)) 16 x16) 17 x17) 18 x18) 19 x19) 5 x5) 20 x20) 21 x21) 22 x22) w) (sx z Tryd.prog 101 scope_Table_declare_R3 K (up (up (up (up (up (up (up (up (up ρ 15 (ρ 0)) 16 x16) 17 x17) 18 x18) 19 x19) 5 x5) 20 x20) 21 x21) 22 x22) w)
theorem scope_Table_declare_R2_eq (z : At) (K : Exit → Sl → World → Prop) (ρ : Sl) (w : World) : sx z Tryd.prog 101 scope_Table_declare_R2 K ρ w = scope_Table_declare_R2_F z K ρ w := by kernel_rfl
noncomputable def scope_Table_declare_R3_F (z : At) (K : Exit → Sl → World → Prop) (ρ : Sl) (w : World) : Prop :=
  VK Tryd.prog (Instr.fieldAt 37 (ρ 5) 0) w fun x56 w => VK Tryd.prog (Instr.loadAt 5 x56) w fun x57 w => BK Tryd.prog BinOp.eql 5 (Operand.tmp 57) (Operand.const (Value.int IntKind.u8 1)) x57 (Value.int IntKind.u8 1) w fun x58 w => MG Tryd.prog x58 true (ρ 0) w fun x60 w => NG Tryd.prog x58 true x60 w fun x61 w => VG Tryd.prog x58 true (Instr.fieldAt 71 x61 2) w fun x62 w => VG Tryd.prog x58 true (Instr.loadAt 3 x62) w fun x63 w => BG Tryd.prog x58 true BinOp.eql 3 (Operand.tmp 63) (Operand.const (Value.int IntKind.i64 64)) x63 (Value.int IntKind.i64 64) w fun x64 w => PK Tryd.prog x58 x64 (Value.bool false) w fun x65 w => CondK x65 (sx z Tryd.prog 101 scope_Table_declare_R6 (blkK 0 (seqK (sx z Tryd.prog 101 scope_Table_declare_R5 K) K)) (up (up (up (up (up (up (up (up (up (up (up ρ 56 x56) 57 x57) 58 x58) 59 x58) 60 x60) 61 x61) 62 x62) 63 x63) 64 x64) 65 x65) 55 x65) w) (VK Tryd.prog (Instr.fieldAt 37 (ρ 5) 2) w fun x66 w => VK Tryd.prog (Instr.loadAt 3 x66) w fun x67 w => VK Tryd.prog (Instr.fieldAt 37 (ρ 5) 3) w fun x68 w => VK Tryd.prog (Instr.loadAt 3 x68) w fun x69 w => BK Tryd.prog BinOp.add 3 (Operand.tmp 67) (Operand.tmp 69) x67 x69 w fun x70 w => BK Tryd.prog BinOp.gtr 3 (Operand.tmp 70) (Operand.const (Value.int IntKind.i64 1000)) x70 (Value.int IntKind.i64 1000) w fun x71 w => sx z Tryd.prog 101 scope_Table_declare_R6 (blkK 0 (seqK (sx z Tryd.prog 101 scope_Table_declare_R5 K) K)) (up (up (up (up (up (up (up (up (up (up (up (up (up (up (up (up (up (up ρ 56 x56) 57 x57) 58 x58) 59 x58) 60 x60) 61 x61) 62 x62) 63 x63) 64 x64) 65 x65) 55 x65) 66 x66) 67 x67) 68 x68) 69 x69) 70 x70) 71 x71) 55 x71) w)
theorem scope_Table_declare_R3_eq (z : At) (K : Exit → Sl → World → Prop) (ρ : Sl) (w : World) : sx z Tryd.prog 101 scope_Table_declare_R3 K ρ w = scope_Table_declare_R3_F z K ρ w := by kernel_rfl
noncomputable def scope_Table_declare_R4_ops : Array Oper := opsOf scope_Table_declare_R4
def scope_Table_declare_R4_T (K : Exit → Sl → World → Prop) (ρ : Sl) (w : World) : Prop :=
  let C : World → Prop := fun w' => w' = w; QK Tryd.prog C (nilCk (ρ 0)) fun x24 => QK Tryd.prog C (do pure (Next.value (← Instr.fieldAt 71 x24 3))) fun x25 => QK Tryd.prog C (do pure (Next.value (← Instr.loadAt 50 x25))) fun x26 => QK Tryd.prog C (builtin Builtin.len #[50] 3 [false].toArray [x26].toArray) fun x27 => QK Tryd.prog C (nilCk (ρ 0)) fun x29 => QK Tryd.prog C (do pure (Next.value (← Instr.fieldAt 71 x29 4))) fun x30 => QK Tryd.prog C (do pure (Next.value (← Instr.loadAt 3 x30))) fun x31 => QK Tryd.prog C (do pure (Next.value (← Instr.fieldAt 40 (ρ 3) 1))) fun x32 => QK Tryd.prog C (do pure (Next.value (← Instr.loadAt 3 x32))) fun x33 => VK Tryd.prog (Instr.build 37 [(0, (Value.int IntKind.u8 2)), (1, x27), (2, x31), (3, x33)].toArray) w fun x34 w => UK Tryd.prog (Instr.storeAt 37 (ρ 5) x34) w fun _ w => K Exit.normal (up (up (up (up (up (up (up (up (up (up (up (up ρ 23 (ρ 0)) 24 x24) 25 x25) 26 x26) 27 x27) 28 (ρ 0)) 29 x29) 30 x30) 31 x31) 32 x32) 33 x33) 34 x34) w
theorem scope_Table_declare_R4_tail {D : List Deferred} {K : Exit → Sl → World → Prop} {ρ : Sl} {w : World} (h : scope_Table_declare_R4_T K ρ { w with drawn := w.drawn + 1 }) : W ⟨none, D⟩ Tryd.prog 101 scope_Table_declare_R4 K ρ w := by
  have e : scope_Table_declare_R4 = .region (idOf scope_Table_declare_R4) scope_Table_declare_R4_ops true := by kernel_rfl
  have q : sxq Tryd.prog (fun w' => w' = { w with drawn := w.drawn + 1 }) scope_Table_declare_R4_ops (fun ρ' => sxL Tryd.prog scope_Table_declare_R4_ops (K .normal) (scope_Table_declare_R4_ops.toList.drop 11) ρ' { w with drawn := w.drawn + 1 }) (scope_Table_declare_R4_ops.toList.take 11) ρ = scope_Table_declare_R4_T K ρ { w with drawn := w.drawn + 1 } := by kernel_rfl
  rw [e]
  exact W_tail 11 (by kernel_rfl) (by kernel_rfl) (by kernel_rfl) (by kernel_rfl) (Eq.mpr q h)
noncomputable def scope_Table_declare_R5_F (z : At) (K : Exit → Sl → World → Prop) (ρ : Sl) (w : World) : Prop :=
  W z Tryd.prog 101 scope_Table_declare_R7 (seqK (sx z Tryd.prog 101 scope_Table_declare_R8 K) K) ρ w
theorem scope_Table_declare_R5_eq (z : At) (K : Exit → Sl → World → Prop) (ρ : Sl) (w : World) : sx z Tryd.prog 101 scope_Table_declare_R5 K ρ w = scope_Table_declare_R5_F z K ρ w := by kernel_rfl
noncomputable def scope_Table_declare_R6_F (z : At) (K : Exit → Sl → World → Prop) (ρ : Sl) (w : World) : Prop :=
  CondK (ρ 55) (K Exit.ret (up ρ 4 (Value.int IntKind.i64 4)) w) (VK Tryd.prog (Instr.fieldAt 37 (ρ 5) 0) w fun x73 w => VK Tryd.prog (Instr.loadAt 5 x73) w fun x74 w => BK Tryd.prog BinOp.eql 5 (Operand.tmp 74) (Operand.const (Value.int IntKind.u8 1)) x74 (Value.int IntKind.u8 1) w fun x75 w => CondK x75 (NK Tryd.prog (ρ 0) w fun x77 w => VK Tryd.prog (Instr.fieldAt 71 x77 2) w fun x78 w => VK Tryd.prog (Instr.loadAt 3 x78) w fun x79 w => BK Tryd.prog BinOp.add 3 (Operand.tmp 79) (Operand.const (Value.int IntKind.i64 1)) x79 (Value.int IntKind.i64 1) w fun x80 w => NK Tryd.prog (ρ 0) w fun x81 w => VK Tryd.prog (Instr.fieldAt 71 x81 2) w fun x82 w => UK Tryd.prog (Instr.storeAt 3 x82 x80) w fun _ w => K Exit.normal (up (up (up (up (up (up (up (up (up (up (up ρ 73 x73) 74 x74) 75 x75) 72 x75) 76 (ρ 0)) 77 x77) 78 x78) 79 x79) 80 x80) 81 x81) 82 x82) w) (W z Tryd.prog 101 scope_Table_declare_R9 (seqK (sx z Tryd.prog 101 scope_Table_declare_R10 K) K) (up (up (up (up ρ 73 x73) 74 x74) 75 x75) 72 x75) w))
theorem scope_Table_declare_R6_eq (z : At) (K : Exit → Sl → World → Prop) (ρ : Sl) (w : World) : sx z Tryd.prog 101 scope_Table_declare_R6 K ρ w = scope_Table_declare_R6_F z K ρ w := by kernel_rfl
noncomputable def scope_Table_declare_R7_ops : Array Oper := opsOf scope_Table_declare_R7
def scope_Table_declare_R7_T (K : Exit → Sl → World → Prop) (ρ : Sl) (w : World) : Prop :=
  let C : World → Prop := fun w' => w' = w; QK Tryd.prog C (nilCk (ρ 0)) fun x84 => QK Tryd.prog C (do pure (Next.value (← Instr.fieldAt 71 x84 1))) fun x85 => QK Tryd.prog C (do pure (Next.value (← Instr.loadAt 69 x85))) fun x86 => QK Tryd.prog C (do pure (Next.value (← Instr.fieldAt 40 (ρ 3) 0))) fun x87 => QK Tryd.prog C (do pure (Next.value (← Instr.loadAt 9 x87))) fun x88 => QK Tryd.prog C (do pure (Next.value (← Instr.loadAt 37 (ρ 5)))) fun x89 => UK Tryd.prog (Instr.mapUpdate 69 x86 x88 x89) w fun _ w => K Exit.normal (up (up (up (up (up (up (up ρ 83 (ρ 0)) 84 x84) 85 x85) 86 x86) 87 x87) 88 x88) 89 x89) w
theorem scope_Table_declare_R7_tail {D : List Deferred} {K : Exit → Sl → World → Prop} {ρ : Sl} {w : World} (h : scope_Table_declare_R7_T K ρ { w with drawn := w.drawn + 1 }) : W ⟨none, D⟩ Tryd.prog 101 scope_Table_declare_R7 K ρ w := by
  have e : scope_Table_declare_R7 = .region (idOf scope_Table_declare_R7) scope_Table_declare_R7_ops true := by kernel_rfl
  have q : sxq Tryd.prog (fun w' => w' = { w with drawn := w.drawn + 1 }) scope_Table_declare_R7_ops (fun ρ' => sxL Tryd.prog scope_Table_declare_R7_ops (K .normal) (scope_Table_declare_R7_ops.toList.drop 7) ρ' { w with drawn := w.drawn + 1 }) (scope_Table_declare_R7_ops.toList.take 7) ρ = scope_Table_declare_R7_T K ρ { w with drawn := w.drawn + 1 } := by kernel_rfl
  rw [e]
  exact W_tail 7 (by kernel_rfl) (by kernel_rfl) (by kernel_rfl) (by kernel_rfl) (Eq.mpr q h)
noncomputable def scope_Table_declare_R8_F (z : At) (K : Exit → Sl → World → Prop) (ρ : Sl) (w : World) : Prop :=
  W z Tryd.prog 101 scope_Table_declare_R11 (seqK (sx z Tryd.prog 101 scope_Table_declare_R12 K) K) ρ w
theorem scope_Table_declare_R8_eq (z : At) (K : Exit → Sl → World → Prop) (ρ : Sl) (w : World) : sx z Tryd.prog 101 scope_Table_declare_R8 K ρ w = scope_Table_declare_R8_F z K ρ w := by kernel_rfl
noncomputable def scope_Table_declare_R9_ops : Array Oper := opsOf scope_Table_declare_R9
def scope_Table_declare_R9_H (S : World → Prop) (K : Exit → Sl → World → Prop) (ρ : Sl) (w : World) : Prop :=
  HK Tryd.prog S (nilCk (ρ 0)) fun x37 => HK Tryd.prog S (do pure (Next.value (← Instr.fieldAt 71 x37 3))) fun x38 => HK Tryd.prog S (do pure (Next.value (← Instr.fieldAt 40 (ρ 3) 1))) fun x40 => HK Tryd.prog S (do pure (Next.value (← Instr.loadAt 3 x40))) fun x41 => (VK Tryd.prog (Instr.loadAt 50 x38) w fun x39 w => S w ∧ (VK Tryd.prog (Instr.buildSlice 50 1 [(0, x41)].toArray) w fun x42 w => S w ∧ (IK Tryd.prog Builtin.append #[50, 50] 50 [false, false] [x39, x42] w fun x43 w => S w ∧ (HK Tryd.prog S (nilCk (ρ 0)) fun x44 => HK Tryd.prog S (do pure (Next.value (← Instr.fieldAt 71 x44 3))) fun x45 => UK Tryd.prog (Instr.storeAt 50 x45 x43) w fun _ w => S w ∧ (K Exit.normal (up (up (up (up (up (up (up (up (up (up (up ρ 35 (ρ 0)) 36 (ρ 0)) 37 x37) 38 x38) 40 x40) 41 x41) 39 x39) 42 x42) 43 x43) 44 x44) 45 x45) w))))) ∧ (VK Tryd.prog (Instr.buildSlice 50 1 [(0, x41)].toArray) w fun x42_1 w => S w ∧ (VK Tryd.prog (Instr.loadAt 50 x38) w fun x39_1 w => S w ∧ (IK Tryd.prog Builtin.append #[50, 50] 50 [false, false] [x39_1, x42_1] w fun x43_1 w => S w ∧ (HK Tryd.prog S (nilCk (ρ 0)) fun x44_1 => HK Tryd.prog S (do pure (Next.value (← Instr.fieldAt 71 x44_1 3))) fun x45_1 => UK Tryd.prog (Instr.storeAt 50 x45_1 x43_1) w fun _ w => S w ∧ (K Exit.normal (up (up (up (up (up (up (up (up (up (up (up ρ 35 (ρ 0)) 36 (ρ 0)) 37 x37) 38 x38) 40 x40) 41 x41) 42 x42_1) 39 x39_1) 43 x43_1) 44 x44_1) 45 x45_1) w)))))
theorem scope_Table_declare_R9_held {D : List Deferred} (S : World → Prop) {K : Exit → Sl → World → Prop} {ρ : Sl} {w : World} (hS : S { w with drawn := w.drawn + 1 }) (h : scope_Table_declare_R9_H S K ρ { w with drawn := w.drawn + 1 }) : W ⟨none, D⟩ Tryd.prog 101 scope_Table_declare_R9 K ρ w := by
  have e : scope_Table_declare_R9 = .region (idOf scope_Table_declare_R9) scope_Table_declare_R9_ops true := by kernel_rfl
  have q : sxp Tryd.prog S scope_Table_declare_R9_ops (K .normal) (Pl.take 0 (Pl.take 1 (Pl.take 2 (Pl.take 3 (Pl.take 5 (Pl.take 6 (Pl.two 4 7 (Pl.only 7 (Pl.only 8 (Pl.take 9 (Pl.take 10 (Pl.only 11 Pl.done))))) (Pl.only 4 (Pl.only 8 (Pl.take 9 (Pl.take 10 (Pl.only 11 Pl.done)))))))))))) ρ { w with drawn := w.drawn + 1 } = scope_Table_declare_R9_H S K ρ { w with drawn := w.drawn + 1 } := by kernel_rfl
  rw [e]
  exact W_plan S (Pl.take 0 (Pl.take 1 (Pl.take 2 (Pl.take 3 (Pl.take 5 (Pl.take 6 (Pl.two 4 7 (Pl.only 7 (Pl.only 8 (Pl.take 9 (Pl.take 10 (Pl.only 11 Pl.done))))) (Pl.only 4 (Pl.only 8 (Pl.take 9 (Pl.take 10 (Pl.only 11 Pl.done)))))))))))) (by kernel_rfl) (by kernel_rfl) (by kernel_rfl) (by kernel_rfl) hS (Eq.mpr q h)
noncomputable def scope_Table_declare_R10_ops : Array Oper := opsOf scope_Table_declare_R10
def scope_Table_declare_R10_H (S : World → Prop) (K : Exit → Sl → World → Prop) (ρ : Sl) (w : World) : Prop :=
  HK Tryd.prog S (nilCk (ρ 0)) fun x47 => HK Tryd.prog S (do pure (Next.value (← Instr.fieldAt 71 x47 4))) fun x48 => HK Tryd.prog S (do pure (Next.value (← Instr.fieldAt 40 (ρ 3) 1))) fun x50 => HK Tryd.prog S (do pure (Next.value (← Instr.loadAt 3 x50))) fun x51 => VK Tryd.prog (Instr.loadAt 3 x48) w fun x49 w => S w ∧ (HK Tryd.prog S (do pure (Next.value (← (do eqGuard BinOp.add 3 (Operand.tmp 49) (Operand.tmp 51) x49 x51; binOp BinOp.add 3 x49 x51)))) fun x52 => HK Tryd.prog S (nilCk (ρ 0)) fun x53 => HK Tryd.prog S (do pure (Next.value (← Instr.fieldAt 71 x53 4))) fun x54 => UK Tryd.prog (Instr.storeAt 3 x54 x52) w fun _ w => S w ∧ (K Exit.normal (up (up (up (up (up (up (up (up (up ρ 46 (ρ 0)) 47 x47) 48 x48) 50 x50) 51 x51) 49 x49) 52 x52) 53 x53) 54 x54) w))
theorem scope_Table_declare_R10_held {D : List Deferred} (S : World → Prop) {K : Exit → Sl → World → Prop} {ρ : Sl} {w : World} (hS : S { w with drawn := w.drawn + 1 }) (h : scope_Table_declare_R10_H S K ρ { w with drawn := w.drawn + 1 }) : W ⟨none, D⟩ Tryd.prog 101 scope_Table_declare_R10 K ρ w := by
  have e : scope_Table_declare_R10 = .region (idOf scope_Table_declare_R10) scope_Table_declare_R10_ops true := by kernel_rfl
  have q : sxp Tryd.prog S scope_Table_declare_R10_ops (K .normal) (Pl.take 0 (Pl.take 1 (Pl.take 2 (Pl.take 4 (Pl.take 5 (Pl.only 3 (Pl.take 6 (Pl.take 7 (Pl.take 8 (Pl.only 9 Pl.done)))))))))) ρ { w with drawn := w.drawn + 1 } = scope_Table_declare_R10_H S K ρ { w with drawn := w.drawn + 1 } := by kernel_rfl
  rw [e]
  exact W_plan S (Pl.take 0 (Pl.take 1 (Pl.take 2 (Pl.take 4 (Pl.take 5 (Pl.only 3 (Pl.take 6 (Pl.take 7 (Pl.take 8 (Pl.only 9 Pl.done)))))))))) (by kernel_rfl) (by kernel_rfl) (by kernel_rfl) (by kernel_rfl) hS (Eq.mpr q h)
noncomputable def scope_Table_declare_R11_ops : Array Oper := opsOf scope_Table_declare_R11
def scope_Table_declare_R11_H (S : World → Prop) (K : Exit → Sl → World → Prop) (ρ : Sl) (w : World) : Prop :=
  HK Tryd.prog S (nilCk (ρ 0)) fun x92 => HK Tryd.prog S (do pure (Next.value (← Instr.fieldAt 71 x92 0))) fun x93 => HK Tryd.prog S (do pure (Next.value (← Instr.fieldAt 40 (ρ 3) 0))) fun x95 => HK Tryd.prog S (do pure (Next.value (← Instr.loadAt 9 x95))) fun x96 => (VK Tryd.prog (Instr.loadAt 52 x93) w fun x94 w => S w ∧ (VK Tryd.prog (Instr.buildSlice 52 1 [(0, x96)].toArray) w fun x97 w => S w ∧ (IK Tryd.prog Builtin.append #[52, 52] 52 [false, false] [x94, x97] w fun x98 w => S w ∧ (HK Tryd.prog S (nilCk (ρ 0)) fun x99 => HK Tryd.prog S (do pure (Next.value (← Instr.fieldAt 71 x99 0))) fun x100 => UK Tryd.prog (Instr.storeAt 52 x100 x98) w fun _ w => S w ∧ (K Exit.normal (up (up (up (up (up (up (up (up (up (up (up ρ 90 (ρ 0)) 91 (ρ 0)) 92 x92) 93 x93) 95 x95) 96 x96) 94 x94) 97 x97) 98 x98) 99 x99) 100 x100) w))))) ∧ (VK Tryd.prog (Instr.buildSlice 52 1 [(0, x96)].toArray) w fun x97_1 w => S w ∧ (VK Tryd.prog (Instr.loadAt 52 x93) w fun x94_1 w => S w ∧ (IK Tryd.prog Builtin.append #[52, 52] 52 [false, false] [x94_1, x97_1] w fun x98_1 w => S w ∧ (HK Tryd.prog S (nilCk (ρ 0)) fun x99_1 => HK Tryd.prog S (do pure (Next.value (← Instr.fieldAt 71 x99_1 0))) fun x100_1 => UK Tryd.prog (Instr.storeAt 52 x100_1 x98_1) w fun _ w => S w ∧ (K Exit.normal (up (up (up (up (up (up (up (up (up (up (up ρ 90 (ρ 0)) 91 (ρ 0)) 92 x92) 93 x93) 95 x95) 96 x96) 97 x97_1) 94 x94_1) 98 x98_1) 99 x99_1) 100 x100_1) w)))))
theorem scope_Table_declare_R11_held {D : List Deferred} (S : World → Prop) {K : Exit → Sl → World → Prop} {ρ : Sl} {w : World} (hS : S { w with drawn := w.drawn + 1 }) (h : scope_Table_declare_R11_H S K ρ { w with drawn := w.drawn + 1 }) : W ⟨none, D⟩ Tryd.prog 101 scope_Table_declare_R11 K ρ w := by
  have e : scope_Table_declare_R11 = .region (idOf scope_Table_declare_R11) scope_Table_declare_R11_ops true := by kernel_rfl
  have q : sxp Tryd.prog S scope_Table_declare_R11_ops (K .normal) (Pl.take 0 (Pl.take 1 (Pl.take 2 (Pl.take 3 (Pl.take 5 (Pl.take 6 (Pl.two 4 7 (Pl.only 7 (Pl.only 8 (Pl.take 9 (Pl.take 10 (Pl.only 11 Pl.done))))) (Pl.only 4 (Pl.only 8 (Pl.take 9 (Pl.take 10 (Pl.only 11 Pl.done)))))))))))) ρ { w with drawn := w.drawn + 1 } = scope_Table_declare_R11_H S K ρ { w with drawn := w.drawn + 1 } := by kernel_rfl
  rw [e]
  exact W_plan S (Pl.take 0 (Pl.take 1 (Pl.take 2 (Pl.take 3 (Pl.take 5 (Pl.take 6 (Pl.two 4 7 (Pl.only 7 (Pl.only 8 (Pl.take 9 (Pl.take 10 (Pl.only 11 Pl.done))))) (Pl.only 4 (Pl.only 8 (Pl.take 9 (Pl.take 10 (Pl.only 11 Pl.done)))))))))))) (by kernel_rfl) (by kernel_rfl) (by kernel_rfl) (by kernel_rfl) hS (Eq.mpr q h)
noncomputable def scope_Table_declare_R12_F (z : At) (K : Exit → Sl → World → Prop) (ρ : Sl) (w : World) : Prop :=
  K Exit.ret (up ρ 4 (Value.int IntKind.i64 0)) w
theorem scope_Table_declare_R12_eq (z : At) (K : Exit → Sl → World → Prop) (ρ : Sl) (w : World) : sx z Tryd.prog 101 scope_Table_declare_R12 K ρ w = scope_Table_declare_R12_F z K ρ w := by kernel_rfl
noncomputable def scope_Table_declare_F (a0 a1 : Value) (w : World) (R : Value → World → Prop) : Prop :=
  VK Tryd.prog (Instr.box 40 a1) w fun x3 w => W fn_ Tryd.prog 101 scope_Table_declare_R0 (seqK (sx fn_ Tryd.prog 101 scope_Table_declare_R1 (seqK (sx fn_ Tryd.prog 101 scope_Table_declare_R2 (retK Tryd.prog [ResultVar.tmp 4] R)) (retK Tryd.prog [ResultVar.tmp 4] R))) (seqK (sx fn_ Tryd.prog 101 scope_Table_declare_R2 (retK Tryd.prog [ResultVar.tmp 4] R)) (retK Tryd.prog [ResultVar.tmp 4] R))) (up (up (rho0 [a0, a1]) 3 x3) 4 (Value.int IntKind.i64 0)) w
theorem scope_Table_declare_eq (a0 a1 : Value) (w : World) (R : Value → World → Prop) : sx fn_ Tryd.prog 101 scope_Table_declare_b (retK Tryd.prog Tryd.f37.results.toList R) (rho0 [a0, a1]) w = scope_Table_declare_F a0 a1 w R := by kernel_rfl
theorem scope_Table_declare_calls {a0 a1 : Value} {w : World} {R : Value → World → Prop} (h : scope_Table_declare_F a0 a1 w R) : Calls Tryd.prog 37 #[a0, a1] w fun e w' => ∃ v, e = .returned v ∧ R v w' :=
  Go.X.calls_of_sx (n := 101) (c := scope_Table_declare_b) Tryd.func37 (by kernel_rfl) (by kernel_rfl) (Nat.le_of_ble_eq_true rfl) (by kernel_rfl) (Eq.mpr (scope_Table_declare_eq a0 a1 w R) h)
/-- (*dispatcher/scope.Table).look -/
noncomputable def scope_Table_look_b : Code := (Tryd.f38.body).getD .skip
noncomputable def scope_Table_look_F (a0 a1 : Value) (w : World) (R : Value → World → Prop) : Prop :=
  VK Tryd.prog (Instr.box 32 a0) w fun x2 w => VK Tryd.prog (Instr.alloc 30 true (.tuple #[])) w fun x4 w => VK Tryd.prog (Instr.alloc 30 true (.tuple #[])) w fun x5 w => VK Tryd.prog (Instr.makeFunc (Fn.func 60) [].toArray [x2, x5].toArray) w fun x9 w => VK Tryd.prog (Instr.alloc 89 true (.tuple #[])) w fun x6 w => UK Tryd.prog (Instr.storeAt 89 x6 x9) w fun _ w => VK Tryd.prog (Instr.alloc 90 true (.tuple #[])) w fun x7 w => VK Tryd.prog (Instr.makeFunc (Fn.func 61) [].toArray [x6, x7].toArray) w fun x10 w => UK Tryd.prog (Instr.storeAt 90 x7 x10) w fun _ w => VK Tryd.prog (Instr.alloc 64 true (.tuple #[])) w fun x8 w => VK Tryd.prog (Instr.makeFunc (Fn.func 62) [].toArray [x6, x7, x8].toArray) w fun x11 w => UK Tryd.prog (Instr.storeAt 64 x8 x11) w fun _ w => VK Tryd.prog (Instr.loadAt 64 x8) w fun x12 w => CK Tryd.prog x12 [a1] w fun x14 w => VK Tryd.prog (Instr.loadAt 30 x5) w fun x15 w => UK Tryd.prog (Instr.storeAt 30 x4 x15) w fun _ w => ∃ x4_1, (do loadVar 30 (← asAddr x4) : Sem Value).run Tryd.prog w = .ok x4_1 w ∧ R x4_1 w
theorem scope_Table_look_eq (a0 a1 : Value) (w : World) (R : Value → World → Prop) : sx fn_ Tryd.prog 16 scope_Table_look_b (retK Tryd.prog Tryd.f38.results.toList R) (rho0 [a0, a1]) w = scope_Table_look_F a0 a1 w R := by kernel_rfl
theorem scope_Table_look_calls {a0 a1 : Value} {w : World} {R : Value → World → Prop} (h : scope_Table_look_F a0 a1 w R) : Calls Tryd.prog 38 #[a0, a1] w fun e w' => ∃ v, e = .returned v ∧ R v w' :=
  Go.X.calls_of_sx (n := 16) (c := scope_Table_look_b) Tryd.func38 (by kernel_rfl) (by kernel_rfl) (Nat.le_of_ble_eq_true rfl) (by kernel_rfl) (Eq.mpr (scope_Table_look_eq a0 a1 w R) h)
/-- (*dispatcher/scope.Table).look$1 -/
noncomputable def scope_Table_look_1_b : Code := (Tryd.f60.body).getD .skip
noncomputable def scope_Table_look_1_R0 : Code := cAt [1, 1] scope_Table_look_1_b
noncomputable def scope_Table_look_1_R0_F (z : At) (K : Exit → Sl → World → Prop) (ρ : Sl) (w : World) : Prop :=
  VK Tryd.prog (Instr.fieldAt 30 (ρ 5) 0) w fun x23 w => VK Tryd.prog (Instr.loadAt 28 x23) w fun x24 w => BK Tryd.prog BinOp.eql 28 (Operand.tmp 24) (Operand.const (Value.int IntKind.i64 0)) x24 (Value.int IntKind.i64 0) w fun x25 w => K Exit.ret (up (up (up (up ρ 23 x23) 24 x24) 25 x25) 10 x25) w
theorem scope_Table_look_1_R0_eq (z : At) (K : Exit → Sl → World → Prop) (ρ : Sl) (w : World) : sx z Tryd.prog 26 scope_Table_look_1_R0 K ρ w = scope_Table_look_1_R0_F z K ρ w := by kernel_rfl
noncomputable def scope_Table_look_1_F (a0 a1 a2 a3 a4 a5 : Value) (w : World) (R : Value → World → Prop) : Prop :=
  VK Tryd.prog (Instr.loadAt 32 a4) w fun x11 w => NK Tryd.prog x11 w fun x12 w => VK Tryd.prog (Instr.fieldAt 71 x12 1) w fun x13 w => VK Tryd.prog (Instr.loadAt 69 x13) w fun x14 w => VK Tryd.prog (Instr.lookup 69 x14 a0 false) w fun x16 w => VK Tryd.prog (Instr.field 37 x16 0) w fun x17 w => BK Tryd.prog BinOp.neq 5 (Operand.tmp 17) (Operand.tmp 18) x17 a1 w fun x19 w => CondK x19 (VK Tryd.prog (Instr.build 30 [(0, (Value.int IntKind.i64 40)), (1, a2), (2, a3)].toArray) w fun x22 w => UK Tryd.prog (Instr.storeAt 30 a5 x22) w fun _ w => sx fn_ Tryd.prog 26 scope_Table_look_1_R0 (retK Tryd.prog [ResultVar.tmp 10] R) (up (up (up (up (up (up (up (up (up (up (up (up (up (rho0 [a0, a1, a2, a3, a4, a5]) 10 (Value.bool false)) 11 x11) 12 x12) 13 x13) 14 x14) 15 a0) 16 x16) 17 x17) 18 a1) 19 x19) 20 a2) 21 a3) 22 x22) w) (sx fn_ Tryd.prog 26 scope_Table_look_1_R0 (retK Tryd.prog [ResultVar.tmp 10] R) (up (up (up (up (up (up (up (up (up (up (rho0 [a0, a1, a2, a3, a4, a5]) 10 (Value.bool false)) 11 x11) 12 x12) 13 x13) 14 x14) 15 a0) 16 x16) 17 x17) 18 a1) 19 x19) w)
theorem scope_Table_look_1_eq (a0 a1 a2 a3 a4 a5 : Value) (w : World) (R : Value → World → Prop) : sx fn_ Tryd.prog 26 scope_Table_look_1_b (retK Tryd.prog Tryd.f60.results.toList R) (rho0 [a0, a1, a2, a3, a4, a5]) w = scope_Table_look_1_F a0 a1 a2 a3 a4 a5 w R := by kernel_rfl
theorem scope_Table_look_1_calls {a0 a1 a2 a3 a4 a5 : Value} {w : World} {R : Value → World → Prop} (h : scope_Table_look_1_F a0 a1 a2 a3 a4 a5 w R) : Calls Tryd.prog 60 #[a0, a1, a2, a3, a4, a5] w fun e w' => ∃ v, e = .returned v ∧ R v w' :=
  Go.X.calls_of_sx (n := 26) (c := scope_Table_look_1_b) Tryd.func60 (by kernel_rfl) (by kernel_rfl) (Nat.le_of_ble_eq_true rfl) (by kernel_rfl) (Eq.mpr (scope_Table_look_1_eq a0 a1 a2 a3 a4 a5 w R) h)
/-- (*dispatcher/scope.Table).look$2 -/
noncomputable def scope_Table_look_2_b : Code := (Tryd.f61.body).getD .skip
noncomputable def scope_Table_look_2_R0 : Code := cAt [1, 1, 1] scope_Table_look_2_b
noncomputable def scope_Table_look_2_L1 : Code := cAt [1, 1, 1, 0, 1, 0, 0] scope_Table_look_2_b
noncomputable def scope_Table_look_2_R2 : Code := cAt [1, 1, 1, 1] scope_Table_look_2_b
noncomputable def scope_Table_look_2_R0_F (z : At) (K : Exit → Sl → World → Prop) (ρ : Sl) (w : World) : Prop :=
  VK Tryd.prog (Instr.fieldAt 60 (ρ 3) 3) w fun x30 w => VK Tryd.prog (Instr.loadAt 58 x30) w fun x31 w => IK Tryd.prog Builtin.len #[58] 3 [false] [x31] w fun x32 w => W z Tryd.prog 45 (Code.loop scope_Table_look_2_L1) (blkK 1 (seqK (sx z Tryd.prog 45 scope_Table_look_2_R2 K) K)) (up (up (up (up ρ 30 x30) 31 x31) 32 x32) 33 (Value.int IntKind.i64 0)) w
theorem scope_Table_look_2_R0_eq (z : At) (K : Exit → Sl → World → Prop) (ρ : Sl) (w : World) : sx z Tryd.prog 45 scope_Table_look_2_R0 K ρ w = scope_Table_look_2_R0_F z K ρ w := by kernel_rfl
noncomputable def scope_Table_look_2_L1_F (z : At) (K : Exit → Sl → World → Prop) (ρ : Sl) (w : World) : Prop :=
  BK Tryd.prog BinOp.lss 3 (Operand.tmp 33) (Operand.tmp 32) (ρ 33) (ρ 32) w fun x34 w => CondK x34 (VK Tryd.prog (Instr.indexAt 58 (ρ 31) (ρ 33)) w fun x35 w => VK Tryd.prog (Instr.loadAt 60 x35) w fun x36 w => VK Tryd.prog (Instr.alloc 60 true (.tuple #[])) w fun x7 w => UK Tryd.prog (Instr.storeAt 60 x7 x36) w fun _ w => VG Tryd.prog (ρ 5) true (Instr.loadAt 90 (ρ 2)) w fun x39 w => VG Tryd.prog (ρ 5) true (Instr.loadAt 60 x7) w fun x40 w => CG Tryd.prog (ρ 5) true x39 [x40] w fun x41 w => PK Tryd.prog (ρ 5) x41 (Value.bool false) w fun x42 w => BK Tryd.prog BinOp.add 3 (Operand.tmp 33) (Operand.const (Value.int IntKind.i64 1)) (ρ 33) (Value.int IntKind.i64 1) w fun x43 w => K Exit.normal (up (up (up (up (up (up (up (up (up (up (up (up (up ρ 34 x34) 35 x35) 36 x36) 7 x7) 37 (ρ 5)) 38 (ρ 5)) 39 x39) 40 x40) 41 x41) 42 x42) 5 x42) 43 x43) 33 x43) w) (K (Exit.exit 1) (up ρ 34 x34) w)
theorem scope_Table_look_2_L1_eq (z : At) (K : Exit → Sl → World → Prop) (ρ : Sl) (w : World) : sx z Tryd.prog 45 scope_Table_look_2_L1 K ρ w = scope_Table_look_2_L1_F z K ρ w := by kernel_rfl
theorem scope_Table_look_2_L1_ok : dstOk 45 scope_Table_look_2_L1 = true := by kernel_rfl
noncomputable def scope_Table_look_2_R2_F (z : At) (K : Exit → Sl → World → Prop) (ρ : Sl) (w : World) : Prop :=
  K Exit.ret (up (up ρ 44 (ρ 5)) 4 (ρ 5)) w
theorem scope_Table_look_2_R2_eq (z : At) (K : Exit → Sl → World → Prop) (ρ : Sl) (w : World) : sx z Tryd.prog 45 scope_Table_look_2_R2 K ρ w = scope_Table_look_2_R2_F z K ρ w := by kernel_rfl
noncomputable def scope_Table_look_2_F (a0 a1 a2 : Value) (w : World) (R : Value → World → Prop) : Prop :=
  VK Tryd.prog (Instr.box 60 a0) w fun x3 w => VK Tryd.prog (Instr.fieldAt 60 x3 0) w fun x8 w => VK Tryd.prog (Instr.loadAt 5 x8) w fun x9 w => BK Tryd.prog BinOp.eql 5 (Operand.tmp 9) (Operand.const (Value.int IntKind.u8 2)) x9 (Value.int IntKind.u8 2) w fun x11 w => CondK x11 (VK Tryd.prog (Instr.loadAt 89 a1) w fun x12 w => VK Tryd.prog (Instr.fieldAt 60 x3 2) w fun x13 w => VK Tryd.prog (Instr.loadAt 9 x13) w fun x14 w => VK Tryd.prog (Instr.fieldAt 60 x3 4) w fun x15 w => VK Tryd.prog (Instr.loadAt 3 x15) w fun x16 w => VK Tryd.prog (Instr.fieldAt 60 x3 5) w fun x17 w => VK Tryd.prog (Instr.loadAt 3 x17) w fun x18 w => CK Tryd.prog x12 [x14, (Value.int IntKind.u8 1), x16, x18] w fun x19 w => sx fn_ Tryd.prog 45 scope_Table_look_2_R0 (retK Tryd.prog [ResultVar.tmp 4] R) (up (up (up (up (up (up (up (up (up (up (up (up (up (up (up (up (rho0 [a0, a1, a2]) 3 x3) 4 (Value.bool false)) 5 (Value.bool true)) 8 x8) 9 x9) 11 x11) 10 x11) 12 x12) 13 x13) 14 x14) 15 x15) 16 x16) 17 x17) 18 x18) 19 x19) 5 x19) w) (BK Tryd.prog BinOp.eql 5 (Operand.tmp 9) (Operand.const (Value.int IntKind.u8 3)) x9 (Value.int IntKind.u8 3) w fun x21 w => CondK x21 (VK Tryd.prog (Instr.loadAt 89 a1) w fun x22 w => VK Tryd.prog (Instr.fieldAt 60 x3 2) w fun x23 w => VK Tryd.prog (Instr.loadAt 9 x23) w fun x24 w => VK Tryd.prog (Instr.fieldAt 60 x3 4) w fun x25 w => VK Tryd.prog (Instr.loadAt 3 x25) w fun x26 w => VK Tryd.prog (Instr.fieldAt 60 x3 5) w fun x27 w => VK Tryd.prog (Instr.loadAt 3 x27) w fun x28 w => CK Tryd.prog x22 [x24, (Value.int IntKind.u8 2), x26, x28] w fun x29 w => sx fn_ Tryd.prog 45 scope_Table_look_2_R0 (retK Tryd.prog [ResultVar.tmp 4] R) (up (up (up (up (up (up (up (up (up (up (up (up (up (up (up (up (up (up (rho0 [a0, a1, a2]) 3 x3) 4 (Value.bool false)) 5 (Value.bool true)) 8 x8) 9 x9) 11 x11) 10 x11) 21 x21) 20 x21) 22 x22) 23 x23) 24 x24) 25 x25) 26 x26) 27 x27) 28 x28) 29 x29) 5 x29) w) (sx fn_ Tryd.prog 45 scope_Table_look_2_R0 (retK Tryd.prog [ResultVar.tmp 4] R) (up (up (up (up (up (up (up (up (up (rho0 [a0, a1, a2]) 3 x3) 4 (Value.bool false)) 5 (Value.bool true)) 8 x8) 9 x9) 11 x11) 10 x11) 21 x21) 20 x21) w))
theorem scope_Table_look_2_eq (a0 a1 a2 : Value) (w : World) (R : Value → World → Prop) : sx fn_ Tryd.prog 45 scope_Table_look_2_b (retK Tryd.prog Tryd.f61.results.toList R) (rho0 [a0, a1, a2]) w = scope_Table_look_2_F a0 a1 a2 w R := by kernel_rfl
theorem scope_Table_look_2_calls {a0 a1 a2 : Value} {w : World} {R : Value → World → Prop} (h : scope_Table_look_2_F a0 a1 a2 w R) : Calls Tryd.prog 61 #[a0, a1, a2] w fun e w' => ∃ v, e = .returned v ∧ R v w' :=
  Go.X.calls_of_sx (n := 45) (c := scope_Table_look_2_b) Tryd.func61 (by kernel_rfl) (by kernel_rfl) (Nat.le_of_ble_eq_true rfl) (by kernel_rfl) (Eq.mpr (scope_Table_look_2_eq a0 a1 a2 w R) h)
/-- (*dispatcher/scope.Table).look$3 -/
noncomputable def scope_Table_look_3_b : Code := (Tryd.f62.body).getD .skip
noncomputable def scope_Table_look_3_L0 : Code := cAt [1, 0, 1, 0, 0] scope_Table_look_3_b
noncomputable def scope_Table_look_3_R1 : Code := cAt [1, 1] scope_Table_look_3_b
noncomputable def scope_Table_look_3_R2 : Code := cAt [1, 0, 1, 0, 0, 1, 1, 0, 0, 1, 1, 1] scope_Table_look_3_b
noncomputable def scope_Table_look_3_R3 : Code := cAt [1, 0, 1, 0, 0, 1, 1, 0, 0, 1, 1, 0, 1, 0, 1] scope_Table_look_3_b
noncomputable def scope_Table_look_3_R4 : Code := cAt [1, 0, 1, 0, 0, 1, 1, 1] scope_Table_look_3_b
noncomputable def scope_Table_look_3_L5 : Code := cAt [1, 0, 1, 0, 0, 1, 1, 0, 0, 1, 1, 1, 0, 1, 0, 0] scope_Table_look_3_b
noncomputable def scope_Table_look_3_R6 : Code := cAt [1, 0, 1, 0, 0, 1, 1, 0, 0, 1, 1, 1, 1] scope_Table_look_3_b
noncomputable def scope_Table_look_3_L0_F (z : At) (K : Exit → Sl → World → Prop) (ρ : Sl) (w : World) : Prop :=
  BK Tryd.prog BinOp.lss 3 (Operand.tmp 13) (Operand.tmp 12) (ρ 13) (ρ 12) w fun x14 w => CondK x14 (VK Tryd.prog (Instr.indexAt 23 (ρ 11) (ρ 13)) w fun x15 w => VK Tryd.prog (Instr.loadAt 62 x15) w fun x16 w => VK Tryd.prog (Instr.alloc 62 true (.tuple #[])) w fun x7 w => UK Tryd.prog (Instr.storeAt 62 x7 x16) w fun _ w => VK Tryd.prog (Instr.fieldAt 62 x7 0) w fun x17 w => VK Tryd.prog (Instr.loadAt 5 x17) w fun x18 w => BK Tryd.prog BinOp.eql 5 (Operand.tmp 18) (Operand.const (Value.int IntKind.u8 1)) x18 (Value.int IntKind.u8 1) w fun x20 w => CondK x20 (sx z Tryd.prog 71 scope_Table_look_3_R3 (blkK 2 (seqK (sx z Tryd.prog 71 scope_Table_look_3_R2 (blkK 1 (seqK (sx z Tryd.prog 71 scope_Table_look_3_R4 K) K))) (blkK 1 (seqK (sx z Tryd.prog 71 scope_Table_look_3_R4 K) K)))) (up (up (up (up (up (up (up (up (up ρ 14 x14) 15 x15) 16 x16) 7 x7) 8 (Value.bool true)) 17 x17) 18 x18) 20 x20) 19 x20) w) (BK Tryd.prog BinOp.eql 5 (Operand.tmp 18) (Operand.const (Value.int IntKind.u8 5)) x18 (Value.int IntKind.u8 5) w fun x21 w => sx z Tryd.prog 71 scope_Table_look_3_R3 (blkK 2 (seqK (sx z Tryd.prog 71 scope_Table_look_3_R2 (blkK 1 (seqK (sx z Tryd.prog 71 scope_Table_look_3_R4 K) K))) (blkK 1 (seqK (sx z Tryd.prog 71 scope_Table_look_3_R4 K) K)))) (up (up (up (up (up (up (up (up (up (up (up ρ 14 x14) 15 x15) 16 x16) 7 x7) 8 (Value.bool true)) 17 x17) 18 x18) 20 x20) 19 x20) 21 x21) 19 x21) w)) (K (Exit.exit 0) (up ρ 14 x14) w)
theorem scope_Table_look_3_L0_eq (z : At) (K : Exit → Sl → World → Prop) (ρ : Sl) (w : World) : sx z Tryd.prog 71 scope_Table_look_3_L0 K ρ w = scope_Table_look_3_L0_F z K ρ w := by kernel_rfl
theorem scope_Table_look_3_L0_ok : dstOk 71 scope_Table_look_3_L0 = true := by kernel_rfl
noncomputable def scope_Table_look_3_R1_F (z : At) (K : Exit → Sl → World → Prop) (ρ : Sl) (w : World) : Prop :=
  K Exit.ret (up ρ 5 (Value.bool true)) w
theorem scope_Table_look_3_R1_eq (z : At) (K : Exit → Sl → World → Prop) (ρ : Sl) (w : World) : sx z Tryd.prog 71 scope_Table_look_3_R1 K ρ w = scope_Table_look_3_R1_F z K ρ w := by kernel_rfl
noncomputable def scope_Table_look_3_R2_F (z : At) (K : Exit → Sl → World → Prop) (ρ : Sl) (w : World) : Prop :=
  VK Tryd.prog (Instr.fieldAt 62 (ρ 7) 5) w fun x40 w => VK Tryd.prog (Instr.loadAt 58 x40) w fun x41 w => IK Tryd.prog Builtin.len #[58] 3 [false] [x41] w fun x42 w => W z Tryd.prog 71 (Code.loop scope_Table_look_3_L5) (blkK 3 (seqK (sx z Tryd.prog 71 scope_Table_look_3_R6 K) K)) (up (up (up (up ρ 40 x40) 41 x41) 42 x42) 43 (Value.int IntKind.i64 0)) w
theorem scope_Table_look_3_R2_eq (z : At) (K : Exit → Sl → World → Prop) (ρ : Sl) (w : World) : sx z Tryd.prog 71 scope_Table_look_3_R2 K ρ w = scope_Table_look_3_R2_F z K ρ w := by kernel_rfl
noncomputable def scope_Table_look_3_R3_F (z : At) (K : Exit → Sl → World → Prop) (ρ : Sl) (w : World) : Prop :=
  CondK (ρ 19) (VK Tryd.prog (Instr.loadAt 89 (ρ 1)) w fun x22 w => VK Tryd.prog (Instr.fieldAt 62 (ρ 7) 3) w fun x23 w => VK Tryd.prog (Instr.loadAt 9 x23) w fun x24 w => VK Tryd.prog (Instr.fieldAt 62 (ρ 7) 8) w fun x25 w => VK Tryd.prog (Instr.loadAt 3 x25) w fun x26 w => VK Tryd.prog (Instr.fieldAt 62 (ρ 7) 9) w fun x27 w => VK Tryd.prog (Instr.loadAt 3 x27) w fun x28 w => CK Tryd.prog x22 [x24, (Value.int IntKind.u8 1), x26, x28] w fun x29 w => K Exit.normal (up (up (up (up (up (up (up (up (up ρ 22 x22) 23 x23) 24 x24) 25 x25) 26 x26) 27 x27) 28 x28) 29 x29) 8 x29) w) (BK Tryd.prog BinOp.eql 5 (Operand.tmp 18) (Operand.const (Value.int IntKind.u8 2)) (ρ 18) (Value.int IntKind.u8 2) w fun x31 w => CondK x31 (VK Tryd.prog (Instr.loadAt 89 (ρ 1)) w fun x32 w => VK Tryd.prog (Instr.fieldAt 62 (ρ 7) 3) w fun x33 w => VK Tryd.prog (Instr.loadAt 9 x33) w fun x34 w => VK Tryd.prog (Instr.fieldAt 62 (ρ 7) 8) w fun x35 w => VK Tryd.prog (Instr.loadAt 3 x35) w fun x36 w => VK Tryd.prog (Instr.fieldAt 62 (ρ 7) 9) w fun x37 w => VK Tryd.prog (Instr.loadAt 3 x37) w fun x38 w => CK Tryd.prog x32 [x34, (Value.int IntKind.u8 2), x36, x38] w fun x39 w => K Exit.normal (up (up (up (up (up (up (up (up (up (up (up ρ 31 x31) 30 x31) 32 x32) 33 x33) 34 x34) 35 x35) 36 x36) 37 x37) 38 x38) 39 x39) 8 x39) w) (K Exit.normal (up (up ρ 31 x31) 30 x31) w))
theorem scope_Table_look_3_R3_eq (z : At) (K : Exit → Sl → World → Prop) (ρ : Sl) (w : World) : sx z Tryd.prog 71 scope_Table_look_3_R3 K ρ w = scope_Table_look_3_R3_F z K ρ w := by kernel_rfl
noncomputable def scope_Table_look_3_R4_F (z : At) (K : Exit → Sl → World → Prop) (ρ : Sl) (w : World) : Prop :=
  BK Tryd.prog BinOp.add 3 (Operand.tmp 13) (Operand.const (Value.int IntKind.i64 1)) (ρ 13) (Value.int IntKind.i64 1) w fun x70 w => K Exit.normal (up (up ρ 70 x70) 13 x70) w
theorem scope_Table_look_3_R4_eq (z : At) (K : Exit → Sl → World → Prop) (ρ : Sl) (w : World) : sx z Tryd.prog 71 scope_Table_look_3_R4 K ρ w = scope_Table_look_3_R4_F z K ρ w := by kernel_rfl
noncomputable def scope_Table_look_3_L5_F (z : At) (K : Exit → Sl → World → Prop) (ρ : Sl) (w : World) : Prop :=
  BK Tryd.prog BinOp.lss 3 (Operand.tmp 43) (Operand.tmp 42) (ρ 43) (ρ 42) w fun x44 w => CondK x44 (VK Tryd.prog (Instr.indexAt 58 (ρ 41) (ρ 43)) w fun x45 w => VK Tryd.prog (Instr.loadAt 60 x45) w fun x46 w => VK Tryd.prog (Instr.alloc 60 true (.tuple #[])) w fun x10 w => UK Tryd.prog (Instr.storeAt 60 x10 x46) w fun _ w => VG Tryd.prog (ρ 8) true (Instr.loadAt 90 (ρ 2)) w fun x49 w => VG Tryd.prog (ρ 8) true (Instr.loadAt 60 x10) w fun x50 w => CG Tryd.prog (ρ 8) true x49 [x50] w fun x51 w => PK Tryd.prog (ρ 8) x51 (Value.bool false) w fun x52 w => BK Tryd.prog BinOp.add 3 (Operand.tmp 43) (Operand.const (Value.int IntKind.i64 1)) (ρ 43) (Value.int IntKind.i64 1) w fun x53 w => K Exit.normal (up (up (up (up (up (up (up (up (up (up (up (up (up ρ 44 x44) 45 x45) 46 x46) 10 x10) 47 (ρ 8)) 48 (ρ 8)) 49 x49) 50 x50) 51 x51) 52 x52) 8 x52) 53 x53) 43 x53) w) (K (Exit.exit 3) (up ρ 44 x44) w)
theorem scope_Table_look_3_L5_eq (z : At) (K : Exit → Sl → World → Prop) (ρ : Sl) (w : World) : sx z Tryd.prog 71 scope_Table_look_3_L5 K ρ w = scope_Table_look_3_L5_F z K ρ w := by kernel_rfl
theorem scope_Table_look_3_L5_ok : dstOk 71 scope_Table_look_3_L5 = true := by kernel_rfl
noncomputable def scope_Table_look_3_R6_F (z : At) (K : Exit → Sl → World → Prop) (ρ : Sl) (w : World) : Prop :=
  VK Tryd.prog (Op.unary UnOp.not (ρ 8)) w fun x55 w => VG Tryd.prog x55 false (Instr.loadAt 64 (ρ 3)) w fun x57 w => VG Tryd.prog x55 false (Instr.fieldAt 62 (ρ 7) 6) w fun x58 w => VG Tryd.prog x55 false (Instr.loadAt 23 x58) w fun x59 w => CG Tryd.prog x55 false x57 [x59] w fun x60 w => VG Tryd.prog x55 false (Op.unary UnOp.not x60) w fun x61 w => PK Tryd.prog x55 (Value.bool true) x61 w fun x62 w => VG Tryd.prog x62 false (Instr.loadAt 64 (ρ 3)) w fun x64 w => VG Tryd.prog x62 false (Instr.fieldAt 62 (ρ 7) 7) w fun x65 w => VG Tryd.prog x62 false (Instr.loadAt 23 x65) w fun x66 w => CG Tryd.prog x62 false x64 [x66] w fun x67 w => VG Tryd.prog x62 false (Op.unary UnOp.not x67) w fun x68 w => PK Tryd.prog x62 (Value.bool true) x68 w fun x69 w => CondK x69 (K Exit.ret (up (up (up (up (up (up (up (up (up (up (up (up (up (up (up (up (up ρ 54 (ρ 8)) 55 x55) 56 x55) 57 x57) 58 x58) 59 x59) 60 x60) 61 x61) 62 x62) 63 x62) 64 x64) 65 x65) 66 x66) 67 x67) 68 x68) 69 x69) 5 (Value.bool false)) w) (K Exit.normal (up (up (up (up (up (up (up (up (up (up (up (up (up (up (up (up ρ 54 (ρ 8)) 55 x55) 56 x55) 57 x57) 58 x58) 59 x59) 60 x60) 61 x61) 62 x62) 63 x62) 64 x64) 65 x65) 66 x66) 67 x67) 68 x68) 69 x69) w)
theorem scope_Table_look_3_R6_eq (z : At) (K : Exit → Sl → World → Prop) (ρ : Sl) (w : World) : sx z Tryd.prog 71 scope_Table_look_3_R6 K ρ w = scope_Table_look_3_R6_F z K ρ w := by kernel_rfl
noncomputable def scope_Table_look_3_F (a0 a1 a2 a3 : Value) (w : World) (R : Value → World → Prop) : Prop :=
  IK Tryd.prog Builtin.len #[23] 3 [false] [a0] w fun x12 w => W fn_ Tryd.prog 71 (Code.loop scope_Table_look_3_L0) (blkK 0 (seqK (sx fn_ Tryd.prog 71 scope_Table_look_3_R1 (retK Tryd.prog [ResultVar.tmp 5] R)) (retK Tryd.prog [ResultVar.tmp 5] R))) (up (up (up (up (rho0 [a0, a1, a2, a3]) 5 (Value.bool false)) 11 a0) 12 x12) 13 (Value.int IntKind.i64 0)) w
theorem scope_Table_look_3_eq (a0 a1 a2 a3 : Value) (w : World) (R : Value → World → Prop) : sx fn_ Tryd.prog 71 scope_Table_look_3_b (retK Tryd.prog Tryd.f62.results.toList R) (rho0 [a0, a1, a2, a3]) w = scope_Table_look_3_F a0 a1 a2 a3 w R := by kernel_rfl
theorem scope_Table_look_3_calls {a0 a1 a2 a3 : Value} {w : World} {R : Value → World → Prop} (h : scope_Table_look_3_F a0 a1 a2 a3 w R) : Calls Tryd.prog 62 #[a0, a1, a2, a3] w fun e w' => ∃ v, e = .returned v ∧ R v w' :=
  Go.X.calls_of_sx (n := 71) (c := scope_Table_look_3_b) Tryd.func62 (by kernel_rfl) (by kernel_rfl) (Nat.le_of_ble_eq_true rfl) (by kernel_rfl) (Eq.mpr (scope_Table_look_3_eq a0 a1 a2 a3 w R) h)
/-- dispatcher/scope.Check -/
noncomputable def scope_Check_b : Code := (Tryd.f14.body).getD .skip
noncomputable def scope_Check_F (a0 : Value) (w : World) (R : Value → World → Prop) : Prop :=
  VK Tryd.prog (Instr.box 25 a0) w fun x1 w => VK Tryd.prog (Instr.alloc 30 true (.tuple #[])) w fun x2 w => VK Tryd.prog (Instr.loadAt 25 x1) w fun x6 w => CK Tryd.prog (Value.func (Fn.func 13) #[] #[]) [x6] w fun x7 w => VK Tryd.prog (Instr.extract x7 0) w fun x8 w => VK Tryd.prog (Instr.extract x7 1) w fun x9 w => VK Tryd.prog (Instr.alloc 30 true (.tuple #[])) w fun x4 w => UK Tryd.prog (Instr.storeAt 30 x4 x9) w fun _ w => VK Tryd.prog (Instr.loadAt 30 x4) w fun x10 w => UK Tryd.prog (Instr.storeAt 30 x2 x10) w fun _ w => ∃ x2_1, (do loadVar 30 (← asAddr x2) : Sem Value).run Tryd.prog w = .ok x2_1 w ∧ R x2_1 w
theorem scope_Check_eq (a0 : Value) (w : World) (R : Value → World → Prop) : sx fn_ Tryd.prog 11 scope_Check_b (retK Tryd.prog Tryd.f14.results.toList R) (rho0 [a0]) w = scope_Check_F a0 w R := by kernel_rfl
theorem scope_Check_calls {a0 : Value} {w : World} {R : Value → World → Prop} (h : scope_Check_F a0 w R) : Calls Tryd.prog 14 #[a0] w fun e w' => ∃ v, e = .returned v ∧ R v w' :=
  Go.X.calls_of_sx (n := 11) (c := scope_Check_b) Tryd.func14 (by kernel_rfl) (by kernel_rfl) (Nat.le_of_ble_eq_true rfl) (by kernel_rfl) (Eq.mpr (scope_Check_eq a0 w R) h)
/-- dispatcher/dispatcherref02.Copy -/
noncomputable def dispatcherref02_Copy_b : Code := (Tryd.f11.body).getD .skip
noncomputable def dispatcherref02_Copy_R0 : Code := cAt [1, 1, 0] dispatcherref02_Copy_b
noncomputable def dispatcherref02_Copy_R1 : Code := cAt [1, 1, 1] dispatcherref02_Copy_b
noncomputable def dispatcherref02_Copy_R0_ops : Array Oper := opsOf dispatcherref02_Copy_R0
def dispatcherref02_Copy_R0_H (S : World → Prop) (K : Exit → Sl → World → Prop) (ρ : Sl) (w : World) : Prop :=
  HK Tryd.prog S (do pure (Next.value (← Instr.fieldAt 25 (ρ 1) 0))) fun x5 => HK Tryd.prog S (do pure (Next.value (← Instr.loadAt 22 x5))) fun x6 => HK Tryd.prog S (do pure (Next.value (← Instr.fieldAt 25 (ρ 1) 1))) fun x8 => HK Tryd.prog S (do pure (Next.value (← Instr.loadAt 23 x8))) fun x9 => IK Tryd.prog Builtin.append #[22, 22] 22 [false, false] [(ρ 3), x6] w fun x7 w => S w ∧ (CK Tryd.prog (Value.func (Fn.func 32) #[] #[]) [x9] w fun x10 w => S w ∧ (HK Tryd.prog S (do pure (Next.value (← Instr.build 25 [(0, x7), (1, x10)].toArray))) fun x11 => UK Tryd.prog (Instr.storeAt 25 (ρ 2) x11) w fun _ w => S w ∧ (K Exit.normal (up (up (up (up (up (up (up (up ρ 4 (ρ 3)) 5 x5) 6 x6) 8 x8) 9 x9) 7 x7) 10 x10) 11 x11) w)))
theorem dispatcherref02_Copy_R0_held {D : List Deferred} (S : World → Prop) {K : Exit → Sl → World → Prop} {ρ : Sl} {w : World} (hS : S { w with drawn := w.drawn + 1 }) (h : dispatcherref02_Copy_R0_H S K ρ { w with drawn := w.drawn + 1 }) : W ⟨none, D⟩ Tryd.prog 12 dispatcherref02_Copy_R0 K ρ w := by
  have e : dispatcherref02_Copy_R0 = .region (idOf dispatcherref02_Copy_R0) dispatcherref02_Copy_R0_ops true := by kernel_rfl
  have q : sxh Tryd.prog S dispatcherref02_Copy_R0_ops (K .normal) [(0, true), (1, true), (2, true), (4, true), (5, true), (3, false), (6, false), (7, true), (8, false)] ρ { w with drawn := w.drawn + 1 } = dispatcherref02_Copy_R0_H S K ρ { w with drawn := w.drawn + 1 } := by kernel_rfl
  rw [e]
  exact W_held S [(0, true), (1, true), (2, true), (4, true), (5, true), (3, false), (6, false), (7, true), (8, false)] (by kernel_rfl) (by kernel_rfl) (by kernel_rfl) (by kernel_rfl) hS (Eq.mpr q h)
noncomputable def dispatcherref02_Copy_R1_F (z : At) (K : Exit → Sl → World → Prop) (ρ : Sl) (w : World) : Prop :=
  K Exit.ret ρ w
theorem dispatcherref02_Copy_R1_eq (z : At) (K : Exit → Sl → World → Prop) (ρ : Sl) (w : World) : sx z Tryd.prog 12 dispatcherref02_Copy_R1 K ρ w = dispatcherref02_Copy_R1_F z K ρ w := by kernel_rfl
noncomputable def dispatcherref02_Copy_F (a0 : Value) (w : World) (R : Value → World → Prop) : Prop :=
  VK Tryd.prog (Instr.box 25 a0) w fun x1 w => VK Tryd.prog (Instr.alloc 25 true (.tuple #[])) w fun x2 w => W fn_ Tryd.prog 12 dispatcherref02_Copy_R0 (seqK (sx fn_ Tryd.prog 12 dispatcherref02_Copy_R1 (retK Tryd.prog [ResultVar.cell 2 25] R)) (retK Tryd.prog [ResultVar.cell 2 25] R)) (up (up (up (rho0 [a0]) 1 x1) 2 x2) 3 (Value.slice none 0 0)) w
theorem dispatcherref02_Copy_eq (a0 : Value) (w : World) (R : Value → World → Prop) : sx fn_ Tryd.prog 12 dispatcherref02_Copy_b (retK Tryd.prog Tryd.f11.results.toList R) (rho0 [a0]) w = dispatcherref02_Copy_F a0 w R := by kernel_rfl
theorem dispatcherref02_Copy_calls {a0 : Value} {w : World} {R : Value → World → Prop} (h : dispatcherref02_Copy_F a0 w R) : Calls Tryd.prog 11 #[a0] w fun e w' => ∃ v, e = .returned v ∧ R v w' :=
  Go.X.calls_of_sx (n := 12) (c := dispatcherref02_Copy_b) Tryd.func11 (by kernel_rfl) (by kernel_rfl) (Nat.le_of_ble_eq_true rfl) (by kernel_rfl) (Eq.mpr (dispatcherref02_Copy_eq a0 w R) h)
/-- dispatcher/dispatcherref02.CopyStmts -/
noncomputable def dispatcherref02_CopyStmts_b : Code := (Tryd.f32.body).getD .skip
noncomputable def dispatcherref02_CopyStmts_L0 : Code := cAt [1, 1, 0, 1, 0, 0] dispatcherref02_CopyStmts_b
noncomputable def dispatcherref02_CopyStmts_R1 : Code := cAt [1, 1, 1] dispatcherref02_CopyStmts_b
noncomputable def dispatcherref02_CopyStmts_L0_F (z : At) (K : Exit → Sl → World → Prop) (ρ : Sl) (w : World) : Prop :=
  IK Tryd.prog Builtin.len #[23] 3 [false] [(ρ 0)] w fun x8 w => BK Tryd.prog BinOp.lss 3 (Operand.tmp 6) (Operand.tmp 8) (ρ 4) x8 w fun x9 w => CondK x9 (VK Tryd.prog (Instr.indexAt 23 (ρ 0) (ρ 4)) w fun x14 w => VK Tryd.prog (Instr.loadAt 62 x14) w fun x15 w => VK Tryd.prog (Instr.alloc 62 true (.tuple #[])) w fun x5 w => UK Tryd.prog (Instr.storeAt 62 x5 x15) w fun _ w => VK Tryd.prog (Instr.fieldAt 62 x5 5) w fun x16 w => VK Tryd.prog (Instr.loadAt 58 x16) w fun x17 w => CK Tryd.prog (Value.func (Fn.func 56) #[] #[]) [x17] w fun x18 w => VK Tryd.prog (Instr.fieldAt 62 x5 5) w fun x19 w => UK Tryd.prog (Instr.storeAt 58 x19 x18) w fun _ w => VK Tryd.prog (Instr.fieldAt 62 x5 6) w fun x20 w => VK Tryd.prog (Instr.loadAt 23 x20) w fun x21 w => CK Tryd.prog (Value.func (Fn.func 32) #[] #[]) [x21] w fun x22 w => VK Tryd.prog (Instr.fieldAt 62 x5 6) w fun x23 w => UK Tryd.prog (Instr.storeAt 23 x23 x22) w fun _ w => VK Tryd.prog (Instr.fieldAt 62 x5 7) w fun x24 w => VK Tryd.prog (Instr.loadAt 23 x24) w fun x25 w => CK Tryd.prog (Value.func (Fn.func 32) #[] #[]) [x25] w fun x26 w => VK Tryd.prog (Instr.fieldAt 62 x5 7) w fun x27 w => UK Tryd.prog (Instr.storeAt 23 x27 x26) w fun _ w => VK Tryd.prog (Instr.loadAt 62 x5) w fun x29 w => VK Tryd.prog (Instr.buildSlice 23 1 [(0, x29)].toArray) w fun x30 w => IK Tryd.prog Builtin.append #[23, 23] 23 [false, false] [(ρ 3), x30] w fun x31 w => BK Tryd.prog BinOp.add 3 (Operand.tmp 10) (Operand.const (Value.int IntKind.i64 1)) (ρ 4) (Value.int IntKind.i64 1) w fun x11 w => K Exit.normal (up (up (up (up (up (up (up (up (up (up (up (up (up (up (up (up (up (up (up (up (up (up (up (up (up (up (up (up (up ρ 6 (ρ 4)) 7 (ρ 0)) 8 x8) 9 x9) 12 (ρ 0)) 13 (ρ 4)) 14 x14) 15 x15) 5 x5) 16 x16) 17 x17) 18 x18) 19 x19) 20 x20) 21 x21) 22 x22) 23 x23) 24 x24) 25 x25) 26 x26) 27 x27) 28 (ρ 3)) 29 x29) 30 x30) 31 x31) 3 x31) 10 (ρ 4)) 11 x11) 4 x11) w) (K (Exit.exit 0) (up (up (up (up ρ 6 (ρ 4)) 7 (ρ 0)) 8 x8) 9 x9) w)
theorem dispatcherref02_CopyStmts_L0_eq (z : At) (K : Exit → Sl → World → Prop) (ρ : Sl) (w : World) : sx z Tryd.prog 33 dispatcherref02_CopyStmts_L0 K ρ w = dispatcherref02_CopyStmts_L0_F z K ρ w := by kernel_rfl
theorem dispatcherref02_CopyStmts_L0_ok : dstOk 33 dispatcherref02_CopyStmts_L0 = true := by kernel_rfl
noncomputable def dispatcherref02_CopyStmts_R1_F (z : At) (K : Exit → Sl → World → Prop) (ρ : Sl) (w : World) : Prop :=
  K Exit.ret (up (up ρ 32 (ρ 3)) 2 (ρ 3)) w
theorem dispatcherref02_CopyStmts_R1_eq (z : At) (K : Exit → Sl → World → Prop) (ρ : Sl) (w : World) : sx z Tryd.prog 33 dispatcherref02_CopyStmts_R1 K ρ w = dispatcherref02_CopyStmts_R1_F z K ρ w := by kernel_rfl
noncomputable def dispatcherref02_CopyStmts_F (a0 : Value) (w : World) (R : Value → World → Prop) : Prop :=
  W fn_ Tryd.prog 33 (Code.loop dispatcherref02_CopyStmts_L0) (blkK 0 (seqK (sx fn_ Tryd.prog 33 dispatcherref02_CopyStmts_R1 (retK Tryd.prog [ResultVar.tmp 2] R)) (retK Tryd.prog [ResultVar.tmp 2] R))) (up (up (up (rho0 [a0]) 2 (Value.slice none 0 0)) 3 (Value.slice none 0 0)) 4 (Value.int IntKind.i64 0)) w
theorem dispatcherref02_CopyStmts_eq (a0 : Value) (w : World) (R : Value → World → Prop) : sx fn_ Tryd.prog 33 dispatcherref02_CopyStmts_b (retK Tryd.prog Tryd.f32.results.toList R) (rho0 [a0]) w = dispatcherref02_CopyStmts_F a0 w R := by kernel_rfl
theorem dispatcherref02_CopyStmts_calls {a0 : Value} {w : World} {R : Value → World → Prop} (h : dispatcherref02_CopyStmts_F a0 w R) : Calls Tryd.prog 32 #[a0] w fun e w' => ∃ v, e = .returned v ∧ R v w' :=
  Go.X.calls_of_sx (n := 33) (c := dispatcherref02_CopyStmts_b) Tryd.func32 (by kernel_rfl) (by kernel_rfl) (Nat.le_of_ble_eq_true rfl) (by kernel_rfl) (Eq.mpr (dispatcherref02_CopyStmts_eq a0 w R) h)
/-- dispatcher/dispatcherref02.CopyExprs -/
noncomputable def dispatcherref02_CopyExprs_b : Code := (Tryd.f56.body).getD .skip
noncomputable def dispatcherref02_CopyExprs_L0 : Code := cAt [1, 1, 0, 1, 0, 0] dispatcherref02_CopyExprs_b
noncomputable def dispatcherref02_CopyExprs_R1 : Code := cAt [1, 1, 1] dispatcherref02_CopyExprs_b
noncomputable def dispatcherref02_CopyExprs_L0_F (z : At) (K : Exit → Sl → World → Prop) (ρ : Sl) (w : World) : Prop :=
  IK Tryd.prog Builtin.len #[58] 3 [false] [(ρ 0)] w fun x8 w => BK Tryd.prog BinOp.lss 3 (Operand.tmp 6) (Operand.tmp 8) (ρ 4) x8 w fun x9 w => CondK x9 (VK Tryd.prog (Instr.indexAt 58 (ρ 0) (ρ 4)) w fun x14 w => VK Tryd.prog (Instr.loadAt 60 x14) w fun x15 w => VK Tryd.prog (Instr.alloc 60 true (.tuple #[])) w fun x5 w => UK Tryd.prog (Instr.storeAt 60 x5 x15) w fun _ w => VK Tryd.prog (Instr.fieldAt 60 x5 3) w fun x16 w => VK Tryd.prog (Instr.loadAt 58 x16) w fun x17 w => CK Tryd.prog (Value.func (Fn.func 56) #[] #[]) [x17] w fun x18 w => VK Tryd.prog (Instr.fieldAt 60 x5 3) w fun x19 w => UK Tryd.prog (Instr.storeAt 58 x19 x18) w fun _ w => VK Tryd.prog (Instr.loadAt 60 x5) w fun x21 w => VK Tryd.prog (Instr.buildSlice 58 1 [(0, x21)].toArray) w fun x22 w => IK Tryd.prog Builtin.append #[58, 58] 58 [false, false] [(ρ 3), x22] w fun x23 w => BK Tryd.prog BinOp.add 3 (Operand.tmp 10) (Operand.const (Value.int IntKind.i64 1)) (ρ 4) (Value.int IntKind.i64 1) w fun x11 w => K Exit.normal (up (up (up (up (up (up (up (up (up (up (up (up (up (up (up (up (up (up (up (up (up ρ 6 (ρ 4)) 7 (ρ 0)) 8 x8) 9 x9) 12 (ρ 0)) 13 (ρ 4)) 14 x14) 15 x15) 5 x5) 16 x16) 17 x17) 18 x18) 19 x19) 20 (ρ 3)) 21 x21) 22 x22) 23 x23) 3 x23) 10 (ρ 4)) 11 x11) 4 x11) w) (K (Exit.exit 0) (up (up (up (up ρ 6 (ρ 4)) 7 (ρ 0)) 8 x8) 9 x9) w)
theorem dispatcherref02_CopyExprs_L0_eq (z : At) (K : Exit → Sl → World → Prop) (ρ : Sl) (w : World) : sx z Tryd.prog 25 dispatcherref02_CopyExprs_L0 K ρ w = dispatcherref02_CopyExprs_L0_F z K ρ w := by kernel_rfl
theorem dispatcherref02_CopyExprs_L0_ok : dstOk 25 dispatcherref02_CopyExprs_L0 = true := by kernel_rfl
noncomputable def dispatcherref02_CopyExprs_R1_F (z : At) (K : Exit → Sl → World → Prop) (ρ : Sl) (w : World) : Prop :=
  K Exit.ret (up (up ρ 24 (ρ 3)) 2 (ρ 3)) w
theorem dispatcherref02_CopyExprs_R1_eq (z : At) (K : Exit → Sl → World → Prop) (ρ : Sl) (w : World) : sx z Tryd.prog 25 dispatcherref02_CopyExprs_R1 K ρ w = dispatcherref02_CopyExprs_R1_F z K ρ w := by kernel_rfl
noncomputable def dispatcherref02_CopyExprs_F (a0 : Value) (w : World) (R : Value → World → Prop) : Prop :=
  W fn_ Tryd.prog 25 (Code.loop dispatcherref02_CopyExprs_L0) (blkK 0 (seqK (sx fn_ Tryd.prog 25 dispatcherref02_CopyExprs_R1 (retK Tryd.prog [ResultVar.tmp 2] R)) (retK Tryd.prog [ResultVar.tmp 2] R))) (up (up (up (rho0 [a0]) 2 (Value.slice none 0 0)) 3 (Value.slice none 0 0)) 4 (Value.int IntKind.i64 0)) w
theorem dispatcherref02_CopyExprs_eq (a0 : Value) (w : World) (R : Value → World → Prop) : sx fn_ Tryd.prog 25 dispatcherref02_CopyExprs_b (retK Tryd.prog Tryd.f56.results.toList R) (rho0 [a0]) w = dispatcherref02_CopyExprs_F a0 w R := by kernel_rfl
theorem dispatcherref02_CopyExprs_calls {a0 : Value} {w : World} {R : Value → World → Prop} (h : dispatcherref02_CopyExprs_F a0 w R) : Calls Tryd.prog 56 #[a0] w fun e w' => ∃ v, e = .returned v ∧ R v w' :=
  Go.X.calls_of_sx (n := 25) (c := dispatcherref02_CopyExprs_b) Tryd.func56 (by kernel_rfl) (by kernel_rfl) (Nat.le_of_ble_eq_true rfl) (by kernel_rfl) (Eq.mpr (dispatcherref02_CopyExprs_eq a0 w R) h)
end Go.Proofs.YtbnbcimjapiicaaDoor.XG
set_option linter.unusedVariables false
set_option linter.unusedSimpArgs false
set_option maxRecDepth 4000
namespace Go.Proofs.YtbnbcimjapiicaaDoor.Tr
open Go Go.X Go.RowKit Go.Proofs.YtbnbcimjapiicaaDoor.XC Go.Proofs.YtbnbcimjapiicaaDoor.XK
end Go.Proofs.YtbnbcimjapiicaaDoor.Tr
set_option linter.unusedVariables false
set_option linter.unusedSimpArgs false
set_option maxRecDepth 4000
namespace Go.Proofs.YtbnbcimjapiicaaDoor.Tr
open Go Go.X Go.RowKit Go.Proofs.YtbnbcimjapiicaaDoor.XC Go.Proofs.YtbnbcimjapiicaaDoor.XK
end Go.Proofs.YtbnbcimjapiicaaDoor.Tr
set_option linter.unusedVariables false
set_option linter.unusedSimpArgs false
set_option maxRecDepth 4000
namespace Go.Proofs.YtbnbcimjapiicaaDoor.Tr
open Go Go.X Go.RowKit Go.Proofs.YtbnbcimjapiicaaDoor.XG Go.Proofs.YtbnbcimjapiicaaDoor.XK
/-- What a name is. -/
structure En where
  kind : Int
  slot : Int
  base : Int
  places : Int
def En.cells (e : En) : List Value := [.int .u8 e.kind, .int .i64 e.slot, .int .i64 e.base, .int .i64 e.places]
def En.v (e : En) : Value := .agg e.cells.toArray
def zEn : En := ⟨0, 0, 0, 0⟩
abbrev Key := List UInt8
def De.key (d : De) : Key := d.name.data.toList
def isV (d : De) : Bool := decide (d.places = 0)
def vars (l : List De) : Nat := (l.filter isV).length
def arrs (l : List De) : List Int := (l.filter fun d => !isV d).map De.places
def cellsP : List De → Int
  | [] => 0
  | d :: r => d.places + cellsP r
/-- The entry of a declaration behind others. -/
def nu (pre : List De) (d : De) : En := if d.places = 0 then ⟨1, vars pre, 0, 0⟩ else ⟨2, (arrs pre).length, cellsP pre, d.places⟩
def findF (pre : List De) : List De → Key → En
  | [], _ => zEn
  | d :: r, k => if d.key = k then nu pre d else findF (pre ++ [d]) r k
def findP (l : List De) (k : Key) : En := findF [] l k
theorem vars_snoc (l : List De) (d : De) : vars (l ++ [d]) = vars l + if isV d then 1 else 0 := by
  unfold vars; rw [List.filter_append, List.length_append]; congr 1; by_cases h : isV d <;> simp [h]
theorem arrs_snoc (l : List De) (d : De) : arrs (l ++ [d]) = arrs l ++ if isV d then [] else [d.places] := by
  unfold arrs; rw [List.filter_append, List.map_append]; congr 1; by_cases h : isV d <;> simp [h]
theorem cellsP_snoc (l : List De) (d : De) : cellsP (l ++ [d]) = cellsP l + d.places := by
  induction l with
  | nil => simp [cellsP]
  | cons a r ih => simp only [List.cons_append, cellsP, ih]; omega
theorem findF_no (k : Key) : ∀ (l1 pre l2 : List De), (∀ a ∈ l1, a.key ≠ k) → findF pre (l1 ++ l2) k = findF (pre ++ l1) l2 k
  | [], pre, l2, _ => by simp
  | d :: r, pre, l2, h => by
    rw [List.cons_append, findF, if_neg (h d (by simp)), findF_no k r _ _ (fun a ha => h a (List.mem_cons_of_mem _ ha)), List.append_assoc]
    rfl
theorem nu_kind (pre : List De) (d : De) : (nu pre d).kind ≠ 0 := by unfold nu; split <;> simp
theorem arrs_le (l : List De) : (arrs l).length ≤ l.length := by unfold arrs; rw [List.length_map]; exact List.length_filter_le _ _
theorem may_places {d : De} (h : d.may = true) : 0 ≤ d.places ∧ d.places ≤ 1000 := by
  unfold De.may at h
  simp only [Bool.and_eq_true, decide_eq_true_eq] at h
  exact ⟨h.1.2, h.2⟩
theorem cellsP_le {l : List De} (h : ∀ d ∈ l, d.may = true) : 0 ≤ cellsP l ∧ cellsP l ≤ 1000 * l.length := by
  induction l with
  | nil => simp [cellsP]
  | cons d r ih =>
    have h1 := may_places (h d (by simp))
    have h2 := ih (fun a ha => h a (List.mem_cons_of_mem _ ha))
    simp only [cellsP, List.length_cons]
    omega
theorem zEnt : (Tryd.prog.info? 37).bind (·.zero) = some (.agg zEn.cells.toArray) := by kernel_rfl
theorem iEnt : (Tryd.prog.info? 37).map (·.size) = some 4 := by kernel_rfl
theorem bEnt0 : Tryd.prog.built 37 [] = some zEn.cells.toArray := by kernel_rfl
theorem bEnt1 (n : Int) : Tryd.prog.built 37 [(0, .int .u8 1), (1, .int .i64 n)] = some (En.mk 1 n 0 0).cells.toArray := by kernel_rfl
theorem bEnt2 (a b c : Int) : Tryd.prog.built 37 [(0, .int .u8 2), (1, .int .i64 a), (2, .int .i64 b), (3, .int .i64 c)] = some (En.mk 2 a b c).cells.toArray := by kernel_rfl
theorem en_one (e : En) : (e.cells.toArray.all (·.oneCell')) = true := by simp [En.cells, Value.oneCell']
theorem uSt : Tryd.prog.underlying 9 = some .string := by kernel_rfl
end Go.Proofs.YtbnbcimjapiicaaDoor.Tr
set_option linter.unusedVariables false
set_option linter.unusedSimpArgs false
set_option maxRecDepth 4000
namespace Go.Proofs.YtbnbcimjapiicaaDoor.Tr
open Go Go.X Go.RowKit Go.Proofs.YtbnbcimjapiicaaDoor.XG Go.Proofs.YtbnbcimjapiicaaDoor.XK
/-- What is wrong, and where. -/
structure Wr where
  err : Int
  line : Int
  col : Int
deriving DecidableEq
def Wr.cells (e : Wr) : List Value := [.int .i64 e.err, .int .i64 e.line, .int .i64 e.col]
def Wr.v (e : Wr) : Value := .agg e.cells.toArray
def zWr : Wr := ⟨0, 0, 0⟩
theorem zWrg : (Tryd.prog.info? 30).bind (·.zero) = some (.agg zWr.cells.toArray) := by kernel_rfl
theorem iWrg : (Tryd.prog.info? 30).map (·.size) = some 3 := by kernel_rfl
theorem bWr0 : Tryd.prog.built 30 [] = some zWr.cells.toArray := by kernel_rfl
theorem bWr1 (n : Int) : Tryd.prog.built 30 [(0, .int .i64 n)] = some (Wr.mk n 0 0).cells.toArray := by kernel_rfl
theorem bWr3 (n a b : Int) : Tryd.prog.built 30 [(0, .int .i64 n), (1, .int .i64 a), (2, .int .i64 b)] = some (Wr.mk n a b).cells.toArray := by kernel_rfl
theorem wr_one (e : Wr) : (e.cells.toArray.all (·.oneCell')) = true := by simp [Wr.cells, Value.oneCell']
theorem isU (w : World) : (isAgg 5).run Tryd.prog w = .ok false w := by unfold isAgg; rw [Sem.run_bind, run_underlying Tryd.underlying5 w]; rfl
theorem fldK {w : World} {K : Value → World → Prop} (e : En) : VK Tryd.prog (Instr.field 37 e.v 0) w K = K (.int .u8 e.kind) w := by
  refine VK_eq_of ?_
  unfold Instr.field
  simp [Sem.run_bind, run_underlying Tryd.underlying37, part, isU, En.v, En.cells, asAgg]
end Go.Proofs.YtbnbcimjapiicaaDoor.Tr
namespace Go.X
open Go Go.Proofs.YtbnbcimjapiicaaDoor.Tr
/-- What is wrong with names, of an expression, of statements. -/
def Ex.bad (f : Key → Int) (e : Ex) : Bool := decide (e.op = 2 ∧ f e.name.data.toList ≠ 1) || decide (e.op = 3 ∧ f e.name.data.toList ≠ 2)
def St.bad (f : Key → Int) (e : St) : Bool := decide ((e.op = 1 ∨ e.op = 5) ∧ f e.name.data.toList ≠ 1) || decide (e.op = 2 ∧ f e.name.data.toList ≠ 2)
mutual
def Ex.wr (f : Key → Int) : Ex → Wr
  | ⟨op, num, name, s, args, line, col⟩ => if Ex.bad f ⟨op, num, name, s, args, line, col⟩ then ⟨40, line, col⟩ else Ex.wrL f args
def Ex.wrL (f : Key → Int) : List Ex → Wr
  | [] => zWr
  | e :: r => if (Ex.wr f e).err = 0 then Ex.wrL f r else Ex.wr f e
end
mutual
def St.wr (f : Key → Int) : St → Wr
  | ⟨op, kind, red, name, turns, es, exprs, bs, body, ls, els, line, col⟩ => if St.bad f ⟨op, kind, red, name, turns, es, exprs, bs, body, ls, els, line, col⟩ then ⟨40, line, col⟩ else
    if (Ex.wrL f exprs).err = 0 then (if (St.wrL f body).err = 0 then St.wrL f els else St.wrL f body) else Ex.wrL f exprs
def St.wrL (f : Key → Int) : List St → Wr
  | [] => zWr
  | e :: r => if (St.wr f e).err = 0 then St.wrL f r else St.wr f e
end
theorem Ex.wr_eq (f : Key → Int) (e : Ex) : e.wr f = if e.bad f then ⟨40, e.line, e.col⟩ else Ex.wrL f e.args := by obtain ⟨op, num, name, s, args, line, col⟩ := e; rw [Ex.wr]
theorem St.wr_eq (f : Key → Int) (e : St) : e.wr f = if e.bad f then ⟨40, e.line, e.col⟩ else if (Ex.wrL f e.exprs).err = 0 then (if (St.wrL f e.body).err = 0 then St.wrL f e.els else St.wrL f e.body) else Ex.wrL f e.exprs := by obtain ⟨op, kind, red, name, turns, es, exprs, bs, body, ls, els, line, col⟩ := e; rw [St.wr]
theorem Ex.wrL_all {f : Key → Int} : ∀ {l : List Ex}, (∀ a ∈ l, (a.wr f).err = 0) → Ex.wrL f l = zWr
  | [], _ => by rw [Ex.wrL]
  | e :: r, h => by rw [Ex.wrL, if_pos (h e (by simp)), Ex.wrL_all fun a ha => h a (List.mem_cons_of_mem _ ha)]
theorem St.wrL_all {f : Key → Int} : ∀ {l : List St}, (∀ a ∈ l, (a.wr f).err = 0) → St.wrL f l = zWr
  | [], _ => by rw [St.wrL]
  | e :: r, h => by rw [St.wrL, if_pos (h e (by simp)), St.wrL_all fun a ha => h a (List.mem_cons_of_mem _ ha)]
theorem Ex.wrL_at {f : Key → Int} : ∀ {l : List Ex} {n : Nat} {e : Ex}, l[n]? = some e → (∀ a ∈ l.take n, (a.wr f).err = 0) → (e.wr f).err ≠ 0 → Ex.wrL f l = e.wr f
  | [], n, e, h, _, _ => by simp at h
  | a :: r, 0, e, h, _, hb => by simp at h; subst h; rw [Ex.wrL, if_neg hb]
  | a :: r, n + 1, e, h, hn, hb => by
    rw [Ex.wrL, if_pos (hn a (by simp)), Ex.wrL_at (by simpa using h) (fun a ha => hn a (by simp; right; exact ha)) hb]
theorem St.wrL_at {f : Key → Int} : ∀ {l : List St} {n : Nat} {e : St}, l[n]? = some e → (∀ a ∈ l.take n, (a.wr f).err = 0) → (e.wr f).err ≠ 0 → St.wrL f l = e.wr f
  | [], n, e, h, _, _ => by simp at h
  | a :: r, 0, e, h, _, hb => by simp at h; subst h; rw [St.wrL, if_neg hb]
  | a :: r, n + 1, e, h, hn, hb => by
    rw [St.wrL, if_pos (hn a (by simp)), St.wrL_at (by simpa using h) (fun a ha => hn a (by simp; right; exact ha)) hb]
theorem Ex.wr_z {f : Key → Int} : ∀ e : Ex, (e.wr f).err = 0 → e.wr f = zWr := by
  intro e
  induction e using Ex.ind with
  | h e ih =>
    rw [Ex.wr_eq]
    split
    · intro h; simp at h
    · have : ∀ l : List Ex, (∀ a ∈ l, (a.wr f).err = 0 → a.wr f = zWr) → (Ex.wrL f l).err = 0 → Ex.wrL f l = zWr := by
        intro l
        induction l with
        | nil => intro _ _; rw [Ex.wrL]
        | cons a r ihr =>
          intro hl
          rw [Ex.wrL]
          split
          · exact ihr fun b hb => hl b (List.mem_cons_of_mem _ hb)
          · intro h; contradiction
      exact this e.args ih
theorem Ex.wrL_z {f : Key → Int} : ∀ l : List Ex, (Ex.wrL f l).err = 0 → Ex.wrL f l = zWr
  | [], _ => by rw [Ex.wrL]
  | a :: r, h => by
    rw [Ex.wrL] at h ⊢
    split at h
    · rename_i q; rw [if_pos q]; exact Ex.wrL_z r h
    · contradiction
theorem St.wrL_z {f : Key → Int} : ∀ l : List St, (∀ a ∈ l, (a.wr f).err = 0 → a.wr f = zWr) → (St.wrL f l).err = 0 → St.wrL f l = zWr
  | [], _, _ => by rw [St.wrL]
  | a :: r, hl, h => by
    rw [St.wrL] at h ⊢
    split at h
    · rename_i q; rw [if_pos q]; exact St.wrL_z r (fun b hb => hl b (List.mem_cons_of_mem _ hb)) h
    · contradiction
theorem St.wr_z {f : Key → Int} : ∀ e : St, (e.wr f).err = 0 → e.wr f = zWr := by
  intro e
  induction e using St.ind with
  | h e ih1 ih2 =>
    rw [St.wr_eq]
    split
    · intro h; simp at h
    · split
      · split
        · exact St.wrL_z _ ih2
        · intro h; contradiction
      · intro h; contradiction
end Go.X
set_option linter.unusedVariables false
set_option linter.unusedSimpArgs false
set_option maxRecDepth 4000
namespace Go.Proofs.YtbnbcimjapiicaaDoor.Tr
open Go Go.X Go.RowKit Go.Proofs.YtbnbcimjapiicaaDoor.XG Go.Proofs.YtbnbcimjapiicaaDoor.XK
/-- What declarations tell of a name. -/
def kindP (l : List De) : Key → Int := fun k => (findP l k).kind
structure Decls (l : List De) : Prop where
  len : l.length ≤ 1099511627776
  may : ∀ d ∈ l, d.may = true
theorem uErrI : Tryd.prog.underlying 28 = some (.int .i64) := by kernel_rfl
end Go.Proofs.YtbnbcimjapiicaaDoor.Tr
set_option linter.unusedVariables false
set_option linter.unusedSimpArgs false
set_option maxRecDepth 4000
namespace Go.Proofs.YtbnbcimjapiicaaDoor.Tr
open Go Go.X Go.RowKit Go.Proofs.YtbnbcimjapiicaaDoor.XG Go.Proofs.YtbnbcimjapiicaaDoor.XK
end Go.Proofs.YtbnbcimjapiicaaDoor.Tr
set_option linter.unusedVariables false
set_option linter.unusedSimpArgs false
set_option maxRecDepth 4000
namespace Go.Proofs.YtbnbcimjapiicaaDoor.Tr
open Go Go.X Go.RowKit Go.Proofs.YtbnbcimjapiicaaDoor.XG Go.Proofs.YtbnbcimjapiicaaDoor.XK
def encK (k : Key) : Value := .string ⟨k.toArray⟩
theorem encK_of (b : ByteArray) : encK b.data.toList = .string b := by unfold encK; simp
theorem beqB (a b : Key) : ((⟨a.toArray⟩ : ByteArray) == ⟨b.toArray⟩) = decide (a = b) := by
  show ((a.toArray : Array UInt8) == b.toArray) = decide (a = b)
  by_cases h : a = b
  · subst h; simp
  · rw [decide_eq_false h]
    apply Bool.eq_false_iff.2
    intro q
    apply h
    have := eq_of_beq q
    simpa using this
theorem chkS (e : Bool) (n : Nat) (k : ByteArray) (w : World) : (Instr.checkKey e (n + 1) 9 (.string k)).run Tryd.prog w = .ok () w := by
  simp [Instr.checkKey, Sem.run_bind, run_underlying uSt]
theorem KT : KeyT Tryd.prog 9 encK where
  find := fun k l w => by
    have gen : ∀ (l : List (Ent Key)) (i : Nat), Instr.findNow .string (encK k) (l.map (Ent.enc encK)) i = some (findE k l i) := by
      intro l
      induction l with
      | nil => intro i; rfl
      | cons e r ih =>
        intro i
        simp only [List.map_cons, Instr.findNow, Ent.enc, encK, Instr.sameNow, beqB, findE]
        by_cases h : k = e.k
        · simp [h]
        · simp only [h, decide_false, if_false]
          exact ih (i + 1)
    unfold Instr.findKey
    rw [Sem.run_bind, run_underlying uSt]
    simp only [Result.andThen_ok, gen]
    rfl
  check := fun e k w => chkS e 9999 _ w
  bits := fun k => by
    show Instr.sameBits (9999 + 1) _ _ = true
    simp [encK, Instr.sameBits]
    show ((k.toArray : Array UInt8) == k.toArray) = true
    simp
  inj := fun a b h => by simpa [encK] using h
/-- What a map tells of a key. -/
def valE (k : Key) (l : List (Ent Key)) : Value := match findE k l 0 with | some (_, v) => v | none => zEn.v
theorem uMap : Tryd.prog.underlying 69 = some (.map 9 37) := by kernel_rfl
theorem look_ok {w : World} {K : Value → World → Prop} {b : Nat} {l : List (Ent Key)} {c : Nat} (h : IsMap encK w b l c) (k : ByteArray) (hk : K (valE k.data.toList l) w) : VK Tryd.prog (Instr.lookup 69 (.map (some b)) (.string k) false) w K := by
  have hr := run_look KT uMap h zEnt k.data.toList false
  rw [encK_of] at hr
  refine VK_of hr ?_
  unfold valE at hk
  cases hf : findE k.data.toList l 0 with
  | none => rw [hf] at hk; exact hk
  | some p => obtain ⟨i, v⟩ := p; rw [hf] at hk; exact hk
/-- A table in memory: of these declarations, all well. -/
structure TbAt (w : World) (base t : Nat) (ds : List De) : Prop where
  at' : ∃ nv av m l c, w.heap[t]? = some (.cells #[nv, .map (some m), .int .i64 (vars ds), av, .int .i64 (cellsP ds)] 71 (0, 0)) ∧
    IsMap encK w m l c ∧ (∀ k, valE k l = (findP ds k).v) ∧ base ≤ t ∧ base ≤ m ∧
    w.ownsRow base 9 1 nv ds.length (ds.map fun d => .string d.name) ∧ w.ownsRow base 3 1 av (arrs ds).length ((arrs ds).map (.int .i64))
end Go.Proofs.YtbnbcimjapiicaaDoor.Tr
set_option linter.unusedVariables false
set_option linter.unusedSimpArgs false
set_option maxRecDepth 4000
namespace Go.Proofs.YtbnbcimjapiicaaDoor.Tr
open Go Go.X Go.RowKit Go.Proofs.YtbnbcimjapiicaaDoor.XG Go.Proofs.YtbnbcimjapiicaaDoor.XK
theorem TbAt.mod {w w' : World} {base t : Nat} {ds : List De} (h : TbAt w base t ds) (hm : Mod none_ w w') : TbAt w' base t ds := by
  obtain ⟨nv, av, m, l, c, h1, h2, h3, h4, h5, h6, h7⟩ := h.at'
  exact ⟨⟨nv, av, m, l, c, hm.blk h1 id, h2.mod hm id, h3, h4, h5, owns_mod h6 hm (fun _ _ => id), owns_mod h7 hm (fun _ _ => id)⟩⟩
abbrev pt (b : Nat) : Value := .pointer (some ⟨b, 0, none⟩)
/-- Where the closures' variables lie. -/
structure Cx where
  w0 : World
  base : Nat
  t : Nat
  x2 : Nat
  x5 : Nat
  x6 : Nat
  x7 : Nat
  x8 : Nat
  ds : List De
structure Clo (C : Cx) (r : Wr) (w : World) : Prop where
  m : Mod none_ C.w0 w
  tb : TbAt C.w0 C.base C.t C.ds
  b2 : w.heap[C.x2]? = some (.cells #[pt C.t] 32 (0, 0))
  b5 : w.heap[C.x5]? = some (.cells r.cells.toArray 30 (0, 0))
  b6 : w.heap[C.x6]? = some (.cells #[.func (.func 60) #[] #[pt C.x2, pt C.x5]] 89 (0, 0))
  b7 : w.heap[C.x7]? = some (.cells #[.func (.func 61) #[] #[pt C.x6, pt C.x7]] 90 (0, 0))
  b8 : w.heap[C.x8]? = some (.cells #[.func (.func 62) #[] #[pt C.x6, pt C.x7, pt C.x8]] 64 (0, 0))
  d : C.x2 ≠ C.x5 ∧ C.x6 ≠ C.x5 ∧ C.x7 ≠ C.x5 ∧ C.x8 ≠ C.x5 ∧ C.w0.heap.size ≤ C.x5
theorem Clo.step {C : Cx} {r : Wr} {w w' : World} (h : Clo C r w) (hm : Mod none_ w w') : Clo C r w' :=
  ⟨h.m.trans hm, h.tb, hm.blk h.b2 id, hm.blk h.b5 id, hm.blk h.b6 id, hm.blk h.b7 id, hm.blk h.b8 id, h.d⟩
theorem Clo.put {C : Cx} {r r' : Wr} {w w' : World} (h : Clo C r w) (hm : Mod (fun i => i = C.x5) w w') (hb : w'.heap[C.x5]? = some (.cells r'.cells.toArray 30 (0, 0))) : Clo C r' w' :=
  ⟨h.m.then hm (fun i hi q => by have := h.d.2.2.2.2; omega), h.tb, hm.blk h.b2 h.d.1, hb, hm.blk h.b6 h.d.2.1, hm.blk h.b7 h.d.2.2.1, hm.blk h.b8 h.d.2.2.2.1, h.d⟩
theorem uMp : Tryd.prog.underlying 69 = some (.map 9 37) := by kernel_rfl
theorem must_ok {C : Cx} {w : World} (h : Clo C zWr w) (k : ByteArray) (kd l c : Int) :
    Rt Tryd.prog 60 #[.string k, .int .u8 kd, .int .i64 l, .int .i64 c, pt C.x2, pt C.x5] w fun v w' => v = .bool (decide (kindP C.ds k.data.toList = kd)) ∧ Clo C (if kindP C.ds k.data.toList = kd then zWr else ⟨40, l, c⟩) w' ∧ Mod (fun i => i = C.x5) w w' := by
  obtain ⟨nv, av, m, es, ck, h1, h2, h3, h4, h5, h6, h7⟩ := (h.tb.mod h.m).at'
  refine scope_Table_look_1_calls ?_
  unfold scope_Table_look_1_F
  refine ldOne rfl Tryd.underlying32 rfl h.b2 ?_
  rw [NK_ptr]
  have f1 : FAt Tryd.prog w 71 1 ⟨C.t, 0, none⟩ 69 (.map (some m)) := FAt.mk' (off := 1) (by kernel_rfl) uMp rfl (by rw [add_pl, cell_blk h1]; rfl)
  refine f1.vk' fun x13 => ?_
  refine look_ok h2 k ?_
  rw [h3, fldK]
  have fin : ∀ (ρ' : Sl) (w' : World) (r : Wr), Clo C r w' → Mod (fun i => i = C.x5) w w' → ρ' 5 = pt C.x5 → (r = if kindP C.ds k.data.toList = kd then zWr else ⟨40, l, c⟩) →
      sx fn_ Tryd.prog 26 scope_Table_look_1_R0 (retK Tryd.prog [ResultVar.tmp 10] fun v w' => v = .bool (decide (kindP C.ds k.data.toList = kd)) ∧ Clo C (if kindP C.ds k.data.toList = kd then zWr else ⟨40, l, c⟩) w' ∧ Mod (fun i => i = C.x5) w w') ρ' w' := by
    intro ρ' w' r hc hmm q5 hr
    have g0 : FAt Tryd.prog w' 30 0 ⟨C.x5, 0, none⟩ 28 (.int .i64 r.err) := FAt.mk' (off := 0) (by kernel_rfl) uErrI rfl (by rw [add_pl, cell_blk hc.b5]; rfl)
    rw [scope_Table_look_1_R0_eq]
    unfold scope_Table_look_1_R0_F
    rw [q5]
    refine g0.vk' fun x23 => ?_
    rw [BK_eql]
    refine ⟨?_, hr ▸ hc, hmm⟩
    show Value.bool _ = _
    rw [hr]
    by_cases q : kindP C.ds k.data.toList = kd <;> simp [q, zWr]
  refine BKneI (a := kindP C.ds k.data.toList) (b := kd) rfl rfl (fun hq => condF ?_) (fun hq => condT ?_)
  · exact fin _ w zWr h (Mod.refl _ _) rfl (by rw [if_pos hq])
  · rw [build_ok (bWr3 _ _ _)]
    refine stS (b := C.x5) (old := zWr.cells.toArray) (cs := (Wr.mk 40 l c).cells.toArray) rfl rfl iWrg rfl (wr_one _) h.b5 fun w2 hb2 hm2 _ => ?_
    exact fin _ w2 ⟨40, l, c⟩ (h.put hm2 hb2) hm2 rfl (by rw [if_neg hq])
/-- An expression, looked at by the program. -/
theorem exprC_ok {C : Cx} : ∀ (e : Ex) (w : World), Clo C zWr w → e.Ok C.w0 → e.sz ≤ 1099511627776 →
    Rt Tryd.prog 61 #[.agg e.cells.toArray, pt C.x6, pt C.x7] w fun v w' => v = .bool (decide ((e.wr (kindP C.ds)).err = 0)) ∧ Clo C (e.wr (kindP C.ds)) w' ∧ Mod (fun i => i = C.x5) w w' := by
  intro e
  induction e using Ex.ind with
  | h e ih =>
    intro w hC hok hsz
    obtain ⟨A, c, hs, _⟩ := reads_cap hok.args.1
    have hszL : Ex.szL e.args ≤ 1099511627776 := by rw [Ex.sz_eq] at hsz; omega
    have hlen := Ex.len_sz e.args
    have hwr := Ex.wr_eq (kindP C.ds) e
    refine scope_Table_look_2_calls ?_
    unfold scope_Table_look_2_F
    refine box_k (cs := e.cells.toArray) rfl fun w1 hb1 hm1 hz1 => ?_
    have hC1 := hC.step hm1
    have hx5 : C.x5 < w.heap.size := blk_lt hC.b5
    generalize hbe : w.heap.size = be at *
    have d0 : FAt Tryd.prog w1 60 0 ⟨be, 0, none⟩ 5 (.int .u8 e.op) := FAt.mk' (off := 0) (by kernel_rfl) uU8 rfl (by rw [add_pl, cell_blk hb1]; rfl)
    have d2 : FAt Tryd.prog w1 60 2 ⟨be, 0, none⟩ 9 (.string e.name) := FAt.mk' (off := 2) (by kernel_rfl) uSt rfl (by rw [add_pl, cell_blk hb1]; rfl)
    have d4 : FAt Tryd.prog w1 60 4 ⟨be, 0, none⟩ 3 (.int .i64 e.line) := FAt.mk' (off := 4) (by kernel_rfl) uI rfl (by rw [add_pl, cell_blk hb1]; rfl)
    have d5 : FAt Tryd.prog w1 60 5 ⟨be, 0, none⟩ 3 (.int .i64 e.col) := FAt.mk' (off := 5) (by kernel_rfl) uI rfl (by rw [add_pl, cell_blk hb1]; rfl)
    have r0 : ∀ (ρ' : Sl) (w2 : World) (r : Wr), Clo C r w2 → Mod (fun i => i = C.x5) w w2 → w2.heap[be]? = some (.cells e.cells.toArray 60 (0, 0)) → ρ' 3 = pt be → ρ' 2 = pt C.x7 → ρ' 5 = .bool (decide (r.err = 0)) → (r.err = 0 → r = zWr ∧ e.bad (kindP C.ds) = false) → (r.err ≠ 0 → e.wr (kindP C.ds) = r) →
        sx fn_ Tryd.prog 45 scope_Table_look_2_R0 (retK Tryd.prog [ResultVar.tmp 4] fun v w' => v = .bool (decide ((e.wr (kindP C.ds)).err = 0)) ∧ Clo C (e.wr (kindP C.ds)) w' ∧ Mod (fun i => i = C.x5) w w') ρ' w2 := by
      intro ρ' w2 r hC2 hmm hb2 q3 q2 q5 hr0 hr1
      rw [scope_Table_look_2_R0_eq]
      unfold scope_Table_look_2_R0_F
      have f3 : FAt Tryd.prog w2 60 3 ⟨be, 0, none⟩ 58 (.slice A e.args.length c) := FAt.mk' (off := 3) (by kernel_rfl) uExs rfl (by rw [add_pl, cell_blk hb2, ← hs]; rfl)
      refine f3.vs q3 fun x30 => ?_
      rw [len58]
      refine W_loop scope_Table_look_2_L1_ok (fun ρ w' => ∃ (n : Nat) (r : Wr), n ≤ e.args.length ∧ ρ 33 = .int .i64 n ∧ ρ 32 = .int .i64 e.args.length ∧ ρ 31 = .slice A e.args.length c ∧ ρ 2 = pt C.x7 ∧ ρ 5 = .bool (decide (r.err = 0)) ∧ Clo C r w' ∧ Mod (fun i => i = C.x5) w w' ∧ (r.err = 0 → r = zWr ∧ e.bad (kindP C.ds) = false ∧ ∀ a ∈ e.args.take n, (a.wr (kindP C.ds)).err = 0) ∧ (r.err ≠ 0 → e.wr (kindP C.ds) = r)) (fun ρ _ => e.args.length - (intOf (ρ 33)).toNat)
        ⟨0, r, Nat.zero_le _, rfl, rfl, rfl, q2, q5, hC2, hmm, fun q => ⟨(hr0 q).1, (hr0 q).2, by simp⟩, hr1⟩ ?_
      rintro ρ w3 ⟨n, r, hn, h33, h32, h31, h2, h5, hC3, hm3, g0, g1⟩
      rw [scope_Table_look_2_L1_eq]
      unfold scope_Table_look_2_L1_F
      rw [h33, h32, h31]
      refine BKlss (a := n) (b := e.args.length) rfl rfl ?_
      by_cases hlt : n < e.args.length
      · rw [show decide ((n : Int) < (e.args.length : Int)) = true by rw [decide_eq_true_eq]; omega]
        refine condT ?_
        have hx : e.args[n]? = some e.args[n] := List.getElem?_eq_getElem hlt
        have hmem : e.args[n] ∈ e.args := List.getElem_mem hlt
        have hok3 := hok.args.mod hC3.m
        rw [hs] at hok3
        have hs2 := Ex.szL_at hx
        refine ixEx hok3 hx fun y => ?_
        refine lcl_k (cs := e.args[n].cells.toArray) zEx _ iEx rfl (ex_one (hok3.at hx)) fun w4 hb4 hm4 _ => ?_
        have hC4 := hC3.step hm4
        generalize w3.heap.size = b7 at *
        rw [h5]
        by_cases hz : r.err = 0
        · obtain ⟨rfl, hbad, hall⟩ := g0 hz
          rw [show decide (zWr.err = 0) = true from rfl]
          simp only [CondK_bool, MG_u, NG_u, VG_u, UG_u, PG_u, BG_u, CG_u, IG_u, MG_b, NG_b, VG_b, UG_b, PG_b, BG_b, CG_b, IG_b, PK_bool, NK_ptr, not_ok, reduceCtorEq, if_true, if_false, Bool.true_eq_false, Bool.false_eq_true, Bool.not_true, Bool.not_false]
          refine ldOne h2 Tryd.underlying90 rfl hC4.b7 ?_
          refine ldS (cs := e.args[n].cells.toArray) rfl Tryd.underlying60 rfl iEx hb4 ?_
          refine CK_fn (f := 61) (first := #[]) (cap := #[pt C.x6, pt C.x7]) (args := [.agg e.args[n].cells.toArray]) Tryd.func61 rfl rfl (ih _ hmem w4 hC4 (hok.args.2 _ hmem) (by omega)) ?_
          rintro _ w5 ⟨rfl, hC5, hm5⟩
          refine BKadd (a := n) (b := 1) rfl rfl (by omega) (by omega) ?_
          refine ⟨⟨n + 1, e.args[n].wr (kindP C.ds), hlt, rfl, h32, h31, ?_, rfl, hC5, ((hm3.trans (hm4.mono fun _ _ q => q.elim)).trans hm5), fun q => ⟨Ex.wr_z _ q, hbad, ?_⟩, fun q => ?_⟩, ?_⟩
          · exact h2
          · rw [List.take_add_one, hx, Option.toList_some]
            intro a ha
            rcases List.mem_append.1 ha with ha | ha
            · exact hall a ha
            · rw [List.mem_singleton.1 ha]; exact q
          · rw [hwr, hbad, ← Ex.wrL_at hx hall q]; rfl
          · show e.args.length - (intOf (Value.int .i64 ((n : Int) + 1))).toNat < _
            simp only [intOf]; omega
        · rw [decide_eq_false hz]
          simp only [CondK_bool, MG_u, NG_u, VG_u, UG_u, PG_u, BG_u, CG_u, IG_u, MG_b, NG_b, VG_b, UG_b, PG_b, BG_b, CG_b, IG_b, PK_bool, NK_ptr, not_ok, reduceCtorEq, if_true, if_false, Bool.true_eq_false, Bool.false_eq_true, Bool.not_true, Bool.not_false]
          refine BKadd (a := n) (b := 1) rfl rfl (by omega) (by omega) ?_
          refine ⟨⟨n + 1, r, hlt, rfl, h32, h31, ?_, ?_, hC4, (hm3.trans (hm4.mono fun _ _ q => q.elim)), fun q => absurd q hz, g1⟩, ?_⟩
          · exact h2
          · show Value.bool false = _
            rw [decide_eq_false hz]
          · show e.args.length - (intOf (Value.int .i64 ((n : Int) + 1))).toNat < _
            simp only [intOf]; omega
      · obtain rfl : n = e.args.length := by omega
        rw [show decide (((e.args.length : Nat) : Int) < (e.args.length : Int)) = false by simp]
        refine condF ?_
        rw [sq_x, bk_x, sq_n, scope_Table_look_2_R2_eq]
        unfold scope_Table_look_2_R2_F
        have hfin : e.wr (kindP C.ds) = r := by
          by_cases hz : r.err = 0
          · obtain ⟨rfl, hbad, hall⟩ := g0 hz
            rw [List.take_length] at hall
            rw [hwr, hbad, ← Ex.wrL_all hall]; rfl
          · exact g1 hz
        refine ⟨?_, ?_, hm3⟩
        · show ρ 5 = _
          rw [h5, hfin]
        · rw [hfin]; exact hC3
    refine d0.vk' fun x8 => ?_
    refine caseI (fun k2 => condT ?_) (fun k2 => condF ?_)
    · refine ldOne rfl Tryd.underlying89 rfl hC1.b6 ?_
      refine d2.vk' fun x13 => d4.vk' fun x15 => d5.vk' fun x17 => ?_
      refine CK_fn (f := 60) (first := #[]) (cap := #[pt C.x2, pt C.x5]) (args := [.string e.name, .int .u8 1, .int .i64 e.line, .int .i64 e.col]) Tryd.func60 rfl rfl (must_ok hC1 e.name 1 e.line e.col) ?_
      rintro v w2 ⟨rfl, hC2, hm2⟩
      have hb2 := hm2.blk hb1 (by omega)
      have hmm := (hm1.mono (S' := fun i => i = C.x5) fun _ _ q => q.elim).trans hm2
      refine r0 _ w2 _ hC2 hmm hb2 rfl rfl ?_ ?_ ?_
      · show Value.bool _ = _
        by_cases q : kindP C.ds e.name.data.toList = 1 <;> simp [q, zWr]
      · intro q
        by_cases q1 : kindP C.ds e.name.data.toList = 1
        · rw [if_pos q1]
          refine ⟨rfl, ?_⟩
          unfold Ex.bad; rw [k2, q1]; rfl
        · rw [if_neg q1] at q; simp at q
      · intro q
        by_cases q1 : kindP C.ds e.name.data.toList = 1
        · rw [if_pos q1] at q; exact absurd rfl q
        · rw [if_neg q1, hwr, if_pos]
          unfold Ex.bad; rw [decide_eq_true ⟨k2, q1⟩]; rfl
    · refine caseI (fun k3 => condT ?_) (fun k3 => condF ?_)
      · refine ldOne rfl Tryd.underlying89 rfl hC1.b6 ?_
        refine d2.vk' fun x13 => d4.vk' fun x15 => d5.vk' fun x17 => ?_
        refine CK_fn (f := 60) (first := #[]) (cap := #[pt C.x2, pt C.x5]) (args := [.string e.name, .int .u8 2, .int .i64 e.line, .int .i64 e.col]) Tryd.func60 rfl rfl (must_ok hC1 e.name 2 e.line e.col) ?_
        rintro v w2 ⟨rfl, hC2, hm2⟩
        have hb2 := hm2.blk hb1 (by omega)
        have hmm := (hm1.mono (S' := fun i => i = C.x5) fun _ _ q => q.elim).trans hm2
        refine r0 _ w2 _ hC2 hmm hb2 rfl rfl ?_ ?_ ?_
        · show Value.bool _ = _
          by_cases q : kindP C.ds e.name.data.toList = 2 <;> simp [q, zWr]
        · intro q
          by_cases q1 : kindP C.ds e.name.data.toList = 2
          · rw [if_pos q1]
            refine ⟨rfl, ?_⟩
            unfold Ex.bad; rw [k3, q1]; rfl
          · rw [if_neg q1] at q; simp at q
        · intro q
          by_cases q1 : kindP C.ds e.name.data.toList = 2
          · rw [if_pos q1] at q; exact absurd rfl q
          · rw [if_neg q1, hwr, if_pos]
            unfold Ex.bad; rw [decide_eq_true (⟨k3, q1⟩ : e.op = 3 ∧ kindP C.ds e.name.data.toList ≠ 2), Bool.or_true]
      · refine r0 _ w1 zWr hC1 (hm1.mono fun _ _ q => q.elim) hb1 rfl rfl rfl ?_ fun q => absurd rfl q
        intro _
        refine ⟨rfl, ?_⟩
        unfold Ex.bad
        simp [k2, k3]
end Go.Proofs.YtbnbcimjapiicaaDoor.Tr
set_option linter.unusedVariables false
set_option linter.unusedSimpArgs false
set_option maxRecDepth 4000
namespace Go.Proofs.YtbnbcimjapiicaaDoor.Tr
open Go Go.X Go.RowKit Go.Proofs.YtbnbcimjapiicaaDoor.XG Go.Proofs.YtbnbcimjapiicaaDoor.XK
def StC (C : Cx) (l : List St) : Prop := ∀ (w : World) (v : Value), Clo C zWr w → StsOk C.w0 v l → St.szL l ≤ 1099511627776 →
  Rt Tryd.prog 62 #[v, pt C.x6, pt C.x7, pt C.x8] w fun v w' => v = .bool (decide ((St.wrL (kindP C.ds) l).err = 0)) ∧ Clo C (St.wrL (kindP C.ds) l) w' ∧ Mod (fun i => i = C.x5) w w'
theorem up0 {S : Nat → Prop} {w w' : World} (h : Mod none_ w w') : Mod S w w' := h.mono fun _ _ q => q.elim
theorem stC_row {C : Cx} {l : List St} (ih : ∀ a ∈ l, StC C a.body ∧ StC C a.els) : StC C l := by
  intro w v hC hok hsz
  obtain ⟨A, c, hs, _⟩ := reads_cap hok.1
  have hlen := St.len_sz l
  refine scope_Table_look_3_calls ?_
  unfold scope_Table_look_3_F
  rw [hs, len23]
  refine W_loop scope_Table_look_3_L0_ok (fun ρ w' => ∃ n : Nat, n ≤ l.length ∧ ρ 13 = .int .i64 n ∧ ρ 12 = .int .i64 l.length ∧ ρ 11 = .slice A l.length c ∧ ρ 1 = pt C.x6 ∧ ρ 2 = pt C.x7 ∧ ρ 3 = pt C.x8 ∧ (∀ a ∈ l.take n, (a.wr (kindP C.ds)).err = 0) ∧ Clo C zWr w' ∧ Mod (fun i => i = C.x5) w w') (fun ρ _ => l.length - (intOf (ρ 13)).toNat)
    ⟨0, Nat.zero_le _, rfl, rfl, rfl, rfl, rfl, rfl, by simp, hC, Mod.refl _ _⟩ ?_
  rintro ρ w2 ⟨n, hn, h13, h12, h11, h1, h2, h3, hall, hC2, hm⟩
  have h : ∀ K : Exit → Sl → World → Prop, (∀ ρ' w', n < l.length → ρ' 13 = .int .i64 ((n : Int) + 1) → ρ' 12 = .int .i64 l.length → ρ' 11 = .slice A l.length c → ρ' 1 = pt C.x6 → ρ' 2 = pt C.x7 → ρ' 3 = pt C.x8 → (∀ a ∈ l.take (n + 1), (a.wr (kindP C.ds)).err = 0) → Clo C zWr w' → Mod (fun i => i = C.x5) w w' → K .normal ρ' w') →
      (∀ ρ' w', ρ' 5 = .bool false → (St.wrL (kindP C.ds) l).err ≠ 0 → Clo C (St.wrL (kindP C.ds) l) w' → Mod (fun i => i = C.x5) w w' → K .ret ρ' w') →
      (∀ ρ', n = l.length → K (.exit 0) ρ' w2) → sx fn_ Tryd.prog 71 scope_Table_look_3_L0 K ρ w2 := by
    intro K kN kR kX
    rw [scope_Table_look_3_L0_eq]
    unfold scope_Table_look_3_L0_F
    rw [h13, h12, h11]
    refine BKlss (a := n) (b := l.length) rfl rfl ?_
    by_cases hlt : n < l.length
    · rw [show decide ((n : Int) < (l.length : Int)) = true by rw [decide_eq_true_eq]; omega]
      refine condT ?_
      have hx : l[n]? = some l[n] := List.getElem?_eq_getElem hlt
      have hmem : l[n] ∈ l := List.getElem_mem hlt
      have hok2 := hok.mod hC2.m
      rw [hs] at hok2
      refine ixSt hok2 hx fun y => ?_
      have hoke := hok.2 _ hmem
      have hsn := St.szL_at hx
      have hsz2 := St.sz_eq l[n]
      obtain ⟨ihB, ihE⟩ := ih _ hmem
      refine lcl_k (cs := l[n].cells.toArray) zSt _ iSt rfl (st_one (hok2.at hx)) fun w3 hb3 hm3 hz3 => ?_
      have hC3 := hC2.step hm3
      have hm03 := hm.trans (up0 hm3)
      have hx5 : C.x5 < w2.heap.size := blk_lt hC2.b5
      generalize w2.heap.size = bS at *
      clear hok2 hm3 hz3 hC2 hm
      have d0 : FAt Tryd.prog w3 62 0 ⟨bS, 0, none⟩ 5 (.int .u8 l[n].op) := FAt.mk' (off := 0) (by kernel_rfl) uU8 rfl (by rw [add_pl, cell_blk hb3]; rfl)
      have d3 : FAt Tryd.prog w3 62 3 ⟨bS, 0, none⟩ 9 (.string l[n].name) := FAt.mk' (off := 3) (by kernel_rfl) uSt rfl (by rw [add_pl, cell_blk hb3]; rfl)
      have d8 : FAt Tryd.prog w3 62 8 ⟨bS, 0, none⟩ 3 (.int .i64 l[n].line) := FAt.mk' (off := 8) (by kernel_rfl) uI rfl (by rw [add_pl, cell_blk hb3]; rfl)
      have d9 : FAt Tryd.prog w3 62 9 ⟨bS, 0, none⟩ 3 (.int .i64 l[n].col) := FAt.mk' (off := 9) (by kernel_rfl) uI rfl (by rw [add_pl, cell_blk hb3]; rfl)
      have hwr := St.wr_eq (kindP C.ds) l[n]
      have ans : (l[n].wr (kindP C.ds)).err ≠ 0 → St.wrL (kindP C.ds) l = l[n].wr (kindP C.ds) := St.wrL_at hx hall
      -- behind the expressions
      have r6 : ∀ (ρ' : Sl) (w4 : World) (r : Wr), Clo C r w4 → Mod (fun i => i = C.x5) w w4 → w4.heap[bS]? = some (.cells l[n].cells.toArray 62 (0, 0)) → ρ' 8 = .bool (decide (r.err = 0)) → ρ' 13 = .int .i64 n → ρ' 12 = .int .i64 l.length → ρ' 11 = .slice A l.length c → ρ' 1 = pt C.x6 → ρ' 2 = pt C.x7 → ρ' 3 = pt C.x8 → ρ' 7 = pt bS →
          (r.err = 0 → r = zWr ∧ l[n].bad (kindP C.ds) = false ∧ (Ex.wrL (kindP C.ds) l[n].exprs).err = 0) → (r.err ≠ 0 → l[n].wr (kindP C.ds) = r) →
          sx fn_ Tryd.prog 71 scope_Table_look_3_R6 (blkK 1 (seqK (sx fn_ Tryd.prog 71 scope_Table_look_3_R4 K) K)) ρ' w4 := by
        intro ρ' w4 r hC4 hm4 hb4 q8 q13 q12 q11 q1 q2 q3 q7 g0 g1
        rw [scope_Table_look_3_R6_eq]
        unfold scope_Table_look_3_R6_F
        have f6 : ∀ w', w'.heap[bS]? = some (.cells l[n].cells.toArray 62 (0, 0)) → FAt Tryd.prog w' 62 6 ⟨bS, 0, none⟩ 23 l[n].bs := fun w' hb => FAt.mk' (off := 6) (by kernel_rfl) uSts rfl (by rw [add_pl, cell_blk hb]; rfl)
        have f7 : ∀ w', w'.heap[bS]? = some (.cells l[n].cells.toArray 62 (0, 0)) → FAt Tryd.prog w' 62 7 ⟨bS, 0, none⟩ 23 l[n].ls := fun w' hb => FAt.mk' (off := 7) (by kernel_rfl) uSts rfl (by rw [add_pl, cell_blk hb]; rfl)
        have bad : ∀ (ρ2 : Sl) (w5 : World) (r : Wr), ρ2 5 = .bool false → r.err ≠ 0 → l[n].wr (kindP C.ds) = r → Clo C r w5 → Mod (fun i => i = C.x5) w w5 → (blkK 1 (seqK (sx fn_ Tryd.prog 71 scope_Table_look_3_R4 K) K)) .ret ρ2 w5 := by
          intro ρ2 w5 r q5 hz hr hC5 hm5
          rw [bk_r, sq_r]
          have e := ans (by rw [hr]; exact hz)
          rw [hr] at e
          exact kR _ _ q5 (by rw [e]; exact hz) (by rw [e]; exact hC5) hm5
        have good : ∀ (ρ2 : Sl) (w5 : World), (l[n].wr (kindP C.ds)).err = 0 → ρ2 13 = .int .i64 n → ρ2 12 = .int .i64 l.length → ρ2 11 = .slice A l.length c → ρ2 1 = pt C.x6 → ρ2 2 = pt C.x7 → ρ2 3 = pt C.x8 → Clo C zWr w5 → Mod (fun i => i = C.x5) w w5 → (blkK 1 (seqK (sx fn_ Tryd.prog 71 scope_Table_look_3_R4 K) K)) .normal ρ2 w5 := by
          intro ρ2 w5 hz q13 q12 q11 q1 q2 q3 hC5 hm5
          rw [bk_n, sq_n, scope_Table_look_3_R4_eq]
          unfold scope_Table_look_3_R4_F
          refine BKadd (a := n) (b := 1) q13 rfl (by omega) (by omega) ?_
          refine kN _ _ hlt rfl q12 q11 q1 q2 q3 ?_ hC5 hm5
          rw [List.take_add_one, hx, Option.toList_some]
          intro a ha
          rcases List.mem_append.1 ha with ha | ha
          · exact hall a ha
          · rw [List.mem_singleton.1 ha]; exact hz
        rw [q8, not_ok]
        by_cases hz : r.err = 0
        · obtain ⟨rfl, hbad, hex⟩ := g0 hz
          rw [hbad, if_neg (by simp), if_pos hex] at hwr
          rw [show (!decide (zWr.err = 0)) = false from rfl]
          simp only [CondK_bool, MG_u, NG_u, VG_u, UG_u, PG_u, BG_u, CG_u, IG_u, MG_b, NG_b, VG_b, UG_b, PG_b, BG_b, CG_b, IG_b, PK_bool, NK_ptr, not_ok, reduceCtorEq, if_true, if_false, Bool.true_eq_false, Bool.false_eq_true, Bool.not_true, Bool.not_false]
          refine ldOne q3 Tryd.underlying64 rfl hC4.b8 ?_
          refine (f6 _ hb4).vs q7 fun x58 => ?_
          refine CK_fn (f := 62) (first := #[]) (cap := #[pt C.x6, pt C.x7, pt C.x8]) (args := [l[n].bs]) Tryd.func62 rfl rfl (ihB w4 _ hC4 hoke.body (by omega)) ?_
          rintro _ w5 ⟨rfl, hC5, hm5⟩
          have hb5 := hm5.blk hb4 (by omega)
          have hm05 := hm4.trans hm5
          rw [not_ok]
          by_cases hzB : (St.wrL (kindP C.ds) l[n].body).err = 0
          · rw [if_pos hzB] at hwr
            have e := St.wrL_z _ (fun a _ => St.wr_z a) hzB
            rw [e] at hC5
            rw [decide_eq_true hzB]
            simp only [CondK_bool, MG_u, NG_u, VG_u, UG_u, PG_u, BG_u, CG_u, IG_u, MG_b, NG_b, VG_b, UG_b, PG_b, BG_b, CG_b, IG_b, PK_bool, NK_ptr, not_ok, reduceCtorEq, if_true, if_false, Bool.true_eq_false, Bool.false_eq_true, Bool.not_true, Bool.not_false]
            refine ldOne q3 Tryd.underlying64 rfl hC5.b8 ?_
            refine (f7 _ hb5).vs q7 fun x58 => ?_
            refine CK_fn (f := 62) (first := #[]) (cap := #[pt C.x6, pt C.x7, pt C.x8]) (args := [l[n].ls]) Tryd.func62 rfl rfl (ihE w5 _ hC5 hoke.els (by omega)) ?_
            rintro _ w6 ⟨rfl, hC6, hm6⟩
            have hm06 := hm05.trans hm6
            rw [not_ok]
            by_cases hzE : (St.wrL (kindP C.ds) l[n].els).err = 0
            · have e2 := St.wrL_z _ (fun a _ => St.wr_z a) hzE
              rw [e2] at hC6
              rw [decide_eq_true hzE]
              refine condF ?_
              refine good _ _ (by rw [hwr]; exact hzE) ?_ ?_ ?_ ?_ ?_ ?_ hC6 hm06
              · exact q13
              · exact q12
              · exact q11
              · exact q1
              · exact q2
              · exact q3
            · rw [decide_eq_false hzE]
              refine condT ?_
              exact bad _ _ _ rfl hzE hwr hC6 hm06
          · rw [if_neg hzB] at hwr
            rw [decide_eq_false hzB]
            simp only [CondK_bool, MG_u, NG_u, VG_u, UG_u, PG_u, BG_u, CG_u, IG_u, MG_b, NG_b, VG_b, UG_b, PG_b, BG_b, CG_b, IG_b, PK_bool, NK_ptr, not_ok, reduceCtorEq, if_true, if_false, Bool.true_eq_false, Bool.false_eq_true, Bool.not_true, Bool.not_false]
            exact bad _ _ _ rfl hzB hwr hC5 hm05
        · rw [decide_eq_false hz]
          simp only [CondK_bool, MG_u, NG_u, VG_u, UG_u, PG_u, BG_u, CG_u, IG_u, MG_b, NG_b, VG_b, UG_b, PG_b, BG_b, CG_b, IG_b, PK_bool, NK_ptr, not_ok, reduceCtorEq, if_true, if_false, Bool.true_eq_false, Bool.false_eq_true, Bool.not_true, Bool.not_false]
          exact bad _ _ _ rfl hz (g1 hz) hC4 hm4
      have r2 : ∀ (ρ' : Sl) (w4 : World) (r : Wr), Clo C r w4 → Mod (fun i => i = C.x5) w w4 → w4.heap[bS]? = some (.cells l[n].cells.toArray 62 (0, 0)) → ρ' 8 = .bool (decide (r.err = 0)) → ρ' 13 = .int .i64 n → ρ' 12 = .int .i64 l.length → ρ' 11 = .slice A l.length c → ρ' 1 = pt C.x6 → ρ' 2 = pt C.x7 → ρ' 3 = pt C.x8 → ρ' 7 = pt bS →
          (r.err = 0 → r = zWr ∧ l[n].bad (kindP C.ds) = false) → (r.err ≠ 0 → l[n].wr (kindP C.ds) = r) →
          sx fn_ Tryd.prog 71 scope_Table_look_3_R2 (blkK 1 (seqK (sx fn_ Tryd.prog 71 scope_Table_look_3_R4 K) K)) ρ' w4 := by
        intro ρ' w4 r hC4 hm4 hb4 q8 q13 q12 q11 q1 q2 q3 q7 g0 g1
        obtain ⟨A', c', hs', _⟩ := reads_cap hoke.exprs.1
        have hlx := Ex.len_sz l[n].exprs
        have f5 : FAt Tryd.prog w4 62 5 ⟨bS, 0, none⟩ 58 (.slice A' l[n].exprs.length c') := FAt.mk' (off := 5) (by kernel_rfl) uExs rfl (by rw [add_pl, cell_blk hb4, ← hs']; rfl)
        rw [scope_Table_look_3_R2_eq]
        unfold scope_Table_look_3_R2_F
        refine f5.vs q7 fun x40 => ?_
        rw [len58]
        refine W_loop scope_Table_look_3_L5_ok (fun ρ w' => ∃ (m : Nat) (r : Wr), m ≤ l[n].exprs.length ∧ ρ 43 = .int .i64 m ∧ ρ 42 = .int .i64 l[n].exprs.length ∧ ρ 41 = .slice A' l[n].exprs.length c' ∧ ρ 8 = .bool (decide (r.err = 0)) ∧ ρ 13 = .int .i64 n ∧ ρ 12 = .int .i64 l.length ∧ ρ 11 = .slice A l.length c ∧ ρ 1 = pt C.x6 ∧ ρ 2 = pt C.x7 ∧ ρ 3 = pt C.x8 ∧ ρ 7 = pt bS ∧ Clo C r w' ∧ Mod (fun i => i = C.x5) w w' ∧ w'.heap[bS]? = some (.cells l[n].cells.toArray 62 (0, 0)) ∧
            (r.err = 0 → r = zWr ∧ l[n].bad (kindP C.ds) = false ∧ ∀ a ∈ l[n].exprs.take m, (a.wr (kindP C.ds)).err = 0) ∧ (r.err ≠ 0 → l[n].wr (kindP C.ds) = r)) (fun ρ _ => l[n].exprs.length - (intOf (ρ 43)).toNat)
          ⟨0, r, Nat.zero_le _, rfl, rfl, rfl, q8, q13, q12, q11, q1, q2, q3, q7, hC4, hm4, hb4, fun q => ⟨(g0 q).1, (g0 q).2, by simp⟩, g1⟩ ?_
        rintro ρ w5 ⟨m, r, hmn, h43, h42, h41, h8, h13, h12, h11, h1, h2, h3, h7, hC5, hm5, hb5, g0, g1⟩
        rw [scope_Table_look_3_L5_eq]
        unfold scope_Table_look_3_L5_F
        rw [h43, h42, h41]
        refine BKlss (a := m) (b := l[n].exprs.length) rfl rfl ?_
        by_cases hlt2 : m < l[n].exprs.length
        · rw [show decide ((m : Int) < (l[n].exprs.length : Int)) = true by rw [decide_eq_true_eq]; omega]
          refine condT ?_
          have hxj : l[n].exprs[m]? = some l[n].exprs[m] := List.getElem?_eq_getElem hlt2
          have hmj : l[n].exprs[m] ∈ l[n].exprs := List.getElem_mem hlt2
          have hok5 := hoke.exprs.mod hC5.m
          rw [hs'] at hok5
          refine ixEx hok5 hxj fun y => ?_
          have hsj := Ex.szL_at hxj
          refine lcl_k (cs := l[n].exprs[m].cells.toArray) zEx _ iEx rfl (ex_one (hok5.at hxj)) fun w6 hb6 hm6 _ => ?_
          have hC6 := hC5.step hm6
          have hb6s := hm6.blk hb5 id
          have hm06 := hm5.trans (up0 hm6)
          generalize w5.heap.size = b10 at *
          rw [h8]
          by_cases hz : r.err = 0
          · obtain ⟨rfl, hbad, hall2⟩ := g0 hz
            rw [show decide (zWr.err = 0) = true from rfl]
            simp only [CondK_bool, MG_u, NG_u, VG_u, UG_u, PG_u, BG_u, CG_u, IG_u, MG_b, NG_b, VG_b, UG_b, PG_b, BG_b, CG_b, IG_b, PK_bool, NK_ptr, not_ok, reduceCtorEq, if_true, if_false, Bool.true_eq_false, Bool.false_eq_true, Bool.not_true, Bool.not_false]
            refine ldOne h2 Tryd.underlying90 rfl hC6.b7 ?_
            refine ldS (cs := l[n].exprs[m].cells.toArray) rfl Tryd.underlying60 rfl iEx hb6 ?_
            refine CK_fn (f := 61) (first := #[]) (cap := #[pt C.x6, pt C.x7]) (args := [.agg l[n].exprs[m].cells.toArray]) Tryd.func61 rfl rfl (exprC_ok _ w6 hC6 (hoke.exprs.2 _ hmj) (by omega)) ?_
            rintro _ w7 ⟨rfl, hC7, hm7⟩
            refine BKadd (a := m) (b := 1) rfl rfl (by omega) (by omega) ?_
            refine ⟨⟨m + 1, l[n].exprs[m].wr (kindP C.ds), hlt2, rfl, h42, h41, rfl, h13, h12, h11, h1, h2, h3, h7, hC7, hm06.trans hm7, hm7.blk hb6s (by omega), fun q => ⟨Ex.wr_z _ q, hbad, ?_⟩, fun q => ?_⟩, ?_⟩
            · rw [List.take_add_one, hxj, Option.toList_some]
              intro a ha
              rcases List.mem_append.1 ha with ha | ha
              · exact hall2 a ha
              · rw [List.mem_singleton.1 ha]; exact q
            · have e1 := Ex.wrL_at hxj hall2 q
              rw [hwr, hbad, e1, if_neg q]; rfl
            · show l[n].exprs.length - (intOf (Value.int .i64 ((m : Int) + 1))).toNat < _
              simp only [intOf]; omega
          · rw [decide_eq_false hz]
            simp only [CondK_bool, MG_u, NG_u, VG_u, UG_u, PG_u, BG_u, CG_u, IG_u, MG_b, NG_b, VG_b, UG_b, PG_b, BG_b, CG_b, IG_b, PK_bool, NK_ptr, not_ok, reduceCtorEq, if_true, if_false, Bool.true_eq_false, Bool.false_eq_true, Bool.not_true, Bool.not_false]
            refine BKadd (a := m) (b := 1) rfl rfl (by omega) (by omega) ?_
            refine ⟨⟨m + 1, r, hlt2, rfl, h42, h41, ?_, h13, h12, h11, h1, h2, h3, h7, hC6, hm06, hb6s, fun q => absurd q hz, g1⟩, ?_⟩
            · show Value.bool false = _
              rw [decide_eq_false hz]
            · show l[n].exprs.length - (intOf (Value.int .i64 ((m : Int) + 1))).toNat < _
              simp only [intOf]; omega
        · obtain rfl : m = l[n].exprs.length := by omega
          rw [show decide (((l[n].exprs.length : Nat) : Int) < (l[n].exprs.length : Int)) = false by simp]
          refine condF ?_
          rw [sq_x, bk_x, sq_n]
          rw [List.take_length] at g0
          refine r6 _ w5 r hC5 hm5 hb5 ?_ ?_ ?_ ?_ ?_ ?_ ?_ ?_ (fun q => ⟨(g0 q).1, (g0 q).2.1, ?_⟩) g1
          · exact h8
          · exact h13
          · exact h12
          · exact h11
          · exact h1
          · exact h2
          · exact h3
          · exact h7
          · rw [Ex.wrL_all (g0 q).2.2]; rfl
      have r3 : ∀ (ρ' : Sl) (t : Bool), ρ' 19 = .bool t → t = decide (l[n].op = 1 ∨ l[n].op = 5) → ρ' 18 = .int .u8 l[n].op → ρ' 8 = .bool true → ρ' 13 = .int .i64 n → ρ' 12 = .int .i64 l.length → ρ' 11 = .slice A l.length c → ρ' 1 = pt C.x6 → ρ' 2 = pt C.x7 → ρ' 3 = pt C.x8 → ρ' 7 = pt bS →
          sx fn_ Tryd.prog 71 scope_Table_look_3_R3 (blkK 2 (seqK (sx fn_ Tryd.prog 71 scope_Table_look_3_R2 (blkK 1 (seqK (sx fn_ Tryd.prog 71 scope_Table_look_3_R4 K) K))) (blkK 1 (seqK (sx fn_ Tryd.prog 71 scope_Table_look_3_R4 K) K)))) ρ' w3 := by
        intro ρ' t q19 ht q18 q8 q13 q12 q11 q1 q2 q3 q7
        rw [scope_Table_look_3_R3_eq]
        unfold scope_Table_look_3_R3_F
        refine caseN q19 (fun hp => ?_) (fun hp => ?_)
        · rw [hp] at ht
          have ht := of_decide_eq_true ht.symm
          have hn2 : l[n].op ≠ 2 := by omega
          refine ldOne q1 Tryd.underlying89 rfl hC3.b6 ?_
          refine d3.vs q7 fun x23 => d8.vs q7 fun x25 => d9.vs q7 fun x27 => ?_
          refine CK_fn (f := 60) (first := #[]) (cap := #[pt C.x2, pt C.x5]) (args := [.string l[n].name, .int .u8 1, .int .i64 l[n].line, .int .i64 l[n].col]) Tryd.func60 rfl rfl (must_ok hC3 l[n].name 1 l[n].line l[n].col) ?_
          rintro v w4 ⟨rfl, hC4, hm4⟩
          rw [bk_n, sq_n]
          refine r2 _ w4 _ hC4 (hm03.trans hm4) (hm4.blk hb3 (by omega)) ?_ ?_ ?_ ?_ ?_ ?_ ?_ ?_ ?_ ?_
          · show Value.bool _ = _
            by_cases q : kindP C.ds l[n].name.data.toList = 1 <;> simp [q, zWr]
          · exact q13
          · exact q12
          · exact q11
          · exact q1
          · exact q2
          · exact q3
          · exact q7
          · intro q
            by_cases k1 : kindP C.ds l[n].name.data.toList = 1
            · rw [if_pos k1]
              refine ⟨rfl, ?_⟩
              unfold St.bad; simp [k1, hn2]
            · rw [if_neg k1] at q; simp at q
          · intro q
            by_cases k1 : kindP C.ds l[n].name.data.toList = 1
            · rw [if_pos k1] at q; exact absurd rfl q
            · rw [if_neg k1, hwr, if_pos]
              unfold St.bad; rw [decide_eq_true ⟨ht, k1⟩]; rfl
        · rw [hp] at ht
          have ht := of_decide_eq_false ht.symm
          refine BKeqI (a := l[n].op) (b := 2) q18 rfl (fun h2' => condT ?_) (fun h2' => condF ?_)
          · refine ldOne q1 Tryd.underlying89 rfl hC3.b6 ?_
            refine d3.vs q7 fun x23 => d8.vs q7 fun x25 => d9.vs q7 fun x27 => ?_
            refine CK_fn (f := 60) (first := #[]) (cap := #[pt C.x2, pt C.x5]) (args := [.string l[n].name, .int .u8 2, .int .i64 l[n].line, .int .i64 l[n].col]) Tryd.func60 rfl rfl (must_ok hC3 l[n].name 2 l[n].line l[n].col) ?_
            rintro v w4 ⟨rfl, hC4, hm4⟩
            rw [bk_n, sq_n]
            refine r2 _ w4 _ hC4 (hm03.trans hm4) (hm4.blk hb3 (by omega)) ?_ ?_ ?_ ?_ ?_ ?_ ?_ ?_ ?_ ?_
            · show Value.bool _ = _
              by_cases q : kindP C.ds l[n].name.data.toList = 2 <;> simp [q, zWr]
            · exact q13
            · exact q12
            · exact q11
            · exact q1
            · exact q2
            · exact q3
            · exact q7
            · intro q
              by_cases k1 : kindP C.ds l[n].name.data.toList = 2
              · rw [if_pos k1]
                refine ⟨rfl, ?_⟩
                unfold St.bad; simp [k1, ht]
              · rw [if_neg k1] at q; simp at q
            · intro q
              by_cases k1 : kindP C.ds l[n].name.data.toList = 2
              · rw [if_pos k1] at q; exact absurd rfl q
              · rw [if_neg k1, hwr, if_pos]
                unfold St.bad; rw [decide_eq_true (⟨h2', k1⟩ : l[n].op = 2 ∧ kindP C.ds l[n].name.data.toList ≠ 2), Bool.or_true]
          · rw [bk_n, sq_n]
            refine r2 _ w3 zWr hC3 hm03 hb3 ?_ ?_ ?_ ?_ ?_ ?_ ?_ ?_ (fun _ => ⟨rfl, ?_⟩) (fun q => absurd rfl q)
            · exact q8
            · exact q13
            · exact q12
            · exact q11
            · exact q1
            · exact q2
            · exact q3
            · exact q7
            · unfold St.bad; simp [ht, h2']
      refine d0.vk' fun x17 => ?_
      refine caseI (fun k1 => condT ?_) (fun k1 => condF ?_)
      · refine r3 _ true rfl (by rw [decide_eq_true (Or.inl k1)]) rfl rfl ?_ ?_ ?_ ?_ ?_ ?_ rfl
        · exact h13
        · exact h12
        · exact h11
        · exact h1
        · exact h2
        · exact h3
      · rw [BK_eql]
        refine r3 _ (l[n].op == 5) rfl ?_ rfl rfl ?_ ?_ ?_ ?_ ?_ ?_ rfl
        · rw [beq_dec]
          by_cases q : l[n].op = 5
          · rw [decide_eq_true q, decide_eq_true (Or.inr q)]
          · rw [decide_eq_false q, decide_eq_false (by omega)]
        · exact h13
        · exact h12
        · exact h11
        · exact h1
        · exact h2
        · exact h3
    · obtain rfl : n = l.length := by omega
      rw [show decide (((l.length : Nat) : Int) < (l.length : Int)) = false by simp]
      refine condF ?_
      exact kX _ rfl
  refine h _ (fun ρ' w' a b c1 c2 c3 c4 c5 d e f => ⟨⟨n + 1, a, b, c1, c2, c3, c4, c5, d, e, f⟩, ?_⟩) (fun ρ' w' a b c' d => ?_) (fun ρ' b => ?_)
  · rw [b, h13]; simp only [intOf]; omega
  · rw [sq_r, bk_r, sq_r]
    refine ⟨?_, c', d⟩
    rw [decide_eq_false b]; exact a
  · subst b
    rw [List.take_length] at hall
    rw [sq_x, bk_x, sq_n, scope_Table_look_3_R1_eq]
    unfold scope_Table_look_3_R1_F
    rw [St.wrL_all hall]
    exact ⟨rfl, hC2, hm⟩
theorem stC_all {C : Cx} : ∀ e : St, StC C e.body ∧ StC C e.els := by
  intro e
  induction e using St.ind with
  | h e ih1 ih2 => exact ⟨stC_row ih1, stC_row ih2⟩
theorem StmtsC_ok {C : Cx} (l : List St) : StC C l := stC_row fun a _ => stC_all a
end Go.Proofs.YtbnbcimjapiicaaDoor.Tr
set_option linter.unusedVariables false
set_option linter.unusedSimpArgs false
set_option maxRecDepth 4000
namespace Go.Proofs.YtbnbcimjapiicaaDoor.Tr
open Go Go.X Go.RowKit Go.Proofs.YtbnbcimjapiicaaDoor.XG Go.Proofs.YtbnbcimjapiicaaDoor.XK

deriving instance DecidableEq for En
theorem isI (w : World) : (isAgg 3).run Tryd.prog w = .ok false w := by unfold isAgg; rw [Sem.run_bind, run_underlying Tryd.underlying3 w]; rfl
theorem isE (w : World) : (isAgg 28).run Tryd.prog w = .ok false w := by unfold isAgg; rw [Sem.run_bind, run_underlying Tryd.underlying28 w]; rfl
theorem eqEn (a b : En) (w : World) : (Op.equalIn 10000 37 a.v b.v).run Tryd.prog w = .ok (decide (a = b)) w := by
  show (Op.equalIn (9999 + 1) 37 (.agg a.cells.toArray) (.agg b.cells.toArray)).run Tryd.prog w = _
  rw [run_equalIn_struct w 9999 37 _ _ (by simp [Program.fieldsOf, Tryd.underlying37]) (by kernel_rfl)]
  obtain ⟨a1, a2, a3, a4⟩ := a; obtain ⟨b1, b2, b3, b4⟩ := b
  simp [Program.fieldsOf, Tryd.underlying37, Op.eqFields, part, isU, isI, Sem.run_bind, En.cells, run_equalIn_int w 9998 3 .i64 .i64 _ _ Tryd.underlying3, run_equalIn_int w 9998 5 .u8 .u8 _ _ Tryd.underlying5]
  by_cases h1 : a1 = b1 <;> by_cases h2 : a2 = b2 <;> by_cases h3 : a3 = b3 <;> by_cases h4 : a4 = b4 <;> simp [h1, h2, h3, h4]
theorem eqWr (a b : Wr) (w : World) : (Op.equalIn 10000 30 a.v b.v).run Tryd.prog w = .ok (decide (a = b)) w := by
  show (Op.equalIn (9999 + 1) 30 (.agg a.cells.toArray) (.agg b.cells.toArray)).run Tryd.prog w = _
  rw [run_equalIn_struct w 9999 30 _ _ (by simp [Program.fieldsOf, Tryd.underlying30]) (by kernel_rfl)]
  obtain ⟨a1, a2, a3⟩ := a; obtain ⟨b1, b2, b3⟩ := b
  simp [Program.fieldsOf, Tryd.underlying30, Op.eqFields, part, isE, isI, Sem.run_bind, Wr.cells, run_equalIn_int w 9998 3 .i64 .i64 _ _ Tryd.underlying3, run_equalIn_int w 9998 28 .i64 .i64 _ _ Tryd.underlying28]
  by_cases h1 : a1 = b1 <;> by_cases h2 : a2 = b2 <;> by_cases h3 : a3 = b3 <;> simp [h1, h2, h3]
theorem gEn : Tryd.prog.eqGuardType Tryd.prog.depth 37 = false := by kernel_rfl
theorem gWr : Tryd.prog.eqGuardType Tryd.prog.depth 30 = false := by kernel_rfl
theorem rEnE (a b : En) (w : World) : (binOp .eql 37 a.v b.v).run Tryd.prog w = .ok (.bool (decide (a = b))) w := by
  show (binOp .eql 37 (.agg a.cells.toArray) (.agg b.cells.toArray)).run Tryd.prog w = _
  rw [run_eql_struct]
  have := eqEn a b w
  rw [En.v, En.v] at this
  rw [this]; rfl
theorem rEnN (a b : En) (w : World) : (binOp .neq 37 a.v b.v).run Tryd.prog w = .ok (.bool (!decide (a = b))) w := by
  show (do pure (.bool (!(← Op.equalIn 10000 37 a.v b.v))) : Sem Value).run Tryd.prog w = _
  rw [Sem.run_bind, eqEn]; rfl
theorem rWrE (a b : Wr) (w : World) : (binOp .eql 30 a.v b.v).run Tryd.prog w = .ok (.bool (decide (a = b))) w := by
  show (binOp .eql 30 (.agg a.cells.toArray) (.agg b.cells.toArray)).run Tryd.prog w = _
  rw [run_eql_struct]
  have := eqWr a b w
  rw [Wr.v, Wr.v] at this
  rw [this]; rfl
theorem BK_EnE {w : World} {K : Value → World → Prop} {x y : Operand} (a b : En) : BK Tryd.prog .eql 37 x y a.v b.v w K = K (.bool (decide (a = b))) w := BK_of (run_eqGuard_agg w .eql _ x y _ _ gEn) (rEnE a b w)
theorem BK_WrE {w : World} {K : Value → World → Prop} {x y : Operand} (a b : Wr) : BK Tryd.prog .eql 30 x y a.v b.v w K = K (.bool (decide (a = b))) w := BK_of (run_eqGuard_agg w .eql _ x y _ _ gWr) (rWrE a b w)
theorem zF1 : (Tryd.prog.info? 89).bind (·.zero) = some .nilFunc := by kernel_rfl
theorem zF2 : (Tryd.prog.info? 90).bind (·.zero) = some .nilFunc := by kernel_rfl
theorem zF3 : (Tryd.prog.info? 64).bind (·.zero) = some .nilFunc := by kernel_rfl
theorem look_fin {C : Cx} {w : World} (hC : Clo C zWr w) {b4 : Nat} (c4 : w.heap[b4]? = some (.cells zWr.cells.toArray 30 (0, 0))) (l3 : b4 ≠ C.x5) (l4 : C.w0.heap.size ≤ b4) {v : Value} {l : List St} (hok : StsOk C.w0 v l) (hsz : St.szL l ≤ 1099511627776) :
    VK Tryd.prog (Instr.loadAt 64 (pt C.x8)) w fun x12 w => CK Tryd.prog x12 [v] w fun x14 w => VK Tryd.prog (Instr.loadAt 30 (pt C.x5)) w fun x15 w => UK Tryd.prog (Instr.storeAt 30 (pt b4) x15) w fun _ w =>
      ∃ x, (do loadVar 30 (← asAddr (pt b4)) : Sem Value).run Tryd.prog w = .ok x w ∧ (x = (St.wrL (kindP C.ds) l).v ∧ Mod none_ C.w0 w) := by
  refine ldOne rfl Tryd.underlying64 rfl hC.b8 ?_
  refine CK_fn (f := 62) (first := #[]) (cap := #[pt C.x6, pt C.x7, pt C.x8]) (args := [v]) Tryd.func62 rfl rfl (StmtsC_ok l w v hC hok hsz) ?_
  rintro v' w10 ⟨rfl, hC10, hm10⟩
  have c4' := hm10.blk c4 l3
  refine ldS (cs := (St.wrL (kindP C.ds) l).cells.toArray) rfl Tryd.underlying30 rfl iWrg hC10.b5 ?_
  refine stS (b := b4) (old := zWr.cells.toArray) (cs := (St.wrL (kindP C.ds) l).cells.toArray) rfl rfl iWrg rfl (wr_one _) c4' fun w11 hb11 hm11 _ => ?_
  exact ⟨_, res_ld (run_ldB (cs := (St.wrL (kindP C.ds) l).cells.toArray) Tryd.underlying30 rfl iWrg hb11), rfl, hC10.m.then hm11 (fun i hi q => absurd q (by omega))⟩
theorem look_ok' {w : World} {base t : Nat} {ds : List De} (ht : TbAt w base t ds) {v : Value} {l : List St} (hok : StsOk w v l) (hsz : St.szL l ≤ 1099511627776) :
    Rt Tryd.prog 38 #[pt t, v] w fun v' w' => v' = (St.wrL (kindP ds) l).v ∧ Mod none_ w w' := by
  refine scope_Table_look_calls ?_
  unfold scope_Table_look_F
  refine box_k (cs := #[pt t]) rfl fun w1 hb1 hm1 hz1 => ?_
  refine al_k zWrg rfl _ fun w2 hb2 hm2 hz2 => ?_
  refine al_k zWrg rfl _ fun w3 hb3 hm3 hz3 => ?_
  rw [mkFunc]
  refine al_k zF1 rfl _ fun w4 hb4 hm4 hz4 => ?_
  refine stC (b := w3.heap.size) (o := 0) (cs := #[.nilFunc]) rfl (by kernel_rfl) rfl hb4 (by decide) fun w5 hb5 hm5 hz5 => ?_
  refine al_k zF2 rfl _ fun w6 hb6 hm6 hz6 => ?_
  rw [mkFunc]
  refine stC (b := w5.heap.size) (o := 0) (cs := #[.nilFunc]) rfl (by kernel_rfl) rfl hb6 (by decide) fun w7 hb7 hm7 hz7 => ?_
  refine al_k zF3 rfl _ fun w8 hb8 hm8 hz8 => ?_
  rw [mkFunc]
  refine stC (b := w7.heap.size) (o := 0) (cs := #[.nilFunc]) rfl (by kernel_rfl) rfl hb8 (by decide) fun w9 hb9 hm9 hz9 => ?_
  have c2 := hm9.blk (hm8.blk (hm7.blk (hm6.blk (hm5.blk (hm4.blk (hm3.blk (hm2.blk hb1 id) id) id) (by omega)) id) (by omega)) id) (by omega)
  have c4 := hm9.blk (hm8.blk (hm7.blk (hm6.blk (hm5.blk (hm4.blk (hm3.blk hb2 id) id) (by omega)) id) (by omega)) id) (by omega)
  have c5 := hm9.blk (hm8.blk (hm7.blk (hm6.blk (hm5.blk (hm4.blk hb3 id) (by omega)) id) (by omega)) id) (by omega)
  have c6 := hm9.blk (hm8.blk (hm7.blk (hm6.blk hb5 id) (by omega)) id) (by omega)
  have c7 := hm9.blk (hm8.blk hb7 id) (by omega)
  have hm09 : Mod none_ w w9 := (((((((hm1.trans hm2).trans hm3).trans hm4).then hm5 (fun i hi q => absurd q (by omega))).trans hm6).then hm7 (fun i hi q => absurd q (by omega))).trans hm8).then hm9 (fun i hi q => absurd q (by omega))
  have hC : Clo ⟨w, base, t, w.heap.size, w2.heap.size, w3.heap.size, w5.heap.size, w7.heap.size, ds⟩ zWr w9 :=
    ⟨hm09, ht, c2, c5, c6, c7, hb9, by dsimp only; omega⟩
  exact look_fin hC c4 (by dsimp only; omega) (by dsimp only; omega) hok hsz
end Go.Proofs.YtbnbcimjapiicaaDoor.Tr
set_option linter.unusedVariables false
set_option linter.unusedSimpArgs false
set_option maxRecDepth 4000
namespace Go.Proofs.YtbnbcimjapiicaaDoor.Tr
open Go Go.X Go.RowKit Go.Proofs.YtbnbcimjapiicaaDoor.XG Go.Proofs.YtbnbcimjapiicaaDoor.XK
theorem findF_yes {k : Key} : ∀ (l pre r : List De), (∃ a ∈ l, a.key = k) → (findF pre l k).kind ≠ 0 ∧ findF pre (l ++ r) k = findF pre l k
  | [], pre, r, h => by obtain ⟨a, ha, _⟩ := h; cases ha
  | d :: l, pre, r, h => by
    rw [List.cons_append, findF, findF]
    by_cases q : d.key = k
    · rw [if_pos q, if_pos q]; exact ⟨nu_kind _ _, rfl⟩
    · rw [if_neg q, if_neg q]
      refine findF_yes l _ r ?_
      obtain ⟨a, ha, hk⟩ := h
      rcases List.mem_cons.1 ha with rfl | ha
      · exact absurd hk q
      · exact ⟨a, ha, hk⟩
theorem findP_none {l : List De} {k : Key} (h : ∀ a ∈ l, a.key ≠ k) : findP l k = zEn := by
  have := findF_no k l [] [] h
  rw [List.append_nil] at this
  unfold findP
  rw [this]; rfl
theorem findP_snoc {ds : List De} {d : De} (h : (findP ds d.key).kind = 0) (k : Key) : findP (ds ++ [d]) k = if k = d.key then nu ds d else findP ds k := by
  by_cases q : ∃ a ∈ ds, a.key = k
  · obtain ⟨h1, h2⟩ := findF_yes ds [] [d] q
    have hne : k ≠ d.key := by rintro rfl; exact h1 h
    rw [if_neg hne]; exact h2
  · have q' : ∀ a ∈ ds, a.key ≠ k := fun a ha e => q ⟨a, ha, e⟩
    have e1 : findP (ds ++ [d]) k = findF ds [d] k := by unfold findP; rw [findF_no k ds [] [d] q', List.nil_append]
    rw [e1, findF]
    by_cases e : d.key = k
    · rw [if_pos e, if_pos e.symm]
    · rw [if_neg e, if_neg (fun x => e x.symm), findP_none q']; rfl
theorem findP_zero {ds : List De} {k : Key} (h : (findP ds k).kind = 0) : findP ds k = zEn := by
  by_cases q : ∃ a ∈ ds, a.key = k
  · exact absurd h (findF_yes ds [] [] q).1
  · exact findP_none fun a ha e => q ⟨a, ha, e⟩
theorem findE_app {k' k : Key} {v : Value} {c : Nat} : ∀ (l : List (Ent Key)) (n : Nat), findE k' (l ++ [⟨k, v, c⟩]) n = match findE k' l n with | some p => some p | none => if k' = k then some (n + l.length, v) else none
  | [], n => by simp [findE]
  | e :: r, n => by
    rw [List.cons_append, findE, findE]
    by_cases h : k' = e.k
    · simp [h]
    · rw [if_neg h, if_neg h, findE_app r (n + 1)]
      cases findE k' r (n + 1) with
      | some p => rfl
      | none => simp only [List.length_cons]; rw [show n + 1 + r.length = n + (r.length + 1) by omega]
theorem findE_ge {k : Key} {u : Value} : ∀ (l : List (Ent Key)) (n i : Nat), findE k l n = some (i, u) → n ≤ i
  | [], n, i, h => by simp [findE] at h
  | e :: r, n, i, h => by
    rw [findE] at h
    split at h
    · cases h; exact Nat.le_refl _
    · have := findE_ge r (n + 1) i h; omega
theorem findE_mod {k' k : Key} {v u : Value} : ∀ (l : List (Ent Key)) (n i : Nat), findE k l n = some (n + i, u) → findE k' (l.modify i fun e => ⟨e.k, v, e.b⟩) n = if k' = k then some (n + i, v) else findE k' l n
  | [], n, i, h => by simp [findE] at h
  | e :: r, n, 0, h => by
    rw [findE] at h
    split at h
    · rename_i hk
      subst hk
      show findE k' (⟨e.k, v, e.b⟩ :: r) n = _
      rw [findE, findE]
      by_cases q : k' = e.k <;> simp [q]
    · have := findE_ge _ _ _ h; omega
  | e :: r, n, i + 1, h => by
    rw [findE] at h
    split at h
    · simp at h
    · rename_i hk
      show findE k' (e :: r.modify i fun e => ⟨e.k, v, e.b⟩) n = _
      rw [findE, findE, findE_mod (k' := k') r (n + 1) i (by rw [show n + 1 + i = n + (i + 1) by omega]; exact h)]
      by_cases q : k' = e.k
      · rw [if_pos q, if_pos q, if_neg (by rintro rfl; exact hk q)]
      · rw [if_neg q, if_neg q, show n + 1 + i = n + (i + 1) by omega]
theorem valE_put (k' k : Key) (v : Value) (c : Nat) (l : List (Ent Key)) : valE k' (putE k v c l) = if k' = k then v else valE k' l := by
  unfold valE putE
  cases h : findE k l 0 with
  | none =>
    dsimp only
    rw [findE_app]
    by_cases q : k' = k
    · subst q; rw [h]; simp
    · cases findE k' l 0 <;> simp [q]
  | some p =>
    obtain ⟨i, u⟩ := p
    dsimp only
    rw [findE_mod l 0 i (by simpa using h)]
    by_cases q : k' = k <;> simp [q]
/-- A table in memory, in parts. -/
structure Raw (w : World) (base t m : Nat) (nv av : Value) (vs cl : Int) (ns es : List Value) (l : List (Ent Key)) (c : Nat) : Prop where
  bt : w.heap[t]? = some (.cells #[nv, .map (some m), .int .i64 vs, av, .int .i64 cl] 71 (0, 0))
  bm : IsMap encK w m l c
  lt : base ≤ t
  lm : base ≤ m
  on : w.ownsRow base 9 1 nv ns.length ns
  oa : w.ownsRow base 3 1 av es.length es
section
variable {w w' : World} {base t m : Nat} {nv av : Value} {vs cl : Int} {ns es : List Value} {l : List (Ent Key)} {c : Nat}
theorem Raw.mod (h : Raw w base t m nv av vs cl ns es l c) (hm : Mod none_ w w') : Raw w' base t m nv av vs cl ns es l c :=
  ⟨hm.blk h.bt id, h.bm.mod hm id, h.lt, h.lm, owns_mod h.on hm (fun _ _ => id), owns_mod h.oa hm (fun _ _ => id)⟩
theorem Raw.tm (h : Raw w base t m nv av vs cl ns es l c) : m ≠ t := by
  rintro rfl
  have := h.bm.symm.trans h.bt
  cases this
theorem Raw.nt (h : Raw w base t m nv av vs cl ns es l c) : nv.ownBlock ≠ some t := owns_ne_blk h.on h.bt (by decide)
theorem Raw.at (h : Raw w base t m nv av vs cl ns es l c) : av.ownBlock ≠ some t := owns_ne_blk h.oa h.bt (by decide)
theorem Raw.nm (h : Raw w base t m nv av vs cl ns es l c) : nv.ownBlock ≠ some m := fun q => by
  obtain ⟨cur, hc⟩ := owns_blk h.on q
  have := h.bm.symm.trans hc
  cases this
theorem Raw.am (h : Raw w base t m nv av vs cl ns es l c) : av.ownBlock ≠ some m := fun q => by
  obtain ⟨cur, hc⟩ := owns_blk h.oa q
  have := h.bm.symm.trans hc
  cases this
/-- The table's own block stored over. -/
theorem Raw.setT (h : Raw w base t m nv av vs cl ns es l c) (hm : Mod (fun i => i = t) w w') {nv' av' : Value} {vs' cl' : Int} (hb : w'.heap[t]? = some (.cells #[nv', .map (some m), .int .i64 vs', av', .int .i64 cl'] 71 (0, 0)))
    (hn : nv' = nv) (ha : av' = av) : Raw w' base t m nv' av' vs' cl' ns es l c := by
  subst hn ha
  exact ⟨hb, h.bm.mod hm h.tm, h.lt, h.lm, owns_mod h.on hm (fun k hk q => h.nt (q ▸ hk)), owns_mod h.oa hm (fun k hk q => h.at (q ▸ hk))⟩
theorem Raw.fld (h : Raw w base t m nv av vs cl ns es l c) : t < w.heap.size := X.blk_lt h.bt
end
end Go.Proofs.YtbnbcimjapiicaaDoor.Tr
set_option linter.unusedVariables false
set_option linter.unusedSimpArgs false
set_option maxRecDepth 4000
namespace Go.Proofs.YtbnbcimjapiicaaDoor.Tr
open Go Go.X Go.RowKit Go.Proofs.YtbnbcimjapiicaaDoor.XG Go.Proofs.YtbnbcimjapiicaaDoor.XK
def full (ds : List De) (d : De) : Bool := if d.places = 0 then decide (vars ds = 64) else decide (1000 < cellsP ds + d.places)
/-- What a declaration more is told. -/
def dstep (ds : List De) (d : De) : Int := if (findP ds d.key).kind ≠ 0 then 40 else if full ds d then 4 else 0
theorem look_run {w : World} {b : Nat} {l : List (Ent Key)} {c : Nat} (h : IsMap encK w b l c) (k : ByteArray) : (Instr.lookup 69 (.map (some b)) (.string k) false).run Tryd.prog w = .ok (valE k.data.toList l) w := by
  have hr := run_look KT uMap h zEnt k.data.toList false
  rw [encK_of] at hr
  rw [hr]
  unfold valE
  cases findE k.data.toList l 0 with
  | none => rfl
  | some p => obtain ⟨i, v⟩ := p; rfl
theorem build_run {t : TypeId} {parts : List (Nat × Value)} {cs : Array Value} {w : World} (h : Tryd.prog.built t parts = some cs) : (Instr.build t parts.toArray).run Tryd.prog w = .ok (.agg cs) w :=
  run_build (P := Tryd.prog) w t parts.toArray cs (by simpa using h)
theorem uIs : Tryd.prog.underlying 50 = some (.slice 3) := by kernel_rfl
theorem eIs : elemOk Tryd.prog 50 3 1 8 = true := by kernel_rfl
theorem eSs : elemOk Tryd.prog 52 9 1 16 = true := by kernel_rfl
theorem owns_ge {w : World} {base : Nat} {e : TypeId} {size : Nat} {v : Value} {n : Nat} {xs : List Value} (h : w.ownsRow base e size v n xs) {g : Nat} (hg : v.ownBlock = some g) : base ≤ g := by
  obtain ⟨_, ⟨rfl, _⟩ | ⟨g', cap, cur, rfl, hb, _⟩⟩ := h
  · cases hg
  · have : g' = g := by simpa [Value.ownBlock] using hg
    omega
/-- One of the names more. -/
theorem app_names {w : World} {base t m : Nat} {nv av : Value} {vs cl : Int} {ns es : List Value} {l : List (Ent Key)} {c : Nat} {S : World → Prop} {N : Value → Value → Value → World → Prop} (hR : Raw w base t m nv av vs cl ns es l c) {x u : Value} (hx : reads w 1 x 1 [u]) (hu : u.oneCell' = true) (hlen : ns.length < 1099511627776)
    (hS : ∀ w', Mod (fun i => some i = nv.ownBlock ∨ i = t) w w' → S w')
    (hN : ∀ x1 x2 v' w', Raw w' base t m v' av vs cl (ns ++ [u]) es l c → S w' → Mod (fun i => some i = nv.ownBlock ∨ i = t) w w' → N x1 x2 v' w') :
    IK Tryd.prog .append #[52, 52] 52 [false, false] [nv, x] w fun v' w => S w ∧ (HK Tryd.prog S (nilCk (pt t)) fun x1 => HK Tryd.prog S (do pure (Next.value (← Instr.fieldAt 71 x1 0))) fun x2 => UK Tryd.prog (Instr.storeAt 52 x2 v') w fun _ w => S w ∧ N x1 x2 v' w) := by
  have ht := hR.fld
  refine ap_own eSs hR.on hx (by decide) (by simpa using hu) (by unfold maxLen; omega) (by omega) (Nat.le_of_lt (Nat.lt_of_le_of_lt hR.lt ht)) fun v' w2 h2 hm2 h4 => ?_
  have hbt2 := hm2.blk hR.bt (fun q => hR.nt q.symm)
  refine ⟨hS _ (hm2.mono fun _ _ q => Or.inl q), HN_ptr (HV_of (fun w' _ => run_fo (off := 0) (by kernel_rfl) _ w') ?_)⟩
  rw [add_pl]
  have h1 : v'.oneCell' = true := by obtain ⟨_, ⟨rfl, _⟩ | ⟨g, cap, cur, rfl, _⟩⟩ := h2 <;> rfl
  refine stC (b := t) (o := 0 + 0) rfl (by kernel_rfl) h1 hbt2 (by simp) fun w3 hb3' hm3 hz3 => ?_
  have hvt : v'.ownBlock ≠ some t := by
    rcases h4 with h4 | h4
    · rw [h4]; exact hR.nt
    · rw [h4]; intro q; injection q with q; omega
  have hm13 : Mod (fun i => some i = nv.ownBlock ∨ i = t) w w3 := (hm2.mono fun _ _ q => Or.inl q).then hm3 fun _ _ q => Or.inr q
  have hs3 := hS w3 hm13
  refine ⟨hs3, hN _ _ _ _ ?_ hs3 hm13⟩
  refine ⟨hb3', (hR.bm.mod hm2 fun q => hR.nm q.symm).mod hm3 hR.tm, hR.lt, hR.lm, ?_, ?_⟩
  · rw [List.length_append]; exact owns_mod h2 hm3 (fun k hk q => hvt (q ▸ hk))
  · exact owns_mod (owns_mod hR.oa hm2 (fun k hk q => owns_ne hR.oa hR.on (by decide) k hk q)) hm3 (fun k hk q => hR.at (q ▸ hk))
/-- One of the arrs more. -/
theorem app_arrs {w : World} {base t m : Nat} {nv av : Value} {vs cl : Int} {ns es : List Value} {l : List (Ent Key)} {c : Nat} {S : World → Prop} {N : Value → Value → Value → World → Prop} (hR : Raw w base t m nv av vs cl ns es l c) {x u : Value} (hx : reads w 1 x 1 [u]) (hu : u.oneCell' = true) (hlen : es.length < 1099511627776)
    (hS : ∀ w', Mod (fun i => some i = av.ownBlock ∨ i = t) w w' → S w')
    (hN : ∀ x1 x2 v' w', Raw w' base t m nv v' vs cl ns (es ++ [u]) l c → S w' → Mod (fun i => some i = av.ownBlock ∨ i = t) w w' → N x1 x2 v' w') :
    IK Tryd.prog .append #[50, 50] 50 [false, false] [av, x] w fun v' w => S w ∧ (HK Tryd.prog S (nilCk (pt t)) fun x1 => HK Tryd.prog S (do pure (Next.value (← Instr.fieldAt 71 x1 3))) fun x2 => UK Tryd.prog (Instr.storeAt 50 x2 v') w fun _ w => S w ∧ N x1 x2 v' w) := by
  have ht := hR.fld
  refine ap_own eIs hR.oa hx (by decide) (by simpa using hu) (by unfold maxLen; omega) (by omega) (Nat.le_of_lt (Nat.lt_of_le_of_lt hR.lt ht)) fun v' w2 h2 hm2 h4 => ?_
  have hbt2 := hm2.blk hR.bt (fun q => hR.at q.symm)
  refine ⟨hS _ (hm2.mono fun _ _ q => Or.inl q), HN_ptr (HV_of (fun w' _ => run_fo (off := 3) (by kernel_rfl) _ w') ?_)⟩
  rw [add_pl]
  have h1 : v'.oneCell' = true := by obtain ⟨_, ⟨rfl, _⟩ | ⟨g, cap, cur, rfl, _⟩⟩ := h2 <;> rfl
  refine stC (b := t) (o := 0 + 3) rfl (by kernel_rfl) h1 hbt2 (by simp) fun w3 hb3' hm3 hz3 => ?_
  have hvt : v'.ownBlock ≠ some t := by
    rcases h4 with h4 | h4
    · rw [h4]; exact hR.at
    · rw [h4]; intro q; injection q with q; omega
  have hm13 : Mod (fun i => some i = av.ownBlock ∨ i = t) w w3 := (hm2.mono fun _ _ q => Or.inl q).then hm3 fun _ _ q => Or.inr q
  have hs3 := hS w3 hm13
  refine ⟨hs3, hN _ _ _ _ ?_ hs3 hm13⟩
  refine ⟨hb3', (hR.bm.mod hm2 fun q => hR.am q.symm).mod hm3 hR.tm, hR.lt, hR.lm, ?_, ?_⟩
  · exact owns_mod (owns_mod hR.on hm2 (fun k hk q => owns_ne hR.on hR.oa (by decide) k hk q)) hm3 (fun k hk q => hR.nt (q ▸ hk))
  · rw [List.length_append]; exact owns_mod h2 hm3 (fun k hk q => hvt (q ▸ hk))
theorem TbAt.raw {w : World} {base t : Nat} {ds : List De} (h : TbAt w base t ds) : ∃ nv av m l c, Raw w base t m nv av (vars ds) (cellsP ds) (ds.map fun d => .string d.name) ((arrs ds).map (.int .i64)) l c ∧ ∀ k, valE k l = (findP ds k).v := by
  obtain ⟨nv, av, m, l, c, h1, h2, h3, h4, h5, h6, h7⟩ := h.at'
  exact ⟨nv, av, m, l, c, ⟨h1, h2, h4, h5, by rw [List.length_map]; exact h6, by rw [List.length_map]; exact h7⟩, h3⟩
theorem Raw.tb {w : World} {base t : Nat} {ds : List De} {nv av : Value} {m : Nat} {l : List (Ent Key)} {c : Nat} (h : Raw w base t m nv av (vars ds) (cellsP ds) (ds.map fun d => .string d.name) ((arrs ds).map (.int .i64)) l c) (hv : ∀ k, valE k l = (findP ds k).v) : TbAt w base t ds :=
  ⟨⟨nv, av, m, l, c, h.bt, h.bm, hv, h.lt, h.lm, by have := h.on; rw [List.length_map] at this; exact this, by have := h.oa; rw [List.length_map] at this; exact this⟩⟩
theorem NKs {P : Program} {w : World} {K : Value → World → Prop} {x : Value} {a : Addr} (hx : x = .pointer (some a)) (hk : K (.pointer (some a)) w) : NK P x w K := by rw [hx, NK_ptr]; exact hk
theorem R10_W (z : Go.X.At) (K : Exit → Sl → World → Prop) (ρ : Sl) (w : World) : sx z Tryd.prog 101 scope_Table_declare_R10 K ρ w = W z Tryd.prog 101 scope_Table_declare_R10 K ρ w := by kernel_rfl
/-- Blocks that a table may have for its own: no declaration's. -/
def Own (w : World) (base i : Nat) : Prop := base ≤ i ∧ ∀ cs fr, w.heap[i]? ≠ some (.cells cs 40 fr)
theorem declare_ok {w : World} {base t : Nat} {ds : List De} {d : De} (ht : TbAt w base t ds) (hD : Decls ds) (hl : ds.length < 1099511627776) (hv : vars ds ≤ 64) (hc : cellsP ds ≤ 1000) (hdm : d.may = true) :
    Rt Tryd.prog 37 #[pt t, .agg d.cells.toArray] w fun v w' => v = .int .i64 (dstep ds d) ∧ (dstep ds d = 0 → TbAt w' base t (ds ++ [d])) ∧ Mod (Own w base) w w' := by
  obtain ⟨nv, av, m, l, c, hR, hval⟩ := ht.raw
  have hOt : Own w base t := ⟨hR.lt, fun cs fr q => by
    have := hR.bt.symm.trans q
    injection this with this
    injection this with _ this
    exact absurd this (by decide)⟩
  have hOm : Own w base m := ⟨hR.lm, fun cs fr q => by have := hR.bm.symm.trans q; cases this⟩
  have hOn : ∀ i, some i = nv.ownBlock → Own w base i := fun i q => ⟨owns_ge hR.on q.symm, fun cs fr q2 => owns_ne_blk hR.on q2 (by decide) q.symm⟩
  have hOa : ∀ i, some i = av.ownBlock → Own w base i := fun i q => ⟨owns_ge hR.oa q.symm, fun cs fr q2 => owns_ne_blk hR.oa q2 (by decide) q.symm⟩
  have hc0 := (cellsP_le hD.may).1
  have hp := may_places hdm
  refine scope_Table_declare_calls ?_
  unfold scope_Table_declare_F
  refine box_k (cs := d.cells.toArray) rfl fun w1 hb1 hm1 hz1 => ?_
  have hR1 := hR.mod hm1
  have hbt : base ≤ t := hR.lt
  have hltw : t < w.heap.size := hR.fld
  generalize hb3 : w.heap.size = b3 at *
  refine scope_Table_declare_R0_quiet (D := []) (fun w' => Mod none_ w1 w') ((Mod.refl _ w1).drawn _) ?_
  unfold scope_Table_declare_R0_Q
  refine QN_ptr (a := ⟨t, 0, none⟩) ?_
  refine Qfo (off := 1) (a := ⟨t, 0, none⟩) (by kernel_rfl) (Qld uMp rfl (v := .map (some m)) (fun w' hw => by rw [add_pl, cell_blk (hR1.mod hw).bt]; rfl) ?_)
  refine Qfo (off := 0) (a := ⟨b3, 0, none⟩) (by kernel_rfl) (Qld uSt rfl (v := .string d.name) (fun w' hw => by rw [add_pl, cell_blk (hw.blk hb1 id)]; rfl) ?_)
  refine QV_of (fun w' hw => look_run (hR1.mod hw).bm d.name) ?_
  refine QV_of (fun w' hw => build_run bEnt0) ?_
  rw [hval]
  refine QB_of (v := .bool (!decide (findP ds d.name.data.toList = zEn))) (fun w => run_eqGuard_agg w .neq _ _ _ _ _ gEn) (fun w => rEnN _ _ w) ?_
  intro w2 hm2
  have hR2 := hR1.mod hm2
  have hb2 := hm2.blk hb1 id
  have hm02 := hm1.trans hm2
  have up1 : ∀ {w'}, Mod none_ w w' → Mod (Own w base) w w' := fun h => h.mono fun _ _ q => q.elim
  rw [sq_n, scope_Table_declare_R1_eq]
  unfold scope_Table_declare_R1_F
  refine caseC (fun hq => ?_) (fun hq => ?_)
  · have hk : (findP ds d.key).kind ≠ 0 := fun e => by rw [show d.name.data.toList = d.key from rfl, findP_zero e] at hq; simp at hq
    have hs : dstep ds d = 40 := by unfold dstep; rw [if_pos hk]
    rw [hs]
    exact ⟨rfl, fun q => by simp at q, up1 hm02⟩
  have hk : (findP ds d.key).kind = 0 := by
    have : findP ds d.name.data.toList = zEn := by simpa using hq
    rw [show d.key = d.name.data.toList from rfl, this]; rfl
  have hds : dstep ds d = if full ds d then 4 else 0 := by unfold dstep; rw [if_neg (by simp [hk])]
  rw [hds]
  clear hm1 hm2 hR1 hb1 hq hds
  have hfld2 : ∀ (w' : World) (nv av : Value) (vs cl : Int) (ns es : List Value) (l : List (Ent Key)) (c : Nat), Raw w' base t m nv av vs cl ns es l c → ∀ (j : Nat) (v : Value), (#[nv, .map (some m), .int .i64 vs, av, .int .i64 cl] : Array Value)[j]? = some v → w'.cell? ⟨t, 0 + j, none⟩ = some v := fun w' nv av vs cl ns es l c h j v hj => by
    rw [cell_blk h.bt, Nat.zero_add]; exact hj
  -- names, the end
  have r8 : ∀ (ρ' : Sl) (w5 : World) (av' : Value) (l' : List (Ent Key)) (c' : Nat), Raw w5 base t m nv av' (vars (ds ++ [d])) (cellsP (ds ++ [d])) (ds.map fun d => .string d.name) ((arrs (ds ++ [d])).map (.int .i64)) l' c' → w5.heap[b3]? = some (.cells d.cells.toArray 40 (0, 0)) → Mod (Own w base) w w5 → (∀ k, valE k l' = (findP (ds ++ [d]) k).v) → full ds d = false → ρ' 0 = pt t → ρ' 3 = pt b3 →
      sx fn_ Tryd.prog 101 scope_Table_declare_R8 (retK Tryd.prog [ResultVar.tmp 4] fun v w' => v = .int .i64 (if full ds d then 4 else 0) ∧ ((if full ds d then (4 : Int) else 0) = 0 → TbAt w' base t (ds ++ [d])) ∧ Mod (Own w base) w w') ρ' w5 := by
    intro ρ' w5 av' l' c' hR5 hb5 hm5 hval5 hfull q0 q3
    rw [hfull, show (if (false : Bool) = true then (4 : Int) else 0) = 0 from rfl]
    rw [scope_Table_declare_R8_eq]
    unfold scope_Table_declare_R8_F
    have hRd := hR5.mod ((Mod.refl none_ w5).drawn (w5.drawn + 1))
    have hbd : ({ w5 with drawn := w5.drawn + 1 } : World).heap[b3]? = some (.cells d.cells.toArray 40 (0, 0)) := hb5
    have hmd : Mod (Own w base) w { w5 with drawn := w5.drawn + 1 } := hm5.drawn _
    refine scope_Table_declare_R11_held (D := []) (fun w' => w'.heap[b3]? = some (.cells d.cells.toArray 40 (0, 0))) hb5 ?_
    unfold scope_Table_declare_R11_H
    generalize ({ w5 with drawn := w5.drawn + 1 } : World) = wd at hRd hbd hmd ⊢
    rw [q0, q3]
    have hend : ∀ (ρ2 : Sl) (x' : Value) (w' : World), Raw w' base t m x' av' (vars (ds ++ [d])) (cellsP (ds ++ [d])) ((ds.map fun d => .string d.name) ++ [.string d.name]) ((arrs (ds ++ [d])).map (.int .i64)) l' c' → Mod (Own w base) wd w' →
        seqK (sx fn_ Tryd.prog 101 scope_Table_declare_R12 (retK Tryd.prog [ResultVar.tmp 4] fun v w' => v = .int .i64 0 ∧ ((0 : Int) = 0 → TbAt w' base t (ds ++ [d])) ∧ Mod (Own w base) w w')) (retK Tryd.prog [ResultVar.tmp 4] fun v w' => v = .int .i64 0 ∧ ((0 : Int) = 0 → TbAt w' base t (ds ++ [d])) ∧ Mod (Own w base) w w') .normal ρ2 w' := by
      intro ρ2 x' w' hRe hme
      rw [sq_n, scope_Table_declare_R12_eq]
      unfold scope_Table_declare_R12_F
      have hRe' : Raw w' base t m x' av' (vars (ds ++ [d])) (cellsP (ds ++ [d])) ((ds ++ [d]).map fun d => .string d.name) ((arrs (ds ++ [d])).map (.int .i64)) l' c' := by rw [List.map_append]; exact hRe
      exact ⟨rfl, fun _ => hRe'.tb hval5, hmd.trans hme⟩
    have hn3 : t ≠ b3 := by omega
    have hnb : nv.ownBlock ≠ some b3 := owns_ne_blk hRd.on hbd (by decide)
    refine HN_ptr (HV_of (fun w' _ => run_fo (off := 0) (by kernel_rfl) _ w') (HV_of (fun w' _ => run_fo (off := 0) (by kernel_rfl) _ w') (HV_of (fun w' hw => run_ld1 uSt rfl (v := .string d.name) (by rw [add_pl, cell_blk hw]; rfl)) ⟨?_, ?_⟩)))
    · refine ld1 (v := nv) uSs rfl (by rw [add_pl]; exact hfld2 _ _ _ _ _ _ _ _ _ hRd 0 nv rfl) ⟨hbd, ?_⟩
      refine bs_k (cs := #[.string d.name]) (by kernel_rfl) fun w6 hb6 hm6 hz6 => ⟨hm6.blk hbd id, ?_⟩
      exact app_names (hRd.mod hm6) (by simpa using reads_blk (size := 1) (n := 1) hb6 rfl) rfl (by rw [List.length_map]; omega) (fun w' h => h.blk (hm6.blk hbd id) (by rintro (q | q); exact hnb q.symm; exact hn3 q.symm)) fun x1 x2 v' w' hRe hS hme => hend _ v' w' hRe ((hm6.mono fun _ _ q => q.elim).trans (hme.mono fun i _ q => q.elim (hOn i) fun e => by rw [e]; exact hOt))
    · refine bs_k (cs := #[.string d.name]) (by kernel_rfl) fun w6 hb6 hm6 hz6 => ⟨hm6.blk hbd id, ?_⟩
      refine ld1 (v := nv) uSs rfl (by rw [add_pl]; exact hfld2 _ _ _ _ _ _ _ _ _ (hRd.mod hm6) 0 nv rfl) ⟨hm6.blk hbd id, ?_⟩
      exact app_names (hRd.mod hm6) (by simpa using reads_blk (size := 1) (n := 1) hb6 rfl) rfl (by rw [List.length_map]; omega) (fun w' h => h.blk (hm6.blk hbd id) (by rintro (q | q); exact hnb q.symm; exact hn3 q.symm)) fun x1 x2 v' w' hRe hS hme => hend _ v' w' hRe ((hm6.mono fun _ _ q => q.elim).trans (hme.mono fun i _ q => q.elim (hOn i) fun e => by rw [e]; exact hOt))
  -- the map
  have r5 : ∀ (ρ' : Sl) (w4 : World) (av' : Value) (b5 : Nat), Raw w4 base t m nv av' (vars (ds ++ [d])) (cellsP (ds ++ [d])) (ds.map fun d => .string d.name) ((arrs (ds ++ [d])).map (.int .i64)) l c → w4.heap[b3]? = some (.cells d.cells.toArray 40 (0, 0)) → w4.heap[b5]? = some (.cells (nu ds d).cells.toArray 37 (0, 0)) → Mod (Own w base) w w4 → full ds d = false → ρ' 0 = pt t → ρ' 3 = pt b3 → ρ' 5 = pt b5 →
      sx fn_ Tryd.prog 101 scope_Table_declare_R5 (retK Tryd.prog [ResultVar.tmp 4] fun v w' => v = .int .i64 (if full ds d then 4 else 0) ∧ ((if full ds d then (4 : Int) else 0) = 0 → TbAt w' base t (ds ++ [d])) ∧ Mod (Own w base) w w') ρ' w4 := by
    intro ρ' w4 av' b5 hR4 hb4 hb5 hm4 hfull q0 q3 q5
    rw [scope_Table_declare_R5_eq]
    unfold scope_Table_declare_R5_F
    refine scope_Table_declare_R7_tail (D := []) ?_
    unfold scope_Table_declare_R7_T
    have hRd := hR4.mod ((Mod.refl none_ w4).drawn (w4.drawn + 1))
    have hbd : ({ w4 with drawn := w4.drawn + 1 } : World).heap[b3]? = some (.cells d.cells.toArray 40 (0, 0)) := hb4
    have hbd5 : ({ w4 with drawn := w4.drawn + 1 } : World).heap[b5]? = some (.cells (nu ds d).cells.toArray 37 (0, 0)) := hb5
    have hmd : Mod (Own w base) w { w4 with drawn := w4.drawn + 1 } := hm4.drawn _
    generalize ({ w4 with drawn := w4.drawn + 1 } : World) = wd at hRd hbd hbd5 hmd ⊢
    rw [q0, q3, q5]
    dsimp only
    refine QN_ptr (a := ⟨t, 0, none⟩) ?_
    refine Qfo (off := 1) (a := ⟨t, 0, none⟩) (by kernel_rfl) (Qld uMp rfl (v := .map (some m)) (fun w' hw => by rw [hw, add_pl]; exact hfld2 _ _ _ _ _ _ _ _ _ hRd 1 _ rfl) ?_)
    refine Qfo (off := 0) (a := ⟨b3, 0, none⟩) (by kernel_rfl) (Qld uSt rfl (v := .string d.name) (fun w' hw => by rw [hw, add_pl, cell_blk hbd]; rfl) ?_)
    refine QV_of (v := (nu ds d).v) (fun w' hw => by rw [hw]; exact run_ldB (cs := (nu ds d).cells.toArray) Tryd.underlying37 rfl iEnt hbd5) ?_
    obtain ⟨w5, hrun, hIs, hm5⟩ := run_put KT uMap hRd.bm d.key (nu ds d).v
    rw [show encK d.key = .string d.name from encK_of d.name] at hrun
    refine UK_of hrun ?_
    have hn0 : m ≠ b3 := by
      rintro rfl
      have := hRd.bm.symm.trans hbd
      cases this
    rw [sq_n]
    refine r8 _ w5 av' _ _ ⟨hm5.blk hRd.bt (fun q => hRd.tm q.symm), hIs, hRd.lt, hRd.lm, owns_mod hRd.on hm5 (fun k hk q => hRd.nm (q ▸ hk)), owns_mod hRd.oa hm5 (fun k hk q => hRd.am (q ▸ hk))⟩ (hm5.blk hbd fun q => hn0 q.symm) (hmd.then hm5 fun i _ q => by rw [q]; exact hOm) ?_ hfull ?_ ?_
    · intro k
      rw [valE_put, findP_snoc hk, hval]
      by_cases q : k = d.key <;> simp [q]
    · exact q0
    · exact q3
  have hnotV : ∀ (q : d.places ≠ 0), isV d = false := fun q => decide_eq_false q
  have hisV : ∀ (q : d.places = 0), isV d = true := fun q => decide_eq_true q
  -- the counters
  have r6 : ∀ (ρ' : Sl) (w4 : World) (b5 : Nat) (f : Bool), Raw w4 base t m nv av (vars ds) (cellsP ds) (ds.map fun d => .string d.name) ((arrs ds).map (.int .i64)) l c → w4.heap[b3]? = some (.cells d.cells.toArray 40 (0, 0)) → w4.heap[b5]? = some (.cells (nu ds d).cells.toArray 37 (0, 0)) → Mod (Own w base) w w4 → f = full ds d → ρ' 55 = .bool f → ρ' 0 = pt t → ρ' 3 = pt b3 → ρ' 5 = pt b5 →
      sx fn_ Tryd.prog 101 scope_Table_declare_R6 (blkK 0 (seqK (sx fn_ Tryd.prog 101 scope_Table_declare_R5 (retK Tryd.prog [ResultVar.tmp 4] fun v w' => v = .int .i64 (if full ds d then 4 else 0) ∧ ((if full ds d then (4 : Int) else 0) = 0 → TbAt w' base t (ds ++ [d])) ∧ Mod (Own w base) w w')) (retK Tryd.prog [ResultVar.tmp 4] fun v w' => v = .int .i64 (if full ds d then 4 else 0) ∧ ((if full ds d then (4 : Int) else 0) = 0 → TbAt w' base t (ds ++ [d])) ∧ Mod (Own w base) w w'))) ρ' w4 := by
    intro ρ' w4 b5 f hR4 hb4 hb5 hm4 hf q55 q0 q3 q5
    rw [scope_Table_declare_R6_eq]
    unfold scope_Table_declare_R6_F
    have hn5 : t ≠ b5 := by
      rintro rfl
      have := hR4.bt.symm.trans hb5
      injection this with this
      injection this with _ this
      exact absurd this (by decide)
    have hn3 : t ≠ b3 := by omega
    refine caseN q55 (fun hp => ?_) (fun hp => ?_)
    · rw [bk_r, sq_r]
      rw [← hf, hp]
      exact ⟨rfl, fun q => by simp at q, hm4⟩
    · rw [hp] at hf
      have g0 : FAt Tryd.prog w4 37 0 ⟨b5, 0, none⟩ 5 (.int .u8 (nu ds d).kind) := FAt.mk' (off := 0) (by kernel_rfl) uU8 rfl (by rw [add_pl, cell_blk hb5]; rfl)
      refine g0.vs q5 fun x73 => ?_
      by_cases hpl : d.places = 0
      · have hnu : nu ds d = ⟨1, vars ds, 0, 0⟩ := by unfold nu; rw [if_pos hpl]
        rw [hnu]
        refine BKeqI (a := 1) (b := 1) rfl rfl (fun _ => condT ?_) (fun q => absurd rfl q)
        rw [q0, NK_ptr]
        have g2 : FAt Tryd.prog w4 71 2 ⟨t, 0, none⟩ 3 (.int .i64 (vars ds)) := FAt.mk' (off := 2) (by kernel_rfl) uI rfl (by rw [add_pl]; exact hfld2 _ _ _ _ _ _ _ _ _ hR4 2 _ rfl)
        refine g2.vk' fun x78 => ?_
        refine BKadd (a := vars ds) (b := 1) rfl rfl (by omega) (by omega) ?_
        rw [NK_ptr, fo71_2, add_pl]
        refine stC (b := t) (o := 0 + 2) rfl (by kernel_rfl) rfl hR4.bt (by simp) fun w5 hb5' hm5 _ => ?_
        have hR5 := hR4.setT (nv' := nv) (av' := av) (vs' := (vars ds : Int) + 1) (cl' := cellsP ds) hm5 hb5' rfl rfl
        rw [bk_n, sq_n]
        refine r5 _ w5 av b5 ?_ (hm5.blk hb4 fun q => hn3 q.symm) (hm5.blk hb5 fun q => hn5 q.symm) (hm4.then hm5 fun i _ q => by rw [q]; exact hOt) hf.symm ?_ ?_ ?_
        · have e1 : (vars (ds ++ [d]) : Int) = (vars ds : Int) + 1 := by rw [vars_snoc, hisV hpl]; simp
          have e2 : cellsP (ds ++ [d]) = cellsP ds := by rw [cellsP_snoc, hpl, Int.add_zero]
          have e3 : arrs (ds ++ [d]) = arrs ds := by rw [arrs_snoc, hisV hpl]; simp
          rw [e1, e2, e3]; exact hR5
        · exact q0
        · exact q3
        · exact q5
      · have hnu : nu ds d = ⟨2, (arrs ds).length, cellsP ds, d.places⟩ := by unfold nu; rw [if_neg hpl]
        have hle : cellsP ds + d.places ≤ 1000 := by
          unfold full at hf
          rw [if_neg hpl] at hf
          have := of_decide_eq_false hf.symm
          omega
        rw [show (nu ds d).kind = 2 by rw [hnu]]
        refine BKeqI (a := 2) (b := 1) rfl rfl (fun q => absurd q (by decide)) (fun _ => condF ?_)
        have h9 : ∀ (KK : Exit → Sl → World → Prop), (∀ (ρ2 : Sl) (w6 : World) (x' : Value), ρ2 0 = pt t → ρ2 3 = pt b3 → ρ2 5 = pt b5 → Raw w6 base t m nv x' (vars (ds ++ [d])) (cellsP (ds ++ [d])) (ds.map fun d => .string d.name) ((arrs (ds ++ [d])).map (.int .i64)) l c → w6.heap[b3]? = some (.cells d.cells.toArray 40 (0, 0)) → w6.heap[b5]? = some (.cells (nu ds d).cells.toArray 37 (0, 0)) → Mod (Own w base) w w6 → KK .normal ρ2 w6) →
            ∀ (ρ9 : Sl), ρ9 0 = pt t → ρ9 3 = pt b3 → ρ9 5 = pt b5 → W fn_ Tryd.prog 101 scope_Table_declare_R9 (seqK (sx fn_ Tryd.prog 101 scope_Table_declare_R10 KK) KK) ρ9 w4 := by
          intro KK kN ρ9 q0 q3 q5
          refine scope_Table_declare_R9_held (D := []) (fun w' => w'.heap[b3]? = some (.cells d.cells.toArray 40 (0, 0)) ∧ w'.heap[b5]? = some (.cells (nu ds d).cells.toArray 37 (0, 0))) ⟨hb4, hb5⟩ ?_
          unfold scope_Table_declare_R9_H
          have hRd := hR4.mod ((Mod.refl none_ w4).drawn (w4.drawn + 1))
          have hbd : ({ w4 with drawn := w4.drawn + 1 } : World).heap[b3]? = some (.cells d.cells.toArray 40 (0, 0)) := hb4
          have hbd5 : ({ w4 with drawn := w4.drawn + 1 } : World).heap[b5]? = some (.cells (nu ds d).cells.toArray 37 (0, 0)) := hb5
          have hmd : Mod (Own w base) w { w4 with drawn := w4.drawn + 1 } := hm4.drawn _
          generalize ({ w4 with drawn := w4.drawn + 1 } : World) = wd at hRd hbd hbd5 hmd ⊢
          have e1 : (vars (ds ++ [d]) : Int) = (vars ds : Int) := by rw [vars_snoc, hnotV hpl]; simp
          have e2 : cellsP (ds ++ [d]) = cellsP ds + d.places := by rw [cellsP_snoc]
          have e3 : (arrs (ds ++ [d])).map (.int .i64) = (arrs ds).map (Value.int .i64) ++ [.int .i64 d.places] := by rw [arrs_snoc, hnotV hpl]; simp
          have hav5 : av.ownBlock ≠ some b5 := owns_ne_blk hRd.oa hbd5 (by decide)
          have hend : ∀ (ρ2 : Sl) (x' : Value) (w5 : World), ρ2 0 = pt t → ρ2 3 = pt b3 → ρ2 5 = pt b5 → Raw w5 base t m nv x' (vars ds) (cellsP ds) (ds.map fun d => .string d.name) ((arrs ds).map (Value.int .i64) ++ [.int .i64 d.places]) l c → w5.heap[b3]? = some (.cells d.cells.toArray 40 (0, 0)) → w5.heap[b5]? = some (.cells (nu ds d).cells.toArray 37 (0, 0)) → Mod (Own w base) w w5 →
              sx fn_ Tryd.prog 101 scope_Table_declare_R10 KK ρ2 w5 := by
            intro ρ2 x' w5 q0 q3 q5 hR5 hb53 hb55 hm5
            rw [R10_W]
            refine scope_Table_declare_R10_held (D := []) (fun w' => w'.heap[b3]? = some (.cells d.cells.toArray 40 (0, 0))) hb53 ?_
            unfold scope_Table_declare_R10_H
            have hRd := hR5.mod ((Mod.refl none_ w5).drawn (w5.drawn + 1))
            have hbd : ({ w5 with drawn := w5.drawn + 1 } : World).heap[b3]? = some (.cells d.cells.toArray 40 (0, 0)) := hb53
            have hbd5 : ({ w5 with drawn := w5.drawn + 1 } : World).heap[b5]? = some (.cells (nu ds d).cells.toArray 37 (0, 0)) := hb55
            have hmd : Mod (Own w base) w { w5 with drawn := w5.drawn + 1 } := hm5.drawn _
            generalize ({ w5 with drawn := w5.drawn + 1 } : World) = wd at hRd hbd hbd5 hmd ⊢
            rw [q0, q3]
            refine HN_ptr (HV_of (fun w' _ => run_fo (off := 4) (by kernel_rfl) _ w') (HV_of (fun w' _ => run_fo (off := 1) (by kernel_rfl) _ w') (HV_of (fun w' hw => run_ld1 uI rfl (v := .int .i64 d.places) (by rw [add_pl, cell_blk hw]; rfl)) ?_)))
            refine ld1 (v := .int .i64 (cellsP ds)) uI rfl (by rw [add_pl]; exact hfld2 _ _ _ _ _ _ _ _ _ hRd 4 _ rfl) ⟨hbd, ?_⟩
            refine HB_of (v := .int .i64 (cellsP ds + d.places)) (fun _ => rfl) (fun w => by have := wrap_i (n := cellsP ds + d.places) (by omega) (by omega); simp [go_sem, this]) ?_
            refine HN_ptr (HV_of (fun w' _ => run_fo (off := 4) (by kernel_rfl) _ w') ?_)
            rw [add_pl]
            refine stC (b := t) (o := 0 + 4) rfl (by kernel_rfl) rfl hRd.bt (by simp) fun w6 hb6 hm6 _ => ?_
            refine ⟨hm6.blk hbd fun q => hn3 q.symm, ?_⟩
            have hR6 := hRd.setT (nv' := nv) (av' := x') (vs' := (vars ds : Int)) (cl' := cellsP ds + d.places) hm6 hb6 rfl rfl
            refine kN _ w6 x' ?_ ?_ ?_ ?_ (hm6.blk hbd fun q => hn3 q.symm) (hm6.blk hbd5 fun q => hn5 q.symm) (hmd.then hm6 fun i _ q => by rw [q]; exact hOt)
            · exact q0
            · exact q3
            · exact q5
            · rw [e1, e2, e3]; exact hR6
          have hnb : av.ownBlock ≠ some b3 := owns_ne_blk hRd.oa hbd (by decide)
          have keep : ∀ w6, Mod none_ wd w6 → ∀ w', Mod (fun i => some i = av.ownBlock ∨ i = t) w6 w' → w'.heap[b3]? = some (.cells d.cells.toArray 40 (0, 0)) ∧ w'.heap[b5]? = some (.cells (nu ds d).cells.toArray 37 (0, 0)) := fun w6 h6 w' h => ⟨h.blk (h6.blk hbd id) (by rintro (q | q); exact hnb q.symm; exact hn3 q.symm), h.blk (h6.blk hbd5 id) (by rintro (q | q); exact hav5 q.symm; exact hn5 q.symm)⟩
          rw [q0, q3]
          refine HN_ptr (HV_of (fun w' _ => run_fo (off := 3) (by kernel_rfl) _ w') (HV_of (fun w' _ => run_fo (off := 1) (by kernel_rfl) _ w') (HV_of (fun w' hw => run_ld1 uI rfl (v := .int .i64 d.places) (by rw [add_pl, cell_blk hw.1]; rfl)) ⟨?_, ?_⟩)))
          · refine ld1 (v := av) uIs rfl (by rw [add_pl]; exact hfld2 _ _ _ _ _ _ _ _ _ hRd 3 _ rfl) ⟨⟨hbd, hbd5⟩, ?_⟩
            refine bs_k (cs := #[.int .i64 d.places]) (by kernel_rfl) fun w6 hb6 hm6 hz6 => ⟨⟨hm6.blk hbd id, hm6.blk hbd5 id⟩, ?_⟩
            refine app_arrs (hRd.mod hm6) (by simpa using reads_blk (size := 1) (n := 1) hb6 rfl) rfl (by have := arrs_le ds; rw [List.length_map]; omega) (keep w6 hm6) fun x1 x2 v' w' hRe hS hme => ?_
            rw [sq_n]
            refine hend _ v' w' ?_ ?_ ?_ hRe hS.1 hS.2 (hmd.trans ((hm6.mono fun _ _ q => q.elim).trans (hme.mono fun i _ q => q.elim (hOa i) fun e => by rw [e]; exact hOt)))
            · exact q0
            · exact q3
            · exact q5
          · refine bs_k (cs := #[.int .i64 d.places]) (by kernel_rfl) fun w6 hb6 hm6 hz6 => ⟨⟨hm6.blk hbd id, hm6.blk hbd5 id⟩, ?_⟩
            refine ld1 (v := av) uIs rfl (by rw [add_pl]; exact hfld2 _ _ _ _ _ _ _ _ _ (hRd.mod hm6) 3 _ rfl) ⟨⟨hm6.blk hbd id, hm6.blk hbd5 id⟩, ?_⟩
            refine app_arrs (hRd.mod hm6) (by simpa using reads_blk (size := 1) (n := 1) hb6 rfl) rfl (by have := arrs_le ds; rw [List.length_map]; omega) (keep w6 hm6) fun x1 x2 v' w' hRe hS hme => ?_
            rw [sq_n]
            refine hend _ v' w' ?_ ?_ ?_ hRe hS.1 hS.2 (hmd.trans ((hm6.mono fun _ _ q => q.elim).trans (hme.mono fun i _ q => q.elim (hOa i) fun e => by rw [e]; exact hOt)))
            · exact q0
            · exact q3
            · exact q5
        refine h9 _ (fun ρ2 w6 x' q0 q3 q5 hR6 h3 h5 hm6 => ?_) _ ?_ ?_ ?_
        · rw [bk_n, sq_n]
          exact r5 _ w6 x' b5 hR6 h3 h5 hm6 hf.symm q0 q3 q5
        · exact q0
        · exact q3
        · exact q5
  have kv : ∀ (q : d.places = 0), nu ds d = ⟨1, vars ds, 0, 0⟩ := fun q => by unfold nu; rw [if_pos q]
  have ka : ∀ (q : d.places ≠ 0), nu ds d = ⟨2, (arrs ds).length, cellsP ds, d.places⟩ := fun q => by unfold nu; rw [if_neg q]
  have r3 : ∀ (ρ' : Sl) (w4 : World) (b5 : Nat), Raw w4 base t m nv av (vars ds) (cellsP ds) (ds.map fun d => .string d.name) ((arrs ds).map (.int .i64)) l c → w4.heap[b3]? = some (.cells d.cells.toArray 40 (0, 0)) → w4.heap[b5]? = some (.cells (nu ds d).cells.toArray 37 (0, 0)) → Mod (Own w base) w w4 → ρ' 0 = pt t → ρ' 3 = pt b3 → ρ' 5 = pt b5 →
      sx fn_ Tryd.prog 101 scope_Table_declare_R3 (retK Tryd.prog [ResultVar.tmp 4] fun v w' => v = .int .i64 (if full ds d then 4 else 0) ∧ ((if full ds d then (4 : Int) else 0) = 0 → TbAt w' base t (ds ++ [d])) ∧ Mod (Own w base) w w') ρ' w4 := by
    intro ρ' w4 b5 hR4 hb4 hb5 hm4 q0 q3 q5
    rw [scope_Table_declare_R3_eq]
    unfold scope_Table_declare_R3_F
    have g0 : FAt Tryd.prog w4 37 0 ⟨b5, 0, none⟩ 5 (.int .u8 (nu ds d).kind) := FAt.mk' (off := 0) (by kernel_rfl) uU8 rfl (by rw [add_pl, cell_blk hb5]; rfl)
    have g2 : FAt Tryd.prog w4 37 2 ⟨b5, 0, none⟩ 3 (.int .i64 (nu ds d).base) := FAt.mk' (off := 2) (by kernel_rfl) uI rfl (by rw [add_pl, cell_blk hb5]; rfl)
    have g3 : FAt Tryd.prog w4 37 3 ⟨b5, 0, none⟩ 3 (.int .i64 (nu ds d).places) := FAt.mk' (off := 3) (by kernel_rfl) uI rfl (by rw [add_pl, cell_blk hb5]; rfl)
    have gv : FAt Tryd.prog w4 71 2 ⟨t, 0, none⟩ 3 (.int .i64 (vars ds)) := FAt.mk' (off := 2) (by kernel_rfl) uI rfl (by rw [add_pl]; exact hfld2 _ _ _ _ _ _ _ _ _ hR4 2 _ rfl)
    refine g0.vs q5 fun x56 => ?_
    by_cases hpl : d.places = 0
    · rw [show (nu ds d).kind = 1 by rw [kv hpl]]
      refine BKeqI (a := 1) (b := 1) rfl rfl (fun _ => ?_) (fun q => absurd rfl q)
      rw [q0]
      simp only [CondK_bool, MG_u, NG_u, VG_u, UG_u, PG_u, BG_u, CG_u, IG_u, MG_b, NG_b, VG_b, UG_b, PG_b, BG_b, CG_b, IG_b, PK_bool, NK_ptr, not_ok, reduceCtorEq, if_true, if_false, Bool.true_eq_false, Bool.false_eq_true, Bool.not_true, Bool.not_false]
      refine gv.vk' fun x62 => ?_
      have hfull : full ds d = decide (vars ds = 64) := by unfold full; rw [if_pos hpl]
      refine BKeqI (a := vars ds) (b := 64) rfl rfl (fun q => ?_) (fun q => ?_)
      · have hq : vars ds = 64 := by omega
        simp only [CondK_bool, MG_u, NG_u, VG_u, UG_u, PG_u, BG_u, CG_u, IG_u, MG_b, NG_b, VG_b, UG_b, PG_b, BG_b, CG_b, IG_b, PK_bool, NK_ptr, not_ok, reduceCtorEq, if_true, if_false, Bool.true_eq_false, Bool.false_eq_true, Bool.not_true, Bool.not_false]
        refine r6 _ w4 b5 true hR4 hb4 hb5 hm4 (by rw [hfull, decide_eq_true hq]) rfl ?_ ?_ ?_
        · exact q0
        · exact q3
        · exact q5
      · have hq : vars ds ≠ 64 := by omega
        simp only [CondK_bool, MG_u, NG_u, VG_u, UG_u, PG_u, BG_u, CG_u, IG_u, MG_b, NG_b, VG_b, UG_b, PG_b, BG_b, CG_b, IG_b, PK_bool, NK_ptr, not_ok, reduceCtorEq, if_true, if_false, Bool.true_eq_false, Bool.false_eq_true, Bool.not_true, Bool.not_false]
        refine g2.vs q5 fun x66 => g3.vs q5 fun x68 => ?_
        rw [show (nu ds d).base = 0 by rw [kv hpl], show (nu ds d).places = 0 by rw [kv hpl]]
        refine BKadd (a := 0) (b := 0) rfl rfl (by decide) (by decide) ?_
        refine BKgtr (a := 0 + 0) (b := 1000) rfl rfl ?_
        refine r6 _ w4 b5 false hR4 hb4 hb5 hm4 (by rw [hfull, decide_eq_false hq]) rfl ?_ ?_ ?_
        · exact q0
        · exact q3
        · exact q5
    · rw [show (nu ds d).kind = 2 by rw [ka hpl]]
      refine BKeqI (a := 2) (b := 1) rfl rfl (fun q => absurd q (by decide)) (fun _ => ?_)
      simp only [CondK_bool, MG_u, NG_u, VG_u, UG_u, PG_u, BG_u, CG_u, IG_u, MG_b, NG_b, VG_b, UG_b, PG_b, BG_b, CG_b, IG_b, PK_bool, NK_ptr, not_ok, reduceCtorEq, if_true, if_false, Bool.true_eq_false, Bool.false_eq_true, Bool.not_true, Bool.not_false]
      have hfull : full ds d = decide (1000 < cellsP ds + d.places) := by unfold full; rw [if_neg hpl]
      refine g2.vs q5 fun x66 => g3.vs q5 fun x68 => ?_
      rw [show (nu ds d).base = cellsP ds by rw [ka hpl], show (nu ds d).places = d.places by rw [ka hpl]]
      refine BKadd (a := cellsP ds) (b := d.places) rfl rfl (by omega) (by omega) ?_
      refine BKgtr (a := cellsP ds + d.places) (b := 1000) rfl rfl ?_
      refine r6 _ w4 b5 (decide (1000 < cellsP ds + d.places)) hR4 hb4 hb5 hm4 hfull.symm rfl ?_ ?_ ?_
      · exact q0
      · exact q3
      · exact q5
  have r2 : ∀ (ρ' : Sl), ρ' 0 = pt t → ρ' 3 = pt b3 →
      sx fn_ Tryd.prog 101 scope_Table_declare_R2 (retK Tryd.prog [ResultVar.tmp 4] fun v w' => v = .int .i64 (if full ds d then 4 else 0) ∧ ((if full ds d then (4 : Int) else 0) = 0 → TbAt w' base t (ds ++ [d])) ∧ Mod (Own w base) w w') ρ' w2 := by
    intro ρ' q0 q3
    rw [scope_Table_declare_R2_eq]
    unfold scope_Table_declare_R2_F
    have gv : FAt Tryd.prog w2 71 2 ⟨t, 0, none⟩ 3 (.int .i64 (vars ds)) := FAt.mk' (off := 2) (by kernel_rfl) uI rfl (by rw [add_pl]; exact hfld2 _ _ _ _ _ _ _ _ _ hR2 2 _ rfl)
    refine NKs q0 ?_
    refine gv.vk' fun x17 => ?_
    rw [build_ok (bEnt1 _)]
    refine lcl_k (cs := (En.mk 1 (vars ds) 0 0).cells.toArray) zEnt _ iEnt rfl (en_one _) fun w3 hb3' hm3 hz3 => ?_
    have hR3 := hR2.mod hm3
    have hb23 := hm3.blk hb2 id
    have hm03 := hm02.trans hm3
    have hlt5 : b3 < w2.heap.size := X.blk_lt hb2
    generalize w2.heap.size = b5 at *
    have gp : FAt Tryd.prog w3 40 1 ⟨b3, 0, none⟩ 3 (.int .i64 d.places) := FAt.mk' (off := 1) (by kernel_rfl) uI rfl (by rw [add_pl, cell_blk hb23]; rfl)
    refine gp.vs q3 fun x20 => ?_
    refine BKgtr (a := d.places) (b := 0) rfl rfl ?_
    refine caseC (fun hpp => ?_) (fun hpp => ?_)
    · have hpl : d.places ≠ 0 := by have := of_decide_eq_true hpp; omega
      have h4 : ∀ (KK : Exit → Sl → World → Prop), (∀ (ρ5 : Sl) (w5 : World), ρ5 0 = pt t → ρ5 3 = pt b3 → ρ5 5 = pt b5 → Raw w5 base t m nv av (vars ds) (cellsP ds) (ds.map fun d => .string d.name) ((arrs ds).map (.int .i64)) l c → w5.heap[b3]? = some (.cells d.cells.toArray 40 (0, 0)) → w5.heap[b5]? = some (.cells (nu ds d).cells.toArray 37 (0, 0)) → Mod (Own w base) w w5 → KK .normal ρ5 w5) →
          ∀ (ρ4 : Sl), ρ4 0 = pt t → ρ4 3 = pt b3 → ρ4 5 = pt b5 → W fn_ Tryd.prog 101 scope_Table_declare_R4 KK ρ4 w3 := by
        intro KK kN ρ4 q0 q3 q5
        refine scope_Table_declare_R4_tail (D := []) ?_
        unfold scope_Table_declare_R4_T
        have hRd := hR3.mod ((Mod.refl none_ w3).drawn (w3.drawn + 1))
        have hbd : ({ w3 with drawn := w3.drawn + 1 } : World).heap[b3]? = some (.cells d.cells.toArray 40 (0, 0)) := hb23
        have hbd5 : ({ w3 with drawn := w3.drawn + 1 } : World).heap[b5]? = some (.cells (En.mk 1 (vars ds) 0 0).cells.toArray 37 (0, 0)) := hb3'
        have hmd : Mod none_ w { w3 with drawn := w3.drawn + 1 } := hm03.drawn _
        generalize ({ w3 with drawn := w3.drawn + 1 } : World) = wd at hRd hbd hbd5 hmd ⊢
        obtain ⟨Aa, ca, hav, _⟩ := reads_cap (reads_of_owns hRd.oa)
        dsimp only
        rw [q0, q3]
        refine QN_ptr (a := ⟨t, 0, none⟩) ?_
        refine Qfo (off := 3) (a := ⟨t, 0, none⟩) (by kernel_rfl) (Qld uIs rfl (v := .slice Aa ((arrs ds).map (Value.int .i64)).length ca) (fun w' hw => by rw [hw, add_pl, ← hav]; exact hfld2 _ _ _ _ _ _ _ _ _ hRd 3 _ rfl) ?_)
        refine QI_len uIs _ _ _ _ ?_
        refine QN_ptr (a := ⟨t, 0, none⟩) ?_
        refine Qfo (off := 4) (a := ⟨t, 0, none⟩) (by kernel_rfl) (Qld uI rfl (v := .int .i64 (cellsP ds)) (fun w' hw => by rw [hw, add_pl]; exact hfld2 _ _ _ _ _ _ _ _ _ hRd 4 _ rfl) ?_)
        refine Qfo (off := 1) (a := ⟨b3, 0, none⟩) (by kernel_rfl) (Qld uI rfl (v := .int .i64 d.places) (fun w' hw => by rw [hw, add_pl, cell_blk hbd]; rfl) ?_)
        rw [build_ok (bEnt2 _ _ _), List.length_map]
        refine stS (b := b5) (old := (En.mk 1 (vars ds) 0 0).cells.toArray) (cs := (nu ds d).cells.toArray) ?_ ?_ iEnt rfl (en_one _) hbd5 fun w5 hb55 hm5 _ => ?_
        · exact q5
        · rw [ka hpl]
        have hn5 : b5 ≠ t ∧ b5 ≠ b3 ∧ b5 ≠ m := by
          refine ⟨?_, ?_, ?_⟩
          · rintro rfl
            have := hRd.bt.symm.trans hbd5
            injection this with this
            injection this with _ this
            exact absurd this (by decide)
          · rintro rfl
            have := hbd.symm.trans hbd5
            injection this with this
            injection this with _ this
            exact absurd this (by decide)
          · rintro rfl
            have := hRd.bm.symm.trans hbd5
            cases this
        have hR5 : Raw w5 base t m nv av (vars ds) (cellsP ds) (ds.map fun d => .string d.name) ((arrs ds).map (.int .i64)) l c :=
          ⟨hm5.blk hRd.bt hn5.1.symm, hRd.bm.mod hm5 hn5.2.2.symm, hRd.lt, hRd.lm, owns_mod hRd.on hm5 (fun k hk q => owns_ne_blk hRd.on hbd5 (by decide) (q ▸ hk)), owns_mod hRd.oa hm5 (fun k hk q => owns_ne_blk hRd.oa hbd5 (by decide) (q ▸ hk))⟩
        refine kN _ w5 ?_ ?_ ?_ hR5 (hm5.blk hbd hn5.2.1.symm) hb55 ((up1 hmd).then hm5 fun i _ q => by omega)
        · exact q0
        · exact q3
        · exact q5
      refine h4 _ (fun ρ5 w5 a b c' h1 h2 h3 h4 => ?_) _ ?_ ?_ ?_
      · rw [sq_n]
        exact r3 _ w5 b5 h1 h2 h3 h4 a b c'
      · exact q0
      · exact q3
      · rfl
    · have hpl : d.places = 0 := by have := of_decide_eq_false hpp; omega
      refine r3 _ w3 b5 hR3 hb23 (by rw [kv hpl]; exact hb3') (up1 hm03) ?_ ?_ rfl
      · exact q0
      · exact q3
  rw [sq_n]
  exact r2 _ rfl rfl
end Go.Proofs.YtbnbcimjapiicaaDoor.Tr
set_option linter.unusedVariables false
set_option linter.unusedSimpArgs false
set_option maxRecDepth 4000
namespace Go.Proofs.YtbnbcimjapiicaaDoor.Tr
open Go Go.X Go.RowKit Go.Proofs.YtbnbcimjapiicaaDoor.XG Go.Proofs.YtbnbcimjapiicaaDoor.XK
def declsW (pre : List De) : List De → Wr
  | [] => zWr
  | d :: r => if dstep pre d = 0 then declsW (pre ++ [d]) r else ⟨dstep pre d, d.line, d.col⟩
def checkP (p : Pr) : Wr := if p.may then (if (declsW [] p.decls).err = 0 then St.wrL (kindP p.decls) p.body else declsW [] p.decls) else ⟨2, 0, 0⟩
theorem dstep_zero {pre : List De} {d : De} (h : dstep pre d = 0) : (findP pre d.key).kind = 0 ∧ full pre d = false := by
  unfold dstep at h
  split at h
  · simp at h
  · rename_i q
    split at h
    · simp at h
    · rename_i q2; exact ⟨by simpa using q, by simpa using q2⟩
theorem lim_snoc {pre : List De} {d : De} (h : full pre d = false) (hp : 0 ≤ d.places) (hv : vars pre ≤ 64) (hc : cellsP pre ≤ 1000) : vars (pre ++ [d]) ≤ 64 ∧ cellsP (pre ++ [d]) ≤ 1000 := by
  unfold full at h
  rw [vars_snoc, cellsP_snoc]
  by_cases q : d.places = 0
  · rw [if_pos q] at h
    have := of_decide_eq_false h
    rw [show isV d = true from decide_eq_true q]
    simp only [if_true]
    omega
  · rw [if_neg q] at h
    have := of_decide_eq_false h
    rw [show isV d = false from decide_eq_false q]
    simp only [Bool.false_eq_true, if_false]
    omega
theorem bTb (m : Nat) : Tryd.prog.built 71 [(1, .map (some m))] = some #[.slice none 0 0, .map (some m), .int .i64 0, .slice none 0 0, .int .i64 0] := by kernel_rfl
theorem TbAt.low {w : World} {base base' t : Nat} {ds : List De} (h : TbAt w base t ds) (hb : base' ≤ base) : TbAt w base' t ds := by
  obtain ⟨nv, av, m, l, c, h1, h2, h3, h4, h5, h6, h7⟩ := h.at'
  exact ⟨⟨nv, av, m, l, c, h1, h2, h3, by omega, by omega, owns_base h6 hb, owns_base h7 hb⟩⟩
theorem TbAt.off {w w' : World} {S : Nat → Prop} {base t : Nat} {ds : List De} (h : TbAt w base t ds) (hm : Mod S w w') (hS : ∀ i, S i → i < base) : TbAt w' base t ds := by
  obtain ⟨nv, av, m, l, c, h1, h2, h3, h4, h5, h6, h7⟩ := h.at'
  have hn : ∀ {i}, base ≤ i → ¬ S i := fun h q => by have := hS _ q; omega
  exact ⟨⟨nv, av, m, l, c, hm.blk h1 (hn h4), h2.mod hm (hn h5), h3, h4, h5, owns_mod h6 hm (fun k hk => hn (owns_ge h6 hk)), owns_mod h7 hm (fun k hk => hn (owns_ge h7 hk))⟩⟩
/-- What New tells. -/
structure Told (p : Pr) (w : World) (x : Value) (w' : World) : Prop where
  m : Mod none_ w w'
  ok : (checkP p).err = 0 → p.may = true ∧ (declsW [] p.decls).err = 0 ∧ ∃ t, x = pt t ∧ TbAt w' w.heap.size t p.decls
  bad : (checkP p).err ≠ 0 → x = .pointer none
theorem New_ok {w : World} (hg : Gl w) {p : Pr} (h : p.Ok w) (hf : p.fits) : Rt Tryd.prog 13 #[.agg p.cells.toArray] w fun v w' => ∃ x, v = .tuple #[x, (checkP p).v] ∧ Told p w x w' := by
  refine scope_New_calls ?_
  unfold scope_New_F
  refine box_k (cs := p.cells.toArray) rfl fun w1 hb1 hm1 hz1 => ?_
  refine al_k zWrg rfl _ fun w2 hb2 hm2 hz2 => ?_
  have hb12 := hm2.blk hb1 id
  have hm12 := hm1.trans hm2
  refine ldB (cs := p.cells.toArray) Tryd.underlying25 rfl iPr hb12 ?_
  refine CK_st Tryd.func29 rfl rfl (May_ok (hg.mod hm12) (h.mod hm12) hf) ?_
  rintro _ w3 ⟨rfl, hm3⟩
  rw [not_ok]
  have hm13 := hm12.trans hm3
  have hb13 := hm3.blk hb12 id
  have hb23 := hm3.blk hb2 id
  generalize hx3 : w1.heap.size = b3 at *
  cases hmay : p.may with
  | false =>
    refine condT ?_
    rw [build_ok (bWr1 2)]
    refine stS (b := b3) (old := zWr.cells.toArray) (cs := (Wr.mk 2 0 0).cells.toArray) rfl rfl iWrg rfl (wr_one _) hb23 fun w4 hb4 hm4 _ => ?_
    have hcp : checkP p = ⟨2, 0, 0⟩ := by unfold checkP; rw [hmay]; rfl
    refine ⟨_, res_ld (run_ldB (cs := (Wr.mk 2 0 0).cells.toArray) Tryd.underlying30 rfl iWrg hb4), _, by rw [hcp]; rfl, hm13.then hm4 (fun i hi q => absurd q (by omega)), fun q => ?_, fun _ => rfl⟩
    rw [hcp] at q; simp at q
  | true =>
    refine condF ?_
    have hmays : ∀ d ∈ p.decls, d.may = true := by
      unfold Pr.may at hmay
      simp only [Bool.and_eq_true, List.all_eq_true] at hmay
      exact hmay.1.2
    refine make_ok (enc := encK) 69 fun w4 hIs hm4 hz4 => ?_
    rw [build_ok (bTb _)]
    refine box_k (cs := #[.slice none 0 0, .map (some w3.heap.size), .int .i64 0, .slice none 0 0, .int .i64 0]) rfl fun w5 hb5 hm5 hz5 => ?_
    have hlt3 : w3.heap.size < w4.heap.size := by omega
    have hbase : b3 < w3.heap.size := X.blk_lt hb23
    have hT0 : TbAt w5 w3.heap.size w4.heap.size [] :=
      ⟨⟨_, _, _, [], 0, hb5, hIs.mod hm5 id, fun k => rfl, by omega, by omega, ⟨rfl, .inl ⟨rfl, rfl⟩⟩, ⟨rfl, .inl ⟨rfl, rfl⟩⟩⟩⟩
    have hm35 := hm4.trans hm5
    have hm15 := hm13.trans hm35
    have hb15 := hm35.blk hb13 id
    have hb25 := hm35.blk hb23 id
    have hb1lt : w.heap.size < b3 := by omega
    have h5 := h.mod hm15
    obtain ⟨A, c, hs, _⟩ := reads_cap h.d.1
    generalize w3.heap.size = base at *
    generalize w4.heap.size = t at *
    have f0 : FAt Tryd.prog w5 25 0 ⟨w.heap.size, 0, none⟩ 22 (.slice A p.decls.length c) := FAt.mk' (off := 0) (by kernel_rfl) uDes rfl (by rw [add_pl, cell_blk hb15, ← hs]; rfl)
    refine f0.vk' fun x16 => ?_
    rw [len22]
    have hcp : checkP p = (if (declsW [] p.decls).err = 0 then St.wrL (kindP p.decls) p.body else declsW [] p.decls) := by unfold checkP; rw [hmay]; rfl
    clear hm1 hz1 hb1 hm2 hz2 hb2 hm12 hb12 hb13 hb23 hm3 hIs hm4 hz4 hb5 hm5 hz5 hm13 hm35
    refine W_loop scope_New_L0_ok (fun ρ w' => ∃ n : Nat, n ≤ p.decls.length ∧ ρ 19 = .int .i64 n ∧ ρ 18 = .int .i64 p.decls.length ∧ ρ 17 = .slice A p.decls.length c ∧ ρ 1 = pt w.heap.size ∧ ρ 3 = pt b3 ∧ ρ 4 = pt t ∧ TbAt w' base t (p.decls.take n) ∧ vars (p.decls.take n) ≤ 64 ∧ cellsP (p.decls.take n) ≤ 1000 ∧ declsW [] p.decls = declsW (p.decls.take n) (p.decls.drop n) ∧ Mod (fun i => base ≤ i) w5 w') (fun ρ _ => p.decls.length - (intOf (ρ 19)).toNat)
      ⟨0, Nat.zero_le _, rfl, rfl, rfl, rfl, rfl, rfl, hT0, Nat.zero_le _, (by rw [List.take_zero]; decide), rfl, Mod.refl _ _⟩ ?_
    rintro ρ w6 ⟨n, hn, h19, h18, h17, h1, h3, h4, hT, hv, hc, hdW, hm6⟩
    have hb16 := hm6.blk hb15 (by omega)
    have hb26 := hm6.blk hb25 (by omega)
    have hm06 : Mod none_ w w6 := hm15.then hm6 fun i hi q => by omega
    rw [scope_New_L0_eq]
    unfold scope_New_L0_F
    rw [h19, h18, h17]
    refine BKlss (a := n) (b := p.decls.length) rfl rfl ?_
    by_cases hlt : n < p.decls.length
    · rw [show decide ((n : Int) < (p.decls.length : Int)) = true by rw [decide_eq_true_eq]; omega]
      refine condT ?_
      have hx : p.decls[n]? = some p.decls[n] := List.getElem?_eq_getElem hlt
      have hmem : p.decls[n] ∈ p.decls := List.getElem_mem hlt
      have hds6 := h.d.mod hm06
      rw [hs] at hds6
      refine ixDe hds6 hx fun y => ?_
      refine lcl_k (cs := p.decls[n].cells.toArray) zDe _ iDe rfl (de_one _) fun w7 hb7 hm7 hz7 => ?_
      refine ldS (b := w6.heap.size) (cs := p.decls[n].cells.toArray) rfl Tryd.underlying40 rfl iDe hb7 ?_
      rw [h4]
      have hlen' := hf.1
      have htl : (p.decls.take n).length = n := by rw [List.length_take]; omega
      have htake : p.decls.take (n + 1) = p.decls.take n ++ [p.decls[n]] := by rw [List.take_add_one, hx, Option.toList_some]
      have hdrop : p.decls.drop n = p.decls[n] :: p.decls.drop (n + 1) := (List.getElem_cons_drop hlt).symm
      have hp := may_places (hmays _ hmem)
      have hb17 := hm7.blk hb16 id
      have hb27 := hm7.blk hb26 id
      have hlt6 : base < w6.heap.size := by have := hm6.size; have := hT.raw; obtain ⟨_, _, m, _, _, hR, _⟩ := this; have := hR.fld; have := hR.lt; have := hR.bm; have := X.blk_lt this; have := hR.lm; omega
      refine CK_st Tryd.func37 rfl rfl (declare_ok (hT.mod hm7) ⟨by omega, fun d hd => hmays d (List.mem_of_mem_take hd)⟩ (by omega) hv hc (hmays _ hmem)) ?_
      rintro _ w8 ⟨rfl, hTn, hm8⟩
      have hdl : w8.heap[w6.heap.size]? = some (.cells p.decls[n].cells.toArray 40 (0, 0)) := hm8.blk hb7 fun q => q.2 _ _ hb7
      have hm58 : Mod (fun i => base ≤ i) w5 w8 := (hm6.trans (hm7.mono fun _ _ q => q.elim)).trans (hm8.mono fun _ _ q => q.1)
      rw [hdrop, declsW] at hdW
      refine BKneI (a := dstep (p.decls.take n) p.decls[n]) (b := 0) rfl rfl (fun hz => condF ?_) (fun hz => condT ?_)
      · obtain ⟨_, hfull⟩ := dstep_zero hz
        obtain ⟨hv', hc'⟩ := lim_snoc hfull hp.1 hv hc
        rw [if_pos hz] at hdW
        refine BKadd (a := n) (b := 1) rfl rfl (by omega) (by omega) ?_
        refine ⟨⟨n + 1, hlt, rfl, h18, h17, h1, h3, h4, ?_, ?_, ?_, ?_, hm58⟩, ?_⟩
        · rw [htake]; exact hTn hz
        · rw [htake]; exact hv'
        · rw [htake]; exact hc'
        · rw [htake]; exact hdW
        · show p.decls.length - (intOf (Value.int .i64 ((n : Int) + 1))).toNat < _
          simp only [intOf]; omega
      · rw [if_neg hz] at hdW
        have hcp' : checkP p = ⟨dstep (p.decls.take n) p.decls[n], p.decls[n].line, p.decls[n].col⟩ := by rw [hcp, hdW, if_neg hz]
        have hb18 := hm8.blk hb17 (fun q => by have := q.1; omega)
        have hb28 := hm8.blk hb27 (fun q => by have := q.1; omega)
        have hm08 : Mod none_ w w8 := hm15.then hm58 fun i hi q => by omega
        have e2 : ∀ (KK : Exit → Sl → World → Prop), (∀ (ρ3 : Sl) (w9 : World), ρ3 3 = pt b3 → ρ3 2 = .pointer none → w9.heap[b3]? = some (.cells (checkP p).cells.toArray 30 (0, 0)) → Mod (fun i => i = b3) w8 w9 → KK .normal ρ3 w9) → ∀ (ρ2 : Sl), ρ2 3 = pt b3 → ρ2 6 = pt w6.heap.size → ρ2 7 = .int .i64 (dstep (p.decls.take n) p.decls[n]) → W fn_ Tryd.prog 45 scope_New_R2 KK ρ2 w8 := by
          intro KK kN ρ2 q3 q6 q7
          refine scope_New_R2_tail (D := []) ?_
          unfold scope_New_R2_T
          have hbd : ({ w8 with drawn := w8.drawn + 1 } : World).heap[w6.heap.size]? = some (.cells p.decls[n].cells.toArray 40 (0, 0)) := hdl
          have hbd3 : ({ w8 with drawn := w8.drawn + 1 } : World).heap[b3]? = some (.cells zWr.cells.toArray 30 (0, 0)) := hb28
          have hmd : Mod (fun i => i = b3) w8 { w8 with drawn := w8.drawn + 1 } := (Mod.refl _ w8).drawn _
          generalize ({ w8 with drawn := w8.drawn + 1 } : World) = wd at hbd hbd3 hmd ⊢
          dsimp only
          rw [q6, q7]
          refine Qfo (off := 2) (a := ⟨w6.heap.size, 0, none⟩) (by kernel_rfl) (Qld uI rfl (v := .int .i64 p.decls[n].line) (fun w' hw => by rw [hw, add_pl, cell_blk hbd]; rfl) ?_)
          refine Qfo (off := 3) (a := ⟨w6.heap.size, 0, none⟩) (by kernel_rfl) (Qld uI rfl (v := .int .i64 p.decls[n].col) (fun w' hw => by rw [hw, add_pl, cell_blk hbd]; rfl) ?_)
          refine QV_of (fun w' _ => build_run (bWr3 _ _ _)) ?_
          refine stS (b := b3) (old := zWr.cells.toArray) (cs := (checkP p).cells.toArray) q3 (by rw [hcp']) iWrg rfl (wr_one _) hbd3 fun w9 hb9 hm9 _ => ?_
          refine kN _ w9 ?_ rfl hb9 (hmd.trans hm9)
          exact q3
        refine e2 _ (fun ρ3 w9 q3 q2 hb9 hm9 => ?_) _ ?_ ?_ rfl
        · rw [sq_n, scope_New_R3_eq]
          unfold scope_New_R3_F
          rw [bk_r, sq_r, sq_r, bk_r, sq_r]
          refine rtTC (b := b3) (cs := (checkP p).cells.toArray) q3 Tryd.underlying30 rfl iWrg hb9 ?_
          refine ⟨_, by rw [q2]; rfl, hm08.then hm9 (fun i hi q => absurd q (by omega)), fun q => ?_, fun _ => rfl⟩
          rw [hcp'] at q; exact absurd q hz
        · exact h3
        · rfl
    · obtain rfl : n = p.decls.length := by omega
      rw [show decide (((p.decls.length : Nat) : Int) < (p.decls.length : Int)) = false by simp]
      refine condF ?_
      rw [List.take_length] at hT hv hc
      rw [List.drop_length, List.take_length, declsW] at hdW
      rw [hdW] at hcp
      rw [if_pos (show zWr.err = 0 from rfl)] at hcp
      rw [sq_x, bk_x, sq_n, scope_New_R1_eq]
      unfold scope_New_R1_F
      have f1 : FAt Tryd.prog w6 25 1 ⟨w.heap.size, 0, none⟩ 23 p.bs := FAt.mk' (off := 1) (by kernel_rfl) uSts rfl (by rw [add_pl, cell_blk hb16]; rfl)
      refine f1.vs h1 fun x36 => ?_
      refine CK_eq (bs := [pt t, p.bs]) rfl ?_ (CK_st Tryd.func38 rfl rfl (look_ok' hT (h.b.mod hm06) hf.2) ?_)
      · exact congrArg (fun z => [z, p.bs]) h4
      rintro _ w7 ⟨rfl, hm7⟩
      refine lcl_k (cs := (St.wrL (kindP p.decls) p.body).cells.toArray) zWrg _ iWrg rfl (wr_one _) fun w8 hb8 hm8 hz8 => ?_
      have hb28 := (hm7.trans hm8).blk hb26 id
      have hm08 := (hm06.trans hm7).trans hm8
      have hT8 := (hT.mod hm7).mod hm8
      have hlt8 : b3 < w7.heap.size := by have := X.blk_lt hb26; have := hm7.size; omega
      generalize w7.heap.size = b8 at *
      have g0 : FAt Tryd.prog w8 30 0 ⟨b8, 0, none⟩ 28 (.int .i64 (St.wrL (kindP p.decls) p.body).err) := FAt.mk' (off := 0) (by kernel_rfl) uErrI rfl (by rw [add_pl, cell_blk hb8]; rfl)
      refine g0.vk' fun x39 => ?_
      refine BKneI (a := (St.wrL (kindP p.decls) p.body).err) (b := 0) rfl rfl (fun hz => condF ?_) (fun hz => condT ?_)
      · have he : (checkP p).err = 0 := by rw [hcp]; exact hz
        have hcz : checkP p = zWr := by rw [hcp]; exact St.wrL_z _ (fun a _ => St.wr_z a) hz
        rw [build_ok bWr0]
        refine stS (b := b3) (old := zWr.cells.toArray) (cs := zWr.cells.toArray) h3 rfl iWrg rfl (wr_one _) hb28 fun w9 hb9 hm9 _ => ?_
        refine rtTC (b := b3) (cs := zWr.cells.toArray) ?_ Tryd.underlying30 rfl iWrg hb9 ?_
        · exact h3
        · refine ⟨_, by rw [hcz]; rfl, hm08.then hm9 (fun i hi q => absurd q (by omega)), fun _ => ⟨hmay, by rw [hdW]; rfl, t, ?_, ?_⟩, fun q => absurd he q⟩
          · exact h4
          · exact (hT8.off hm9 fun i q => by omega).low (by omega)
      · have he : (checkP p).err ≠ 0 := by rw [hcp]; exact hz
        have e5 : ∀ (KK : Exit → Sl → World → Prop), (∀ (ρ3 : Sl) (w9 : World), ρ3 3 = pt b3 → ρ3 2 = .pointer none → w9.heap[b3]? = some (.cells (checkP p).cells.toArray 30 (0, 0)) → Mod (fun i => i = b3) w8 w9 → KK .normal ρ3 w9) → ∀ (ρ2 : Sl), ρ2 3 = pt b3 → ρ2 8 = pt b8 → W fn_ Tryd.prog 45 scope_New_R5 KK ρ2 w8 := by
          intro KK kN ρ2 q3 q8
          refine scope_New_R5_tail (D := []) ?_
          unfold scope_New_R5_T
          have hbd : ({ w8 with drawn := w8.drawn + 1 } : World).heap[b8]? = some (.cells (St.wrL (kindP p.decls) p.body).cells.toArray 30 (0, 0)) := hb8
          have hbd3 : ({ w8 with drawn := w8.drawn + 1 } : World).heap[b3]? = some (.cells zWr.cells.toArray 30 (0, 0)) := hb28
          have hmd : Mod (fun i => i = b3) w8 { w8 with drawn := w8.drawn + 1 } := (Mod.refl _ w8).drawn _
          generalize ({ w8 with drawn := w8.drawn + 1 } : World) = wd at hbd hbd3 hmd ⊢
          dsimp only
          rw [q8]
          refine QV_of (v := (checkP p).v) (fun w' hw => by rw [hw, hcp]; exact run_ldB (cs := (St.wrL (kindP p.decls) p.body).cells.toArray) Tryd.underlying30 rfl iWrg hbd) ?_
          refine stS (b := b3) (old := zWr.cells.toArray) (cs := (checkP p).cells.toArray) q3 rfl iWrg rfl (wr_one _) hbd3 fun w9 hb9 hm9 _ => ?_
          refine kN _ w9 ?_ rfl hb9 (hmd.trans hm9)
          exact q3
        refine e5 _ (fun ρ3 w9 q3 q2 hb9 hm9 => ?_) _ ?_ ?_
        · rw [sq_n, scope_New_R6_eq]
          unfold scope_New_R6_F
          rw [sq_r]
          refine rtTC (b := b3) (cs := (checkP p).cells.toArray) q3 Tryd.underlying30 rfl iWrg hb9 ?_
          exact ⟨_, by rw [q2]; rfl, hm08.then hm9 (fun i hi q => absurd q (by omega)), fun q => absurd q he, fun _ => rfl⟩
        · exact h3
        · rfl
end Go.Proofs.YtbnbcimjapiicaaDoor.Tr
set_option linter.unusedVariables false
set_option linter.unusedSimpArgs false
set_option maxRecDepth 4000
namespace Go.Proofs.YtbnbcimjapiicaaDoor.Tr
open Go Go.X Go.RowKit Go.Proofs.YtbnbcimjapiicaaDoor.XG Go.Proofs.YtbnbcimjapiicaaDoor.XK
end Go.Proofs.YtbnbcimjapiicaaDoor.Tr
set_option linter.unusedVariables false
set_option linter.unusedSimpArgs false
set_option maxRecDepth 4000
namespace Go.Proofs.YtbnbcimjapiicaaDoor.Tr
open Go Go.X Go.RowKit Go.Proofs.YtbnbcimjapiicaaDoor.XG Go.Proofs.YtbnbcimjapiicaaDoor.XK
theorem uTp : Tryd.prog.underlying 32 = some (.pointer 71) := by kernel_rfl
theorem FindT_ok {w : World} {base t : Nat} {ds : List De} (h : TbAt w base t ds) (k : ByteArray) : Rt Tryd.prog 16 #[pt t, .string k] w fun v w' => v = (findP ds k.data.toList).v ∧ Mod none_ w w' := by
  obtain ⟨nv, av, m, l, c, hR, hval⟩ := h.raw
  refine scope_Table_Find_calls ?_
  unfold scope_Table_Find_F
  refine al_k zEnt rfl _ fun w1 hb1 hm1 hz1 => ?_
  have hR1 := hR.mod hm1
  rw [BK_eqlP uTp]
  refine condF ?_
  rw [NK_ptr]
  have f1 : FAt Tryd.prog w1 71 1 ⟨t, 0, none⟩ 69 (.map (some m)) := FAt.mk' (off := 1) (by kernel_rfl) uMp rfl (by rw [add_pl, cell_blk hR1.bt]; rfl)
  refine f1.vk' fun x10 => ?_
  refine look_ok hR1.bm k ?_
  rw [hval]
  refine stS (b := w.heap.size) (old := zEn.cells.toArray) (cs := (findP ds k.data.toList).cells.toArray) rfl rfl iEnt rfl (en_one _) hb1 fun w2 hb2 hm2 _ => ?_
  exact ⟨_, res_ld (run_ldB (cs := (findP ds k.data.toList).cells.toArray) Tryd.underlying37 rfl iEnt hb2), rfl, hm1.then hm2 (fun i hi q => absurd q (by omega))⟩
theorem QixDe {C : World → Prop} {s : Value} {l : List De} {i : Nat} {e : De} {K : Value → Prop} {w0 : World} (hw0 : C w0) (h : ∀ w, C w → DesOk w s l) (hi : l[i]? = some e) (hk : ∀ a, (∀ w, C w → ∀ j u, e.cells[j]? = some u → w.cell? (a.add j) = some u) → K (.pointer (some a))) :
    QK Tryd.prog C (do pure (Next.value (← Instr.indexAt 22 s (.int .i64 (i : Int))))) K := by
  have hlt : i < l.length := (List.getElem?_eq_some_iff.1 hi).1
  obtain ⟨hl, A, c, hs, hc, hr⟩ := (h w0 hw0).1
  obtain ⟨a, ha | q⟩ := rd_cell (size := 4) (hs ▸ (h w0 hw0).1) hlt
  · subst ha
    subst hs
    refine QV_of (fun w _ => run_ixa uDes cDe (by omega) (by omega) w) (hk _ fun w hw j u hu => ?_)
    obtain ⟨_, A', c', hs', _, hr'⟩ := (h w hw).1
    cases hs'
    have hj : j < 3 + 1 := (List.getElem?_eq_some_iff.1 hu).1
    obtain ⟨a', ha', hcell⟩ := hr' (i * 4 + j) u (by rw [fl_get (k := 3 + 1) De.cells_len hi hj]; exact hu)
    cases ha'
    rw [add_add, show ((i : Int).toNat) = i by omega]
    exact hcell
  · omega
end Go.Proofs.YtbnbcimjapiicaaDoor.Tr
set_option linter.unusedVariables false
set_option linter.unusedSimpArgs false
set_option maxRecDepth 4000
namespace Go.X
open Go Go.RowKit
end Go.X
namespace Go.Proofs.YtbnbcimjapiicaaDoor.Tr
open Go Go.X Go.RowKit Go.Proofs.YtbnbcimjapiicaaDoor.XG Go.Proofs.YtbnbcimjapiicaaDoor.XK
section
variable {w : World} {base t : Nat} {ds : List De}
theorem VarsT_ok (h : TbAt w base t ds) : Rt Tryd.prog 22 #[pt t] w fun v w' => v = .int .i64 (vars ds) ∧ Mod none_ w w' := by
  obtain ⟨nv, av, m, l, c, hR, _⟩ := h.raw
  refine scope_Table_Vars_calls ?_
  unfold scope_Table_Vars_F
  rw [BK_eqlP uTp]
  refine condF ?_
  rw [NK_ptr]
  have f : FAt Tryd.prog w 71 2 ⟨t, 0, none⟩ 3 (.int .i64 (vars ds)) := FAt.mk' (off := 2) (by kernel_rfl) uI rfl (by rw [add_pl, cell_blk hR.bt]; rfl)
  refine f.vk' fun _ => ⟨rfl, Mod.refl _ _⟩
end
end Go.Proofs.YtbnbcimjapiicaaDoor.Tr
set_option linter.unusedVariables false
set_option linter.unusedSimpArgs false
set_option maxRecDepth 4000
namespace Go.X
open Go Go.Proofs.YtbnbcimjapiicaaDoor.Tr
theorem Ex.er_bad (f : Key → Int) (e : Ex) : e.er.bad f = e.bad f := by rw [Ex.er_eq]; rfl
theorem Ex.er_wr (f : Key → Int) : ∀ e : Ex, e.er.wr f = e.wr f := by
  intro e
  induction e using Ex.ind with
  | h e ih =>
    have : ∀ l : List Ex, (∀ a ∈ l, a.er.wr f = a.wr f) → Ex.wrL f (l.map Ex.er) = Ex.wrL f l := by
      intro l
      induction l with
      | nil => intro _; rfl
      | cons a r ihr =>
        intro h
        rw [List.map_cons, Ex.wrL, Ex.wrL, h a (List.mem_cons_self ..), ihr fun b hb => h b (List.mem_cons_of_mem _ hb)]
    rw [Ex.wr_eq, Ex.wr_eq, Ex.er_bad, Ex.er_line, Ex.er_col, Ex.er_args, this e.args ih]
theorem Ex.wrL_er (f : Key → Int) : ∀ l : List Ex, Ex.wrL f (l.map Ex.er) = Ex.wrL f l
  | [] => rfl
  | a :: r => by rw [List.map_cons, Ex.wrL, Ex.wrL, Ex.er_wr, Ex.wrL_er f r]
theorem St.er_bad (f : Key → Int) (e : St) : e.er.bad f = e.bad f := by rw [St.er_eq]; rfl
theorem St.er_wr (f : Key → Int) : ∀ e : St, e.er.wr f = e.wr f := by
  intro e
  induction e using St.ind with
  | h e ih1 ih2 =>
    have : ∀ l : List St, (∀ a ∈ l, a.er.wr f = a.wr f) → St.wrL f (l.map St.er) = St.wrL f l := by
      intro l
      induction l with
      | nil => intro _; rfl
      | cons a r ihr =>
        intro h
        rw [List.map_cons, St.wrL, St.wrL, h a (List.mem_cons_self ..), ihr fun b hb => h b (List.mem_cons_of_mem _ hb)]
    rw [St.wr_eq, St.wr_eq, St.er_bad, St.er_line, St.er_col, St.er_exprs, St.er_body, St.er_els, Ex.wrL_er, this _ ih1, this _ ih2]
theorem St.wrL_er (f : Key → Int) : ∀ l : List St, St.wrL f (l.map St.er) = St.wrL f l
  | [] => rfl
  | a :: r => by rw [List.map_cons, St.wrL, St.wrL, St.er_wr, St.wrL_er f r]
end Go.X
namespace Go.Proofs.YtbnbcimjapiicaaDoor.Tr
open Go Go.X Go.RowKit Go.Proofs.YtbnbcimjapiicaaDoor.XG Go.Proofs.YtbnbcimjapiicaaDoor.XK
theorem checkP_er (p : Pr) : checkP p.er = checkP p := by
  unfold checkP
  rw [Pr.er_may]
  show (if p.may = true then if (declsW [] p.decls).err = 0 then St.wrL (kindP p.decls) (p.body.map St.er) else _ else _) = _
  rw [St.wrL_er]
  rfl
theorem checkP_of {p q : Pr} (h : q.er = p.er) : checkP q = checkP p := by rw [← checkP_er q, h, checkP_er]
theorem fits_of {p q : Pr} (h : q.er = p.er) (hf : p.fits) : q.fits := by
  have h1 : q.decls = p.decls := by have := congrArg Pr.decls h; exact this
  have h2 : q.body.map St.er = p.body.map St.er := by have := congrArg Pr.body h; exact this
  refine ⟨by rw [h1]; exact hf.1, ?_⟩
  rw [← St.szL_er, h2, St.szL_er]
  exact hf.2
theorem Check_ok {w : World} (hg : Gl w) {p : Pr} (h : p.Ok w) (hf : p.fits) : Rt Tryd.prog 14 #[.agg p.cells.toArray] w fun v w' => v = (checkP p).v ∧ Mod none_ w w' := by
  refine scope_Check_calls ?_
  unfold scope_Check_F
  refine box_k (cs := p.cells.toArray) rfl fun w1 hb1 hm1 hz1 => ?_
  refine al_k (cs := zWr.cells.toArray) zWrg rfl _ fun w2 hb2 hm2 hz2 => ?_
  have hb12 := hm2.blk hb1 id
  have hm02 := hm1.trans hm2
  refine ldB (cs := p.cells.toArray) Tryd.underlying25 rfl iPr hb12 ?_
  refine CK_st Tryd.func13 rfl rfl (New_ok (hg.mod hm02) (h.mod hm02) hf) ?_
  rintro _ w3 ⟨x, rfl, hT⟩
  rw [extract_ok (v := x) rfl, extract_ok (v := (checkP p).v) rfl]
  have hm3 := hT.m
  have hb23 := hm3.blk hb2 id
  refine lcl_k (cs := (checkP p).cells.toArray) zWrg _ iWrg rfl (wr_one _) fun w4 hb4 hm4 hz4 => ?_
  have hb24 := hm4.blk hb23 id
  have hm04 := (hm02.trans hm3).trans hm4
  refine ldB (cs := (checkP p).cells.toArray) Tryd.underlying30 rfl iWrg hb4 ?_
  refine stS (old := zWr.cells.toArray) (cs := (checkP p).cells.toArray) rfl rfl iWrg rfl (wr_one _) hb24 fun w5 hb5 hm5 hz5 => ?_
  refine rsCell (R := fun v w' => v = (checkP p).v ∧ Mod none_ w w') (cs := (checkP p).cells.toArray) rfl Tryd.underlying30 rfl iWrg hb5 ⟨rfl, hm04.then hm5 fun i hi q => by omega⟩
end Go.Proofs.YtbnbcimjapiicaaDoor.Tr

set_option linter.unusedVariables false
set_option linter.unusedSimpArgs false
set_option maxRecDepth 4000
namespace Go.Proofs.YtbnbcimjapiicaaDoor.Tr
open Go Go.X Go.RowKit Go.Proofs.YtbnbcimjapiicaaDoor.XG Go.Proofs.YtbnbcimjapiicaaDoor.XK
end Go.Proofs.YtbnbcimjapiicaaDoor.Tr
set_option linter.unusedVariables false
set_option linter.unusedSimpArgs false
set_option maxRecDepth 4000
namespace Go.X
open Go Go.Proofs.YtbnbcimjapiicaaDoor.Tr
theorem find_none {k : Key} : ∀ {l pre : List De}, (∀ x ∈ l, x.key ≠ k) → findF pre l k = zEn
  | [], pre, _ => by rw [findF]
  | d :: r, pre, h => by rw [findF, if_neg (h d (List.mem_cons_self ..))]; exact find_none fun x hx => h x (List.mem_cons_of_mem _ hx)
end Go.X
set_option linter.unusedVariables false
set_option linter.unusedSimpArgs false
set_option maxRecDepth 4000
namespace Go.X
open Go Go.Proofs.YtbnbcimjapiicaaDoor.Tr
open Classical in
noncomputable def rnB (n o x : ByteArray) : ByteArray := if x = n then o else x
section
variable (n o : ByteArray)
mutual
noncomputable def Ex.rn : Ex → Ex
  | ⟨op, num, name, s, args, line, col⟩ => ⟨op, num, rnB n o name, s, Ex.rnL args, line, col⟩
noncomputable def Ex.rnL : List Ex → List Ex
  | [] => []
  | e :: r => Ex.rn e :: Ex.rnL r
end
mutual
noncomputable def St.rn : St → St
  | ⟨op, kind, red, name, turns, es, exprs, bs, body, ls, els, line, col⟩ => ⟨op, kind, red, rnB n o name, turns, es, Ex.rnL n o exprs, bs, St.rnL body, ls, St.rnL els, line, col⟩
noncomputable def St.rnL : List St → List St
  | [] => []
  | e :: r => St.rn e :: St.rnL r
end
noncomputable def _root_.Go.Proofs.YtbnbcimjapiicaaDoor.Tr.De.rn (d : De) : De := ⟨rnB n o d.name, d.places, d.line, d.col⟩
mutual
noncomputable def Ex.has : Ex → Bool
  | ⟨_, _, name, _, args, _, _⟩ => decide (name = o) || Ex.hasL args
noncomputable def Ex.hasL : List Ex → Bool
  | [] => false
  | e :: r => Ex.has e || Ex.hasL r
end
mutual
noncomputable def St.has : St → Bool
  | ⟨_, _, _, name, _, _, exprs, _, body, _, els, _, _⟩ => decide (name = o) || Ex.hasL o exprs || St.hasL body || St.hasL els
noncomputable def St.hasL : List St → Bool
  | [] => false
  | e :: r => St.has e || St.hasL r
end
theorem Ex.rnL_eq : ∀ l : List Ex, Ex.rnL n o l = l.map (Ex.rn n o)
  | [] => by simp [Ex.rnL]
  | e :: r => by simp [Ex.rnL, Ex.rnL_eq r]
theorem St.rnL_eq : ∀ l : List St, St.rnL n o l = l.map (St.rn n o)
  | [] => by simp [St.rnL]
  | e :: r => by simp [St.rnL, St.rnL_eq r]
theorem Ex.rn_eq (e : Ex) : e.rn n o = ⟨e.op, e.num, rnB n o e.name, e.s, e.args.map (Ex.rn n o), e.line, e.col⟩ := by obtain ⟨op, num, name, s, args, line, col⟩ := e; rw [Ex.rn, Ex.rnL_eq]
theorem St.rn_eq (e : St) : e.rn n o = ⟨e.op, e.kind, e.red, rnB n o e.name, e.turns, e.es, e.exprs.map (Ex.rn n o), e.bs, e.body.map (St.rn n o), e.ls, e.els.map (St.rn n o), e.line, e.col⟩ := by
  obtain ⟨op, kind, red, name, turns, es, exprs, bs, body, ls, els, line, col⟩ := e; rw [St.rn, Ex.rnL_eq, St.rnL_eq, St.rnL_eq]
theorem Ex.has_eq (e : Ex) : e.has o = (decide (e.name = o) || Ex.hasL o e.args) := by obtain ⟨op, num, name, s, args, line, col⟩ := e; rw [Ex.has]
theorem St.has_eq (e : St) : e.has o = (decide (e.name = o) || Ex.hasL o e.exprs || St.hasL o e.body || St.hasL o e.els) := by obtain ⟨op, kind, red, name, turns, es, exprs, bs, body, ls, els, line, col⟩ := e; rw [St.has]
theorem Ex.hasL_any : ∀ l : List Ex, Ex.hasL o l = l.any (Ex.has o)
  | [] => by simp [Ex.hasL]
  | e :: r => by simp [Ex.hasL, Ex.hasL_any r]
theorem St.hasL_any : ∀ l : List St, St.hasL o l = l.any (St.has o)
  | [] => by simp [St.hasL]
  | e :: r => by simp [St.hasL, St.hasL_any r]
theorem Ex.hasL_mem {l : List Ex} (h : Ex.hasL o l = false) : ∀ a ∈ l, a.has o = false := by
  rw [Ex.hasL_any, List.any_eq_false] at h
  exact fun a ha => by simpa using h a ha
theorem St.hasL_mem {l : List St} (h : St.hasL o l = false) : ∀ a ∈ l, a.has o = false := by
  rw [St.hasL_any, List.any_eq_false] at h
  exact fun a ha => by simpa using h a ha
end
section
variable {n o : ByteArray}
theorem plain_words : ∀ b ∈ plainL, b ∈ wordsL := by decide
theorem nameP_plain {b : ByteArray} (h : nameP b = true) : plainP b = false := by
  unfold nameP at h
  unfold plainP
  simp only [Bool.and_eq_true, Bool.not_eq_true'] at h
  rw [Bool.eq_false_iff]
  intro q
  have := plain_words _ (by simpa using q)
  have h5 := h.2
  rw [List.contains_iff_mem.2 this] at h5
  cases h5
theorem nameP_pos {b : ByteArray} (h : nameP b = true) : b.size ≠ 0 := by
  unfold nameP at h
  simp only [Bool.and_eq_true, decide_eq_true_eq] at h
  omega
theorem rnB_key {a b : ByteArray} (ha : a ≠ o) (hb : b ≠ o) : (rnB n o a).data.toList = (rnB n o b).data.toList ↔ a.data.toList = b.data.toList := by
  unfold rnB
  constructor
  · intro h
    have h := bytes_inj h
    by_cases h1 : a = n
    · by_cases h2 : b = n
      · rw [h1, h2]
      · rw [if_pos h1, if_neg h2] at h; exact absurd h.symm hb
    · by_cases h2 : b = n
      · rw [if_neg h1, if_pos h2] at h; exact absurd h ha
      · rw [if_neg h1, if_neg h2] at h; rw [h]
  · intro h
    rw [bytes_inj h]
variable (hn : nameP n = true) (ho : nameP o = true)
include hn ho
theorem rnB_name (x : ByteArray) : nameP (rnB n o x) = nameP x := by
  unfold rnB; split
  · rename_i h; rw [h, hn, ho]
  · rfl
theorem rnB_plain (x : ByteArray) : plainP (rnB n o x) = plainP x := by
  unfold rnB; split
  · rename_i h; rw [h, nameP_plain hn, nameP_plain ho]
  · rfl
theorem rnB_zero (x : ByteArray) : decide ((rnB n o x).size = 0) = decide (x.size = 0) := by
  unfold rnB; split
  · rename_i h; rw [h, decide_eq_false (nameP_pos hn), decide_eq_false (nameP_pos ho)]
  · rfl
theorem Ex.rn_own (e : Ex) : (e.rn n o).own = e.own := by
  rw [Ex.rn_eq]
  unfold Ex.own
  simp only [List.length_map, rnB_name hn ho, rnB_plain hn ho, rnB_zero hn ho]
theorem St.rn_own (e : St) : (e.rn n o).own = e.own := by
  rw [St.rn_eq]
  unfold St.own St.rng
  simp only [List.length_map, rnB_name hn ho, rnB_zero hn ho]
theorem Ex.rn_may : ∀ e : Ex, (e.rn n o).may = e.may := by
  intro e
  induction e using Ex.ind with
  | h e ih =>
    rw [Ex.may_eq, Ex.may_eq, Ex.rn_own hn ho, show (e.rn n o).args = e.args.map (Ex.rn n o) by rw [Ex.rn_eq], Ex.mayL_eq, Ex.mayL_eq, List.all_map]
    congr 1
    rw [Bool.eq_iff_iff, List.all_eq_true, List.all_eq_true]
    exact ⟨fun h a ha => by rw [← ih a ha]; exact h a ha, fun h a ha => by show (a.rn n o).may = true; rw [ih a ha]; exact h a ha⟩
theorem Ex.mayL_rn (l : List Ex) : Ex.mayL (l.map (Ex.rn n o)) = Ex.mayL l := by
  rw [Ex.mayL_eq, Ex.mayL_eq, List.all_map]
  congr 1
  funext a
  exact Ex.rn_may hn ho a
theorem St.rn_may : ∀ e : St, (e.rn n o).may = e.may := by
  intro e
  induction e using St.ind with
  | h e ih1 ih2 =>
    have hl : ∀ l : List St, (∀ a ∈ l, (a.rn n o).may = a.may) → St.mayL (l.map (St.rn n o)) = St.mayL l := by
      intro l h
      rw [St.mayL_eq, St.mayL_eq, List.all_map, Bool.eq_iff_iff, List.all_eq_true, List.all_eq_true]
      exact ⟨fun q a ha => by rw [← h a ha]; exact q a ha, fun q a ha => by show (a.rn n o).may = true; rw [h a ha]; exact q a ha⟩
    rw [St.may_eq, St.may_eq, St.rn_own hn ho, show (e.rn n o).exprs = e.exprs.map (Ex.rn n o) by rw [St.rn_eq], show (e.rn n o).body = e.body.map (St.rn n o) by rw [St.rn_eq], show (e.rn n o).els = e.els.map (St.rn n o) by rw [St.rn_eq], Ex.mayL_rn hn ho, hl _ ih1, hl _ ih2]
theorem St.mayL_rn (l : List St) : St.mayL (l.map (St.rn n o)) = St.mayL l := by
  rw [St.mayL_eq, St.mayL_eq, List.all_map]
  congr 1
  funext a
  exact St.rn_may hn ho a
end
section
variable {n o : ByteArray}
theorem Ex.rn_deep : ∀ e : Ex, (e.rn n o).deep = e.deep := by
  intro e
  induction e using Ex.ind with
  | h e ih =>
    rw [Ex.deep_eq, Ex.deep_eq, show (e.rn n o).args = e.args.map (Ex.rn n o) by rw [Ex.rn_eq]]
    congr 1
    have : ∀ l : List Ex, (∀ a ∈ l, (a.rn n o).deep = a.deep) → Ex.deepL (l.map (Ex.rn n o)) = Ex.deepL l := by
      intro l
      induction l with
      | nil => intro _; rfl
      | cons a r ihr =>
        intro h
        rw [List.map_cons, Ex.deepL, Ex.deepL, h a (List.mem_cons_self ..), ihr fun b hb => h b (List.mem_cons_of_mem _ hb)]
    exact this e.args ih
theorem Ex.deepL_rn : ∀ l : List Ex, Ex.deepL (l.map (Ex.rn n o)) = Ex.deepL l
  | [] => rfl
  | a :: r => by rw [List.map_cons, Ex.deepL, Ex.deepL, Ex.rn_deep, Ex.deepL_rn r]
theorem St.blocksL'_rn {l : List St} (h : ∀ a ∈ l, (a.rn n o).blocks = a.blocks) : St.blocksL' (l.map (St.rn n o)) = St.blocksL' l := by
  induction l with
  | nil => rfl
  | cons a r ihr => rw [List.map_cons, St.blocksL', St.blocksL', h a (List.mem_cons_self ..), ihr fun b hb => h b (List.mem_cons_of_mem _ hb)]
theorem St.blocksL_rn {l : List St} (h : ∀ a ∈ l, (a.rn n o).blocks = a.blocks) : St.blocksL (l.map (St.rn n o)) = St.blocksL l := by
  unfold St.blocksL
  rw [List.length_map, St.blocksL'_rn h]
theorem St.rn_blocks : ∀ e : St, (e.rn n o).blocks = e.blocks := by
  intro e
  induction e using St.ind with
  | h e ih1 ih2 => rw [St.blocks_eq, St.blocks_eq, show (e.rn n o).body = e.body.map (St.rn n o) by rw [St.rn_eq], show (e.rn n o).els = e.els.map (St.rn n o) by rw [St.rn_eq], St.blocksL_rn ih1, St.blocksL_rn ih2]
theorem St.exprDL_rn {l : List St} (h : ∀ a ∈ l, (a.rn n o).exprD = a.exprD) : St.exprDL (l.map (St.rn n o)) = St.exprDL l := by
  induction l with
  | nil => rfl
  | cons a r ihr => rw [List.map_cons, St.exprDL, St.exprDL, h a (List.mem_cons_self ..), ihr fun b hb => h b (List.mem_cons_of_mem _ hb)]
theorem St.rn_exprD : ∀ e : St, (e.rn n o).exprD = e.exprD := by
  intro e
  induction e using St.ind with
  | h e ih1 ih2 => rw [St.exprD_eq, St.exprD_eq, show (e.rn n o).body = e.body.map (St.rn n o) by rw [St.rn_eq], show (e.rn n o).els = e.els.map (St.rn n o) by rw [St.rn_eq], show (e.rn n o).exprs = e.exprs.map (Ex.rn n o) by rw [St.rn_eq], Ex.deepL_rn, St.exprDL_rn ih1, St.exprDL_rn ih2]
theorem St.deepAt_rn (l : List St) (k : Nat) : St.deepAt (l.map (St.rn n o)) k = St.deepAt l k := by
  unfold St.deepAt
  rw [List.length_map, St.blocksL'_rn (fun a _ => St.rn_blocks a), St.exprDL_rn (fun a _ => St.rn_exprD a)]
theorem rnB_sz {x : ByteArray} (ho : o.size ≤ 7) : (rnB n o x).size ≤ x.size + 7 := by
  unfold rnB; split <;> omega
theorem Ex.sz_rn (ho : o.size ≤ 7) : ∀ e : Ex, (e.rn n o).sz ≤ 8 * e.sz := by
  intro e
  induction e using Ex.ind with
  | h e ih =>
    have hl : ∀ l : List Ex, (∀ a ∈ l, (a.rn n o).sz ≤ 8 * a.sz) → Ex.szL (l.map (Ex.rn n o)) ≤ 8 * Ex.szL l := by
      intro l
      induction l with
      | nil => intro _; simp [Ex.szL]
      | cons a r ihr =>
        intro h
        have h1 := h a (List.mem_cons_self ..)
        have h2 := ihr fun b hb => h b (List.mem_cons_of_mem _ hb)
        rw [List.map_cons, Ex.szL, Ex.szL]; omega
    have h1 := hl e.args ih
    rw [Ex.sz_eq, Ex.sz_eq, Ex.rn_eq]
    have h2 := rnB_sz (n := n) (x := e.name) ho
    dsimp only
    omega
theorem Ex.szL_rn (ho : o.size ≤ 7) (l : List Ex) : Ex.szL (l.map (Ex.rn n o)) ≤ 8 * Ex.szL l := by
  induction l with
  | nil => simp [Ex.szL]
  | cons a r ihr =>
    have h1 := Ex.sz_rn (n := n) ho a
    rw [List.map_cons, Ex.szL, Ex.szL]; omega
theorem St.sz_rn (ho : o.size ≤ 7) : ∀ e : St, (e.rn n o).sz ≤ 8 * e.sz := by
  intro e
  induction e using St.ind with
  | h e ih1 ih2 =>
    have hl : ∀ l : List St, (∀ a ∈ l, (a.rn n o).sz ≤ 8 * a.sz) → St.szL (l.map (St.rn n o)) ≤ 8 * St.szL l := by
      intro l
      induction l with
      | nil => intro _; simp [St.szL]
      | cons a r ihr =>
        intro h
        have h1 := h a (List.mem_cons_self ..)
        have h2 := ihr fun b hb => h b (List.mem_cons_of_mem _ hb)
        rw [List.map_cons, St.szL, St.szL]; omega
    have h1 := hl e.body ih1
    have h2 := hl e.els ih2
    have h3 := Ex.szL_rn (n := n) ho e.exprs
    have h4 := rnB_sz (n := n) (x := e.name) ho
    rw [St.sz_eq, St.sz_eq, St.rn_eq]
    dsimp only
    omega
theorem St.szL_rn (ho : o.size ≤ 7) (l : List St) : St.szL (l.map (St.rn n o)) ≤ 8 * St.szL l := by
  induction l with
  | nil => simp [St.szL]
  | cons a r ihr =>
    have h1 := St.sz_rn (n := n) ho a
    rw [List.map_cons, St.szL, St.szL]; omega
theorem vars_rn (l : List De) : vars (l.map (De.rn n o)) = vars l := by
  unfold vars; rw [List.filter_map, List.length_map]; rfl
theorem arrs_rn (l : List De) : arrs (l.map (De.rn n o)) = arrs l := by
  unfold arrs; rw [List.filter_map, List.map_map]; rfl
theorem cellsP_rn : ∀ l : List De, cellsP (l.map (De.rn n o)) = cellsP l
  | [] => rfl
  | d :: r => by rw [List.map_cons, cellsP, cellsP, cellsP_rn r]; rfl
theorem nu_rn (pre : List De) (d : De) : nu (pre.map (De.rn n o)) (d.rn n o) = nu pre d := by
  unfold nu; rw [vars_rn, arrs_rn, cellsP_rn]; rfl
theorem findF_rn {x : ByteArray} (hx : x ≠ o) : ∀ (l pre : List De), (∀ d ∈ l, d.name ≠ o) → findF (pre.map (De.rn n o)) (l.map (De.rn n o)) (rnB n o x).data.toList = findF pre l x.data.toList
  | [], pre, _ => rfl
  | d :: r, pre, h => by
    rw [List.map_cons, findF, findF, nu_rn]
    have hk : (d.rn n o).key = (rnB n o x).data.toList ↔ d.key = x.data.toList := rnB_key (h d (List.mem_cons_self ..)) hx
    by_cases q : d.key = x.data.toList
    · rw [if_pos q, if_pos (hk.2 q)]
    · rw [if_neg q, if_neg fun z => q (hk.1 z)]
      have := findF_rn hx r (pre ++ [d]) fun a ha => h a (List.mem_cons_of_mem _ ha)
      rwa [List.map_append] at this
theorem findP_rn {x : ByteArray} (hx : x ≠ o) {l : List De} (h : ∀ d ∈ l, d.name ≠ o) : findP (l.map (De.rn n o)) (rnB n o x).data.toList = findP l x.data.toList := findF_rn hx l [] h
theorem findP_gone {l : List De} (hno : n ≠ o) (h : ∀ d ∈ l, d.name ≠ o) : findP (l.map (De.rn n o)) n.data.toList = zEn := by
  refine find_none fun x hx q => ?_
  obtain ⟨d, hd, rfl⟩ := List.mem_map.1 hx
  have := bytes_inj q
  unfold De.rn rnB at this
  dsimp only at this
  split at this
  · exact hno this.symm
  · rename_i z; exact z this
theorem full_rn (pre : List De) (d : De) : full (pre.map (De.rn n o)) (d.rn n o) = full pre d := by
  unfold full; rw [vars_rn, cellsP_rn]; rfl
theorem dstep_rn {pre : List De} {d : De} (hd : d.name ≠ o) (h : ∀ d ∈ pre, d.name ≠ o) : dstep (pre.map (De.rn n o)) (d.rn n o) = dstep pre d := by
  unfold dstep
  rw [full_rn, show (d.rn n o).key = (rnB n o d.name).data.toList from rfl, findP_rn hd h]
  rfl
theorem declsW_rn : ∀ (l pre : List De), (∀ d ∈ pre, d.name ≠ o) → (∀ d ∈ l, d.name ≠ o) → declsW (pre.map (De.rn n o)) (l.map (De.rn n o)) = declsW pre l
  | [], pre, _, _ => rfl
  | d :: r, pre, hp, h => by
    rw [List.map_cons, declsW, declsW, dstep_rn (h d (List.mem_cons_self ..)) hp]
    split
    · have := declsW_rn r (pre ++ [d]) (fun a ha => by
        rcases List.mem_append.1 ha with ha | ha
        · exact hp a ha
        · rw [List.mem_singleton.1 ha]; exact h d (List.mem_cons_self ..)) fun a ha => h a (List.mem_cons_of_mem _ ha)
      rwa [List.map_append] at this
    · rfl
section
variable {f g : Key → Int} (hfg : ∀ x : ByteArray, x ≠ o → g (rnB n o x).data.toList = f x.data.toList)
include hfg
theorem Ex.wr_rn : ∀ e : Ex, e.has o = false → (e.rn n o).wr g = e.wr f := by
  intro e
  induction e using Ex.ind with
  | h e ih =>
    intro h
    rw [Ex.has_eq] at h
    simp only [Bool.or_eq_false_iff, decide_eq_false_iff_not] at h
    rw [Ex.wr_eq, Ex.wr_eq]
    have hb : (e.rn n o).bad g = e.bad f := by
      rw [Ex.rn_eq]; unfold Ex.bad; dsimp only; rw [hfg _ h.1]
    rw [hb, Ex.rn_eq]
    split
    · rfl
    · have : ∀ l : List Ex, (∀ a ∈ l, (a.rn n o).wr g = a.wr f) → Ex.wrL g (l.map (Ex.rn n o)) = Ex.wrL f l := by
        intro l
        induction l with
        | nil => intro _; rfl
        | cons a r ihr =>
          intro q
          rw [List.map_cons, Ex.wrL, Ex.wrL, q a (List.mem_cons_self ..), ihr fun b hb => q b (List.mem_cons_of_mem _ hb)]
      exact this _ fun a ha => ih a ha (Ex.hasL_mem o h.2 a ha)
theorem Ex.wrL_rn : ∀ l : List Ex, Ex.hasL o l = false → Ex.wrL g (l.map (Ex.rn n o)) = Ex.wrL f l
  | [], _ => rfl
  | a :: r, h => by
    rw [Ex.hasL, Bool.or_eq_false_iff] at h
    rw [List.map_cons, Ex.wrL, Ex.wrL, Ex.wr_rn hfg a h.1, Ex.wrL_rn r h.2]
theorem St.wr_rn : ∀ e : St, e.has o = false → (e.rn n o).wr g = e.wr f := by
  intro e
  induction e using St.ind with
  | h e ih1 ih2 =>
    intro h
    rw [St.has_eq] at h
    simp only [Bool.or_eq_false_iff, decide_eq_false_iff_not] at h
    obtain ⟨⟨⟨h1, h2⟩, h3⟩, h4⟩ := h
    rw [St.wr_eq, St.wr_eq]
    have hb : (e.rn n o).bad g = e.bad f := by
      rw [St.rn_eq]; unfold St.bad; dsimp only; rw [hfg _ h1]
    have hl : ∀ l : List St, (∀ a ∈ l, (a.rn n o).wr g = a.wr f) → St.wrL g (l.map (St.rn n o)) = St.wrL f l := by
      intro l
      induction l with
      | nil => intro _; rfl
      | cons a r ihr =>
        intro q
        rw [List.map_cons, St.wrL, St.wrL, q a (List.mem_cons_self ..), ihr fun b hb => q b (List.mem_cons_of_mem _ hb)]
    rw [hb, St.rn_eq]
    dsimp only
    rw [Ex.wrL_rn hfg _ h2, hl _ fun a ha => ih1 a ha (St.hasL_mem o h3 a ha), hl _ fun a ha => ih2 a ha (St.hasL_mem o h4 a ha)]
theorem St.wrL_rn : ∀ l : List St, St.hasL o l = false → St.wrL g (l.map (St.rn n o)) = St.wrL f l
  | [], _ => rfl
  | a :: r, h => by
    rw [St.hasL, Bool.or_eq_false_iff] at h
    rw [List.map_cons, St.wrL, St.wrL, St.wr_rn hfg a h.1, St.wrL_rn r h.2]
end
end
end Go.X
namespace Go.Proofs.YtbnbcimjapiicaaDoor.Tr
open Go Go.X Go.RowKit
theorem Ex.er_rn {n o : ByteArray} : ∀ e : Ex, (e.rn n o).er = e.er.rn n o := by
  intro e
  induction e using Ex.ind with
  | h e ih =>
    rw [Ex.er_eq, Ex.er_eq, Ex.rn_eq, Ex.rn_eq]
    simp only [List.map_map]
    congr 1
    exact List.map_congr_left fun a ha => ih a ha
theorem St.er_rn {n o : ByteArray} : ∀ e : St, (e.rn n o).er = e.er.rn n o := by
  intro e
  induction e using St.ind with
  | h e ih1 ih2 =>
    rw [St.er_eq, St.er_eq, St.rn_eq, St.rn_eq]
    simp only [List.map_map]
    congr 1
    · exact List.map_congr_left fun a ha => Ex.er_rn a
    · exact List.map_congr_left fun a ha => ih1 a ha
    · exact List.map_congr_left fun a ha => ih2 a ha
/-- What is wrong with the names of a program stays, if another one stands in the place of one everywhere. -/
theorem checkP_rn {n o : ByteArray} (hn : nameP n = true) (ho : nameP o = true) {p q : Pr} (hd : ∀ d ∈ p.decls, d.name ≠ o) (hb : St.hasL o p.body = false) (hqd : q.decls = p.decls.map (De.rn n o)) (hqb : q.body.map St.er = (p.body.map (St.rn n o)).map St.er) : checkP q = checkP p := by
  have e1 : q.may = p.may := by
    unfold Pr.may
    rw [← St.deepAt_er, ← St.mayL_er q.body, hqb, St.deepAt_er, St.mayL_er, St.deepAt_rn, St.mayL_rn hn ho, hqd, List.all_map]
    congr 2
    congr 1
    funext d
    show (nameP (rnB n o d.name) && decide (0 ≤ d.places) && decide (d.places ≤ 1000)) = _
    rw [rnB_name hn ho]; rfl
  have e2 : declsW [] q.decls = declsW [] p.decls := by rw [hqd]; exact declsW_rn _ [] (by simp) hd
  have e3 : St.wrL (kindP q.decls) q.body = St.wrL (kindP p.decls) p.body := by
    rw [← St.wrL_er, hqb, St.wrL_er]
    refine St.wrL_rn (fun x hx => ?_) _ hb
    unfold kindP
    rw [hqd, findP_rn hx hd]
  unfold checkP
  rw [e1, e2, e3]
end Go.Proofs.YtbnbcimjapiicaaDoor.Tr
set_option linter.unusedVariables false
set_option linter.unusedSimpArgs false
set_option maxRecDepth 4000
namespace Go.X
open Go Go.RowKit
mutual
def Ex.bl : Ex → List Nat
  | ⟨_, _, _, s, args, _, _⟩ => s.ownBlock.toList ++ Ex.blL args
def Ex.blL : List Ex → List Nat
  | [] => []
  | e :: r => Ex.bl e ++ Ex.blL r
end
mutual
def St.bl : St → List Nat
  | ⟨_, _, _, _, _, es, exprs, bs, body, ls, els, _, _⟩ => (es.ownBlock.toList ++ Ex.blL exprs) ++ ((bs.ownBlock.toList ++ St.blL body) ++ (ls.ownBlock.toList ++ St.blL els))
def St.blL : List St → List Nat
  | [] => []
  | e :: r => St.bl e ++ St.blL r
end
theorem Ex.bl_eq (e : Ex) : e.bl = e.s.ownBlock.toList ++ Ex.blL e.args := by obtain ⟨op, num, name, s, args, line, col⟩ := e; rw [Ex.bl]
theorem St.bl_eq (e : St) : e.bl = (e.es.ownBlock.toList ++ Ex.blL e.exprs) ++ ((e.bs.ownBlock.toList ++ St.blL e.body) ++ (e.ls.ownBlock.toList ++ St.blL e.els)) := by obtain ⟨op, kind, red, name, turns, es, exprs, bs, body, ls, els, line, col⟩ := e; rw [St.bl]
theorem Ex.blL_app : ∀ l m : List Ex, Ex.blL (l ++ m) = Ex.blL l ++ Ex.blL m
  | [], m => by simp [Ex.blL]
  | e :: r, m => by rw [List.cons_append, Ex.blL, Ex.blL, Ex.blL_app r m, List.append_assoc]
theorem St.blL_app : ∀ l m : List St, St.blL (l ++ m) = St.blL l ++ St.blL m
  | [], m => by simp [St.blL]
  | e :: r, m => by rw [List.cons_append, St.blL, St.blL, St.blL_app r m, List.append_assoc]
theorem Ex.in_bl {S : Nat → Prop} : ∀ {e : Ex}, e.In S ↔ ∀ k ∈ e.bl, S k := by
  intro e
  induction e using Ex.ind with
  | h e ih =>
    have hl : ∀ l : List Ex, (∀ a ∈ l, a.In S ↔ ∀ k ∈ a.bl, S k) → ((∀ a ∈ l, a.In S) ↔ ∀ k ∈ Ex.blL l, S k) := by
      intro l
      induction l with
      | nil => intro _; simp [Ex.blL]
      | cons a r ihr =>
        intro h
        rw [Ex.blL, List.forall_mem_cons, List.forall_mem_append, h a (List.mem_cons_self ..), ihr fun b hb => h b (List.mem_cons_of_mem _ hb)]
    rw [Ex.in_, Ex.bl_eq, List.forall_mem_append, hl _ ih]
    simp
theorem Ex.inL_bl {S : Nat → Prop} : ∀ {l : List Ex}, (∀ a ∈ l, a.In S) ↔ ∀ k ∈ Ex.blL l, S k
  | [] => by simp [Ex.blL]
  | a :: r => by rw [Ex.blL, List.forall_mem_cons, List.forall_mem_append, Ex.in_bl, Ex.inL_bl (l := r)]
theorem St.in_bl {S : Nat → Prop} : ∀ {e : St}, e.In S ↔ ∀ k ∈ e.bl, S k := by
  intro e
  induction e using St.ind with
  | h e ih1 ih2 =>
    have hl : ∀ l : List St, (∀ a ∈ l, a.In S ↔ ∀ k ∈ a.bl, S k) → ((∀ a ∈ l, a.In S) ↔ ∀ k ∈ St.blL l, S k) := by
      intro l
      induction l with
      | nil => intro _; simp [St.blL]
      | cons a r ihr =>
        intro h
        rw [St.blL, List.forall_mem_cons, List.forall_mem_append, h a (List.mem_cons_self ..), ihr fun b hb => h b (List.mem_cons_of_mem _ hb)]
    rw [St.in_, St.bl_eq, List.forall_mem_append, List.forall_mem_append, List.forall_mem_append, List.forall_mem_append, List.forall_mem_append, hl _ ih1, hl _ ih2, Ex.inL_bl]
    simp
theorem St.inL_bl {S : Nat → Prop} : ∀ {l : List St}, (∀ a ∈ l, a.In S) ↔ ∀ k ∈ St.blL l, S k
  | [] => by simp [St.blL]
  | a :: r => by rw [St.blL, List.forall_mem_cons, List.forall_mem_append, St.in_bl, St.inL_bl (l := r)]
/-- Blocks of their own, in a range. -/
def NB (a b : Nat) (L : List Nat) : Prop := L.Nodup ∧ ∀ k ∈ L, a ≤ k ∧ k < b
theorem NB.app {a b c d : Nat} {L M : List Nat} (h : NB a b L) (k : NB c d M) (h1 : b ≤ c) (h2 : a ≤ c) (h3 : b ≤ d) : NB a d (L ++ M) :=
  ⟨List.nodup_append.2 ⟨h.1, k.1, fun x hx y hy e => by have := h.2 x hx; have := k.2 y hy; omega⟩, fun x hx => by
    rcases List.mem_append.1 hx with q | q
    · have := h.2 x q; omega
    · have := k.2 x q; omega⟩
theorem NB.tail {a b : Nat} {L M : List Nat} (h : NB a b (L ++ M)) : NB a b M := ⟨(List.nodup_append.1 h.1).2.1, fun k hk => h.2 k (List.mem_append_right _ hk)⟩
theorem NB.blx {a b : Nat} {l : List Ex} {e : Ex} (h : NB a b (Ex.blL l ++ e.bl)) : (Ex.blL (l ++ [e])).Nodup := by
  rw [Ex.blL_app, Ex.blL, Ex.blL, List.append_nil]; exact h.1
theorem NB.bls {a b : Nat} {l : List St} {e : St} (h : NB a b (St.blL l ++ e.bl)) : (St.blL (l ++ [e])).Nodup := by
  rw [St.blL_app, St.blL, St.blL, List.append_nil]; exact h.1
section
variable {n o : ByteArray}
theorem Ex.blL_map {f : Ex → Ex} : ∀ {l : List Ex}, (∀ a ∈ l, (f a).bl = a.bl) → Ex.blL (l.map f) = Ex.blL l
  | [], _ => by rw [List.map_nil]
  | a :: r, h => by rw [List.map_cons, Ex.blL, Ex.blL, h a (List.mem_cons_self ..), Ex.blL_map fun b hb => h b (List.mem_cons_of_mem _ hb)]
theorem St.blL_map {f : St → St} : ∀ {l : List St}, (∀ a ∈ l, (f a).bl = a.bl) → St.blL (l.map f) = St.blL l
  | [], _ => by rw [List.map_nil]
  | a :: r, h => by rw [List.map_cons, St.blL, St.blL, h a (List.mem_cons_self ..), St.blL_map fun b hb => h b (List.mem_cons_of_mem _ hb)]
theorem Ex.bl_rn : ∀ e : Ex, (e.rn n o).bl = e.bl := by
  intro e
  induction e using Ex.ind with
  | h e ih => rw [Ex.bl_eq, Ex.bl_eq, Ex.rn_eq]; dsimp only; rw [Ex.blL_map ih]
theorem St.bl_rn : ∀ e : St, (e.rn n o).bl = e.bl := by
  intro e
  induction e using St.ind with
  | h e ih1 ih2 => rw [St.bl_eq, St.bl_eq, St.rn_eq]; dsimp only; rw [St.blL_map ih1, St.blL_map ih2, Ex.blL_map fun a _ => Ex.bl_rn a]
end
end Go.X
namespace Go.Proofs.YtbnbcimjapiicaaDoor.Tr
open Go Go.X Go.RowKit Go.Proofs.YtbnbcimjapiicaaDoor.XC Go.Proofs.YtbnbcimjapiicaaDoor.XK
theorem exs_nb {w : World} {base : Nat} {v : Value} {l : List Ex} (h : ExsOwn w base v l) (hn : (Ex.blL l).Nodup) : NB base w.heap.size (v.ownBlock.toList ++ Ex.blL l) := by
  have hat := Ex.inL_bl.1 h.at_
  have hlt := Ex.inL_bl.1 fun a ha => (h.own a ha).lt
  refine ⟨List.nodup_append.2 ⟨by cases v.ownBlock <;> simp, hn, fun x hx y hy e => ?_⟩, fun k hk => ?_⟩
  · subst e
    exact (hat x hy).2 (by simpa [eq_comm] using hx)
  · rcases List.mem_append.1 hk with q | q
    · have q : v.ownBlock = some k := by simpa using q
      exact ⟨owns_low h.row q, owns_lt h.row q⟩
    · exact ⟨(hat k q).1, hlt k q⟩
theorem sts_nb {w : World} {base : Nat} {v : Value} {l : List St} (h : StsOwn w base v l) (hn : (St.blL l).Nodup) : NB base w.heap.size (v.ownBlock.toList ++ St.blL l) := by
  have hat := St.inL_bl.1 h.at_
  have hlt := St.inL_bl.1 fun a ha => (h.own a ha).lt
  refine ⟨List.nodup_append.2 ⟨by cases v.ownBlock <;> simp, hn, fun x hx y hy e => ?_⟩, fun k hk => ?_⟩
  · subst e
    exact (hat x hy).2 (by simpa [eq_comm] using hx)
  · rcases List.mem_append.1 hk with q | q
    · have q : v.ownBlock = some k := by simpa using q
      exact ⟨owns_low h.row q, owns_lt h.row q⟩
    · exact ⟨(hat k q).1, hlt k q⟩
def CopyExD (l : List Ex) : Prop := ∀ (w : World) (s : Value), ExsOk w s l → Ex.szL l ≤ 1099511627776 →
  Rt Tryd.prog 56 #[s] w fun v w' => ∃ l', l'.map Ex.er = l.map Ex.er ∧ ExsOwn w' w.heap.size v l' ∧ (Ex.blL l').Nodup ∧ Mod none_ w w'
theorem copyExD_row {l : List Ex} (ih : ∀ a ∈ l, CopyExD a.args) : CopyExD l := by
  intro w s hok hsz
  obtain ⟨A, c, rfl, _⟩ := reads_cap hok.1
  have hlen := Ex.len_sz l
  refine dispatcherref02_CopyExprs_calls ?_
  unfold dispatcherref02_CopyExprs_F
  refine W_loop dispatcherref02_CopyExprs_L0_ok (fun ρ w' => ∃ (n : Nat) (l' : List Ex), n ≤ l.length ∧ ρ 4 = .int .i64 n ∧ ρ 0 = .slice A l.length c ∧ l'.map Ex.er = (l.take n).map Ex.er ∧ ExsOwn w' w.heap.size (ρ 3) l' ∧ (Ex.blL l').Nodup ∧ Mod none_ w w') (fun ρ _ => l.length - (intOf (ρ 4)).toNat)
    ⟨0, [], Nat.zero_le _, rfl, rfl, rfl, ExsOwn.nil _ _, by rw [Ex.blL]; exact List.nodup_nil, Mod.refl _ _⟩ ?_
  rintro ρ w2 ⟨n, l', hn, h4, h0, her, hO, hnd, hm⟩
  rw [dispatcherref02_CopyExprs_L0_eq]
  unfold dispatcherref02_CopyExprs_L0_F
  rw [h0, len58, h4]
  refine BKlss (a := n) (b := l.length) rfl rfl ?_
  refine caseC (fun hlt => ?_) (fun hlt => ?_)
  · have hlt : n < l.length := by have := of_decide_eq_true hlt; omega
    have hx : l[n]? = some l[n] := List.getElem?_eq_getElem hlt
    have hmem : l[n] ∈ l := List.getElem_mem hlt
    have hok2 := hok.mod hm
    have hsn := Ex.szL_at hx
    have hse := Ex.sz_eq l[n]
    have hlen' : l'.length = n := by have := congrArg List.length her; simpa [Nat.min_eq_left hn] using this
    refine ixEx hok2 hx fun x14 => ?_
    refine lcl_k (cs := l[n].cells.toArray) zEx _ iEx rfl (ex_one (hok2.at hx)) fun w3 hb3 hm3 hz3 => ?_
    have hblk : ∀ k, (ρ 3).ownBlock = some k → k < w2.heap.size := fun k hk => owns_lt hO.row hk
    have hm03 := hm.trans hm3
    have hO3 := hO.mod0 hm3
    have hws := hm.size
    refine (FAt.mk' (off := 3) (by kernel_rfl) uExs rfl (by rw [add_pl, cell_blk hb3]; rfl) : FAt Tryd.prog w3 60 3 ⟨w2.heap.size, 0, none⟩ 58 l[n].s).vk' fun x16 => ?_
    refine CK_st Tryd.func56 rfl rfl (ih _ hmem w3 _ ((hok2.at hx).args.mod hm3) (by omega)) ?_
    rintro v w4 ⟨la, hla, hOa, hna, hm4⟩
    have hb4 := hm4.blk hb3 id
    have hO4 := hO3.mod0 hm4
    have hs34 := hm4.size
    rw [fo (off := 3) (by kernel_rfl), add_pl]
    refine stC (b := w2.heap.size) (o := 0 + 3) rfl (by kernel_rfl) (owns_slice hOa.row) hb4 (by simp [Ex.cells]) fun w5 hb5 hm5 hz5 => ?_
    have hfine := (hok2.at hx).fine
    have hOa5 := hOa.off hm5 (fun k q => by omega)
    have hO5 : ExsOwn w5 w.heap.size (ρ 3) l' := by
      refine ⟨owns_mod hO4.row hm5 fun k hk q => ?_, fun a ha => (hO4.own a ha).mod hm5 (((hO.own a ha).lt).mono fun k hk q => by omega), hO4.at_⟩
      have := hblk k hk
      omega
    obtain ⟨e', he'⟩ : ∃ e' : Ex, e' = ⟨l[n].op, l[n].num, l[n].name, v, la, l[n].line, l[n].col⟩ := ⟨_, rfl⟩
    have hcs : l[n].cells.toArray.setIfInBounds (0 + 3) v = e'.cells.toArray := by rw [he']; rfl
    rw [hcs] at hb5
    have hown' : e'.Own w5 tE := Ex.own_.2 (by rw [he']; exact ⟨owns_base hOa5.row (Nat.zero_le _), hfine, hOa5.own⟩)
    have hin' : e'.In fun k => w.heap.size ≤ k ∧ some k ≠ (ρ 3).ownBlock := by
      have hg : ∀ k, w3.heap.size ≤ k → w.heap.size ≤ k ∧ some k ≠ (ρ 3).ownBlock := fun k hk => ⟨by omega, fun q => by have := hblk k q.symm; omega⟩
      refine Ex.in_.2 ?_
      rw [he']
      exact ⟨fun k hk => hg k (owns_low hOa.row hk), fun a ha => (hOa.at_ a ha).mono fun k hk => hg k hk.1⟩
    have hnd' : (Ex.blL (l' ++ [e'])).Nodup := by
      refine (NB.app (exs_nb hO hnd).tail (b := w2.heap.size) (c := w3.heap.size) (d := w4.heap.size) (M := e'.bl) ?_ (by omega) (by omega) (by omega)).blx
      rw [he', Ex.bl_eq]
      exact exs_nb hOa hna
    refine ldS (cs := e'.cells.toArray) rfl Tryd.underlying60 rfl iEx hb5 ?_
    refine snocEx hO5 hown' hin' (by omega) (by omega) fun y v' w6 hO6 hm6 _ => ?_
    refine BKadd (a := n) (b := 1) rfl rfl (by omega) (by omega) ?_
    refine ⟨⟨n + 1, l' ++ [e'], hlt, rfl, h0, ?_, hO6, hnd', ?_⟩, ?_⟩
    · rw [List.take_add_one, hx, Option.toList_some, List.map_append, List.map_append, her]
      congr 1
      rw [he', List.map_singleton, List.map_singleton, Ex.er_eq, Ex.er_eq, hla]
    · refine ((hm03.trans hm4).then hm5 fun k hk q => ?_).then hm6 fun k hk q => ?_
      · omega
      · have := owns_low hO.row q.symm; omega
    · show l.length - (intOf (Value.int .i64 ((n : Int) + 1))).toNat < _
      simp only [intOf]; omega
  · obtain rfl : n = l.length := by have := of_decide_eq_false hlt; omega
    rw [sq_x, bk_x, sq_n, dispatcherref02_CopyExprs_R1_eq]
    unfold dispatcherref02_CopyExprs_R1_F
    rw [List.take_length] at her
    exact ⟨l', her, hO, hnd, hm⟩
theorem copyExD_all : ∀ e : Ex, CopyExD e.args := by
  intro e
  induction e using Ex.ind with
  | h e ih => exact copyExD_row ih
theorem CopyExprsD_ok (l : List Ex) : CopyExD l := copyExD_row fun a _ => copyExD_all a
def CopyStD (l : List St) : Prop := ∀ (w : World) (s : Value), StsOk w s l → St.szL l ≤ 1099511627776 →
  Rt Tryd.prog 32 #[s] w fun v w' => ∃ l', l'.map St.er = l.map St.er ∧ StsOwn w' w.heap.size v l' ∧ (St.blL l').Nodup ∧ Mod none_ w w'
theorem copyStD_row {l : List St} (ih : ∀ a ∈ l, CopyStD a.body ∧ CopyStD a.els) : CopyStD l := by
  intro w s hok hsz
  obtain ⟨A, c, rfl, _⟩ := reads_cap hok.1
  have hlen := St.len_sz l
  refine dispatcherref02_CopyStmts_calls ?_
  unfold dispatcherref02_CopyStmts_F
  refine W_loop dispatcherref02_CopyStmts_L0_ok (fun ρ w' => ∃ (n : Nat) (l' : List St), n ≤ l.length ∧ ρ 4 = .int .i64 n ∧ ρ 0 = .slice A l.length c ∧ l'.map St.er = (l.take n).map St.er ∧ StsOwn w' w.heap.size (ρ 3) l' ∧ (St.blL l').Nodup ∧ Mod none_ w w') (fun ρ _ => l.length - (intOf (ρ 4)).toNat)
    ⟨0, [], Nat.zero_le _, rfl, rfl, rfl, StsOwn.nil _ _, by rw [St.blL]; exact List.nodup_nil, Mod.refl _ _⟩ ?_
  rintro ρ w2 ⟨n, l', hn, h4, h0, her, hO, hnd, hm⟩
  rw [dispatcherref02_CopyStmts_L0_eq]
  unfold dispatcherref02_CopyStmts_L0_F
  rw [h0, len23, h4]
  refine BKlss (a := n) (b := l.length) rfl rfl ?_
  refine caseC (fun hlt => ?_) (fun hlt => ?_)
  · have hlt : n < l.length := by have := of_decide_eq_true hlt; omega
    have hx : l[n]? = some l[n] := List.getElem?_eq_getElem hlt
    have hmem : l[n] ∈ l := List.getElem_mem hlt
    have hok2 := hok.mod hm
    have hsn := St.szL_at hx
    have hse := St.sz_eq l[n]
    have hlen' : l'.length = n := by have := congrArg List.length her; simpa [Nat.min_eq_left hn] using this
    have hoke := hok.at hx
    obtain ⟨ihB, ihE⟩ := ih _ hmem
    refine ixSt hok2 hx fun x14 => ?_
    refine lcl_k (cs := l[n].cells.toArray) zSt _ iSt rfl (st_one hoke) fun w3 hb3 hm3 hz3 => ?_
    have hblk : ∀ k, (ρ 3).ownBlock = some k → k < w2.heap.size := fun k hk => owns_lt hO.row hk
    have hm03 := hm.trans hm3
    have hO3 := hO.mod0 hm3
    have hws := hm.size
    have stO : ∀ {wa wb : World}, StsOwn wa w.heap.size (ρ 3) l' → Mod (fun i => i = w2.heap.size) wa wb → StsOwn wb w.heap.size (ρ 3) l' := by
      intro wa wb h hmm
      refine ⟨owns_mod h.row hmm fun k hk q => ?_, fun a ha => (h.own a ha).mod hmm (((hO.own a ha).lt).mono fun k hk q => by omega), h.at_⟩
      have := hblk k hk
      omega
    have st0 : ∀ {wa wb : World}, Mod none_ w wa → Mod (fun i => i = w2.heap.size) wa wb → Mod none_ w wb := fun h hmm => h.then hmm fun k hk q => by omega
    -- the expressions
    refine (FAt.mk' (off := 5) (by kernel_rfl) uExs rfl (by rw [add_pl, cell_blk hb3]; rfl) : FAt Tryd.prog w3 62 5 ⟨w2.heap.size, 0, none⟩ 58 l[n].es).vk' fun x16 => ?_
    refine CK_st Tryd.func56 rfl rfl (CopyExprsD_ok _ w3 _ (hoke.exprs.mod hm03) (by omega)) ?_
    rintro v1 w4 ⟨la, hla, hOa, hna, hm4⟩
    have hb4 := hm4.blk hb3 id
    have hs34 := hm4.size
    rw [fo (off := 5) (by kernel_rfl), add_pl]
    refine stC (b := w2.heap.size) (o := 0 + 5) rfl (by kernel_rfl) (owns_slice hOa.row) hb4 (by simp [St.cells]) fun w5 hb5 hm5 hz5 => ?_
    have hOa5 := hOa.off hm5 (fun k q => by omega)
    have hO5 := stO (hO3.mod0 hm4) hm5
    have hm05 := st0 (hm03.trans hm4) hm5
    have hc5 : l[n].cells.toArray.setIfInBounds (0 + 5) v1 = #[.int .u8 l[n].op, .int .u8 l[n].kind, .int .u8 l[n].red, .string l[n].name, .int .i64 l[n].turns, v1, l[n].bs, l[n].ls, .int .i64 l[n].line, .int .i64 l[n].col] := rfl
    rw [hc5] at hb5
    -- the body
    refine (FAt.mk' (off := 6) (by kernel_rfl) uSts rfl (by rw [add_pl, cell_blk hb5]; rfl) : FAt Tryd.prog w5 62 6 ⟨w2.heap.size, 0, none⟩ 23 l[n].bs).vk' fun x20 => ?_
    refine CK_st Tryd.func32 rfl rfl (ihB w5 _ (hoke.body.mod hm05) (by omega)) ?_
    rintro v2 w6 ⟨lb, hlb, hOb, hnb, hm6⟩
    have hb6 := hm6.blk hb5 id
    have hs56 := hm6.size
    rw [fo (off := 6) (by kernel_rfl), add_pl]
    refine stC (b := w2.heap.size) (o := 0 + 6) rfl (by kernel_rfl) (owns_slice hOb.row) hb6 (by simp) fun w7 hb7 hm7 hz7 => ?_
    have hOa7 := (hOa5.mod0 hm6).off hm7 (fun k q => by omega)
    have hOb7 := hOb.off hm7 (fun k q => by omega)
    have hO7 := stO (hO5.mod0 hm6) hm7
    have hm07 := st0 (hm05.trans hm6) hm7
    have hc7 : (#[.int .u8 l[n].op, .int .u8 l[n].kind, .int .u8 l[n].red, .string l[n].name, .int .i64 l[n].turns, v1, l[n].bs, l[n].ls, .int .i64 l[n].line, .int .i64 l[n].col] : Array Value).setIfInBounds (0 + 6) v2 = #[.int .u8 l[n].op, .int .u8 l[n].kind, .int .u8 l[n].red, .string l[n].name, .int .i64 l[n].turns, v1, v2, l[n].ls, .int .i64 l[n].line, .int .i64 l[n].col] := rfl
    rw [hc7] at hb7
    -- else
    refine (FAt.mk' (off := 7) (by kernel_rfl) uSts rfl (by rw [add_pl, cell_blk hb7]; rfl) : FAt Tryd.prog w7 62 7 ⟨w2.heap.size, 0, none⟩ 23 l[n].ls).vk' fun x24 => ?_
    refine CK_st Tryd.func32 rfl rfl (ihE w7 _ (hoke.els.mod hm07) (by omega)) ?_
    rintro v3 w8 ⟨lc, hlc, hOc, hnc, hm8⟩
    have hb8 := hm8.blk hb7 id
    have hs78 := hm8.size
    rw [fo (off := 7) (by kernel_rfl), add_pl]
    refine stC (b := w2.heap.size) (o := 0 + 7) rfl (by kernel_rfl) (owns_slice hOc.row) hb8 (by simp) fun w9 hb9 hm9 hz9 => ?_
    have hOa9 := (hOa7.mod0 hm8).off hm9 (fun k q => by omega)
    have hOb9 := (hOb7.mod0 hm8).off hm9 (fun k q => by omega)
    have hOc9 := hOc.off hm9 (fun k q => by omega)
    have hO9 := stO (hO7.mod0 hm8) hm9
    have hm09 := st0 (hm07.trans hm8) hm9
    have hfine := hoke.fine
    obtain ⟨e', he'⟩ : ∃ e' : St, e' = ⟨l[n].op, l[n].kind, l[n].red, l[n].name, l[n].turns, v1, la, v2, lb, v3, lc, l[n].line, l[n].col⟩ := ⟨_, rfl⟩
    have hc9 : (#[.int .u8 l[n].op, .int .u8 l[n].kind, .int .u8 l[n].red, .string l[n].name, .int .i64 l[n].turns, v1, v2, l[n].ls, .int .i64 l[n].line, .int .i64 l[n].col] : Array Value).setIfInBounds (0 + 7) v3 = e'.cells.toArray := by rw [he']; rfl
    rw [hc9] at hb9
    have hown' : e'.Own w9 tE tS := St.own_.2 (by rw [he']; exact ⟨⟨owns_base hOa9.row (Nat.zero_le _), hOa9.own⟩, ⟨owns_base hOb9.row (Nat.zero_le _), hOb9.own⟩, ⟨owns_base hOc9.row (Nat.zero_le _), hOc9.own⟩, hfine⟩)
    have hg : ∀ k, w3.heap.size ≤ k → w.heap.size ≤ k ∧ some k ≠ (ρ 3).ownBlock := fun k hk => ⟨by omega, fun q => by have := hblk k q.symm; omega⟩
    have hin' : e'.In fun k => w.heap.size ≤ k ∧ some k ≠ (ρ 3).ownBlock := by
      refine St.in_.2 ?_
      rw [he']
      exact ⟨⟨fun k hk => hg k (owns_low hOa.row hk), fun a ha => (hOa.at_ a ha).mono fun k hk => hg k hk.1⟩, ⟨fun k hk => hg k (by have := owns_low hOb.row hk; omega), fun a ha => (hOb.at_ a ha).mono fun k hk => hg k (by have := hk.1; omega)⟩,
        fun k hk => hg k (by have := owns_low hOc.row hk; omega), fun a ha => (hOc.at_ a ha).mono fun k hk => hg k (by have := hk.1; omega)⟩
    have hnd' : (St.blL (l' ++ [e'])).Nodup := by
      refine (NB.app (sts_nb hO hnd).tail (b := w2.heap.size) (c := w3.heap.size) (d := w8.heap.size) (M := e'.bl) ?_ (by omega) (by omega) (by omega)).bls
      rw [he', St.bl_eq]
      exact NB.app (exs_nb hOa hna) (NB.app (sts_nb hOb hnb) (sts_nb hOc hnc) (by omega) (by omega) (by omega)) (by omega) (by omega) (by omega)
    refine ldS (cs := e'.cells.toArray) rfl Tryd.underlying62 rfl iSt hb9 ?_
    refine snocSt hO9 hown' hin' (by omega) (by omega) fun y v' w10 hO10 hm10 _ => ?_
    refine BKadd (a := n) (b := 1) rfl rfl (by omega) (by omega) ?_
    refine ⟨⟨n + 1, l' ++ [e'], hlt, rfl, h0, ?_, hO10, hnd', ?_⟩, ?_⟩
    · rw [List.take_add_one, hx, Option.toList_some, List.map_append, List.map_append, her]
      congr 1
      rw [he', List.map_singleton, List.map_singleton, St.er_eq, St.er_eq, hla, hlb, hlc]
    · refine hm09.then hm10 fun k hk q => ?_
      have := owns_low hO.row q.symm
      omega
    · show l.length - (intOf (Value.int .i64 ((n : Int) + 1))).toNat < _
      simp only [intOf]; omega
  · obtain rfl : n = l.length := by have := of_decide_eq_false hlt; omega
    rw [sq_x, bk_x, sq_n, dispatcherref02_CopyStmts_R1_eq]
    unfold dispatcherref02_CopyStmts_R1_F
    rw [List.take_length] at her
    exact ⟨l', her, hO, hnd, hm⟩
theorem copyStD_all : ∀ e : St, CopyStD e.body ∧ CopyStD e.els := by
  intro e
  induction e using St.ind with
  | h e ih1 ih2 => exact ⟨copyStD_row ih1, copyStD_row ih2⟩
theorem CopyStmtsD_ok (l : List St) : CopyStD l := copyStD_row fun a _ => copyStD_all a
theorem bPrD (a b : Value) (ha : a.oneCell' = true) (hb : b.oneCell' = true) : Tryd.prog.built 25 [(0, a), (1, b)] = some #[a, b] := by
  cases a <;> first | (simp [Value.oneCell'] at ha; done) | (cases b <;> first | (simp [Value.oneCell'] at hb; done) | kernel_rfl)
theorem CopyD_ok {w : World} {p : Pr} (h : p.Ok w) (hf : p.fits) : Rt Tryd.prog 11 #[.agg p.cells.toArray] w fun v w' => ∃ q : Pr, v = .agg q.cells.toArray ∧ q.er = p.er ∧ PrOwn w' w.heap.size q ∧ (St.blL q.body).Nodup ∧ Mod none_ w w' := by
  refine dispatcherref02_Copy_calls ?_
  unfold dispatcherref02_Copy_F
  refine box_k (cs := p.cells.toArray) rfl fun w1 hb1 hm1 hz1 => ?_
  refine al_k (cs := #[.slice none 0 0, .slice none 0 0]) zPr rfl _ fun w2 hb2 hm2 hz2 => ?_
  have hm02 := hm1.trans hm2
  have hb12 := hm2.blk hb1 id
  have hm2' : Mod none_ w2 { w2 with drawn := w2.drawn + 1 } := (Mod.refl _ w2).drawn _
  have hz12 : w1.heap.size = w.heap.size + 1 := hz1
  refine dispatcherref02_Copy_R0_held (D := []) (fun w' => w'.heap[w.heap.size]? = some (.cells p.cells.toArray 25 (0, 0))) hb12 ?_
  unfold dispatcherref02_Copy_R0_H
  refine HV_of (fun w' hw => run_fo (off := 0) (by kernel_rfl) _ w') ?_
  refine HV_of (v := p.ds) (fun w' hw => run_ld1 uDes rfl (by rw [add_pl, cell_blk hw]; rfl)) ?_
  refine HV_of (fun w' hw => run_fo (off := 1) (by kernel_rfl) _ w') ?_
  refine HV_of (v := p.bs) (fun w' hw => run_ld1 uSts rfl (by rw [add_pl, cell_blk hw]; rfl)) ?_
  have hf1 := hf.1
  have h2 := h.mod (hm02.trans hm2')
  have hs2 : w2.heap.size = w.heap.size + 2 := by omega
  refine ap_any (base := w.heap.size) eDes (owns_none _ _ _ _) h2.d.1 ?_ (by unfold maxLen; omega) (by omega) (by show w.heap.size ≤ w2.heap.size; omega) fun v3 w3 ho3 hm3 ha3 => ?_
  · intro u hu
    obtain ⟨e, he, hu⟩ := List.mem_flatMap.1 hu
    have := de_one e
    rw [Array.all_eq_true_iff_forall_mem] at this
    exact this u (by simpa using hu)
  have hm3' : Mod none_ { w2 with drawn := w2.drawn + 1 } w3 := hm3.mono fun k _ q => by simp [Value.ownBlock] at q
  have hm03 := (hm02.trans hm2').trans hm3'
  have hb3 := (hm2'.trans hm3').blk hb2 id
  have hb13 := (hm2'.trans hm3').blk hb12 id
  refine ⟨hb13, ?_⟩
  refine CK_st Tryd.func32 rfl rfl (CopyStmtsD_ok _ w3 _ (h.b.mod hm03) hf.2) ?_
  rintro v4 w4 ⟨l', her, hO, hnd, hm4⟩
  have hb4 := hm4.blk hb3 id
  have hb14 := hm4.blk hb13 id
  refine ⟨hb14, ?_⟩
  simp only [Nat.zero_add, List.nil_append] at ho3
  have ho4 := owns_mod ho3 hm4 fun _ _ => id
  refine HV_of (v := .agg #[v3, v4]) (fun w' _ => by have := run_build (P := Tryd.prog) w' 25 [(0, v3), (1, v4)].toArray #[v3, v4] (by simpa using bPrD v3 v4 (owns_slice ho3) (owns_slice hO.row)); exact this) ?_
  have hone : ((#[v3, v4] : Array Value).all (·.oneCell')) = true := by simp [owns_slice ho3, owns_slice hO.row]
  refine stS (old := #[.slice none 0 0, .slice none 0 0]) (cs := #[v3, v4]) rfl rfl iPr rfl hone hb4 fun w5 hb5 hm5 hz5 => ?_
  have hs3 := hm3'.size
  have hs34 := hm4.size
  have hs3' : w2.heap.size ≤ w3.heap.size := hs3
  have hb15 := hm5.blk hb14 (by omega)
  refine ⟨hb15, ?_⟩
  rw [sq_n, dispatcherref02_Copy_R1_eq]
  unfold dispatcherref02_Copy_R1_F
  refine rtCell (cs := #[v3, v4]) rfl Tryd.underlying25 rfl iPr hb5 ?_
  refine ⟨⟨v3, p.decls, v4, l'⟩, rfl, ?_, ⟨?_, h.d.2, ?_⟩, hnd, (hm03.trans hm4).then hm5 fun i hi q => by omega⟩
  · show (⟨_, _, _, _⟩ : Pr) = ⟨_, _, _, _⟩
    rw [her]
  · refine owns_mod ho4 hm5 fun k hk q => ?_
    rcases ha3 with ha | ha
    · rw [ha] at hk; cases hk
    · rw [ha] at hk
      have : w2.heap.size = k := by simpa using hk
      omega
  · exact (hO.off hm5 fun k q => by omega).low (by omega)
end Go.Proofs.YtbnbcimjapiicaaDoor.Tr
set_option linter.unusedVariables false
set_option linter.unusedSimpArgs false
namespace Go.X
open Go
inductive Pt where
  | done
  | take (i : Nat) (r : Pt)
  | only (i : Nat) (r : Pt)
  | two (i j : Nat) (a b : Pt)
  | three (i j k : Nat) (a b c : Pt)
def Pt.len : Pt → Nat
  | .done => 0
  | .take _ r => r.len + 1
  | .only _ r => r.len + 1
  | .two _ _ a _ => a.len + 1
  | .three _ _ _ a _ _ => a.len + 1
def Pt.ok (P : Program) (n : Nat) (ops : Array Oper) : Pt → Array Bool → Bool
  | .done, listed => (Region.ready .any ops listed).isEmpty
  | .take i r, listed => (match ops[i]? with | none => false | some o => oOk n o && (Region.free .any ops listed i && (Region.ready .any ops listed).contains i)) && Pt.ok P n ops r (listed.setIfInBounds i true)
  | .only i r, listed => opOk P n ops i && (Region.ready .any ops listed == [i]) && Pt.ok P n ops r (listed.setIfInBounds i true)
  | .two i j a b, listed => opOk P n ops i && opOk P n ops j && (Region.ready .any ops listed == [i, j]) && (a.len == b.len) && Pt.ok P n ops a (listed.setIfInBounds i true) && Pt.ok P n ops b (listed.setIfInBounds j true)
  | .three i j k a b c, listed => (opOk P n ops i && opOk P n ops j && opOk P n ops k) && (Region.ready .any ops listed == [i, j, k]) && ((a.len == b.len) && (a.len == c.len)) && Pt.ok P n ops a (listed.setIfInBounds i true) && Pt.ok P n ops b (listed.setIfInBounds j true) && Pt.ok P n ops c (listed.setIfInBounds k true)
end Go.X
