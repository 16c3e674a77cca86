/- The framework X, part 6: rules for the head of a formula, one reading at a time (for simp, tried ahead of what lies within). -/
import Derived.Test.YtbnbcimjapiicaaDoorXFold
set_option linter.unusedVariables false
set_option linter.unusedSimpArgs false
namespace Go.X
open Go Go.RowKit
theorem bytes_inj {a b : ByteArray} (h : a.data.toList = b.data.toList) : a = b := by
  cases a; cases b
  simp only [Array.toList_inj] at h
  rw [h]
section
variable {P : Program} {w : World} {K : Value → World → Prop}
theorem VGtt (s : Sem Value) : VG P (.bool true) true s w K = VK P s w K := by rw [VG_b]; rfl
theorem VGtf (s : Sem Value) : VG P (.bool true) false s w K = K undef w := by rw [VG_b]; rfl
theorem VGft (s : Sem Value) : VG P (.bool false) true s w K = K undef w := by rw [VG_b]; rfl
theorem VGff (s : Sem Value) : VG P (.bool false) false s w K = VK P s w K := by rw [VG_b]; rfl
theorem UGtt (s : Sem Unit) : UG P (.bool true) true s w K = UK P s w K := by rw [UG_b]; rfl
theorem UGtf (s : Sem Unit) : UG P (.bool true) false s w K = K undef w := by rw [UG_b]; rfl
theorem UGft (s : Sem Unit) : UG P (.bool false) true s w K = K undef w := by rw [UG_b]; rfl
theorem UGff (s : Sem Unit) : UG P (.bool false) false s w K = UK P s w K := by rw [UG_b]; rfl
theorem MGtt (v : Value) : MG P (.bool true) true v w K = K v w := by rw [MG_b]; rfl
theorem MGtf (v : Value) : MG P (.bool true) false v w K = K undef w := by rw [MG_b]; rfl
theorem MGft (v : Value) : MG P (.bool false) true v w K = K undef w := by rw [MG_b]; rfl
theorem MGff (v : Value) : MG P (.bool false) false v w K = K v w := by rw [MG_b]; rfl
theorem NGtt (v : Value) : NG P (.bool true) true v w K = NK P v w K := by rw [NG_b]; rfl
theorem NGtf (v : Value) : NG P (.bool true) false v w K = K undef w := by rw [NG_b]; rfl
theorem NGft (v : Value) : NG P (.bool false) true v w K = K undef w := by rw [NG_b]; rfl
theorem NGff (v : Value) : NG P (.bool false) false v w K = NK P v w K := by rw [NG_b]; rfl
theorem PGtt (c a b : Value) : PG P (.bool true) true c a b w K = PK P c a b w K := by rw [PG_b]; rfl
theorem PGtf (c a b : Value) : PG P (.bool true) false c a b w K = K undef w := by rw [PG_b]; rfl
theorem PGft (c a b : Value) : PG P (.bool false) true c a b w K = K undef w := by rw [PG_b]; rfl
theorem PGff (c a b : Value) : PG P (.bool false) false c a b w K = PK P c a b w K := by rw [PG_b]; rfl
theorem BGtt (op : BinOp) (ty : TypeId) (x y : Operand) (a b : Value) : BG P (.bool true) true op ty x y a b w K = BK P op ty x y a b w K := by rw [BG_b]; rfl
theorem BGtf (op : BinOp) (ty : TypeId) (x y : Operand) (a b : Value) : BG P (.bool true) false op ty x y a b w K = K undef w := by rw [BG_b]; rfl
theorem BGft (op : BinOp) (ty : TypeId) (x y : Operand) (a b : Value) : BG P (.bool false) true op ty x y a b w K = K undef w := by rw [BG_b]; rfl
theorem BGff (op : BinOp) (ty : TypeId) (x y : Operand) (a b : Value) : BG P (.bool false) false op ty x y a b w K = BK P op ty x y a b w K := by rw [BG_b]; rfl
theorem CGtt (f : Value) (args : List Value) : CG P (.bool true) true f args w K = CK P f args w K := by rw [CG_b]; rfl
theorem CGtf (f : Value) (args : List Value) : CG P (.bool true) false f args w K = K undef w := by rw [CG_b]; rfl
theorem CGft (f : Value) (args : List Value) : CG P (.bool false) true f args w K = K undef w := by rw [CG_b]; rfl
theorem CGff (f : Value) (args : List Value) : CG P (.bool false) false f args w K = CK P f args w K := by rw [CG_b]; rfl
theorem IGtt (b : Builtin) (ts : Array TypeId) (ty : TypeId) (cs : List Bool) (args : List Value) : IG P (.bool true) true b ts ty cs args w K = IK P b ts ty cs args w K := by rw [IG_b]; rfl
theorem IGtf (b : Builtin) (ts : Array TypeId) (ty : TypeId) (cs : List Bool) (args : List Value) : IG P (.bool true) false b ts ty cs args w K = K undef w := by rw [IG_b]; rfl
theorem IGft (b : Builtin) (ts : Array TypeId) (ty : TypeId) (cs : List Bool) (args : List Value) : IG P (.bool false) true b ts ty cs args w K = K undef w := by rw [IG_b]; rfl
theorem IGff (b : Builtin) (ts : Array TypeId) (ty : TypeId) (cs : List Bool) (args : List Value) : IG P (.bool false) false b ts ty cs args w K = IK P b ts ty cs args w K := by rw [IG_b]; rfl
theorem PKt (a b : Value) : PK P (.bool true) a b w K = K a w := by rw [PK_bool]; rfl
theorem PKf (a b : Value) : PK P (.bool false) a b w K = K b w := by rw [PK_bool]; rfl
theorem CDt (A B : Prop) : CondK (.bool true) A B = A := by rw [CondK_bool]; rfl
theorem CDf (A B : Prop) : CondK (.bool false) A B = B := by rw [CondK_bool]; rfl
theorem NOTt : VK P (Op.unary .not (.bool true)) w K = K (.bool false) w := not_ok true
theorem NOTf : VK P (Op.unary .not (.bool false)) w K = K (.bool true) w := not_ok false
section
variable {k : IntKind} {a b : Int}
theorem EQt (h : a = b) (t : TypeId) (x y : Operand) (K : Value → World → Prop) : BK P .eql t x y (.int k a) (.int k b) w K = K (.bool true) w := by rw [BK_eql, h]; simp
theorem EQf (h : a ≠ b) (t : TypeId) (x y : Operand) (K : Value → World → Prop) : BK P .eql t x y (.int k a) (.int k b) w K = K (.bool false) w := by rw [BK_eql, beq_eq_false_iff_ne.2 h]
theorem NEt (h : a ≠ b) (t : TypeId) (x y : Operand) (K : Value → World → Prop) : BK P .neq t x y (.int k a) (.int k b) w K = K (.bool true) w := by rw [BK_neq, bne_iff_ne.2 h]
theorem NEf (h : a = b) (t : TypeId) (x y : Operand) (K : Value → World → Prop) : BK P .neq t x y (.int k a) (.int k b) w K = K (.bool false) w := by rw [BK_neq, h]; simp
theorem LTt (h : a < b) (t : TypeId) (x y : Operand) (K : Value → World → Prop) : BK P .lss t x y (.int k a) (.int k b) w K = K (.bool true) w := by rw [BK_lss, decide_eq_true h]
theorem LTf (h : b ≤ a) (t : TypeId) (x y : Operand) (K : Value → World → Prop) : BK P .lss t x y (.int k a) (.int k b) w K = K (.bool false) w := by rw [BK_lss, decide_eq_false (by omega)]
theorem GTt (h : b < a) (t : TypeId) (x y : Operand) (K : Value → World → Prop) : BK P .gtr t x y (.int k a) (.int k b) w K = K (.bool true) w := by rw [BK_gtr, decide_eq_true h]
theorem GTf (h : a ≤ b) (t : TypeId) (x y : Operand) (K : Value → World → Prop) : BK P .gtr t x y (.int k a) (.int k b) w K = K (.bool false) w := by rw [BK_gtr, decide_eq_false (by omega)]
theorem LEt (h : a ≤ b) (t : TypeId) (x y : Operand) (K : Value → World → Prop) : BK P .leq t x y (.int k a) (.int k b) w K = K (.bool true) w := by rw [BK_leq, decide_eq_true h]
theorem LEf (h : b < a) (t : TypeId) (x y : Operand) (K : Value → World → Prop) : BK P .leq t x y (.int k a) (.int k b) w K = K (.bool false) w := by rw [BK_leq, decide_eq_false (by omega)]
theorem GEt (h : b ≤ a) (t : TypeId) (x y : Operand) (K : Value → World → Prop) : BK P .geq t x y (.int k a) (.int k b) w K = K (.bool true) w := by rw [BK_geq, decide_eq_true h]
theorem GEf (h : a < b) (t : TypeId) (x y : Operand) (K : Value → World → Prop) : BK P .geq t x y (.int k a) (.int k b) w K = K (.bool false) w := by rw [BK_geq, decide_eq_false (by omega)]
end
section
variable {a b : ByteArray}
theorem SEQt (h : a = b) (t : TypeId) (x y : Operand) (K : Value → World → Prop) : BK P .eql t x y (.string a) (.string b) w K = K (.bool true) w := by rw [BK_eqlS, h]; simp
theorem SEQf (h : a ≠ b) (t : TypeId) (x y : Operand) (K : Value → World → Prop) : BK P .eql t x y (.string a) (.string b) w K = K (.bool false) w := by
  rw [BK_eqlS, beq_eq_false_iff_ne.2]
  exact fun q => h (bytes_inj (by rw [← ByteArray.toList_eq, ← ByteArray.toList_eq]; exact q))
theorem SNEt (h : a ≠ b) (t : TypeId) (x y : Operand) (K : Value → World → Prop) : BK P .neq t x y (.string a) (.string b) w K = K (.bool true) w := by
  rw [BK_neqS, beq_eq_false_iff_ne.2]
  · rfl
  · exact fun q => h (bytes_inj (by rw [← ByteArray.toList_eq, ← ByteArray.toList_eq]; exact q))
theorem SNEf (h : a = b) (t : TypeId) (x y : Operand) (K : Value → World → Prop) : BK P .neq t x y (.string a) (.string b) w K = K (.bool false) w := by rw [BK_neqS, h]; simp
end
/-- A field that is read, its place known. -/
structure FO (P : Program) (w : World) (t : TypeId) (i off : Nat) (a : Addr) (t' : TypeId) (v : Value) : Prop where
  h1 : fieldOff P t i = some off
  h2 : ∀ K : Value → World → Prop, VK P (Instr.loadAt t' (.pointer (some (a.add off)))) w K = K v w
theorem FO.mk' {t t' : TypeId} {i off : Nat} {a : Addr} {v : Value} {d : TypeDesc} (h1 : fieldOff P t i = some off) (h2 : P.underlying t' = some d) (h3 : (match d with | .struct _ | .array _ _ => true | _ => false) = false) (h4 : w.cell? (a.add off) = some v) : FO P w t i off a t' v :=
  ⟨h1, fun K => VK_eq_of (run_ld1 h2 h3 h4)⟩
/-- Of a block. -/
theorem FO.blk {t t' ty : TypeId} {i off b : Nat} {fr : Nat × Nat} {cs : Array Value} {v : Value} {d : TypeDesc} (hb : w.heap[b]? = some (.cells cs ty fr)) (h1 : fieldOff P t i = some off) (h2 : P.underlying t' = some d) (h3 : (match d with | .struct _ | .array _ _ => true | _ => false) = false) (h4 : cs[off]? = some v) : FO P w t i off ⟨b, 0, none⟩ t' v :=
  FO.mk' h1 h2 h3 (by rw [add_pl, Nat.zero_add, cell_blk hb]; exact h4)
theorem FO.e {t t' : TypeId} {i off : Nat} {a : Addr} {v : Value} (h : FO P w t i off a t' v) (K : Value → Value → World → Prop) :
    (VK P (Instr.fieldAt t (.pointer (some a)) i) w fun x w => VK P (Instr.loadAt t' x) w (K x)) = K (.pointer (some (a.add off))) v w := by
  rw [fo h.h1, h.h2]
end
end Go.X
