/- The framework X, part 7: chains of '&&' and '||' over fields, folded without parting ways. -/
import Derived.Test.YtbnbcimjapiicaaDoorXMore
set_option linter.unusedVariables false
set_option linter.unusedSimpArgs false
namespace Go.X
open Go Go.RowKit

/-- A field that is read: where it lies, what stands there. -/
structure FAt (P : Program) (w : World) (t : TypeId) (i : Nat) (a : Addr) (t' : TypeId) (v : Value) : Prop where
  go : ∃ off, fieldOff P t i = some off ∧ ∀ K : Value → World → Prop, VK P (Instr.loadAt t' (.pointer (some (a.add off)))) w K = K v w
theorem FAt.mk' {P : Program} {w : World} {t : TypeId} {i : Nat} {a : Addr} {t' : TypeId} {v : Value} {off : Nat} {d : TypeDesc} (h1 : fieldOff P t i = some off) (h2 : P.underlying t' = some d) (h3 : (match d with | .struct _ | .array _ _ => true | _ => false) = false) (h4 : w.cell? (a.add off) = some v) : FAt P w t i a t' v :=
  ⟨_, h1, fun K => VK_eq_of (run_ld1 h2 h3 h4)⟩
section
variable {P : Program} {w : World} {K : Value → World → Prop} {t t' ty ty' : TypeId} {i : Nat} {a : Addr} {v : Value} {b : Bool}
theorem FAt.eq (h : FAt P w t i a t' v) (K : Value → World → Prop) : (VK P (Instr.fieldAt t (.pointer (some a)) i) w fun x w => VK P (Instr.loadAt t' x) w K) = K v w := by
  obtain ⟨off, h1, h2⟩ := h.go
  rw [fo h1, h2]
theorem FAt.vk (h : FAt P w t i a t' v) (hk : K v w) : VK P (Instr.fieldAt t (.pointer (some a)) i) w fun x w => VK P (Instr.loadAt t' x) w K := by
  rw [h.eq]
  exact hk
/-- b && test(field) -/
theorem fA1 {op : BinOp} {x y : Operand} {c : Value} {r : Bool} (h : FAt P w t i a t' v) (hop : ∀ K : Value → World → Prop, BK P op ty x y v c w K = K (.bool r) w) (hk : K (.bool (b && r)) w) :
    VG P (.bool b) true (Instr.fieldAt t (.pointer (some a)) i) w fun x1 w => VG P (.bool b) true (Instr.loadAt t' x1) w fun x2 w => BG P (.bool b) true op ty x y x2 c w fun x3 w => PK P (.bool b) x3 (.bool false) w K := by
  cases b
  · simp only [VG_b, BG_b, Bool.false_eq_true, if_false, PK_bool]; exact hk
  · simp only [VG_b, BG_b, if_true, PK_bool]; rw [h.eq, hop]; exact hk
/-- b && test(len(field), slot) -/
theorem fA2 {e tl : TypeId} {A : Option Addr} {n c : Nat} {op : BinOp} {x y : Operand} {cs : List Bool} {o : Value} {r : Bool} (h : FAt P w t i a t' (.slice A n c)) (hl : P.underlying tl = some (.slice e)) (hop : ∀ K : Value → World → Prop, BK P op ty x y (.int .i64 n) o w K = K (.bool r) w) (hk : K (.bool (b && r)) w) :
    VG P (.bool b) true (Instr.fieldAt t (.pointer (some a)) i) w fun x1 w => VG P (.bool b) true (Instr.loadAt t' x1) w fun x2 w => IG P (.bool b) true Builtin.len #[tl] ty' cs [x2] w fun x3 w => MG P (.bool b) true o w fun x4 w => BG P (.bool b) true op ty x y x3 x4 w fun x5 w => PK P (.bool b) x5 (.bool false) w K := by
  cases b
  · simp only [VG_b, BG_b, IG_b, MG_b, Bool.false_eq_true, if_false, PK_bool]; exact hk
  · simp only [VG_b, BG_b, IG_b, MG_b, if_true, PK_bool]; rw [h.eq, len_sl hl, hop]; exact hk
/-- b && !f(field, g) -/
theorem fA3 {f g : Value} {r : Bool} (h : FAt P w t i a t' v) (hc : ∀ K : Value → World → Prop, (∀ w2, Mod none_ w w2 → K (.bool r) w2) → CK P f [v, g] w K) (hk : ∀ w2, Mod none_ w w2 → K (.bool (b && !r)) w2) :
    VG P (.bool b) true (Instr.fieldAt t (.pointer (some a)) i) w fun x1 w => VG P (.bool b) true (Instr.loadAt t' x1) w fun x2 w => CG P (.bool b) true f [x2, g] w fun x3 w => VG P (.bool b) true (Op.unary UnOp.not x3) w fun x4 w => PK P (.bool b) x4 (.bool false) w K := by
  cases b
  · simp only [VG_b, CG_b, Bool.false_eq_true, if_false, PK_bool]; exact hk w (Mod.refl _ _)
  · simp only [VG_b, CG_b, if_true, PK_bool]; rw [h.eq]; refine hc _ fun w2 hm => ?_; rw [not_ok]; exact hk w2 hm
/-- b && f(field) -/
theorem fA8 {f : Value} {r : Bool} (h : FAt P w t i a t' v) (hc : ∀ K : Value → World → Prop, (∀ w2, Mod none_ w w2 → K (.bool r) w2) → CK P f [v] w K) (hk : ∀ w2, Mod none_ w w2 → K (.bool (b && r)) w2) :
    VG P (.bool b) true (Instr.fieldAt t (.pointer (some a)) i) w fun x1 w => VG P (.bool b) true (Instr.loadAt t' x1) w fun x2 w => CG P (.bool b) true f [x2] w fun x3 w => PK P (.bool b) x3 (.bool false) w K := by
  cases b
  · simp only [VG_b, CG_b, Bool.false_eq_true, if_false, PK_bool]; exact hk w (Mod.refl _ _)
  · simp only [VG_b, CG_b, if_true, PK_bool]; rw [h.eq]; refine hc _ fun w2 hm => ?_; exact hk w2 hm
/-- b && (!n || f(field)) -/
theorem fA0 {f : Value} {n r : Bool} (h : FAt P w t i a t' v) (hc : ∀ K : Value → World → Prop, (∀ w2, Mod none_ w w2 → K (.bool r) w2) → CK P f [v] w K) (hk : ∀ w2, Mod none_ w w2 → K (.bool (b && (!n || r))) w2) :
    MG P (.bool b) true (.bool n) w fun x1 w => VG P (.bool b) true (Op.unary UnOp.not x1) w fun x2 w => MG P (.bool b) true x2 w fun x3 w => VG P x3 false (Instr.fieldAt t (.pointer (some a)) i) w fun x4 w => VG P x3 false (Instr.loadAt t' x4) w fun x5 w =>
      CG P x3 false f [x5] w fun x6 w => PG P (.bool b) true x3 (.bool true) x6 w fun x7 w => PK P (.bool b) x7 (.bool false) w K := by
  cases b
  · simp only [MG_b, VG_b, CG_b, PG_b, MG_u, VG_u, CG_u, PG_u, Bool.false_eq_true, if_false, PK_bool]; exact hk w (Mod.refl _ _)
  · cases n
    · simp only [MG_b, VG_b, CG_b, PG_b, if_true, PK_bool, not_ok, Bool.not_false, Bool.true_eq_false, if_false]; exact hk w (Mod.refl _ _)
    · simp only [MG_b, VG_b, CG_b, PG_b, if_true, PK_bool, not_ok, Bool.not_true, Bool.false_eq_true, if_false]; rw [h.eq]; refine hc _ fun w2 hm => ?_; exact hk w2 hm
variable {t2 t2' : TypeId} {i2 : Nat} {v2 : Value}
/-- b && (test(field) || test'(field')) -/
theorem fA4 {op op2 : BinOp} {x y x' y' : Operand} {c c2 : Value} {r r2 : Bool} (h : FAt P w t i a t' v) (hop : ∀ K : Value → World → Prop, BK P op ty x y v c w K = K (.bool r) w) (h2 : FAt P w t2 i2 a t2' v2) (hop2 : ∀ K : Value → World → Prop, BK P op2 ty' x' y' v2 c2 w K = K (.bool r2) w) (hk : K (.bool (b && (r || r2))) w) :
    VG P (.bool b) true (Instr.fieldAt t (.pointer (some a)) i) w fun x1 w => VG P (.bool b) true (Instr.loadAt t' x1) w fun x2 w => BG P (.bool b) true op ty x y x2 c w fun x3 w => MG P (.bool b) true x3 w fun x4 w =>
      VG P x4 false (Instr.fieldAt t2 (.pointer (some a)) i2) w fun x5 w => VG P x4 false (Instr.loadAt t2' x5) w fun x6 w => BG P x4 false op2 ty' x' y' x6 c2 w fun x7 w => PG P (.bool b) true x4 (.bool true) x7 w fun x8 w => PK P (.bool b) x8 (.bool false) w K := by
  cases b
  · simp only [MG_b, VG_b, BG_b, PG_b, MG_u, VG_u, BG_u, PG_u, Bool.false_eq_true, if_false, PK_bool]; exact hk
  · simp only [VG_b, BG_b, MG_b, PG_b, if_true]
    rw [h.eq, hop]
    cases r
    · simp only [MG_b, VG_b, BG_b, PG_b, if_true, PK_bool, Bool.false_eq_true, if_false]; rw [h2.eq, hop2]; exact hk
    · simp only [MG_b, VG_b, BG_b, PG_b, if_true, PK_bool, Bool.true_eq_false, if_false]; exact hk
/-- b && (test(field) || test'(len(field'))) -/
theorem fA5 {e tl tyl : TypeId} {A : Option Addr} {n cc : Nat} {cs : List Bool} {op op2 : BinOp} {x y x' y' : Operand} {c c2 : Value} {r r2 : Bool} (h : FAt P w t i a t' v) (hop : ∀ K : Value → World → Prop, BK P op ty x y v c w K = K (.bool r) w) (h2 : FAt P w t2 i2 a t2' (.slice A n cc)) (hl : P.underlying tl = some (.slice e)) (hop2 : ∀ K : Value → World → Prop, BK P op2 ty' x' y' (.int .i64 n) c2 w K = K (.bool r2) w) (hk : K (.bool (b && (r || r2))) w) :
    VG P (.bool b) true (Instr.fieldAt t (.pointer (some a)) i) w fun x1 w => VG P (.bool b) true (Instr.loadAt t' x1) w fun x2 w => BG P (.bool b) true op ty x y x2 c w fun x3 w => MG P (.bool b) true x3 w fun x4 w =>
      VG P x4 false (Instr.fieldAt t2 (.pointer (some a)) i2) w fun x5 w => VG P x4 false (Instr.loadAt t2' x5) w fun x6 w => IG P x4 false Builtin.len #[tl] tyl cs [x6] w fun x6' w => BG P x4 false op2 ty' x' y' x6' c2 w fun x7 w => PG P (.bool b) true x4 (.bool true) x7 w fun x8 w => PK P (.bool b) x8 (.bool false) w K := by
  cases b
  · simp only [MG_b, VG_b, BG_b, PG_b, IG_b, MG_u, VG_u, BG_u, PG_u, IG_u, Bool.false_eq_true, if_false, PK_bool]; exact hk
  · simp only [VG_b, BG_b, MG_b, PG_b, if_true]
    rw [h.eq, hop]
    cases r
    · simp only [MG_b, VG_b, BG_b, PG_b, IG_b, if_true, PK_bool, Bool.false_eq_true, if_false]; rw [h2.eq, len_sl hl, hop2]; exact hk
    · simp only [MG_b, VG_b, BG_b, PG_b, IG_b, if_true, PK_bool, Bool.true_eq_false, if_false]; exact hk
/-- b && (test(field) || f(field') && test''(field)) -/
theorem fA7 {f : Value} {op op2 : BinOp} {x y x' y' : Operand} {c c2 : Value} {r r2 r3 : Bool} (h : FAt P w t i a t' v) (hop : ∀ K : Value → World → Prop, BK P op ty x y v c w K = K (.bool r) w) (h2 : FAt P w t2 i2 a t2' v2) (hc : ∀ K : Value → World → Prop, K (.bool r2) w → CK P f [v2] w K) (hop3 : ∀ K : Value → World → Prop, BK P op2 ty' x' y' v c2 w K = K (.bool r3) w) (hk : K (.bool (b && (r || (r2 && r3)))) w) :
    VG P (.bool b) true (Instr.fieldAt t (.pointer (some a)) i) w fun x1 w => VG P (.bool b) true (Instr.loadAt t' x1) w fun x2 w => BG P (.bool b) true op ty x y x2 c w fun x3 w => MG P (.bool b) true x3 w fun x4 w =>
      VG P x4 false (Instr.fieldAt t2 (.pointer (some a)) i2) w fun x5 w => VG P x4 false (Instr.loadAt t2' x5) w fun x6 w => CG P x4 false f [x6] w fun x7 w => MG P x4 false x7 w fun x8 w =>
      VG P x8 true (Instr.fieldAt t (.pointer (some a)) i) w fun x9 w => VG P x8 true (Instr.loadAt t' x9) w fun x10 w => BG P x8 true op2 ty' x' y' x10 c2 w fun x11 w => PG P x4 false x8 x11 (.bool false) w fun x12 w => PG P (.bool b) true x4 (.bool true) x12 w fun x13 w => PK P (.bool b) x13 (.bool false) w K := by
  cases b
  · simp only [MG_b, VG_b, BG_b, PG_b, CG_b, MG_u, VG_u, BG_u, PG_u, CG_u, Bool.false_eq_true, if_false, PK_bool]; exact hk
  · simp only [VG_b, BG_b, MG_b, PG_b, if_true]
    rw [h.eq, hop]
    cases r
    · simp only [MG_b, VG_b, BG_b, PG_b, CG_b, if_true, Bool.false_eq_true, if_false]
      rw [h2.eq]
      refine hc _ ?_
      cases r2
      · simp only [MG_b, VG_b, BG_b, PG_b, if_true, PK_bool, Bool.false_eq_true, if_false]; exact hk
      · simp only [MG_b, VG_b, BG_b, PG_b, if_true, PK_bool, Bool.false_eq_true, if_false]; rw [h.eq, hop3]; exact hk
    · simp only [MG_b, VG_b, BG_b, PG_b, CG_b, MG_u, VG_u, BG_u, PG_u, CG_u, if_true, PK_bool, Bool.true_eq_false, if_false]; exact hk
/-- b && (test1(field) || test2(field) || test3(field) || test4(len(field'))) -/
theorem fA6 {e tl tyl : TypeId} {A : Option Addr} {n cc : Nat} {cs : List Bool} {op1 op2 op3 op4 : BinOp} {x1 y1 x2 y2 x3 y3 x4 y4 : Operand} {c1 c2 c3 c4 : Value} {r1 r2 r3 r4 : Bool} {ty2 ty3 ty4 : TypeId} (h : FAt P w t i a t' v) (hop1 : ∀ K : Value → World → Prop, BK P op1 ty x1 y1 v c1 w K = K (.bool r1) w)
    (hop2 : ∀ K : Value → World → Prop, BK P op2 ty2 x2 y2 v c2 w K = K (.bool r2) w) (hop3 : ∀ K : Value → World → Prop, BK P op3 ty3 x3 y3 v c3 w K = K (.bool r3) w) (h2 : FAt P w t2 i2 a t2' (.slice A n cc)) (hl : P.underlying tl = some (.slice e)) (hop4 : ∀ K : Value → World → Prop, BK P op4 ty4 x4 y4 (.int .i64 n) c4 w K = K (.bool r4) w) (hk : K (.bool (b && (r1 || r2 || r3 || r4))) w) :
    VG P (.bool b) true (Instr.fieldAt t (.pointer (some a)) i) w fun z1 w => VG P (.bool b) true (Instr.loadAt t' z1) w fun z2 w => BG P (.bool b) true op1 ty x1 y1 z2 c1 w fun z3 w => MG P (.bool b) true z3 w fun z4 w =>
      VG P z4 false (Instr.fieldAt t (.pointer (some a)) i) w fun z5 w => VG P z4 false (Instr.loadAt t' z5) w fun z6 w => BG P z4 false op2 ty2 x2 y2 z6 c2 w fun z7 w => PG P (.bool b) true z4 (.bool true) z7 w fun z8 w => MG P (.bool b) true z8 w fun z9 w =>
      VG P z9 false (Instr.fieldAt t (.pointer (some a)) i) w fun z10 w => VG P z9 false (Instr.loadAt t' z10) w fun z11 w => BG P z9 false op3 ty3 x3 y3 z11 c3 w fun z12 w => PG P (.bool b) true z9 (.bool true) z12 w fun z13 w => MG P (.bool b) true z13 w fun z14 w =>
      VG P z14 false (Instr.fieldAt t2 (.pointer (some a)) i2) w fun z15 w => VG P z14 false (Instr.loadAt t2' z15) w fun z16 w => IG P z14 false Builtin.len #[tl] tyl cs [z16] w fun z17 w => BG P z14 false op4 ty4 x4 y4 z17 c4 w fun z18 w => PG P (.bool b) true z14 (.bool true) z18 w fun z19 w => PK P (.bool b) z19 (.bool false) w K := by
  cases b
  · simp only [MG_b, VG_b, BG_b, PG_b, IG_b, MG_u, VG_u, BG_u, PG_u, IG_u, Bool.false_eq_true, if_false, PK_bool]; exact hk
  · simp only [VG_b, BG_b, MG_b, PG_b, if_true]
    rw [h.eq, hop1]
    cases r1
    · simp only [MG_b, VG_b, BG_b, PG_b, IG_b, if_true, Bool.false_eq_true, if_false]
      rw [h.eq, hop2]
      cases r2
      · simp only [MG_b, VG_b, BG_b, PG_b, IG_b, PK_bool, if_true, Bool.false_eq_true, if_false]
        rw [h.eq, hop3]
        cases r3
        · simp only [MG_b, VG_b, BG_b, PG_b, IG_b, PK_bool, if_true, Bool.false_eq_true, if_false]
          rw [h2.eq, len_sl hl, hop4]
          exact hk
        · simp only [MG_b, VG_b, BG_b, PG_b, IG_b, PK_bool, if_true, Bool.true_eq_false, Bool.false_eq_true, if_false]; exact hk
      · simp only [MG_b, VG_b, BG_b, PG_b, IG_b, PK_bool, if_true, Bool.true_eq_false, Bool.false_eq_true, if_false]; exact hk
    · simp only [MG_b, VG_b, BG_b, PG_b, IG_b, PK_bool, if_true, Bool.true_eq_false, Bool.false_eq_true, if_false]; exact hk
/-- r || test(field) -/
theorem fO {op : BinOp} {x y : Operand} {c : Value} {r : Bool} (h : FAt P w t i a t' v) (hop : ∀ K : Value → World → Prop, BK P op ty x y v c w K = K (.bool r) w) (hk : K (.bool (b || r)) w) :
    VG P (.bool b) false (Instr.fieldAt t (.pointer (some a)) i) w fun x1 w => VG P (.bool b) false (Instr.loadAt t' x1) w fun x2 w => BG P (.bool b) false op ty x y x2 c w fun x3 w => PK P (.bool b) (.bool true) x3 w K := by
  cases b
  · simp only [VG_b, BG_b, if_true, PK_bool, Bool.false_eq_true, if_false]; rw [h.eq, hop]; exact hk
  · simp only [VG_b, BG_b, Bool.true_eq_false, if_true, if_false, PK_bool]; exact hk
/-- b && !f(field) -/
theorem fN {f : Value} {r : Bool} (h : FAt P w t i a t' v) (hc : ∀ K : Value → World → Prop, (∀ w2, Mod none_ w w2 → K (.bool r) w2) → CK P f [v] w K) (hk : ∀ w2, Mod none_ w w2 → K (.bool (b && !r)) w2) :
    VG P (.bool b) true (Instr.fieldAt t (.pointer (some a)) i) w fun x1 w => VG P (.bool b) true (Instr.loadAt t' x1) w fun x2 w => CG P (.bool b) true f [x2] w fun x3 w => VG P (.bool b) true (Op.unary UnOp.not x3) w fun x4 w => PK P (.bool b) x4 (.bool false) w K := by
  cases b
  · simp only [MG_b, VG_b, BG_b, PG_b, CG_b, IG_b, MG_u, VG_u, BG_u, PG_u, CG_u, IG_u, not_ok, Bool.not_true, Bool.not_false, Bool.true_eq_false, Bool.false_eq_true, if_true, if_false, PK_bool]; exact hk w (Mod.refl _ _)
  · simp only [VG_b, CG_b, if_true, PK_bool]; rw [h.eq]; refine hc _ fun w2 hm => ?_; rw [not_ok]; exact hk w2 hm
/-- b || (!n && test(field)) -/
theorem fB1 {op : BinOp} {x y : Operand} {c : Value} {n r : Bool} (h : FAt P w t i a t' v) (hop : ∀ K : Value → World → Prop, BK P op ty x y v c w K = K (.bool r) w) (hk : K (.bool (b || (!n && r))) w) :
    MG P (.bool b) false (.bool n) w fun x1 w => VG P (.bool b) false (Op.unary UnOp.not x1) w fun x2 w => MG P (.bool b) false x2 w fun x3 w => VG P x3 true (Instr.fieldAt t (.pointer (some a)) i) w fun x4 w => VG P x3 true (Instr.loadAt t' x4) w fun x5 w =>
      BG P x3 true op ty x y x5 c w fun x6 w => PG P (.bool b) false x3 x6 (.bool false) w fun x7 w => PK P (.bool b) (.bool true) x7 w K := by
  cases b
  · cases n
    · simp only [MG_b, VG_b, BG_b, PG_b, CG_b, IG_b, MG_u, VG_u, BG_u, PG_u, CG_u, IG_u, not_ok, Bool.not_true, Bool.not_false, Bool.true_eq_false, Bool.false_eq_true, if_true, if_false, PK_bool]; rw [h.eq, hop]; exact hk
    · simp only [MG_b, VG_b, BG_b, PG_b, CG_b, IG_b, MG_u, VG_u, BG_u, PG_u, CG_u, IG_u, not_ok, Bool.not_true, Bool.not_false, Bool.true_eq_false, Bool.false_eq_true, if_true, if_false, PK_bool]; exact hk
  · simp only [MG_b, VG_b, BG_b, PG_b, CG_b, IG_b, MG_u, VG_u, BG_u, PG_u, CG_u, IG_u, not_ok, Bool.not_true, Bool.not_false, Bool.true_eq_false, Bool.false_eq_true, if_true, if_false, PK_bool]; exact hk
/-- b || (!n && test(len(field))) -/
theorem fB2 {e tl tyl : TypeId} {A : Option Addr} {m cc : Nat} {cs : List Bool} {op : BinOp} {x y : Operand} {c : Value} {n r : Bool} (h : FAt P w t i a t' (.slice A m cc)) (hl : P.underlying tl = some (.slice e)) (hop : ∀ K : Value → World → Prop, BK P op ty x y (.int .i64 m) c w K = K (.bool r) w) (hk : K (.bool (b || (!n && r))) w) :
    MG P (.bool b) false (.bool n) w fun x1 w => VG P (.bool b) false (Op.unary UnOp.not x1) w fun x2 w => MG P (.bool b) false x2 w fun x3 w => VG P x3 true (Instr.fieldAt t (.pointer (some a)) i) w fun x4 w => VG P x3 true (Instr.loadAt t' x4) w fun x5 w =>
      IG P x3 true Builtin.len #[tl] tyl cs [x5] w fun x5' w => BG P x3 true op ty x y x5' c w fun x6 w => PG P (.bool b) false x3 x6 (.bool false) w fun x7 w => PK P (.bool b) (.bool true) x7 w K := by
  cases b
  · cases n
    · simp only [MG_b, VG_b, BG_b, PG_b, CG_b, IG_b, MG_u, VG_u, BG_u, PG_u, CG_u, IG_u, not_ok, Bool.not_true, Bool.not_false, Bool.true_eq_false, Bool.false_eq_true, if_true, if_false, PK_bool]; rw [h.eq, len_sl hl, hop]; exact hk
    · simp only [MG_b, VG_b, BG_b, PG_b, CG_b, IG_b, MG_u, VG_u, BG_u, PG_u, CG_u, IG_u, not_ok, Bool.not_true, Bool.not_false, Bool.true_eq_false, Bool.false_eq_true, if_true, if_false, PK_bool]; exact hk
  · simp only [MG_b, VG_b, BG_b, PG_b, CG_b, IG_b, MG_u, VG_u, BG_u, PG_u, CG_u, IG_u, not_ok, Bool.not_true, Bool.not_false, Bool.true_eq_false, Bool.false_eq_true, if_true, if_false, PK_bool]; exact hk
/-- b || (test(field) && test'(len(field'))) -/
theorem fB3 {e tl tyl : TypeId} {A : Option Addr} {m cc : Nat} {cs : List Bool} {op op2 : BinOp} {x y x' y' : Operand} {c c2 : Value} {r r2 : Bool} (h : FAt P w t i a t' v) (hop : ∀ K : Value → World → Prop, BK P op ty x y v c w K = K (.bool r) w) (h2 : FAt P w t2 i2 a t2' (.slice A m cc)) (hl : P.underlying tl = some (.slice e)) (hop2 : ∀ K : Value → World → Prop, BK P op2 ty' x' y' (.int .i64 m) c2 w K = K (.bool r2) w) (hk : K (.bool (b || (r && r2))) w) :
    VG P (.bool b) false (Instr.fieldAt t (.pointer (some a)) i) w fun x1 w => VG P (.bool b) false (Instr.loadAt t' x1) w fun x2 w => BG P (.bool b) false op ty x y x2 c w fun x3 w => MG P (.bool b) false x3 w fun x4 w =>
      VG P x4 true (Instr.fieldAt t2 (.pointer (some a)) i2) w fun x5 w => VG P x4 true (Instr.loadAt t2' x5) w fun x6 w => IG P x4 true Builtin.len #[tl] tyl cs [x6] w fun x6' w => BG P x4 true op2 ty' x' y' x6' c2 w fun x7 w => PG P (.bool b) false x4 x7 (.bool false) w fun x8 w => PK P (.bool b) (.bool true) x8 w K := by
  cases b
  · simp only [VG_b, BG_b, if_true]
    rw [h.eq, hop]
    cases r
    · simp only [MG_b, VG_b, BG_b, PG_b, CG_b, IG_b, MG_u, VG_u, BG_u, PG_u, CG_u, IG_u, not_ok, Bool.not_true, Bool.not_false, Bool.true_eq_false, Bool.false_eq_true, if_true, if_false, PK_bool]; exact hk
    · simp only [MG_b, VG_b, BG_b, PG_b, CG_b, IG_b, MG_u, VG_u, BG_u, PG_u, CG_u, IG_u, not_ok, Bool.not_true, Bool.not_false, Bool.true_eq_false, Bool.false_eq_true, if_true, if_false, PK_bool]; rw [h2.eq, len_sl hl, hop2]; exact hk
  · simp only [MG_b, VG_b, BG_b, PG_b, CG_b, IG_b, MG_u, VG_u, BG_u, PG_u, CG_u, IG_u, not_ok, Bool.not_true, Bool.not_false, Bool.true_eq_false, Bool.false_eq_true, if_true, if_false, PK_bool]; exact hk
/-- b || (test(field) && test2(field2) && (!f(field3) || test4(field2))) -/
theorem fB4 {t3 t3' : TypeId} {i3 : Nat} {v3 : Value} {f : Value} {ty2 ty4 : TypeId} {op op2 op4 : BinOp} {x y x' y' x'' y'' : Operand} {c c2 c4 : Value} {r r2 r3 r4 : Bool} (h : FAt P w t i a t' v) (hop : ∀ K : Value → World → Prop, BK P op ty x y v c w K = K (.bool r) w) (h2 : FAt P w t2 i2 a t2' v2) (hop2 : ∀ K : Value → World → Prop, BK P op2 ty2 x' y' v2 c2 w K = K (.bool r2) w)
    (h3 : FAt P w t3 i3 a t3' v3) (hc : ∀ K : Value → World → Prop, K (.bool r3) w → CK P f [v3] w K) (hop4 : ∀ K : Value → World → Prop, BK P op4 ty4 x'' y'' v2 c4 w K = K (.bool r4) w) (hk : K (.bool (b || (r && r2 && (!r3 || r4)))) w) :
    VG P (.bool b) false (Instr.fieldAt t (.pointer (some a)) i) w fun x1 w => VG P (.bool b) false (Instr.loadAt t' x1) w fun x2 w => BG P (.bool b) false op ty x y x2 c w fun x3 w => MG P (.bool b) false x3 w fun x4 w =>
      VG P x4 true (Instr.fieldAt t2 (.pointer (some a)) i2) w fun x5 w => VG P x4 true (Instr.loadAt t2' x5) w fun x6 w => BG P x4 true op2 ty2 x' y' x6 c2 w fun x7 w => PG P (.bool b) false x4 x7 (.bool false) w fun x8 w => MG P (.bool b) false x8 w fun x9 w =>
      VG P x9 true (Instr.fieldAt t3 (.pointer (some a)) i3) w fun x10 w => VG P x9 true (Instr.loadAt t3' x10) w fun x11 w => CG P x9 true f [x11] w fun x12 w => VG P x9 true (Op.unary UnOp.not x12) w fun x13 w => MG P x9 true x13 w fun x14 w =>
      VG P x14 false (Instr.fieldAt t2 (.pointer (some a)) i2) w fun x15 w => VG P x14 false (Instr.loadAt t2' x15) w fun x16 w => BG P x14 false op4 ty4 x'' y'' x16 c4 w fun x17 w => PG P x9 true x14 (.bool true) x17 w fun x18 w => PG P (.bool b) false x9 x18 (.bool false) w fun x19 w => PK P (.bool b) (.bool true) x19 w K := by
  cases b
  · simp only [VG_b, BG_b, if_true]
    rw [h.eq, hop]
    cases r
    · simp only [MG_b, VG_b, BG_b, PG_b, CG_b, IG_b, MG_u, VG_u, BG_u, PG_u, CG_u, IG_u, not_ok, Bool.not_true, Bool.not_false, Bool.true_eq_false, Bool.false_eq_true, if_true, if_false, PK_bool]; exact hk
    · simp only [MG_b, VG_b, BG_b, PG_b, CG_b, IG_b, MG_u, VG_u, BG_u, PG_u, CG_u, IG_u, not_ok, Bool.not_true, Bool.not_false, Bool.true_eq_false, Bool.false_eq_true, if_true, if_false, PK_bool]
      rw [h2.eq, hop2]
      cases r2
      · simp only [MG_b, VG_b, BG_b, PG_b, CG_b, IG_b, MG_u, VG_u, BG_u, PG_u, CG_u, IG_u, not_ok, Bool.not_true, Bool.not_false, Bool.true_eq_false, Bool.false_eq_true, if_true, if_false, PK_bool]; exact hk
      · simp only [MG_b, VG_b, BG_b, PG_b, CG_b, IG_b, MG_u, VG_u, BG_u, PG_u, CG_u, IG_u, not_ok, Bool.not_true, Bool.not_false, Bool.true_eq_false, Bool.false_eq_true, if_true, if_false, PK_bool]
        rw [h3.eq]
        refine hc _ ?_
        cases r3
        · simp only [MG_b, VG_b, BG_b, PG_b, CG_b, IG_b, MG_u, VG_u, BG_u, PG_u, CG_u, IG_u, not_ok, Bool.not_true, Bool.not_false, Bool.true_eq_false, Bool.false_eq_true, if_true, if_false, PK_bool]; exact hk
        · simp only [MG_b, VG_b, BG_b, PG_b, CG_b, IG_b, MG_u, VG_u, BG_u, PG_u, CG_u, IG_u, not_ok, Bool.not_true, Bool.not_false, Bool.true_eq_false, Bool.false_eq_true, if_true, if_false, PK_bool]; rw [h2.eq, hop4]; exact hk
  · simp only [MG_b, VG_b, BG_b, PG_b, CG_b, IG_b, MG_u, VG_u, BG_u, PG_u, CG_u, IG_u, not_ok, Bool.not_true, Bool.not_false, Bool.true_eq_false, Bool.false_eq_true, if_true, if_false, PK_bool]; exact hk
/-- b || (test(field) && test2(field2) && test3(field2)) -/
theorem fB5 {ty2 ty3 : TypeId} {op op2 op3 : BinOp} {x y x' y' x'' y'' : Operand} {c c2 c3 : Value} {r r2 r3 : Bool} (h : FAt P w t i a t' v) (hop : ∀ K : Value → World → Prop, BK P op ty x y v c w K = K (.bool r) w) (h2 : FAt P w t2 i2 a t2' v2) (hop2 : ∀ K : Value → World → Prop, BK P op2 ty2 x' y' v2 c2 w K = K (.bool r2) w)
    (hop3 : ∀ K : Value → World → Prop, BK P op3 ty3 x'' y'' v2 c3 w K = K (.bool r3) w) (hk : K (.bool (b || (r && r2 && r3))) w) :
    VG P (.bool b) false (Instr.fieldAt t (.pointer (some a)) i) w fun x1 w => VG P (.bool b) false (Instr.loadAt t' x1) w fun x2 w => BG P (.bool b) false op ty x y x2 c w fun x3 w => MG P (.bool b) false x3 w fun x4 w =>
      VG P x4 true (Instr.fieldAt t2 (.pointer (some a)) i2) w fun x5 w => VG P x4 true (Instr.loadAt t2' x5) w fun x6 w => BG P x4 true op2 ty2 x' y' x6 c2 w fun x7 w => PG P (.bool b) false x4 x7 (.bool false) w fun x8 w => MG P (.bool b) false x8 w fun x9 w =>
      VG P x9 true (Instr.fieldAt t2 (.pointer (some a)) i2) w fun x10 w => VG P x9 true (Instr.loadAt t2' x10) w fun x11 w => BG P x9 true op3 ty3 x'' y'' x11 c3 w fun x12 w => PG P (.bool b) false x9 x12 (.bool false) w fun x13 w => PK P (.bool b) (.bool true) x13 w K := by
  cases b
  · simp only [VG_b, BG_b, if_true]
    rw [h.eq, hop]
    cases r
    · simp only [MG_b, VG_b, BG_b, PG_b, CG_b, IG_b, MG_u, VG_u, BG_u, PG_u, CG_u, IG_u, not_ok, Bool.not_true, Bool.not_false, Bool.true_eq_false, Bool.false_eq_true, if_true, if_false, PK_bool]; exact hk
    · simp only [MG_b, VG_b, BG_b, PG_b, CG_b, IG_b, MG_u, VG_u, BG_u, PG_u, CG_u, IG_u, not_ok, Bool.not_true, Bool.not_false, Bool.true_eq_false, Bool.false_eq_true, if_true, if_false, PK_bool]
      rw [h2.eq, hop2]
      cases r2
      · simp only [MG_b, VG_b, BG_b, PG_b, CG_b, IG_b, MG_u, VG_u, BG_u, PG_u, CG_u, IG_u, not_ok, Bool.not_true, Bool.not_false, Bool.true_eq_false, Bool.false_eq_true, if_true, if_false, PK_bool]; exact hk
      · simp only [MG_b, VG_b, BG_b, PG_b, CG_b, IG_b, MG_u, VG_u, BG_u, PG_u, CG_u, IG_u, not_ok, Bool.not_true, Bool.not_false, Bool.true_eq_false, Bool.false_eq_true, if_true, if_false, PK_bool]; rw [h2.eq, hop3]; exact hk
  · simp only [MG_b, VG_b, BG_b, PG_b, CG_b, IG_b, MG_u, VG_u, BG_u, PG_u, CG_u, IG_u, not_ok, Bool.not_true, Bool.not_false, Bool.true_eq_false, Bool.false_eq_true, if_true, if_false, PK_bool]; exact hk
/-! The same where what was met on the way is kept. -/
theorem FAt.vk' {K : Value → Value → World → Prop} (h : FAt P w t i a t' v) (hk : ∀ x, K x v w) : VK P (Instr.fieldAt t (.pointer (some a)) i) w fun x w => VK P (Instr.loadAt t' x) w (K x) := by
  obtain ⟨off, h1, h2⟩ := h.go
  rw [fo h1, h2]
  exact hk _
theorem fO' {op : BinOp} {x y : Operand} {c : Value} {r : Bool} {K : Value → Value → Value → Value → World → Prop} (h : FAt P w t i a t' v) (hop : ∀ K : Value → World → Prop, BK P op ty x y v c w K = K (.bool r) w) (hk : ∀ x1 x2 x3, K x1 x2 x3 (.bool (b || r)) w) :
    VG P (.bool b) false (Instr.fieldAt t (.pointer (some a)) i) w fun x1 w => VG P (.bool b) false (Instr.loadAt t' x1) w fun x2 w => BG P (.bool b) false op ty x y x2 c w fun x3 w => PK P (.bool b) (.bool true) x3 w (K x1 x2 x3) := by
  cases b
  · simp only [VG_b, BG_b, if_true, PK_bool, Bool.false_eq_true, if_false]
    refine h.vk' fun x => ?_
    rw [hop]
    exact hk _ _ _
  · simp only [VG_b, BG_b, Bool.true_eq_false, if_true, if_false, PK_bool]; exact hk _ _ _
end
end Go.X
