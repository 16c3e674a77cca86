/- The framework X, part 2: rules for the printed formulas' words. -/
import Derived.Test.YtbnbcimjapiicaaDoorXBase
set_option linter.unusedVariables false
set_option linter.unusedSimpArgs false
namespace Go.X
open Go Go.RowKit

section
variable {P : Program} {w w' : World} {K : Value → World → Prop}

theorem VK_of {s : Sem Value} {v : Value} (h : s.run P w = .ok v w') (hk : K v w') : VK P s w K := by
  unfold VK OpK
  simp only [Sem.run_bind, h, Result.andThen_ok]
  exact hk
theorem VK_eq_of {s : Sem Value} {v : Value} (h : s.run P w = .ok v w') : VK P s w K = K v w' := by
  unfold VK OpK
  simp only [Sem.run_bind, h, Result.andThen_ok]
  rfl
theorem UK_of {s : Sem Unit} (h : s.run P w = .ok () w') (hk : K undef w') : UK P s w K := by
  unfold UK OpK
  simp only [Sem.run_bind, h, Result.andThen_ok]
  exact hk
theorem OpK_mono {s : Sem Next} {K' : Value → World → Prop} (h : OpK P s w K) (hk : ∀ v w, K v w → K' v w) : OpK P s w K' := by
  unfold OpK at *
  split at h <;> first | exact h.elim | exact hk _ _ h | skip
  · exact h.mono fun e w'' ⟨v, he, hv⟩ => ⟨v, he, hk _ _ hv⟩
  · exact h.mono fun e w'' ⟨v, he, hv⟩ => ⟨v, he, hk _ _ hv⟩

/-- A call of a Go function, by its contract. -/
theorem CK_fn {f : FuncId} {fn : Func} {first cap : Array Value} {args : List Value} {R : Value → World → Prop} (hf : P.funcs[f]? = some fn) (hb : fn.body.isNone = false) (hn : (fn.name == "runtime.NumGoroutine") = false)
    (h : Calls P f (first ++ args.toArray ++ cap) w fun e w' => ∃ v, e = .returned v ∧ R v w') (hk : ∀ v w', R v w' → K v w') : CK P (.func (.func f) first cap) args w K := by
  unfold CK OpK
  have hr : (do let d ← Deferred.ofValue (.func (.func f) first cap) args.toArray; invoke d.target d.args : Sem Next).run P w = .ok (.enter f (first ++ args.toArray ++ cap)) w := by
    have hb' : fn.body ≠ none := by intro q; rw [q] at hb; cases hb
    have hn' : fn.name ≠ "runtime.NumGoroutine" := by intro q; rw [q] at hn; simp at hn
    simp [Deferred.ofValue, invoke, callFunc, program, Sem.run, hf, hb', hn', Sem.run_bind, pure, bind, Sem.bind]
  rw [hr]
  exact h.mono fun e w' ⟨v, he, hv⟩ => ⟨v, he, hk _ _ hv⟩
theorem CK_st {f : FuncId} {fn : Func} {args : List Value} {R : Value → World → Prop} (hf : P.funcs[f]? = some fn) (hb : fn.body.isNone = false) (hn : (fn.name == "runtime.NumGoroutine") = false)
    (h : Calls P f args.toArray w fun e w' => ∃ v, e = .returned v ∧ R v w') (hk : ∀ v w', R v w' → K v w') : CK P (.func (.func f) #[] #[]) args w K :=
  CK_fn hf hb hn (by simpa using h) hk

/-! Pure operations -/
theorem PK_bool (t : Bool) (a b : Value) : PK P (.bool t) a b w K = K (if t then a else b) w := by
  unfold PK OpK; cases t <;> rfl
theorem NK_ptr (a : Addr) : NK P (.pointer (some a)) w K = K (.pointer (some a)) w := by
  unfold NK OpK; rfl
theorem extract_ok {vs : Array Value} {i : Nat} {v : Value} (h : vs[i]? = some v) : VK P (Instr.extract (.tuple vs) i) w K = K v w := by
  unfold VK OpK; simp [Instr.extract, h]
theorem not_ok (t : Bool) : VK P (Op.unary .not (.bool t)) w K = K (.bool (!t)) w := by
  unfold VK OpK; rfl
section
variable (t : TypeId) (x y : Operand) (k : IntKind) (a b : Int)
theorem BK_lss : BK P .lss t x y (.int k a) (.int k b) w K = K (.bool (decide (a < b))) w := by unfold BK OpK; go_simp
theorem BK_leq : BK P .leq t x y (.int k a) (.int k b) w K = K (.bool (decide (a ≤ b))) w := by unfold BK OpK; go_simp
theorem BK_gtr : BK P .gtr t x y (.int k a) (.int k b) w K = K (.bool (decide (b < a))) w := by unfold BK OpK; go_simp
theorem BK_geq : BK P .geq t x y (.int k a) (.int k b) w K = K (.bool (decide (b ≤ a))) w := by unfold BK OpK; go_simp
theorem BK_eql : BK P .eql t x y (.int k a) (.int k b) w K = K (.bool (a == b)) w := by unfold BK OpK; go_simp
theorem BK_neq : BK P .neq t x y (.int k a) (.int k b) w K = K (.bool (a != b)) w := by unfold BK OpK; go_simp
theorem BK_add : BK P .add t x y (.int k a) (.int k b) w K = K (.int k (k.wrap (a + b))) w := by unfold BK OpK; go_simp
theorem BK_sub : BK P .sub t x y (.int k a) (.int k b) w K = K (.int k (k.wrap (a - b))) w := by unfold BK OpK; go_simp
theorem BK_mul : BK P .mul t x y (.int k a) (.int k b) w K = K (.int k (k.wrap (a * b))) w := by unfold BK OpK; go_simp
end
theorem BK_of {op : BinOp} {t : TypeId} {x y : Operand} {a b v : Value} (hg : (eqGuard op t x y a b).run P w = .ok () w) (h : (binOp op t a b).run P w = .ok v w) : BK P op t x y a b w K = K v w := by
  unfold BK OpK
  simp only [Sem.run_bind, hg, h, Result.andThen_ok]
  rfl
theorem BK_eqlB {t : TypeId} (h : P.underlying t = some .bool) (x y : Operand) (a b : Bool) : BK P .eql t x y (.bool a) (.bool b) w K = K (.bool (a == b)) w := BK_of rfl (run_eql_bool w t a b h)
theorem BK_neqB {t : TypeId} (h : P.underlying t = some .bool) (x y : Operand) (a b : Bool) : BK P .neq t x y (.bool a) (.bool b) w K = K (.bool (!(a == b))) w := BK_of rfl (run_neq_bool w t a b h)
theorem BK_eqlS (t : TypeId) (x y : Operand) (a b : ByteArray) : BK P .eql t x y (.string a) (.string b) w K = K (.bool (a.toList == b.toList)) w := BK_of rfl (by rw [binOp_string_eql]; rfl)
theorem BK_neqS (t : TypeId) (x y : Operand) (a b : ByteArray) : BK P .neq t x y (.string a) (.string b) w K = K (.bool (!(a.toList == b.toList))) w := BK_of rfl (by rw [binOp_string_neq]; rfl)
theorem BK_eqlP {t e : TypeId} (h : P.underlying t = some (.pointer e)) (x y : Operand) (p : Option Addr) : BK P .eql t x y (.pointer p) (.pointer none) w K = K (.bool p.isNone) w :=
  BK_of rfl (run_eql_pointer_nil w t p (by simp [Program.pointee, h]))
theorem BK_neqP {t e : TypeId} (h : P.underlying t = some (.pointer e)) (x y : Operand) (p : Option Addr) : BK P .neq t x y (.pointer p) (.pointer none) w K = K (.bool (!p.isNone)) w :=
  BK_of rfl (run_neq_pointer_nil w t p (by simp [Program.pointee, h]))
/-! guards -/
theorem GOp_bool (t b : Bool) (s : Sem Next) : GOp P (.bool t) b s w K = if t = b then OpK P s w K else K undef w := by
  unfold GOp GuardK wantB
  by_cases h : t = b <;> simp [h]
theorem GOp_u (b : Bool) (s : Sem Next) : GOp P undef b s w K = K undef w := by
  unfold GOp GuardK wantB undef
  simp
theorem VG_u (b : Bool) (s : Sem Value) : VG P undef b s w K = K undef w := GOp_u b _
theorem UG_u (b : Bool) (s : Sem Unit) : UG P undef b s w K = K undef w := GOp_u b _
theorem MG_u (b : Bool) (v : Value) : MG P undef b v w K = K undef w := by unfold MG; rw [GOp_u]
theorem NG_u (b : Bool) (v : Value) : NG P undef b v w K = K undef w := GOp_u b _
theorem PG_u (gb : Bool) (c a b : Value) : PG P undef gb c a b w K = K undef w := GOp_u gb _
theorem BG_u (gb : Bool) (op : BinOp) (ty : TypeId) (x y : Operand) (a b : Value) : BG P undef gb op ty x y a b w K = K undef w := GOp_u gb _
theorem CG_u (gb : Bool) (f : Value) (args : List Value) : CG P undef gb f args w K = K undef w := GOp_u gb _
theorem IG_u (gb : Bool) (b : Builtin) (ts : Array TypeId) (ty : TypeId) (cs : List Bool) (args : List Value) : IG P undef gb b ts ty cs args w K = K undef w := GOp_u gb _
theorem VG_b (t b : Bool) (s : Sem Value) : VG P (.bool t) b s w K = if t = b then VK P s w K else K undef w := GOp_bool t b _
theorem UG_b (t b : Bool) (s : Sem Unit) : UG P (.bool t) b s w K = if t = b then UK P s w K else K undef w := GOp_bool t b _
theorem MG_b (t b : Bool) (v : Value) : MG P (.bool t) b v w K = K (if t = b then v else undef) w := by
  unfold MG; rw [GOp_bool]; by_cases h : t = b <;> simp [h]; rfl
theorem NG_b (t b : Bool) (v : Value) : NG P (.bool t) b v w K = if t = b then NK P v w K else K undef w := GOp_bool t b _
theorem PG_b (t gb : Bool) (c a b : Value) : PG P (.bool t) gb c a b w K = if t = gb then PK P c a b w K else K undef w := GOp_bool t gb _
theorem BG_b (t gb : Bool) (op : BinOp) (ty : TypeId) (x y : Operand) (a b : Value) : BG P (.bool t) gb op ty x y a b w K = if t = gb then BK P op ty x y a b w K else K undef w := GOp_bool t gb _
theorem CG_b (t gb : Bool) (f : Value) (args : List Value) : CG P (.bool t) gb f args w K = if t = gb then CK P f args w K else K undef w := GOp_bool t gb _
theorem IG_b (t gb : Bool) (b : Builtin) (ts : Array TypeId) (ty : TypeId) (cs : List Bool) (args : List Value) : IG P (.bool t) gb b ts ty cs args w K = if t = gb then IK P b ts ty cs args w K else K undef w := GOp_bool t gb _
theorem IK_of {b : Builtin} {ts : Array TypeId} {ty : TypeId} {cs : List Bool} {args : List Value} {v : Value} {s : Sem Value} (he : builtin b ts ty cs.toArray args.toArray = (do pure (Next.value (← s)))) (h : s.run P w = .ok v w') (hk : K v w') : IK P b ts ty cs args w K := by
  unfold IK OpK
  rw [he]
  simp only [Sem.run_bind, h, Result.andThen_ok]
  exact hk
theorem elem_of {t e : TypeId} (h : P.underlying t = some (.slice e)) : P.underlying t = some (.slice (P.elem t)) := by simp [Program.elem, h]
theorem len_sl {t e ty : TypeId} (h : P.underlying t = some (.slice e)) (cs : List Bool) (A : Option Addr) (n c : Nat) : IK P .len #[t] ty cs [.slice A n c] w K = K (.int .i64 n) w := by
  unfold IK OpK
  simp [builtin, run_len_slice w t ty A n c (elem_of h), goInt]
theorem len_str {t ty : TypeId} (h : P.underlying t = some .string) (cs : List Bool) (s : ByteArray) : IK P .len #[t] ty cs [.string s] w K = K (.int .i64 s.size) w := by
  unfold IK OpK
  simp [builtin, run_len_string w t ty s h, goInt]
theorem mkFunc (f : Fn) (a b : List Value) : VK P (Instr.makeFunc f a.toArray b.toArray) w K = K (.func f a.toArray b.toArray) w := rfl
theorem max_i (ts : Array TypeId) (ty : TypeId) (cs : List Bool) (k k' : IntKind) (x y : Int) : IK P .max ts ty cs [.int k x, .int k' y] w K = K (.int k (if y > x then y else x)) w := by
  unfold IK OpK
  simp [builtin, run_max_int2]
theorem min_i (ts : Array TypeId) (ty : TypeId) (cs : List Bool) (k k' : IntKind) (x y : Int) : IK P .min ts ty cs [.int k x, .int k' y] w K = K (.int k (if y < x then y else x)) w := by
  unfold IK OpK
  simp [builtin, run_min_int2]
theorem CondK_bool (t : Bool) (A B : Prop) : CondK (.bool t) A B = if t then A else B := by
  unfold CondK; cases t <;> simp
end
theorem up_at (ρ : Sl) (d : Nat) (v : Value) (i : Nat) : up ρ d v i = if i = d then v else ρ i := by
  unfold up
  by_cases h : i = d
  · subst h; simp [Nat.beq_refl]
  · have : Nat.beq i d = false := by
      cases hq : Nat.beq i d with
      | false => rfl
      | true => exact absurd (Nat.eq_of_beq_eq_true hq) h
    simp [this, h]

/-! ### Memory -/
def setB (w : World) (b : Nat) (o : Obj) : World := { w with heap := w.heap.setIfInBounds b o }
theorem setB_size (w : World) (b : Nat) (o : Obj) : (setB w b o).heap.size = w.heap.size := by simp [setB]
theorem setB_new (w : World) (b : Nat) (o : Obj) (h : b < w.heap.size) : (setB w b o).heap[b]? = some o := by simp [setB, h]
theorem setB_old (w : World) (b i : Nat) (o : Obj) (h : i ≠ b) : (setB w b o).heap[i]? = w.heap[i]? := by
  simp only [setB]; rw [Array.getElem?_setIfInBounds_ne (Ne.symm h)]
theorem alloc_size (w : World) (o : Obj) : (w.alloc o).heap.size = w.heap.size + 1 := by simp
theorem alloc_new (w : World) (o : Obj) : (w.alloc o).heap[w.heap.size]? = some o := heap_alloc_new w o
theorem alloc_old (w : World) (o : Obj) (i : Nat) (h : i < w.heap.size) : (w.alloc o).heap[i]? = w.heap[i]? := by
  show (w.heap.push o)[i]? = _
  rw [Array.getElem?_push, if_neg (Nat.ne_of_lt h)]
theorem cell_blk {w : World} {b j : Nat} {cs : Array Value} {t : TypeId} {fr : Nat × Nat} (h : w.heap[b]? = some (.cells cs t fr)) : w.cell? ⟨b, j, none⟩ = cs[j]? := by simp [World.cell?, h]
theorem blk_lt {w : World} {b : Nat} {o : Obj} (h : w.heap[b]? = some o) : b < w.heap.size := (Array.getElem?_eq_some_iff.1 h).1
theorem add_pl (b o j : Nat) : (⟨b, o, none⟩ : Addr).add j = ⟨b, o + j, none⟩ := by unfold Addr.add; split <;> simp_all

/-- What a piece of code does to memory: blocks of w that are not in S are as they were; new ones may have come. -/
structure Mod (S : Nat → Prop) (w w' : World) : Prop where
  os : w'.os = w.os
  tape : w'.tape = w.tape
  output : w'.output = w.output
  size : w.heap.size ≤ w'.heap.size
  block : ∀ k, k < w.heap.size → ¬ S k → w'.heap[k]? = w.heap[k]?
def none_ : Nat → Prop := fun _ => False
theorem Mod.refl (S : Nat → Prop) (w : World) : Mod S w w := ⟨rfl, rfl, rfl, Nat.le_refl _, fun _ _ _ => rfl⟩
theorem Mod.trans {S : Nat → Prop} {a b c : World} (h : Mod S a b) (k : Mod S b c) : Mod S a c :=
  ⟨k.os.trans h.os, k.tape.trans h.tape, k.output.trans h.output, Nat.le_trans h.size k.size, fun i hi hs => (k.block i (Nat.lt_of_lt_of_le hi h.size) hs).trans (h.block i hi hs)⟩
theorem Mod.mono {S S' : Nat → Prop} {a b : World} (h : Mod S a b) (hs : ∀ k, k < a.heap.size → S k → S' k) : Mod S' a b :=
  ⟨h.os, h.tape, h.output, h.size, fun i hi hn => h.block i hi (fun q => hn (hs i hi q))⟩
/-- A later step may touch blocks that were not there ahead of the first. -/
theorem Mod.then {S T : Nat → Prop} {a b c : World} (h : Mod S a b) (k : Mod T b c) (hT : ∀ i, i < a.heap.size → T i → S i) : Mod S a c :=
  ⟨k.os.trans h.os, k.tape.trans h.tape, k.output.trans h.output, Nat.le_trans h.size k.size, fun i hi hs => (k.block i (Nat.lt_of_lt_of_le hi h.size) (fun q => hs (hT i hi q))).trans (h.block i hi hs)⟩
theorem Mod.alloc {S : Nat → Prop} {a b : World} (h : Mod S a b) (o : Obj) : Mod S a (b.alloc o) :=
  h.trans ⟨rfl, rfl, rfl, by simp, fun k hk _ => alloc_old b o k hk⟩
theorem Mod.set {S : Nat → Prop} {a b : World} (h : Mod S a b) {i : Nat} (o : Obj) (hi : i < a.heap.size → S i) : Mod S a (setB b i o) :=
  h.then (T := fun k => k = i) ⟨rfl, rfl, rfl, Nat.le_of_eq (setB_size b i o).symm, fun k _ hk => setB_old b i k o hk⟩ (fun k hk e => e ▸ hi (e ▸ hk))
theorem Mod.drawn {S : Nat → Prop} {a b : World} (h : Mod S a b) (n : Nat) : Mod S a { b with drawn := n } := ⟨h.os, h.tape, h.output, h.size, h.block⟩
theorem Mod.below {S : Nat → Prop} {a b : World} (h : Mod S a b) {B : Nat} (hB : B ≤ a.heap.size) (hS : ∀ k, k < B → ¬ S k) : Below B a b :=
  ⟨h.os, h.tape, h.output, h.size, fun k hk => h.block k (Nat.lt_of_lt_of_le hk hB) (hS k hk)⟩
theorem Mod.ofBelow {a b : World} (h : Below a.heap.size a b) : Mod none_ a b := ⟨h.os, h.tape, h.output, h.size, fun k hk _ => h.block k hk⟩
theorem Mod.ofGrown {a b : World} {row : Option Nat} (h : a.grownBy b row) : Mod (fun k => some k = row) a b := ⟨h.os, h.tape, h.output, h.size, fun k hk hn => h.block k hk hn⟩
theorem Mod.toBelow {a b : World} (h : Mod none_ a b) : Below a.heap.size a b := ⟨h.os, h.tape, h.output, h.size, fun k hk => h.block k hk id⟩
theorem Mod.blk {S : Nat → Prop} {a b : World} (h : Mod S a b) {i : Nat} {o : Obj} (hi : a.heap[i]? = some o) (hn : ¬ S i) : b.heap[i]? = some o := (h.block i (blk_lt hi) hn).trans hi

section
variable {P : Program} {w w' : World} {K : Value → World → Prop}
theorem info_of {t : TypeId} {n : Nat} (h : P.cellsOf t = n + 1) : ∃ z, P.info? t = some z ∧ z.size = n + 1 := by
  unfold Program.cellsOf at h
  cases hz : P.info? t with
  | none => rw [hz] at h; simp at h
  | some z => rw [hz] at h; exact ⟨z, rfl, by simpa using h⟩
theorem alloc_ok {t : TypeId} {z : Value} (hz0 : (P.info? t).bind (·.zero) = some z) (v : Value) : VK P (Instr.alloc t true v) w K = K (.pointer (some ⟨w.heap.size, 0, none⟩)) (w.alloc (.cells z.cells t)) := by
  obtain ⟨i, hi, hz⟩ := Option.bind_eq_some_iff.1 hz0
  have h : (Instr.alloc t true v).run P w = .ok (.pointer (some ⟨w.heap.size, 0, none⟩)) (w.alloc (.cells z.cells t)) := by
    simp only [Instr.alloc, zeroValue, typeInfo, program, Sem.run_bind, Sem.run, hi, hz, newVar, newRow, newObj, Result.andThen_ok, Sem.run_pure]
    rfl
  unfold VK OpK
  simp only [Sem.run_bind, h, Result.andThen_ok]
  rfl
theorem box_ok (t : TypeId) (v : Value) : VK P (Instr.box t v) w K = K (.pointer (some ⟨w.heap.size, 0, none⟩)) (w.alloc (.cells v.cells t)) := rfl
theorem run_ld1 {t : TypeId} {d : TypeDesc} {a : Addr} {v : Value} (hu : P.underlying t = some d) (hd : (match d with | .struct _ | .array _ _ => true | _ => false) = false) (hc : w.cell? a = some v) : (Instr.loadAt t (.pointer (some a))).run P w = .ok v w := by
  have hagg : (isAgg t).run P w = .ok false w := by
    unfold isAgg
    rw [Sem.run_bind, run_underlying hu w]
    cases d <;> simp_all
  simp [Instr.loadAt, Instr.sureAddr, loadVar, Sem.run_bind, hagg, load, Sem.run, hc]
theorem ld1 {t : TypeId} {d : TypeDesc} {a : Addr} {v : Value} (hu : P.underlying t = some d) (hd : (match d with | .struct _ | .array _ _ => true | _ => false) = false) (hc : w.cell? a = some v) (hk : K v w) : VK P (Instr.loadAt t (.pointer (some a))) w K :=
  VK_of (run_ld1 hu hd hc) hk
theorem run_ldA {t : TypeId} {d : TypeDesc} {a : Addr} {cs : List Value} (hu : P.underlying t = some d) (hd : (match d with | .struct _ | .array _ _ => true | _ => false) = true) (hi : (P.info? t).map (·.size) = some cs.length)
    (hc : ∀ j v, cs[j]? = some v → w.cell? (a.add j) = some v) : (Instr.loadAt t (.pointer (some a))).run P w = .ok (.agg cs.toArray) w := by
  have hl := run_loadCells_list (P := P) w a cs hc
  cases hq : P.info? t with
  | none => simp [hq] at hi
  | some i =>
    have hs : i.size = cs.length := by simpa [hq] using hi
    have hagg : (isAgg t).run P w = .ok true w := by
      unfold isAgg
      rw [Sem.run_bind, run_underlying hu w]
      cases d <;> simp_all
    simp [Instr.loadAt, Instr.sureAddr, loadVar, Sem.run_bind, hagg, sizeOf, typeInfo, hq, hs, hl]
theorem ldA {t : TypeId} {d : TypeDesc} {a : Addr} {cs : List Value} (hu : P.underlying t = some d) (hd : (match d with | .struct _ | .array _ _ => true | _ => false) = true) (hi : (P.info? t).map (·.size) = some cs.length)
    (hc : ∀ j v, cs[j]? = some v → w.cell? (a.add j) = some v) (hk : K (.agg cs.toArray) w) : VK P (Instr.loadAt t (.pointer (some a))) w K := VK_of (run_ldA hu hd hi hc) hk
/-- A whole block that is a struct. -/
theorem run_ldB {t ty : TypeId} {d : TypeDesc} {b : Nat} {cs : Array Value} {fr : Nat × Nat} (hu : P.underlying t = some d) (hd : (match d with | .struct _ | .array _ _ => true | _ => false) = true) (hi : (P.info? t).map (·.size) = some cs.size)
    (hc : w.heap[b]? = some (.cells cs ty fr)) : (Instr.loadAt t (.pointer (some ⟨b, 0, none⟩))).run P w = .ok (.agg cs) w := by
  have := run_ldA (P := P) (w := w) (a := ⟨b, 0, none⟩) (cs := cs.toList) hu hd (by simpa using hi) (fun j v hv => by
    rw [add_pl, cell_blk hc]
    simpa using hv)
  simpa using this
theorem ldB {t ty : TypeId} {d : TypeDesc} {b : Nat} {cs : Array Value} {fr : Nat × Nat} (hu : P.underlying t = some d) (hd : (match d with | .struct _ | .array _ _ => true | _ => false) = true) (hi : (P.info? t).map (·.size) = some cs.size)
    (hc : w.heap[b]? = some (.cells cs ty fr)) (hk : K (.agg cs) w) : VK P (Instr.loadAt t (.pointer (some ⟨b, 0, none⟩))) w K := VK_of (run_ldB hu hd hi hc) hk
theorem fld {s : TypeId} {fs : Array Field} {i n : Nat} {f : Field} (hu : P.underlying s = some (.struct fs)) (hf : fs[i]? = some f) (hc : P.cellsOf f.type = n + 1) (a : Addr) :
    VK P (Instr.fieldAt s (.pointer (some a)) i) w K = K (.pointer (some (a.add f.offset))) w := by
  obtain ⟨z, hz, hzs⟩ := info_of hc
  have h0 : z.size ≠ 0 := by omega
  have h : (Instr.fieldAt s (.pointer (some a)) i).run P w = .ok (.pointer (some (a.add f.offset))) w := by
    simp [Instr.fieldAt, run_underlying hu, Sem.run_bind, hf, Instr.sureAddr, fieldPlace, sizeOf, typeInfo, hz, h0]
  unfold VK OpK
  simp only [Sem.run_bind, h, Result.andThen_ok]
  rfl
def fieldOff (P : Program) (s : TypeId) (i : Nat) : Option Nat :=
  match P.underlying s with
  | some (.struct fs) =>
    match fs[i]? with
    | some f => match P.cellsOf f.type with | 0 => none | _ + 1 => some f.offset
    | none => none
  | _ => none
theorem fo {s : TypeId} {i off : Nat} (h : fieldOff P s i = some off) (a : Addr) : VK P (Instr.fieldAt s (.pointer (some a)) i) w K = K (.pointer (some (a.add off))) w := by
  unfold fieldOff at h
  split at h
  · rename_i fs hu
    split at h
    · rename_i f hf
      split at h
      · cases h
      · rename_i n hc
        cases h
        exact fld hu hf hc a
    · cases h
  · cases h
theorem ixa {t e : TypeId} {sz : Nat} (hu : P.underlying t = some (.slice e)) (hc : P.cellsOf e = sz + 1) {a : Addr} {n c : Nat} {k : IntKind} {i : Int} (h0 : 0 ≤ i) (h1 : i < n) :
    VK P (Instr.indexAt t (.slice (some a) n c) (.int k i)) w K = K (.pointer (some (a.add (i.toNat * (sz + 1))))) w := by
  obtain ⟨z, hz, hzs⟩ := info_of hc
  have h : (Instr.indexAt t (.slice (some a) n c) (.int k i)).run P w = .ok (.pointer (some (a.add (i.toNat * (sz + 1))))) w := by
    simp [Instr.indexAt, run_underlying hu, Sem.run_bind, asIntOf, h0, h1, sizeOf, typeInfo, hz, hzs]
  unfold VK OpK
  simp only [Sem.run_bind, h, Result.andThen_ok]
  rfl
theorem setB_setCell (w : World) (b o : Nat) (cs : Array Value) (t : TypeId) (fr : Nat × Nat) (v : Value) (h : w.heap[b]? = some (.cells cs t fr)) : w.setCell ⟨b, o, none⟩ v = setB w b (.cells (cs.setIfInBounds o v) t fr) := by
  unfold World.setCell setB
  congr 1
  apply Array.ext_getElem?
  intro i
  rw [Array.getElem?_modify, Array.getElem?_setIfInBounds]
  by_cases e : b = i
  · subst e
    obtain ⟨hlt, hg⟩ := Array.getElem?_eq_some_iff.1 h
    simp [hlt, hg]
  · rw [if_neg e, if_neg e]
theorem st1 {t ty : TypeId} {b o : Nat} {cs : Array Value} {v : Value} (hc1 : P.cellsOf t = 1) (hv : v.oneCell' = true) (hb : w.heap[b]? = some (.cells cs ty (0, 0))) (ho : o < cs.size)
    (hk : K undef (setB w b (.cells (cs.setIfInBounds o v) ty (0, 0)))) : UK P (Instr.storeAt t (.pointer (some ⟨b, o, none⟩)) v) w K := by
  obtain ⟨z, hz, h1⟩ := info_of hc1
  refine UK_of (w' := setB w b (.cells (cs.setIfInBounds o v) ty (0, 0))) ?_ hk
  have hc : w.cell? ⟨b, o, none⟩ = some cs[o] := by rw [cell_blk hb]; simp [ho]
  have hf : w.frozen? ⟨b, o, none⟩ = false := by simp [World.frozen?, hb]
  have hcl : v.cells = #[v] := by cases v <;> first | rfl | simp [Value.oneCell'] at hv
  have ha : (⟨b, o, none⟩ : Addr).add 0 = ⟨b, o, none⟩ := rfl
  have hst : (Sem.store .plain ⟨b, o, none⟩ v (.pure ()) : Sem Unit).run P w = .ok () (w.setCell ⟨b, o, none⟩ v) := by
    cases v <;> first | (simp [Value.oneCell'] at hv; done) | simp [Sem.run, hc, hf]
  rw [← setB_setCell w b o cs ty (0, 0) v hb]
  simp only [Instr.storeAt, Instr.sureAddr, storeVar, Sem.run_bind, Sem.run_pure, Result.andThen_ok, sizeOf, typeInfo, program, Sem.run, hz, hcl]
  simp [h1, storeCells, store, ha, hst, Sem.run_bind]
end

section
variable {P : Program} {w w' : World} {K : Value → World → Prop}
theorem setRow_setB (w : World) (g : Nat) (cs cs' : Array Value) (t : TypeId) (h : w.heap[g]? = some (.cells cs t (0, 0))) : w.setRow g cs' = setB w g (.cells cs' t (0, 0)) := by
  obtain ⟨hlt, hg⟩ := Array.getElem?_eq_some_iff.1 h
  unfold World.setRow setB
  congr 1
  apply Array.ext_getElem?
  intro i
  rw [Array.getElem?_modify, Array.getElem?_setIfInBounds]
  by_cases e : g = i
  · subst e
    simp [hlt, hg]
  · rw [if_neg e, if_neg e]
/-- A struct stored over a whole block. -/
theorem stB {t ty : TypeId} {b : Nat} {old cs : Array Value} (hi : (P.info? t).map (·.size) = some cs.size) (ho : old.size = cs.size) (h1 : cs.all (·.oneCell') = true) (hb : w.heap[b]? = some (.cells old ty (0, 0)))
    (hk : K undef (setB w b (.cells cs ty (0, 0)))) : UK P (Instr.storeAt t (.pointer (some ⟨b, 0, none⟩)) (.agg cs)) w K := by
  rw [← setRow_setB w b old cs ty hb] at hk
  refine UK_of ?_ hk
  simp only [Instr.storeAt, Instr.sureAddr, Sem.run_bind, Sem.run_pure, Result.andThen_ok]
  exact run_storeVar_row w b ty t old cs hb hi ho h1
theorem build_ok {t : TypeId} {parts : List (Nat × Value)} {cs : Array Value} (h : P.built t parts = some cs) : VK P (Instr.build t parts.toArray) w K = K (.agg cs) w := by
  have := run_build (P := P) w t parts.toArray cs (by simpa using h)
  unfold VK OpK
  simp only [Sem.run_bind, this, Result.andThen_ok]
  rfl
end

/-! ### Quiet regions -/
section
variable {P : Program} {C : World → Prop} {K : Value → Prop}
theorem QV_of {s : Sem Value} {v : Value} (h : ∀ w, C w → s.run P w = .ok v w) (hk : K v) : QK P C (do pure (Next.value (← s))) K := by
  refine ⟨v, fun w hw => ?_, hk⟩
  simp only [Sem.run_bind, h w hw, Result.andThen_ok]
  exact ⟨rfl, rfl⟩
theorem QN_ptr {a : Addr} (hk : K (.pointer (some a))) : QK P C (nilCk (.pointer (some a))) K := ⟨_, fun _ _ => ⟨rfl, rfl⟩, hk⟩
theorem QP_of {t : Bool} {a b : Value} (hk : K (if t then a else b)) : QK P C (do pure (Next.value (if ← asBool (.bool t) then a else b))) K :=
  ⟨_, fun _ _ => by cases t <;> exact ⟨rfl, rfl⟩, hk⟩
theorem QB_of {op : BinOp} {t : TypeId} {x y : Operand} {a b v : Value} (hg : ∀ w, (eqGuard op t x y a b).run P w = .ok () w) (h : ∀ w, (binOp op t a b).run P w = .ok v w) (hk : K v) : QK P C (do pure (Next.value (← (do eqGuard op t x y a b; binOp op t a b)))) K := by
  refine QV_of (fun w _ => ?_) hk
  simp only [Sem.run_bind, hg, h, Result.andThen_ok]
theorem QC_fn {f : FuncId} {fn : Func} {first cap : Array Value} {args : Array Value} {v : Value} (hf : P.funcs[f]? = some fn) (hb : fn.body.isNone = false) (hn : (fn.name == "runtime.NumGoroutine") = false)
    (h : ∀ w, C w → Calls P f (first ++ args ++ cap) w fun e w' => e = .returned v ∧ C w') (hk : K v) : QK P C (do let d ← Deferred.ofValue (.func (.func f) first cap) args; invoke d.target d.args) K := by
  refine ⟨v, fun w hw => ?_, hk⟩
  have hr : (do let d ← Deferred.ofValue (.func (.func f) first cap) args; invoke d.target d.args : Sem Next).run P w = .ok (.enter f (first ++ args ++ cap)) w := by
    have hb' : fn.body ≠ none := by intro q; rw [q] at hb; cases hb
    have hn' : fn.name ≠ "runtime.NumGoroutine" := by intro q; rw [q] at hn; simp at hn
    simp [Deferred.ofValue, invoke, callFunc, program, Sem.run, hf, hb', hn', Sem.run_bind, pure, bind, Sem.bind]
  rw [hr]
  exact ⟨rfl, h w hw⟩
theorem QC_st {f : FuncId} {fn : Func} {args : Array Value} {v : Value} (hf : P.funcs[f]? = some fn) (hb : fn.body.isNone = false) (hn : (fn.name == "runtime.NumGoroutine") = false)
    (h : ∀ w, C w → Calls P f args w fun e w' => e = .returned v ∧ C w') (hk : K v) : QK P C (do let d ← Deferred.ofValue (.func (.func f) #[] #[]) args; invoke d.target d.args) K :=
  QC_fn hf hb hn (by simpa using h) hk
theorem QG_b (t b : Bool) (s : Sem Next) : QG P C (.bool t) b s K = if t = b then QK P C s K else K undef := by
  unfold QG GuardK wantB
  by_cases h : t = b <;> simp [h]
theorem QG_u (b : Bool) (s : Sem Next) : QG P C undef b s K = K undef := by
  unfold QG GuardK wantB undef
  simp
end
end Go.X
