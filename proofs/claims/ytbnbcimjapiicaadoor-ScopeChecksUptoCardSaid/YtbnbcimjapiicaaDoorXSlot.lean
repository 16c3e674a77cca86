/- The framework X, part 9: rules over slots whose values are known. -/
import Derived.Test.YtbnbcimjapiicaaDoorXFold
set_option linter.unusedVariables false
namespace Go.X
open Go Go.RowKit
section
variable {P : Program} {w : World} {K : Value → World → Prop}
theorem BKadd {t : TypeId} {ox oy : Operand} {x y : Value} {a b : Int} (hx : x = .int .i64 a) (hy : y = .int .i64 b) (h0 : -9223372036854775808 ≤ a + b) (h1 : a + b < 9223372036854775808) (hk : K (.int .i64 (a + b)) w) : BK P .add t ox oy x y w K := by
  rw [hx, hy, BK_add, wrap_i h0 h1]; exact hk
theorem BKlss {t : TypeId} {ox oy : Operand} {k : IntKind} {x y : Value} {a b : Int} (hx : x = .int k a) (hy : y = .int k b) (hk : K (.bool (decide (a < b))) w) : BK P .lss t ox oy x y w K := by
  rw [hx, hy, BK_lss]; exact hk
theorem BKgtr {t : TypeId} {ox oy : Operand} {k : IntKind} {x y : Value} {a b : Int} (hx : x = .int k a) (hy : y = .int k b) (hk : K (.bool (decide (b < a))) w) : BK P .gtr t ox oy x y w K := by
  rw [hx, hy, BK_gtr]; exact hk
theorem BKeqS {t : TypeId} {ox oy : Operand} {x y : Value} {a b : ByteArray} (hx : x = .string a) (hy : y = .string b) (h1 : a.data.toList = b.data.toList → K (.bool true) w) (h2 : a.data.toList ≠ b.data.toList → K (.bool false) w) : BK P .eql t ox oy x y w K := by
  rw [hx, hy]; exact caseS h1 h2
theorem BKeqI {t : TypeId} {ox oy : Operand} {k : IntKind} {x y : Value} {a b : Int} (hx : x = .int k a) (hy : y = .int k b) (h1 : a = b → K (.bool true) w) (h2 : a ≠ b → K (.bool false) w) : BK P .eql t ox oy x y w K := by
  rw [hx, hy]; exact caseI h1 h2
theorem BKneI {t : TypeId} {ox oy : Operand} {k : IntKind} {x y : Value} {a b : Int} (hx : x = .int k a) (hy : y = .int k b) (h1 : a = b → K (.bool false) w) (h2 : a ≠ b → K (.bool true) w) : BK P .neq t ox oy x y w K := by
  rw [hx, hy, BK_neq]
  by_cases h : a = b
  · rw [show (a != b) = false by rw [h]; simp]; exact h1 h
  · rw [show (a != b) = true by simp [h]]; exact h2 h
theorem caseN {A B : Prop} {x : Value} {b : Bool} (hx : x = .bool b) (h1 : b = true → A) (h2 : b = false → B) : CondK x A B := by rw [hx]; exact caseC h1 h2
/-- A block stored over, its place in a slot; the world stays a variable. -/
theorem stS {t ty : TypeId} {b : Nat} {old cs : Array Value} {x v : Value} (hx : x = .pointer (some ⟨b, 0, none⟩)) (hv : v = .agg cs) (hi : (P.info? t).map (·.size) = some cs.size) (ho : old.size = cs.size) (h1 : cs.all (·.oneCell') = true) (hb : w.heap[b]? = some (.cells old ty (0, 0)))
    (hk : ∀ w', w'.heap[b]? = some (.cells cs ty (0, 0)) → Mod (fun i => i = b) w w' → w'.heap.size = w.heap.size → K undef w') : UK P (Instr.storeAt t x v) w K := by
  rw [hx, hv]
  exact stB hi ho h1 hb (hk _ (setB_new _ _ _ (blk_lt hb)) ((Mod.refl _ w).set _ (fun _ => rfl)) (by rw [setB_size]))
/-- One cell stored. -/
theorem stC {t ty : TypeId} {b o : Nat} {cs : Array Value} {x v : Value} (hx : x = .pointer (some ⟨b, o, none⟩)) (hc1 : P.cellsOf t = 1) (hv : v.oneCell' = true) (hb : w.heap[b]? = some (.cells cs ty (0, 0))) (ho : o < cs.size)
    (hk : ∀ w', w'.heap[b]? = some (.cells (cs.setIfInBounds o v) ty (0, 0)) → Mod (fun i => i = b) w w' → w'.heap.size = w.heap.size → K undef w') : UK P (Instr.storeAt t x v) w K := by
  rw [hx]
  exact st1 hc1 hv hb ho (hk _ (setB_new _ _ _ (blk_lt hb)) ((Mod.refl _ w).set _ (fun _ => rfl)) (by rw [setB_size]))
theorem ldS {t ty : TypeId} {d : TypeDesc} {b : Nat} {cs : Array Value} {x : Value} (hx : x = .pointer (some ⟨b, 0, none⟩)) (hu : P.underlying t = some d) (hd : (match d with | .struct _ | .array _ _ => true | _ => false) = true) (hi : (P.info? t).map (·.size) = some cs.size) (hb : w.heap[b]? = some (.cells cs ty (0, 0))) (hk : K (.agg cs) w) : VK P (Instr.loadAt t x) w K := by
  rw [hx]
  exact ldB hu hd hi hb hk
theorem FAt.vs {t t' : TypeId} {i : Nat} {a : Addr} {v x : Value} {K : Value → Value → World → Prop} (h : FAt P w t i a t' v) (hx : x = .pointer (some a)) (hk : ∀ y, K y v w) : VK P (Instr.fieldAt t x i) w fun y w => VK P (Instr.loadAt t' y) w (K y) := by
  rw [hx]; exact h.vk' hk
/-- A variable of one cell. -/
theorem ldOne {t ty : TypeId} {d : TypeDesc} {b : Nat} {fr : Nat × Nat} {x v : Value} (hx : x = .pointer (some ⟨b, 0, none⟩)) (hu : P.underlying t = some d) (hd : (match d with | .struct _ | .array _ _ => true | _ => false) = false) (hb : w.heap[b]? = some (.cells #[v] ty fr)) (hk : K v w) : VK P (Instr.loadAt t x) w K := by
  rw [hx]; exact ld1 hu hd (by rw [cell_blk hb]; rfl) hk
theorem CK_eq {f g : Value} {as bs : List Value} (hf : f = g) (h : as = bs) (hk : CK P g bs w K) : CK P f as w K := by rw [hf, h]; exact hk
/-- A result that lies in a cell. -/
theorem rtCell {t ty : TypeId} {d : TypeDesc} {b i : Nat} {cs : Array Value} {R : Value → World → Prop} {ρ : Sl} (hx : ρ i = .pointer (some ⟨b, 0, none⟩)) (hu : P.underlying t = some d) (hd : (match d with | .struct _ | .array _ _ => true | _ => false) = true) (hi : (P.info? t).map (·.size) = some cs.size) (hb : w.heap[b]? = some (.cells cs ty (0, 0))) (hk : R (.agg cs) w) :
    retK P [ResultVar.cell i t] R .ret ρ w := by
  show ∃ v, (do loadVar t (← asAddr (ρ i)) : Sem Value).run P w = .ok v w ∧ R v w
  rw [hx]
  exact ⟨_, res_ld (run_ldB hu hd hi hb), hk⟩
theorem rtTC {t ty : TypeId} {d : TypeDesc} {b i j : Nat} {cs : Array Value} {R : Value → World → Prop} {ρ : Sl} (hx : ρ i = .pointer (some ⟨b, 0, none⟩)) (hu : P.underlying t = some d) (hd : (match d with | .struct _ | .array _ _ => true | _ => false) = true) (hi : (P.info? t).map (·.size) = some cs.size) (hb : w.heap[b]? = some (.cells cs ty (0, 0))) (hk : R (.tuple #[ρ j, .agg cs]) w) :
    retK P [ResultVar.tmp j, ResultVar.cell i t] R .ret ρ w := by
  show ∃ v, (do loadVar t (← asAddr (ρ i)) : Sem Value).run P w = .ok v w ∧ R (.tuple #[ρ j, v]) w
  rw [hx]
  exact ⟨_, res_ld (run_ldB hu hd hi hb), hk⟩
theorem rsCell {t ty : TypeId} {d : TypeDesc} {b : Nat} {cs : Array Value} {R : Value → World → Prop} {x : Value} (hx : x = .pointer (some ⟨b, 0, none⟩)) (hu : P.underlying t = some d) (hd : (match d with | .struct _ | .array _ _ => true | _ => false) = true) (hi : (P.info? t).map (·.size) = some cs.size) (hb : w.heap[b]? = some (.cells cs ty (0, 0))) (hk : R (.agg cs) w) :
    ∃ v, (do loadVar t (← asAddr x) : Sem Value).run P w = .ok v w ∧ R v w := by
  rw [hx]
  exact ⟨_, res_ld (run_ldB hu hd hi hb), hk⟩
end
end Go.X
