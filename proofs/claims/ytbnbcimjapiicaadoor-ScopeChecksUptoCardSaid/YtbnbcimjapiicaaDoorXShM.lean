/- The framework X, part 3 (b): what an argument reads as, with a measure: what is read is no greater than the reading's bulk (for the second form of statements). -/
import Derived.Test.YtbnbcimjapiicaaDoorXSh
set_option linter.unusedVariables false
namespace Go.X
open Go Go.RowKit

/-- What a measure of readings must be. -/
structure Bulk where
  B : {H : Type} → DataW H → Nat
  one : ∀ {H : Type} (d : DataW H), 1 ≤ B d
  str : ∀ {H : Type} (b : List UInt8), b.length + 1 ≤ B (.lit (.string b) : DataW H)
  slice : ∀ {H : Type} (es sp : List (DataW H)), (es.map B).sum + 1 ≤ B (.slice es sp)
  agg : ∀ {H : Type} (es : List (DataW H)), (es.map B).sum + 1 ≤ B (.agg es)
/-- A shape: how many cells, when cells read so, and how much that is. -/
structure ShM (α : Type) extends Sh α where
  m : α → Nat
structure OpensM (U : Bulk) (P : Program) (n : Nat) {α : Type} (k : ShM α) (t : TypeId) : Prop where
  go : ∀ {H : Type} {enc : TypeId × Value → H} {w : World} {base : Nat} {sp : Nat → Bool} {hd : Bool} {cs : List Value} {x : DataW H × List MemPlace}, DataW.trod enc P w base sp hd n t cs = some x → ∃ v : α, k.K w v cs ∧ k.m v ≤ U.B x.1
def ShM.int (k : IntKind) : ShM Int := { Sh.int k with m := fun _ => 1 }
def ShM.bool : ShM Bool := { Sh.bool with m := fun _ => 1 }
def ShM.string : ShM ByteArray := { Sh.string with m := fun s => s.size + 1 }
def ShM.slice {α : Type} (k : ShM α) : ShM (Value × List α) := { Sh.slice k.toSh with m := fun x => (x.2.map k.m).sum + 1 }
def ShM.pair {α β : Type} (a : ShM α) (b : ShM β) : ShM (α × β) := { Sh.pair a.toSh b.toSh with m := fun x => a.m x.1 + b.m x.2 }
section
variable {U : Bulk} {P : Program} {n : Nat}
theorem opensM_int {k : IntKind} {t : TypeId} (h : P.underlying t = some (.int k)) : OpensM U P n (ShM.int k) t :=
  ⟨fun hx => (opens_int h).go hx |>.imp fun v hv => ⟨hv, U.one _⟩⟩
theorem opensM_bool {t : TypeId} (h : P.underlying t = some .bool) : OpensM U P n ShM.bool t :=
  ⟨fun hx => (opens_bool h).go hx |>.imp fun v hv => ⟨hv, U.one _⟩⟩
theorem opensM_string {t : TypeId} (h : P.underlying t = some .string) : OpensM U P n ShM.string t := by
  constructor
  intro H enc w base sp hd cs x hx
  obtain ⟨v, rfl, hv⟩ := (opens_string h).go hx
  refine ⟨v, ⟨rfl, hv⟩, ?_⟩
  cases n with
  | zero => simp [DataW.trod] at hx
  | succ n =>
    unfold DataW.trod at hx
    rw [h] at hx
    simp only at hx
    split at hx
    · cases hx
      have := U.str (H := H) v.data.toList
      show v.size + 1 ≤ U.B (.lit (.string v.data.toList))
      rw [Array.length_toList] at this
      exact this
    · rename_i q
      exact absurd hv q
theorem sum_le {α β : Type} {f : α → Nat} {g : β → Nat} : ∀ {l : List α} {r : List β}, l.length = r.length → (∀ (i : Nat) a b, l[i]? = some a → r[i]? = some b → f a ≤ g b) → (l.map f).sum ≤ (r.map g).sum
  | [], [], _, _ => Nat.le_refl _
  | a :: l, b :: r, hl, h => by
    have h0 := h 0 a b rfl rfl
    have := sum_le (l := l) (r := r) (by simpa using hl) (fun i x y hx hy => h (i + 1) x y (by simpa using hx) (by simpa using hy))
    simp only [List.map_cons, List.sum_cons]
    omega
  | [], _ :: _, hl, _ => by simp at hl
  | _ :: _, [], hl, _ => by simp at hl
theorem opensM_slice {α : Type} {k : ShM α} {t e : TypeId} (h : P.underlying t = some (.slice e)) (hs : P.cellsOf e = k.sz) (he : ∀ m, m < n → OpensM U P m k e) : OpensM U P n (ShM.slice k) t := by
  constructor
  intro H enc w base sp hd cs x hx
  rcases DataW.trod_slice h hx with ⟨rfl, rfl⟩ | ⟨a, len, cap, elems, rest, m, hn, rfl, rfl, hb, hl, hm, hlen, hel, _, _⟩
  · exact ⟨(.slice none 0 0, []), ⟨rfl, by simp, none, 0, rfl, Nat.le_refl _, by simp⟩, U.one _⟩
  · have key : ∀ i, i < len → ∃ v : α, (∃ c, c.length = k.sz ∧ k.K w v c ∧ ∀ j u, c[j]? = some u → w.cell? (a.add (i * k.sz + j)) = some u) ∧ ∀ d, elems[i]? = some d → k.m v ≤ U.B d.1 := by
      intro i hi
      have h1 := hel i hi
      rw [List.getElem?_eq_getElem (show i < elems.length by omega)] at h1
      obtain ⟨c, hc, ht⟩ := Option.bind_eq_some_iff.1 h1
      obtain ⟨_, hcl, hcell⟩ := World.cells?_some hc
      obtain ⟨v, hv, hvm⟩ := (he m (by omega)).go ht
      refine ⟨v, ⟨c, by rw [hcl, hs], hv, fun j u hu => ?_⟩, fun d hd => ?_⟩
      · have hj : j < P.cellsOf e := by
          rcases Nat.lt_or_ge j c.length with q | q
          · omega
          · rw [List.getElem?_eq_none q] at hu; cases hu
        have := hcell j hj
        rw [hu] at this
        rw [← this, ← hs, add_add]
      · rw [List.getElem?_eq_getElem (show i < elems.length by omega)] at hd
        cases hd
        exact hvm
    obtain ⟨l, hll, hq⟩ := choose_list len key
    refine ⟨(.slice (some a) len cap, l), ⟨rfl, ?_, some a, cap, by rw [hll], by show l.length ≤ cap; omega, fun i y hy => ?_⟩, ?_⟩
    · show l.length ≤ maxLen; omega
    · obtain ⟨⟨d, h1, h2, h3⟩, _⟩ := hq i y hy
      exact ⟨a, d, rfl, h1, h2, h3⟩
    · show (l.map k.m).sum + 1 ≤ _
      refine Nat.le_trans (Nat.add_le_add_right (sum_le (r := elems) (g := fun d => U.B d.1) (by omega) (fun i u d hu hd => (hq i u hu).2 d hd)) 1) ?_
      have := U.slice (elems.map (·.1)) (rest.map (·.1))
      rw [List.map_map] at this
      exact this
structure FieldsM (U : Bulk) (P : Program) (n : Nat) {α : Type} (k : ShM α) (fs : List Field) (off : Nat) : Prop where
  go : ∀ {H : Type} {enc : TypeId × Value → H} {w : World} {base : Nat} {sp : Nat → Bool} {hd : Bool} {cs : List Value} {xs : List (DataW H × List MemPlace)}, cs.length = off + k.sz → xs.length = fs.length →
    (∀ (i : Nat) f x, fs[i]? = some f → xs[i]? = some x → DataW.trod enc P w base sp hd n f.type ((cs.drop f.offset).take (P.cellsOf f.type)) = some x) → ∃ v : α, k.K w v (cs.drop off) ∧ k.m v ≤ (xs.map fun x => U.B x.1).sum
theorem fieldsM_one {α : Type} {k : ShM α} {f : Field} {off : Nat} (ho : f.offset = off) (hs : P.cellsOf f.type = k.sz) (h : OpensM U P n k f.type) : FieldsM U P n k [f] off := by
  constructor
  intro H enc w base sp hd cs xs hl hxl hx
  match xs, hxl with
  | [x], _ =>
    have hx := hx 0 f x rfl rfl
    rw [ho, List.take_of_length_le (by simp [hs]; omega)] at hx
    obtain ⟨v, hv, hm⟩ := h.go hx
    exact ⟨v, hv, by simpa using hm⟩
theorem fieldsM_cons {α β : Type} {a : ShM α} {b : ShM β} {f : Field} {fs : List Field} {off : Nat} (ho : f.offset = off) (hs : P.cellsOf f.type = a.sz) (h : OpensM U P n a f.type) (hr : FieldsM U P n b fs (off + a.sz)) : FieldsM U P n (ShM.pair a b) (f :: fs) off := by
  constructor
  intro H enc w base sp hd cs xs hl hxl hx
  match xs, hxl with
  | x :: r, hxl =>
    have hx0 := hx 0 f x rfl rfl
    rw [ho, hs] at hx0
    have hl' : cs.length = off + (a.sz + b.sz) := hl
    obtain ⟨u, hu, hum⟩ := h.go hx0
    obtain ⟨v, hv, hvm⟩ := hr.go (cs := cs) (xs := r) (by omega) (by simpa using hxl) (fun i g y hg hy => hx (i + 1) g y (by simpa using hg) (by simpa using hy))
    refine ⟨(u, v), ⟨(cs.drop off).take a.sz, cs.drop (off + a.sz), ?_, ?_, hu, hv⟩, ?_⟩
    · rw [← List.drop_drop, List.take_append_drop]
    · rw [List.length_take, List.length_drop]; omega
    · show a.m u + b.m v ≤ _
      simp only [List.map_cons, List.sum_cons]
      omega
theorem opensM_struct {α : Type} {k : ShM α} {t : TypeId} {fs : Array Field} (h : P.underlying t = some (.struct fs)) (hs : P.cellsOf t = k.sz) (hf : ∀ m, m < n → FieldsM U P m k fs.toList 0) : OpensM U P n ({ k with m := fun v => k.m v + 1 } : ShM α) t := by
  constructor
  intro H enc w base sp hd cs x hx
  obtain ⟨xs, m, hn, rfl, hl, hxl, hfs⟩ := DataW.trod_struct h hx
  obtain ⟨v, hv, hm⟩ := (hf m (by omega)).go (cs := cs) (H := H) (enc := enc) (w := w) (base := base) (sp := sp) (hd := hd) (xs := xs) (by rw [hl, hs]; omega) (by simpa using hxl) (fun i f x hi hx => by
    have h1 := hfs i f (by rw [← Array.getElem?_toList]; exact hi)
    rw [hx] at h1
    exact h1)
  refine ⟨v, by simpa using hv, ?_⟩
  have := U.agg (xs.map (·.1))
  rw [List.map_map] at this
  exact Nat.le_trans (Nat.add_le_add_right hm 1) this
/-- Another way to say what is read. -/
theorem opensM_as {α β : Type} {k : ShM α} {k' : ShM β} {t : TypeId} (h : OpensM U P n k t) (f : α → β) (hf : ∀ w v cs, k.K w v cs → k'.K w (f v) cs) (hm : ∀ v, k'.m (f v) ≤ k.m v) : OpensM U P n k' t := by
  constructor
  intro H enc w base sp hd cs x hx
  obtain ⟨v, hv, hvm⟩ := h.go hx
  exact ⟨f v, hf _ _ _ hv, Nat.le_trans (hm v) hvm⟩
end
end Go.X
