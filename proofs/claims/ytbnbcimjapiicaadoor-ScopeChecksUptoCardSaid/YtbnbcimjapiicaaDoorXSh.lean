/- The framework X, part 3 (a): what an argument reads as: from the row's own reading to relations of this repo's own. -/
import Derived.Test.YtbnbcimjapiicaaDoorXMore
import Derived.ChangeArms
import Derived.DataReads
import Derived.Carry
import Derived.OpenShut
set_option linter.unusedVariables false
namespace Go.X
open Go Go.RowKit

/-- A shape: how many cells, and when cells read so. -/
structure Sh (α : Type) where
  sz : Nat
  K : World → α → List Value → Prop
/-- With so much fuel, whatever is read at type t is of the shape. -/
structure OpensAt (P : Program) (n : Nat) {α : Type} (k : Sh α) (t : TypeId) : Prop where
  go : ∀ {H : Type} {enc : TypeId × Value → H} {w : World} {base : Nat} {sp : Nat → Bool} {hd : Bool} {cs : List Value} {x : DataW H × List MemPlace}, DataW.trod enc P w base sp hd n t cs = some x → ∃ v : α, k.K w v cs
def Sh.int (k : IntKind) : Sh Int := ⟨1, fun _ v cs => cs = [.int k v] ∧ (Lit.int k v).wf = true⟩
def Sh.bool : Sh Bool := ⟨1, fun _ v cs => cs = [.bool v]⟩
def Sh.string : Sh ByteArray := ⟨1, fun _ v cs => cs = [.string v] ∧ v.size ≤ maxLen⟩
def Sh.slice {α : Type} (k : Sh α) : Sh (Value × List α) := ⟨1, fun w x cs => cs = [x.1] ∧ x.2.length ≤ maxLen ∧ ∃ A c, x.1 = .slice A x.2.length c ∧ x.2.length ≤ c ∧ ∀ (i : Nat) y, x.2[i]? = some y → ∃ a d, A = some a ∧ d.length = k.sz ∧ k.K w y d ∧ ∀ (j : Nat) u, d[j]? = some u → w.cell? (a.add (i * k.sz + j)) = some u⟩
def Sh.pair {α β : Type} (a : Sh α) (b : Sh β) : Sh (α × β) := ⟨a.sz + b.sz, fun w x cs => ∃ c d, cs = c ++ d ∧ c.length = a.sz ∧ a.K w x.1 c ∧ b.K w x.2 d⟩
section
variable {P : Program} {n : Nat}
theorem opens_int {k : IntKind} {t : TypeId} (h : P.underlying t = some (.int k)) : OpensAt P n (Sh.int k) t := by
  constructor
  intro H enc w base sp hd cs x hx
  cases n with
  | zero => simp [DataW.trod] at hx
  | succ n =>
    unfold DataW.trod at hx
    rw [h] at hx
    match cs with
    | [.int k' m] =>
      simp only at hx
      split at hx
      · rename_i hk
        obtain ⟨rfl, hw⟩ := hk
        exact ⟨m, rfl, hw⟩
      · cases hx
    | [] => simp at hx
    | [.bool _] => simp at hx
    | [.float ..] => simp at hx
    | [.complex ..] => simp at hx
    | [.string _] => simp at hx
    | [.pointer _] => simp at hx
    | [.slice ..] => simp at hx
    | [.map _] => simp at hx
    | [.chan _] => simp at hx
    | [.func ..] => simp at hx
    | [.nilFunc] => simp at hx
    | [.iface ..] => simp at hx
    | [.nilIface] => simp at hx
    | [.agg _] => simp at hx
    | [.tuple _] => simp at hx
    | _ :: _ :: _ => simp at hx
theorem opens_bool {t : TypeId} (h : P.underlying t = some .bool) : OpensAt P n Sh.bool t := by
  constructor
  intro H enc w base sp hd cs x hx
  cases n with
  | zero => simp [DataW.trod] at hx
  | succ n =>
    unfold DataW.trod at hx
    rw [h] at hx
    match cs with
    | [.bool b] => exact ⟨b, rfl⟩
    | [] => simp at hx
    | [.int ..] => simp at hx
    | [.float ..] => simp at hx
    | [.complex ..] => simp at hx
    | [.string _] => simp at hx
    | [.pointer _] => simp at hx
    | [.slice ..] => simp at hx
    | [.map _] => simp at hx
    | [.chan _] => simp at hx
    | [.func ..] => simp at hx
    | [.nilFunc] => simp at hx
    | [.iface ..] => simp at hx
    | [.nilIface] => simp at hx
    | [.agg _] => simp at hx
    | [.tuple _] => simp at hx
    | _ :: _ :: _ => simp at hx
theorem opens_string {t : TypeId} (h : P.underlying t = some .string) : OpensAt P n Sh.string t := by
  constructor
  intro H enc w base sp hd cs x hx
  cases n with
  | zero => simp [DataW.trod] at hx
  | succ n =>
    unfold DataW.trod at hx
    rw [h] at hx
    match cs with
    | [.string s] =>
      simp only at hx
      split at hx
      · rename_i hk; exact ⟨s, rfl, hk⟩
      · cases hx
    | [] => simp at hx
    | [.int ..] => simp at hx
    | [.float ..] => simp at hx
    | [.complex ..] => simp at hx
    | [.bool _] => simp at hx
    | [.pointer _] => simp at hx
    | [.slice ..] => simp at hx
    | [.map _] => simp at hx
    | [.chan _] => simp at hx
    | [.func ..] => simp at hx
    | [.nilFunc] => simp at hx
    | [.iface ..] => simp at hx
    | [.nilIface] => simp at hx
    | [.agg _] => simp at hx
    | [.tuple _] => simp at hx
    | _ :: _ :: _ => simp at hx
/-- Elements one by one. -/
theorem choose_list {α : Type} {Q : Nat → α → Prop} : ∀ n : Nat, (∀ i, i < n → ∃ v, Q i v) → ∃ l : List α, l.length = n ∧ ∀ i v, l[i]? = some v → Q i v
  | 0, _ => ⟨[], rfl, fun i v h => by simp at h⟩
  | n + 1, h => by
    obtain ⟨l, hl, hq⟩ := choose_list n (fun i hi => h i (by omega))
    obtain ⟨v, hv⟩ := h n (by omega)
    refine ⟨l ++ [v], by simp [hl], fun i u hu => ?_⟩
    rcases Nat.lt_trichotomy i n with hi | hi | hi
    · rw [List.getElem?_append_left (by omega)] at hu; exact hq i u hu
    · subst hi
      rw [List.getElem?_append_right (by omega), hl] at hu
      simp at hu
      exact hu ▸ hv
    · rw [List.getElem?_eq_none (by simp [hl]; omega)] at hu; cases hu
theorem opens_slice {α : Type} {k : Sh α} {t e : TypeId} (h : P.underlying t = some (.slice e)) (hs : P.cellsOf e = k.sz) (he : ∀ m, m < n → OpensAt P m k e) : OpensAt P n (Sh.slice k) t := by
  constructor
  intro H enc w base sp hd cs x hx
  rcases DataW.trod_slice h hx with ⟨rfl, rfl⟩ | ⟨a, len, cap, elems, rest, m, hn, rfl, rfl, hb, hl, hm, hlen, hel, _, _⟩
  · exact ⟨(.slice none 0 0, []), rfl, by simp, none, 0, rfl, Nat.le_refl _, by simp⟩
  · have key : ∀ i, i < len → ∃ v : α, ∃ c, c.length = k.sz ∧ k.K w v c ∧ ∀ j u, c[j]? = some u → w.cell? (a.add (i * k.sz + j)) = some u := by
      intro i hi
      have h1 := hel i hi
      rw [List.getElem?_eq_getElem (show i < elems.length by omega)] at h1
      obtain ⟨c, hc, ht⟩ := Option.bind_eq_some_iff.1 h1
      obtain ⟨_, hcl, hcell⟩ := World.cells?_some hc
      obtain ⟨v, hv⟩ := (he m (by omega)).go ht
      refine ⟨v, c, by rw [hcl, hs], hv, fun j u hu => ?_⟩
      have hj : j < P.cellsOf e := by
        rcases Nat.lt_or_ge j c.length with q | q
        · omega
        · rw [List.getElem?_eq_none q] at hu; cases hu
      have := hcell j hj
      rw [hu] at this
      rw [← this, ← hs, add_add]
    obtain ⟨l, hll, hq⟩ := choose_list len key
    refine ⟨(.slice (some a) len cap, l), rfl, ?_, some a, cap, by rw [hll], by show l.length ≤ cap; omega, fun i y hy => ?_⟩
    · show l.length ≤ maxLen; omega
    · obtain ⟨d, h1, h2, h3⟩ := hq i y hy
      exact ⟨a, d, rfl, h1, h2, h3⟩

/-- Fields one behind the other. -/
structure FieldsAt (P : Program) (n : Nat) {α : Type} (k : Sh α) (fs : List Field) (off : Nat) : Prop where
  go : ∀ {H : Type} {enc : TypeId × Value → H} {w : World} {base : Nat} {sp : Nat → Bool} {hd : Bool} {cs : List Value}, cs.length = off + k.sz →
    (∀ f ∈ fs, ∃ x, DataW.trod enc P w base sp hd n f.type ((cs.drop f.offset).take (P.cellsOf f.type)) = some x) → ∃ v : α, k.K w v (cs.drop off)
theorem fields_one {α : Type} {k : Sh α} {f : Field} {off : Nat} (ho : f.offset = off) (hs : P.cellsOf f.type = k.sz) (h : OpensAt P n k f.type) : FieldsAt P n k [f] off := by
  constructor
  intro H enc w base sp hd cs hl hx
  obtain ⟨x, hx⟩ := hx f (List.mem_singleton.2 rfl)
  rw [ho, List.take_of_length_le (by simp [hs]; omega)] at hx
  exact h.go hx
theorem fields_cons {α β : Type} {a : Sh α} {b : Sh β} {f : Field} {fs : List Field} {off : Nat} (ho : f.offset = off) (hs : P.cellsOf f.type = a.sz) (h : OpensAt P n a f.type) (hr : FieldsAt P n b fs (off + a.sz)) : FieldsAt P n (Sh.pair a b) (f :: fs) off := by
  constructor
  intro H enc w base sp hd cs hl hx
  obtain ⟨x, hx0⟩ := hx f List.mem_cons_self
  rw [ho, hs] at hx0
  have hl' : cs.length = off + (a.sz + b.sz) := hl
  obtain ⟨u, hu⟩ := h.go hx0
  obtain ⟨v, hv⟩ := hr.go (cs := cs) (by omega) (fun g hg => hx g (List.mem_cons_of_mem _ hg))
  refine ⟨(u, v), (cs.drop off).take a.sz, cs.drop (off + a.sz), ?_, ?_, hu, hv⟩
  · rw [← List.drop_drop, List.take_append_drop]
  · rw [List.length_take, List.length_drop]; omega
theorem opens_struct {α : Type} {k : Sh α} {t : TypeId} {fs : Array Field} (h : P.underlying t = some (.struct fs)) (hs : P.cellsOf t = k.sz) (hf : ∀ m, m < n → FieldsAt P m k fs.toList 0) : OpensAt P n k t := by
  constructor
  intro H enc w base sp hd cs x hx
  obtain ⟨xs, m, hn, _, hl, hxl, hfs⟩ := DataW.trod_struct h hx
  obtain ⟨v, hv⟩ := (hf m (by omega)).go (cs := cs) (H := H) (enc := enc) (w := w) (base := base) (sp := sp) (hd := hd) (by rw [hl, hs]; omega) (fun f hm => by
    obtain ⟨i, hi, rfl⟩ := List.mem_iff_getElem.1 hm
    have hi' : i < fs.size := by simpa using hi
    have h1 := hfs i fs.toList[i] (by rw [← Array.getElem?_toList]; exact List.getElem?_eq_getElem hi)
    rw [List.getElem?_eq_getElem (by omega)] at h1
    exact ⟨_, h1⟩)
  exact ⟨v, by simpa using hv⟩
/-- Another way to say what is read. -/
theorem opens_as {α β : Type} {k : Sh α} {k' : Sh β} {t : TypeId} (h : OpensAt P n k t) (f : α → β) (hf : ∀ w v cs, k.K w v cs → k'.K w (f v) cs) : OpensAt P n k' t := by
  constructor
  intro H enc w base sp hd cs x hx
  obtain ⟨v, hv⟩ := h.go hx
  exact ⟨f v, hf _ _ _ hv⟩
end
/-- A slice whose elements' cells are said by a function. -/
theorem reads_sh {α : Type} {k : Sh α} {w : World} {x : Value × List α} {cs : List Value} (h : (Sh.slice k).K w x cs) (enc : α → List Value) (hk : ∀ a, (enc a).length = k.sz) (he : ∀ a d, k.K w a d → d = enc a) : reads w k.sz x.1 x.2.length (x.2.flatMap enc) := by
  obtain ⟨_, _, A, c, hv, hc, hr⟩ := h
  refine ⟨fl_len hk _, A, c, hv, hc, fun j u hu => ?_⟩
  have hlen := fl_len hk x.2
  have hj : j < x.2.length * k.sz := by
    rcases Nat.lt_or_ge j (x.2.flatMap enc).length with q | q
    · omega
    · rw [List.getElem?_eq_none q] at hu; cases hu
  have hs : 0 < k.sz := by
    rcases Nat.eq_zero_or_pos k.sz with q | q
    · rw [q] at hj; omega
    · exact q
  have hi : j / k.sz < x.2.length := by rw [Nat.div_lt_iff_lt_mul hs]; exact hj
  obtain ⟨a, d, rfl, hdl, hkd, hcell⟩ := hr _ _ (List.getElem?_eq_getElem hi)
  have hjd : j / k.sz * k.sz + j % k.sz = j := by rw [Nat.mul_comm]; exact Nat.div_add_mod j k.sz
  refine ⟨a, rfl, ?_⟩
  have h1 := hcell (j % k.sz) u (by
    rw [he _ _ hkd, ← fl_get hk (List.getElem?_eq_getElem hi) (Nat.mod_lt _ hs), hjd]
    exact hu)
  rwa [hjd] at h1
theorem mem_sh {α : Type} {k : Sh α} {w : World} {x : Value × List α} {cs : List Value} (h : (Sh.slice k).K w x cs) : ∀ a ∈ x.2, ∃ d, k.K w a d := by
  intro a ha
  obtain ⟨_, _, A, c, hv, hc, hr⟩ := h
  obtain ⟨i, hi, rfl⟩ := List.mem_iff_getElem.1 ha
  obtain ⟨_, d, _, _, hkd, _⟩ := hr i _ (List.getElem?_eq_getElem hi)
  exact ⟨d, hkd⟩
/-- An argument that is a slice is the slice that was read. -/
theorem slice_arg {P : Program} {t e : TypeId} {w : World} {base : Nat} {v : Value} {α : Type} {k : Sh α} {x : Value × List α} (hu : P.underlying t = some (.slice e)) (hv : Value.okWide P w .any base t v) (hK : (Sh.slice k).K w x v.cells.toList) : v = x.1 := by
  obtain ⟨hcs, _, A, c, hx, _⟩ := hK
  rw [hx] at hcs ⊢
  cases v <;> first | (simp [Value.cells] at hcs ⊢; done) | (simp [Value.cells] at hcs ⊢; exact hcs) | (exfalso; simp [Value.okWide, hu, Cell.okWide, Cell.ok] at hv; done) | skip
theorem slice_arg1 {P : Program} {t e : TypeId} {w : World} {base : Nat} {v u : Value} {size n : Nat} {xs : List Value} (hu : P.underlying t = some (.slice e)) (hv : Value.okWide P w .any base t v) (hcs : v.cells.toList = [u]) (hr : reads w size u n xs) : v = u := by
  obtain ⟨_, A, c, rfl, _⟩ := hr
  cases v <;> first | (simp [Value.cells] at hcs ⊢; done) | (simp [Value.cells] at hcs ⊢; exact hcs) | (exfalso; simp [Value.okWide, hu, Cell.okWide, Cell.ok] at hv; done) | skip
end Go.X
