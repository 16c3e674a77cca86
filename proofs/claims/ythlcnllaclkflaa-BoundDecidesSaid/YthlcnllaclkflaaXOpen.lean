/- The framework X, part 3: what an argument reads as: from the row's own reading to the print's kinds. -/
import Derived.Test.YthlcnllaclkflaaWWords
import Derived.ChangeArms
import Derived.DataReads
import Derived.Carry
import Derived.RowKit
import Derived.OpenShut
set_option linter.unusedVariables false
namespace Go.Proofs.Ythlcnllaclkflaa.Open
open Go Go.RowKit Go.Proofs.YthlcnllaclkflaaW.PrintWords

/-- With so much fuel, whatever is read at type t is of kind k, and all right. -/
structure OpensAt (P : Program) (n : Nat) {α : Type} (k : Kd α) (ok : α → Prop) (t : TypeId) : Prop where
  go : ∀ {H : Type} {enc : TypeId × Value → H} {w : World} {base : Nat} {sp : Nat → Bool} {hd : Bool} {cs : List Value} {x : DataW H × List MemPlace}, DataW.trod enc P w base sp hd n t cs = some x → ∃ v : α, k.K w v cs ∧ ok v
def Opens (P : Program) {α : Type} (k : Kd α) (ok : α → Prop) (t : TypeId) : Prop := ∀ n, OpensAt P n k ok t

section
variable {P : Program} {n : Nat}
theorem opens_int {k : IntKind} {t : TypeId} (h : P.underlying t = some (.int k)) : OpensAt P n (Kd.int k) (fun v => (Lit.int k v).wf = true) t := by
  constructor
  intro H enc w base sp hd cs x hx
  cases n with
  | zero => simp [DataW.trod] at hx
  | succ n =>
    unfold DataW.trod at hx
    rw [h] at hx
    match cs with
    | [.int k' m] =>
      simp only at hx
      split at hx
      · rename_i hk
        obtain ⟨rfl, hw⟩ := hk
        exact ⟨m, rfl, hw⟩
      · cases hx
    | [] => simp at hx
    | [.bool _] => simp at hx
    | [.float ..] => simp at hx
    | [.complex ..] => simp at hx
    | [.string _] => simp at hx
    | [.pointer _] => simp at hx
    | [.slice ..] => simp at hx
    | [.map _] => simp at hx
    | [.chan _] => simp at hx
    | [.func ..] => simp at hx
    | [.nilFunc] => simp at hx
    | [.iface ..] => simp at hx
    | [.nilIface] => simp at hx
    | [.agg _] => simp at hx
    | [.tuple _] => simp at hx
    | _ :: _ :: _ => simp at hx
theorem opens_bool {t : TypeId} (h : P.underlying t = some .bool) : OpensAt P n Kd.bool (fun _ => True) t := by
  constructor
  intro H enc w base sp hd cs x hx
  cases n with
  | zero => simp [DataW.trod] at hx
  | succ n =>
    unfold DataW.trod at hx
    rw [h] at hx
    match cs with
    | [.bool b] => exact ⟨b, rfl, trivial⟩
    | [] => simp at hx
    | [.int ..] => simp at hx
    | [.float ..] => simp at hx
    | [.complex ..] => simp at hx
    | [.string _] => simp at hx
    | [.pointer _] => simp at hx
    | [.slice ..] => simp at hx
    | [.map _] => simp at hx
    | [.chan _] => simp at hx
    | [.func ..] => simp at hx
    | [.nilFunc] => simp at hx
    | [.iface ..] => simp at hx
    | [.nilIface] => simp at hx
    | [.agg _] => simp at hx
    | [.tuple _] => simp at hx
    | _ :: _ :: _ => simp at hx
theorem opens_string {t : TypeId} (h : P.underlying t = some .string) : OpensAt P n Kd.string (fun s => s.size ≤ maxLen) t := by
  constructor
  intro H enc w base sp hd cs x hx
  cases n with
  | zero => simp [DataW.trod] at hx
  | succ n =>
    unfold DataW.trod at hx
    rw [h] at hx
    match cs with
    | [.string s] =>
      simp only at hx
      split at hx
      · rename_i hk; exact ⟨s, rfl, hk⟩
      · cases hx
    | [] => simp at hx
    | [.int ..] => simp at hx
    | [.float ..] => simp at hx
    | [.complex ..] => simp at hx
    | [.bool _] => simp at hx
    | [.pointer _] => simp at hx
    | [.slice ..] => simp at hx
    | [.map _] => simp at hx
    | [.chan _] => simp at hx
    | [.func ..] => simp at hx
    | [.nilFunc] => simp at hx
    | [.iface ..] => simp at hx
    | [.nilIface] => simp at hx
    | [.agg _] => simp at hx
    | [.tuple _] => simp at hx
    | _ :: _ :: _ => simp at hx
/-- Elements one by one. -/
theorem choose_list {α : Type} {Q : Nat → α → Prop} : ∀ n : Nat, (∀ i, i < n → ∃ v, Q i v) → ∃ l : List α, l.length = n ∧ ∀ i v, l[i]? = some v → Q i v
  | 0, _ => ⟨[], rfl, fun i v h => by simp at h⟩
  | n + 1, h => by
    obtain ⟨l, hl, hq⟩ := choose_list n (fun i hi => h i (by omega))
    obtain ⟨v, hv⟩ := h n (by omega)
    refine ⟨l ++ [v], by simp [hl], fun i u hu => ?_⟩
    rcases Nat.lt_trichotomy i n with hi | hi | hi
    · rw [List.getElem?_append_left (by omega)] at hu; exact hq i u hu
    · subst hi
      rw [List.getElem?_append_right (by omega), hl] at hu
      simp at hu
      exact hu ▸ hv
    · rw [List.getElem?_eq_none (by simp [hl]; omega)] at hu; cases hu
theorem opens_slice {α : Type} {k : Kd α} {ok : α → Prop} {t e : TypeId} (h : P.underlying t = some (.slice e)) (hs : P.cellsOf e = k.sz) (he : ∀ m, m < n → OpensAt P m k ok e) :
    OpensAt P n (Kd.slice e k) (fun xs => xs.length ≤ maxLen ∧ ∀ x ∈ xs, ok x) t := by
  constructor
  intro H enc w base sp hd cs x hx
  rcases DataW.trod_slice h hx with ⟨rfl, rfl⟩ | ⟨a, len, cap, elems, rest, m, hn, rfl, rfl, hb, hl, hm, hlen, hel, _, _⟩
  · exact ⟨[], ⟨none, 0, rfl, Nat.le_refl _, rfl, by simp, fun h0 => by simp at h0⟩, by simp, by simp⟩
  · have key : ∀ i, i < len → ∃ v : α, ok v ∧ ∃ c, c.length = k.sz ∧ k.K w v c ∧ ∀ j u, c[j]? = some u → w.cell? (a.add (i * k.sz + j)) = some u := by
      intro i hi
      have h1 := hel i hi
      rw [List.getElem?_eq_getElem (show i < elems.length by omega)] at h1
      obtain ⟨c, hc, ht⟩ := Option.bind_eq_some_iff.1 h1
      obtain ⟨_, hcl, hcell⟩ := World.cells?_some hc
      obtain ⟨v, hv, ho⟩ := (he m (by omega)).go ht
      refine ⟨v, ho, c, by rw [hcl, hs], hv, fun j u hu => ?_⟩
      have hj : j < P.cellsOf e := by
        rcases Nat.lt_or_ge j c.length with q | q
        · omega
        · rw [List.getElem?_eq_none q] at hu; cases hu
      have := hcell j hj
      rw [hu] at this
      rw [← this, ← hs]
      congr 1
      unfold Addr.add
      by_cases e1 : i * P.cellsOf e = 0
      · by_cases e2 : j = 0
        · simp [e1, e2]
        · simp [e1, e2]
      · by_cases e2 : j = 0
        · simp [e1, e2]
        · rw [if_neg (by omega), if_neg e2, if_neg e1]
          simp [Nat.add_assoc]
    obtain ⟨l, hll, hq⟩ := choose_list len key
    refine ⟨l, ⟨some a, cap, by rw [hll], by omega, rfl, by rw [hll]; unfold maxLen at hm; omega, fun _ => ⟨a, rfl, fun j p hp => (hq j p hp).2⟩⟩, by omega, fun v hv => ?_⟩
    obtain ⟨i, hi, rfl⟩ := List.mem_iff_getElem.1 hv
    exact (hq i _ (List.getElem?_eq_getElem hi)).1

/-- Fields one behind the other. -/
structure FieldsAt (P : Program) (n : Nat) {α : Type} (k : Kd α) (ok : α → Prop) (fs : List Field) (off : Nat) : Prop where
  go : ∀ {H : Type} {enc : TypeId × Value → H} {w : World} {base : Nat} {sp : Nat → Bool} {hd : Bool} {cs : List Value}, cs.length = off + k.sz →
    (∀ f ∈ fs, ∃ x, DataW.trod enc P w base sp hd n f.type ((cs.drop f.offset).take (P.cellsOf f.type)) = some x) → ∃ v : α, k.K w v (cs.drop off) ∧ ok v
theorem fields_one {α : Type} {k : Kd α} {ok : α → Prop} {f : Field} {off : Nat} (ho : f.offset = off) (hs : P.cellsOf f.type = k.sz) (h : OpensAt P n k ok f.type) : FieldsAt P n k ok [f] off := by
  constructor
  intro H enc w base sp hd cs hl hx
  obtain ⟨x, hx⟩ := hx f (List.mem_singleton.2 rfl)
  rw [ho, List.take_of_length_le (by simp [hs]; omega)] at hx
  exact h.go hx
theorem fields_cons {α β : Type} {a : Kd α} {b : Kd β} {oka : α → Prop} {okb : β → Prop} {f : Field} {fs : List Field} {off : Nat} (ho : f.offset = off) (hs : P.cellsOf f.type = a.sz) (h : OpensAt P n a oka f.type) (hr : FieldsAt P n b okb fs (off + a.sz)) :
    FieldsAt P n (Kd.pair a b) (fun x => oka x.1 ∧ okb x.2) (f :: fs) off := by
  constructor
  intro H enc w base sp hd cs hl hx
  obtain ⟨x, hx0⟩ := hx f List.mem_cons_self
  rw [ho, hs] at hx0
  obtain ⟨u, hu, hou⟩ := h.go hx0
  obtain ⟨v, hv, hov⟩ := hr.go (cs := cs) (by rw [hl]; show _ = off + a.sz + b.sz; show off + (a.sz + b.sz) = _; omega) (fun g hg => hx g (List.mem_cons_of_mem _ hg))
  refine ⟨(u, v), ⟨(cs.drop off).take a.sz, cs.drop (off + a.sz), ?_, hu, hv⟩, hou, hov⟩
  rw [← List.drop_drop, List.take_append_drop]
theorem opens_struct {α : Type} {k : Kd α} {ok : α → Prop} {t : TypeId} {fs : Array Field} (h : P.underlying t = some (.struct fs)) (hs : P.cellsOf t = k.sz) (hf : ∀ m, m < n → FieldsAt P m k ok fs.toList 0) : OpensAt P n k ok t := by
  constructor
  intro H enc w base sp hd cs x hx
  obtain ⟨xs, m, hn, _, hl, hxl, hfs⟩ := DataW.trod_struct h hx
  obtain ⟨v, hv, ho⟩ := (hf m (by omega)).go (cs := cs) (H := H) (enc := enc) (w := w) (base := base) (sp := sp) (hd := hd) (by rw [hl, hs]; omega) (fun f hm => by
    obtain ⟨i, hi, rfl⟩ := List.mem_iff_getElem.1 hm
    have hi' : i < fs.size := by simpa using hi
    have h1 := hfs i fs.toList[i] (by rw [← Array.getElem?_toList]; exact List.getElem?_eq_getElem hi)
    rw [List.getElem?_eq_getElem (by omega)] at h1
    exact ⟨_, h1⟩)
  exact ⟨v, by simpa using hv, ho⟩
theorem opens_iso {α β : Type} {d : Kd α} {ok : α → Prop} {ok' : β → Prop} {t : TypeId} (f : β → α) (g : α → β) (hfg : ∀ a, f (g a) = a) (hok : ∀ b, ok (f b) → ok' b) (h : OpensAt P n d ok t) : OpensAt P n (Kd.iso d f) ok' t := by
  constructor
  intro H enc w base sp hd cs x hx
  obtain ⟨v, hv, ho⟩ := h.go hx
  exact ⟨g v, by show d.K w (f (g v)) cs; rw [hfg]; exact hv, hok _ (by rw [hfg]; exact ho)⟩
/-- A type nested in itself. -/
theorem opens_fix {α : Type} {F : Kd α → Kd α} {sz : Nat} {E : List Nat} {hs : ∀ n, (Kd.upto F sz E n).sz = sz} {hE : ∀ n q, q ∈ (Kd.upto F sz E n).E → q ∈ E} {t : TypeId}
    (step : ∀ (d : Kd α) (n : Nat), d.sz = sz → (∀ m, m ≤ n → OpensAt P m d (fun _ => True) t) → ∀ m, m ≤ n + 1 → OpensAt P m (F d) (fun _ => True) t) : OpensAt P n (Kd.fix F sz E hs hE) (fun _ => True) t := by
  have key : ∀ n, ∀ m, m ≤ n → OpensAt P m (Kd.upto F sz E n) (fun _ => True) t := by
    intro n
    induction n with
    | zero =>
      intro m hm
      constructor
      intro H enc w base sp hd cs x hx
      obtain rfl : m = 0 := by omega
      simp [DataW.trod] at hx
    | succ n ih => exact fun m hm => step _ n (hs n) ih m hm
  constructor
  intro H enc w base sp hd cs x hx
  obtain ⟨v, hv, _⟩ := (key n n (Nat.le_refl _)).go hx
  exact ⟨v, ⟨n, hv⟩, trivial⟩
theorem opens_true {α : Type} {k : Kd α} {ok : α → Prop} {t : TypeId} (h : OpensAt P n k ok t) : OpensAt P n k (fun _ => True) t := by
  constructor
  intro H enc w base sp hd cs x hx
  obtain ⟨v, hv, _⟩ := h.go hx
  exact ⟨v, hv, trivial⟩
theorem fields_true {α : Type} {k : Kd α} {ok : α → Prop} {fs : List Field} {off : Nat} (h : FieldsAt P n k ok fs off) : FieldsAt P n k (fun _ => True) fs off := by
  constructor
  intro H enc w base sp hd cs hl hx
  obtain ⟨v, hv, _⟩ := h.go hl hx
  exact ⟨v, hv, trivial⟩
end
end Go.Proofs.Ythlcnllaclkflaa.Open
