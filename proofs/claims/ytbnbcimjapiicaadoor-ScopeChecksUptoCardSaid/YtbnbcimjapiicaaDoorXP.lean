/- Trees: what the chapter's functions compute, in plain Lean. -/
import Derived.Test.YtbnbcimjapiicaaDoorXT
set_option linter.unusedVariables false
namespace Go.X
open Go Go.RowKit

/-- Words, as bytes. -/
def wordsL : List (List UInt8) := [[105, 110, 116], [105, 102], [101, 108, 115, 101], [119, 104, 105, 108, 101], [102, 111, 114], [97, 115, 115, 101, 114, 116], [115, 116, 111, 112], [114, 97, 110, 107], [115, 105, 122, 101], [97, 110, 121], [118, 97, 108, 117, 101], [112, 101, 101, 114], [116, 97, 103], [102, 108, 97, 103], [105, 110, 100, 101, 120], [114, 101, 113], [99, 111, 109, 109], [114, 111, 119], [115, 117, 109], [109, 97, 120], [109, 105, 110], [115, 101, 110, 100], [115, 115, 101, 110, 100], [98, 115, 101, 110, 100], [105, 115, 101, 110, 100], [105, 115, 115, 101, 110, 100], [114, 101, 99, 118], [105, 114, 101, 99, 118], [112, 114, 111, 98, 101], [105, 112, 114, 111, 98, 101], [119, 97, 105, 116], [119, 97, 105, 116, 97, 108, 108], [119, 97, 105, 116, 97, 110, 121], [116, 101, 115, 116], [116, 101, 115, 116, 97, 110, 121], [98, 97, 114, 114, 105, 101, 114], [98, 99, 97, 115, 116], [114, 101, 100, 117, 99, 101], [97, 108, 108, 114, 101, 100, 117, 99, 101], [103, 97, 116, 104, 101, 114], [100, 117, 112], [115, 112, 108, 105, 116], [102, 114, 101, 101]]
def plainL : List (List UInt8) := [[114, 97, 110, 107], [115, 105, 122, 101], [97, 110, 121], [118, 97, 108, 117, 101], [112, 101, 101, 114], [116, 97, 103], [102, 108, 97, 103], [105, 110, 100, 101, 120], [114, 101, 113], [99, 111, 109, 109]]
/-- Texts as values. -/
def txt (b : List UInt8) : Value := .string ⟨b.toArray⟩
def letterP (c : UInt8) : Bool := decide (97 ≤ c.toNat) && decide (c.toNat ≤ 122)
def digitP (c : UInt8) : Bool := decide (48 ≤ c.toNat) && decide (c.toNat ≤ 57)
def alnumP (c : UInt8) : Bool := letterP c || digitP c
def nameP (b : ByteArray) : Bool := decide (1 ≤ b.size) && decide (b.size ≤ 12) && (b.data.toList.head?.any letterP) && b.data.toList.all alnumP && !wordsL.contains b.data.toList
def plainP (b : ByteArray) : Bool := plainL.contains b.data.toList
def sidesP (op : Int) : Nat := if 8 ≤ op ∧ op ≤ 20 then 2 else if op = 3 ∨ op = 4 ∨ op = 6 ∨ op = 7 then 1 else 0
/-- What an expression itself must be. -/
def Ex.own (e : Ex) : Bool :=
  decide (1 ≤ e.op) && decide (e.op ≤ 20) && decide (e.args.length = sidesP e.op) &&
    (if e.op = 1 then decide (0 ≤ e.num) && decide (e.num < 1000000000000000000) && decide (e.name.size = 0) else decide (e.num = 0) &&
      (if e.op = 2 ∨ e.op = 3 then nameP e.name else if e.op = 5 then plainP e.name else decide (e.name.size = 0)))
mutual
def Ex.may : Ex → Bool
  | ⟨op, num, name, s, args, line, col⟩ => Ex.own ⟨op, num, name, s, args, line, col⟩ && Ex.mayL args
def Ex.mayL : List Ex → Bool
  | [] => true
  | e :: r => Ex.may e && Ex.mayL r
end
mutual
def Ex.deep : Ex → Nat
  | ⟨_, _, _, _, args, _, _⟩ => Ex.deepL args + 1
def Ex.deepL : List Ex → Nat
  | [] => 0
  | e :: r => max (Ex.deep e) (Ex.deepL r)
end
def exW (op : Int) : Nat := if op = 19 ∨ op = 20 then 3 else 1
mutual
def Ex.steps : Ex → Nat
  | ⟨op, _, _, _, args, _, _⟩ => exW op + Ex.stepsL args
def Ex.stepsL : List Ex → Nat
  | [] => 0
  | e :: r => Ex.steps e + Ex.stepsL r
end
theorem Ex.may_eq (e : Ex) : e.may = (e.own && Ex.mayL e.args) := by obtain ⟨op, num, name, s, args, line, col⟩ := e; rw [Ex.may]
theorem Ex.mayL_eq : ∀ l : List Ex, Ex.mayL l = l.all Ex.may
  | [] => by simp [Ex.mayL]
  | e :: r => by simp [Ex.mayL, Ex.mayL_eq r]
theorem Ex.deep_eq (e : Ex) : e.deep = Ex.deepL e.args + 1 := by obtain ⟨op, num, name, s, args, line, col⟩ := e; rw [Ex.deep]
theorem Ex.steps_eq (e : Ex) : e.steps = exW e.op + Ex.stepsL e.args := by obtain ⟨op, num, name, s, args, line, col⟩ := e; rw [Ex.steps]
theorem Ex.deepL_snoc (l : List Ex) (e : Ex) : Ex.deepL (l ++ [e]) = max (Ex.deepL l) e.deep := by
  induction l with
  | nil => simp [Ex.deepL]
  | cons a r ih => rw [List.cons_append, Ex.deepL, Ex.deepL, ih]; omega
theorem Ex.stepsL_snoc (l : List Ex) (e : Ex) : Ex.stepsL (l ++ [e]) = Ex.stepsL l + e.steps := by
  induction l with
  | nil => simp [Ex.stepsL]
  | cons a r ih => rw [List.cons_append, Ex.stepsL, Ex.stepsL, ih]; omega
theorem Ex.szL_snoc (l : List Ex) (e : Ex) : Ex.szL (l ++ [e]) = Ex.szL l + e.sz := by
  induction l with
  | nil => simp [Ex.szL]
  | cons a r ih => rw [List.cons_append, Ex.szL, Ex.szL, ih]; omega
theorem Ex.szL_append (l m : List Ex) : Ex.szL (l ++ m) = Ex.szL l + Ex.szL m := by
  induction l with
  | nil => simp [Ex.szL]
  | cons a r ih => rw [List.cons_append, Ex.szL, Ex.szL, ih]; omega
theorem Ex.szL_at {l : List Ex} {i : Nat} {e : Ex} (h : l[i]? = some e) : Ex.szL (l.take i) + e.sz ≤ Ex.szL l := by
  induction l generalizing i with
  | nil => simp at h
  | cons a r ih =>
    cases i with
    | zero => simp at h; subst h; simp [Ex.szL]
    | succ i => have := ih (i := i) (by simpa using h); simp only [List.take_succ_cons, Ex.szL]; omega
theorem Ex.sz_pos (e : Ex) : 1 ≤ e.sz := by rw [Ex.sz_eq]; omega
theorem Ex.len_sz (l : List Ex) : l.length ≤ Ex.szL l := by
  induction l with
  | nil => simp
  | cons a r ih => have := a.sz_pos; simp only [Ex.szL, List.length_cons]; omega
theorem Ex.deep_sz : ∀ e : Ex, e.deep ≤ e.sz := by
  intro e
  induction e using Ex.ind with
  | h e ih =>
    rw [Ex.deep_eq, Ex.sz_eq]
    have : ∀ l : List Ex, (∀ a ∈ l, a.deep ≤ a.sz) → Ex.deepL l ≤ Ex.szL l := by
      intro l
      induction l with
      | nil => intro _; simp [Ex.deepL]
      | cons a r ihr =>
        intro h
        have h1 := h a (List.mem_cons_self ..)
        have h2 := ihr (fun b hb => h b (List.mem_cons_of_mem _ hb))
        simp only [Ex.deepL, Ex.szL]; omega
    have := this e.args ih
    omega
theorem Ex.deepL_sz (l : List Ex) : Ex.deepL l ≤ Ex.szL l := by
  induction l with
  | nil => simp [Ex.deepL]
  | cons a r ih => have := a.deep_sz; simp only [Ex.deepL, Ex.szL]; omega
theorem Ex.steps_sz : ∀ e : Ex, e.steps ≤ 3 * e.sz := by
  intro e
  induction e using Ex.ind with
  | h e ih =>
    rw [Ex.steps_eq, Ex.sz_eq]
    have : ∀ l : List Ex, (∀ a ∈ l, a.steps ≤ 3 * a.sz) → Ex.stepsL l ≤ 3 * Ex.szL l := by
      intro l
      induction l with
      | nil => intro _; simp [Ex.stepsL]
      | cons a r ihr =>
        intro h
        have h1 := h a (List.mem_cons_self ..)
        have h2 := ihr (fun b hb => h b (List.mem_cons_of_mem _ hb))
        simp only [Ex.stepsL, Ex.szL]; omega
    have := this e.args ih
    have : exW e.op ≤ 3 := by unfold exW; split <;> omega
    omega
theorem Ex.stepsL_sz (l : List Ex) : Ex.stepsL l ≤ 3 * Ex.szL l := by
  induction l with
  | nil => simp [Ex.stepsL]
  | cons a r ih => have := a.steps_sz; simp only [Ex.stepsL, Ex.szL]; omega
/-! How much there is. -/
mutual
def Ex.many : Ex → Nat
  | ⟨_, _, name, _, args, _, _⟩ => 1 + min name.size 30000 + Ex.manyL args
def Ex.manyL : List Ex → Nat
  | [] => 0
  | e :: r => Ex.many e + Ex.manyL r
end
theorem Ex.many_eq (e : Ex) : e.many = 1 + min e.name.size 30000 + Ex.manyL e.args := by obtain ⟨op, num, name, s, args, line, col⟩ := e; rw [Ex.many]
theorem Ex.manyL_snoc (l : List Ex) (e : Ex) : Ex.manyL (l ++ [e]) = Ex.manyL l + e.many := by
  induction l with
  | nil => simp [Ex.manyL]
  | cons a r ih => rw [List.cons_append, Ex.manyL, Ex.manyL, ih]; omega
theorem Ex.many_sz : ∀ e : Ex, e.many ≤ e.sz := by
  intro e
  induction e using Ex.ind with
  | h e ih =>
    rw [Ex.many_eq, Ex.sz_eq]
    have : ∀ l : List Ex, (∀ a ∈ l, a.many ≤ a.sz) → Ex.manyL l ≤ Ex.szL l := by
      intro l
      induction l with
      | nil => intro _; simp [Ex.manyL]
      | cons a r ihr =>
        intro h
        have h1 := h a (List.mem_cons_self ..)
        have h2 := ihr (fun b hb => h b (List.mem_cons_of_mem _ hb))
        simp only [Ex.manyL, Ex.szL]; omega
    have := this e.args ih
    omega
theorem Ex.manyL_sz (l : List Ex) : Ex.manyL l ≤ Ex.szL l := by
  induction l with
  | nil => simp [Ex.manyL]
  | cons a r ih => have := a.many_sz; simp only [Ex.manyL, Ex.szL]; omega
mutual
def St.many : St → Nat
  | ⟨_, _, _, name, _, _, exprs, _, body, _, els, _, _⟩ => 1 + min name.size 30000 + Ex.manyL exprs + St.manyL body + St.manyL els
def St.manyL : List St → Nat
  | [] => 0
  | e :: r => St.many e + St.manyL r
end
theorem St.many_eq (e : St) : e.many = 1 + min e.name.size 30000 + Ex.manyL e.exprs + St.manyL e.body + St.manyL e.els := by obtain ⟨op, kind, red, name, turns, es, exprs, bs, body, ls, els, line, col⟩ := e; rw [St.many]
theorem St.manyL_snoc (l : List St) (e : St) : St.manyL (l ++ [e]) = St.manyL l + e.many := by
  induction l with
  | nil => simp [St.manyL]
  | cons a r ih => rw [List.cons_append, St.manyL, St.manyL, ih]; omega
theorem St.many_szL {l : List St} (h : ∀ a ∈ l, a.many ≤ a.sz) : St.manyL l ≤ St.szL l := by
  induction l with
  | nil => simp [St.manyL]
  | cons a r ihr =>
    have h1 := h a (List.mem_cons_self ..)
    have h2 := ihr (fun b hb => h b (List.mem_cons_of_mem _ hb))
    simp only [St.manyL, St.szL]; omega
theorem St.many_sz : ∀ e : St, e.many ≤ e.sz := by
  intro e
  induction e using St.ind with
  | h e ih1 ih2 =>
    rw [St.many_eq, St.sz_eq]
    have h1 := St.many_szL ih1
    have h2 := St.many_szL ih2
    have h3 := Ex.manyL_sz e.exprs
    omega
theorem St.manyL_sz (l : List St) : St.manyL l ≤ St.szL l := St.many_szL fun a _ => a.many_sz
/-! Statements. -/
def Ex.allMay (l : List Ex) : Bool := l.all Ex.may
mutual
/-- How deep the blocks of statements are (0: none); the deepest expression. -/
def St.blocks : St → Nat
  | ⟨_, _, _, _, _, _, _, _, body, _, els, _, _⟩ => max (if body.length = 0 then 0 else St.blocksL' body + 1) (if els.length = 0 then 0 else St.blocksL' els + 1)
def St.blocksL' : List St → Nat
  | [] => 0
  | e :: r => max (St.blocks e) (St.blocksL' r)
end
def St.blocksL (l : List St) : Nat := if l.length = 0 then 0 else St.blocksL' l + 1
mutual
def St.exprD : St → Nat
  | ⟨_, _, _, _, _, _, exprs, _, body, _, els, _, _⟩ => max (Ex.deepL exprs) (max (St.exprDL body) (St.exprDL els))
def St.exprDL : List St → Nat
  | [] => 0
  | e :: r => max (St.exprD e) (St.exprDL r)
end
/-- The arguments of a call's kind: the fewest, the most. -/
def argsP (k : Int) : Nat × Nat :=
  if k = 1 ∨ k = 2 ∨ k = 3 ∨ k = 4 ∨ k = 5 then (5, 5) else if k = 6 ∨ k = 7 ∨ k = 13 ∨ k = 14 ∨ k = 16 ∨ k = 19 ∨ k = 17 ∨ k = 21 then (3, 3) else if k = 18 then (2, 2)
  else if k = 8 ∨ k = 11 ∨ k = 15 ∨ k = 20 ∨ k = 22 then (1, 1) else if k = 9 ∨ k = 10 ∨ k = 12 then (1, 8) else (0, 0)
def redsP (k : Int) : Bool := decide (k = 17 ∨ k = 18)
/-- What a statement itself must be. -/
def St.rng (e : St) : Option (Nat × Nat) :=
  if e.op = 1 ∨ e.op = 3 ∨ e.op = 4 ∨ e.op = 6 then some (1, 1) else if e.op = 2 then some (2, 2) else if e.op = 5 ∨ e.op = 7 then some (0, 0)
  else if e.op = 8 then (if (argsP e.kind).2 = 0 then none else some (argsP e.kind)) else none
def St.own (e : St) : Bool :=
  (match e.rng with | none => false | some (a, b) => decide (a ≤ e.exprs.length) && decide (e.exprs.length ≤ b)) &&
  (if e.op = 1 ∨ e.op = 2 ∨ e.op = 5 then nameP e.name else decide (e.name.size = 0)) &&
  (decide (e.op = 8) || (decide (e.kind = 0) && decide (e.red = 0))) && (decide (e.red = 0) || (redsP e.kind && decide (e.red ≤ 2))) &&
  decide (0 ≤ e.turns) && decide (e.turns ≤ 1000) && (decide (e.op = 5) || decide (e.turns = 0)) &&
  (decide (e.op = 3) || decide (e.els.length = 0)) && (decide (e.op = 3 ∨ e.op = 4 ∨ e.op = 5) || decide (e.body.length = 0))
mutual
def St.may : St → Bool
  | ⟨op, kind, red, name, turns, es, exprs, bs, body, ls, els, line, col⟩ => St.own ⟨op, kind, red, name, turns, es, exprs, bs, body, ls, els, line, col⟩ && Ex.mayL exprs && St.mayL body && St.mayL els
def St.mayL : List St → Bool
  | [] => true
  | e :: r => St.may e && St.mayL r
end
theorem St.may_eq (e : St) : e.may = (e.own && Ex.mayL e.exprs && St.mayL e.body && St.mayL e.els) := by obtain ⟨op, kind, red, name, turns, es, exprs, bs, body, ls, els, line, col⟩ := e; rw [St.may]
theorem St.mayL_eq : ∀ l : List St, St.mayL l = l.all St.may
  | [] => by simp [St.mayL]
  | e :: r => by simp [St.mayL, St.mayL_eq r]
theorem St.blocks_eq (e : St) : e.blocks = max (St.blocksL e.body) (St.blocksL e.els) := by obtain ⟨op, kind, red, name, turns, es, exprs, bs, body, ls, els, line, col⟩ := e; rw [St.blocks]; rfl
theorem St.exprD_eq (e : St) : e.exprD = max (Ex.deepL e.exprs) (max (St.exprDL e.body) (St.exprDL e.els)) := by obtain ⟨op, kind, red, name, turns, es, exprs, bs, body, ls, els, line, col⟩ := e; rw [St.exprD]
theorem St.blocksL'_snoc (l : List St) (e : St) : St.blocksL' (l ++ [e]) = max (St.blocksL' l) e.blocks := by
  induction l with
  | nil => simp [St.blocksL']
  | cons a r ih => rw [List.cons_append, St.blocksL', St.blocksL', ih]; omega
theorem St.exprDL_snoc (l : List St) (e : St) : St.exprDL (l ++ [e]) = max (St.exprDL l) e.exprD := by
  induction l with
  | nil => simp [St.exprDL]
  | cons a r ih => rw [List.cons_append, St.exprDL, St.exprDL, ih]; omega
theorem St.szL_at {l : List St} {i : Nat} {e : St} (h : l[i]? = some e) : St.szL (l.take i) + e.sz ≤ St.szL l := by
  induction l generalizing i with
  | nil => simp at h
  | cons a r ih =>
    cases i with
    | zero => simp at h; subst h; simp [St.szL]
    | succ i => have := ih (i := i) (by simpa using h); simp only [List.take_succ_cons, St.szL]; omega
theorem St.sz_pos (e : St) : 1 ≤ e.sz := by rw [St.sz_eq]; omega
theorem St.szL_mem {l : List St} {e : St} (h : e ∈ l) : e.sz ≤ St.szL l := by
  obtain ⟨i, hi, rfl⟩ := List.mem_iff_getElem.1 h
  have := St.szL_at (List.getElem?_eq_getElem hi)
  omega
theorem Ex.szL_mem {l : List Ex} {e : Ex} (h : e ∈ l) : e.sz ≤ Ex.szL l := by
  obtain ⟨i, hi, rfl⟩ := List.mem_iff_getElem.1 h
  have := Ex.szL_at (List.getElem?_eq_getElem hi)
  omega
theorem St.blocksL'_le {l : List St} (h : ∀ a ∈ l, a.blocks + 1 ≤ a.sz) : l.length = 0 ∨ St.blocksL' l + 1 ≤ St.szL l := by
  induction l with
  | nil => exact .inl rfl
  | cons a r ihr =>
    right
    have h1 := h a (List.mem_cons_self ..)
    rcases ihr (fun b hb => h b (List.mem_cons_of_mem _ hb)) with h2 | h2
    · obtain rfl : r = [] := List.length_eq_zero_iff.1 h2
      simp only [St.blocksL', St.szL]; omega
    · simp only [St.blocksL', St.szL]; omega
theorem St.blocksL_le {l : List St} (h : ∀ a ∈ l, a.blocks + 1 ≤ a.sz) : St.blocksL l ≤ St.szL l := by
  unfold St.blocksL
  split
  · omega
  · rcases St.blocksL'_le h with h2 | h2
    · omega
    · exact h2
theorem St.blocks_sz : ∀ e : St, e.blocks + 1 ≤ e.sz := by
  intro e
  induction e using St.ind with
  | h e ih1 ih2 =>
    rw [St.blocks_eq, St.sz_eq]
    have h1 := St.blocksL_le ih1
    have h2 := St.blocksL_le ih2
    omega
theorem St.blocksL_sz (l : List St) : St.blocksL l ≤ St.szL l := St.blocksL_le fun a _ => a.blocks_sz
theorem St.blocksL'_sz (l : List St) : St.blocksL' l ≤ St.szL l := by
  rcases St.blocksL'_le (l := l) (fun a _ => a.blocks_sz) with h | h
  · obtain rfl : l = [] := List.length_eq_zero_iff.1 h
    simp [St.blocksL']
  · omega
theorem St.exprDL_le {l : List St} (h : ∀ a ∈ l, a.exprD ≤ a.sz) : St.exprDL l ≤ St.szL l := by
  induction l with
  | nil => simp [St.exprDL]
  | cons a r ihr =>
    have h1 := h a (List.mem_cons_self ..)
    have h2 := ihr (fun b hb => h b (List.mem_cons_of_mem _ hb))
    simp only [St.exprDL, St.szL]; omega
theorem St.exprD_sz : ∀ e : St, e.exprD ≤ e.sz := by
  intro e
  induction e using St.ind with
  | h e ih1 ih2 =>
    rw [St.exprD_eq, St.sz_eq]
    have h1 := St.exprDL_le ih1
    have h2 := St.exprDL_le ih2
    have h3 := Ex.deepL_sz e.exprs
    omega
theorem St.exprDL_sz (l : List St) : St.exprDL l ≤ St.szL l := St.exprDL_le fun a _ => a.exprD_sz
/-- The chapter's depth, from a block's own on. -/
def St.deepAt (l : List St) (at_ : Nat) : Nat := if l.length = 0 then 0 else max (at_ + St.blocksL' l) (St.exprDL l)
theorem St.deepAt_one (l : List St) : St.deepAt l 1 = max (St.blocksL l) (St.exprDL l) := by
  unfold St.deepAt St.blocksL
  split
  · rename_i h
    obtain rfl : l = [] := List.length_eq_zero_iff.1 h
    simp [St.exprDL]
  · rw [Nat.add_comm]
theorem St.deepAt_snoc (l : List St) (e : St) (n : Nat) : St.deepAt (l ++ [e]) n = max (max (max (St.deepAt l n) n) (max (St.deepAt e.body (n + 1)) (St.deepAt e.els (n + 1)))) (Ex.deepL e.exprs) := by
  have hb : ∀ q : List St, St.deepAt q (n + 1) = if q.length = 0 then 0 else max (n + St.blocksL q) (St.exprDL q) := by
    intro q
    unfold St.deepAt St.blocksL
    split
    · rfl
    · congr 1; omega
  have hz : ∀ q : List St, q.length = 0 → St.exprDL q = 0 ∧ St.blocksL q = 0 := fun q h => by
    obtain rfl : q = [] := List.length_eq_zero_iff.1 h
    simp [St.exprDL, St.blocksL]
  rw [hb, hb]
  have h0 : (l ++ [e]).length ≠ 0 := by simp
  have hl0 : ∀ k, St.deepAt l n ≤ k ↔ (l.length ≠ 0 → n + St.blocksL' l ≤ k ∧ St.exprDL l ≤ k) := by
    intro k
    unfold St.deepAt
    split
    · simp [*]
    · rw [Nat.max_le]; simp [*]
  have hq : ∀ (q : List St) k, n ≤ k → ((if q.length = 0 then 0 else max (n + St.blocksL q) (St.exprDL q)) ≤ k ↔ (n + St.blocksL q ≤ k ∧ St.exprDL q ≤ k)) := by
    intro q k hk
    split
    · rename_i h
      have := hz q h
      rw [this.1, this.2]
      simp [hk]
    · rw [Nat.max_le]
  have hle : ∀ k, St.deepAt (l ++ [e]) n ≤ k ↔ max (max (max (St.deepAt l n) n) (max (if e.body.length = 0 then 0 else max (n + St.blocksL e.body) (St.exprDL e.body)) (if e.els.length = 0 then 0 else max (n + St.blocksL e.els) (St.exprDL e.els)))) (Ex.deepL e.exprs) ≤ k := by
    intro k
    rw [Nat.max_le, Nat.max_le, Nat.max_le, Nat.max_le, hl0]
    conv => lhs; unfold St.deepAt
    rw [if_neg h0, St.blocksL'_snoc, St.exprDL_snoc, St.blocks_eq, St.exprD_eq, Nat.max_le, Nat.max_le, Nat.max_le, Nat.max_le, ← Nat.add_max_add_left, ← Nat.add_max_add_left, Nat.max_le, Nat.max_le]
    constructor
    · rintro ⟨⟨h1, h2, h3⟩, h4, h5, h6, h7⟩
      have hn : n ≤ k := by omega
      rw [hq _ _ hn, hq _ _ hn]
      exact ⟨⟨⟨fun _ => ⟨h1, h4⟩, hn⟩, ⟨h2, h6⟩, h3, h7⟩, h5⟩
    · rintro ⟨⟨⟨h1, hn⟩, h2, h3⟩, h5⟩
      rw [hq _ _ hn] at h2 h3
      by_cases hl : l.length = 0
      · obtain rfl : l = [] := List.length_eq_zero_iff.1 hl
        exact ⟨⟨by simpa [St.blocksL'] using hn, h2.1, h3.1⟩, by simp [St.exprDL], h5, h2.2, h3.2⟩
      · exact ⟨⟨(h1 hl).1, h2.1, h3.1⟩, (h1 hl).2, h5, h2.2, h3.2⟩
  exact Nat.le_antisymm ((hle _).2 (Nat.le_refl _)) ((hle _).1 (Nat.le_refl _))
theorem St.deepAt_le (l : List St) (n : Nat) : St.deepAt l n ≤ n + St.szL l := by
  unfold St.deepAt
  split
  · omega
  · have := St.blocksL'_sz l
    have := St.exprDL_sz l
    omega
theorem St.szL_snoc (l : List St) (e : St) : St.szL (l ++ [e]) = St.szL l + e.sz := by
  induction l with
  | nil => simp [St.szL]
  | cons a r ih => rw [List.cons_append, St.szL, St.szL, ih]; omega
end Go.X
