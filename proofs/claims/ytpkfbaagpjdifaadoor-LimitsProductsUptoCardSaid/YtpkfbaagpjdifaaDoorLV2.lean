/- Several texts of this repo, one behind the other, without what is not used here. -/
import Derived.Test.YtpkfbaagpjdifaaDoorRows
import Derived.Laws.RangeAny
import Derived.MapKept
import Derived.Laws.StructEq
import Derived.Test.YtpkfbaagpjdifaaDoorLV1
set_option linter.unusedVariables false
namespace Go.X
open Go Go.RowKit
structure Ex where
  op : Int
  num : Int
  name : ByteArray
  s : Value
  args : List Ex
  line : Int
  col : Int
def Ex.cells (e : Ex) : List Value := [.int .u8 e.op, .int .i64 e.num, .string e.name, e.s, .int .i64 e.line, .int .i64 e.col]
def Ex.v (e : Ex) : Value := .agg e.cells.toArray
def Ex.fine (e : Ex) : Prop := (Lit.int .u8 e.op).wf = true ∧ (Lit.int .i64 e.num).wf = true ∧ e.name.size ≤ maxLen ∧ (Lit.int .i64 e.line).wf = true ∧ (Lit.int .i64 e.col).wf = true
mutual
def Ex.Ok (w : World) : Ex → Prop
  | ⟨op, num, name, s, args, line, col⟩ => reads w 6 s args.length (args.flatMap Ex.cells) ∧ Ex.fine ⟨op, num, name, s, args, line, col⟩ ∧ Ex.OkL w args
def Ex.OkL (w : World) : List Ex → Prop
  | [] => True
  | e :: r => Ex.Ok w e ∧ Ex.OkL w r
end
mutual
def Ex.sz : Ex → Nat
  | ⟨_, _, name, _, args, _, _⟩ => 1 + name.size + Ex.szL args
def Ex.szL : List Ex → Nat
  | [] => 0
  | e :: r => Ex.sz e + Ex.szL r
end
structure St where
  op : Int
  kind : Int
  red : Int
  name : ByteArray
  turns : Int
  es : Value
  exprs : List Ex
  bs : Value
  body : List St
  ls : Value
  els : List St
  line : Int
  col : Int
def St.cells (e : St) : List Value := [.int .u8 e.op, .int .u8 e.kind, .int .u8 e.red, .string e.name, .int .i64 e.turns, e.es, e.bs, e.ls, .int .i64 e.line, .int .i64 e.col]
def St.v (e : St) : Value := .agg e.cells.toArray
def St.fine (e : St) : Prop := (Lit.int .u8 e.op).wf = true ∧ (Lit.int .u8 e.kind).wf = true ∧ (Lit.int .u8 e.red).wf = true ∧ e.name.size ≤ maxLen ∧ (Lit.int .i64 e.turns).wf = true ∧ (Lit.int .i64 e.line).wf = true ∧ (Lit.int .i64 e.col).wf = true
mutual
def St.Ok (w : World) : St → Prop
  | ⟨op, kind, red, name, turns, es, exprs, bs, body, ls, els, line, col⟩ => (reads w 6 es exprs.length (exprs.flatMap Ex.cells) ∧ Ex.OkL w exprs) ∧ (reads w 10 bs body.length (body.flatMap St.cells) ∧ St.OkL w body) ∧ (reads w 10 ls els.length (els.flatMap St.cells) ∧ St.OkL w els) ∧ St.fine ⟨op, kind, red, name, turns, es, exprs, bs, body, ls, els, line, col⟩
def St.OkL (w : World) : List St → Prop
  | [] => True
  | e :: r => St.Ok w e ∧ St.OkL w r
end
mutual
def St.sz : St → Nat
  | ⟨_, _, _, name, _, _, exprs, _, body, _, els, _, _⟩ => 1 + name.size + Ex.szL exprs + St.szL body + St.szL els
def St.szL : List St → Nat
  | [] => 0
  | e :: r => St.sz e + St.szL r
end
theorem Ex.ind {Q : Ex → Prop} (h : ∀ e : Ex, (∀ a ∈ e.args, Q a) → Q e) : ∀ e, Q e := by
  intro e
  refine Ex.rec (motive_1 := Q) (motive_2 := fun l => ∀ a ∈ l, Q a) (fun op num name s args line col ih => h _ ih) (fun a ha => by cases ha) (fun e r he hr a ha => ?_) e
  rcases List.mem_cons.1 ha with rfl | ha
  · exact he
  · exact hr a ha
theorem St.ind {Q : St → Prop} (h : ∀ e : St, (∀ a ∈ e.body, Q a) → (∀ a ∈ e.els, Q a) → Q e) : ∀ e, Q e := by
  intro e
  refine St.rec (motive_1 := Q) (motive_2 := fun l => ∀ a ∈ l, Q a) (fun op kind red name turns es exprs bs body ls els line col ih1 ih2 => h _ ih1 ih2) (fun a ha => by cases ha) (fun e r he hr a ha => ?_) e
  rcases List.mem_cons.1 ha with rfl | ha
  · exact he
  · exact hr a ha
theorem Ex.okL {w : World} : ∀ {l : List Ex}, Ex.OkL w l ↔ ∀ a ∈ l, a.Ok w
  | [] => by simp [Ex.OkL]
  | e :: r => by simp [Ex.OkL, Ex.okL (l := r)]
theorem St.okL {w : World} : ∀ {l : List St}, St.OkL w l ↔ ∀ a ∈ l, a.Ok w
  | [] => by simp [St.OkL]
  | e :: r => by simp [St.OkL, St.okL (l := r)]
theorem Ex.ok {w : World} {e : Ex} : e.Ok w ↔ reads w 6 e.s e.args.length (e.args.flatMap Ex.cells) ∧ e.fine ∧ ∀ a ∈ e.args, a.Ok w := by
  obtain ⟨op, num, name, s, args, line, col⟩ := e
  rw [Ex.Ok, Ex.okL]
theorem St.ok {w : World} {e : St} : e.Ok w ↔ (reads w 6 e.es e.exprs.length (e.exprs.flatMap Ex.cells) ∧ ∀ a ∈ e.exprs, a.Ok w) ∧ (reads w 10 e.bs e.body.length (e.body.flatMap St.cells) ∧ ∀ a ∈ e.body, a.Ok w) ∧ (reads w 10 e.ls e.els.length (e.els.flatMap St.cells) ∧ ∀ a ∈ e.els, a.Ok w) ∧ e.fine := by
  obtain ⟨op, kind, red, name, turns, es, exprs, bs, body, ls, els, line, col⟩ := e
  rw [St.Ok, Ex.okL, St.okL, St.okL]
theorem Ex.Ok.mod {w w' : World} (hm : Mod none_ w w') : ∀ {e : Ex}, e.Ok w → e.Ok w' := by
  intro e
  induction e using Ex.ind with
  | h e ih =>
    intro h
    obtain ⟨h1, h2, h3⟩ := Ex.ok.1 h
    exact Ex.ok.2 ⟨reads_mod h1 hm (fun _ _ _ => id), h2, fun a ha => ih a ha (h3 a ha)⟩
theorem St.Ok.mod {w w' : World} (hm : Mod none_ w w') : ∀ {e : St}, e.Ok w → e.Ok w' := by
  intro e
  induction e using St.ind with
  | h e ih1 ih2 =>
    intro h
    obtain ⟨⟨h1, h2⟩, ⟨h3, h4⟩, ⟨h5, h6⟩, h7⟩ := St.ok.1 h
    exact St.ok.2 ⟨⟨reads_mod h1 hm (fun _ _ _ => id), fun a ha => (h2 a ha).mod hm⟩, ⟨reads_mod h3 hm (fun _ _ _ => id), fun a ha => ih1 a ha (h4 a ha)⟩, ⟨reads_mod h5 hm (fun _ _ _ => id), fun a ha => ih2 a ha (h6 a ha)⟩, h7⟩
def ExsOk (w : World) (s : Value) (l : List Ex) : Prop := reads w 6 s l.length (l.flatMap Ex.cells) ∧ ∀ a ∈ l, a.Ok w
def StsOk (w : World) (s : Value) (l : List St) : Prop := reads w 10 s l.length (l.flatMap St.cells) ∧ ∀ a ∈ l, a.Ok w
theorem ExsOk.mod {w w' : World} {s : Value} {l : List Ex} (h : ExsOk w s l) (hm : Mod none_ w w') : ExsOk w' s l := ⟨reads_mod h.1 hm (fun _ _ _ => id), fun a ha => (h.2 a ha).mod hm⟩
theorem StsOk.mod {w w' : World} {s : Value} {l : List St} (h : StsOk w s l) (hm : Mod none_ w w') : StsOk w' s l := ⟨reads_mod h.1 hm (fun _ _ _ => id), fun a ha => (h.2 a ha).mod hm⟩
theorem Ex.Ok.args {w : World} {e : Ex} (h : e.Ok w) : ExsOk w e.s e.args := ⟨(Ex.ok.1 h).1, (Ex.ok.1 h).2.2⟩
theorem Ex.Ok.fine {w : World} {e : Ex} (h : e.Ok w) : e.fine := (Ex.ok.1 h).2.1
theorem St.Ok.exprs {w : World} {e : St} (h : e.Ok w) : ExsOk w e.es e.exprs := (St.ok.1 h).1
theorem St.Ok.body {w : World} {e : St} (h : e.Ok w) : StsOk w e.bs e.body := (St.ok.1 h).2.1
theorem St.Ok.els {w : World} {e : St} (h : e.Ok w) : StsOk w e.ls e.els := (St.ok.1 h).2.2.1
theorem St.Ok.fine {w : World} {e : St} (h : e.Ok w) : e.fine := (St.ok.1 h).2.2.2
theorem Ex.cells_len (e : Ex) : e.cells.length = 6 := rfl
theorem St.cells_len (e : St) : e.cells.length = 10 := rfl
theorem ExsOk.at {w : World} {s : Value} {l : List Ex} (h : ExsOk w s l) {i : Nat} {e : Ex} (hi : l[i]? = some e) : e.Ok w := h.2 e (List.mem_of_getElem? hi)
theorem StsOk.at {w : World} {s : Value} {l : List St} (h : StsOk w s l) {i : Nat} {e : St} (hi : l[i]? = some e) : e.Ok w := h.2 e (List.mem_of_getElem? hi)
theorem Ex.sz_eq (e : Ex) : e.sz = 1 + e.name.size + Ex.szL e.args := by obtain ⟨op, num, name, s, args, line, col⟩ := e; rw [Ex.sz]
theorem St.sz_eq (e : St) : e.sz = 1 + e.name.size + Ex.szL e.exprs + St.szL e.body + St.szL e.els := by obtain ⟨op, kind, red, name, turns, es, exprs, bs, body, ls, els, line, col⟩ := e; rw [St.sz]
theorem Ex.szL_eq : ∀ l : List Ex, Ex.szL l = (l.map Ex.sz).sum
  | [] => by simp [Ex.szL]
  | e :: r => by simp [Ex.szL, Ex.szL_eq r]
theorem St.szL_eq : ∀ l : List St, St.szL l = (l.map St.sz).sum
  | [] => by simp [St.szL]
  | e :: r => by simp [St.szL, St.szL_eq r]
theorem Ex.c0 (e : Ex) : e.cells[0]? = some (.int .u8 e.op) := rfl
theorem Ex.c1 (e : Ex) : e.cells[1]? = some (.int .i64 e.num) := rfl
theorem Ex.c2 (e : Ex) : e.cells[2]? = some (.string e.name) := rfl
theorem Ex.c3 (e : Ex) : e.cells[3]? = some e.s := rfl
theorem Ex.c4 (e : Ex) : e.cells[4]? = some (.int .i64 e.line) := rfl
theorem Ex.c5 (e : Ex) : e.cells[5]? = some (.int .i64 e.col) := rfl
theorem St.c0 (e : St) : e.cells[0]? = some (.int .u8 e.op) := rfl
theorem St.c1 (e : St) : e.cells[1]? = some (.int .u8 e.kind) := rfl
theorem St.c2 (e : St) : e.cells[2]? = some (.int .u8 e.red) := rfl
theorem St.c3 (e : St) : e.cells[3]? = some (.string e.name) := rfl
theorem St.c4 (e : St) : e.cells[4]? = some (.int .i64 e.turns) := rfl
theorem St.c5 (e : St) : e.cells[5]? = some e.es := rfl
theorem St.c6 (e : St) : e.cells[6]? = some e.bs := rfl
theorem St.c7 (e : St) : e.cells[7]? = some e.ls := rfl
theorem St.c8 (e : St) : e.cells[8]? = some (.int .i64 e.line) := rfl
theorem St.c9 (e : St) : e.cells[9]? = some (.int .i64 e.col) := rfl
end Go.X
set_option linter.unusedVariables false
namespace Go.X
open Go Go.RowKit
def wordsL : List (List UInt8) := [[105, 110, 116], [105, 102], [101, 108, 115, 101], [119, 104, 105, 108, 101], [102, 111, 114], [97, 115, 115, 101, 114, 116], [115, 116, 111, 112], [114, 97, 110, 107], [115, 105, 122, 101], [97, 110, 121], [118, 97, 108, 117, 101], [112, 101, 101, 114], [116, 97, 103], [102, 108, 97, 103], [105, 110, 100, 101, 120], [114, 101, 113], [99, 111, 109, 109], [114, 111, 119], [115, 117, 109], [109, 97, 120], [109, 105, 110], [115, 101, 110, 100], [115, 115, 101, 110, 100], [98, 115, 101, 110, 100], [105, 115, 101, 110, 100], [105, 115, 115, 101, 110, 100], [114, 101, 99, 118], [105, 114, 101, 99, 118], [112, 114, 111, 98, 101], [105, 112, 114, 111, 98, 101], [119, 97, 105, 116], [119, 97, 105, 116, 97, 108, 108], [119, 97, 105, 116, 97, 110, 121], [116, 101, 115, 116], [116, 101, 115, 116, 97, 110, 121], [98, 97, 114, 114, 105, 101, 114], [98, 99, 97, 115, 116], [114, 101, 100, 117, 99, 101], [97, 108, 108, 114, 101, 100, 117, 99, 101], [103, 97, 116, 104, 101, 114], [100, 117, 112], [115, 112, 108, 105, 116], [102, 114, 101, 101]]
def plainL : List (List UInt8) := [[114, 97, 110, 107], [115, 105, 122, 101], [97, 110, 121], [118, 97, 108, 117, 101], [112, 101, 101, 114], [116, 97, 103], [102, 108, 97, 103], [105, 110, 100, 101, 120], [114, 101, 113], [99, 111, 109, 109]]
def txt (b : List UInt8) : Value := .string ⟨b.toArray⟩
def letterP (c : UInt8) : Bool := decide (97 ≤ c.toNat) && decide (c.toNat ≤ 122)
def digitP (c : UInt8) : Bool := decide (48 ≤ c.toNat) && decide (c.toNat ≤ 57)
def alnumP (c : UInt8) : Bool := letterP c || digitP c
def nameP (b : ByteArray) : Bool := decide (1 ≤ b.size) && decide (b.size ≤ 12) && (b.data.toList.head?.any letterP) && b.data.toList.all alnumP && !wordsL.contains b.data.toList
def plainP (b : ByteArray) : Bool := plainL.contains b.data.toList
def sidesP (op : Int) : Nat := if 8 ≤ op ∧ op ≤ 20 then 2 else if op = 3 ∨ op = 4 ∨ op = 6 ∨ op = 7 then 1 else 0
def Ex.own (e : Ex) : Bool :=
  decide (1 ≤ e.op) && decide (e.op ≤ 20) && decide (e.args.length = sidesP e.op) &&
    (if e.op = 1 then decide (0 ≤ e.num) && decide (e.num < 1000000000000000000) && decide (e.name.size = 0) else decide (e.num = 0) &&
      (if e.op = 2 ∨ e.op = 3 then nameP e.name else if e.op = 5 then plainP e.name else decide (e.name.size = 0)))
mutual
def Ex.may : Ex → Bool
  | ⟨op, num, name, s, args, line, col⟩ => Ex.own ⟨op, num, name, s, args, line, col⟩ && Ex.mayL args
def Ex.mayL : List Ex → Bool
  | [] => true
  | e :: r => Ex.may e && Ex.mayL r
end
mutual
def Ex.deep : Ex → Nat
  | ⟨_, _, _, _, args, _, _⟩ => Ex.deepL args + 1
def Ex.deepL : List Ex → Nat
  | [] => 0
  | e :: r => max (Ex.deep e) (Ex.deepL r)
end
def exW (op : Int) : Nat := if op = 19 ∨ op = 20 then 3 else 1
mutual
def Ex.steps : Ex → Nat
  | ⟨op, _, _, _, args, _, _⟩ => exW op + Ex.stepsL args
def Ex.stepsL : List Ex → Nat
  | [] => 0
  | e :: r => Ex.steps e + Ex.stepsL r
end
theorem Ex.may_eq (e : Ex) : e.may = (e.own && Ex.mayL e.args) := by obtain ⟨op, num, name, s, args, line, col⟩ := e; rw [Ex.may]
theorem Ex.mayL_eq : ∀ l : List Ex, Ex.mayL l = l.all Ex.may
  | [] => by simp [Ex.mayL]
  | e :: r => by simp [Ex.mayL, Ex.mayL_eq r]
theorem Ex.deep_eq (e : Ex) : e.deep = Ex.deepL e.args + 1 := by obtain ⟨op, num, name, s, args, line, col⟩ := e; rw [Ex.deep]
theorem Ex.steps_eq (e : Ex) : e.steps = exW e.op + Ex.stepsL e.args := by obtain ⟨op, num, name, s, args, line, col⟩ := e; rw [Ex.steps]
theorem Ex.deepL_snoc (l : List Ex) (e : Ex) : Ex.deepL (l ++ [e]) = max (Ex.deepL l) e.deep := by
  induction l with
  | nil => simp [Ex.deepL]
  | cons a r ih => rw [List.cons_append, Ex.deepL, Ex.deepL, ih]; omega
theorem Ex.stepsL_snoc (l : List Ex) (e : Ex) : Ex.stepsL (l ++ [e]) = Ex.stepsL l + e.steps := by
  induction l with
  | nil => simp [Ex.stepsL]
  | cons a r ih => rw [List.cons_append, Ex.stepsL, Ex.stepsL, ih]; omega
theorem Ex.szL_at {l : List Ex} {i : Nat} {e : Ex} (h : l[i]? = some e) : Ex.szL (l.take i) + e.sz ≤ Ex.szL l := by
  induction l generalizing i with
  | nil => simp at h
  | cons a r ih =>
    cases i with
    | zero => simp at h; subst h; simp [Ex.szL]
    | succ i => have := ih (i := i) (by simpa using h); simp only [List.take_succ_cons, Ex.szL]; omega
theorem Ex.sz_pos (e : Ex) : 1 ≤ e.sz := by rw [Ex.sz_eq]; omega
theorem Ex.len_sz (l : List Ex) : l.length ≤ Ex.szL l := by
  induction l with
  | nil => simp
  | cons a r ih => have := a.sz_pos; simp only [Ex.szL, List.length_cons]; omega
theorem Ex.deep_sz : ∀ e : Ex, e.deep ≤ e.sz := by
  intro e
  induction e using Ex.ind with
  | h e ih =>
    rw [Ex.deep_eq, Ex.sz_eq]
    have : ∀ l : List Ex, (∀ a ∈ l, a.deep ≤ a.sz) → Ex.deepL l ≤ Ex.szL l := by
      intro l
      induction l with
      | nil => intro _; simp [Ex.deepL]
      | cons a r ihr =>
        intro h
        have h1 := h a (List.mem_cons_self ..)
        have h2 := ihr (fun b hb => h b (List.mem_cons_of_mem _ hb))
        simp only [Ex.deepL, Ex.szL]; omega
    have := this e.args ih
    omega
theorem Ex.deepL_sz (l : List Ex) : Ex.deepL l ≤ Ex.szL l := by
  induction l with
  | nil => simp [Ex.deepL]
  | cons a r ih => have := a.deep_sz; simp only [Ex.deepL, Ex.szL]; omega
theorem Ex.steps_sz : ∀ e : Ex, e.steps ≤ 3 * e.sz := by
  intro e
  induction e using Ex.ind with
  | h e ih =>
    rw [Ex.steps_eq, Ex.sz_eq]
    have : ∀ l : List Ex, (∀ a ∈ l, a.steps ≤ 3 * a.sz) → Ex.stepsL l ≤ 3 * Ex.szL l := by
      intro l
      induction l with
      | nil => intro _; simp [Ex.stepsL]
      | cons a r ihr =>
        intro h
        have h1 := h a (List.mem_cons_self ..)
        have h2 := ihr (fun b hb => h b (List.mem_cons_of_mem _ hb))
        simp only [Ex.stepsL, Ex.szL]; omega
    have := this e.args ih
    have : exW e.op ≤ 3 := by unfold exW; split <;> omega
    omega
theorem Ex.stepsL_sz (l : List Ex) : Ex.stepsL l ≤ 3 * Ex.szL l := by
  induction l with
  | nil => simp [Ex.stepsL]
  | cons a r ih => have := a.steps_sz; simp only [Ex.stepsL, Ex.szL]; omega
mutual
def Ex.many : Ex → Nat
  | ⟨_, _, name, _, args, _, _⟩ => 1 + min name.size 30000 + Ex.manyL args
def Ex.manyL : List Ex → Nat
  | [] => 0
  | e :: r => Ex.many e + Ex.manyL r
end
theorem Ex.many_eq (e : Ex) : e.many = 1 + min e.name.size 30000 + Ex.manyL e.args := by obtain ⟨op, num, name, s, args, line, col⟩ := e; rw [Ex.many]
theorem Ex.manyL_snoc (l : List Ex) (e : Ex) : Ex.manyL (l ++ [e]) = Ex.manyL l + e.many := by
  induction l with
  | nil => simp [Ex.manyL]
  | cons a r ih => rw [List.cons_append, Ex.manyL, Ex.manyL, ih]; omega
theorem Ex.many_sz : ∀ e : Ex, e.many ≤ e.sz := by
  intro e
  induction e using Ex.ind with
  | h e ih =>
    rw [Ex.many_eq, Ex.sz_eq]
    have : ∀ l : List Ex, (∀ a ∈ l, a.many ≤ a.sz) → Ex.manyL l ≤ Ex.szL l := by
      intro l
      induction l with
      | nil => intro _; simp [Ex.manyL]
      | cons a r ihr =>
        intro h
        have h1 := h a (List.mem_cons_self ..)
        have h2 := ihr (fun b hb => h b (List.mem_cons_of_mem _ hb))
        simp only [Ex.manyL, Ex.szL]; omega
    have := this e.args ih
    omega
theorem Ex.manyL_sz (l : List Ex) : Ex.manyL l ≤ Ex.szL l := by
  induction l with
  | nil => simp [Ex.manyL]
  | cons a r ih => have := a.many_sz; simp only [Ex.manyL, Ex.szL]; omega
mutual
def St.many : St → Nat
  | ⟨_, _, _, name, _, _, exprs, _, body, _, els, _, _⟩ => 1 + min name.size 30000 + Ex.manyL exprs + St.manyL body + St.manyL els
def St.manyL : List St → Nat
  | [] => 0
  | e :: r => St.many e + St.manyL r
end
theorem St.many_eq (e : St) : e.many = 1 + min e.name.size 30000 + Ex.manyL e.exprs + St.manyL e.body + St.manyL e.els := by obtain ⟨op, kind, red, name, turns, es, exprs, bs, body, ls, els, line, col⟩ := e; rw [St.many]
theorem St.manyL_snoc (l : List St) (e : St) : St.manyL (l ++ [e]) = St.manyL l + e.many := by
  induction l with
  | nil => simp [St.manyL]
  | cons a r ih => rw [List.cons_append, St.manyL, St.manyL, ih]; omega
theorem St.many_szL {l : List St} (h : ∀ a ∈ l, a.many ≤ a.sz) : St.manyL l ≤ St.szL l := by
  induction l with
  | nil => simp [St.manyL]
  | cons a r ihr =>
    have h1 := h a (List.mem_cons_self ..)
    have h2 := ihr (fun b hb => h b (List.mem_cons_of_mem _ hb))
    simp only [St.manyL, St.szL]; omega
theorem St.many_sz : ∀ e : St, e.many ≤ e.sz := by
  intro e
  induction e using St.ind with
  | h e ih1 ih2 =>
    rw [St.many_eq, St.sz_eq]
    have h1 := St.many_szL ih1
    have h2 := St.many_szL ih2
    have h3 := Ex.manyL_sz e.exprs
    omega
theorem St.manyL_sz (l : List St) : St.manyL l ≤ St.szL l := St.many_szL fun a _ => a.many_sz
mutual
def St.blocks : St → Nat
  | ⟨_, _, _, _, _, _, _, _, body, _, els, _, _⟩ => max (if body.length = 0 then 0 else St.blocksL' body + 1) (if els.length = 0 then 0 else St.blocksL' els + 1)
def St.blocksL' : List St → Nat
  | [] => 0
  | e :: r => max (St.blocks e) (St.blocksL' r)
end
def St.blocksL (l : List St) : Nat := if l.length = 0 then 0 else St.blocksL' l + 1
mutual
def St.exprD : St → Nat
  | ⟨_, _, _, _, _, _, exprs, _, body, _, els, _, _⟩ => max (Ex.deepL exprs) (max (St.exprDL body) (St.exprDL els))
def St.exprDL : List St → Nat
  | [] => 0
  | e :: r => max (St.exprD e) (St.exprDL r)
end
def argsP (k : Int) : Nat × Nat :=
  if k = 1 ∨ k = 2 ∨ k = 3 ∨ k = 4 ∨ k = 5 then (5, 5) else if k = 6 ∨ k = 7 ∨ k = 13 ∨ k = 14 ∨ k = 16 ∨ k = 19 ∨ k = 17 ∨ k = 21 then (3, 3) else if k = 18 then (2, 2)
  else if k = 8 ∨ k = 11 ∨ k = 15 ∨ k = 20 ∨ k = 22 then (1, 1) else if k = 9 ∨ k = 10 ∨ k = 12 then (1, 8) else (0, 0)
def redsP (k : Int) : Bool := decide (k = 17 ∨ k = 18)
def St.rng (e : St) : Option (Nat × Nat) :=
  if e.op = 1 ∨ e.op = 3 ∨ e.op = 4 ∨ e.op = 6 then some (1, 1) else if e.op = 2 then some (2, 2) else if e.op = 5 ∨ e.op = 7 then some (0, 0)
  else if e.op = 8 then (if (argsP e.kind).2 = 0 then none else some (argsP e.kind)) else none
def St.own (e : St) : Bool :=
  (match e.rng with | none => false | some (a, b) => decide (a ≤ e.exprs.length) && decide (e.exprs.length ≤ b)) &&
  (if e.op = 1 ∨ e.op = 2 ∨ e.op = 5 then nameP e.name else decide (e.name.size = 0)) &&
  (decide (e.op = 8) || (decide (e.kind = 0) && decide (e.red = 0))) && (decide (e.red = 0) || (redsP e.kind && decide (e.red ≤ 2))) &&
  decide (0 ≤ e.turns) && decide (e.turns ≤ 1000) && (decide (e.op = 5) || decide (e.turns = 0)) &&
  (decide (e.op = 3) || decide (e.els.length = 0)) && (decide (e.op = 3 ∨ e.op = 4 ∨ e.op = 5) || decide (e.body.length = 0))
mutual
def St.may : St → Bool
  | ⟨op, kind, red, name, turns, es, exprs, bs, body, ls, els, line, col⟩ => St.own ⟨op, kind, red, name, turns, es, exprs, bs, body, ls, els, line, col⟩ && Ex.mayL exprs && St.mayL body && St.mayL els
def St.mayL : List St → Bool
  | [] => true
  | e :: r => St.may e && St.mayL r
end
theorem St.may_eq (e : St) : e.may = (e.own && Ex.mayL e.exprs && St.mayL e.body && St.mayL e.els) := by obtain ⟨op, kind, red, name, turns, es, exprs, bs, body, ls, els, line, col⟩ := e; rw [St.may]
theorem St.mayL_eq : ∀ l : List St, St.mayL l = l.all St.may
  | [] => by simp [St.mayL]
  | e :: r => by simp [St.mayL, St.mayL_eq r]
theorem St.blocks_eq (e : St) : e.blocks = max (St.blocksL e.body) (St.blocksL e.els) := by obtain ⟨op, kind, red, name, turns, es, exprs, bs, body, ls, els, line, col⟩ := e; rw [St.blocks]; rfl
theorem St.exprD_eq (e : St) : e.exprD = max (Ex.deepL e.exprs) (max (St.exprDL e.body) (St.exprDL e.els)) := by obtain ⟨op, kind, red, name, turns, es, exprs, bs, body, ls, els, line, col⟩ := e; rw [St.exprD]
theorem St.blocksL'_snoc (l : List St) (e : St) : St.blocksL' (l ++ [e]) = max (St.blocksL' l) e.blocks := by
  induction l with
  | nil => simp [St.blocksL']
  | cons a r ih => rw [List.cons_append, St.blocksL', St.blocksL', ih]; omega
theorem St.exprDL_snoc (l : List St) (e : St) : St.exprDL (l ++ [e]) = max (St.exprDL l) e.exprD := by
  induction l with
  | nil => simp [St.exprDL]
  | cons a r ih => rw [List.cons_append, St.exprDL, St.exprDL, ih]; omega
theorem St.szL_at {l : List St} {i : Nat} {e : St} (h : l[i]? = some e) : St.szL (l.take i) + e.sz ≤ St.szL l := by
  induction l generalizing i with
  | nil => simp at h
  | cons a r ih =>
    cases i with
    | zero => simp at h; subst h; simp [St.szL]
    | succ i => have := ih (i := i) (by simpa using h); simp only [List.take_succ_cons, St.szL]; omega
theorem St.sz_pos (e : St) : 1 ≤ e.sz := by rw [St.sz_eq]; omega
theorem St.szL_mem {l : List St} {e : St} (h : e ∈ l) : e.sz ≤ St.szL l := by
  obtain ⟨i, hi, rfl⟩ := List.mem_iff_getElem.1 h
  have := St.szL_at (List.getElem?_eq_getElem hi)
  omega
theorem Ex.szL_mem {l : List Ex} {e : Ex} (h : e ∈ l) : e.sz ≤ Ex.szL l := by
  obtain ⟨i, hi, rfl⟩ := List.mem_iff_getElem.1 h
  have := Ex.szL_at (List.getElem?_eq_getElem hi)
  omega
theorem St.blocksL'_le {l : List St} (h : ∀ a ∈ l, a.blocks + 1 ≤ a.sz) : l.length = 0 ∨ St.blocksL' l + 1 ≤ St.szL l := by
  induction l with
  | nil => exact .inl rfl
  | cons a r ihr =>
    right
    have h1 := h a (List.mem_cons_self ..)
    rcases ihr (fun b hb => h b (List.mem_cons_of_mem _ hb)) with h2 | h2
    · obtain rfl : r = [] := List.length_eq_zero_iff.1 h2
      simp only [St.blocksL', St.szL]; omega
    · simp only [St.blocksL', St.szL]; omega
theorem St.blocksL_le {l : List St} (h : ∀ a ∈ l, a.blocks + 1 ≤ a.sz) : St.blocksL l ≤ St.szL l := by
  unfold St.blocksL
  split
  · omega
  · rcases St.blocksL'_le h with h2 | h2
    · omega
    · exact h2
theorem St.blocks_sz : ∀ e : St, e.blocks + 1 ≤ e.sz := by
  intro e
  induction e using St.ind with
  | h e ih1 ih2 =>
    rw [St.blocks_eq, St.sz_eq]
    have h1 := St.blocksL_le ih1
    have h2 := St.blocksL_le ih2
    omega
theorem St.blocksL_sz (l : List St) : St.blocksL l ≤ St.szL l := St.blocksL_le fun a _ => a.blocks_sz
theorem St.blocksL'_sz (l : List St) : St.blocksL' l ≤ St.szL l := by
  rcases St.blocksL'_le (l := l) (fun a _ => a.blocks_sz) with h | h
  · obtain rfl : l = [] := List.length_eq_zero_iff.1 h
    simp [St.blocksL']
  · omega
theorem St.exprDL_le {l : List St} (h : ∀ a ∈ l, a.exprD ≤ a.sz) : St.exprDL l ≤ St.szL l := by
  induction l with
  | nil => simp [St.exprDL]
  | cons a r ihr =>
    have h1 := h a (List.mem_cons_self ..)
    have h2 := ihr (fun b hb => h b (List.mem_cons_of_mem _ hb))
    simp only [St.exprDL, St.szL]; omega
theorem St.exprD_sz : ∀ e : St, e.exprD ≤ e.sz := by
  intro e
  induction e using St.ind with
  | h e ih1 ih2 =>
    rw [St.exprD_eq, St.sz_eq]
    have h1 := St.exprDL_le ih1
    have h2 := St.exprDL_le ih2
    have h3 := Ex.deepL_sz e.exprs
    omega
theorem St.exprDL_sz (l : List St) : St.exprDL l ≤ St.szL l := St.exprDL_le fun a _ => a.exprD_sz
def St.deepAt (l : List St) (at_ : Nat) : Nat := if l.length = 0 then 0 else max (at_ + St.blocksL' l) (St.exprDL l)
theorem St.deepAt_one (l : List St) : St.deepAt l 1 = max (St.blocksL l) (St.exprDL l) := by
  unfold St.deepAt St.blocksL
  split
  · rename_i h
    obtain rfl : l = [] := List.length_eq_zero_iff.1 h
    simp [St.exprDL]
  · rw [Nat.add_comm]
theorem St.deepAt_snoc (l : List St) (e : St) (n : Nat) : St.deepAt (l ++ [e]) n = max (max (max (St.deepAt l n) n) (max (St.deepAt e.body (n + 1)) (St.deepAt e.els (n + 1)))) (Ex.deepL e.exprs) := by
  have hb : ∀ q : List St, St.deepAt q (n + 1) = if q.length = 0 then 0 else max (n + St.blocksL q) (St.exprDL q) := by
    intro q
    unfold St.deepAt St.blocksL
    split
    · rfl
    · congr 1; omega
  have hz : ∀ q : List St, q.length = 0 → St.exprDL q = 0 ∧ St.blocksL q = 0 := fun q h => by
    obtain rfl : q = [] := List.length_eq_zero_iff.1 h
    simp [St.exprDL, St.blocksL]
  rw [hb, hb]
  have h0 : (l ++ [e]).length ≠ 0 := by simp
  have hl0 : ∀ k, St.deepAt l n ≤ k ↔ (l.length ≠ 0 → n + St.blocksL' l ≤ k ∧ St.exprDL l ≤ k) := by
    intro k
    unfold St.deepAt
    split
    · simp [*]
    · rw [Nat.max_le]; simp [*]
  have hq : ∀ (q : List St) k, n ≤ k → ((if q.length = 0 then 0 else max (n + St.blocksL q) (St.exprDL q)) ≤ k ↔ (n + St.blocksL q ≤ k ∧ St.exprDL q ≤ k)) := by
    intro q k hk
    split
    · rename_i h
      have := hz q h
      rw [this.1, this.2]
      simp [hk]
    · rw [Nat.max_le]
  have hle : ∀ k, St.deepAt (l ++ [e]) n ≤ k ↔ max (max (max (St.deepAt l n) n) (max (if e.body.length = 0 then 0 else max (n + St.blocksL e.body) (St.exprDL e.body)) (if e.els.length = 0 then 0 else max (n + St.blocksL e.els) (St.exprDL e.els)))) (Ex.deepL e.exprs) ≤ k := by
    intro k
    rw [Nat.max_le, Nat.max_le, Nat.max_le, Nat.max_le, hl0]
    conv => lhs; unfold St.deepAt
    rw [if_neg h0, St.blocksL'_snoc, St.exprDL_snoc, St.blocks_eq, St.exprD_eq, Nat.max_le, Nat.max_le, Nat.max_le, Nat.max_le, ← Nat.add_max_add_left, ← Nat.add_max_add_left, Nat.max_le, Nat.max_le]
    constructor
    · rintro ⟨⟨h1, h2, h3⟩, h4, h5, h6, h7⟩
      have hn : n ≤ k := by omega
      rw [hq _ _ hn, hq _ _ hn]
      exact ⟨⟨⟨fun _ => ⟨h1, h4⟩, hn⟩, ⟨h2, h6⟩, h3, h7⟩, h5⟩
    · rintro ⟨⟨⟨h1, hn⟩, h2, h3⟩, h5⟩
      rw [hq _ _ hn] at h2 h3
      by_cases hl : l.length = 0
      · obtain rfl : l = [] := List.length_eq_zero_iff.1 hl
        exact ⟨⟨by simpa [St.blocksL'] using hn, h2.1, h3.1⟩, by simp [St.exprDL], h5, h2.2, h3.2⟩
      · exact ⟨⟨(h1 hl).1, h2.1, h3.1⟩, (h1 hl).2, h5, h2.2, h3.2⟩
  exact Nat.le_antisymm ((hle _).2 (Nat.le_refl _)) ((hle _).1 (Nat.le_refl _))
theorem St.deepAt_le (l : List St) (n : Nat) : St.deepAt l n ≤ n + St.szL l := by
  unfold St.deepAt
  split
  · omega
  · have := St.blocksL'_sz l
    have := St.exprDL_sz l
    omega
end Go.X
set_option linter.unusedVariables false
set_option linter.unusedSimpArgs false
set_option maxRecDepth 4000
namespace Go.Proofs.YtpkfbaagpjdifaaDoor.Tr
open Go Go.X Go.RowKit Go.Proofs.YtpkfbaagpjdifaaDoor.XF Go.Proofs.YtpkfbaagpjdifaaDoor.XK
theorem letter_ok (c : Int) (w : World) : Rt Tryd.prog 28 #[.int .i32 c] w fun v w' => v = .bool (decide (97 ≤ c) && decide (c ≤ 122)) ∧ w' = w := by
  refine scan_letter_calls ?_
  unfold scan_letter_F
  by_cases h : (97 : Int) ≤ c <;> simp only [CondK_bool, MG_u, NG_u, VG_u, UG_u, PG_u, BG_u, CG_u, IG_u, MG_b, NG_b, VG_b, UG_b, PG_b, BG_b, CG_b, IG_b, PK_bool, NK_ptr, not_ok, reduceCtorEq, if_true, if_false, Bool.true_eq_false, Bool.false_eq_true, Bool.not_true, Bool.not_false, fo25_0, fo25_1, fo25_2, fo25_3, fo25_4, fo25_5, fo25_6, fo25_7, fo29_0, fo29_1, fo29_2, fo29_3, fo34_0, fo34_1, fo43_0, fo43_1, ld2, ld3, ld5, ld9, ld22, ld23, ld32, len9, len22, len23, len32, len91, ldK_some, cellE, blkC_c, add_pl, Nat.zero_add, List.getElem?_toArray, List.getElem?_cons_succ, List.getElem?_cons_zero, BK_lss, BK_leq, BK_gtr, BK_geq, BK_eql, BK_neq, BK_add, BK_sub, BK_eqlS, BK_neqS, decide_true, decide_false, Bool.and_true, Bool.true_and, Bool.and_false, Bool.false_and, Bool.or_true, Bool.true_or, Bool.or_false, Bool.false_or, ite_true, ite_false, h, and_self]
theorem digit_ok (c : Int) (w : World) : Rt Tryd.prog 52 #[.int .i32 c] w fun v w' => v = .bool (decide (48 ≤ c) && decide (c ≤ 57)) ∧ w' = w := by
  refine scan_digit_calls ?_
  unfold scan_digit_F
  by_cases h : (48 : Int) ≤ c <;> simp only [CondK_bool, MG_u, NG_u, VG_u, UG_u, PG_u, BG_u, CG_u, IG_u, MG_b, NG_b, VG_b, UG_b, PG_b, BG_b, CG_b, IG_b, PK_bool, NK_ptr, not_ok, reduceCtorEq, if_true, if_false, Bool.true_eq_false, Bool.false_eq_true, Bool.not_true, Bool.not_false, fo25_0, fo25_1, fo25_2, fo25_3, fo25_4, fo25_5, fo25_6, fo25_7, fo29_0, fo29_1, fo29_2, fo29_3, fo34_0, fo34_1, fo43_0, fo43_1, ld2, ld3, ld5, ld9, ld22, ld23, ld32, len9, len22, len23, len32, len91, ldK_some, cellE, blkC_c, add_pl, Nat.zero_add, List.getElem?_toArray, List.getElem?_cons_succ, List.getElem?_cons_zero, BK_lss, BK_leq, BK_gtr, BK_geq, BK_eql, BK_neq, BK_add, BK_sub, BK_eqlS, BK_neqS, decide_true, decide_false, Bool.and_true, Bool.true_and, Bool.and_false, Bool.false_and, Bool.or_true, Bool.true_or, Bool.or_false, Bool.false_or, ite_true, ite_false, h, and_self]
theorem letterR_ok (c : Int) (w : World) : Rt Tryd.prog 61 #[.int .u8 c] w fun v w' => v = .bool (decide (97 ≤ c) && decide (c ≤ 122)) ∧ w' = w := by
  refine dispatcherref01_letter_calls ?_
  unfold dispatcherref01_letter_F
  by_cases h : (97 : Int) ≤ c <;> simp only [CondK_bool, MG_u, NG_u, VG_u, UG_u, PG_u, BG_u, CG_u, IG_u, MG_b, NG_b, VG_b, UG_b, PG_b, BG_b, CG_b, IG_b, PK_bool, NK_ptr, not_ok, reduceCtorEq, if_true, if_false, Bool.true_eq_false, Bool.false_eq_true, Bool.not_true, Bool.not_false, fo25_0, fo25_1, fo25_2, fo25_3, fo25_4, fo25_5, fo25_6, fo25_7, fo29_0, fo29_1, fo29_2, fo29_3, fo34_0, fo34_1, fo43_0, fo43_1, ld2, ld3, ld5, ld9, ld22, ld23, ld32, len9, len22, len23, len32, len91, ldK_some, cellE, blkC_c, add_pl, Nat.zero_add, List.getElem?_toArray, List.getElem?_cons_succ, List.getElem?_cons_zero, BK_lss, BK_leq, BK_gtr, BK_geq, BK_eql, BK_neq, BK_add, BK_sub, BK_eqlS, BK_neqS, decide_true, decide_false, Bool.and_true, Bool.true_and, Bool.and_false, Bool.false_and, Bool.or_true, Bool.true_or, Bool.or_false, Bool.false_or, ite_true, ite_false, h, and_self]
theorem digitR_ok (c : Int) (w : World) : Rt Tryd.prog 62 #[.int .u8 c] w fun v w' => v = .bool (decide (48 ≤ c) && decide (c ≤ 57)) ∧ w' = w := by
  refine dispatcherref01_digit_calls ?_
  unfold dispatcherref01_digit_F
  by_cases h : (48 : Int) ≤ c <;> simp only [CondK_bool, MG_u, NG_u, VG_u, UG_u, PG_u, BG_u, CG_u, IG_u, MG_b, NG_b, VG_b, UG_b, PG_b, BG_b, CG_b, IG_b, PK_bool, NK_ptr, not_ok, reduceCtorEq, if_true, if_false, Bool.true_eq_false, Bool.false_eq_true, Bool.not_true, Bool.not_false, fo25_0, fo25_1, fo25_2, fo25_3, fo25_4, fo25_5, fo25_6, fo25_7, fo29_0, fo29_1, fo29_2, fo29_3, fo34_0, fo34_1, fo43_0, fo43_1, ld2, ld3, ld5, ld9, ld22, ld23, ld32, len9, len22, len23, len32, len91, ldK_some, cellE, blkC_c, add_pl, Nat.zero_add, List.getElem?_toArray, List.getElem?_cons_succ, List.getElem?_cons_zero, BK_lss, BK_leq, BK_gtr, BK_geq, BK_eql, BK_neq, BK_add, BK_sub, BK_eqlS, BK_neqS, decide_true, decide_false, Bool.and_true, Bool.true_and, Bool.and_false, Bool.false_and, Bool.or_true, Bool.true_or, Bool.or_false, Bool.false_or, ite_true, ite_false, h, and_self]
theorem named_ok (c : Int) (w : World) : Rt Tryd.prog 27 #[.int .i32 c] w fun v w' => v = .bool ((decide (97 ≤ c) && decide (c ≤ 122)) || (decide (48 ≤ c) && decide (c ≤ 57))) ∧ w' = w := by
  refine scan_named_calls ?_
  unfold scan_named_F
  refine CK_st Tryd.func28 rfl rfl (letter_ok c w) ?_
  rintro _ w ⟨rfl, rfl⟩
  cases h : (decide (97 ≤ c) && decide (c ≤ 122)) with
  | true => simp only [CondK_bool, MG_u, NG_u, VG_u, UG_u, PG_u, BG_u, CG_u, IG_u, MG_b, NG_b, VG_b, UG_b, PG_b, BG_b, CG_b, IG_b, PK_bool, NK_ptr, not_ok, reduceCtorEq, if_true, if_false, Bool.true_eq_false, Bool.false_eq_true, Bool.not_true, Bool.not_false, fo25_0, fo25_1, fo25_2, fo25_3, fo25_4, fo25_5, fo25_6, fo25_7, fo29_0, fo29_1, fo29_2, fo29_3, fo34_0, fo34_1, fo43_0, fo43_1, ld2, ld3, ld5, ld9, ld22, ld23, ld32, len9, len22, len23, len32, len91, ldK_some, cellE, blkC_c, add_pl, Nat.zero_add, List.getElem?_toArray, List.getElem?_cons_succ, List.getElem?_cons_zero, BK_lss, BK_leq, BK_gtr, BK_geq, BK_eql, BK_neq, BK_add, BK_sub, BK_eqlS, BK_neqS, decide_true, decide_false, Bool.and_true, Bool.true_and, Bool.and_false, Bool.false_and, Bool.or_true, Bool.true_or, Bool.or_false, Bool.false_or, ite_true, ite_false, and_self]
  | false =>
    simp only [CondK_bool, MG_u, NG_u, VG_u, UG_u, PG_u, BG_u, CG_u, IG_u, MG_b, NG_b, VG_b, UG_b, PG_b, BG_b, CG_b, IG_b, PK_bool, NK_ptr, not_ok, reduceCtorEq, if_true, if_false, Bool.true_eq_false, Bool.false_eq_true, Bool.not_true, Bool.not_false, fo25_0, fo25_1, fo25_2, fo25_3, fo25_4, fo25_5, fo25_6, fo25_7, fo29_0, fo29_1, fo29_2, fo29_3, fo34_0, fo34_1, fo43_0, fo43_1, ld2, ld3, ld5, ld9, ld22, ld23, ld32, len9, len22, len23, len32, len91, ldK_some, cellE, blkC_c, add_pl, Nat.zero_add, List.getElem?_toArray, List.getElem?_cons_succ, List.getElem?_cons_zero, BK_lss, BK_leq, BK_gtr, BK_geq, BK_eql, BK_neq, BK_add, BK_sub, BK_eqlS, BK_neqS, decide_true, decide_false, Bool.and_true, Bool.true_and, Bool.and_false, Bool.false_and, Bool.or_true, Bool.true_or, Bool.or_false, Bool.false_or, ite_true, ite_false]
    refine CK_st Tryd.func52 rfl rfl (digit_ok c w) ?_
    rintro _ w ⟨rfl, rfl⟩
    simp only [CondK_bool, MG_u, NG_u, VG_u, UG_u, PG_u, BG_u, CG_u, IG_u, MG_b, NG_b, VG_b, UG_b, PG_b, BG_b, CG_b, IG_b, PK_bool, NK_ptr, not_ok, reduceCtorEq, if_true, if_false, Bool.true_eq_false, Bool.false_eq_true, Bool.not_true, Bool.not_false, fo25_0, fo25_1, fo25_2, fo25_3, fo25_4, fo25_5, fo25_6, fo25_7, fo29_0, fo29_1, fo29_2, fo29_3, fo34_0, fo34_1, fo43_0, fo43_1, ld2, ld3, ld5, ld9, ld22, ld23, ld32, len9, len22, len23, len32, len91, ldK_some, cellE, blkC_c, add_pl, Nat.zero_add, List.getElem?_toArray, List.getElem?_cons_succ, List.getElem?_cons_zero, BK_lss, BK_leq, BK_gtr, BK_geq, BK_eql, BK_neq, BK_add, BK_sub, BK_eqlS, BK_neqS, decide_true, decide_false, Bool.and_true, Bool.true_and, Bool.and_false, Bool.false_and, Bool.or_true, Bool.true_or, Bool.or_false, Bool.false_or, ite_true, ite_false, and_self]
theorem sides_ok (op : Int) (w : World) : Rt Tryd.prog 79 #[.int .u8 op] w fun v w' => v = .int .i64 (sidesP op) ∧ w' = w := by
  refine tree_sides_calls ?_
  unfold tree_sides_F
  by_cases h : 8 ≤ op <;> by_cases h1 : op ≤ 20 <;> simp only [CondK_bool, MG_u, NG_u, VG_u, UG_u, PG_u, BG_u, CG_u, IG_u, MG_b, NG_b, VG_b, UG_b, PG_b, BG_b, CG_b, IG_b, PK_bool, NK_ptr, not_ok, reduceCtorEq, if_true, if_false, Bool.true_eq_false, Bool.false_eq_true, Bool.not_true, Bool.not_false, fo25_0, fo25_1, fo25_2, fo25_3, fo25_4, fo25_5, fo25_6, fo25_7, fo29_0, fo29_1, fo29_2, fo29_3, fo34_0, fo34_1, fo43_0, fo43_1, ld2, ld3, ld5, ld9, ld22, ld23, ld32, len9, len22, len23, len32, len91, ldK_some, cellE, blkC_c, add_pl, Nat.zero_add, List.getElem?_toArray, List.getElem?_cons_succ, List.getElem?_cons_zero, BK_lss, BK_leq, BK_gtr, BK_geq, BK_eql, BK_neq, BK_add, BK_sub, BK_eqlS, BK_neqS, decide_true, decide_false, Bool.and_true, Bool.true_and, Bool.and_false, Bool.false_and, Bool.or_true, Bool.true_or, Bool.or_false, Bool.false_or, ite_true, ite_false, h, h1] <;> first | (simp [sidesP, h, h1]; done) | skip
  all_goals by_cases h3 : op = 3 <;> by_cases h4 : op = 4 <;> by_cases h6 : op = 6 <;> by_cases h7 : op = 7 <;> simp [CondK_bool, MG_u, NG_u, VG_u, UG_u, PG_u, BG_u, CG_u, IG_u, MG_b, NG_b, VG_b, UG_b, PG_b, BG_b, CG_b, IG_b, PK_bool, NK_ptr, not_ok, reduceCtorEq, if_true, if_false, Bool.true_eq_false, Bool.false_eq_true, Bool.not_true, Bool.not_false, fo25_0, fo25_1, fo25_2, fo25_3, fo25_4, fo25_5, fo25_6, fo25_7, fo29_0, fo29_1, fo29_2, fo29_3, fo34_0, fo34_1, fo43_0, fo43_1, ld2, ld3, ld5, ld9, ld22, ld23, ld32, len9, len22, len23, len32, len91, ldK_some, cellE, blkC_c, add_pl, Nat.zero_add, List.getElem?_toArray, List.getElem?_cons_succ, List.getElem?_cons_zero, BK_lss, BK_leq, BK_gtr, BK_geq, BK_eql, BK_neq, BK_add, BK_sub, BK_eqlS, BK_neqS, decide_true, decide_false, Bool.and_true, Bool.true_and, Bool.and_false, Bool.false_and, Bool.or_true, Bool.true_or, Bool.or_false, Bool.false_or, ite_true, ite_false, beq_iff_eq, h3, h4, h6, h7, sidesP] <;> first | omega | (split <;> omega)
end Go.Proofs.YtpkfbaagpjdifaaDoor.Tr
set_option linter.unusedVariables false
set_option maxRecDepth 4000
namespace Go.Proofs.YtpkfbaagpjdifaaDoor.Tr
open Go Go.X Go.RowKit
theorem bulkAll_sum {H : Type} : ∀ l : List (DataW H), Rows.uptoBulkAll l = (l.map Rows.uptoBulk).sum
  | [] => by simp [Rows.uptoBulkAll]
  | d :: r => by simp [Rows.uptoBulkAll, bulkAll_sum r]
def U : Bulk where
  B := Rows.uptoBulk
  one := fun d => by
    cases d with
    | lit l => cases l <;> simp [Rows.uptoBulk]
    | nil => simp [Rows.uptoBulk]
    | ptr d => simp [Rows.uptoBulk]
    | slice elems spare => simp [Rows.uptoBulk]
    | agg parts => simp [Rows.uptoBulk]
    | iface t d => simp [Rows.uptoBulk]
    | map entries => simp [Rows.uptoBulk]
    | held h => simp [Rows.uptoBulk]
  str := fun b => by simp [Rows.uptoBulk]
  slice := fun es sp => by simp only [Rows.uptoBulk, bulkAll_sum]; omega
  agg := fun es => by simp only [Rows.uptoBulk, bulkAll_sum]; omega
def shEx : ShM Ex := ⟨⟨6, fun w e cs => cs = e.cells ∧ e.Ok w⟩, Ex.sz⟩
def shSt : ShM St := ⟨⟨10, fun w e cs => cs = e.cells ∧ e.Ok w⟩, St.sz⟩
theorem uU8 : Tryd.prog.underlying 5 = some (.int .u8) := by kernel_rfl
theorem uI : Tryd.prog.underlying 3 = some (.int .i64) := by kernel_rfl
theorem uI64 : Tryd.prog.underlying 2 = some (.int .i64) := by kernel_rfl
theorem uS : Tryd.prog.underlying 9 = some .string := by kernel_rfl
theorem uExs : Tryd.prog.underlying 22 = some (.slice 29) := by kernel_rfl
theorem uSts : Tryd.prog.underlying 23 = some (.slice 25) := by kernel_rfl
theorem cEx : Tryd.prog.cellsOf 29 = 6 := by kernel_rfl
theorem cSt : Tryd.prog.cellsOf 25 = 10 := by kernel_rfl
theorem exs_of {w : World} {x : Value × List Ex} {cs : List Value} (h : (Sh.slice shEx.toSh).K w x cs) : ExsOk w x.1 x.2 :=
  ⟨reads_sh h Ex.cells Ex.cells_len (fun a d hk => hk.1), fun a ha => by obtain ⟨d, hd⟩ := mem_sh h a ha; exact hd.2⟩
theorem sts_of {w : World} {x : Value × List St} {cs : List Value} (h : (Sh.slice shSt.toSh).K w x cs) : StsOk w x.1 x.2 :=
  ⟨reads_sh h St.cells St.cells_len (fun a d hk => hk.1), fun a ha => by obtain ⟨d, hd⟩ := mem_sh h a ha; exact hd.2⟩
theorem opensEx : ∀ n, OpensM U Tryd.prog n shEx 29 := by
  intro n
  induction n using Nat.strongRecOn with
  | ind n ih =>
    exact opensM_as (opensM_struct Tryd.underlying29 (by kernel_rfl) (fun m hm => fieldsM_cons rfl (by kernel_rfl) (opensM_int uU8) (fieldsM_cons rfl (by kernel_rfl) (opensM_int uI64) (fieldsM_cons rfl (by kernel_rfl) (opensM_string uS)
      (fieldsM_cons rfl (by kernel_rfl) (opensM_slice uExs cEx (fun k hk => ih k (by omega))) (fieldsM_cons rfl (by kernel_rfl) (opensM_int uI) (fieldsM_one rfl (by kernel_rfl) (opensM_int uI))))))))
      (fun x => (⟨x.1, x.2.1, x.2.2.1, x.2.2.2.1.1, x.2.2.2.1.2, x.2.2.2.2.1, x.2.2.2.2.2⟩ : Ex))
      (fun w v cs h => by
        obtain ⟨c0, d0, rfl, _, ⟨rfl, h0⟩, c1, d1, rfl, _, ⟨rfl, h1⟩, c2, d2, rfl, _, ⟨rfl, h2⟩, c3, d3, rfl, _, h3, c4, d4, rfl, _, ⟨rfl, h4⟩, rfl, h5⟩ := h
        have h3' := exs_of h3
        obtain ⟨rfl, _⟩ := h3
        exact ⟨rfl, Ex.ok.2 ⟨h3'.1, ⟨h0, h1, h2, h4, h5⟩, h3'.2⟩⟩)
      (fun v => by
        show Ex.sz _ ≤ _
        rw [Ex.sz_eq, Ex.szL_eq]
        show 1 + _ + _ ≤ (1 + (1 + ((_ + 1) + ((_ + 1) + (1 + 1))))) + 1
        show 1 + v.2.2.1.size + (v.2.2.2.1.2.map Ex.sz).sum ≤ (1 + (1 + ((v.2.2.1.size + 1) + (((v.2.2.2.1.2.map Ex.sz).sum + 1) + (1 + 1))))) + 1
        omega)
theorem opensSt : ∀ n, OpensM U Tryd.prog n shSt 25 := by
  intro n
  induction n using Nat.strongRecOn with
  | ind n ih =>
    exact opensM_as (opensM_struct Tryd.underlying25 (by kernel_rfl) (fun m hm => fieldsM_cons rfl (by kernel_rfl) (opensM_int uU8) (fieldsM_cons rfl (by kernel_rfl) (opensM_int uU8) (fieldsM_cons rfl (by kernel_rfl) (opensM_int uU8)
      (fieldsM_cons rfl (by kernel_rfl) (opensM_string uS) (fieldsM_cons rfl (by kernel_rfl) (opensM_int uI) (fieldsM_cons rfl (by kernel_rfl) (opensM_slice uExs cEx (fun k hk => opensEx k)) (fieldsM_cons rfl (by kernel_rfl) (opensM_slice uSts cSt (fun k hk => ih k (by omega)))
      (fieldsM_cons rfl (by kernel_rfl) (opensM_slice uSts cSt (fun k hk => ih k (by omega))) (fieldsM_cons rfl (by kernel_rfl) (opensM_int uI) (fieldsM_one rfl (by kernel_rfl) (opensM_int uI))))))))))))
      (fun x => (⟨x.1, x.2.1, x.2.2.1, x.2.2.2.1, x.2.2.2.2.1, x.2.2.2.2.2.1.1, x.2.2.2.2.2.1.2, x.2.2.2.2.2.2.1.1, x.2.2.2.2.2.2.1.2, x.2.2.2.2.2.2.2.1.1, x.2.2.2.2.2.2.2.1.2, x.2.2.2.2.2.2.2.2.1, x.2.2.2.2.2.2.2.2.2⟩ : St))
      (fun w v cs h => by
        obtain ⟨c0, d0, rfl, _, ⟨rfl, h0⟩, c1, d1, rfl, _, ⟨rfl, h1⟩, c2, d2, rfl, _, ⟨rfl, h2⟩, c3, d3, rfl, _, ⟨rfl, h3⟩, c4, d4, rfl, _, ⟨rfl, h4⟩, c5, d5, rfl, _, h5, c6, d6, rfl, _, h6, c7, d7, rfl, _, h7, c8, d8, rfl, _, ⟨rfl, h8⟩, rfl, h9⟩ := h
        have h5' := exs_of h5
        have h6' := sts_of h6
        have h7' := sts_of h7
        obtain ⟨rfl, _⟩ := h5
        obtain ⟨rfl, _⟩ := h6
        obtain ⟨rfl, _⟩ := h7
        exact ⟨rfl, St.ok.2 ⟨h5', h6', h7', h0, h1, h2, h3, h4, h8, h9⟩⟩)
      (fun v => by
        show St.sz _ ≤ _
        rw [St.sz_eq, Ex.szL_eq, St.szL_eq, St.szL_eq]
        show 1 + v.2.2.2.1.size + (v.2.2.2.2.2.1.2.map Ex.sz).sum + (v.2.2.2.2.2.2.1.2.map St.sz).sum + (v.2.2.2.2.2.2.2.1.2.map St.sz).sum ≤ (1 + (1 + (1 + ((v.2.2.2.1.size + 1) + (1 + (((v.2.2.2.2.2.1.2.map Ex.sz).sum + 1) + (((v.2.2.2.2.2.2.1.2.map St.sz).sum + 1) + (((v.2.2.2.2.2.2.2.1.2.map St.sz).sum + 1) + (1 + 1))))))))) + 1
        omega)
end Go.Proofs.YtpkfbaagpjdifaaDoor.Tr
set_option linter.unusedVariables false
set_option linter.unusedSimpArgs false
set_option maxRecDepth 4000
namespace Go.Proofs.YtpkfbaagpjdifaaDoor.Tr
open Go Go.X Go.RowKit Go.Proofs.YtpkfbaagpjdifaaDoor.XF Go.Proofs.YtpkfbaagpjdifaaDoor.XK
def At (w : World) (g : Nat) (xs : List Value) : Prop := ∀ j u, xs[j]? = some u → w.cell? ⟨g, j, none⟩ = some u
theorem At.mod {w w' : World} {g : Nat} {xs : List Value} (h : At w g xs) (hm : Mod none_ w w') : At w' g xs := fun j u hu => by
  have h0 := h j u hu
  exact (World.cell?_of_block (hm.block _ (World.block_lt_of_cell? _ _ h0) id)).trans h0
def argsC : List Value := [.int .i64 5, .int .i64 5, .int .i64 5, .int .i64 5, .int .i64 5, .int .i64 3, .int .i64 3, .int .i64 1, .int .i64 (-1), .int .i64 (-1), .int .i64 1, .int .i64 (-1), .int .i64 3, .int .i64 3, .int .i64 1, .int .i64 3, .int .i64 3, .int .i64 2, .int .i64 3, .int .i64 1, .int .i64 3, .int .i64 1]
structure Gl (w : World) : Prop where
  words : At w 0 (wordsL.map txt)
  args : At w 1 argsC
  plain : At w 2 (plainL.map txt)
theorem Gl.mod {w w' : World} (h : Gl w) (hm : Mod none_ w w') : Gl w' := ⟨h.words.mod hm, h.args.mod hm, h.plain.mod hm⟩
theorem uSs : Tryd.prog.underlying 91 = some (.slice 9) := by kernel_rfl
theorem cS : Tryd.prog.cellsOf 9 = 0 + 1 := by kernel_rfl
theorem reads_at {w : World} {g n : Nat} {xs : List Value} (h : At w g xs) (hn : xs.length = n) : reads w 1 (.slice (some ⟨g, 0, none⟩) n n) n xs :=
  ⟨by omega, _, _, rfl, Nat.le_refl _, fun j u hu => ⟨_, rfl, by rw [add_pl, Nat.zero_add]; exact h j u hu⟩⟩
def IdxS (b : ByteArray) (l : List (List UInt8)) (r : Int) : Prop := (0 ≤ r ∧ b.data.toList ∈ l) ∨ (r = -1 ∧ b.data.toList ∉ l)
theorem Index_ok {w : World} {s : Value} {l : List (List UInt8)} (b : ByteArray) (h : reads w 1 s l.length (l.map txt)) (hlen : l.length ≤ 1000) :
    Rt Tryd.prog 77 #[s, .string b] w fun v w' => (∃ r, v = .int .i64 r ∧ IdxS b l r) ∧ w' = w := by
  obtain ⟨A, c, rfl, _⟩ := reads_cap h
  refine slices_Index_string_string_calls ?_
  unfold slices_Index_string_string_F
  simp only [fo25_0, fo25_1, fo25_2, fo25_3, fo25_4, fo25_5, fo25_6, fo25_7, fo29_0, fo29_1, fo29_2, fo29_3, fo34_0, fo34_1, fo43_0, fo43_1, ld2, ld3, ld5, ld9, ld22, ld23, ld32, len9, len22, len23, len32, len91, ldK_some, cellE, blkC_c, add_pl, Nat.zero_add, List.getElem?_toArray, List.getElem?_cons_succ, List.getElem?_cons_zero]
  refine W_loop slices_Index_string_string_L0_ok (fun ρ w' => ∃ n : Nat, n ≤ l.length ∧ ρ 8 = .int .i64 n ∧ ρ 7 = .int .i64 l.length ∧ ρ 0 = .slice A l.length c ∧ ρ 1 = .string b ∧ b.data.toList ∉ l.take n ∧ w' = w) (fun ρ _ => l.length - (intOf (ρ 8)).toNat)
    ⟨0, Nat.zero_le _, rfl, rfl, rfl, rfl, by simp, rfl⟩ ?_
  rintro ρ w ⟨n, hn, h8, h7, h0, h1, hno, rfl⟩
  rw [slices_Index_string_string_L0_eq]
  unfold slices_Index_string_string_L0_F
  simp only [h8, h7, h0, h1, BK_lss]
  by_cases hlt : n < l.length
  · rw [show decide ((n : Int) < (l.length : Int)) = true by simp; omega]
    simp only [CondK_bool, MG_u, NG_u, VG_u, UG_u, PG_u, BG_u, CG_u, IG_u, MG_b, NG_b, VG_b, UG_b, PG_b, BG_b, CG_b, IG_b, PK_bool, NK_ptr, not_ok, reduceCtorEq, if_true, if_false, Bool.true_eq_false, Bool.false_eq_true, Bool.not_true, Bool.not_false]
    have hx : l[n]? = some l[n] := List.getElem?_eq_getElem hlt
    refine ixld uSs cS uS rfl h (by omega) (u := txt l[n]) (by rw [show ((n : Int).toNat) = n by omega, List.getElem?_map, hx]; rfl) fun y => ?_
    unfold txt
    rw [BK_eqlS, ByteArray.toList_eq, ByteArray.toList_eq]
    by_cases he : b.data.toList = l[n]
    · rw [show (b.data.toList == (⟨l[n].toArray⟩ : ByteArray).data.toList) = true by simpa using he]
      simp only [CondK_bool, MG_u, NG_u, VG_u, UG_u, PG_u, BG_u, CG_u, IG_u, MG_b, NG_b, VG_b, UG_b, PG_b, BG_b, CG_b, IG_b, PK_bool, NK_ptr, not_ok, reduceCtorEq, if_true, if_false, Bool.true_eq_false, Bool.false_eq_true, Bool.not_true, Bool.not_false, sq_n, sq_x, sq_r, bk_n, bk_r, bk_x, rt_r, rt_n, rs_0, rs_t, pk_1, pk_2, up_at, reduceIte, Nat.reduceEqDiff]
      exact ⟨⟨_, rfl, .inl ⟨by omega, he ▸ List.getElem_mem hlt⟩⟩, trivial⟩
    · rw [show (b.data.toList == (⟨l[n].toArray⟩ : ByteArray).data.toList) = false by simpa using he]
      simp only [CondK_bool, MG_u, NG_u, VG_u, UG_u, PG_u, BG_u, CG_u, IG_u, MG_b, NG_b, VG_b, UG_b, PG_b, BG_b, CG_b, IG_b, PK_bool, NK_ptr, not_ok, reduceCtorEq, if_true, if_false, Bool.true_eq_false, Bool.false_eq_true, Bool.not_true, Bool.not_false]
      rw [BK_add, wrap_i (by omega) (by omega)]
      refine ⟨⟨n + 1, hlt, rfl, h7, h0, h1, ?_, rfl⟩, ?_⟩
      · rw [List.take_add_one, hx, Option.toList_some]
        intro q
        rcases List.mem_append.1 q with q | q
        · exact hno q
        · exact he (by simpa using q)
      · simp only [sq_n, sq_x, sq_r, bk_n, bk_r, bk_x, rt_r, rt_n, rs_0, rs_t, pk_1, pk_2, up_at, reduceIte, Nat.reduceEqDiff, intOf]; omega
  · obtain rfl : n = l.length := by omega
    rw [show decide (((l.length : Nat) : Int) < (l.length : Int)) = false by simp]
    simp only [CondK_bool, MG_u, NG_u, VG_u, UG_u, PG_u, BG_u, CG_u, IG_u, MG_b, NG_b, VG_b, UG_b, PG_b, BG_b, CG_b, IG_b, PK_bool, NK_ptr, not_ok, reduceCtorEq, if_true, if_false, Bool.true_eq_false, Bool.false_eq_true, Bool.not_true, Bool.not_false, sq_n, sq_x, sq_r, bk_n, bk_r, bk_x, rt_r, rt_n, rs_0, rs_t, pk_1, pk_2, up_at, reduceIte, Nat.reduceEqDiff]
    rw [slices_Index_string_string_R1_eq]
    unfold slices_Index_string_string_R1_F
    simp only [sq_n, sq_x, sq_r, bk_n, bk_r, bk_x, rt_r, rt_n, rs_0, rs_t, pk_1, pk_2, up_at, reduceIte, Nat.reduceEqDiff]
    exact ⟨⟨_, rfl, .inr ⟨rfl, by rw [List.take_length] at hno; exact hno⟩⟩, trivial⟩
theorem Contains_ok {w : World} {s : Value} {l : List (List UInt8)} (b : ByteArray) (h : reads w 1 s l.length (l.map txt)) (hlen : l.length ≤ 1000) :
    Rt Tryd.prog 53 #[s, .string b] w fun v w' => v = .bool (l.contains b.data.toList) ∧ w' = w := by
  refine slices_Contains_string_string_calls ?_
  unfold slices_Contains_string_string_F
  refine CK_st Tryd.func77 rfl rfl (Index_ok b h hlen) ?_
  rintro _ w ⟨⟨r, rfl, hr⟩, rfl⟩
  rw [BK_geq]
  refine ⟨?_, rfl⟩
  rcases hr with ⟨h0, hm⟩ | ⟨rfl, hm⟩
  · simp [h0, hm]
  · simp [hm]
theorem uWords : Tryd.prog.underlying 92 = some (.array (Tryd.prog.arrayLen 92) (Tryd.prog.elem 92)) := by kernel_rfl
theorem uPlain : Tryd.prog.underlying 116 = some (.array (Tryd.prog.arrayLen 116) (Tryd.prog.elem 116)) := by kernel_rfl
theorem cut_words (w : World) (g : Nat) : (Instr.sliceAt 92 (.pointer (some ⟨g, 0, none⟩)) none none none).run Tryd.prog w = .ok (.slice (some ⟨g, 0, none⟩) 43 43) w := by
  rw [run_sliceAt_array_all w _ _ uWords]
  obtain ⟨z, hz, hzs⟩ := info_of (show Tryd.prog.cellsOf (Tryd.prog.elem 92) = 0 + 1 by kernel_rfl)
  have ha : Tryd.prog.arrayLen 92 = 43 := by kernel_rfl
  simp [sizeOf, typeInfo, hz, hzs, slicedAt, ha, Addr.add]
theorem cut_plain (w : World) (g : Nat) : (Instr.sliceAt 116 (.pointer (some ⟨g, 0, none⟩)) none none none).run Tryd.prog w = .ok (.slice (some ⟨g, 0, none⟩) 10 10) w := by
  rw [run_sliceAt_array_all w _ _ uPlain]
  obtain ⟨z, hz, hzs⟩ := info_of (show Tryd.prog.cellsOf (Tryd.prog.elem 116) = 0 + 1 by kernel_rfl)
  have ha : Tryd.prog.arrayLen 116 = 10 := by kernel_rfl
  simp [sizeOf, typeInfo, hz, hzs, slicedAt, ha, Addr.add]
theorem Word_ok {w : World} (hg : Gl w) (b : ByteArray) : Rt Tryd.prog 29 #[.string b] w fun v w' => v = .bool (wordsL.contains b.data.toList) ∧ w' = w := by
  refine scan_Word_calls ?_
  unfold scan_Word_F
  refine VK_of (cut_words w _) ?_
  refine CK_st Tryd.func53 rfl rfl (Contains_ok b (l := wordsL) (reads_at hg.words (by decide)) (by decide)) ?_
  rintro _ w ⟨rfl, rfl⟩
  exact ⟨rfl, rfl⟩
end Go.Proofs.YtpkfbaagpjdifaaDoor.Tr
set_option linter.unusedVariables false
set_option linter.unusedSimpArgs false
set_option maxRecDepth 4000
namespace Go.Proofs.YtpkfbaagpjdifaaDoor.Tr
open Go Go.X Go.RowKit Go.Proofs.YtpkfbaagpjdifaaDoor.XF Go.Proofs.YtpkfbaagpjdifaaDoor.XK
theorem all_iff (s : ByteArray) (p : UInt8 → Bool) : s.data.toList.all p = true ↔ ∀ (i : Nat) (h : i < s.size), p (s[i]'h) = true := by
  rw [List.all_eq_true]
  constructor
  · intro h i hi
    exact h _ (Array.getElem_mem_toList (by exact hi))
  · intro h x hx
    obtain ⟨i, hi, rfl⟩ := List.mem_iff_getElem.1 hx
    have := h i (by simpa using hi)
    rw [Array.getElem_toList]
    exact this
theorem alnum_nat (c : UInt8) : ((decide (97 ≤ (c.toNat : Int)) && decide ((c.toNat : Int) ≤ 122)) || (decide (48 ≤ (c.toNat : Int)) && decide ((c.toNat : Int) ≤ 57))) = alnumP c := by
  unfold alnumP letterP digitP
  have e : ∀ a : Nat, decide (((a : Nat) : Int) ≤ (c.toNat : Int)) = decide (a ≤ c.toNat) := fun a => by simp
  have e' : ∀ a : Nat, decide ((c.toNat : Int) ≤ ((a : Nat) : Int)) = decide (c.toNat ≤ a) := fun a => by simp
  rw [← e 97, ← e' 122, ← e 48, ← e' 57]
  rfl
theorem letter_nat (c : UInt8) : (decide (97 ≤ (c.toNat : Int)) && decide ((c.toNat : Int) ≤ 122)) = letterP c := by
  unfold letterP
  have e : ∀ a : Nat, decide (((a : Nat) : Int) ≤ (c.toNat : Int)) = decide (a ≤ c.toNat) := fun a => by simp
  have e' : ∀ a : Nat, decide ((c.toNat : Int) ≤ ((a : Nat) : Int)) = decide (c.toNat ≤ a) := fun a => by simp
  rw [← e 97, ← e' 122]
  rfl
theorem digit_nat (c : UInt8) : (decide (48 ≤ (c.toNat : Int)) && decide ((c.toNat : Int) ≤ 57)) = digitP c := by
  unfold digitP
  have e : ∀ a : Nat, decide (((a : Nat) : Int) ≤ (c.toNat : Int)) = decide (a ≤ c.toNat) := fun a => by simp
  have e' : ∀ a : Nat, decide ((c.toNat : Int) ≤ ((a : Nat) : Int)) = decide (c.toNat ≤ a) := fun a => by simp
  rw [← e 48, ← e' 57]
  rfl
theorem length_ok (s : ByteArray) (hs : s.size ≤ maxLen) (w : World) : Rt Tryd.prog 26 #[.string s, .func (.func 27) #[] #[]] w fun v w' => (∃ r : Nat, v = .int .i64 r ∧ (r = s.size ↔ s.data.toList.all alnumP = true)) ∧ Mod none_ w w' := by
  have hit : ∀ p, Mod none_ w (w.iter s p) := fun p => (Mod.refl none_ w).alloc _
  refine scan_length_calls ?_
  unfold scan_length_F
  refine VK_of (run_range_string w _ s uS) ?_
  refine W_loop scan_length_L0_ok (fun ρ w' => ∃ n : Nat, n ≤ s.size ∧ ρ 8 = .pointer (some ⟨w.heap.size, 0, none⟩) ∧ ρ 0 = .string s ∧ ρ 1 = .func (.func 27) #[] #[] ∧ w' = w.iter s n ∧ ∀ (j : Nat) (h : j < s.size), j < n → alnumP (s[j]'h) = true) (fun _ w' => s.size - w'.iterPos w.heap.size)
    ⟨0, Nat.zero_le _, rfl, rfl, rfl, rfl, fun j h q => by omega⟩ ?_
  rintro ρ w1 ⟨n, hn, h8, h0, h1, rfl, hall⟩
  rw [scan_length_L0_eq]
  unfold scan_length_L0_F
  simp only [h8, h1]
  by_cases hlt : n < s.size
  · refine VK_of (run_next_any w s n _ hlt) ?_
    rw [extract_ok (v := .bool true) rfl]
    simp only [CondK_bool, MG_u, NG_u, VG_u, UG_u, PG_u, BG_u, CG_u, IG_u, MG_b, NG_b, VG_b, UG_b, PG_b, BG_b, CG_b, IG_b, PK_bool, NK_ptr, not_ok, reduceCtorEq, if_true, if_false, Bool.true_eq_false, Bool.false_eq_true, Bool.not_true, Bool.not_false]
    rw [extract_ok (v := .int .i64 n) rfl, extract_ok (v := .int .i32 (Utf8.decode s n).1) rfl]
    refine CK_st Tryd.func27 rfl rfl (named_ok _ _) ?_
    rintro _ w2 ⟨rfl, rfl⟩
    by_cases ha : (s[n]'hlt).toNat < 128
    · rw [decide_eq_true hlt |> fun _ => decode_ascii s n hlt ha, alnum_nat]
      cases hb : alnumP (s[n]'hlt) with
      | true =>
        simp only [CondK_bool, MG_u, NG_u, VG_u, UG_u, PG_u, BG_u, CG_u, IG_u, MG_b, NG_b, VG_b, UG_b, PG_b, BG_b, CG_b, IG_b, PK_bool, NK_ptr, not_ok, reduceCtorEq, if_true, if_false, Bool.true_eq_false, Bool.false_eq_true, Bool.not_true, Bool.not_false]
        refine ⟨⟨n + 1, hlt, h8, h0, h1, rfl, fun j h q => ?_⟩, ?_⟩
        · by_cases e : j = n
          · subst e; exact hb
          · exact hall j h (by omega)
        · simp only [World.iterPos_iter]; omega
      | false =>
        simp only [CondK_bool, MG_u, NG_u, VG_u, UG_u, PG_u, BG_u, CG_u, IG_u, MG_b, NG_b, VG_b, UG_b, PG_b, BG_b, CG_b, IG_b, PK_bool, NK_ptr, not_ok, reduceCtorEq, if_true, if_false, Bool.true_eq_false, Bool.false_eq_true, Bool.not_true, Bool.not_false, sq_n, sq_x, sq_r, bk_n, bk_r, bk_x, rt_r, rt_n, rs_0, rs_t, pk_1, pk_2, up_at, reduceIte, Nat.reduceEqDiff]
        refine ⟨⟨n, rfl, ?_⟩, hit _⟩
        constructor
        · intro q; omega
        · intro q
          have := (all_iff s _).1 q n hlt
          rw [hb] at this; cases this
    · have hd := decode_high s n hlt (by omega)
      have hno : alnumP (s[n]'hlt) = false := by
        unfold alnumP letterP digitP
        simp; omega
      rw [show (decide (97 ≤ ((Utf8.decode s n).1 : Int)) && decide (((Utf8.decode s n).1 : Int) ≤ 122) || decide (48 ≤ ((Utf8.decode s n).1 : Int)) && decide (((Utf8.decode s n).1 : Int) ≤ 57)) = false by simp; omega]
      simp only [CondK_bool, MG_u, NG_u, VG_u, UG_u, PG_u, BG_u, CG_u, IG_u, MG_b, NG_b, VG_b, UG_b, PG_b, BG_b, CG_b, IG_b, PK_bool, NK_ptr, not_ok, reduceCtorEq, if_true, if_false, Bool.true_eq_false, Bool.false_eq_true, Bool.not_true, Bool.not_false, sq_n, sq_x, sq_r, bk_n, bk_r, bk_x, rt_r, rt_n, rs_0, rs_t, pk_1, pk_2, up_at, reduceIte, Nat.reduceEqDiff]
      refine ⟨⟨n, rfl, ?_⟩, hit _⟩
      constructor
      · intro q; omega
      · intro q
        have := (all_iff s _).1 q n hlt
        rw [hno] at this; cases this
  · obtain rfl : n = s.size := by omega
    refine VK_of (run_next_end w s _ _ hlt) ?_
    rw [extract_ok (v := .bool false) rfl]
    simp only [CondK_bool, MG_u, NG_u, VG_u, UG_u, PG_u, BG_u, CG_u, IG_u, MG_b, NG_b, VG_b, UG_b, PG_b, BG_b, CG_b, IG_b, PK_bool, NK_ptr, not_ok, reduceCtorEq, if_true, if_false, Bool.true_eq_false, Bool.false_eq_true, Bool.not_true, Bool.not_false, sq_n, sq_x, sq_r, bk_n, bk_r, bk_x, rt_r, rt_n, rs_0, rs_t, pk_1, pk_2, up_at, reduceIte, Nat.reduceEqDiff]
    rw [scan_length_R1_eq]
    unfold scan_length_R1_F
    simp only [sq_n, sq_x, sq_r, bk_n, bk_r, bk_x, rt_r, rt_n, rs_0, rs_t, pk_1, pk_2, up_at, reduceIte, Nat.reduceEqDiff, h0, fo25_0, fo25_1, fo25_2, fo25_3, fo25_4, fo25_5, fo25_6, fo25_7, fo29_0, fo29_1, fo29_2, fo29_3, fo34_0, fo34_1, fo43_0, fo43_1, ld2, ld3, ld5, ld9, ld22, ld23, ld32, len9, len22, len23, len32, len91, ldK_some, cellE, blkC_c, add_pl, Nat.zero_add, List.getElem?_toArray, List.getElem?_cons_succ, List.getElem?_cons_zero]
    exact ⟨⟨_, rfl, fun _ => (all_iff s _).2 fun i h => hall i h h, fun _ => rfl⟩, hit _⟩
theorem idxS_ok (s : ByteArray) (w : World) (hs : 0 < s.size) {K : Value → World → Prop} (hk : K (.int .u8 (s[0]'hs).toNat) w) : VK Tryd.prog (Instr.index 9 (.string s) (.int .i64 0)) w K := by
  refine VK_of ?_ hk
  rw [run_index_string w _ s _ _ uS, dif_pos ⟨by omega, by omega⟩]
  rfl
theorem conv_ok (c : UInt8) (w : World) {K : Value → World → Prop} (hk : K (.int .i32 c.toNat) w) : VK Tryd.prog (convert 5 21 (.int .u8 c.toNat)) w K := by
  refine VK_of ?_ hk
  have ek : Tryd.prog.intKind 21 = .i32 := by kernel_rfl
  have := run_convert_int (P := Tryd.prog) w 5 21 .u8 c.toNat (by kernel_rfl) (by kernel_rfl)
  rw [this, ek]
  have := c.toNat_lt
  rw [show IntKind.i32.wrap (c.toNat : Int) = (c.toNat : Int) by rw [IntKind.wrap_i32]; omega]
end Go.Proofs.YtpkfbaagpjdifaaDoor.Tr
set_option linter.unusedVariables false
set_option linter.unusedSimpArgs false
set_option maxRecDepth 4000
namespace Go.Proofs.YtpkfbaagpjdifaaDoor.Tr
open Go Go.X Go.RowKit Go.Proofs.YtpkfbaagpjdifaaDoor.XF Go.Proofs.YtpkfbaagpjdifaaDoor.XK
theorem ArgsR_ok (k : Int) (w : World) : Rt Tryd.prog 84 #[.int .u8 k] w fun v w' => v = .tuple #[.int .i64 (argsP k).1, .int .i64 (argsP k).2] ∧ w' = w := by
  refine dispatcherref02_Args_calls ?_
  unfold dispatcherref02_Args_F
  refine caseI (fun hc1 => ?_) (fun hc1 => ?_)
  · refine condT ?_; rw [dispatcherref02_Args_R0_eq]; unfold dispatcherref02_Args_R0_F; refine condT ?_; subst hc1; exact ⟨rfl, rfl⟩
  refine condF ?_
  refine caseI (fun hc2 => ?_) (fun hc2 => ?_)
  · refine condT ?_; rw [dispatcherref02_Args_R0_eq]; unfold dispatcherref02_Args_R0_F; refine condT ?_; subst hc2; exact ⟨rfl, rfl⟩
  refine condF ?_
  refine caseI (fun hc3 => ?_) (fun hc3 => ?_)
  · refine condT ?_; rw [dispatcherref02_Args_R0_eq]; unfold dispatcherref02_Args_R0_F; refine condT ?_; subst hc3; exact ⟨rfl, rfl⟩
  refine condF ?_
  refine caseI (fun hc4 => ?_) (fun hc4 => ?_)
  · refine condT ?_; rw [dispatcherref02_Args_R0_eq]; unfold dispatcherref02_Args_R0_F; refine condT ?_; subst hc4; exact ⟨rfl, rfl⟩
  refine condF ?_
  refine caseI (fun hc5 => ?_) (fun hc5 => ?_)
  · rw [dispatcherref02_Args_R0_eq]; unfold dispatcherref02_Args_R0_F; refine condT ?_; subst hc5; exact ⟨rfl, rfl⟩
  rw [dispatcherref02_Args_R0_eq]; unfold dispatcherref02_Args_R0_F; refine condF ?_
  refine caseI (fun hc6 => ?_) (fun hc6 => ?_)
  · refine condT ?_; rw [dispatcherref02_Args_R2_eq]; unfold dispatcherref02_Args_R2_F; refine condT ?_; subst hc6; exact ⟨rfl, rfl⟩
  refine condF ?_
  refine caseI (fun hc7 => ?_) (fun hc7 => ?_)
  · refine condT ?_; rw [dispatcherref02_Args_R2_eq]; unfold dispatcherref02_Args_R2_F; refine condT ?_; subst hc7; exact ⟨rfl, rfl⟩
  refine condF ?_
  refine caseI (fun hc13 => ?_) (fun hc13 => ?_)
  · refine condT ?_; rw [dispatcherref02_Args_R2_eq]; unfold dispatcherref02_Args_R2_F; refine condT ?_; subst hc13; exact ⟨rfl, rfl⟩
  refine condF ?_
  refine caseI (fun hc14 => ?_) (fun hc14 => ?_)
  · refine condT ?_; rw [dispatcherref02_Args_R2_eq]; unfold dispatcherref02_Args_R2_F; refine condT ?_; subst hc14; exact ⟨rfl, rfl⟩
  refine condF ?_
  refine caseI (fun hc16 => ?_) (fun hc16 => ?_)
  · refine condT ?_; rw [dispatcherref02_Args_R2_eq]; unfold dispatcherref02_Args_R2_F; refine condT ?_; subst hc16; exact ⟨rfl, rfl⟩
  refine condF ?_
  refine caseI (fun hc19 => ?_) (fun hc19 => ?_)
  · refine condT ?_; rw [dispatcherref02_Args_R2_eq]; unfold dispatcherref02_Args_R2_F; refine condT ?_; subst hc19; exact ⟨rfl, rfl⟩
  refine condF ?_
  refine caseI (fun hc17 => ?_) (fun hc17 => ?_)
  · refine condT ?_; rw [dispatcherref02_Args_R2_eq]; unfold dispatcherref02_Args_R2_F; refine condT ?_; subst hc17; exact ⟨rfl, rfl⟩
  refine condF ?_
  refine caseI (fun hc21 => ?_) (fun hc21 => ?_)
  · rw [dispatcherref02_Args_R2_eq]; unfold dispatcherref02_Args_R2_F; refine condT ?_; subst hc21; exact ⟨rfl, rfl⟩
  rw [dispatcherref02_Args_R2_eq]; unfold dispatcherref02_Args_R2_F; refine condF ?_
  refine caseI (fun hc18 => ?_) (fun hc18 => ?_)
  · refine condT ?_;  subst hc18; exact ⟨rfl, rfl⟩
  refine condF ?_
  refine caseI (fun hc8 => ?_) (fun hc8 => ?_)
  · refine condT ?_; rw [dispatcherref02_Args_R3_eq]; unfold dispatcherref02_Args_R3_F; refine condT ?_; subst hc8; exact ⟨rfl, rfl⟩
  refine condF ?_
  refine caseI (fun hc11 => ?_) (fun hc11 => ?_)
  · refine condT ?_; rw [dispatcherref02_Args_R3_eq]; unfold dispatcherref02_Args_R3_F; refine condT ?_; subst hc11; exact ⟨rfl, rfl⟩
  refine condF ?_
  refine caseI (fun hc15 => ?_) (fun hc15 => ?_)
  · refine condT ?_; rw [dispatcherref02_Args_R3_eq]; unfold dispatcherref02_Args_R3_F; refine condT ?_; subst hc15; exact ⟨rfl, rfl⟩
  refine condF ?_
  refine caseI (fun hc20 => ?_) (fun hc20 => ?_)
  · refine condT ?_; rw [dispatcherref02_Args_R3_eq]; unfold dispatcherref02_Args_R3_F; refine condT ?_; subst hc20; exact ⟨rfl, rfl⟩
  refine condF ?_
  refine caseI (fun hc22 => ?_) (fun hc22 => ?_)
  · rw [dispatcherref02_Args_R3_eq]; unfold dispatcherref02_Args_R3_F; refine condT ?_; subst hc22; exact ⟨rfl, rfl⟩
  rw [dispatcherref02_Args_R3_eq]; unfold dispatcherref02_Args_R3_F; refine condF ?_
  refine caseI (fun hc9 => ?_) (fun hc9 => ?_)
  · refine condT ?_; rw [dispatcherref02_Args_R4_eq]; unfold dispatcherref02_Args_R4_F; refine condT ?_; subst hc9; exact ⟨rfl, rfl⟩
  refine condF ?_
  refine caseI (fun hc10 => ?_) (fun hc10 => ?_)
  · refine condT ?_; rw [dispatcherref02_Args_R4_eq]; unfold dispatcherref02_Args_R4_F; refine condT ?_; subst hc10; exact ⟨rfl, rfl⟩
  refine condF ?_
  refine caseI (fun hc12 => ?_) (fun hc12 => ?_)
  · rw [dispatcherref02_Args_R4_eq]; unfold dispatcherref02_Args_R4_F; refine condT ?_; subst hc12; exact ⟨rfl, rfl⟩
  rw [dispatcherref02_Args_R4_eq]; unfold dispatcherref02_Args_R4_F; refine condF ?_
  rw [bk_n, sq_n, dispatcherref02_Args_R1_eq]; unfold dispatcherref02_Args_R1_F
  rw [show argsP k = (0, 0) by unfold argsP; rw [if_neg (by omega), if_neg (by omega), if_neg (by omega), if_neg (by omega), if_neg (by omega)]]
  exact ⟨rfl, rfl⟩
theorem reduces_ok (k : Int) (w : World) : Rt Tryd.prog 60 #[.int .u8 k] w fun v w' => v = .bool (redsP k) ∧ w' = w := by
  refine tree_reduces_calls ?_
  unfold tree_reduces_F redsP
  by_cases h : k = 17 <;> by_cases h' : k = 18 <;> simp [CondK_bool, MG_u, NG_u, VG_u, UG_u, PG_u, BG_u, CG_u, IG_u, MG_b, NG_b, VG_b, UG_b, PG_b, BG_b, CG_b, IG_b, PK_bool, NK_ptr, not_ok, reduceCtorEq, if_true, if_false, Bool.true_eq_false, Bool.false_eq_true, Bool.not_true, Bool.not_false, fo25_0, fo25_1, fo25_2, fo25_3, fo25_4, fo25_5, fo25_6, fo25_7, fo29_0, fo29_1, fo29_2, fo29_3, fo34_0, fo34_1, fo43_0, fo43_1, ld2, ld3, ld5, ld9, ld22, ld23, ld32, len9, len22, len23, len32, len91, ldK_some, cellE, blkC_c, add_pl, Nat.zero_add, List.getElem?_toArray, List.getElem?_cons_succ, List.getElem?_cons_zero, BK_lss, BK_leq, BK_gtr, BK_geq, BK_eql, BK_neq, BK_add, BK_sub, BK_eqlS, BK_neqS, decide_true, decide_false, Bool.and_true, Bool.true_and, Bool.and_false, Bool.false_and, Bool.or_true, Bool.true_or, Bool.or_false, Bool.false_or, ite_true, ite_false, h, h'] <;> omega
theorem Reduces_ok (k : Int) (w : World) : Rt Tryd.prog 85 #[.int .u8 k] w fun v w' => v = .bool (redsP k) ∧ w' = w := by
  refine dispatcherref02_Reduces_calls ?_
  unfold dispatcherref02_Reduces_F redsP
  by_cases h : k = 17 <;> by_cases h' : k = 18 <;> simp [CondK_bool, MG_u, NG_u, VG_u, UG_u, PG_u, BG_u, CG_u, IG_u, MG_b, NG_b, VG_b, UG_b, PG_b, BG_b, CG_b, IG_b, PK_bool, NK_ptr, not_ok, reduceCtorEq, if_true, if_false, Bool.true_eq_false, Bool.false_eq_true, Bool.not_true, Bool.not_false, fo25_0, fo25_1, fo25_2, fo25_3, fo25_4, fo25_5, fo25_6, fo25_7, fo29_0, fo29_1, fo29_2, fo29_3, fo34_0, fo34_1, fo43_0, fo43_1, ld2, ld3, ld5, ld9, ld22, ld23, ld32, len9, len22, len23, len32, len91, ldK_some, cellE, blkC_c, add_pl, Nat.zero_add, List.getElem?_toArray, List.getElem?_cons_succ, List.getElem?_cons_zero, BK_lss, BK_leq, BK_gtr, BK_geq, BK_eql, BK_neq, BK_add, BK_sub, BK_eqlS, BK_neqS, decide_true, decide_false, Bool.and_true, Bool.true_and, Bool.and_false, Bool.false_and, Bool.or_true, Bool.true_or, Bool.or_false, Bool.false_or, ite_true, ite_false, h, h'] <;> omega
theorem PlainR_ok (b : ByteArray) (w : World) : Rt Tryd.prog 95 #[.string b] w fun v w' => v = .bool (plainP b) ∧ w' = w := by
  refine dispatcherref02_Plain_calls ?_
  unfold dispatcherref02_Plain_F
  refine caseS (fun hcrank => ?_) (fun hcrank => ?_)
  · refine condT ?_; rw [dispatcherref02_Plain_R0_eq]; unfold dispatcherref02_Plain_R0_F; refine condT ?_; rw [show plainP b = true by unfold plainP; rw [hcrank]; decide +kernel]; exact ⟨rfl, rfl⟩
  refine condF ?_
  refine caseS (fun hcsize => ?_) (fun hcsize => ?_)
  · refine condT ?_; rw [dispatcherref02_Plain_R0_eq]; unfold dispatcherref02_Plain_R0_F; refine condT ?_; rw [show plainP b = true by unfold plainP; rw [hcsize]; decide +kernel]; exact ⟨rfl, rfl⟩
  refine condF ?_
  refine caseS (fun hcany => ?_) (fun hcany => ?_)
  · refine condT ?_; rw [dispatcherref02_Plain_R0_eq]; unfold dispatcherref02_Plain_R0_F; refine condT ?_; rw [show plainP b = true by unfold plainP; rw [hcany]; decide +kernel]; exact ⟨rfl, rfl⟩
  refine condF ?_
  refine caseS (fun hcvalue => ?_) (fun hcvalue => ?_)
  · refine condT ?_; rw [dispatcherref02_Plain_R0_eq]; unfold dispatcherref02_Plain_R0_F; refine condT ?_; rw [show plainP b = true by unfold plainP; rw [hcvalue]; decide +kernel]; exact ⟨rfl, rfl⟩
  refine condF ?_
  refine caseS (fun hcpeer => ?_) (fun hcpeer => ?_)
  · refine condT ?_; rw [dispatcherref02_Plain_R0_eq]; unfold dispatcherref02_Plain_R0_F; refine condT ?_; rw [show plainP b = true by unfold plainP; rw [hcpeer]; decide +kernel]; exact ⟨rfl, rfl⟩
  refine condF ?_
  refine caseS (fun hctag => ?_) (fun hctag => ?_)
  · refine condT ?_; rw [dispatcherref02_Plain_R0_eq]; unfold dispatcherref02_Plain_R0_F; refine condT ?_; rw [show plainP b = true by unfold plainP; rw [hctag]; decide +kernel]; exact ⟨rfl, rfl⟩
  refine condF ?_
  refine caseS (fun hcflag => ?_) (fun hcflag => ?_)
  · refine condT ?_; rw [dispatcherref02_Plain_R0_eq]; unfold dispatcherref02_Plain_R0_F; refine condT ?_; rw [show plainP b = true by unfold plainP; rw [hcflag]; decide +kernel]; exact ⟨rfl, rfl⟩
  refine condF ?_
  refine caseS (fun hcindex => ?_) (fun hcindex => ?_)
  · refine condT ?_; rw [dispatcherref02_Plain_R0_eq]; unfold dispatcherref02_Plain_R0_F; refine condT ?_; rw [show plainP b = true by unfold plainP; rw [hcindex]; decide +kernel]; exact ⟨rfl, rfl⟩
  refine condF ?_
  refine caseS (fun hcreq => ?_) (fun hcreq => ?_)
  · refine condT ?_; rw [dispatcherref02_Plain_R0_eq]; unfold dispatcherref02_Plain_R0_F; refine condT ?_; rw [show plainP b = true by unfold plainP; rw [hcreq]; decide +kernel]; exact ⟨rfl, rfl⟩
  refine condF ?_
  refine caseS (fun hccomm => ?_) (fun hccomm => ?_)
  · rw [dispatcherref02_Plain_R0_eq]; unfold dispatcherref02_Plain_R0_F; refine condT ?_; rw [show plainP b = true by unfold plainP; rw [hccomm]; decide +kernel]; exact ⟨rfl, rfl⟩
  rw [dispatcherref02_Plain_R0_eq]; unfold dispatcherref02_Plain_R0_F; refine condF ?_
  rw [bk_n, sq_n, dispatcherref02_Plain_R1_eq]; unfold dispatcherref02_Plain_R1_F
  rw [show plainP b = false by unfold plainP plainL; simp only [List.contains_cons, List.contains_nil, Bool.or_false, Bool.or_eq_false_iff, beq_eq_false_iff_ne]; exact ⟨hcrank, hcsize, hcany, hcvalue, hcpeer, hctag, hcflag, hcindex, hcreq, hccomm⟩]
  exact ⟨rfl, rfl⟩
end Go.Proofs.YtpkfbaagpjdifaaDoor.Tr
set_option linter.unusedVariables false
set_option linter.unusedSimpArgs false
set_option maxRecDepth 4000
namespace Go.Proofs.YtpkfbaagpjdifaaDoor.Tr
open Go Go.X Go.RowKit Go.Proofs.YtpkfbaagpjdifaaDoor.XF Go.Proofs.YtpkfbaagpjdifaaDoor.XK
theorem head_at (b : ByteArray) (h : 0 < b.size) : b.data.toList.head? = some (b[0]'h) := by
  rw [List.head?_eq_getElem?, List.getElem?_eq_getElem (by simpa using h), Array.getElem_toList]
  rfl
theorem empty_iff (b : ByteArray) : (b.data.toList == (⟨#[]⟩ : ByteArray).data.toList) = decide (b.size = 0) := by
  by_cases h : b.size = 0
  · have : b.data.toList = [] := List.length_eq_zero_iff.1 (by simpa using h)
    rw [this]; simp [h]
  · have : b.data.toList ≠ [] := fun q => h (by have := congrArg List.length q; simpa using this)
    show (b.data.toList == []) = _
    rw [beq_eq_false_iff_ne.2 this, decide_eq_false h]
theorem Name_ok {w : World} (hg : Gl w) (b : ByteArray) (hb : b.size ≤ maxLen) : Rt Tryd.prog 15 #[.string b] w fun v w' => v = .bool (nameP b) ∧ Mod none_ w w' := by
  refine scan_Name_calls ?_
  unfold scan_Name_F
  rw [BK_neqS, ByteArray.toList_eq, ByteArray.toList_eq, empty_iff]
  by_cases h0 : b.size = 0
  · rw [decide_eq_true h0]
    simp only [CondK_bool, MG_u, NG_u, VG_u, UG_u, PG_u, BG_u, CG_u, IG_u, MG_b, NG_b, VG_b, UG_b, PG_b, BG_b, CG_b, IG_b, PK_bool, NK_ptr, not_ok, reduceCtorEq, if_true, if_false, Bool.true_eq_false, Bool.false_eq_true, Bool.not_true, Bool.not_false]
    refine ⟨?_, Mod.refl _ _⟩
    unfold nameP
    rw [show decide (1 ≤ b.size) = false from decide_eq_false (by omega)]
    rfl
  rw [decide_eq_false h0]
  have hpos : 0 < b.size := by omega
  simp only [CondK_bool, MG_u, NG_u, VG_u, UG_u, PG_u, BG_u, CG_u, IG_u, MG_b, NG_b, VG_b, UG_b, PG_b, BG_b, CG_b, IG_b, PK_bool, NK_ptr, not_ok, reduceCtorEq, if_true, if_false, Bool.true_eq_false, Bool.false_eq_true, Bool.not_true, Bool.not_false]
  refine CK_st Tryd.func26 rfl rfl (length_ok b hb w) ?_
  rintro _ w1 ⟨⟨r, rfl, hr⟩, hm⟩
  simp only [fo25_0, fo25_1, fo25_2, fo25_3, fo25_4, fo25_5, fo25_6, fo25_7, fo29_0, fo29_1, fo29_2, fo29_3, fo34_0, fo34_1, fo43_0, fo43_1, ld2, ld3, ld5, ld9, ld22, ld23, ld32, len9, len22, len23, len32, len91, ldK_some, cellE, blkC_c, add_pl, Nat.zero_add, List.getElem?_toArray, List.getElem?_cons_succ, List.getElem?_cons_zero, BK_eql]
  have n1 : decide (1 ≤ b.size) = true := decide_eq_true (by omega)
  by_cases hall : b.data.toList.all alnumP = true
  · have e := hr.2 hall
    subst e
    rw [beq_self_eq_true]
    simp only [CondK_bool, MG_u, NG_u, VG_u, UG_u, PG_u, BG_u, CG_u, IG_u, MG_b, NG_b, VG_b, UG_b, PG_b, BG_b, CG_b, IG_b, PK_bool, NK_ptr, not_ok, reduceCtorEq, if_true, if_false, Bool.true_eq_false, Bool.false_eq_true, Bool.not_true, Bool.not_false]
    refine idxS_ok b w1 hpos (conv_ok _ w1 ?_)
    refine CK_st Tryd.func28 rfl rfl (letter_ok _ w1) ?_
    rintro _ w1 ⟨rfl, rfl⟩
    rw [letter_nat]
    cases hl : letterP (b[0]'hpos) with
    | false =>
      simp only [CondK_bool, MG_u, NG_u, VG_u, UG_u, PG_u, BG_u, CG_u, IG_u, MG_b, NG_b, VG_b, UG_b, PG_b, BG_b, CG_b, IG_b, PK_bool, NK_ptr, not_ok, reduceCtorEq, if_true, if_false, Bool.true_eq_false, Bool.false_eq_true, Bool.not_true, Bool.not_false]
      refine ⟨?_, hm⟩
      unfold nameP
      rw [head_at b hpos, Option.any_some, hl]
      simp
    | true =>
      simp only [fo25_0, fo25_1, fo25_2, fo25_3, fo25_4, fo25_5, fo25_6, fo25_7, fo29_0, fo29_1, fo29_2, fo29_3, fo34_0, fo34_1, fo43_0, fo43_1, ld2, ld3, ld5, ld9, ld22, ld23, ld32, len9, len22, len23, len32, len91, ldK_some, cellE, blkC_c, add_pl, Nat.zero_add, List.getElem?_toArray, List.getElem?_cons_succ, List.getElem?_cons_zero, CondK_bool, MG_u, NG_u, VG_u, UG_u, PG_u, BG_u, CG_u, IG_u, MG_b, NG_b, VG_b, UG_b, PG_b, BG_b, CG_b, IG_b, PK_bool, NK_ptr, not_ok, reduceCtorEq, if_true, if_false, Bool.true_eq_false, Bool.false_eq_true, Bool.not_true, Bool.not_false, BK_leq]
      by_cases h12 : b.size ≤ 12
      · rw [show decide ((b.size : Int) ≤ 12) = true by simp; omega]
        simp only [CondK_bool, MG_u, NG_u, VG_u, UG_u, PG_u, BG_u, CG_u, IG_u, MG_b, NG_b, VG_b, UG_b, PG_b, BG_b, CG_b, IG_b, PK_bool, NK_ptr, not_ok, reduceCtorEq, if_true, if_false, Bool.true_eq_false, Bool.false_eq_true, Bool.not_true, Bool.not_false]
        refine CK_st Tryd.func29 rfl rfl (Word_ok (hg.mod hm) b) ?_
        rintro _ w1 ⟨rfl, rfl⟩
        simp only [CondK_bool, MG_u, NG_u, VG_u, UG_u, PG_u, BG_u, CG_u, IG_u, MG_b, NG_b, VG_b, UG_b, PG_b, BG_b, CG_b, IG_b, PK_bool, NK_ptr, not_ok, reduceCtorEq, if_true, if_false, Bool.true_eq_false, Bool.false_eq_true, Bool.not_true, Bool.not_false]
        refine ⟨?_, hm⟩
        unfold nameP
        rw [head_at b hpos, Option.any_some, hl, hall, n1, decide_eq_true h12]
        simp
      · rw [show decide ((b.size : Int) ≤ 12) = false by simp; omega]
        simp only [CondK_bool, MG_u, NG_u, VG_u, UG_u, PG_u, BG_u, CG_u, IG_u, MG_b, NG_b, VG_b, UG_b, PG_b, BG_b, CG_b, IG_b, PK_bool, NK_ptr, not_ok, reduceCtorEq, if_true, if_false, Bool.true_eq_false, Bool.false_eq_true, Bool.not_true, Bool.not_false]
        refine ⟨?_, hm⟩
        unfold nameP
        rw [decide_eq_false h12]
        simp
  · have e : ¬ r = b.size := fun q => hall (hr.1 q)
    rw [show ((r : Int) == (b.size : Int)) = false by rw [beq_eq_false_iff_ne]; omega]
    simp only [CondK_bool, MG_u, NG_u, VG_u, UG_u, PG_u, BG_u, CG_u, IG_u, MG_b, NG_b, VG_b, UG_b, PG_b, BG_b, CG_b, IG_b, PK_bool, NK_ptr, not_ok, reduceCtorEq, if_true, if_false, Bool.true_eq_false, Bool.false_eq_true, Bool.not_true, Bool.not_false]
    refine ⟨?_, hm⟩
    unfold nameP
    rw [Bool.eq_false_iff.2 hall]
    simp
theorem wordsB : builtRow Tryd.prog 91 43 [(0, txt wordsL[0]), (1, txt wordsL[1]), (2, txt wordsL[2]), (3, txt wordsL[3]), (4, txt wordsL[4]), (5, txt wordsL[5]), (6, txt wordsL[6]), (7, txt wordsL[7]), (8, txt wordsL[8]), (9, txt wordsL[9]), (10, txt wordsL[10]), (11, txt wordsL[11]), (12, txt wordsL[12]), (13, txt wordsL[13]), (14, txt wordsL[14]), (15, txt wordsL[15]), (16, txt wordsL[16]), (17, txt wordsL[17]), (18, txt wordsL[18]), (19, txt wordsL[19]), (20, txt wordsL[20]), (21, txt wordsL[21]), (22, txt wordsL[22]), (23, txt wordsL[23]), (24, txt wordsL[24]), (25, txt wordsL[25]), (26, txt wordsL[26]), (27, txt wordsL[27]), (28, txt wordsL[28]), (29, txt wordsL[29]), (30, txt wordsL[30]), (31, txt wordsL[31]), (32, txt wordsL[32]), (33, txt wordsL[33]), (34, txt wordsL[34]), (35, txt wordsL[35]), (36, txt wordsL[36]), (37, txt wordsL[37]), (38, txt wordsL[38]), (39, txt wordsL[39]), (40, txt wordsL[40]), (41, txt wordsL[41]), (42, txt wordsL[42])] = some (wordsL.map txt).toArray := by kernel_rfl
theorem Words_ok (w : World) : Rt Tryd.prog 81 #[] w fun v w' => reads w' 1 v wordsL.length (wordsL.map txt) ∧ Mod none_ w w' := by
  refine dispatcherref01_Words_calls ?_
  unfold dispatcherref01_Words_F
  refine bs_k wordsB fun w1 hb hm _ => ?_
  exact ⟨reads_blk (size := 1) (n := 43) hb rfl, hm⟩
theorem WordR_ok (w : World) (b : ByteArray) : Rt Tryd.prog 65 #[.string b] w fun v w' => v = .bool (wordsL.contains b.data.toList) ∧ Mod none_ w w' := by
  refine dispatcherref01_Word_calls ?_
  unfold dispatcherref01_Word_F
  refine CK_st Tryd.func81 rfl rfl (Words_ok w) ?_
  rintro s w1 ⟨hr, hm1⟩
  obtain ⟨A, c, rfl, _⟩ := reads_cap hr
  have hlen : wordsL.length = 43 := by decide
  refine W_loop dispatcherref01_Word_L0_ok (fun ρ w' => ∃ n : Nat, n ≤ wordsL.length ∧ ρ 4 = .int .i64 n ∧ ρ 3 = .slice A wordsL.length c ∧ ρ 0 = .string b ∧ b.data.toList ∉ wordsL.take n ∧ w' = w1) (fun ρ _ => wordsL.length - (intOf (ρ 4)).toNat)
    ⟨0, Nat.zero_le _, rfl, rfl, rfl, by simp, rfl⟩ ?_
  rintro ρ w1 ⟨n, hn, h4, h3, h0, hno, rfl⟩
  rw [dispatcherref01_Word_L0_eq]
  unfold dispatcherref01_Word_L0_F
  simp only [h4, h3, h0, fo25_0, fo25_1, fo25_2, fo25_3, fo25_4, fo25_5, fo25_6, fo25_7, fo29_0, fo29_1, fo29_2, fo29_3, fo34_0, fo34_1, fo43_0, fo43_1, ld2, ld3, ld5, ld9, ld22, ld23, ld32, len9, len22, len23, len32, len91, ldK_some, cellE, blkC_c, add_pl, Nat.zero_add, List.getElem?_toArray, List.getElem?_cons_succ, List.getElem?_cons_zero, BK_lss]
  by_cases hlt : n < wordsL.length
  · rw [show decide ((n : Int) < (wordsL.length : Int)) = true by rw [decide_eq_true_eq]; omega]
    simp only [CondK_bool, MG_u, NG_u, VG_u, UG_u, PG_u, BG_u, CG_u, IG_u, MG_b, NG_b, VG_b, UG_b, PG_b, BG_b, CG_b, IG_b, PK_bool, NK_ptr, not_ok, reduceCtorEq, if_true, if_false, Bool.true_eq_false, Bool.false_eq_true, Bool.not_true, Bool.not_false]
    have hx : wordsL[n]? = some wordsL[n] := List.getElem?_eq_getElem hlt
    refine ixld uSs cS uS rfl hr (by omega) (u := txt wordsL[n]) (by rw [show ((n : Int).toNat) = n by omega, List.getElem?_map, hx]; rfl) fun y => ?_
    unfold txt
    refine caseS (fun he => condT ?_) (fun he => condF ?_)
    · refine ⟨?_, hm1⟩
      have : b.data.toList = wordsL[n] := he.symm
      have hc : wordsL.contains b.data.toList = true := by rw [List.contains_iff_mem, this]; exact List.getElem_mem hlt
      rw [hc]
      rfl
    · rw [BK_add, wrap_i (by omega) (by omega)]
      refine ⟨⟨n + 1, hlt, rfl, h3, h0, ?_, rfl⟩, ?_⟩
      · rw [List.take_add_one, hx, Option.toList_some]
        intro q
        rcases List.mem_append.1 q with q | q
        · exact hno q
        · exact he (by simpa using Eq.symm (List.mem_singleton.1 q))
      · simp only [sq_n, sq_x, sq_r, bk_n, bk_r, bk_x, rt_r, rt_n, rs_0, rs_t, pk_1, pk_2, up_at, reduceIte, Nat.reduceEqDiff, intOf]; omega
  · obtain rfl : n = wordsL.length := by omega
    rw [show decide (((wordsL.length : Nat) : Int) < (wordsL.length : Int)) = false by simp]
    simp only [CondK_bool, MG_u, NG_u, VG_u, UG_u, PG_u, BG_u, CG_u, IG_u, MG_b, NG_b, VG_b, UG_b, PG_b, BG_b, CG_b, IG_b, PK_bool, NK_ptr, not_ok, reduceCtorEq, if_true, if_false, Bool.true_eq_false, Bool.false_eq_true, Bool.not_true, Bool.not_false, sq_n, sq_x, sq_r, bk_n, bk_r, bk_x, rt_r, rt_n, rs_0, rs_t, pk_1, pk_2, up_at, reduceIte, Nat.reduceEqDiff]
    rw [dispatcherref01_Word_R1_eq]
    unfold dispatcherref01_Word_R1_F
    simp only [sq_n, sq_x, sq_r, bk_n, bk_r, bk_x, rt_r, rt_n, rs_0, rs_t, pk_1, pk_2, up_at, reduceIte, Nat.reduceEqDiff]
    refine ⟨?_, hm1⟩
    have hc : wordsL.contains b.data.toList = false := by
      rw [Bool.eq_false_iff]
      intro q
      rw [List.contains_iff_mem] at q
      rw [List.take_length] at hno
      exact hno q
    rw [hc]
end Go.Proofs.YtpkfbaagpjdifaaDoor.Tr
set_option linter.unusedVariables false
set_option linter.unusedSimpArgs false
set_option maxRecDepth 4000
namespace Go.Proofs.YtpkfbaagpjdifaaDoor.Tr
open Go Go.X Go.RowKit Go.Proofs.YtpkfbaagpjdifaaDoor.XF Go.Proofs.YtpkfbaagpjdifaaDoor.XK
def zExc : List Value := [.int .u8 0, .int .i64 0, .string ByteArray.empty, .slice none 0 0, .int .i64 0, .int .i64 0]
theorem zEx : (Tryd.prog.info? 29).bind (·.zero) = some (.agg zExc.toArray) := by kernel_rfl
theorem iEx : (Tryd.prog.info? 29).map (·.size) = some 6 := by kernel_rfl
theorem ex_one {w : World} {e : Ex} (h : e.Ok w) : (e.cells.toArray.all (·.oneCell')) = true := by
  obtain ⟨A, c, hs, _⟩ := reads_cap h.args.1
  simp [Ex.cells, hs, Value.oneCell']
theorem ixEx {w : World} {s : Value} {l : List Ex} {i : Nat} {e : Ex} {K : Value → Value → World → Prop} (h : ExsOk w s l) (hi : l[i]? = some e) (hk : ∀ x, K x (.agg e.cells.toArray) w) :
    VK Tryd.prog (Instr.indexAt 22 s (.int .i64 (i : Int))) w fun x w => VK Tryd.prog (Instr.loadAt 29 x) w (K x) := by
  have hlt : i < l.length := (List.getElem?_eq_some_iff.1 hi).1
  refine ixldA uExs cEx Tryd.underlying29 rfl h.1 (by omega) (by omega) fun x => ?_
  rw [show ((i : Int).toNat) = i by omega, fl_drop (k := 5 + 1) Ex.cells_len hi]
  exact hk x
theorem ixExA {w : World} {s : Value} {l : List Ex} {i : Nat} {e : Ex} {K : Value → World → Prop} (h : ExsOk w s l) (hi : l[i]? = some e) (hk : ∀ a, (∀ j u, e.cells[j]? = some u → w.cell? (a.add j) = some u) → K (.pointer (some a)) w) :
    VK Tryd.prog (Instr.indexAt 22 s (.int .i64 (i : Int))) w K := by
  have hlt : i < l.length := (List.getElem?_eq_some_iff.1 hi).1
  refine ixat uExs cEx h.1 (by omega) (by omega) fun a ha _ => hk a fun j u hu => ?_
  have hj : j < 5 + 1 := (List.getElem?_eq_some_iff.1 hu).1
  refine ha j u hj ?_
  rw [show ((i : Int).toNat) = i by omega, fl_get (k := 5 + 1) Ex.cells_len hi hj]
  exact hu
theorem deepExpr_ok : ∀ (e : Ex) (w : World), e.Ok w → e.sz ≤ 1099511627776 → Rt Tryd.prog 54 #[.agg e.cells.toArray] w fun v w' => v = .int .i64 e.deep ∧ Mod none_ w w' := by
  intro e
  induction e using Ex.ind with
  | h e ih =>
    intro w hok hsz
    obtain ⟨A, c, hs, _⟩ := reads_cap hok.args.1
    have hszL : Ex.szL e.args ≤ 1099511627776 := by rw [Ex.sz_eq] at hsz; omega
    refine tree_deepExpr_calls ?_
    unfold tree_deepExpr_F
    refine box_k (cs := e.cells.toArray) rfl fun w1 hb1 hm1 _ => ?_
    simp only [fo25_0, fo25_1, fo25_2, fo25_3, fo25_4, fo25_5, fo25_6, fo25_7, fo29_0, fo29_1, fo29_2, fo29_3, fo34_0, fo34_1, fo43_0, fo43_1, ld2, ld3, ld5, ld9, ld22, ld23, ld32, len9, len22, len23, len32, len91, ldK_some, cellE, blkC_c, add_pl, Nat.zero_add, List.getElem?_toArray, List.getElem?_cons_succ, List.getElem?_cons_zero, Ex.c0, Ex.c1, Ex.c2, Ex.c3, Ex.c4, Ex.c5, St.c0, St.c1, St.c2, St.c3, St.c4, St.c5, St.c6, St.c7, St.c8, St.c9, hb1, hs]
    refine W_loop tree_deepExpr_L0_ok (fun ρ w' => ∃ n : Nat, n ≤ e.args.length ∧ ρ 9 = .int .i64 n ∧ ρ 8 = .int .i64 e.args.length ∧ ρ 7 = .slice A e.args.length c ∧ ρ 3 = .int .i64 (Ex.deepL (e.args.take n)) ∧ Mod none_ w w') (fun ρ _ => e.args.length - (intOf (ρ 9)).toNat)
      ⟨0, Nat.zero_le _, rfl, rfl, rfl, rfl, hm1⟩ ?_
    rintro ρ w2 ⟨n, hn, h9, h8, h7, h3, hm⟩
    rw [tree_deepExpr_L0_eq]
    unfold tree_deepExpr_L0_F
    rw [h9, h8, h7, h3, BK_lss]
    by_cases hlt : n < e.args.length
    · rw [show decide ((n : Int) < (e.args.length : Int)) = true by simp; omega]
      simp only [CondK_bool, MG_u, NG_u, VG_u, UG_u, PG_u, BG_u, CG_u, IG_u, MG_b, NG_b, VG_b, UG_b, PG_b, BG_b, CG_b, IG_b, PK_bool, NK_ptr, not_ok, reduceCtorEq, if_true, if_false, Bool.true_eq_false, Bool.false_eq_true, Bool.not_true, Bool.not_false]
      have hx : e.args[n]? = some e.args[n] := List.getElem?_eq_getElem hlt
      have hmem : e.args[n] ∈ e.args := List.getElem_mem hlt
      have hok2 := hok.args.mod hm
      rw [hs] at hok2
      refine ixEx hok2 hx fun y => ?_
      refine lcl_k (cs := e.args[n].cells.toArray) zEx _ iEx rfl (ex_one (hok2.at hx)) fun w3 hb3 hm3 _ => ?_
      refine ldB (cs := e.args[n].cells.toArray) Tryd.underlying29 rfl iEx hb3 ?_
      have hs2 := Ex.szL_at hx
      refine CK_st Tryd.func54 rfl rfl (ih _ hmem w3 ((hok2.at hx).mod hm3) (by omega)) ?_
      rintro _ w4 ⟨rfl, hm4⟩
      rw [max_i, BK_add, wrap_i (n := (n : Int) + 1) (by have := Ex.len_sz e.args; omega) (by have := Ex.len_sz e.args; omega)]
      refine ⟨⟨n + 1, hlt, rfl, h8, h7, ?_, (hm.trans hm3).trans hm4⟩, ?_⟩
      · simp only [sq_n, sq_x, sq_r, bk_n, bk_r, bk_x, rt_r, rt_n, rs_0, rs_t, pk_1, pk_2, up_at, reduceIte, Nat.reduceEqDiff]
        rw [List.take_add_one, hx, Option.toList_some, Ex.deepL_snoc]
        congr 1
        split <;> omega
      · simp only [sq_n, sq_x, sq_r, bk_n, bk_r, bk_x, rt_r, rt_n, rs_0, rs_t, pk_1, pk_2, up_at, reduceIte, Nat.reduceEqDiff, intOf]; omega
    · obtain rfl : n = e.args.length := by omega
      rw [show decide (((e.args.length : Nat) : Int) < (e.args.length : Int)) = false by simp]
      simp only [CondK_bool, MG_u, NG_u, VG_u, UG_u, PG_u, BG_u, CG_u, IG_u, MG_b, NG_b, VG_b, UG_b, PG_b, BG_b, CG_b, IG_b, PK_bool, NK_ptr, not_ok, reduceCtorEq, if_true, if_false, Bool.true_eq_false, Bool.false_eq_true, Bool.not_true, Bool.not_false, sq_n, sq_x, sq_r, bk_n, bk_r, bk_x, rt_r, rt_n, rs_0, rs_t, pk_1, pk_2, up_at, reduceIte, Nat.reduceEqDiff]
      rw [tree_deepExpr_R1_eq]
      unfold tree_deepExpr_R1_F
      simp only [sq_n, sq_x, sq_r, bk_n, bk_r, bk_x, rt_r, rt_n, rs_0, rs_t, pk_1, pk_2, up_at, reduceIte, Nat.reduceEqDiff, h3]
      rw [BK_add]
      rw [List.take_length]
      have := Ex.deepL_sz e.args
      rw [wrap_i (by omega) (by omega), Ex.deep_eq]
      exact ⟨rfl, hm⟩
theorem DeepExpr_ok : ∀ (e : Ex) (w : World), e.Ok w → e.sz ≤ 1099511627776 → Rt Tryd.prog 87 #[.agg e.cells.toArray] w fun v w' => v = .int .i64 e.deep ∧ Mod none_ w w' := by
  intro e
  induction e using Ex.ind with
  | h e ih =>
    intro w hok hsz
    obtain ⟨A, c, hs, _⟩ := reads_cap hok.args.1
    have hszL : Ex.szL e.args ≤ 1099511627776 := by rw [Ex.sz_eq] at hsz; omega
    refine dispatcherref02_DeepExpr_calls ?_
    unfold dispatcherref02_DeepExpr_F
    refine box_k (cs := e.cells.toArray) rfl fun w1 hb1 hm1 _ => ?_
    refine W_loop dispatcherref02_DeepExpr_L0_ok (fun ρ w' => ∃ n : Nat, n ≤ e.args.length ∧ ρ 4 = .int .i64 n ∧ ρ 1 = .pointer (some ⟨w.heap.size, 0, none⟩) ∧ ρ 3 = .int .i64 (Ex.deepL (e.args.take n) + 1 : Nat) ∧ w'.heap[w.heap.size]? = some (.cells e.cells.toArray 29 (0, 0)) ∧ Mod none_ w w') (fun ρ _ => e.args.length - (intOf (ρ 4)).toNat)
      ⟨0, Nat.zero_le _, rfl, rfl, rfl, hb1, hm1⟩ ?_
    rintro ρ w2 ⟨n, hn, h4, h1, h3, hb, hm⟩
    rw [dispatcherref02_DeepExpr_L0_eq]
    unfold dispatcherref02_DeepExpr_L0_F
    simp only [h4, h1, h3, fo25_0, fo25_1, fo25_2, fo25_3, fo25_4, fo25_5, fo25_6, fo25_7, fo29_0, fo29_1, fo29_2, fo29_3, fo34_0, fo34_1, fo43_0, fo43_1, ld2, ld3, ld5, ld9, ld22, ld23, ld32, len9, len22, len23, len32, len91, ldK_some, cellE, blkC_c, add_pl, Nat.zero_add, List.getElem?_toArray, List.getElem?_cons_succ, List.getElem?_cons_zero, Ex.c0, Ex.c1, Ex.c2, Ex.c3, Ex.c4, Ex.c5, St.c0, St.c1, St.c2, St.c3, St.c4, St.c5, St.c6, St.c7, St.c8, St.c9, hb, hs, BK_lss]
    by_cases hlt : n < e.args.length
    · rw [show decide ((n : Int) < (e.args.length : Int)) = true by simp; omega]
      simp only [CondK_bool, MG_u, NG_u, VG_u, UG_u, PG_u, BG_u, CG_u, IG_u, MG_b, NG_b, VG_b, UG_b, PG_b, BG_b, CG_b, IG_b, PK_bool, NK_ptr, not_ok, reduceCtorEq, if_true, if_false, Bool.true_eq_false, Bool.false_eq_true, Bool.not_true, Bool.not_false]
      have hx : e.args[n]? = some e.args[n] := List.getElem?_eq_getElem hlt
      have hmem : e.args[n] ∈ e.args := List.getElem_mem hlt
      have hok2 := hok.args.mod hm
      rw [hs] at hok2
      refine ixEx hok2 hx fun y => ?_
      have hs2 := Ex.szL_at hx
      refine CK_st Tryd.func87 rfl rfl (ih _ hmem w2 (hok2.at hx) (by omega)) ?_
      rintro _ w4 ⟨rfl, hm4⟩
      have hd := Ex.deep_sz e.args[n]
      have hl := Ex.len_sz e.args
      rw [BK_add, wrap_i (n := 1 + (e.args[n].deep : Int)) (by omega) (by omega), max_i, BK_add, wrap_i (n := (n : Int) + 1) (by omega) (by omega)]
      refine ⟨⟨n + 1, hlt, rfl, h1, ?_, hm4.blk hb id, hm.trans hm4⟩, ?_⟩
      · simp only [sq_n, sq_x, sq_r, bk_n, bk_r, bk_x, rt_r, rt_n, rs_0, rs_t, pk_1, pk_2, up_at, reduceIte, Nat.reduceEqDiff]
        rw [List.take_add_one, hx, Option.toList_some, Ex.deepL_snoc]
        congr 1
        split <;> omega
      · simp only [sq_n, sq_x, sq_r, bk_n, bk_r, bk_x, rt_r, rt_n, rs_0, rs_t, pk_1, pk_2, up_at, reduceIte, Nat.reduceEqDiff, intOf]; omega
    · obtain rfl : n = e.args.length := by omega
      rw [show decide (((e.args.length : Nat) : Int) < (e.args.length : Int)) = false by simp]
      simp only [CondK_bool, MG_u, NG_u, VG_u, UG_u, PG_u, BG_u, CG_u, IG_u, MG_b, NG_b, VG_b, UG_b, PG_b, BG_b, CG_b, IG_b, PK_bool, NK_ptr, not_ok, reduceCtorEq, if_true, if_false, Bool.true_eq_false, Bool.false_eq_true, Bool.not_true, Bool.not_false, sq_n, sq_x, sq_r, bk_n, bk_r, bk_x, rt_r, rt_n, rs_0, rs_t, pk_1, pk_2, up_at, reduceIte, Nat.reduceEqDiff]
      rw [dispatcherref02_DeepExpr_R1_eq]
      unfold dispatcherref02_DeepExpr_R1_F
      simp only [sq_n, sq_x, sq_r, bk_n, bk_r, bk_x, rt_r, rt_n, rs_0, rs_t, pk_1, pk_2, up_at, reduceIte, Nat.reduceEqDiff, h3]
      rw [List.take_length, Ex.deep_eq]
      exact ⟨rfl, hm⟩
end Go.Proofs.YtpkfbaagpjdifaaDoor.Tr
set_option linter.unusedVariables false
set_option linter.unusedSimpArgs false
set_option maxRecDepth 4000
namespace Go.Proofs.YtpkfbaagpjdifaaDoor.Tr
open Go Go.X Go.RowKit Go.Proofs.YtpkfbaagpjdifaaDoor.XF Go.Proofs.YtpkfbaagpjdifaaDoor.XK
theorem ixByte (s : ByteArray) (w : World) {n : Nat} (hs : n < s.size) {K : Value → World → Prop} (hk : K (.int .u8 (s[n]'hs).toNat) w) : VK Tryd.prog (Instr.index 9 (.string s) (.int .i64 (n : Int))) w K := by
  refine VK_of ?_ hk
  rw [run_index_string w _ s _ _ uS, dif_pos ⟨by omega, by omega⟩]
  rfl
theorem NameR_ok (w : World) (b : ByteArray) (hb : b.size ≤ maxLen) : Rt Tryd.prog 66 #[.string b] w fun v w' => v = .bool (nameP b) ∧ Mod none_ w w' := by
  refine dispatcherref01_Name_calls ?_
  unfold dispatcherref01_Name_F
  simp only [fo25_0, fo25_1, fo25_2, fo25_3, fo25_4, fo25_5, fo25_6, fo25_7, fo29_0, fo29_1, fo29_2, fo29_3, fo34_0, fo34_1, fo43_0, fo43_1, ld2, ld3, ld5, ld9, ld22, ld23, ld32, len9, len22, len23, len32, len91, ldK_some, cellE, blkC_c, add_pl, Nat.zero_add, List.getElem?_toArray, List.getElem?_cons_succ, List.getElem?_cons_zero, BK_lss]
  by_cases h0 : b.size = 0
  · rw [show decide ((b.size : Int) < 1) = true by rw [decide_eq_true_eq]; omega]
    simp only [CondK_bool, MG_u, NG_u, VG_u, UG_u, PG_u, BG_u, CG_u, IG_u, MG_b, NG_b, VG_b, UG_b, PG_b, BG_b, CG_b, IG_b, PK_bool, NK_ptr, not_ok, reduceCtorEq, if_true, if_false, Bool.true_eq_false, Bool.false_eq_true, Bool.not_true, Bool.not_false]
    refine ⟨?_, Mod.refl _ _⟩
    unfold nameP
    rw [show decide (1 ≤ b.size) = false from decide_eq_false (by omega)]
    rfl
  have hpos : 0 < b.size := by omega
  rw [show decide ((b.size : Int) < 1) = false by rw [decide_eq_false_iff_not]; omega]
  simp only [CondK_bool, MG_u, NG_u, VG_u, UG_u, PG_u, BG_u, CG_u, IG_u, MG_b, NG_b, VG_b, UG_b, PG_b, BG_b, CG_b, IG_b, PK_bool, NK_ptr, not_ok, reduceCtorEq, if_true, if_false, Bool.true_eq_false, Bool.false_eq_true, Bool.not_true, Bool.not_false, fo25_0, fo25_1, fo25_2, fo25_3, fo25_4, fo25_5, fo25_6, fo25_7, fo29_0, fo29_1, fo29_2, fo29_3, fo34_0, fo34_1, fo43_0, fo43_1, ld2, ld3, ld5, ld9, ld22, ld23, ld32, len9, len22, len23, len32, len91, ldK_some, cellE, blkC_c, add_pl, Nat.zero_add, List.getElem?_toArray, List.getElem?_cons_succ, List.getElem?_cons_zero, BK_gtr]
  by_cases h12 : 12 < b.size
  · rw [show decide ((12 : Int) < (b.size : Int)) = true by rw [decide_eq_true_eq]; omega]
    simp only [CondK_bool, MG_u, NG_u, VG_u, UG_u, PG_u, BG_u, CG_u, IG_u, MG_b, NG_b, VG_b, UG_b, PG_b, BG_b, CG_b, IG_b, PK_bool, NK_ptr, not_ok, reduceCtorEq, if_true, if_false, Bool.true_eq_false, Bool.false_eq_true, Bool.not_true, Bool.not_false]
    refine ⟨?_, Mod.refl _ _⟩
    unfold nameP
    rw [show decide (b.size ≤ 12) = false from decide_eq_false (by omega)]
    simp
  have h12 : b.size ≤ 12 := by omega
  rw [show decide ((12 : Int) < (b.size : Int)) = false by rw [decide_eq_false_iff_not]; omega]
  simp only [CondK_bool, MG_u, NG_u, VG_u, UG_u, PG_u, BG_u, CG_u, IG_u, MG_b, NG_b, VG_b, UG_b, PG_b, BG_b, CG_b, IG_b, PK_bool, NK_ptr, not_ok, reduceCtorEq, if_true, if_false, Bool.true_eq_false, Bool.false_eq_true, Bool.not_true, Bool.not_false]
  refine ixByte b w (n := 0) hpos ?_
  refine CK_st Tryd.func61 rfl rfl (letterR_ok _ w) ?_
  rintro _ w ⟨rfl, rfl⟩
  rw [letter_nat]
  have n1 : decide (1 ≤ b.size) = true := decide_eq_true (by omega)
  cases hl : letterP (b[0]'hpos) with
  | false =>
    simp only [CondK_bool, MG_u, NG_u, VG_u, UG_u, PG_u, BG_u, CG_u, IG_u, MG_b, NG_b, VG_b, UG_b, PG_b, BG_b, CG_b, IG_b, PK_bool, NK_ptr, not_ok, reduceCtorEq, if_true, if_false, Bool.true_eq_false, Bool.false_eq_true, Bool.not_true, Bool.not_false]
    refine ⟨?_, Mod.refl _ _⟩
    unfold nameP
    rw [head_at b hpos, Option.any_some, hl]
    simp
  | true =>
    simp only [CondK_bool, MG_u, NG_u, VG_u, UG_u, PG_u, BG_u, CG_u, IG_u, MG_b, NG_b, VG_b, UG_b, PG_b, BG_b, CG_b, IG_b, PK_bool, NK_ptr, not_ok, reduceCtorEq, if_true, if_false, Bool.true_eq_false, Bool.false_eq_true, Bool.not_true, Bool.not_false]
    refine CK_st Tryd.func65 rfl rfl (WordR_ok w b) ?_
    rintro _ w1 ⟨rfl, hm⟩
    cases hw : wordsL.contains b.data.toList with
    | true =>
      simp only [CondK_bool, MG_u, NG_u, VG_u, UG_u, PG_u, BG_u, CG_u, IG_u, MG_b, NG_b, VG_b, UG_b, PG_b, BG_b, CG_b, IG_b, PK_bool, NK_ptr, not_ok, reduceCtorEq, if_true, if_false, Bool.true_eq_false, Bool.false_eq_true, Bool.not_true, Bool.not_false]
      refine ⟨?_, hm⟩
      unfold nameP
      rw [hw]
      simp
    | false =>
      simp only [CondK_bool, MG_u, NG_u, VG_u, UG_u, PG_u, BG_u, CG_u, IG_u, MG_b, NG_b, VG_b, UG_b, PG_b, BG_b, CG_b, IG_b, PK_bool, NK_ptr, not_ok, reduceCtorEq, if_true, if_false, Bool.true_eq_false, Bool.false_eq_true, Bool.not_true, Bool.not_false]
      refine W_loop dispatcherref01_Name_L0_ok (fun ρ w' => ∃ n : Nat, n ≤ b.size ∧ ρ 3 = .int .i64 n ∧ ρ 0 = .string b ∧ (∀ (j : Nat) (h : j < b.size), j < n → alnumP (b[j]'h) = true) ∧ w' = w1) (fun ρ _ => b.size - (intOf (ρ 3)).toNat)
        ⟨0, Nat.zero_le _, rfl, rfl, fun j h q => by omega, rfl⟩ ?_
      rintro ρ w1 ⟨n, hn, h3, h0', hall, rfl⟩
      rw [dispatcherref01_Name_L0_eq]
      unfold dispatcherref01_Name_L0_F
      simp only [h3, h0', fo25_0, fo25_1, fo25_2, fo25_3, fo25_4, fo25_5, fo25_6, fo25_7, fo29_0, fo29_1, fo29_2, fo29_3, fo34_0, fo34_1, fo43_0, fo43_1, ld2, ld3, ld5, ld9, ld22, ld23, ld32, len9, len22, len23, len32, len91, ldK_some, cellE, blkC_c, add_pl, Nat.zero_add, List.getElem?_toArray, List.getElem?_cons_succ, List.getElem?_cons_zero, BK_lss]
      by_cases hlt : n < b.size
      · rw [show decide ((n : Int) < (b.size : Int)) = true by rw [decide_eq_true_eq]; omega]
        simp only [CondK_bool, MG_u, NG_u, VG_u, UG_u, PG_u, BG_u, CG_u, IG_u, MG_b, NG_b, VG_b, UG_b, PG_b, BG_b, CG_b, IG_b, PK_bool, NK_ptr, not_ok, reduceCtorEq, if_true, if_false, Bool.true_eq_false, Bool.false_eq_true, Bool.not_true, Bool.not_false]
        refine ixByte b w1 hlt ?_
        refine CK_st Tryd.func61 rfl rfl (letterR_ok _ w1) ?_
        rintro _ w1 ⟨rfl, rfl⟩
        rw [letter_nat]
        have go : ∀ (ρ' : Sl), alnumP (b[n]'hlt) = true → ρ' 3 = .int .i64 (n + 1 : Nat) → ρ' 0 = .string b → (∃ n : Nat, n ≤ b.size ∧ ρ' 3 = .int .i64 n ∧ ρ' 0 = .string b ∧ (∀ (j : Nat) (h : j < b.size), j < n → alnumP (b[j]'h) = true) ∧ w1 = w1) := fun ρ' ha e3 e0 =>
          ⟨n + 1, hlt, e3, e0, fun j h q => by
            by_cases e : j = n
            · subst e; exact ha
            · exact hall j h (by omega), rfl⟩
        cases hl' : letterP (b[n]'hlt) with
        | true =>
          simp only [CondK_bool, MG_u, NG_u, VG_u, UG_u, PG_u, BG_u, CG_u, IG_u, MG_b, NG_b, VG_b, UG_b, PG_b, BG_b, CG_b, IG_b, PK_bool, NK_ptr, not_ok, reduceCtorEq, if_true, if_false, Bool.true_eq_false, Bool.false_eq_true, Bool.not_true, Bool.not_false]
          rw [BK_add, wrap_i (by unfold maxLen at hb; omega) (by unfold maxLen at hb; omega)]
          refine ⟨go _ (by unfold alnumP; rw [hl']; rfl) rfl h0', ?_⟩
          simp only [sq_n, sq_x, sq_r, bk_n, bk_r, bk_x, rt_r, rt_n, rs_0, rs_t, pk_1, pk_2, up_at, reduceIte, Nat.reduceEqDiff, intOf]; omega
        | false =>
          simp only [CondK_bool, MG_u, NG_u, VG_u, UG_u, PG_u, BG_u, CG_u, IG_u, MG_b, NG_b, VG_b, UG_b, PG_b, BG_b, CG_b, IG_b, PK_bool, NK_ptr, not_ok, reduceCtorEq, if_true, if_false, Bool.true_eq_false, Bool.false_eq_true, Bool.not_true, Bool.not_false]
          refine ixByte b w1 hlt ?_
          refine CK_st Tryd.func62 rfl rfl (digitR_ok _ w1) ?_
          rintro _ w1 ⟨rfl, rfl⟩
          rw [digit_nat]
          cases hd : digitP (b[n]'hlt) with
          | true =>
            simp only [CondK_bool, MG_u, NG_u, VG_u, UG_u, PG_u, BG_u, CG_u, IG_u, MG_b, NG_b, VG_b, UG_b, PG_b, BG_b, CG_b, IG_b, PK_bool, NK_ptr, not_ok, reduceCtorEq, if_true, if_false, Bool.true_eq_false, Bool.false_eq_true, Bool.not_true, Bool.not_false]
            rw [BK_add, wrap_i (by unfold maxLen at hb; omega) (by unfold maxLen at hb; omega)]
            refine ⟨go _ (by unfold alnumP; rw [hl', hd]; rfl) rfl h0', ?_⟩
            simp only [sq_n, sq_x, sq_r, bk_n, bk_r, bk_x, rt_r, rt_n, rs_0, rs_t, pk_1, pk_2, up_at, reduceIte, Nat.reduceEqDiff, intOf]; omega
          | false =>
            simp only [CondK_bool, MG_u, NG_u, VG_u, UG_u, PG_u, BG_u, CG_u, IG_u, MG_b, NG_b, VG_b, UG_b, PG_b, BG_b, CG_b, IG_b, PK_bool, NK_ptr, not_ok, reduceCtorEq, if_true, if_false, Bool.true_eq_false, Bool.false_eq_true, Bool.not_true, Bool.not_false, sq_n, sq_x, sq_r, bk_n, bk_r, bk_x, rt_r, rt_n, rs_0, rs_t, pk_1, pk_2, up_at, reduceIte, Nat.reduceEqDiff]
            refine ⟨?_, hm⟩
            have : b.data.toList.all alnumP = false := by
              rw [Bool.eq_false_iff]
              intro q
              have := (all_iff b _).1 q n hlt
              unfold alnumP at this
              rw [hl', hd] at this
              cases this
            unfold nameP
            rw [this]
            simp
      · obtain rfl : n = b.size := by omega
        rw [show decide (((b.size : Nat) : Int) < (b.size : Int)) = false by simp]
        simp only [CondK_bool, MG_u, NG_u, VG_u, UG_u, PG_u, BG_u, CG_u, IG_u, MG_b, NG_b, VG_b, UG_b, PG_b, BG_b, CG_b, IG_b, PK_bool, NK_ptr, not_ok, reduceCtorEq, if_true, if_false, Bool.true_eq_false, Bool.false_eq_true, Bool.not_true, Bool.not_false, sq_n, sq_x, sq_r, bk_n, bk_r, bk_x, rt_r, rt_n, rs_0, rs_t, pk_1, pk_2, up_at, reduceIte, Nat.reduceEqDiff]
        rw [dispatcherref01_Name_R1_eq]
        unfold dispatcherref01_Name_R1_F
        simp only [sq_n, sq_x, sq_r, bk_n, bk_r, bk_x, rt_r, rt_n, rs_0, rs_t, pk_1, pk_2, up_at, reduceIte, Nat.reduceEqDiff]
        refine ⟨?_, hm⟩
        have : b.data.toList.all alnumP = true := (all_iff b _).2 fun i h => hall i h h
        unfold nameP
        rw [this, head_at b hpos, Option.any_some, hl, hw, n1, decide_eq_true h12]
        rfl
theorem ixArr {P : Program} {w : World} {K : Value → World → Prop} {t e : TypeId} {n sz : Nat} (hu : P.underlying t = some (.array n e)) (hc : P.cellsOf e = sz + 1) {a : Addr} {k : IntKind} {i : Int} (h0 : 0 ≤ i) (h1 : i < n) :
    VK P (Instr.indexAt t (.pointer (some a)) (.int k i)) w K = K (.pointer (some (a.add (i.toNat * (sz + 1))))) w := by
  obtain ⟨z, hz, hzs⟩ := info_of hc
  have h : (Instr.indexAt t (.pointer (some a)) (.int k i)).run P w = .ok (.pointer (some (a.add (i.toNat * (sz + 1))))) w := by
    simp [Instr.indexAt, Instr.sureAddr, run_underlying hu, Sem.run_bind, asIntOf, h0, h1, sizeOf, typeInfo, hz, hzs]
  unfold VK OpK
  simp only [Sem.run_bind, h, Result.andThen_ok]
  rfl
theorem conv_i {P : Program} {w : World} {K : Value → World → Prop} {src dst : TypeId} {q k : IntKind} {n : Int} (hs : (P.underlying src).isSome = true) (hd : P.underlying dst = some (.int k)) : VK P (convert src dst (.int q n)) w K = K (.int k (k.wrap n)) w := by
  have ek : P.intKind dst = k := by simp [Program.intKind, hd]
  have := run_convert_int (P := P) w src dst q n hs (by rw [ek]; exact hd)
  unfold VK OpK
  simp only [Sem.run_bind, this, Result.andThen_ok, ek]
  rfl
theorem args_at (k : Nat) (h : k < 22) : ∃ n : Int, argsC[k]? = some (.int .i64 n) ∧ (if 0 ≤ n then (n, n) else (1, 8)) = (((argsP (k + 1)).1 : Int), ((argsP (k + 1)).2 : Int)) := by
  match k, h with
  | 0, _ => exact ⟨_, rfl, rfl⟩
  | 1, _ => exact ⟨_, rfl, rfl⟩
  | 2, _ => exact ⟨_, rfl, rfl⟩
  | 3, _ => exact ⟨_, rfl, rfl⟩
  | 4, _ => exact ⟨_, rfl, rfl⟩
  | 5, _ => exact ⟨_, rfl, rfl⟩
  | 6, _ => exact ⟨_, rfl, rfl⟩
  | 7, _ => exact ⟨_, rfl, rfl⟩
  | 8, _ => exact ⟨_, rfl, rfl⟩
  | 9, _ => exact ⟨_, rfl, rfl⟩
  | 10, _ => exact ⟨_, rfl, rfl⟩
  | 11, _ => exact ⟨_, rfl, rfl⟩
  | 12, _ => exact ⟨_, rfl, rfl⟩
  | 13, _ => exact ⟨_, rfl, rfl⟩
  | 14, _ => exact ⟨_, rfl, rfl⟩
  | 15, _ => exact ⟨_, rfl, rfl⟩
  | 16, _ => exact ⟨_, rfl, rfl⟩
  | 17, _ => exact ⟨_, rfl, rfl⟩
  | 18, _ => exact ⟨_, rfl, rfl⟩
  | 19, _ => exact ⟨_, rfl, rfl⟩
  | 20, _ => exact ⟨_, rfl, rfl⟩
  | 21, _ => exact ⟨_, rfl, rfl⟩
  | n + 22, h => exact absurd h (by omega)
theorem uArgs : Tryd.prog.underlying 113 = some (.array 22 3) := by kernel_rfl
theorem cI : Tryd.prog.cellsOf 3 = 0 + 1 := by kernel_rfl
theorem Args_ok {w : World} (hg : Gl w) (k : Int) (hk : (Lit.int .u8 k).wf = true) : Rt Tryd.prog 56 #[.int .u8 k] w fun v w' => v = .tuple #[.int .i64 (argsP k).1, .int .i64 (argsP k).2] ∧ w' = w := by
  have hr : 0 ≤ k ∧ k ≤ 255 := by simpa [Lit.wf, IntKind.min, IntKind.max, IntKind.signed, IntKind.bits] using hk
  have zero : k < 1 ∨ 22 < k → argsP k = (0, 0) := fun h => by unfold argsP; rw [if_neg (by omega), if_neg (by omega), if_neg (by omega), if_neg (by omega), if_neg (by omega)]
  refine tree_Args_calls ?_
  unfold tree_Args_F
  rw [BK_lss]
  by_cases h1 : k < 1
  · rw [decide_eq_true h1]
    simp only [CondK_bool, MG_u, NG_u, VG_u, UG_u, PG_u, BG_u, CG_u, IG_u, MG_b, NG_b, VG_b, UG_b, PG_b, BG_b, CG_b, IG_b, PK_bool, NK_ptr, not_ok, reduceCtorEq, if_true, if_false, Bool.true_eq_false, Bool.false_eq_true, Bool.not_true, Bool.not_false]
    rw [zero (.inl h1)]
    exact ⟨rfl, trivial⟩
  rw [decide_eq_false h1]
  simp only [CondK_bool, MG_u, NG_u, VG_u, UG_u, PG_u, BG_u, CG_u, IG_u, MG_b, NG_b, VG_b, UG_b, PG_b, BG_b, CG_b, IG_b, PK_bool, NK_ptr, not_ok, reduceCtorEq, if_true, if_false, Bool.true_eq_false, Bool.false_eq_true, Bool.not_true, Bool.not_false]
  rw [conv_i (by kernel_rfl) uI, wrap_i (by omega) (by omega), BK_gtr]
  by_cases h2 : 22 < k
  · rw [decide_eq_true h2]
    simp only [CondK_bool, MG_u, NG_u, VG_u, UG_u, PG_u, BG_u, CG_u, IG_u, MG_b, NG_b, VG_b, UG_b, PG_b, BG_b, CG_b, IG_b, PK_bool, NK_ptr, not_ok, reduceCtorEq, if_true, if_false, Bool.true_eq_false, Bool.false_eq_true, Bool.not_true, Bool.not_false]
    rw [zero (.inr h2)]
    exact ⟨rfl, trivial⟩
  rw [decide_eq_false h2]
  simp only [CondK_bool, MG_u, NG_u, VG_u, UG_u, PG_u, BG_u, CG_u, IG_u, MG_b, NG_b, VG_b, UG_b, PG_b, BG_b, CG_b, IG_b, PK_bool, NK_ptr, not_ok, reduceCtorEq, if_true, if_false, Bool.true_eq_false, Bool.false_eq_true, Bool.not_true, Bool.not_false]
  rw [BK_sub, show IntKind.u8.wrap (k - 1) = k - 1 by rw [IntKind.wrap_u8]; omega]
  obtain ⟨j, rfl⟩ : ∃ j : Nat, k = j + 1 := ⟨(k - 1).toNat, by omega⟩
  rw [show (j : Int) + 1 - 1 = j by omega, ixArr uArgs cI (by omega) (by omega)]
  obtain ⟨n, hn, he⟩ := args_at j (by omega)
  have hcell := hg.args j _ hn
  simp only [ld3, add_pl, Int.toNat_natCast, Nat.zero_add, Nat.mul_one, hcell, ldK_some, BK_geq]
  by_cases h0 : 0 ≤ n
  · rw [if_pos h0] at he
    rw [decide_eq_true h0]
    simp only [CondK_bool, MG_u, NG_u, VG_u, UG_u, PG_u, BG_u, CG_u, IG_u, MG_b, NG_b, VG_b, UG_b, PG_b, BG_b, CG_b, IG_b, PK_bool, NK_ptr, not_ok, reduceCtorEq, if_true, if_false, Bool.true_eq_false, Bool.false_eq_true, Bool.not_true, Bool.not_false, (Prod.mk.inj he).1, (Prod.mk.inj he).2]
    refine ⟨?_, trivial⟩
    rw [← (Prod.mk.inj he).1, ← (Prod.mk.inj he).2]
  · rw [if_neg h0] at he
    rw [decide_eq_false h0]
    simp only [CondK_bool, MG_u, NG_u, VG_u, UG_u, PG_u, BG_u, CG_u, IG_u, MG_b, NG_b, VG_b, UG_b, PG_b, BG_b, CG_b, IG_b, PK_bool, NK_ptr, not_ok, reduceCtorEq, if_true, if_false, Bool.true_eq_false, Bool.false_eq_true, Bool.not_true, Bool.not_false]
    rw [← (Prod.mk.inj he).1, ← (Prod.mk.inj he).2]
    exact ⟨rfl, trivial⟩
end Go.Proofs.YtpkfbaagpjdifaaDoor.Tr
set_option linter.unusedVariables false
set_option linter.unusedSimpArgs false
set_option maxRecDepth 4000
namespace Go.Proofs.YtpkfbaagpjdifaaDoor.Tr
open Go Go.X Go.RowKit Go.Proofs.YtpkfbaagpjdifaaDoor.XF Go.Proofs.YtpkfbaagpjdifaaDoor.XK
def zStc : List Value := [.int .u8 0, .int .u8 0, .int .u8 0, .string ByteArray.empty, .int .i64 0, .slice none 0 0, .slice none 0 0, .slice none 0 0, .int .i64 0, .int .i64 0]
theorem zSt : (Tryd.prog.info? 25).bind (·.zero) = some (.agg zStc.toArray) := by kernel_rfl
theorem iSt : (Tryd.prog.info? 25).map (·.size) = some 10 := by kernel_rfl
theorem st_one {w : World} {e : St} (h : e.Ok w) : (e.cells.toArray.all (·.oneCell')) = true := by
  obtain ⟨A, c, hs, _⟩ := reads_cap h.exprs.1
  obtain ⟨A2, c2, hs2, _⟩ := reads_cap h.body.1
  obtain ⟨A3, c3, hs3, _⟩ := reads_cap h.els.1
  simp [St.cells, hs, hs2, hs3, Value.oneCell']
theorem ixSt {w : World} {s : Value} {l : List St} {i : Nat} {e : St} {K : Value → Value → World → Prop} (h : StsOk w s l) (hi : l[i]? = some e) (hk : ∀ x, K x (.agg e.cells.toArray) w) :
    VK Tryd.prog (Instr.indexAt 23 s (.int .i64 (i : Int))) w fun x w => VK Tryd.prog (Instr.loadAt 25 x) w (K x) := by
  have hlt : i < l.length := (List.getElem?_eq_some_iff.1 hi).1
  refine ixldA uSts cSt Tryd.underlying25 rfl h.1 (by omega) (by omega) fun x => ?_
  rw [show ((i : Int).toNat) = i by omega, fl_drop (k := 9 + 1) St.cells_len hi]
  exact hk x
theorem ixStA {w : World} {s : Value} {l : List St} {i : Nat} {e : St} {K : Value → World → Prop} (h : StsOk w s l) (hi : l[i]? = some e) (hk : ∀ a, (∀ j u, e.cells[j]? = some u → w.cell? (a.add j) = some u) → K (.pointer (some a)) w) :
    VK Tryd.prog (Instr.indexAt 23 s (.int .i64 (i : Int))) w K := by
  have hlt : i < l.length := (List.getElem?_eq_some_iff.1 hi).1
  refine ixat uSts cSt h.1 (by omega) (by omega) fun a ha _ => hk a fun j u hu => ?_
  have hj : j < 9 + 1 := (List.getElem?_eq_some_iff.1 hu).1
  refine ha j u hj ?_
  rw [show ((i : Int).toNat) = i by omega, fl_get (k := 9 + 1) St.cells_len hi hj]
  exact hu
structure De where
  name : ByteArray
  places : Int
  line : Int
  col : Int
def De.cells (e : De) : List Value := [.string e.name, .int .i64 e.places, .int .i64 e.line, .int .i64 e.col]
theorem De.cells_len (e : De) : e.cells.length = 4 := rfl
theorem De.c0 (e : De) : e.cells[0]? = some (.string e.name) := rfl
theorem De.c1 (e : De) : e.cells[1]? = some (.int .i64 e.places) := rfl
theorem De.c2 (e : De) : e.cells[2]? = some (.int .i64 e.line) := rfl
theorem De.c3 (e : De) : e.cells[3]? = some (.int .i64 e.col) := rfl
def De.fine (e : De) : Prop := e.name.size ≤ maxLen ∧ (Lit.int .i64 e.places).wf = true ∧ (Lit.int .i64 e.line).wf = true ∧ (Lit.int .i64 e.col).wf = true
def DesOk (w : World) (s : Value) (l : List De) : Prop := reads w 4 s l.length (l.flatMap De.cells) ∧ ∀ a ∈ l, a.fine
theorem DesOk.mod {w w' : World} {s : Value} {l : List De} (h : DesOk w s l) (hm : Mod none_ w w') : DesOk w' s l := ⟨reads_mod h.1 hm (fun _ _ _ => id), h.2⟩
theorem uDes : Tryd.prog.underlying 32 = some (.slice 43) := by kernel_rfl
theorem cDe : Tryd.prog.cellsOf 43 = 4 := by kernel_rfl
theorem zDe : (Tryd.prog.info? 43).bind (·.zero) = some (.agg #[.string ByteArray.empty, .int .i64 0, .int .i64 0, .int .i64 0]) := by kernel_rfl
theorem iDe : (Tryd.prog.info? 43).map (·.size) = some 4 := by kernel_rfl
theorem de_one (e : De) : (e.cells.toArray.all (·.oneCell')) = true := by simp [De.cells, Value.oneCell']
theorem ixDe {w : World} {s : Value} {l : List De} {i : Nat} {e : De} {K : Value → Value → World → Prop} (h : DesOk w s l) (hi : l[i]? = some e) (hk : ∀ x, K x (.agg e.cells.toArray) w) :
    VK Tryd.prog (Instr.indexAt 32 s (.int .i64 (i : Int))) w fun x w => VK Tryd.prog (Instr.loadAt 43 x) w (K x) := by
  have hlt : i < l.length := (List.getElem?_eq_some_iff.1 hi).1
  refine ixldA uDes cDe Tryd.underlying43 rfl h.1 (by omega) (by omega) fun x => ?_
  rw [show ((i : Int).toNat) = i by omega, fl_drop (k := 3 + 1) De.cells_len hi]
  exact hk x
theorem IndexFuncEx_ok {w : World} {s : Value} {l : List Ex} {p : Ex → Bool} {fv : Value} (h : ExsOk w s l) (hlen : l.length ≤ 1099511627776)
    (hf : ∀ a ∈ l, ∀ w', Mod none_ w w' → ∀ K : Value → World → Prop, (∀ w'', Mod none_ w' w'' → K (.bool (p a)) w'') → CK Tryd.prog fv [.agg a.cells.toArray] w' K) :
    Rt Tryd.prog 78 #[s, fv] w fun v w' => (∃ r : Int, v = .int .i64 r ∧ (if l.any p then 0 ≤ r else r = -1)) ∧ Mod none_ w w' := by
  obtain ⟨A, c, hs, _⟩ := reads_cap h.1
  refine slices_IndexFunc_tree_Expr_tree_Expr_calls ?_
  unfold slices_IndexFunc_tree_Expr_tree_Expr_F
  simp only [hs, fo25_0, fo25_1, fo25_2, fo25_3, fo25_4, fo25_5, fo25_6, fo25_7, fo29_0, fo29_1, fo29_2, fo29_3, fo34_0, fo34_1, fo43_0, fo43_1, ld2, ld3, ld5, ld9, ld22, ld23, ld32, len9, len22, len23, len32, len91, ldK_some, cellE, blkC_c, add_pl, Nat.zero_add, List.getElem?_toArray, List.getElem?_cons_succ, List.getElem?_cons_zero]
  refine W_loop slices_IndexFunc_tree_Expr_tree_Expr_L0_ok (fun ρ w' => ∃ n : Nat, n ≤ l.length ∧ ρ 8 = .int .i64 n ∧ ρ 7 = .int .i64 l.length ∧ ρ 0 = .slice A l.length c ∧ ρ 1 = fv ∧ (∀ a ∈ l.take n, p a = false) ∧ Mod none_ w w') (fun ρ _ => l.length - (intOf (ρ 8)).toNat)
    ⟨0, Nat.zero_le _, rfl, rfl, rfl, rfl, by simp, Mod.refl _ _⟩ ?_
  rintro ρ w1 ⟨n, hn, h8, h7, h0, h1, hno, hm⟩
  rw [slices_IndexFunc_tree_Expr_tree_Expr_L0_eq]
  unfold slices_IndexFunc_tree_Expr_tree_Expr_L0_F
  simp only [h8, h7, h0, h1, BK_lss]
  by_cases hlt : n < l.length
  · rw [show decide ((n : Int) < (l.length : Int)) = true by rw [decide_eq_true_eq]; omega]
    simp only [CondK_bool, MG_u, NG_u, VG_u, UG_u, PG_u, BG_u, CG_u, IG_u, MG_b, NG_b, VG_b, UG_b, PG_b, BG_b, CG_b, IG_b, PK_bool, NK_ptr, not_ok, reduceCtorEq, if_true, if_false, Bool.true_eq_false, Bool.false_eq_true, Bool.not_true, Bool.not_false]
    have hx : l[n]? = some l[n] := List.getElem?_eq_getElem hlt
    have hmem : l[n] ∈ l := List.getElem_mem hlt
    have h2 := h.mod hm
    rw [hs] at h2
    refine ixEx h2 hx fun y => ?_
    refine hf _ hmem w1 hm _ fun w2 hm2 => ?_
    refine caseC (fun hp => ?_) (fun hp => ?_)
    · refine ⟨⟨_, rfl, ?_⟩, hm.trans hm2⟩
      rw [if_pos (List.any_eq_true.2 ⟨_, hmem, hp⟩)]
      omega
    · rw [BK_add, wrap_i (by omega) (by omega)]
      refine ⟨⟨n + 1, hlt, rfl, h7, h0, h1, ?_, hm.trans hm2⟩, ?_⟩
      · rw [List.take_add_one, hx, Option.toList_some]
        intro a q
        rcases List.mem_append.1 q with q | q
        · exact hno a q
        · rw [List.mem_singleton.1 q]; exact hp
      · simp only [sq_n, sq_x, sq_r, bk_n, bk_r, bk_x, rt_r, rt_n, rs_0, rs_t, pk_1, pk_2, up_at, reduceIte, Nat.reduceEqDiff, intOf]; omega
  · obtain rfl : n = l.length := by omega
    rw [show decide (((l.length : Nat) : Int) < (l.length : Int)) = false by simp]
    simp only [CondK_bool, MG_u, NG_u, VG_u, UG_u, PG_u, BG_u, CG_u, IG_u, MG_b, NG_b, VG_b, UG_b, PG_b, BG_b, CG_b, IG_b, PK_bool, NK_ptr, not_ok, reduceCtorEq, if_true, if_false, Bool.true_eq_false, Bool.false_eq_true, Bool.not_true, Bool.not_false, sq_n, sq_x, sq_r, bk_n, bk_r, bk_x, rt_r, rt_n, rs_0, rs_t, pk_1, pk_2, up_at, reduceIte, Nat.reduceEqDiff]
    rw [slices_IndexFunc_tree_Expr_tree_Expr_R1_eq]
    unfold slices_IndexFunc_tree_Expr_tree_Expr_R1_F
    simp only [sq_n, sq_x, sq_r, bk_n, bk_r, bk_x, rt_r, rt_n, rs_0, rs_t, pk_1, pk_2, up_at, reduceIte, Nat.reduceEqDiff]
    refine ⟨⟨_, rfl, ?_⟩, hm⟩
    rw [if_neg]
    intro q
    obtain ⟨a, ha, hp⟩ := List.any_eq_true.1 q
    rw [List.take_length] at hno
    rw [hno a ha] at hp
    cases hp
theorem ContainsFuncEx_ok {w : World} {s : Value} {l : List Ex} {p : Ex → Bool} {fv : Value} (h : ExsOk w s l) (hlen : l.length ≤ 1099511627776)
    (hf : ∀ a ∈ l, ∀ w', Mod none_ w w' → ∀ K : Value → World → Prop, (∀ w'', Mod none_ w' w'' → K (.bool (p a)) w'') → CK Tryd.prog fv [.agg a.cells.toArray] w' K) :
    Rt Tryd.prog 57 #[s, fv] w fun v w' => v = .bool (l.any p) ∧ Mod none_ w w' := by
  refine slices_ContainsFunc_tree_Expr_tree_Expr_calls ?_
  unfold slices_ContainsFunc_tree_Expr_tree_Expr_F
  refine CK_st Tryd.func78 rfl rfl (IndexFuncEx_ok h hlen hf) ?_
  rintro _ w1 ⟨⟨r, rfl, hr⟩, hm⟩
  rw [BK_geq]
  refine ⟨?_, hm⟩
  cases hp : l.any p with
  | true =>
    rw [hp, if_pos rfl] at hr
    rw [decide_eq_true hr]
  | false =>
    rw [hp, if_neg (by simp)] at hr
    rw [hr]
    rfl
theorem IndexFuncSt_ok {w : World} {s : Value} {l : List St} {p : St → Bool} {fv : Value} (h : StsOk w s l) (hlen : l.length ≤ 1099511627776)
    (hf : ∀ a ∈ l, ∀ w', Mod none_ w w' → ∀ K : Value → World → Prop, (∀ w'', Mod none_ w' w'' → K (.bool (p a)) w'') → CK Tryd.prog fv [.agg a.cells.toArray] w' K) :
    Rt Tryd.prog 55 #[s, fv] w fun v w' => (∃ r : Int, v = .int .i64 r ∧ (if l.any p then 0 ≤ r else r = -1)) ∧ Mod none_ w w' := by
  obtain ⟨A, c, hs, _⟩ := reads_cap h.1
  refine slices_IndexFunc_tree_Stmt_tree_Stmt_calls ?_
  unfold slices_IndexFunc_tree_Stmt_tree_Stmt_F
  simp only [hs, fo25_0, fo25_1, fo25_2, fo25_3, fo25_4, fo25_5, fo25_6, fo25_7, fo29_0, fo29_1, fo29_2, fo29_3, fo34_0, fo34_1, fo43_0, fo43_1, ld2, ld3, ld5, ld9, ld22, ld23, ld32, len9, len22, len23, len32, len91, ldK_some, cellE, blkC_c, add_pl, Nat.zero_add, List.getElem?_toArray, List.getElem?_cons_succ, List.getElem?_cons_zero]
  refine W_loop slices_IndexFunc_tree_Stmt_tree_Stmt_L0_ok (fun ρ w' => ∃ n : Nat, n ≤ l.length ∧ ρ 8 = .int .i64 n ∧ ρ 7 = .int .i64 l.length ∧ ρ 0 = .slice A l.length c ∧ ρ 1 = fv ∧ (∀ a ∈ l.take n, p a = false) ∧ Mod none_ w w') (fun ρ _ => l.length - (intOf (ρ 8)).toNat)
    ⟨0, Nat.zero_le _, rfl, rfl, rfl, rfl, by simp, Mod.refl _ _⟩ ?_
  rintro ρ w1 ⟨n, hn, h8, h7, h0, h1, hno, hm⟩
  rw [slices_IndexFunc_tree_Stmt_tree_Stmt_L0_eq]
  unfold slices_IndexFunc_tree_Stmt_tree_Stmt_L0_F
  simp only [h8, h7, h0, h1, BK_lss]
  by_cases hlt : n < l.length
  · rw [show decide ((n : Int) < (l.length : Int)) = true by rw [decide_eq_true_eq]; omega]
    simp only [CondK_bool, MG_u, NG_u, VG_u, UG_u, PG_u, BG_u, CG_u, IG_u, MG_b, NG_b, VG_b, UG_b, PG_b, BG_b, CG_b, IG_b, PK_bool, NK_ptr, not_ok, reduceCtorEq, if_true, if_false, Bool.true_eq_false, Bool.false_eq_true, Bool.not_true, Bool.not_false]
    have hx : l[n]? = some l[n] := List.getElem?_eq_getElem hlt
    have hmem : l[n] ∈ l := List.getElem_mem hlt
    have h2 := h.mod hm
    rw [hs] at h2
    refine ixSt h2 hx fun y => ?_
    refine hf _ hmem w1 hm _ fun w2 hm2 => ?_
    refine caseC (fun hp => ?_) (fun hp => ?_)
    · refine ⟨⟨_, rfl, ?_⟩, hm.trans hm2⟩
      rw [if_pos (List.any_eq_true.2 ⟨_, hmem, hp⟩)]
      omega
    · rw [BK_add, wrap_i (by omega) (by omega)]
      refine ⟨⟨n + 1, hlt, rfl, h7, h0, h1, ?_, hm.trans hm2⟩, ?_⟩
      · rw [List.take_add_one, hx, Option.toList_some]
        intro a q
        rcases List.mem_append.1 q with q | q
        · exact hno a q
        · rw [List.mem_singleton.1 q]; exact hp
      · simp only [sq_n, sq_x, sq_r, bk_n, bk_r, bk_x, rt_r, rt_n, rs_0, rs_t, pk_1, pk_2, up_at, reduceIte, Nat.reduceEqDiff, intOf]; omega
  · obtain rfl : n = l.length := by omega
    rw [show decide (((l.length : Nat) : Int) < (l.length : Int)) = false by simp]
    simp only [CondK_bool, MG_u, NG_u, VG_u, UG_u, PG_u, BG_u, CG_u, IG_u, MG_b, NG_b, VG_b, UG_b, PG_b, BG_b, CG_b, IG_b, PK_bool, NK_ptr, not_ok, reduceCtorEq, if_true, if_false, Bool.true_eq_false, Bool.false_eq_true, Bool.not_true, Bool.not_false, sq_n, sq_x, sq_r, bk_n, bk_r, bk_x, rt_r, rt_n, rs_0, rs_t, pk_1, pk_2, up_at, reduceIte, Nat.reduceEqDiff]
    rw [slices_IndexFunc_tree_Stmt_tree_Stmt_R1_eq]
    unfold slices_IndexFunc_tree_Stmt_tree_Stmt_R1_F
    simp only [sq_n, sq_x, sq_r, bk_n, bk_r, bk_x, rt_r, rt_n, rs_0, rs_t, pk_1, pk_2, up_at, reduceIte, Nat.reduceEqDiff]
    refine ⟨⟨_, rfl, ?_⟩, hm⟩
    rw [if_neg]
    intro q
    obtain ⟨a, ha, hp⟩ := List.any_eq_true.1 q
    rw [List.take_length] at hno
    rw [hno a ha] at hp
    cases hp
theorem ContainsFuncSt_ok {w : World} {s : Value} {l : List St} {p : St → Bool} {fv : Value} (h : StsOk w s l) (hlen : l.length ≤ 1099511627776)
    (hf : ∀ a ∈ l, ∀ w', Mod none_ w w' → ∀ K : Value → World → Prop, (∀ w'', Mod none_ w' w'' → K (.bool (p a)) w'') → CK Tryd.prog fv [.agg a.cells.toArray] w' K) :
    Rt Tryd.prog 32 #[s, fv] w fun v w' => v = .bool (l.any p) ∧ Mod none_ w w' := by
  refine slices_ContainsFunc_tree_Stmt_tree_Stmt_calls ?_
  unfold slices_ContainsFunc_tree_Stmt_tree_Stmt_F
  refine CK_st Tryd.func55 rfl rfl (IndexFuncSt_ok h hlen hf) ?_
  rintro _ w1 ⟨⟨r, rfl, hr⟩, hm⟩
  rw [BK_geq]
  refine ⟨?_, hm⟩
  cases hp : l.any p with
  | true =>
    rw [hp, if_pos rfl] at hr
    rw [decide_eq_true hr]
  | false =>
    rw [hp, if_neg (by simp)] at hr
    rw [hr]
    rfl
theorem IndexFuncDe_ok {w : World} {s : Value} {l : List De} {p : De → Bool} {fv : Value} (h : DesOk w s l) (hlen : l.length ≤ 1099511627776)
    (hf : ∀ a ∈ l, ∀ w', Mod none_ w w' → ∀ K : Value → World → Prop, (∀ w'', Mod none_ w' w'' → K (.bool (p a)) w'') → CK Tryd.prog fv [.agg a.cells.toArray] w' K) :
    Rt Tryd.prog 31 #[s, fv] w fun v w' => (∃ r : Int, v = .int .i64 r ∧ (if l.any p then 0 ≤ r else r = -1)) ∧ Mod none_ w w' := by
  obtain ⟨A, c, hs, _⟩ := reads_cap h.1
  refine slices_IndexFunc_tree_Decl_tree_Decl_calls ?_
  unfold slices_IndexFunc_tree_Decl_tree_Decl_F
  simp only [hs, fo25_0, fo25_1, fo25_2, fo25_3, fo25_4, fo25_5, fo25_6, fo25_7, fo29_0, fo29_1, fo29_2, fo29_3, fo34_0, fo34_1, fo43_0, fo43_1, ld2, ld3, ld5, ld9, ld22, ld23, ld32, len9, len22, len23, len32, len91, ldK_some, cellE, blkC_c, add_pl, Nat.zero_add, List.getElem?_toArray, List.getElem?_cons_succ, List.getElem?_cons_zero]
  refine W_loop slices_IndexFunc_tree_Decl_tree_Decl_L0_ok (fun ρ w' => ∃ n : Nat, n ≤ l.length ∧ ρ 8 = .int .i64 n ∧ ρ 7 = .int .i64 l.length ∧ ρ 0 = .slice A l.length c ∧ ρ 1 = fv ∧ (∀ a ∈ l.take n, p a = false) ∧ Mod none_ w w') (fun ρ _ => l.length - (intOf (ρ 8)).toNat)
    ⟨0, Nat.zero_le _, rfl, rfl, rfl, rfl, by simp, Mod.refl _ _⟩ ?_
  rintro ρ w1 ⟨n, hn, h8, h7, h0, h1, hno, hm⟩
  rw [slices_IndexFunc_tree_Decl_tree_Decl_L0_eq]
  unfold slices_IndexFunc_tree_Decl_tree_Decl_L0_F
  simp only [h8, h7, h0, h1, BK_lss]
  by_cases hlt : n < l.length
  · rw [show decide ((n : Int) < (l.length : Int)) = true by rw [decide_eq_true_eq]; omega]
    simp only [CondK_bool, MG_u, NG_u, VG_u, UG_u, PG_u, BG_u, CG_u, IG_u, MG_b, NG_b, VG_b, UG_b, PG_b, BG_b, CG_b, IG_b, PK_bool, NK_ptr, not_ok, reduceCtorEq, if_true, if_false, Bool.true_eq_false, Bool.false_eq_true, Bool.not_true, Bool.not_false]
    have hx : l[n]? = some l[n] := List.getElem?_eq_getElem hlt
    have hmem : l[n] ∈ l := List.getElem_mem hlt
    have h2 := h.mod hm
    rw [hs] at h2
    refine ixDe h2 hx fun y => ?_
    refine hf _ hmem w1 hm _ fun w2 hm2 => ?_
    refine caseC (fun hp => ?_) (fun hp => ?_)
    · refine ⟨⟨_, rfl, ?_⟩, hm.trans hm2⟩
      rw [if_pos (List.any_eq_true.2 ⟨_, hmem, hp⟩)]
      omega
    · rw [BK_add, wrap_i (by omega) (by omega)]
      refine ⟨⟨n + 1, hlt, rfl, h7, h0, h1, ?_, hm.trans hm2⟩, ?_⟩
      · rw [List.take_add_one, hx, Option.toList_some]
        intro a q
        rcases List.mem_append.1 q with q | q
        · exact hno a q
        · rw [List.mem_singleton.1 q]; exact hp
      · simp only [sq_n, sq_x, sq_r, bk_n, bk_r, bk_x, rt_r, rt_n, rs_0, rs_t, pk_1, pk_2, up_at, reduceIte, Nat.reduceEqDiff, intOf]; omega
  · obtain rfl : n = l.length := by omega
    rw [show decide (((l.length : Nat) : Int) < (l.length : Int)) = false by simp]
    simp only [CondK_bool, MG_u, NG_u, VG_u, UG_u, PG_u, BG_u, CG_u, IG_u, MG_b, NG_b, VG_b, UG_b, PG_b, BG_b, CG_b, IG_b, PK_bool, NK_ptr, not_ok, reduceCtorEq, if_true, if_false, Bool.true_eq_false, Bool.false_eq_true, Bool.not_true, Bool.not_false, sq_n, sq_x, sq_r, bk_n, bk_r, bk_x, rt_r, rt_n, rs_0, rs_t, pk_1, pk_2, up_at, reduceIte, Nat.reduceEqDiff]
    rw [slices_IndexFunc_tree_Decl_tree_Decl_R1_eq]
    unfold slices_IndexFunc_tree_Decl_tree_Decl_R1_F
    simp only [sq_n, sq_x, sq_r, bk_n, bk_r, bk_x, rt_r, rt_n, rs_0, rs_t, pk_1, pk_2, up_at, reduceIte, Nat.reduceEqDiff]
    refine ⟨⟨_, rfl, ?_⟩, hm⟩
    rw [if_neg]
    intro q
    obtain ⟨a, ha, hp⟩ := List.any_eq_true.1 q
    rw [List.take_length] at hno
    rw [hno a ha] at hp
    cases hp
theorem ContainsFuncDe_ok {w : World} {s : Value} {l : List De} {p : De → Bool} {fv : Value} (h : DesOk w s l) (hlen : l.length ≤ 1099511627776)
    (hf : ∀ a ∈ l, ∀ w', Mod none_ w w' → ∀ K : Value → World → Prop, (∀ w'', Mod none_ w' w'' → K (.bool (p a)) w'') → CK Tryd.prog fv [.agg a.cells.toArray] w' K) :
    Rt Tryd.prog 17 #[s, fv] w fun v w' => v = .bool (l.any p) ∧ Mod none_ w w' := by
  refine slices_ContainsFunc_tree_Decl_tree_Decl_calls ?_
  unfold slices_ContainsFunc_tree_Decl_tree_Decl_F
  refine CK_st Tryd.func31 rfl rfl (IndexFuncDe_ok h hlen hf) ?_
  rintro _ w1 ⟨⟨r, rfl, hr⟩, hm⟩
  rw [BK_geq]
  refine ⟨?_, hm⟩
  cases hp : l.any p with
  | true =>
    rw [hp, if_pos rfl] at hr
    rw [decide_eq_true hr]
  | false =>
    rw [hp, if_neg (by simp)] at hr
    rw [hr]
    rfl
end Go.Proofs.YtpkfbaagpjdifaaDoor.Tr
set_option linter.unusedVariables false
set_option linter.unusedSimpArgs false
set_option maxRecDepth 4000
namespace Go.Proofs.YtpkfbaagpjdifaaDoor.Tr
open Go Go.X Go.RowKit Go.Proofs.YtpkfbaagpjdifaaDoor.XF Go.Proofs.YtpkfbaagpjdifaaDoor.XK
def MayOk (a : Ex) : Prop := ∀ w, Gl w → a.Ok w → a.sz ≤ 1099511627776 → Rt Tryd.prog 59 #[.agg a.cells.toArray] w fun v w' => v = .bool a.may ∧ Mod none_ w w'
theorem not_may_call {l : List Ex} (ih : ∀ a ∈ l, MayOk a) {w : World} (hg : Gl w) {s : Value} (h : ExsOk w s l) (hsz : Ex.szL l ≤ 1099511627776) :
    ∀ a ∈ l, ∀ w', Mod none_ w w' → ∀ K : Value → World → Prop, (∀ w'', Mod none_ w' w'' → K (.bool (!a.may)) w'') → CK Tryd.prog (.func (.func 80) #[] #[]) [.agg a.cells.toArray] w' K := by
  intro a ha w' hm K hk
  refine CK_st (R := fun v w'' => v = .bool (!a.may) ∧ Mod none_ w' w'') Tryd.func80 rfl rfl ?_ (fun v w'' hv => by rw [hv.1]; exact hk w'' hv.2)
  refine tree_mayExpr_1_calls ?_
  unfold tree_mayExpr_1_F
  refine box_k (cs := a.cells.toArray) rfl fun w1 hb1 hm1 _ => ?_
  refine ldB (cs := a.cells.toArray) Tryd.underlying29 rfl iEx hb1 ?_
  refine CK_st Tryd.func59 rfl rfl (ih a ha w1 ((hg.mod hm).mod hm1) (((h.2 a ha).mod hm).mod hm1) (by have := Ex.szL_mem ha; omega)) ?_
  rintro _ w2 ⟨rfl, hm2⟩
  simp only [CondK_bool, MG_u, NG_u, VG_u, UG_u, PG_u, BG_u, CG_u, IG_u, MG_b, NG_b, VG_b, UG_b, PG_b, BG_b, CG_b, IG_b, PK_bool, NK_ptr, not_ok, reduceCtorEq, if_true, if_false, Bool.true_eq_false, Bool.false_eq_true, Bool.not_true, Bool.not_false]
  exact ⟨trivial, hm1.trans hm2⟩
theorem any_not_may (l : List Ex) : (!l.any fun a => !a.may) = Ex.mayL l := by
  rw [Ex.mayL_eq]
  induction l with
  | nil => rfl
  | cons a r ih => simp only [List.any_cons, List.all_cons, Bool.not_or, Bool.not_not, ih]
theorem mayR2 {e : Ex} {w w1 : World} (hok : e.Ok w) (hg : Gl w) (hsz : e.sz ≤ 1099511627776) (hm : Mod none_ w w1) (ih : ∀ a ∈ e.args, MayOk a) {b1 b3 : Nat} {x0 x3 x4 x5 : Value} {onum : Int} {oname : ByteArray}
    (hb1 : w1.heap[b1]? = some (.cells e.cells.toArray 29 (0, 0))) (hb3 : w1.heap[b3]? = some (.cells #[x0, .int .i64 onum, .string oname, x3, x4, x5] 29 (0, 0))) {ρ : Sl} {ok : Bool}
    (h1 : ρ 1 = .pointer (some ⟨b1, 0, none⟩)) (h3 : ρ 3 = .pointer (some ⟨b3, 0, none⟩)) (h4 : ρ 4 = .bool ok) :
    sx fn_ Tryd.prog 88 tree_mayExpr_R2 (retK Tryd.prog [ResultVar.tmp 2] fun v w' => v = .bool (ok && (onum == e.num) && (oname.data.toList == e.name.data.toList) && Ex.mayL e.args) ∧ Mod none_ w w') ρ w1 := by
  obtain ⟨A, c, hs, _⟩ := reads_cap hok.args.1
  rw [tree_mayExpr_R2_eq]
  unfold tree_mayExpr_R2_F
  simp only [h1, h3, h4]
  cases ok with
  | false =>
    simp only [CondK_bool, MG_u, NG_u, VG_u, UG_u, PG_u, BG_u, CG_u, IG_u, MG_b, NG_b, VG_b, UG_b, PG_b, BG_b, CG_b, IG_b, PK_bool, NK_ptr, not_ok, reduceCtorEq, if_true, if_false, Bool.true_eq_false, Bool.false_eq_true, Bool.not_true, Bool.not_false]
    exact ⟨rfl, hm⟩
  | true =>
    simp only [CondK_bool, MG_u, NG_u, VG_u, UG_u, PG_u, BG_u, CG_u, IG_u, MG_b, NG_b, VG_b, UG_b, PG_b, BG_b, CG_b, IG_b, PK_bool, NK_ptr, not_ok, reduceCtorEq, if_true, if_false, Bool.true_eq_false, Bool.false_eq_true, Bool.not_true, Bool.not_false, fo25_0, fo25_1, fo25_2, fo25_3, fo25_4, fo25_5, fo25_6, fo25_7, fo29_0, fo29_1, fo29_2, fo29_3, fo34_0, fo34_1, fo43_0, fo43_1, ld2, ld3, ld5, ld9, ld22, ld23, ld32, len9, len22, len23, len32, len91, ldK_some, cellE, blkC_c, add_pl, Nat.zero_add, List.getElem?_toArray, List.getElem?_cons_succ, List.getElem?_cons_zero, Ex.c0, Ex.c1, Ex.c2, Ex.c3, Ex.c4, Ex.c5, St.c0, St.c1, St.c2, St.c3, St.c4, St.c5, St.c6, St.c7, St.c8, St.c9, hb1, hb3, BK_eql]
    cases hn : (onum == e.num) with
    | false =>
      simp only [CondK_bool, MG_u, NG_u, VG_u, UG_u, PG_u, BG_u, CG_u, IG_u, MG_b, NG_b, VG_b, UG_b, PG_b, BG_b, CG_b, IG_b, PK_bool, NK_ptr, not_ok, reduceCtorEq, if_true, if_false, Bool.true_eq_false, Bool.false_eq_true, Bool.not_true, Bool.not_false]
      exact ⟨rfl, hm⟩
    | true =>
      simp only [CondK_bool, MG_u, NG_u, VG_u, UG_u, PG_u, BG_u, CG_u, IG_u, MG_b, NG_b, VG_b, UG_b, PG_b, BG_b, CG_b, IG_b, PK_bool, NK_ptr, not_ok, reduceCtorEq, if_true, if_false, Bool.true_eq_false, Bool.false_eq_true, Bool.not_true, Bool.not_false, fo25_0, fo25_1, fo25_2, fo25_3, fo25_4, fo25_5, fo25_6, fo25_7, fo29_0, fo29_1, fo29_2, fo29_3, fo34_0, fo34_1, fo43_0, fo43_1, ld2, ld3, ld5, ld9, ld22, ld23, ld32, len9, len22, len23, len32, len91, ldK_some, cellE, blkC_c, add_pl, Nat.zero_add, List.getElem?_toArray, List.getElem?_cons_succ, List.getElem?_cons_zero, Ex.c0, Ex.c1, Ex.c2, Ex.c3, Ex.c4, Ex.c5, St.c0, St.c1, St.c2, St.c3, St.c4, St.c5, St.c6, St.c7, St.c8, St.c9, hb1, hb3, BK_eqlS, ByteArray.toList_eq]
      cases ho : (oname.data.toList == e.name.data.toList) with
      | false =>
        simp only [CondK_bool, MG_u, NG_u, VG_u, UG_u, PG_u, BG_u, CG_u, IG_u, MG_b, NG_b, VG_b, UG_b, PG_b, BG_b, CG_b, IG_b, PK_bool, NK_ptr, not_ok, reduceCtorEq, if_true, if_false, Bool.true_eq_false, Bool.false_eq_true, Bool.not_true, Bool.not_false]
        exact ⟨rfl, hm⟩
      | true =>
        simp only [CondK_bool, MG_u, NG_u, VG_u, UG_u, PG_u, BG_u, CG_u, IG_u, MG_b, NG_b, VG_b, UG_b, PG_b, BG_b, CG_b, IG_b, PK_bool, NK_ptr, not_ok, reduceCtorEq, if_true, if_false, Bool.true_eq_false, Bool.false_eq_true, Bool.not_true, Bool.not_false, fo25_0, fo25_1, fo25_2, fo25_3, fo25_4, fo25_5, fo25_6, fo25_7, fo29_0, fo29_1, fo29_2, fo29_3, fo34_0, fo34_1, fo43_0, fo43_1, ld2, ld3, ld5, ld9, ld22, ld23, ld32, len9, len22, len23, len32, len91, ldK_some, cellE, blkC_c, add_pl, Nat.zero_add, List.getElem?_toArray, List.getElem?_cons_succ, List.getElem?_cons_zero, Ex.c0, Ex.c1, Ex.c2, Ex.c3, Ex.c4, Ex.c5, St.c0, St.c1, St.c2, St.c3, St.c4, St.c5, St.c6, St.c7, St.c8, St.c9, hb1]
        have hszL : Ex.szL e.args ≤ 1099511627776 := by rw [Ex.sz_eq] at hsz; omega
        refine CK_st Tryd.func57 rfl rfl (ContainsFuncEx_ok (hok.args.mod hm) (by have := Ex.len_sz e.args; omega) (not_may_call ih (hg.mod hm) (hok.args.mod hm) hszL)) ?_
        rintro _ w2 ⟨rfl, hm2⟩
        simp only [CondK_bool, MG_u, NG_u, VG_u, UG_u, PG_u, BG_u, CG_u, IG_u, MG_b, NG_b, VG_b, UG_b, PG_b, BG_b, CG_b, IG_b, PK_bool, NK_ptr, not_ok, reduceCtorEq, if_true, if_false, Bool.true_eq_false, Bool.false_eq_true, Bool.not_true, Bool.not_false]
        refine ⟨?_, hm.trans hm2⟩
        rw [any_not_may]
        rfl
end Go.Proofs.YtpkfbaagpjdifaaDoor.Tr
set_option linter.unusedVariables false
set_option linter.unusedSimpArgs false
set_option maxRecDepth 4000
namespace Go.Proofs.YtpkfbaagpjdifaaDoor.Tr
open Go Go.X Go.RowKit Go.Proofs.YtpkfbaagpjdifaaDoor.XF Go.Proofs.YtpkfbaagpjdifaaDoor.XK
def Ex.ok1 (e : Ex) : Bool := decide (1 ≤ e.op) && decide (e.op ≤ 20) && decide (e.args.length = sidesP e.op)
theorem cI64 : Tryd.prog.cellsOf 2 = 1 := by kernel_rfl
theorem bEx (op : Int) : Tryd.prog.built 29 [(0, .int .u8 op)] = some #[.int .u8 op, .int .i64 0, .string ByteArray.empty, .slice none 0 0, .int .i64 0, .int .i64 0] := by kernel_rfl
def ownB (op num : Int) (name : ByteArray) : Array Value := #[.int .u8 op, .int .i64 num, .string name, .slice none 0 0, .int .i64 0, .int .i64 0]
structure MSt (e : Ex) (w w1 : World) (b1 b3 : Nat) (ρ : Sl) (ok : Bool) (num : Int) (name : ByteArray) : Prop where
  m : Mod none_ w w1
  h1 : ρ 1 = .pointer (some ⟨b1, 0, none⟩)
  h3 : ρ 3 = .pointer (some ⟨b3, 0, none⟩)
  h4 : ρ 4 = .bool ok
  hb1 : w1.heap[b1]? = some (.cells e.cells.toArray 29 (0, 0))
  hb3 : w1.heap[b3]? = some (.cells (ownB e.op num name) 29 (0, 0))
  le : w.heap.size ≤ b3
  ne : b1 ≠ b3
theorem MSt.later {e : Ex} {w w1 w2 : World} {b1 b3 : Nat} {ρ ρ' : Sl} {ok ok' : Bool} {num : Int} {name : ByteArray} (h : MSt e w w1 b1 b3 ρ ok num name) (hm : Mod none_ w1 w2) (h1 : ρ' 1 = ρ 1) (h3 : ρ' 3 = ρ 3) (h4 : ρ' 4 = .bool ok') : MSt e w w2 b1 b3 ρ' ok' num name :=
  ⟨h.m.trans hm, h1.trans h.h1, h3.trans h.h3, h4, hm.blk h.hb1 id, hm.blk h.hb3 id, h.le, h.ne⟩
section
variable {e : Ex} {w w1 : World} (hok : e.Ok w) (hg : Gl w) (hsz : e.sz ≤ 1099511627776) (ih : ∀ a ∈ e.args, MayOk a) {b1 b3 : Nat} {ρ : Sl} {ok : Bool}
include hok hg hsz ih
theorem may2 {num : Int} {name : ByteArray} (h : MSt e w w1 b1 b3 ρ ok num name) {z : Bool} (hz : (ok && (num == e.num) && (name.data.toList == e.name.data.toList) && Ex.mayL e.args) = z) :
    sx fn_ Tryd.prog 88 tree_mayExpr_R2 (retK Tryd.prog [ResultVar.tmp 2] fun v w' => v = .bool z ∧ Mod none_ w w') ρ w1 := by
  subst hz
  exact mayR2 hok hg hsz h.m ih h.hb1 h.hb3 h.h1 h.h3 h.h4
theorem may3 (h : MSt e w w1 b1 b3 ρ ok 0 ByteArray.empty) {t : Bool} (h43 : ρ 43 = .bool t) (h26 : ρ 26 = .int .u8 e.op) (ht : t = decide (e.op = 2 ∨ e.op = 3)) (h1 : e.op ≠ 1) :
    sx fn_ Tryd.prog 88 tree_mayExpr_R3 (blkK 0 (seqK (sx fn_ Tryd.prog 88 tree_mayExpr_R2 (retK Tryd.prog [ResultVar.tmp 2] fun v w' => v = .bool (ok && (decide (e.num = 0) && (if e.op = 2 ∨ e.op = 3 then nameP e.name else if e.op = 5 then plainP e.name else decide (e.name.size = 0))) && Ex.mayL e.args) ∧ Mod none_ w w'))
      (retK Tryd.prog [ResultVar.tmp 2] fun v w' => v = .bool (ok && (decide (e.num = 0) && (if e.op = 2 ∨ e.op = 3 then nameP e.name else if e.op = 5 then plainP e.name else decide (e.name.size = 0))) && Ex.mayL e.args) ∧ Mod none_ w w'))) ρ w1 := by
  have hn0 : ((0 : Int) == e.num) = decide (e.num = 0) := by
    by_cases q : e.num = 0
    · rw [q]; rfl
    · rw [decide_eq_false q, beq_eq_false_iff_ne]; omega
  have hss : (e.name.data.toList == e.name.data.toList) = true := beq_self_eq_true _
  rw [tree_mayExpr_R3_eq]
  unfold tree_mayExpr_R3_F
  rw [h43]
  subst ht
  refine caseC (fun hp => ?_) (fun hp => ?_)
  · rw [decide_eq_true_eq] at hp
    simp only [h.h1, h.h3, fo25_0, fo25_1, fo25_2, fo25_3, fo25_4, fo25_5, fo25_6, fo25_7, fo29_0, fo29_1, fo29_2, fo29_3, fo34_0, fo34_1, fo43_0, fo43_1, ld2, ld3, ld5, ld9, ld22, ld23, ld32, len9, len22, len23, len32, len91, ldK_some, cellE, blkC_c, add_pl, Nat.zero_add, List.getElem?_toArray, List.getElem?_cons_succ, List.getElem?_cons_zero, Ex.c0, Ex.c1, Ex.c2, Ex.c3, Ex.c4, Ex.c5, St.c0, St.c1, St.c2, St.c3, St.c4, St.c5, St.c6, St.c7, St.c8, St.c9, h.hb1]
    refine st_k cS rfl h.hb3 (by simp [ownB]) fun w2 hb2 hold hsz2 hm2 => ?_
    have hb1' : w2.heap[b1]? = some (.cells e.cells.toArray 29 (0, 0)) := (hold _ h.ne).trans h.hb1
    have hmm : Mod none_ w w2 := h.m.then hm2 fun i hi q => by have := h.le; omega
    have st : ∀ (ρ' : Sl) (k : Bool), ρ' 1 = ρ 1 → ρ' 3 = ρ 3 → ρ' 4 = .bool k → MSt e w w2 b1 b3 ρ' k 0 e.name := fun ρ' k q1 q3 q4 => ⟨hmm, q1.trans h.h1, q3.trans h.h3, q4, hb1', hb2, h.le, h.ne⟩
    rw [h.h4]
    cases ok with
    | false =>
      simp only [CondK_bool, MG_u, NG_u, VG_u, UG_u, PG_u, BG_u, CG_u, IG_u, MG_b, NG_b, VG_b, UG_b, PG_b, BG_b, CG_b, IG_b, PK_bool, NK_ptr, not_ok, reduceCtorEq, if_true, if_false, Bool.true_eq_false, Bool.false_eq_true, Bool.not_true, Bool.not_false]
      rw [bk_n, sq_n]
      refine may2 hok hg hsz ih (b1 := b1) (b3 := b3) (ok := false) (num := 0) (name := e.name) ?_ ?_
      · refine st _ false ?_ ?_ ?_ <;> rfl
      · rfl
    | true =>
      simp only [CondK_bool, MG_u, NG_u, VG_u, UG_u, PG_u, BG_u, CG_u, IG_u, MG_b, NG_b, VG_b, UG_b, PG_b, BG_b, CG_b, IG_b, PK_bool, NK_ptr, not_ok, reduceCtorEq, if_true, if_false, Bool.true_eq_false, Bool.false_eq_true, Bool.not_true, Bool.not_false, fo25_0, fo25_1, fo25_2, fo25_3, fo25_4, fo25_5, fo25_6, fo25_7, fo29_0, fo29_1, fo29_2, fo29_3, fo34_0, fo34_1, fo43_0, fo43_1, ld2, ld3, ld5, ld9, ld22, ld23, ld32, len9, len22, len23, len32, len91, ldK_some, cellE, blkC_c, add_pl, Nat.zero_add, List.getElem?_toArray, List.getElem?_cons_succ, List.getElem?_cons_zero, Ex.c0, Ex.c1, Ex.c2, Ex.c3, Ex.c4, Ex.c5, St.c0, St.c1, St.c2, St.c3, St.c4, St.c5, St.c6, St.c7, St.c8, St.c9, hb1']
      refine CK_st Tryd.func15 rfl rfl (Name_ok (hg.mod hmm) e.name hok.fine.2.2.1) ?_
      rintro _ w3 ⟨rfl, hm3⟩
      rw [bk_n, sq_n]
      refine may2 hok hg hsz ih (b1 := b1) (b3 := b3) (ok := nameP e.name) (num := 0) (name := e.name) ?_ ?_
      · refine (st ρ _ rfl rfl h.h4).later hm3 ?_ ?_ ?_ <;> rfl
      rw [if_pos hp, hn0, hss]
      cases nameP e.name <;> cases decide (e.num = 0) <;> rfl
  · rw [decide_eq_false_iff_not] at hp
    rw [h26]
    refine caseI (fun h5 => condT ?_) (fun h5 => condF ?_)
    · simp only [h.h1, h.h3, fo25_0, fo25_1, fo25_2, fo25_3, fo25_4, fo25_5, fo25_6, fo25_7, fo29_0, fo29_1, fo29_2, fo29_3, fo34_0, fo34_1, fo43_0, fo43_1, ld2, ld3, ld5, ld9, ld22, ld23, ld32, len9, len22, len23, len32, len91, ldK_some, cellE, blkC_c, add_pl, Nat.zero_add, List.getElem?_toArray, List.getElem?_cons_succ, List.getElem?_cons_zero, Ex.c0, Ex.c1, Ex.c2, Ex.c3, Ex.c4, Ex.c5, St.c0, St.c1, St.c2, St.c3, St.c4, St.c5, St.c6, St.c7, St.c8, St.c9, h.hb1]
      refine st_k cS rfl h.hb3 (by simp [ownB]) fun w2 hb2 hold hsz2 hm2 => ?_
      have hb1' : w2.heap[b1]? = some (.cells e.cells.toArray 29 (0, 0)) := (hold _ h.ne).trans h.hb1
      have hmm : Mod none_ w w2 := h.m.then hm2 fun i hi q => by have := h.le; omega
      have st : ∀ (w3 : World) (ρ' : Sl) (k : Bool), Mod none_ w2 w3 → ρ' 1 = ρ 1 → ρ' 3 = ρ 3 → ρ' 4 = .bool k → MSt e w w3 b1 b3 ρ' k 0 e.name := fun w3 ρ' k hm3 q1 q3 q4 => ⟨hmm.trans hm3, q1.trans h.h1, q3.trans h.h3, q4, hm3.blk hb1' id, hm3.blk hb2 id, h.le, h.ne⟩
      refine tree_mayExpr_R4_quiet (D := []) (fun w' => Mod none_ w2 w') ((Mod.refl _ w2).drawn _) ?_
      unfold tree_mayExpr_R4_Q
      have e4 : ∀ ρ' : Sl, ρ' 4 = ρ 4 → ρ' 4 = .bool ok := fun ρ' q => q.trans h.h4
      simp only [sq_n, sq_x, sq_r, bk_n, bk_r, bk_x, rt_r, rt_n, rs_0, rs_t, pk_1, pk_2, up_at, reduceIte, Nat.reduceEqDiff, h.h4, h.h1, QG_b]
      cases ok with
      | false =>
        simp only [Bool.false_eq_true, if_false]
        refine QP_of ?_
        simp only [Bool.false_eq_true, if_false]
        intro w3 hm3
        refine may2 hok hg hsz ih (b1 := b1) (b3 := b3) (ok := false) (num := 0) (name := e.name) ?_ ?_
        · refine st w3 _ false hm3 ?_ ?_ ?_ <;> rfl
        · rfl
      | true =>
        simp only [if_true]
        refine QV_of (fun w' _ => cut_plain w' _) ?_
        refine Qfo (off := 2) (by kernel_rfl) (Qld uS rfl (v := .string e.name) (fun w' hw => by rw [add_pl, cell_blk (hw.blk hb1' id)]; rfl) ?_)
        refine QC_rt Tryd.func53 rfl rfl (v := .bool (plainP e.name)) (fun w' hw => Contains_ok e.name (l := plainL) (reads_at ((hg.mod hmm).mod hw).plain (by decide)) (by decide)) (fun w' u w'' hw hu => ⟨hu.1, by rw [hu.2]; exact hw⟩) ?_
        refine QP_of ?_
        simp only [if_true]
        intro w3 hm3
        refine may2 hok hg hsz ih (b1 := b1) (b3 := b3) (ok := plainP e.name) (num := 0) (name := e.name) ?_ ?_
        · refine st w3 _ (plainP e.name) hm3 ?_ ?_ ?_ <;> rfl
        rw [if_neg hp, if_pos h5, hn0, hss]
        cases plainP e.name <;> cases decide (e.num = 0) <;> rfl
    · rw [bk_n, sq_n]
      refine may2 hok hg hsz ih (b1 := b1) (b3 := b3) (ok := ok) (num := 0) (name := ByteArray.empty) ?_ ?_
      · refine h.later (Mod.refl _ _) ?_ ?_ h.h4 <;> rfl
      rw [if_neg hp, if_neg h5, hn0, show (ByteArray.empty.data.toList == e.name.data.toList) = decide (e.name.size = 0) by rw [← empty_iff, Bool.beq_comm]; rfl]
      cases ok <;> cases decide (e.num = 0) <;> cases decide (e.name.size = 0) <;> rfl
end
end Go.Proofs.YtpkfbaagpjdifaaDoor.Tr
set_option linter.unusedVariables false
set_option linter.unusedSimpArgs false
set_option maxRecDepth 4000
namespace Go.Proofs.YtpkfbaagpjdifaaDoor.Tr
open Go Go.X Go.RowKit Go.Proofs.YtpkfbaagpjdifaaDoor.XF Go.Proofs.YtpkfbaagpjdifaaDoor.XK
section
variable {e : Ex} {w w1 : World} (hok : e.Ok w) (hg : Gl w) (hsz : e.sz ≤ 1099511627776) (ih : ∀ a ∈ e.args, MayOk a) {b1 b3 : Nat} {ρ : Sl}
include hok hg hsz ih
theorem may1 (h : MSt e w w1 b1 b3 ρ (Ex.ok1 e) 0 ByteArray.empty) :
    sx fn_ Tryd.prog 88 tree_mayExpr_R1 (retK Tryd.prog [ResultVar.tmp 2] fun v w' => v = .bool e.may ∧ Mod none_ w w') ρ w1 := by
  have hmay : e.may = ((Ex.ok1 e) && (if e.op = 1 then decide (0 ≤ e.num) && decide (e.num < 1000000000000000000) && decide (e.name.size = 0) else decide (e.num = 0) && (if e.op = 2 ∨ e.op = 3 then nameP e.name else if e.op = 5 then plainP e.name else decide (e.name.size = 0))) && Ex.mayL e.args) := by
    rw [Ex.may_eq]; rfl
  rw [tree_mayExpr_R1_eq]
  unfold tree_mayExpr_R1_F
  simp only [h.h1, fo25_0, fo25_1, fo25_2, fo25_3, fo25_4, fo25_5, fo25_6, fo25_7, fo29_0, fo29_1, fo29_2, fo29_3, fo34_0, fo34_1, fo43_0, fo43_1, ld2, ld3, ld5, ld9, ld22, ld23, ld32, len9, len22, len23, len32, len91, ldK_some, cellE, blkC_c, add_pl, Nat.zero_add, List.getElem?_toArray, List.getElem?_cons_succ, List.getElem?_cons_zero, Ex.c0, Ex.c1, Ex.c2, Ex.c3, Ex.c4, Ex.c5, St.c0, St.c1, St.c2, St.c3, St.c4, St.c5, St.c6, St.c7, St.c8, St.c9, h.hb1]
  refine caseI (fun hp => condT ?_) (fun hp => condF ?_)
  · simp only [h.h1, h.h3, fo25_0, fo25_1, fo25_2, fo25_3, fo25_4, fo25_5, fo25_6, fo25_7, fo29_0, fo29_1, fo29_2, fo29_3, fo34_0, fo34_1, fo43_0, fo43_1, ld2, ld3, ld5, ld9, ld22, ld23, ld32, len9, len22, len23, len32, len91, ldK_some, cellE, blkC_c, add_pl, Nat.zero_add, List.getElem?_toArray, List.getElem?_cons_succ, List.getElem?_cons_zero, Ex.c0, Ex.c1, Ex.c2, Ex.c3, Ex.c4, Ex.c5, St.c0, St.c1, St.c2, St.c3, St.c4, St.c5, St.c6, St.c7, St.c8, St.c9, h.hb1]
    refine st_k cI64 rfl h.hb3 (by simp [ownB]) fun w2 hb2 hold hsz2 hm2 => ?_
    have hb1' : w2.heap[b1]? = some (.cells e.cells.toArray 29 (0, 0)) := (hold _ h.ne).trans h.hb1
    have hmm : Mod none_ w w2 := h.m.then hm2 fun i hi q => by have := h.le; omega
    have st : ∀ (ρ' : Sl) (k : Bool), ρ' 1 = ρ 1 → ρ' 3 = ρ 3 → ρ' 4 = .bool k → MSt e w w2 b1 b3 ρ' k e.num ByteArray.empty := fun ρ' k q1 q3 q4 => ⟨hmm, q1.trans h.h1, q3.trans h.h3, q4, hb1', hb2, h.le, h.ne⟩
    have hnn : (e.num == e.num) = true := beq_self_eq_true _
    have hes : (ByteArray.empty.data.toList == e.name.data.toList) = decide (e.name.size = 0) := by rw [← empty_iff, Bool.beq_comm]; rfl
    rw [h.h4, hmay, if_pos hp]
    have fin : ∀ (ρ' : Sl) (k : Bool), ρ' 1 = ρ 1 → ρ' 3 = ρ 3 → ρ' 4 = .bool k → k = ((Ex.ok1 e) && (decide (0 ≤ e.num) && decide (e.num < 1000000000000000000))) → sx fn_ Tryd.prog 88 tree_mayExpr_R2 (retK Tryd.prog [ResultVar.tmp 2] fun v w' => v = .bool ((Ex.ok1 e) && (decide (0 ≤ e.num) && decide (e.num < 1000000000000000000) && decide (e.name.size = 0)) && Ex.mayL e.args) ∧ Mod none_ w w') ρ' w2 := by
      intro ρ' k q1 q3 q4 hk
      refine may2 hok hg hsz ih (b1 := b1) (b3 := b3) (ok := k) (num := e.num) (name := ByteArray.empty) (st ρ' k q1 q3 q4) ?_
      rw [hk, hnn, hes]
      cases (Ex.ok1 e) <;> cases decide (0 ≤ e.num) <;> cases decide (e.num < 1000000000000000000) <;> cases decide (e.name.size = 0) <;> rfl
    cases hk1 : (Ex.ok1 e) with
    | false =>
      rw [hk1] at fin
      simp only [CondK_bool, MG_u, NG_u, VG_u, UG_u, PG_u, BG_u, CG_u, IG_u, MG_b, NG_b, VG_b, UG_b, PG_b, BG_b, CG_b, IG_b, PK_bool, NK_ptr, not_ok, reduceCtorEq, if_true, if_false, Bool.true_eq_false, Bool.false_eq_true, Bool.not_true, Bool.not_false]
      refine fin _ false ?_ ?_ ?_ ?_ <;> rfl
    | true =>
      rw [hk1] at fin
      simp only [CondK_bool, MG_u, NG_u, VG_u, UG_u, PG_u, BG_u, CG_u, IG_u, MG_b, NG_b, VG_b, UG_b, PG_b, BG_b, CG_b, IG_b, PK_bool, NK_ptr, not_ok, reduceCtorEq, if_true, if_false, Bool.true_eq_false, Bool.false_eq_true, Bool.not_true, Bool.not_false, fo25_0, fo25_1, fo25_2, fo25_3, fo25_4, fo25_5, fo25_6, fo25_7, fo29_0, fo29_1, fo29_2, fo29_3, fo34_0, fo34_1, fo43_0, fo43_1, ld2, ld3, ld5, ld9, ld22, ld23, ld32, len9, len22, len23, len32, len91, ldK_some, cellE, blkC_c, add_pl, Nat.zero_add, List.getElem?_toArray, List.getElem?_cons_succ, List.getElem?_cons_zero, Ex.c0, Ex.c1, Ex.c2, Ex.c3, Ex.c4, Ex.c5, St.c0, St.c1, St.c2, St.c3, St.c4, St.c5, St.c6, St.c7, St.c8, St.c9, hb1', BK_geq]
      cases hk2 : decide (0 ≤ e.num) with
      | false =>
        rw [hk2] at fin
        simp only [CondK_bool, MG_u, NG_u, VG_u, UG_u, PG_u, BG_u, CG_u, IG_u, MG_b, NG_b, VG_b, UG_b, PG_b, BG_b, CG_b, IG_b, PK_bool, NK_ptr, not_ok, reduceCtorEq, if_true, if_false, Bool.true_eq_false, Bool.false_eq_true, Bool.not_true, Bool.not_false]
        refine fin _ false ?_ ?_ ?_ ?_ <;> rfl
      | true =>
        rw [hk2] at fin
        simp only [CondK_bool, MG_u, NG_u, VG_u, UG_u, PG_u, BG_u, CG_u, IG_u, MG_b, NG_b, VG_b, UG_b, PG_b, BG_b, CG_b, IG_b, PK_bool, NK_ptr, not_ok, reduceCtorEq, if_true, if_false, Bool.true_eq_false, Bool.false_eq_true, Bool.not_true, Bool.not_false, fo25_0, fo25_1, fo25_2, fo25_3, fo25_4, fo25_5, fo25_6, fo25_7, fo29_0, fo29_1, fo29_2, fo29_3, fo34_0, fo34_1, fo43_0, fo43_1, ld2, ld3, ld5, ld9, ld22, ld23, ld32, len9, len22, len23, len32, len91, ldK_some, cellE, blkC_c, add_pl, Nat.zero_add, List.getElem?_toArray, List.getElem?_cons_succ, List.getElem?_cons_zero, Ex.c0, Ex.c1, Ex.c2, Ex.c3, Ex.c4, Ex.c5, St.c0, St.c1, St.c2, St.c3, St.c4, St.c5, St.c6, St.c7, St.c8, St.c9, hb1', BK_lss]
        refine fin _ (decide (e.num < 1000000000000000000)) ?_ ?_ ?_ ?_ <;> rfl
  · rw [hmay, if_neg hp]
    have go := fun (ρ' : Sl) (t : Bool) (q1 : ρ' 1 = ρ 1) (q3 : ρ' 3 = ρ 3) (q4 : ρ' 4 = ρ 4) (q43 : ρ' 43 = .bool t) (q26 : ρ' 26 = .int .u8 e.op) (ht : t = decide (e.op = 2 ∨ e.op = 3)) => may3 hok hg hsz ih (h.later (ρ' := ρ') (ok' := Ex.ok1 e) (Mod.refl _ _) q1 q3 (q4.trans h.h4)) q43 q26 ht hp
    refine caseI (fun h2 => condT ?_) (fun h2 => condF ?_)
    · refine go _ true ?_ ?_ ?_ ?_ ?_ (by rw [decide_eq_true (Or.inl h2)]) <;> rfl
    · rw [BK_eql]
      refine go _ (e.op == 3) ?_ ?_ ?_ ?_ ?_ ?_
      · rfl
      · rfl
      · rfl
      · rfl
      · rfl
      · by_cases h3 : e.op = 3
        · rw [decide_eq_true (Or.inr h3), h3]; rfl
        · rw [decide_eq_false (by omega), beq_eq_false_iff_ne]; exact h3
end
theorem mayExpr_ok : ∀ e : Ex, MayOk e := by
  intro e
  induction e using Ex.ind with
  | h e ih =>
    intro w hg hok hsz
    obtain ⟨A, c, hs, _⟩ := reads_cap hok.args.1
    refine tree_mayExpr_calls ?_
    unfold tree_mayExpr_F
    refine box_k (cs := e.cells.toArray) rfl fun w1 hb1 hm1 hs1 => ?_
    simp only [fo25_0, fo25_1, fo25_2, fo25_3, fo25_4, fo25_5, fo25_6, fo25_7, fo29_0, fo29_1, fo29_2, fo29_3, fo34_0, fo34_1, fo43_0, fo43_1, ld2, ld3, ld5, ld9, ld22, ld23, ld32, len9, len22, len23, len32, len91, ldK_some, cellE, blkC_c, add_pl, Nat.zero_add, List.getElem?_toArray, List.getElem?_cons_succ, List.getElem?_cons_zero, Ex.c0, Ex.c1, Ex.c2, Ex.c3, Ex.c4, Ex.c5, St.c0, St.c1, St.c2, St.c3, St.c4, St.c5, St.c6, St.c7, St.c8, St.c9, hb1]
    rw [build_ok (bEx _)]
    refine lcl_k (cs := ownB e.op 0 ByteArray.empty) zEx _ iEx rfl (by simp [ownB, Value.oneCell']) fun w2 hb2 hm2 hs2 => ?_
    have hb1' := hm2.blk hb1 id
    have hmm := hm1.trans hm2
    have ne : w.heap.size ≠ w1.heap.size := by omega
    refine tree_mayExpr_R0_quiet (D := []) (fun w' => Mod none_ w2 w') ((Mod.refl _ w2).drawn _) ?_
    unfold tree_mayExpr_R0_Q
    have cell : ∀ (w' : World), Mod none_ w2 w' → ∀ (j : Nat) v, e.cells[j]? = some v → w'.cell? ⟨w.heap.size, 0 + j, none⟩ = some v := fun w' hw j v hv => by
      rw [cell_blk (hw.blk hb1' id), Nat.zero_add]
      simpa using hv
    refine Qfo (off := 0) (a := ⟨w.heap.size, 0, none⟩) (by kernel_rfl) (Qld uU8 rfl (v := .int .u8 e.op) (fun w' hw => by rw [add_pl]; exact cell w' hw 0 _ rfl) (Qgeq ?_))
    have fin : ∀ (k : Bool) (ρ' : Sl), k = (Ex.ok1 e) → ρ' 1 = .pointer (some ⟨w.heap.size, 0, none⟩) → ρ' 3 = .pointer (some ⟨w1.heap.size, 0, none⟩) → ρ' 4 = .bool k → ∀ w', Mod none_ w2 w' →
        sx fn_ Tryd.prog 88 tree_mayExpr_R1 (retK Tryd.prog [ResultVar.tmp 2] fun v w' => v = .bool e.may ∧ Mod none_ w w') ρ' w' := fun k ρ' hk q1 q3 q4 w' hw =>
      may1 hok hg hsz ih (b1 := w.heap.size) (b3 := w1.heap.size) ⟨hmm.trans hw, q1, q3, hk ▸ q4, hw.blk hb1' id, hw.blk hb2 id, by omega, ne⟩
    by_cases h1 : 1 ≤ e.op
    · rw [decide_eq_true h1]
      simp only [QG_b, if_true]
      refine Qfo (off := 0) (a := ⟨w.heap.size, 0, none⟩) (by kernel_rfl) (Qld uU8 rfl (v := .int .u8 e.op) (fun w' hw => by rw [add_pl]; exact cell w' hw 0 _ rfl) (Qleq (QP_of ?_)))
      simp only [if_true]
      by_cases h20 : e.op ≤ 20
      · rw [decide_eq_true h20]
        simp only [QG_b, if_true]
        refine Qfo (off := 3) (a := ⟨w.heap.size, 0, none⟩) (by kernel_rfl) (Qld uExs rfl (v := .slice A e.args.length c) (fun w' hw => by rw [add_pl]; exact cell w' hw 3 _ (by rw [← hs]; rfl)) (QI_len uExs _ _ _ _ ?_))
        refine Qfo (off := 0) (a := ⟨w.heap.size, 0, none⟩) (by kernel_rfl) (Qld uU8 rfl (v := .int .u8 e.op) (fun w' hw => by rw [add_pl]; exact cell w' hw 0 _ rfl) ?_)
        refine QC_rt Tryd.func79 rfl rfl (v := .int .i64 (sidesP e.op)) (fun w' hw => sides_ok e.op w') (fun w' u w'' hw hu => ⟨hu.1, by rw [hu.2]; exact hw⟩) (Qeql (QP_of ?_))
        simp only [if_true]
        intro w3 hm3
        refine fin ((e.args.length : Int) == (sidesP e.op : Int)) _ ?_ ?_ ?_ ?_ w3 hm3
        · unfold Ex.ok1
          rw [decide_eq_true h1, decide_eq_true h20]
          by_cases q : e.args.length = sidesP e.op
          · rw [decide_eq_true q, q]; simp
          · rw [decide_eq_false q, beq_eq_false_iff_ne.2 (by omega)]; rfl
        · rfl
        · rfl
        · rfl
      · rw [decide_eq_false h20]
        simp only [QG_b, Bool.false_eq_true, if_false]
        refine QP_of ?_
        simp only [Bool.false_eq_true, if_false]
        intro w3 hm3
        refine fin false _ (by unfold Ex.ok1; rw [decide_eq_false h20]; simp) ?_ ?_ ?_ w3 hm3 <;> rfl
    · rw [decide_eq_false h1]
      simp only [QG_b, Bool.false_eq_true, if_false]
      refine QP_of ?_
      simp only [Bool.false_eq_true, if_false, QG_b]
      refine QP_of ?_
      simp only [Bool.false_eq_true, if_false]
      intro w3 hm3
      refine fin false _ (by unfold Ex.ok1; rw [decide_eq_false h1]; rfl) ?_ ?_ ?_ w3 hm3 <;> rfl
end Go.Proofs.YtpkfbaagpjdifaaDoor.Tr
set_option linter.unusedVariables false
set_option linter.unusedSimpArgs false
set_option maxRecDepth 4000
namespace Go.Proofs.YtpkfbaagpjdifaaDoor.Tr
open Go Go.X Go.RowKit Go.Proofs.YtpkfbaagpjdifaaDoor.XF Go.Proofs.YtpkfbaagpjdifaaDoor.XK
theorem QixEx {C : World → Prop} {s : Value} {l : List Ex} {i : Nat} {e : Ex} {K : Value → Prop} {w0 : World} (hw0 : C w0) (h : ∀ w, C w → ExsOk w s l) (hi : l[i]? = some e) (hk : ∀ a, (∀ w, C w → ∀ j u, e.cells[j]? = some u → w.cell? (a.add j) = some u) → K (.pointer (some a))) :
    QK Tryd.prog C (do pure (Next.value (← Instr.indexAt 22 s (.int .i64 (i : Int))))) K := by
  have hlt : i < l.length := (List.getElem?_eq_some_iff.1 hi).1
  obtain ⟨hl, A, c, hs, hc, hr⟩ := (h w0 hw0).1
  obtain ⟨a, ha | q⟩ := rd_cell (size := 6) (hs ▸ (h w0 hw0).1) hlt
  · subst ha
    subst hs
    refine QV_of (fun w _ => run_ixa uExs cEx (by omega) (by omega) w) (hk _ fun w hw j u hu => ?_)
    obtain ⟨_, A', c', hs', _, hr'⟩ := (h w hw).1
    cases hs'
    have hj : j < 5 + 1 := (List.getElem?_eq_some_iff.1 hu).1
    obtain ⟨a', ha', hcell⟩ := hr' (i * 6 + j) u (by rw [fl_get (k := 5 + 1) Ex.cells_len hi hj]; exact hu)
    cases ha'
    rw [add_add, show ((i : Int).toNat) = i by omega]
    exact hcell
  · omega
def ManyOk (e : Ex) : Prop := ∀ w, e.Ok w → e.sz ≤ 1099511627776 → Rt Tryd.prog 12 #[e.s] w fun v w' => v = .int .i64 (Ex.manyL e.args) ∧ Mod none_ w w'
theorem many_row {l : List Ex} (ih : ∀ a ∈ l, ManyOk a) (w : World) (s : Value) (hok : ExsOk w s l) (hsz : Ex.szL l ≤ 1099511627776) : Rt Tryd.prog 12 #[s] w fun v w' => v = .int .i64 (Ex.manyL l) ∧ Mod none_ w w' := by
  obtain ⟨A, c, hs, _⟩ := reads_cap hok.1
  have hlen := Ex.len_sz l
  refine dispatcherref02_ManyExprs_calls ?_
  unfold dispatcherref02_ManyExprs_F
  refine W_loop dispatcherref02_ManyExprs_L0_ok (fun ρ w' => ∃ (n : Nat), n ≤ l.length ∧ ρ 4 = .int .i64 n ∧ ρ 3 = .int .i64 (Ex.manyL (l.take n)) ∧ ρ 0 = s ∧ Mod none_ w w') (fun ρ _ => l.length - (intOf (ρ 4)).toNat)
    ⟨0, Nat.zero_le _, rfl, rfl, rfl, Mod.refl _ _⟩ ?_
  rintro ρ w1 ⟨n, hn, h4, h3, h0, hm⟩
  rw [dispatcherref02_ManyExprs_L0_eq]
  unfold dispatcherref02_ManyExprs_L0_F
  simp only [h4, h0, hs, fo25_0, fo25_1, fo25_2, fo25_3, fo25_4, fo25_5, fo25_6, fo25_7, fo29_0, fo29_1, fo29_2, fo29_3, fo34_0, fo34_1, fo43_0, fo43_1, ld2, ld3, ld5, ld9, ld22, ld23, ld32, len9, len22, len23, len32, len91, ldK_some, cellE, blkC_c, add_pl, Nat.zero_add, List.getElem?_toArray, List.getElem?_cons_succ, List.getElem?_cons_zero, BK_lss]
  by_cases hlt : n < l.length
  · rw [show decide ((n : Int) < (l.length : Int)) = true by rw [decide_eq_true_eq]; omega]
    refine condT ?_
    have hx : l[n]? = some l[n] := List.getElem?_eq_getElem hlt
    have hmem : l[n] ∈ l := List.getElem_mem hlt
    have hs2 := Ex.szL_at hx
    have hokC : ∀ w', Mod none_ w1 w' → ExsOk w' (.slice A l.length c) l := fun w' hw => by rw [← hs]; exact (hok.mod hm).mod hw
    refine dispatcherref02_ManyExprs_R2_quiet (D := []) (fun w' => Mod none_ w1 w') ((Mod.refl _ w1).drawn _) ?_
    unfold dispatcherref02_ManyExprs_R2_Q
    have e3 : ∀ a b d f : Value, (up (up (up (up ρ 5 a) 6 b) 7 d) 8 f) 3 = .int .i64 (Ex.manyL (l.take n)) := fun _ _ _ _ => h3
    have e0 : ∀ a b d f : Value, (up (up (up (up ρ 5 a) 6 b) 7 d) 8 f) 0 = .slice A l.length c := fun _ _ _ _ => h0.trans hs
    have e4 : ∀ a b d f : Value, (up (up (up (up ρ 5 a) 6 b) 7 d) 8 f) 4 = .int .i64 n := fun _ _ _ _ => h4
    simp only [e3, e0, e4]
    have ht := Ex.manyL_sz (l.take n)
    have hb := Ex.many_sz l[n]
    have hbe := Ex.many_eq l[n]
    refine Qadd (QixEx (w0 := w1) (Mod.refl _ w1) hokC hx fun a ha => ?_)
    refine Qfo (off := 2) (by kernel_rfl) (Qld uS rfl (v := .string l[n].name) (fun w' hw => ha w' hw 2 _ rfl) (Qlen_s uS _ _ (Qmin (Qadd ?_))))
    refine QixEx (w0 := w1) (Mod.refl _ w1) hokC hx fun a2 ha2 => ?_
    refine Qfo (off := 3) (by kernel_rfl) (Qld uExs rfl (v := l[n].s) (fun w' hw => ha2 w' hw 3 _ rfl) ?_)
    refine QC_rt Tryd.func12 rfl rfl (v := .int .i64 (Ex.manyL l[n].args)) (fun w' hw => ih _ hmem w' ((hokC w' hw).at hx) (by omega)) (fun w' u w'' hw hu => ⟨hu.1, hw.trans hu.2⟩) (Qadd ?_)
    intro w2 hm2
    rw [wrap_i (n := (Ex.manyL (l.take n) : Int) + 1) (by omega) (by omega)]
    rw [wrap_i (n := (Ex.manyL (l.take n) : Int) + 1 + (if (30000 : Int) < (l[n].name.size : Int) then 30000 else (l[n].name.size : Int))) (by split <;> omega) (by split <;> omega)]
    rw [wrap_i (n := (Ex.manyL (l.take n) : Int) + 1 + (if (30000 : Int) < (l[n].name.size : Int) then 30000 else (l[n].name.size : Int)) + (Ex.manyL l[n].args : Int)) (by split <;> omega) (by split <;> omega)]
    rw [bk_n, sq_n, dispatcherref02_ManyExprs_R3_eq]
    unfold dispatcherref02_ManyExprs_R3_F
    simp only [sq_n, sq_x, sq_r, bk_n, bk_r, bk_x, rt_r, rt_n, rs_0, rs_t, pk_1, pk_2, up_at, reduceIte, Nat.reduceEqDiff, h4]
    rw [BK_add, wrap_i (n := (n : Int) + 1) (by omega) (by omega)]
    refine ⟨⟨n + 1, hlt, rfl, ?_, h0.trans hs, hm.trans hm2⟩, ?_⟩
    · rw [List.take_add_one, hx, Option.toList_some, Ex.manyL_snoc]
      congr 1
      split <;> omega
    · simp only [intOf]; omega
  · obtain rfl : n = l.length := by omega
    rw [show decide (((l.length : Nat) : Int) < (l.length : Int)) = false by simp]
    refine condF ?_
    rw [sq_x, bk_x, sq_n, dispatcherref02_ManyExprs_R1_eq]
    unfold dispatcherref02_ManyExprs_R1_F
    rw [List.take_length] at h3
    exact ⟨h3, hm⟩
theorem many_ok : ∀ e : Ex, ManyOk e := by
  intro e
  induction e using Ex.ind with
  | h e ih => exact fun w hok hsz => many_row ih w e.s hok.args (by rw [Ex.sz_eq] at hsz; omega)
theorem ManyExprs_ok {l : List Ex} (w : World) (s : Value) (hok : ExsOk w s l) (hsz : Ex.szL l ≤ 1099511627776) : Rt Tryd.prog 12 #[s] w fun v w' => v = .int .i64 (Ex.manyL l) ∧ Mod none_ w w' :=
  many_row (fun a _ => many_ok a) w s hok hsz
end Go.Proofs.YtpkfbaagpjdifaaDoor.Tr
set_option linter.unusedVariables false
set_option linter.unusedSimpArgs false
namespace Go.X
open Go Go.RowKit
structure FAt (P : Program) (w : World) (t : TypeId) (i : Nat) (a : Addr) (t' : TypeId) (v : Value) : Prop where
  go : ∃ off, fieldOff P t i = some off ∧ ∀ K : Value → World → Prop, VK P (Instr.loadAt t' (.pointer (some (a.add off)))) w K = K v w
theorem FAt.mk' {P : Program} {w : World} {t : TypeId} {i : Nat} {a : Addr} {t' : TypeId} {v : Value} {off : Nat} {d : TypeDesc} (h1 : fieldOff P t i = some off) (h2 : P.underlying t' = some d) (h3 : (match d with | .struct _ | .array _ _ => true | _ => false) = false) (h4 : w.cell? (a.add off) = some v) : FAt P w t i a t' v :=
  ⟨_, h1, fun K => VK_eq_of (run_ld1 h2 h3 h4)⟩
section
variable {P : Program} {w : World} {K : Value → World → Prop} {t t' ty ty' : TypeId} {i : Nat} {a : Addr} {v : Value} {b : Bool}
theorem FAt.eq (h : FAt P w t i a t' v) (K : Value → World → Prop) : (VK P (Instr.fieldAt t (.pointer (some a)) i) w fun x w => VK P (Instr.loadAt t' x) w K) = K v w := by
  obtain ⟨off, h1, h2⟩ := h.go
  rw [fo h1, h2]
theorem FAt.vk (h : FAt P w t i a t' v) (hk : K v w) : VK P (Instr.fieldAt t (.pointer (some a)) i) w fun x w => VK P (Instr.loadAt t' x) w K := by
  rw [h.eq]
  exact hk
theorem fA1 {op : BinOp} {x y : Operand} {c : Value} {r : Bool} (h : FAt P w t i a t' v) (hop : ∀ K : Value → World → Prop, BK P op ty x y v c w K = K (.bool r) w) (hk : K (.bool (b && r)) w) :
    VG P (.bool b) true (Instr.fieldAt t (.pointer (some a)) i) w fun x1 w => VG P (.bool b) true (Instr.loadAt t' x1) w fun x2 w => BG P (.bool b) true op ty x y x2 c w fun x3 w => PK P (.bool b) x3 (.bool false) w K := by
  cases b
  · simp only [VG_b, BG_b, Bool.false_eq_true, if_false, PK_bool]; exact hk
  · simp only [VG_b, BG_b, if_true, PK_bool]; rw [h.eq, hop]; exact hk
theorem fA2 {e tl : TypeId} {A : Option Addr} {n c : Nat} {op : BinOp} {x y : Operand} {cs : List Bool} {o : Value} {r : Bool} (h : FAt P w t i a t' (.slice A n c)) (hl : P.underlying tl = some (.slice e)) (hop : ∀ K : Value → World → Prop, BK P op ty x y (.int .i64 n) o w K = K (.bool r) w) (hk : K (.bool (b && r)) w) :
    VG P (.bool b) true (Instr.fieldAt t (.pointer (some a)) i) w fun x1 w => VG P (.bool b) true (Instr.loadAt t' x1) w fun x2 w => IG P (.bool b) true Builtin.len #[tl] ty' cs [x2] w fun x3 w => MG P (.bool b) true o w fun x4 w => BG P (.bool b) true op ty x y x3 x4 w fun x5 w => PK P (.bool b) x5 (.bool false) w K := by
  cases b
  · simp only [VG_b, BG_b, IG_b, MG_b, Bool.false_eq_true, if_false, PK_bool]; exact hk
  · simp only [VG_b, BG_b, IG_b, MG_b, if_true, PK_bool]; rw [h.eq, len_sl hl, hop]; exact hk
theorem fA3 {f g : Value} {r : Bool} (h : FAt P w t i a t' v) (hc : ∀ K : Value → World → Prop, (∀ w2, Mod none_ w w2 → K (.bool r) w2) → CK P f [v, g] w K) (hk : ∀ w2, Mod none_ w w2 → K (.bool (b && !r)) w2) :
    VG P (.bool b) true (Instr.fieldAt t (.pointer (some a)) i) w fun x1 w => VG P (.bool b) true (Instr.loadAt t' x1) w fun x2 w => CG P (.bool b) true f [x2, g] w fun x3 w => VG P (.bool b) true (Op.unary UnOp.not x3) w fun x4 w => PK P (.bool b) x4 (.bool false) w K := by
  cases b
  · simp only [VG_b, CG_b, Bool.false_eq_true, if_false, PK_bool]; exact hk w (Mod.refl _ _)
  · simp only [VG_b, CG_b, if_true, PK_bool]; rw [h.eq]; refine hc _ fun w2 hm => ?_; rw [not_ok]; exact hk w2 hm
theorem fA8 {f : Value} {r : Bool} (h : FAt P w t i a t' v) (hc : ∀ K : Value → World → Prop, (∀ w2, Mod none_ w w2 → K (.bool r) w2) → CK P f [v] w K) (hk : ∀ w2, Mod none_ w w2 → K (.bool (b && r)) w2) :
    VG P (.bool b) true (Instr.fieldAt t (.pointer (some a)) i) w fun x1 w => VG P (.bool b) true (Instr.loadAt t' x1) w fun x2 w => CG P (.bool b) true f [x2] w fun x3 w => PK P (.bool b) x3 (.bool false) w K := by
  cases b
  · simp only [VG_b, CG_b, Bool.false_eq_true, if_false, PK_bool]; exact hk w (Mod.refl _ _)
  · simp only [VG_b, CG_b, if_true, PK_bool]; rw [h.eq]; refine hc _ fun w2 hm => ?_; exact hk w2 hm
theorem fA0 {f : Value} {n r : Bool} (h : FAt P w t i a t' v) (hc : ∀ K : Value → World → Prop, (∀ w2, Mod none_ w w2 → K (.bool r) w2) → CK P f [v] w K) (hk : ∀ w2, Mod none_ w w2 → K (.bool (b && (!n || r))) w2) :
    MG P (.bool b) true (.bool n) w fun x1 w => VG P (.bool b) true (Op.unary UnOp.not x1) w fun x2 w => MG P (.bool b) true x2 w fun x3 w => VG P x3 false (Instr.fieldAt t (.pointer (some a)) i) w fun x4 w => VG P x3 false (Instr.loadAt t' x4) w fun x5 w =>
      CG P x3 false f [x5] w fun x6 w => PG P (.bool b) true x3 (.bool true) x6 w fun x7 w => PK P (.bool b) x7 (.bool false) w K := by
  cases b
  · simp only [MG_b, VG_b, CG_b, PG_b, MG_u, VG_u, CG_u, PG_u, Bool.false_eq_true, if_false, PK_bool]; exact hk w (Mod.refl _ _)
  · cases n
    · simp only [MG_b, VG_b, CG_b, PG_b, if_true, PK_bool, not_ok, Bool.not_false, Bool.true_eq_false, if_false]; exact hk w (Mod.refl _ _)
    · simp only [MG_b, VG_b, CG_b, PG_b, if_true, PK_bool, not_ok, Bool.not_true, Bool.false_eq_true, if_false]; rw [h.eq]; refine hc _ fun w2 hm => ?_; exact hk w2 hm
variable {t2 t2' : TypeId} {i2 : Nat} {v2 : Value}
theorem fA4 {op op2 : BinOp} {x y x' y' : Operand} {c c2 : Value} {r r2 : Bool} (h : FAt P w t i a t' v) (hop : ∀ K : Value → World → Prop, BK P op ty x y v c w K = K (.bool r) w) (h2 : FAt P w t2 i2 a t2' v2) (hop2 : ∀ K : Value → World → Prop, BK P op2 ty' x' y' v2 c2 w K = K (.bool r2) w) (hk : K (.bool (b && (r || r2))) w) :
    VG P (.bool b) true (Instr.fieldAt t (.pointer (some a)) i) w fun x1 w => VG P (.bool b) true (Instr.loadAt t' x1) w fun x2 w => BG P (.bool b) true op ty x y x2 c w fun x3 w => MG P (.bool b) true x3 w fun x4 w =>
      VG P x4 false (Instr.fieldAt t2 (.pointer (some a)) i2) w fun x5 w => VG P x4 false (Instr.loadAt t2' x5) w fun x6 w => BG P x4 false op2 ty' x' y' x6 c2 w fun x7 w => PG P (.bool b) true x4 (.bool true) x7 w fun x8 w => PK P (.bool b) x8 (.bool false) w K := by
  cases b
  · simp only [MG_b, VG_b, BG_b, PG_b, MG_u, VG_u, BG_u, PG_u, Bool.false_eq_true, if_false, PK_bool]; exact hk
  · simp only [VG_b, BG_b, MG_b, PG_b, if_true]
    rw [h.eq, hop]
    cases r
    · simp only [MG_b, VG_b, BG_b, PG_b, if_true, PK_bool, Bool.false_eq_true, if_false]; rw [h2.eq, hop2]; exact hk
    · simp only [MG_b, VG_b, BG_b, PG_b, if_true, PK_bool, Bool.true_eq_false, if_false]; exact hk
theorem fA5 {e tl tyl : TypeId} {A : Option Addr} {n cc : Nat} {cs : List Bool} {op op2 : BinOp} {x y x' y' : Operand} {c c2 : Value} {r r2 : Bool} (h : FAt P w t i a t' v) (hop : ∀ K : Value → World → Prop, BK P op ty x y v c w K = K (.bool r) w) (h2 : FAt P w t2 i2 a t2' (.slice A n cc)) (hl : P.underlying tl = some (.slice e)) (hop2 : ∀ K : Value → World → Prop, BK P op2 ty' x' y' (.int .i64 n) c2 w K = K (.bool r2) w) (hk : K (.bool (b && (r || r2))) w) :
    VG P (.bool b) true (Instr.fieldAt t (.pointer (some a)) i) w fun x1 w => VG P (.bool b) true (Instr.loadAt t' x1) w fun x2 w => BG P (.bool b) true op ty x y x2 c w fun x3 w => MG P (.bool b) true x3 w fun x4 w =>
      VG P x4 false (Instr.fieldAt t2 (.pointer (some a)) i2) w fun x5 w => VG P x4 false (Instr.loadAt t2' x5) w fun x6 w => IG P x4 false Builtin.len #[tl] tyl cs [x6] w fun x6' w => BG P x4 false op2 ty' x' y' x6' c2 w fun x7 w => PG P (.bool b) true x4 (.bool true) x7 w fun x8 w => PK P (.bool b) x8 (.bool false) w K := by
  cases b
  · simp only [MG_b, VG_b, BG_b, PG_b, IG_b, MG_u, VG_u, BG_u, PG_u, IG_u, Bool.false_eq_true, if_false, PK_bool]; exact hk
  · simp only [VG_b, BG_b, MG_b, PG_b, if_true]
    rw [h.eq, hop]
    cases r
    · simp only [MG_b, VG_b, BG_b, PG_b, IG_b, if_true, PK_bool, Bool.false_eq_true, if_false]; rw [h2.eq, len_sl hl, hop2]; exact hk
    · simp only [MG_b, VG_b, BG_b, PG_b, IG_b, if_true, PK_bool, Bool.true_eq_false, if_false]; exact hk
theorem fA7 {f : Value} {op op2 : BinOp} {x y x' y' : Operand} {c c2 : Value} {r r2 r3 : Bool} (h : FAt P w t i a t' v) (hop : ∀ K : Value → World → Prop, BK P op ty x y v c w K = K (.bool r) w) (h2 : FAt P w t2 i2 a t2' v2) (hc : ∀ K : Value → World → Prop, K (.bool r2) w → CK P f [v2] w K) (hop3 : ∀ K : Value → World → Prop, BK P op2 ty' x' y' v c2 w K = K (.bool r3) w) (hk : K (.bool (b && (r || (r2 && r3)))) w) :
    VG P (.bool b) true (Instr.fieldAt t (.pointer (some a)) i) w fun x1 w => VG P (.bool b) true (Instr.loadAt t' x1) w fun x2 w => BG P (.bool b) true op ty x y x2 c w fun x3 w => MG P (.bool b) true x3 w fun x4 w =>
      VG P x4 false (Instr.fieldAt t2 (.pointer (some a)) i2) w fun x5 w => VG P x4 false (Instr.loadAt t2' x5) w fun x6 w => CG P x4 false f [x6] w fun x7 w => MG P x4 false x7 w fun x8 w =>
      VG P x8 true (Instr.fieldAt t (.pointer (some a)) i) w fun x9 w => VG P x8 true (Instr.loadAt t' x9) w fun x10 w => BG P x8 true op2 ty' x' y' x10 c2 w fun x11 w => PG P x4 false x8 x11 (.bool false) w fun x12 w => PG P (.bool b) true x4 (.bool true) x12 w fun x13 w => PK P (.bool b) x13 (.bool false) w K := by
  cases b
  · simp only [MG_b, VG_b, BG_b, PG_b, CG_b, MG_u, VG_u, BG_u, PG_u, CG_u, Bool.false_eq_true, if_false, PK_bool]; exact hk
  · simp only [VG_b, BG_b, MG_b, PG_b, if_true]
    rw [h.eq, hop]
    cases r
    · simp only [MG_b, VG_b, BG_b, PG_b, CG_b, if_true, Bool.false_eq_true, if_false]
      rw [h2.eq]
      refine hc _ ?_
      cases r2
      · simp only [MG_b, VG_b, BG_b, PG_b, if_true, PK_bool, Bool.false_eq_true, if_false]; exact hk
      · simp only [MG_b, VG_b, BG_b, PG_b, if_true, PK_bool, Bool.false_eq_true, if_false]; rw [h.eq, hop3]; exact hk
    · simp only [MG_b, VG_b, BG_b, PG_b, CG_b, MG_u, VG_u, BG_u, PG_u, CG_u, if_true, PK_bool, Bool.true_eq_false, if_false]; exact hk
theorem fA6 {e tl tyl : TypeId} {A : Option Addr} {n cc : Nat} {cs : List Bool} {op1 op2 op3 op4 : BinOp} {x1 y1 x2 y2 x3 y3 x4 y4 : Operand} {c1 c2 c3 c4 : Value} {r1 r2 r3 r4 : Bool} {ty2 ty3 ty4 : TypeId} (h : FAt P w t i a t' v) (hop1 : ∀ K : Value → World → Prop, BK P op1 ty x1 y1 v c1 w K = K (.bool r1) w)
    (hop2 : ∀ K : Value → World → Prop, BK P op2 ty2 x2 y2 v c2 w K = K (.bool r2) w) (hop3 : ∀ K : Value → World → Prop, BK P op3 ty3 x3 y3 v c3 w K = K (.bool r3) w) (h2 : FAt P w t2 i2 a t2' (.slice A n cc)) (hl : P.underlying tl = some (.slice e)) (hop4 : ∀ K : Value → World → Prop, BK P op4 ty4 x4 y4 (.int .i64 n) c4 w K = K (.bool r4) w) (hk : K (.bool (b && (r1 || r2 || r3 || r4))) w) :
    VG P (.bool b) true (Instr.fieldAt t (.pointer (some a)) i) w fun z1 w => VG P (.bool b) true (Instr.loadAt t' z1) w fun z2 w => BG P (.bool b) true op1 ty x1 y1 z2 c1 w fun z3 w => MG P (.bool b) true z3 w fun z4 w =>
      VG P z4 false (Instr.fieldAt t (.pointer (some a)) i) w fun z5 w => VG P z4 false (Instr.loadAt t' z5) w fun z6 w => BG P z4 false op2 ty2 x2 y2 z6 c2 w fun z7 w => PG P (.bool b) true z4 (.bool true) z7 w fun z8 w => MG P (.bool b) true z8 w fun z9 w =>
      VG P z9 false (Instr.fieldAt t (.pointer (some a)) i) w fun z10 w => VG P z9 false (Instr.loadAt t' z10) w fun z11 w => BG P z9 false op3 ty3 x3 y3 z11 c3 w fun z12 w => PG P (.bool b) true z9 (.bool true) z12 w fun z13 w => MG P (.bool b) true z13 w fun z14 w =>
      VG P z14 false (Instr.fieldAt t2 (.pointer (some a)) i2) w fun z15 w => VG P z14 false (Instr.loadAt t2' z15) w fun z16 w => IG P z14 false Builtin.len #[tl] tyl cs [z16] w fun z17 w => BG P z14 false op4 ty4 x4 y4 z17 c4 w fun z18 w => PG P (.bool b) true z14 (.bool true) z18 w fun z19 w => PK P (.bool b) z19 (.bool false) w K := by
  cases b
  · simp only [MG_b, VG_b, BG_b, PG_b, IG_b, MG_u, VG_u, BG_u, PG_u, IG_u, Bool.false_eq_true, if_false, PK_bool]; exact hk
  · simp only [VG_b, BG_b, MG_b, PG_b, if_true]
    rw [h.eq, hop1]
    cases r1
    · simp only [MG_b, VG_b, BG_b, PG_b, IG_b, if_true, Bool.false_eq_true, if_false]
      rw [h.eq, hop2]
      cases r2
      · simp only [MG_b, VG_b, BG_b, PG_b, IG_b, PK_bool, if_true, Bool.false_eq_true, if_false]
        rw [h.eq, hop3]
        cases r3
        · simp only [MG_b, VG_b, BG_b, PG_b, IG_b, PK_bool, if_true, Bool.false_eq_true, if_false]
          rw [h2.eq, len_sl hl, hop4]
          exact hk
        · simp only [MG_b, VG_b, BG_b, PG_b, IG_b, PK_bool, if_true, Bool.true_eq_false, Bool.false_eq_true, if_false]; exact hk
      · simp only [MG_b, VG_b, BG_b, PG_b, IG_b, PK_bool, if_true, Bool.true_eq_false, Bool.false_eq_true, if_false]; exact hk
    · simp only [MG_b, VG_b, BG_b, PG_b, IG_b, PK_bool, if_true, Bool.true_eq_false, Bool.false_eq_true, if_false]; exact hk
theorem fO {op : BinOp} {x y : Operand} {c : Value} {r : Bool} (h : FAt P w t i a t' v) (hop : ∀ K : Value → World → Prop, BK P op ty x y v c w K = K (.bool r) w) (hk : K (.bool (b || r)) w) :
    VG P (.bool b) false (Instr.fieldAt t (.pointer (some a)) i) w fun x1 w => VG P (.bool b) false (Instr.loadAt t' x1) w fun x2 w => BG P (.bool b) false op ty x y x2 c w fun x3 w => PK P (.bool b) (.bool true) x3 w K := by
  cases b
  · simp only [VG_b, BG_b, if_true, PK_bool, Bool.false_eq_true, if_false]; rw [h.eq, hop]; exact hk
  · simp only [VG_b, BG_b, Bool.true_eq_false, if_true, if_false, PK_bool]; exact hk
theorem FAt.vk' {K : Value → Value → World → Prop} (h : FAt P w t i a t' v) (hk : ∀ x, K x v w) : VK P (Instr.fieldAt t (.pointer (some a)) i) w fun x w => VK P (Instr.loadAt t' x) w (K x) := by
  obtain ⟨off, h1, h2⟩ := h.go
  rw [fo h1, h2]
  exact hk _
theorem fO' {op : BinOp} {x y : Operand} {c : Value} {r : Bool} {K : Value → Value → Value → Value → World → Prop} (h : FAt P w t i a t' v) (hop : ∀ K : Value → World → Prop, BK P op ty x y v c w K = K (.bool r) w) (hk : ∀ x1 x2 x3, K x1 x2 x3 (.bool (b || r)) w) :
    VG P (.bool b) false (Instr.fieldAt t (.pointer (some a)) i) w fun x1 w => VG P (.bool b) false (Instr.loadAt t' x1) w fun x2 w => BG P (.bool b) false op ty x y x2 c w fun x3 w => PK P (.bool b) (.bool true) x3 w (K x1 x2 x3) := by
  cases b
  · simp only [VG_b, BG_b, if_true, PK_bool, Bool.false_eq_true, if_false]
    refine h.vk' fun x => ?_
    rw [hop]
    exact hk _ _ _
  · simp only [VG_b, BG_b, Bool.true_eq_false, if_true, if_false, PK_bool]; exact hk _ _ _
end
end Go.X
set_option linter.unusedVariables false
set_option linter.unusedSimpArgs false
set_option maxRecDepth 4000
namespace Go.Proofs.YtpkfbaagpjdifaaDoor.Tr
open Go Go.X Go.RowKit Go.Proofs.YtpkfbaagpjdifaaDoor.XF Go.Proofs.YtpkfbaagpjdifaaDoor.XK
def MaySt (a : St) : Prop := ∀ w, Gl w → a.Ok w → a.sz ≤ 1099511627776 → Rt Tryd.prog 34 #[.agg a.cells.toArray] w fun v w' => v = .bool a.may ∧ Mod none_ w w'
theorem exs_call {l : List Ex} {w : World} (hg : Gl w) {s : Value} (h : ExsOk w s l) (hsz : Ex.szL l ≤ 1099511627776) :
    ∀ a ∈ l, ∀ w', Mod none_ w w' → ∀ K : Value → World → Prop, (∀ w'', Mod none_ w' w'' → K (.bool (!a.may)) w'') → CK Tryd.prog (.func (.func 58) #[] #[]) [.agg a.cells.toArray] w' K := by
  intro a ha w' hm K hk
  refine CK_st (R := fun v w'' => v = .bool (!a.may) ∧ Mod none_ w' w'') Tryd.func58 rfl rfl ?_ (fun v w'' hv => by rw [hv.1]; exact hk w'' hv.2)
  refine tree_mayStmt_1_calls ?_
  unfold tree_mayStmt_1_F
  refine box_k (cs := a.cells.toArray) rfl fun w1 hb1 hm1 _ => ?_
  refine ldB (cs := a.cells.toArray) Tryd.underlying29 rfl iEx hb1 ?_
  refine CK_st Tryd.func59 rfl rfl (mayExpr_ok a w1 ((hg.mod hm).mod hm1) (((h.2 a ha).mod hm).mod hm1) (by have := Ex.szL_mem ha; omega)) ?_
  rintro _ w2 ⟨rfl, hm2⟩
  rw [not_ok]
  exact ⟨rfl, hm1.trans hm2⟩
theorem sts_call {l : List St} (ih : ∀ a ∈ l, MaySt a) {w : World} (hg : Gl w) {s : Value} (h : StsOk w s l) (hsz : St.szL l ≤ 1099511627776) :
    ∀ a ∈ l, ∀ w', Mod none_ w w' → ∀ K : Value → World → Prop, (∀ w'', Mod none_ w' w'' → K (.bool (!a.may)) w'') → CK Tryd.prog (.func (.func 33) #[] #[]) [.agg a.cells.toArray] w' K := by
  intro a ha w' hm K hk
  refine CK_st (R := fun v w'' => v = .bool (!a.may) ∧ Mod none_ w' w'') Tryd.func33 rfl rfl ?_ (fun v w'' hv => by rw [hv.1]; exact hk w'' hv.2)
  refine tree_mayStmts_1_calls ?_
  unfold tree_mayStmts_1_F
  refine box_k (cs := a.cells.toArray) rfl fun w1 hb1 hm1 _ => ?_
  refine ldB (cs := a.cells.toArray) Tryd.underlying25 rfl iSt hb1 ?_
  refine CK_st Tryd.func34 rfl rfl (ih a ha w1 ((hg.mod hm).mod hm1) (((h.2 a ha).mod hm).mod hm1) (by have := St.szL_mem ha; omega)) ?_
  rintro _ w2 ⟨rfl, hm2⟩
  rw [not_ok]
  exact ⟨rfl, hm1.trans hm2⟩
theorem any_not_may_st (l : List St) : (!l.any fun a => !a.may) = St.mayL l := by
  rw [St.mayL_eq]
  induction l with
  | nil => rfl
  | cons a r ih => simp only [List.any_cons, List.all_cons, Bool.not_or, Bool.not_not, ih]
theorem St.len_sz (l : List St) : l.length ≤ St.szL l := by
  induction l with
  | nil => simp
  | cons a r ih => have := St.sz_pos a; simp only [St.szL, List.length_cons]; omega
theorem mayStmts_row {l : List St} (ih : ∀ a ∈ l, MaySt a) {w : World} (hg : Gl w) {s : Value} (h : StsOk w s l) (hsz : St.szL l ≤ 1099511627776) : Rt Tryd.prog 18 #[s] w fun v w' => v = .bool (St.mayL l) ∧ Mod none_ w w' := by
  refine tree_mayStmts_calls ?_
  unfold tree_mayStmts_F
  refine CK_st Tryd.func32 rfl rfl (ContainsFuncSt_ok h (by have := St.len_sz l; omega) (sts_call ih hg h hsz)) ?_
  rintro _ w2 ⟨rfl, hm2⟩
  rw [not_ok, any_not_may_st]
  exact ⟨rfl, hm2⟩
def St.ask (e : St) (nm : Bool) (lo hi : Nat) : Bool :=
  (((((((((((((nm == !decide (e.name.size = 0)) && (!nm || nameP e.name)) && decide ((lo : Int) ≤ (e.exprs.length : Int))) && decide ((e.exprs.length : Int) ≤ (hi : Int))) && !e.exprs.any fun a => !a.may) && ((e.op == 8) || (e.kind == 0))) && ((e.red == 0) || (redsP e.kind && decide (e.red ≤ 2)))) &&
    decide (0 ≤ e.turns)) && decide (e.turns ≤ 1000)) && ((e.op == 5) || (e.turns == 0))) && ((e.op == 3) || ((e.els.length : Int) == 0))) && ((e.op == 3) || (e.op == 4) || (e.op == 5) || ((e.body.length : Int) == 0))) && St.mayL e.body) && St.mayL e.els
section
variable {e : St} {w w1 : World} (hok : e.Ok w) (hg : Gl w) (hsz : e.sz ≤ 1099511627776) (hm : Mod none_ w w1) (ih1 : ∀ a ∈ e.body, MaySt a) (ih2 : ∀ a ∈ e.els, MaySt a) {b1 : Nat} {ρ : Sl}
include hok hg hsz hm ih1 ih2
theorem mayS0 (hb1 : w1.heap[b1]? = some (.cells e.cells.toArray 25 (0, 0))) {nm : Bool} {lo hi : Nat} (h1 : ρ 1 = .pointer (some ⟨b1, 0, none⟩)) (h3 : ρ 3 = .bool nm) (h4 : ρ 4 = .int .i64 lo) (h5 : ρ 5 = .int .i64 hi) {z : Bool} (hz : St.ask e nm lo hi = z) :
    sx fn_ Tryd.prog 162 tree_mayStmt_R0 (retK Tryd.prog [ResultVar.tmp 2] fun v w' => v = .bool z ∧ Mod none_ w w') ρ w1 := by
  subst hz
  obtain ⟨A, c, hs, _⟩ := reads_cap hok.exprs.1
  obtain ⟨A2, c2, hs2, _⟩ := reads_cap hok.body.1
  obtain ⟨A3, c3, hs3, _⟩ := reads_cap hok.els.1
  have hszE : Ex.szL e.exprs ≤ 1099511627776 := by rw [St.sz_eq] at hsz; omega
  have hszB : St.szL e.body ≤ 1099511627776 := by rw [St.sz_eq] at hsz; omega
  have hszL : St.szL e.els ≤ 1099511627776 := by rw [St.sz_eq] at hsz; omega
  have cell : ∀ (w' : World), Mod none_ w1 w' → ∀ (j : Nat) v, e.cells[j]? = some v → w'.cell? ((⟨b1, 0, none⟩ : Addr).add j) = some v := fun w' hw j v hv => by
    rw [add_pl, cell_blk (hw.blk hb1 id), Nat.zero_add]
    simpa using hv
  have d0 : ∀ {w'}, Mod none_ w1 w' → FAt Tryd.prog w' 25 0 ⟨b1, 0, none⟩ 5 (.int .u8 e.op) := fun hw => FAt.mk' (off := 0) (by kernel_rfl) uU8 rfl (cell _ hw 0 _ rfl)
  have d1 : ∀ {w'}, Mod none_ w1 w' → FAt Tryd.prog w' 25 1 ⟨b1, 0, none⟩ 5 (.int .u8 e.kind) := fun hw => FAt.mk' (off := 1) (by kernel_rfl) uU8 rfl (cell _ hw 1 _ rfl)
  have d2 : ∀ {w'}, Mod none_ w1 w' → FAt Tryd.prog w' 25 2 ⟨b1, 0, none⟩ 5 (.int .u8 e.red) := fun hw => FAt.mk' (off := 2) (by kernel_rfl) uU8 rfl (cell _ hw 2 _ rfl)
  have d3 : ∀ {w'}, Mod none_ w1 w' → FAt Tryd.prog w' 25 3 ⟨b1, 0, none⟩ 9 (.string e.name) := fun hw => FAt.mk' (off := 3) (by kernel_rfl) uS rfl (cell _ hw 3 _ rfl)
  have d4 : ∀ {w'}, Mod none_ w1 w' → FAt Tryd.prog w' 25 4 ⟨b1, 0, none⟩ 3 (.int .i64 e.turns) := fun hw => FAt.mk' (off := 4) (by kernel_rfl) uI rfl (cell _ hw 4 _ rfl)
  have d5 : ∀ {w'}, Mod none_ w1 w' → FAt Tryd.prog w' 25 5 ⟨b1, 0, none⟩ 22 (.slice A e.exprs.length c) := fun hw => FAt.mk' (off := 5) (by kernel_rfl) uExs rfl (cell _ hw 5 _ (by rw [← hs]; rfl))
  have d6 : ∀ {w'}, Mod none_ w1 w' → FAt Tryd.prog w' 25 6 ⟨b1, 0, none⟩ 23 (.slice A2 e.body.length c2) := fun hw => FAt.mk' (off := 6) (by kernel_rfl) uSts rfl (cell _ hw 6 _ (by rw [← hs2]; rfl))
  have d7 : ∀ {w'}, Mod none_ w1 w' → FAt Tryd.prog w' 25 7 ⟨b1, 0, none⟩ 23 (.slice A3 e.els.length c3) := fun hw => FAt.mk' (off := 7) (by kernel_rfl) uSts rfl (cell _ hw 7 _ (by rw [← hs3]; rfl))
  have r0 := Mod.refl none_ w1
  rw [tree_mayStmt_R0_eqR]
  unfold tree_mayStmt_R0_FR
  simp only [h1, h3, h4, h5]
  refine (d3 r0).vk ?_
  rw [BK_neqS, ByteArray.toList_eq, ByteArray.toList_eq, empty_iff, BK_eqlB (by kernel_rfl)]
  refine fA0 (d3 r0) (r := nameP e.name) (fun K hk => CK_st Tryd.func15 rfl rfl (Name_ok (hg.mod hm) e.name hok.fine.2.2.2.1) (fun v w' hv => by rw [hv.1]; exact hk w' hv.2)) fun w2 m2 => ?_
  refine fA2 (d5 m2) uExs (fun K => BK_geq _ _ _ _ _ _) ?_
  refine fA2 (d5 m2) uExs (fun K => BK_leq _ _ _ _ _ _) ?_
  have hE : ExsOk w2 (.slice A e.exprs.length c) e.exprs := by rw [← hs]; exact (hok.exprs.mod hm).mod m2
  refine fA3 (d5 m2) (r := e.exprs.any fun a => !a.may) (fun K hk => CK_st Tryd.func57 rfl rfl (ContainsFuncEx_ok hE (by have := Ex.len_sz e.exprs; omega) (exs_call ((hg.mod hm).mod m2) hE hszE)) (fun v w' hv => by rw [hv.1]; exact hk w' hv.2)) fun w3 m3 => ?_
  have m13 := m2.trans m3
  refine fA4 (d0 m13) (fun K => BK_eql _ _ _ _ _ _) (d1 m13) (fun K => BK_eql _ _ _ _ _ _) ?_
  refine fA7 (d2 m13) (fun K => BK_eql _ _ _ _ _ _) (d1 m13) (r2 := redsP e.kind) (fun K hk => CK_st Tryd.func60 rfl rfl (reduces_ok e.kind w3) (fun v w' hv => by rw [hv.1, hv.2]; exact hk)) (fun K => BK_leq _ _ _ _ _ _) ?_
  refine fA1 (d4 m13) (fun K => BK_geq _ _ _ _ _ _) ?_
  refine fA1 (d4 m13) (fun K => BK_leq _ _ _ _ _ _) ?_
  refine fA4 (d0 m13) (fun K => BK_eql _ _ _ _ _ _) (d4 m13) (fun K => BK_eql _ _ _ _ _ _) ?_
  refine fA5 (d0 m13) (fun K => BK_eql _ _ _ _ _ _) (d7 m13) uSts (fun K => BK_eql _ _ _ _ _ _) ?_
  refine fA6 (d0 m13) (fun K => BK_eql _ _ _ _ _ _) (fun K => BK_eql _ _ _ _ _ _) (fun K => BK_eql _ _ _ _ _ _) (d6 m13) uSts (fun K => BK_eql _ _ _ _ _ _) ?_
  have hB : StsOk w3 (.slice A2 e.body.length c2) e.body := by rw [← hs2]; exact (hok.body.mod hm).mod m13
  refine fA8 (d6 m13) (r := St.mayL e.body) (fun K hk => CK_st Tryd.func18 rfl rfl (mayStmts_row ih1 ((hg.mod hm).mod m13) hB hszB) (fun v w' hv => by rw [hv.1]; exact hk w' hv.2)) fun w4 m4 => ?_
  have m14 := m13.trans m4
  have hL : StsOk w4 (.slice A3 e.els.length c3) e.els := by rw [← hs3]; exact (hok.els.mod hm).mod m14
  refine fA8 (d7 m14) (r := St.mayL e.els) (fun K hk => CK_st Tryd.func18 rfl rfl (mayStmts_row ih2 ((hg.mod hm).mod m14) hL hszL) (fun v w' hv => by rw [hv.1]; exact hk w' hv.2)) fun w5 m5 => ?_
  exact ⟨rfl, (hm.trans m14).trans m5⟩
end
end Go.Proofs.YtpkfbaagpjdifaaDoor.Tr
set_option linter.unusedVariables false
set_option linter.unusedSimpArgs false
set_option maxRecDepth 4000
namespace Go.Proofs.YtpkfbaagpjdifaaDoor.Tr
open Go Go.X Go.RowKit Go.Proofs.YtpkfbaagpjdifaaDoor.XF Go.Proofs.YtpkfbaagpjdifaaDoor.XK
theorem beq_dec (a b : Int) : (a == b) = decide (a = b) := by
  by_cases h : a = b
  · rw [decide_eq_true h, h]; exact beq_self_eq_true b
  · rw [decide_eq_false h]; exact beq_eq_false_iff_ne.2 h
theorem name_eq (nm : Bool) (b : ByteArray) : ((nm == !decide (b.size = 0)) && (!nm || nameP b)) = (if nm then nameP b else decide (b.size = 0)) := by
  by_cases h0 : b.size = 0
  · have : nameP b = false := by unfold nameP; rw [show decide (1 ≤ b.size) = false from decide_eq_false (by omega)]; rfl
    rw [decide_eq_true h0, this]
    cases nm <;> rfl
  · rw [decide_eq_false h0]
    cases nm <;> simp
theorem kind_eq (op kind red : Int) : ((decide (op = 8) || decide (kind = 0)) && (decide (red = 0) || (redsP kind && decide (red ≤ 2)))) = ((decide (op = 8) || (decide (kind = 0) && decide (red = 0))) && (decide (red = 0) || (redsP kind && decide (red ≤ 2)))) := by
  by_cases h8 : op = 8
  · rw [decide_eq_true h8]; rfl
  · rw [decide_eq_false h8]
    by_cases hk : kind = 0
    · have : redsP kind = false := by unfold redsP; rw [decide_eq_false]; omega
      rw [this, decide_eq_true hk]
      cases decide (red = 0) <;> rfl
    · rw [decide_eq_false hk]; rfl
theorem ask_eq (e : St) {nm : Bool} {lo hi : Nat} (hn : nm = decide (e.op = 1 ∨ e.op = 2 ∨ e.op = 5)) (hr : e.rng = some (lo, hi)) : St.ask e nm lo hi = e.may := by
  rw [St.may_eq]
  unfold St.ask St.own
  rw [hr, name_eq, any_not_may]
  simp only [beq_dec]
  have e1 : decide ((lo : Int) ≤ (e.exprs.length : Int)) = decide (lo ≤ e.exprs.length) := by simp
  have e2 : decide ((e.exprs.length : Int) ≤ (hi : Int)) = decide (e.exprs.length ≤ hi) := by simp
  have e3 : decide ((e.els.length : Int) = 0) = decide (e.els.length = 0) := by simp
  have e4 : decide ((e.body.length : Int) = 0) = decide (e.body.length = 0) := by simp
  have e5 : (decide (e.op = 3) || decide (e.op = 4) || decide (e.op = 5)) = decide (e.op = 3 ∨ e.op = 4 ∨ e.op = 5) := by
    by_cases q3 : e.op = 3 <;> by_cases q4 : e.op = 4 <;> by_cases q5 : e.op = 5 <;> simp [q3, q4, q5]
  have e6 : (if nm = true then nameP e.name else decide (e.name.size = 0)) = (if e.op = 1 ∨ e.op = 2 ∨ e.op = 5 then nameP e.name else decide (e.name.size = 0)) := by
    subst hn
    by_cases q : e.op = 1 ∨ e.op = 2 ∨ e.op = 5
    · rw [if_pos (decide_eq_true q), if_pos q]
    · rw [if_neg (by rw [decide_eq_false q]; simp), if_neg q]
  rw [e1, e2, e3, e4, e5, e6]
  have hk := kind_eq e.op e.kind e.red
  generalize (if e.op = 1 ∨ e.op = 2 ∨ e.op = 5 then nameP e.name else decide (e.name.size = 0)) = X1 at *
  generalize decide (lo ≤ e.exprs.length) = X2 at *
  generalize decide (e.exprs.length ≤ hi) = X3 at *
  generalize Ex.mayL e.exprs = X4 at *
  generalize (decide (e.red = 0) || (redsP e.kind && decide (e.red ≤ 2))) = X5 at *
  generalize (decide (e.op = 8) || decide (e.kind = 0)) = X6 at *
  generalize (decide (e.op = 8) || (decide (e.kind = 0) && decide (e.red = 0))) = X7 at *
  generalize decide (0 ≤ e.turns) = X8 at *
  generalize decide (e.turns ≤ 1000) = X9 at *
  generalize (decide (e.op = 5) || decide (e.turns = 0)) = X10 at *
  generalize (decide (e.op = 3) || decide (e.els.length = 0)) = X11 at *
  generalize (decide (e.op = 3 ∨ e.op = 4 ∨ e.op = 5) || decide (e.body.length = 0)) = X12 at *
  generalize St.mayL e.body = X13 at *
  generalize St.mayL e.els = X14 at *
  have : (X1 && X2 && X3 && X4 && X6 && X5 && X8 && X9 && X10 && X11 && X12 && X13 && X14) = (X6 && X5 && (X1 && X2 && X3 && X4 && X8 && X9 && X10 && X11 && X12 && X13 && X14)) := by ac_rfl
  rw [this, hk]
  ac_rfl
theorem mayStmt_ok : ∀ e : St, MaySt e := by
  intro e
  induction e using St.ind with
  | h e ih1 ih2 =>
    intro w hg hok hsz
    have hrng := hok.fine
    refine tree_mayStmt_calls ?_
    unfold tree_mayStmt_F
    refine box_k (cs := e.cells.toArray) rfl fun w1 hb1 hm1 hs1 => ?_
    have cell : ∀ (j : Nat) v, e.cells[j]? = some v → w1.cell? ((⟨w.heap.size, 0, none⟩ : Addr).add j) = some v := fun j v hv => by
      rw [add_pl, cell_blk hb1, Nat.zero_add]
      simpa using hv
    have d0 : FAt Tryd.prog w1 25 0 ⟨w.heap.size, 0, none⟩ 5 (.int .u8 e.op) := FAt.mk' (off := 0) (by kernel_rfl) uU8 rfl (cell 0 _ rfl)
    have d1 : FAt Tryd.prog w1 25 1 ⟨w.heap.size, 0, none⟩ 5 (.int .u8 e.kind) := FAt.mk' (off := 1) (by kernel_rfl) uU8 rfl (cell 1 _ rfl)
    refine d0.vk' fun x6 => ?_
    rw [BK_eql]
    refine fO' d0 (fun K => BK_eql _ _ _ _ _ _) fun x10 x11 x12 => ?_
    refine fO' d0 (fun K => BK_eql _ _ _ _ _ _) fun x15 x16 x17 => ?_
    refine d0.vk' fun x19 => ?_
    have hnm : ((e.op == 1) || (e.op == 2) || (e.op == 5)) = decide (e.op = 1 ∨ e.op = 2 ∨ e.op = 5) := by
      simp only [beq_dec]
      by_cases q3 : e.op = 1 <;> by_cases q4 : e.op = 2 <;> by_cases q5 : e.op = 5 <;> simp [q3, q4, q5]
    have fin : ∀ (ρ' : Sl) (lo hi : Nat), ρ' 1 = .pointer (some ⟨w.heap.size, 0, none⟩) → ρ' 3 = .bool ((e.op == 1) || (e.op == 2) || (e.op == 5)) → ρ' 4 = .int .i64 lo → ρ' 5 = .int .i64 hi → e.rng = some (lo, hi) →
        sx fn_ Tryd.prog 162 tree_mayStmt_R0 (retK Tryd.prog [ResultVar.tmp 2] fun v w' => v = .bool e.may ∧ Mod none_ w w') ρ' w1 := fun ρ' lo hi q1 q3 q4 q5 hr =>
      mayS0 hok hg hsz hm1 ih1 ih2 hb1 q1 q3 q4 q5 (ask_eq e hnm hr)
    have none_ret : e.rng = none → e.may = false := fun h => by
      rw [St.may_eq]
      unfold St.own
      rw [h]
      rfl
    have r1 : ∀ (ρ' : Sl) (t : Bool), ρ' 1 = .pointer (some ⟨w.heap.size, 0, none⟩) → ρ' 3 = .bool ((e.op == 1) || (e.op == 2) || (e.op == 5)) → ρ' 4 = .int .i64 0 → ρ' 5 = .int .i64 0 → ρ' 20 = .int .u8 e.op → ρ' 21 = .bool t → t = decide (e.op = 1 ∨ e.op = 3 ∨ e.op = 4 ∨ e.op = 6) →
        sx fn_ Tryd.prog 162 tree_mayStmt_R1 (blkK 0 (seqK (sx fn_ Tryd.prog 162 tree_mayStmt_R0 (retK Tryd.prog [ResultVar.tmp 2] fun v w' => v = .bool e.may ∧ Mod none_ w w')) (retK Tryd.prog [ResultVar.tmp 2] fun v w' => v = .bool e.may ∧ Mod none_ w w'))) ρ' w1 := by
      intro ρ' t q1 q3 q4 q5 q20 q21 ht
      rw [tree_mayStmt_R1_eq]
      unfold tree_mayStmt_R1_F
      rw [q21, q20]
      subst ht
      refine caseC (fun hp => ?_) (fun hp => ?_)
      · rw [decide_eq_true_eq] at hp
        rw [bk_n, sq_n]
        refine fin _ 1 1 ?_ ?_ rfl rfl (by unfold St.rng; rw [if_pos hp])
        · exact q1
        · exact q3
      · rw [decide_eq_false_iff_not] at hp
        refine caseI (fun h2 => condT ?_) (fun h2 => condF ?_)
        · rw [bk_n, sq_n]
          refine fin _ 2 2 ?_ ?_ rfl rfl (by unfold St.rng; rw [if_neg hp, if_pos h2])
          · exact q1
          · exact q3
        · have r2 : ∀ (ρ2 : Sl) (t : Bool), ρ2 1 = .pointer (some ⟨w.heap.size, 0, none⟩) → ρ2 3 = .bool ((e.op == 1) || (e.op == 2) || (e.op == 5)) → ρ2 4 = .int .i64 0 → ρ2 5 = .int .i64 0 → ρ2 20 = .int .u8 e.op → ρ2 28 = .bool t → t = decide (e.op = 5 ∨ e.op = 7) →
              sx fn_ Tryd.prog 162 tree_mayStmt_R2 (blkK 0 (seqK (sx fn_ Tryd.prog 162 tree_mayStmt_R0 (retK Tryd.prog [ResultVar.tmp 2] fun v w' => v = .bool e.may ∧ Mod none_ w w')) (retK Tryd.prog [ResultVar.tmp 2] fun v w' => v = .bool e.may ∧ Mod none_ w w'))) ρ2 w1 := by
            intro ρ2 t p1 p3 p4 p5 p20 p28 ht2
            rw [tree_mayStmt_R2_eq]
            unfold tree_mayStmt_R2_F
            rw [p28, p20, p1]
            subst ht2
            refine caseC (fun h5 => ?_) (fun h5 => ?_)
            · rw [decide_eq_true_eq] at h5
              rw [bk_n, sq_n]
              exact fin _ 0 0 p1 p3 p4 p5 (by unfold St.rng; rw [if_neg hp, if_neg h2, if_pos h5])
            · rw [decide_eq_false_iff_not] at h5
              refine caseI (fun h8 => condT ?_) (fun h8 => condF ?_)
              · refine d1.vk' fun x34 => ?_
                refine CK_st Tryd.func56 rfl rfl (Args_ok (hg.mod hm1) e.kind hrng.2.1) ?_
                rintro _ w1' ⟨rfl, rfl⟩
                rw [extract_ok (v := .int .i64 (argsP e.kind).1) rfl, extract_ok (v := .int .i64 (argsP e.kind).2) rfl]
                refine caseI (fun hz => condT ?_) (fun hz => condF ?_)
                · refine ⟨?_, hm1⟩
                  rw [none_ret (by unfold St.rng; rw [if_neg hp, if_neg h2, if_neg h5, if_pos h8, if_pos (by omega)])]
                  rfl
                · rw [bk_n, sq_n]
                  refine fin _ (argsP e.kind).1 (argsP e.kind).2 ?_ ?_ rfl rfl (by unfold St.rng; rw [if_neg hp, if_neg h2, if_neg h5, if_pos h8, if_neg (by omega)])
                  · exact p1
                  · exact p3
              · refine ⟨?_, hm1⟩
                rw [none_ret (by unfold St.rng; rw [if_neg hp, if_neg h2, if_neg h5, if_neg h8])]
                rfl
          refine caseI (fun h5 => condT ?_) (fun h5 => condF ?_)
          · refine r2 _ true ?_ ?_ ?_ ?_ ?_ rfl (by rw [decide_eq_true (Or.inl h5)])
            · exact q1
            · exact q3
            · exact q4
            · exact q5
            · exact q20
          · rw [BK_eql]
            refine r2 _ (e.op == 7) ?_ ?_ ?_ ?_ ?_ rfl ?_
            · exact q1
            · exact q3
            · exact q4
            · exact q5
            · exact q20
            · rw [beq_dec]
              by_cases q : e.op = 7
              · rw [decide_eq_true q, decide_eq_true (Or.inr q)]
              · rw [decide_eq_false q, decide_eq_false (by omega)]
    refine caseI (fun h1 => condT ?_) (fun h1 => condF ?_)
    · exact r1 _ true rfl rfl rfl rfl rfl rfl (by rw [decide_eq_true (Or.inl h1)])
    refine caseI (fun h3 => condT ?_) (fun h3 => condF ?_)
    · exact r1 _ true rfl rfl rfl rfl rfl rfl (by rw [decide_eq_true (Or.inr (Or.inl h3))])
    refine caseI (fun h4 => condT ?_) (fun h4 => condF ?_)
    · exact r1 _ true rfl rfl rfl rfl rfl rfl (by rw [decide_eq_true (Or.inr (Or.inr (Or.inl h4)))])
    rw [BK_eql]
    refine r1 _ (e.op == 6) ?_ ?_ ?_ ?_ ?_ ?_ ?_
    · rfl
    · rfl
    · rfl
    · rfl
    · rfl
    · rfl
    · rw [beq_dec]
      by_cases q : e.op = 6
      · rw [decide_eq_true q, decide_eq_true (Or.inr (Or.inr (Or.inr q)))]
      · rw [decide_eq_false q, decide_eq_false (by omega)]
theorem mayStmts_ok {l : List St} {w : World} (hg : Gl w) {s : Value} (h : StsOk w s l) (hsz : St.szL l ≤ 1099511627776) : Rt Tryd.prog 18 #[s] w fun v w' => v = .bool (St.mayL l) ∧ Mod none_ w w' :=
  mayStmts_row (fun a _ => mayStmt_ok a) hg h hsz
end Go.Proofs.YtpkfbaagpjdifaaDoor.Tr
set_option linter.unusedVariables false
set_option linter.unusedSimpArgs false
set_option maxRecDepth 4000
namespace Go.Proofs.YtpkfbaagpjdifaaDoor.Tr
open Go Go.X Go.RowKit Go.Proofs.YtpkfbaagpjdifaaDoor.XF Go.Proofs.YtpkfbaagpjdifaaDoor.XK
theorem uTwo : Tryd.prog.underlying 94 = some (.array 2 23) := by kernel_rfl
theorem cSts : Tryd.prog.cellsOf 23 = 0 + 1 := by kernel_rfl
theorem bTwo (A B : Option Addr) (n c m d : Nat) : Tryd.prog.built 94 [(0, .slice A n c), (1, .slice B m d)] = some #[.slice A n c, .slice B m d] := by kernel_rfl
theorem aggSts (w : World) : (isAgg 23).run Tryd.prog w = .ok false w := by
  unfold isAgg
  rw [Sem.run_bind, run_underlying uSts w]
  rfl
theorem two_0 (x y : Value) (w : World) : (Instr.index 94 (.agg #[x, y]) (.int .i64 0)).run Tryd.prog w = .ok x w := by
  obtain ⟨z, hz, hzs⟩ := info_of cSts
  simp [Instr.index, run_underlying uTwo, asIntOf, sizeOf, typeInfo, hz, hzs, part, aggSts, Sem.run_bind]
theorem two_1 (x y : Value) (w : World) : (Instr.index 94 (.agg #[x, y]) (.int .i64 1)).run Tryd.prog w = .ok y w := by
  obtain ⟨z, hz, hzs⟩ := info_of cSts
  simp [Instr.index, run_underlying uTwo, asIntOf, sizeOf, typeInfo, hz, hzs, part, aggSts, Sem.run_bind]
def DeepOk (l : List St) : Prop := ∀ w s, StsOk w s l → St.szL l ≤ 1099511627776 → Rt Tryd.prog 30 #[s] w fun v w' => v = .tuple #[.int .i64 (St.blocksL l), .int .i64 (St.exprDL l)] ∧ Mod none_ w w'
structure DSt (w : World) (l : List St) (A : Option Addr) (c : Nat) (n : Nat) (bl ex : Nat) (ρ : Sl) (w' : World) : Prop where
  h14 : ρ 14 = .int .i64 n
  h13 : ρ 13 = .int .i64 l.length
  h12 : ρ 12 = .slice A l.length c
  h0 : ρ 0 = .slice A l.length c
  h2 : ρ 2 = .int .i64 bl
  h3 : ρ 3 = .int .i64 ex
  m : Mod none_ w w'
theorem deep_row {l : List St} (ih : ∀ a ∈ l, DeepOk a.body ∧ DeepOk a.els) : DeepOk l := by
  intro w s hok hsz
  obtain ⟨A, c, hs, _⟩ := reads_cap hok.1
  subst hs
  have hlen := St.len_sz l
  refine tree_deep_calls ?_
  unfold tree_deep_F
  simp only [fo25_0, fo25_1, fo25_2, fo25_3, fo25_4, fo25_5, fo25_6, fo25_7, fo29_0, fo29_1, fo29_2, fo29_3, fo34_0, fo34_1, fo43_0, fo43_1, ld2, ld3, ld5, ld9, ld22, ld23, ld32, len9, len22, len23, len32, len91, ldK_some, cellE, blkC_c, add_pl, Nat.zero_add, List.getElem?_toArray, List.getElem?_cons_succ, List.getElem?_cons_zero]
  refine W_loop tree_deep_L0_ok (fun ρ w' => ∃ n : Nat, n ≤ l.length ∧ DSt w l A c n (St.blocksL' (l.take n)) (St.exprDL (l.take n)) ρ w') (fun ρ _ => l.length - (intOf (ρ 14)).toNat)
    ⟨0, Nat.zero_le _, rfl, rfl, rfl, rfl, rfl, rfl, Mod.refl _ _⟩ ?_
  rintro ρ w1 ⟨n, hn, h⟩
  rw [tree_deep_L0_eq]
  unfold tree_deep_L0_F
  rw [h.h14, h.h13, h.h12, BK_lss]
  by_cases hlt : n < l.length
  · rw [show decide ((n : Int) < (l.length : Int)) = true by rw [decide_eq_true_eq]; omega]
    refine condT ?_
    have hx : l[n]? = some l[n] := List.getElem?_eq_getElem hlt
    have hmem : l[n] ∈ l := List.getElem_mem hlt
    have hsn := St.szL_at hx
    have hok1 := hok.mod h.m
    have he := hok1.at hx
    have hse := St.sz_eq l[n]
    have tb := St.blocksL'_sz (l.take n)
    have te := St.exprDL_sz (l.take n)
    refine ixSt hok1 hx fun y => ?_
    refine lcl_k (cs := l[n].cells.toArray) zSt _ iSt rfl (st_one he) fun w2 hb2 hm2 _ => ?_
    obtain ⟨A1, c1, hs1, _⟩ := reads_cap he.exprs.1
    obtain ⟨A2, c2, hs2, _⟩ := reads_cap he.body.1
    obtain ⟨A3, c3, hs3, _⟩ := reads_cap he.els.1
    simp only [fo25_0, fo25_1, fo25_2, fo25_3, fo25_4, fo25_5, fo25_6, fo25_7, fo29_0, fo29_1, fo29_2, fo29_3, fo34_0, fo34_1, fo43_0, fo43_1, ld2, ld3, ld5, ld9, ld22, ld23, ld32, len9, len22, len23, len32, len91, ldK_some, cellE, blkC_c, add_pl, Nat.zero_add, List.getElem?_toArray, List.getElem?_cons_succ, List.getElem?_cons_zero, Ex.c0, Ex.c1, Ex.c2, Ex.c3, Ex.c4, Ex.c5, St.c0, St.c1, St.c2, St.c3, St.c4, St.c5, St.c6, St.c7, St.c8, St.c9, hb2, hs1]
    have hm12 := h.m.trans hm2
    -- the expressions
    refine W_loop tree_deep_L2_ok (fun ρ w' => ∃ j : Nat, j ≤ l[n].exprs.length ∧ DSt w l A c n (St.blocksL' (l.take n)) (max (St.exprDL (l.take n)) (Ex.deepL (l[n].exprs.take j))) ρ w' ∧ ρ 21 = .int .i64 j ∧ ρ 20 = .int .i64 l[n].exprs.length ∧ ρ 19 = .slice A1 l[n].exprs.length c1 ∧ ρ 5 = .pointer (some ⟨w1.heap.size, 0, none⟩) ∧ Mod none_ w2 w') (fun ρ _ => l[n].exprs.length - (intOf (ρ 21)).toNat)
      ⟨0, Nat.zero_le _, ⟨h.h14, h.h13, h.h12, h.h0, h.h2, h.h3.trans (by simp [Ex.deepL]), hm12⟩, rfl, rfl, rfl, rfl, Mod.refl _ _⟩ ?_
    rintro ρ2 w3 ⟨j, hj, d, g21, g20, g19, g5, hm3⟩
    rw [tree_deep_L2_eq]
    unfold tree_deep_L2_F
    rw [g21, g20, g19, BK_lss]
    have hszE : Ex.szL l[n].exprs ≤ 1099511627776 := by omega
    have hlenE := Ex.len_sz l[n].exprs
    by_cases hltj : j < l[n].exprs.length
    · rw [show decide ((j : Int) < (l[n].exprs.length : Int)) = true by rw [decide_eq_true_eq]; omega]
      refine condT ?_
      have hxj : l[n].exprs[j]? = some l[n].exprs[j] := List.getElem?_eq_getElem hltj
      have hokE : ExsOk w3 (.slice A1 l[n].exprs.length c1) l[n].exprs := by rw [← hs1]; exact (he.exprs.mod hm2).mod hm3
      refine ixEx hokE hxj fun y2 => ?_
      refine lcl_k (cs := l[n].exprs[j].cells.toArray) zEx _ iEx rfl (ex_one (hokE.at hxj)) fun w4 hb4 hm4 _ => ?_
      refine ldB (cs := l[n].exprs[j].cells.toArray) Tryd.underlying29 rfl iEx hb4 ?_
      have hsj := Ex.szL_at hxj
      refine CK_st Tryd.func54 rfl rfl (deepExpr_ok _ w4 ((hokE.at hxj).mod hm4) (by omega)) ?_
      rintro _ w5 ⟨rfl, hm5⟩
      rw [d.h3, max_i, BK_add, wrap_i (n := (j : Int) + 1) (by omega) (by omega)]
      have hm35 := hm4.trans hm5
      refine ⟨⟨j + 1, hltj, ⟨d.h14, d.h13, d.h12, d.h0, d.h2, ?_, d.m.trans hm35⟩, rfl, g20, g19, g5, hm3.trans hm35⟩, ?_⟩
      · show Value.int .i64 _ = _
        rw [List.take_add_one, hxj, Option.toList_some, Ex.deepL_snoc]
        congr 1
        split <;> omega
      · show l[n].exprs.length - (intOf (Value.int .i64 ((j : Int) + 1))).toNat < _
        simp only [intOf]; omega
    · obtain rfl : j = l[n].exprs.length := by omega
      rw [show decide (((l[n].exprs.length : Nat) : Int) < (l[n].exprs.length : Int)) = false by simp]
      refine condF ?_
      rw [List.take_length] at d
      rw [sq_x, bk_x, sq_n, tree_deep_R3_eq]
      unfold tree_deep_R3_F
      have g5' : ∀ v, (up ρ2 22 v) 5 = .pointer (some ⟨w1.heap.size, 0, none⟩) := fun v => g5
      rw [g5']
      have hb3 := hm3.blk hb2 id
      simp only [fo25_0, fo25_1, fo25_2, fo25_3, fo25_4, fo25_5, fo25_6, fo25_7, fo29_0, fo29_1, fo29_2, fo29_3, fo34_0, fo34_1, fo43_0, fo43_1, ld2, ld3, ld5, ld9, ld22, ld23, ld32, len9, len22, len23, len32, len91, ldK_some, cellE, blkC_c, add_pl, Nat.zero_add, List.getElem?_toArray, List.getElem?_cons_succ, List.getElem?_cons_zero, Ex.c0, Ex.c1, Ex.c2, Ex.c3, Ex.c4, Ex.c5, St.c0, St.c1, St.c2, St.c3, St.c4, St.c5, St.c6, St.c7, St.c8, St.c9, hb3, hs2, hs3]
      rw [build_ok (bTwo _ _ _ _ _ _)]
      -- the two bodies
      have dE := Ex.deepL_sz l[n].exprs
      have hbody : StsOk w3 (.slice A2 l[n].body.length c2) l[n].body := by rw [← hs2]; exact (he.body.mod hm2).mod hm3
      have hels : StsOk w3 (.slice A3 l[n].els.length c3) l[n].els := by rw [← hs3]; exact (he.els.mod hm2).mod hm3
      have bB := St.blocksL_sz l[n].body
      have bL := St.blocksL_sz l[n].els
      have xB := St.exprDL_sz l[n].body
      have xL := St.exprDL_sz l[n].els
      have b1 := St.blocks_eq l[n]
      have x1 := St.exprD_eq l[n]
      refine W_loop tree_deep_L6_ok (fun ρ w' => ∃ (k : Nat), k ≤ 2 ∧ DSt w l A c n (max (St.blocksL' (l.take n)) (if k = 0 then 0 else if k = 1 then St.blocksL l[n].body else l[n].blocks)) (max (max (St.exprDL (l.take n)) (Ex.deepL l[n].exprs)) (if k = 0 then 0 else if k = 1 then St.exprDL l[n].body else max (St.exprDL l[n].body) (St.exprDL l[n].els))) ρ w' ∧ ρ 35 = .int .i64 k ∧ ρ 34 = .agg #[.slice A2 l[n].body.length c2, .slice A3 l[n].els.length c3] ∧ Mod none_ w3 w') (fun ρ _ => 2 - (intOf (ρ 35)).toNat)
        ⟨0, by omega, ⟨d.h14, d.h13, d.h12, d.h0, d.h2.trans (by simp), d.h3.trans (by simp), d.m⟩, rfl, rfl, Mod.refl _ _⟩ ?_
      rintro ρ3 w4 ⟨k, hk, q, q35, q34, hm4⟩
      rw [tree_deep_L6_eq]
      unfold tree_deep_L6_F
      rw [q35, q34, q.h2, q.h3, BK_lss]
      match k, hk with
      | 0, _ =>
        refine condT ?_
        refine VK_of (two_0 _ _ _) ?_
        refine CK_st Tryd.func30 rfl rfl ((ih _ hmem).1 w4 _ (hbody.mod hm4) (by omega)) ?_
        rintro _ w5 ⟨rfl, hm5⟩
        rw [extract_ok (v := .int .i64 (St.blocksL l[n].body)) rfl, extract_ok (v := .int .i64 (St.exprDL l[n].body)) rfl, max_i, max_i, BK_add]
        refine ⟨⟨1, by omega, ⟨q.h14, q.h13, q.h12, q.h0, ?_, ?_, q.m.trans hm5⟩, rfl, q34, hm4.trans hm5⟩, ?_⟩
        · show Value.int .i64 _ = _
          congr 1
          simp only [if_true, Nat.one_ne_zero, if_false]
          split <;> omega
        · show Value.int .i64 _ = _
          congr 1
          simp only [if_true, Nat.one_ne_zero, if_false]
          split <;> omega
        · show 2 - (intOf (Value.int .i64 (IntKind.i64.wrap (0 + 1)))).toNat < _
          decide
      | 1, _ =>
        refine condT ?_
        refine VK_of (two_1 _ _ _) ?_
        refine CK_st Tryd.func30 rfl rfl ((ih _ hmem).2 w4 _ (hels.mod hm4) (by omega)) ?_
        rintro _ w5 ⟨rfl, hm5⟩
        rw [extract_ok (v := .int .i64 (St.blocksL l[n].els)) rfl, extract_ok (v := .int .i64 (St.exprDL l[n].els)) rfl, max_i, max_i, BK_add]
        refine ⟨⟨2, by omega, ⟨q.h14, q.h13, q.h12, q.h0, ?_, ?_, q.m.trans hm5⟩, rfl, q34, hm4.trans hm5⟩, ?_⟩
        · show Value.int .i64 _ = _
          congr 1
          simp only [if_true, Nat.one_ne_zero, if_false, show (2 : Nat) ≠ 0 by decide, show (2 : Nat) ≠ 1 by decide]
          rw [b1]
          split <;> omega
        · show Value.int .i64 _ = _
          congr 1
          simp only [if_true, Nat.one_ne_zero, if_false, show (2 : Nat) ≠ 0 by decide, show (2 : Nat) ≠ 1 by decide]
          split <;> omega
        · show 2 - (intOf (Value.int .i64 (IntKind.i64.wrap (1 + 1)))).toNat < _
          decide
      | 2, _ =>
        refine condF ?_
        rw [sq_x, bk_x, bk_n, sq_n, tree_deep_R4_eq]
        unfold tree_deep_R4_F
        have q14 : ∀ v, (up ρ3 36 v) 14 = .int .i64 n := fun v => q.h14
        rw [q14, BK_add, wrap_i (n := (n : Int) + 1) (by omega) (by omega)]
        refine ⟨⟨n + 1, hlt, ⟨rfl, q.h13, q.h12, q.h0, ?_, ?_, q.m⟩⟩, ?_⟩
        · rw [List.take_add_one, hx, Option.toList_some, St.blocksL'_snoc]
          exact q.h2
        · rw [List.take_add_one, hx, Option.toList_some, St.exprDL_snoc, x1]
          refine q.h3.trans ?_
          congr 1
          simp only [show (2 : Nat) ≠ 0 by decide, show (2 : Nat) ≠ 1 by decide, if_false]
          omega
        · show l.length - (intOf (Value.int .i64 ((n : Int) + 1))).toNat < _
          simp only [intOf]; omega
  · obtain rfl : n = l.length := by omega
    rw [show decide (((l.length : Nat) : Int) < (l.length : Int)) = false by simp]
    refine condF ?_
    rw [List.take_length] at h
    rw [sq_x, bk_x, sq_n, tree_deep_R1_eq]
    unfold tree_deep_R1_F
    have g0 : ∀ v, (up ρ 15 v) 0 = .slice A l.length c := fun v => h.h0
    have g2 : ∀ v, (up ρ 15 v) 2 = .int .i64 (St.blocksL' l) := fun v => h.h2
    rw [g0, g2]
    simp only [fo25_0, fo25_1, fo25_2, fo25_3, fo25_4, fo25_5, fo25_6, fo25_7, fo29_0, fo29_1, fo29_2, fo29_3, fo34_0, fo34_1, fo43_0, fo43_1, ld2, ld3, ld5, ld9, ld22, ld23, ld32, len9, len22, len23, len32, len91, ldK_some, cellE, blkC_c, add_pl, Nat.zero_add, List.getElem?_toArray, List.getElem?_cons_succ, List.getElem?_cons_zero, BK_gtr]
    have tb := St.blocksL'_sz l
    by_cases h0 : l.length = 0
    · rw [show decide ((0 : Int) < (l.length : Int)) = false by rw [decide_eq_false_iff_not]; omega]
      refine condF ?_
      rw [tree_deep_R5_eq]
      unfold tree_deep_R5_F
      refine ⟨?_, h.m⟩
      show Value.tuple #[ρ 2, ρ 3] = _
      rw [h.h2, h.h3, St.blocksL, if_pos h0]
      obtain rfl : l = [] := List.length_eq_zero_iff.1 h0
      rfl
    · rw [show decide ((0 : Int) < (l.length : Int)) = true by rw [decide_eq_true_eq]; omega]
      refine condT ?_
      rw [BK_add, wrap_i (n := (St.blocksL' l : Int) + 1) (by omega) (by omega), tree_deep_R5_eq]
      unfold tree_deep_R5_F
      refine ⟨?_, h.m⟩
      show Value.tuple #[.int .i64 ((St.blocksL' l : Int) + 1), ρ 3] = _
      rw [h.h3, St.blocksL, if_neg h0]
      rfl
theorem deep_all : ∀ e : St, DeepOk e.body ∧ DeepOk e.els := by
  intro e
  induction e using St.ind with
  | h e ih1 ih2 => exact ⟨deep_row ih1, deep_row ih2⟩
theorem deep_ok (l : List St) : DeepOk l := deep_row fun a _ => deep_all a
end Go.Proofs.YtpkfbaagpjdifaaDoor.Tr
set_option linter.unusedVariables false
set_option linter.unusedSimpArgs false
set_option maxRecDepth 4000
namespace Go.Proofs.YtpkfbaagpjdifaaDoor.Tr
open Go Go.X Go.RowKit Go.Proofs.YtpkfbaagpjdifaaDoor.XF Go.Proofs.YtpkfbaagpjdifaaDoor.XK
structure Pr where
  ds : Value
  decls : List De
  bs : Value
  body : List St
def Pr.cells (p : Pr) : List Value := [p.ds, p.bs]
theorem Pr.c0 (p : Pr) : p.cells[0]? = some p.ds := rfl
theorem Pr.c1 (p : Pr) : p.cells[1]? = some p.bs := rfl
structure Pr.Ok (w : World) (p : Pr) : Prop where
  d : DesOk w p.ds p.decls
  b : StsOk w p.bs p.body
theorem Pr.Ok.mod {w w' : World} {p : Pr} (h : p.Ok w) (hm : Mod none_ w w') : p.Ok w' := ⟨h.d.mod hm, h.b.mod hm⟩
def De.may (d : De) : Bool := nameP d.name && decide (0 ≤ d.places) && decide (d.places ≤ 1000)
def Pr.may (p : Pr) : Bool := decide (St.deepAt p.body 1 ≤ 32) && p.decls.all De.may && St.mayL p.body
def Pr.fits (p : Pr) : Prop := p.decls.length ≤ 1099511627776 ∧ St.szL p.body ≤ 1099511627776
theorem iPr : (Tryd.prog.info? 34).map (·.size) = some 2 := by kernel_rfl
theorem Deep_ok {w : World} {p : Pr} (h : p.Ok w) (hf : p.fits) : Rt Tryd.prog 16 #[.agg p.cells.toArray] w fun v w' => v = .int .i64 (St.deepAt p.body 1) ∧ Mod none_ w w' := by
  obtain ⟨A, c, hs, _⟩ := reads_cap h.b.1
  refine tree_Deep_calls ?_
  unfold tree_Deep_F
  refine box_k (cs := p.cells.toArray) rfl fun w1 hb1 hm1 _ => ?_
  simp only [fo25_0, fo25_1, fo25_2, fo25_3, fo25_4, fo25_5, fo25_6, fo25_7, fo29_0, fo29_1, fo29_2, fo29_3, fo34_0, fo34_1, fo43_0, fo43_1, ld2, ld3, ld5, ld9, ld22, ld23, ld32, len9, len22, len23, len32, len91, ldK_some, cellE, blkC_c, add_pl, Nat.zero_add, List.getElem?_toArray, List.getElem?_cons_succ, List.getElem?_cons_zero, hb1, Pr.c1]
  refine CK_st Tryd.func30 rfl rfl (deep_ok _ w1 _ (h.b.mod hm1) hf.2) ?_
  rintro _ w2 ⟨rfl, hm2⟩
  rw [extract_ok (v := .int .i64 (St.blocksL p.body)) rfl, extract_ok (v := .int .i64 (St.exprDL p.body)) rfl, max_i]
  refine ⟨?_, hm1.trans hm2⟩
  rw [St.deepAt_one]
  congr 1
  split <;> omega
theorem odd_call {l : List De} {w : World} (hg : Gl w) {s : Value} (h : DesOk w s l) :
    ∀ a ∈ l, ∀ w', Mod none_ w w' → ∀ K : Value → World → Prop, (∀ w'', Mod none_ w' w'' → K (.bool (!a.may)) w'') → CK Tryd.prog (.func (.func 14) #[] #[]) [.agg a.cells.toArray] w' K := by
  intro a ha w' hm K hk
  refine CK_st (R := fun v w'' => v = .bool (!a.may) ∧ Mod none_ w' w'') Tryd.func14 rfl rfl ?_ (fun v w'' hv => by rw [hv.1]; exact hk w'' hv.2)
  refine tree_May_1_calls ?_
  unfold tree_May_1_F
  refine box_k (cs := a.cells.toArray) rfl fun w1 hb1 hm1 _ => ?_
  simp only [fo25_0, fo25_1, fo25_2, fo25_3, fo25_4, fo25_5, fo25_6, fo25_7, fo29_0, fo29_1, fo29_2, fo29_3, fo34_0, fo34_1, fo43_0, fo43_1, ld2, ld3, ld5, ld9, ld22, ld23, ld32, len9, len22, len23, len32, len91, ldK_some, cellE, blkC_c, add_pl, Nat.zero_add, List.getElem?_toArray, List.getElem?_cons_succ, List.getElem?_cons_zero, hb1, De.c0]
  refine CK_st Tryd.func15 rfl rfl (Name_ok ((hg.mod hm).mod hm1) a.name (h.2 a ha).1) ?_
  rintro _ w2 ⟨rfl, hm2⟩
  have hb2 := hm2.blk hb1 id
  rw [not_ok]
  have f1 : FAt Tryd.prog w2 43 1 ⟨w'.heap.size, 0, none⟩ 3 (.int .i64 a.places) := FAt.mk' (off := 1) (by kernel_rfl) uI rfl (by rw [add_pl, cell_blk hb2]; rfl)
  refine fO f1 (fun K => BK_lss _ _ _ _ _ _) ?_
  refine fO f1 (fun K => BK_gtr _ _ _ _ _ _) ?_
  refine ⟨?_, hm1.trans hm2⟩
  congr 1
  unfold De.may
  have e1 : decide (a.places < 0) = !decide (0 ≤ a.places) := by by_cases q : 0 ≤ a.places <;> simp [q] <;> omega
  have e2 : decide ((1000 : Int) < a.places) = !decide (a.places ≤ 1000) := by by_cases q : a.places ≤ 1000 <;> simp [q] <;> omega
  rw [e1, e2]
  cases nameP a.name <;> cases decide (0 ≤ a.places) <;> cases decide (a.places ≤ 1000) <;> rfl
theorem any_not_may_de (l : List De) : (!l.any fun a => !a.may) = l.all De.may := by
  induction l with
  | nil => rfl
  | cons a r ih => simp only [List.any_cons, List.all_cons, Bool.not_or, Bool.not_not, ih]
theorem May_ok {w : World} (hg : Gl w) {p : Pr} (h : p.Ok w) (hf : p.fits) : Rt Tryd.prog 7 #[.agg p.cells.toArray] w fun v w' => v = .bool p.may ∧ Mod none_ w w' := by
  refine tree_May_calls ?_
  unfold tree_May_F
  refine box_k (cs := p.cells.toArray) rfl fun w1 hb1 hm1 _ => ?_
  refine ldB (cs := p.cells.toArray) Tryd.underlying34 rfl iPr hb1 ?_
  refine CK_st Tryd.func16 rfl rfl (Deep_ok (h.mod hm1) hf) ?_
  rintro _ w2 ⟨rfl, hm2⟩
  have hb2 := hm2.blk hb1 id
  have h2 := (h.mod hm1).mod hm2
  have hm12 := hm1.trans hm2
  rw [BK_leq, show decide ((St.deepAt p.body 1 : Int) ≤ 32) = decide (St.deepAt p.body 1 ≤ 32) by rw [decide_eq_decide]; omega]
  unfold Pr.may
  cases hd : decide (St.deepAt p.body 1 ≤ 32) with
  | false =>
    simp only [CondK_bool, MG_u, NG_u, VG_u, UG_u, PG_u, BG_u, CG_u, IG_u, MG_b, NG_b, VG_b, UG_b, PG_b, BG_b, CG_b, IG_b, PK_bool, NK_ptr, not_ok, reduceCtorEq, if_true, if_false, Bool.true_eq_false, Bool.false_eq_true, Bool.not_true, Bool.not_false]
    exact ⟨rfl, hm12⟩
  | true =>
    simp only [CondK_bool, MG_u, NG_u, VG_u, UG_u, PG_u, BG_u, CG_u, IG_u, MG_b, NG_b, VG_b, UG_b, PG_b, BG_b, CG_b, IG_b, PK_bool, NK_ptr, not_ok, reduceCtorEq, if_true, if_false, Bool.true_eq_false, Bool.false_eq_true, Bool.not_true, Bool.not_false, fo25_0, fo25_1, fo25_2, fo25_3, fo25_4, fo25_5, fo25_6, fo25_7, fo29_0, fo29_1, fo29_2, fo29_3, fo34_0, fo34_1, fo43_0, fo43_1, ld2, ld3, ld5, ld9, ld22, ld23, ld32, len9, len22, len23, len32, len91, ldK_some, cellE, blkC_c, add_pl, Nat.zero_add, List.getElem?_toArray, List.getElem?_cons_succ, List.getElem?_cons_zero, hb2, Pr.c0]
    refine CK_st Tryd.func17 rfl rfl (ContainsFuncDe_ok h2.d hf.1 (odd_call (hg.mod hm12) h2.d)) ?_
    rintro _ w3 ⟨rfl, hm3⟩
    have hb3 := hm3.blk hb2 id
    rw [not_ok, any_not_may_de]
    cases ha : p.decls.all De.may with
    | false =>
      simp only [CondK_bool, MG_u, NG_u, VG_u, UG_u, PG_u, BG_u, CG_u, IG_u, MG_b, NG_b, VG_b, UG_b, PG_b, BG_b, CG_b, IG_b, PK_bool, NK_ptr, not_ok, reduceCtorEq, if_true, if_false, Bool.true_eq_false, Bool.false_eq_true, Bool.not_true, Bool.not_false]
      exact ⟨rfl, hm12.trans hm3⟩
    | true =>
      simp only [CondK_bool, MG_u, NG_u, VG_u, UG_u, PG_u, BG_u, CG_u, IG_u, MG_b, NG_b, VG_b, UG_b, PG_b, BG_b, CG_b, IG_b, PK_bool, NK_ptr, not_ok, reduceCtorEq, if_true, if_false, Bool.true_eq_false, Bool.false_eq_true, Bool.not_true, Bool.not_false, fo25_0, fo25_1, fo25_2, fo25_3, fo25_4, fo25_5, fo25_6, fo25_7, fo29_0, fo29_1, fo29_2, fo29_3, fo34_0, fo34_1, fo43_0, fo43_1, ld2, ld3, ld5, ld9, ld22, ld23, ld32, len9, len22, len23, len32, len91, ldK_some, cellE, blkC_c, add_pl, Nat.zero_add, List.getElem?_toArray, List.getElem?_cons_succ, List.getElem?_cons_zero, hb3, Pr.c1]
      refine CK_st Tryd.func18 rfl rfl (mayStmts_ok ((hg.mod hm12).mod hm3) (h2.mod hm3).b hf.2) ?_
      rintro _ w4 ⟨rfl, hm4⟩
      refine ⟨?_, (hm12.trans hm3).trans hm4⟩
      first | rfl | trivial
end Go.Proofs.YtpkfbaagpjdifaaDoor.Tr
set_option linter.unusedVariables false
set_option linter.unusedSimpArgs false
set_option maxRecDepth 4000
namespace Go.Proofs.YtpkfbaagpjdifaaDoor.Tr
open Go Go.X Go.RowKit Go.Proofs.YtpkfbaagpjdifaaDoor.XF Go.Proofs.YtpkfbaagpjdifaaDoor.XK
end Go.Proofs.YtpkfbaagpjdifaaDoor.Tr
set_option linter.unusedVariables false
set_option linter.unusedSimpArgs false
set_option maxRecDepth 4000
namespace Go.Proofs.YtpkfbaagpjdifaaDoor.Tr
open Go Go.X Go.RowKit Go.Proofs.YtpkfbaagpjdifaaDoor.XF Go.Proofs.YtpkfbaagpjdifaaDoor.XK
end Go.Proofs.YtpkfbaagpjdifaaDoor.Tr
set_option linter.unusedVariables false
set_option linter.unusedSimpArgs false
set_option maxRecDepth 4000
namespace Go.Proofs.YtpkfbaagpjdifaaDoor.Tr
open Go Go.X Go.RowKit Go.Proofs.YtpkfbaagpjdifaaDoor.XF Go.Proofs.YtpkfbaagpjdifaaDoor.XK
theorem QixSt {C : World → Prop} {s : Value} {l : List St} {i : Nat} {e : St} {K : Value → Prop} {w0 : World} (hw0 : C w0) (h : ∀ w, C w → StsOk w s l) (hi : l[i]? = some e) (hk : ∀ a, (∀ w, C w → ∀ j u, e.cells[j]? = some u → w.cell? (a.add j) = some u) → K (.pointer (some a))) :
    QK Tryd.prog C (do pure (Next.value (← Instr.indexAt 23 s (.int .i64 (i : Int))))) K := by
  have hlt : i < l.length := (List.getElem?_eq_some_iff.1 hi).1
  obtain ⟨hl, A, c, hs, hc, hr⟩ := (h w0 hw0).1
  obtain ⟨a, ha | q⟩ := rd_cell (size := 10) (hs ▸ (h w0 hw0).1) hlt
  · subst ha
    subst hs
    refine QV_of (fun w _ => run_ixa uSts cSt (by omega) (by omega) w) (hk _ fun w hw j u hu => ?_)
    obtain ⟨_, A', c', hs', _, hr'⟩ := (h w hw).1
    cases hs'
    have hj : j < 9 + 1 := (List.getElem?_eq_some_iff.1 hu).1
    obtain ⟨a', ha', hcell⟩ := hr' (i * 10 + j) u (by rw [fl_get (k := 9 + 1) St.cells_len hi hj]; exact hu)
    cases ha'
    rw [add_add, show ((i : Int).toNat) = i by omega]
    exact hcell
  · omega
theorem Qmax4 {P : Program} {C : World → Prop} {K : Value → Prop} {ts : Array TypeId} {ty : TypeId} {cs : Array Bool} {a b c d : Nat} (hk : K (.int .i64 (max (max (max a b) c) d : Nat))) : QK P C (builtin .max ts ty cs [Value.int .i64 a, Value.int .i64 b, Value.int .i64 c, Value.int .i64 d].toArray) K := by
  refine ⟨_, fun w _ => ?_, hk⟩
  have m2 : ∀ (x y : Nat) (w : World), (Builtin.max2 (Value.int .i64 x) (Value.int .i64 y)).run P w = .ok (.int .i64 (max x y : Nat)) w := by
    intro x y w
    have h1 : (if (y : Int) > x then (y : Int) else x) = (max x y : Nat) := by split <;> omega
    simp only [Builtin.max2, Sem.run_pure, h1]
  have e : (Builtin.max_ ts ty #[Value.int .i64 a, Value.int .i64 b, Value.int .i64 c, Value.int .i64 d]).run P w = .ok (.int .i64 (max (max (max a b) c) d : Nat)) w := by
    simp [Builtin.max_, m2]
  have : (builtin .max ts ty cs [Value.int .i64 a, Value.int .i64 b, Value.int .i64 c, Value.int .i64 d].toArray).run P w = .ok (.value (.int .i64 (max (max (max a b) c) d : Nat))) w := by
    simp only [builtin]
    rw [Sem.run_bind, e]
    rfl
  rw [this]
  exact ⟨rfl, rfl⟩
def DeepR (l : List St) : Prop := ∀ w s (at_ : Nat), StsOk w s l → St.szL l ≤ 1099511627776 → at_ + St.szL l ≤ 1099511627800 → Rt Tryd.prog 72 #[s, .int .i64 at_] w fun v w' => v = .int .i64 (St.deepAt l at_) ∧ Mod none_ w w'
theorem deepR_row {l : List St} (ih : ∀ a ∈ l, DeepR a.body ∧ DeepR a.els) : DeepR l := by
  intro w s at_ hok hsz' hsz
  obtain ⟨A, c, hs, _⟩ := reads_cap hok.1
  subst hs
  have hlen := St.len_sz l
  refine dispatcherref02_DeepStmts_calls ?_
  unfold dispatcherref02_DeepStmts_F
  refine W_loop dispatcherref02_DeepStmts_L0_ok (fun ρ w' => ∃ n : Nat, n ≤ l.length ∧ ρ 6 = .int .i64 n ∧ ρ 0 = .slice A l.length c ∧ ρ 1 = .int .i64 at_ ∧ ρ 5 = .int .i64 (St.deepAt (l.take n) at_) ∧ Mod none_ w w') (fun ρ _ => l.length - (intOf (ρ 6)).toNat)
    ⟨0, Nat.zero_le _, rfl, rfl, rfl, rfl, Mod.refl _ _⟩ ?_
  rintro ρ w1 ⟨n, hn, h6, h0, h1, h5, hm⟩
  rw [dispatcherref02_DeepStmts_L0_eq]
  unfold dispatcherref02_DeepStmts_L0_F
  simp only [h6, h0, fo25_0, fo25_1, fo25_2, fo25_3, fo25_4, fo25_5, fo25_6, fo25_7, fo29_0, fo29_1, fo29_2, fo29_3, fo34_0, fo34_1, fo43_0, fo43_1, ld2, ld3, ld5, ld9, ld22, ld23, ld32, len9, len22, len23, len32, len91, ldK_some, cellE, blkC_c, add_pl, Nat.zero_add, List.getElem?_toArray, List.getElem?_cons_succ, List.getElem?_cons_zero, BK_lss]
  by_cases hlt : n < l.length
  · rw [show decide ((n : Int) < (l.length : Int)) = true by rw [decide_eq_true_eq]; omega]
    refine condT ?_
    have hx : l[n]? = some l[n] := List.getElem?_eq_getElem hlt
    have hmem : l[n] ∈ l := List.getElem_mem hlt
    have hsn := St.szL_at hx
    have hok1 := hok.mod hm
    have hse := St.sz_eq l[n]
    have hokC : ∀ w', Mod none_ w1 w' → StsOk w' (.slice A l.length c) l := fun w' hw => hok1.mod hw
    refine dispatcherref02_DeepStmts_R2_quiet (D := []) (fun w' => Mod none_ w1 w') ((Mod.refl _ w1).drawn _) ?_
    unfold dispatcherref02_DeepStmts_R2_Q
    have e0 : ∀ a b d f : Value, (up (up (up (up ρ 8 a) 9 b) 10 d) 11 f) 0 = .slice A l.length c := fun _ _ _ _ => h0
    have e1 : ∀ a b d f : Value, (up (up (up (up ρ 8 a) 9 b) 10 d) 11 f) 1 = .int .i64 at_ := fun _ _ _ _ => h1
    have e5 : ∀ a b d f : Value, (up (up (up (up ρ 8 a) 9 b) 10 d) 11 f) 5 = .int .i64 (St.deepAt (l.take n) at_) := fun _ _ _ _ => h5
    have e6 : ∀ a b d f : Value, (up (up (up (up ρ 8 a) 9 b) 10 d) 11 f) 6 = .int .i64 n := fun _ _ _ _ => h6
    simp only [e0, e1, e5, e6]
    have tB := St.deepAt_le l[n].body (at_ + 1)
    have tL := St.deepAt_le l[n].els (at_ + 1)
    have tN := St.deepAt_le (l.take n) at_
    refine QixSt (w0 := w1) (Mod.refl _ w1) hokC hx fun a ha => ?_
    refine Qfo (off := 6) (by kernel_rfl) (Qld uSts rfl (v := l[n].bs) (fun w' hw => ha w' hw 6 _ rfl) (Qadd ?_))
    rw [wrap_i (n := (at_ : Int) + 1) (by omega) (by omega)]
    refine QC_rt Tryd.func72 rfl rfl (v := .int .i64 (St.deepAt l[n].body (at_ + 1))) (fun w' hw => (ih _ hmem).1 w' _ (at_ + 1) ((hokC w' hw).at hx).body (by omega) (by omega)) (fun w' u w'' hw hu => ⟨hu.1, hw.trans hu.2⟩) ?_
    refine QixSt (w0 := w1) (Mod.refl _ w1) hokC hx fun a2 ha2 => ?_
    refine Qfo (off := 7) (by kernel_rfl) (Qld uSts rfl (v := l[n].ls) (fun w' hw => ha2 w' hw 7 _ rfl) (Qadd ?_))
    rw [wrap_i (n := (at_ : Int) + 1) (by omega) (by omega)]
    refine QC_rt Tryd.func72 rfl rfl (v := .int .i64 (St.deepAt l[n].els (at_ + 1))) (fun w' hw => (ih _ hmem).2 w' _ (at_ + 1) ((hokC w' hw).at hx).els (by omega) (by omega)) (fun w' u w'' hw hu => ⟨hu.1, hw.trans hu.2⟩) (Qmax4 ?_)
    intro w2 hm2
    have go : ∀ (ρ' : Sl), ρ' 0 = .slice A l.length c → ρ' 1 = .int .i64 at_ → ρ' 6 = .int .i64 n → ρ' 5 = .int .i64 (max (max (max (St.deepAt (l.take n) at_) at_) (St.deepAt l[n].body (at_ + 1))) (St.deepAt l[n].els (at_ + 1)) : Nat) →
        sx fn_ Tryd.prog 55 dispatcherref02_DeepStmts_R3 (blkK 1 (seqK (sx fn_ Tryd.prog 55 dispatcherref02_DeepStmts_R4 (seqK (fun ρ' w' => (∃ n, n ≤ l.length ∧ ρ' 6 = Value.int .i64 n ∧ ρ' 0 = Value.slice A l.length c ∧ ρ' 1 = Value.int .i64 at_ ∧ ρ' 5 = Value.int .i64 (St.deepAt (l.take n) at_) ∧ Mod none_ w w') ∧ l.length - (intOf (ρ' 6)).toNat < l.length - (intOf (Value.int .i64 n)).toNat) (blkK 0 (seqK (sx fn_ Tryd.prog 55 dispatcherref02_DeepStmts_R1 (retK Tryd.prog [ResultVar.tmp 4] fun v w' => v = Value.int .i64 (St.deepAt l at_) ∧ Mod none_ w w')) (retK Tryd.prog [ResultVar.tmp 4] fun v w' => v = Value.int .i64 (St.deepAt l at_) ∧ Mod none_ w w'))))) (seqK (fun ρ' w' => (∃ n, n ≤ l.length ∧ ρ' 6 = Value.int .i64 n ∧ ρ' 0 = Value.slice A l.length c ∧ ρ' 1 = Value.int .i64 at_ ∧ ρ' 5 = Value.int .i64 (St.deepAt (l.take n) at_) ∧ Mod none_ w w') ∧ l.length - (intOf (ρ' 6)).toNat < l.length - (intOf (Value.int .i64 n)).toNat) (blkK 0 (seqK (sx fn_ Tryd.prog 55 dispatcherref02_DeepStmts_R1 (retK Tryd.prog [ResultVar.tmp 4] fun v w' => v = Value.int .i64 (St.deepAt l at_) ∧ Mod none_ w w')) (retK Tryd.prog [ResultVar.tmp 4] fun v w' => v = Value.int .i64 (St.deepAt l at_) ∧ Mod none_ w w')))))) ρ' w2 := by
      intro ρ' q0 q1 q6 q5
      rw [dispatcherref02_DeepStmts_R3_eq]
      unfold dispatcherref02_DeepStmts_R3_F
      refine W_loop dispatcherref02_DeepStmts_L5_ok (fun ρ w' => ∃ j : Nat, j ≤ l[n].exprs.length ∧ ρ 7 = .int .i64 j ∧ ρ 0 = .slice A l.length c ∧ ρ 1 = .int .i64 at_ ∧ ρ 6 = .int .i64 n ∧ ρ 5 = .int .i64 (max (max (max (max (St.deepAt (l.take n) at_) at_) (St.deepAt l[n].body (at_ + 1))) (St.deepAt l[n].els (at_ + 1))) (Ex.deepL (l[n].exprs.take j)) : Nat) ∧ Mod none_ w2 w') (fun ρ _ => l[n].exprs.length - (intOf (ρ 7)).toNat)
        ⟨0, Nat.zero_le _, rfl, q0, q1, q6, q5.trans (by simp [Ex.deepL]), Mod.refl _ _⟩ ?_
      rintro ρ2 w3 ⟨j, hj, g7, g0, g1, g6, g5, hm3⟩
      have hok3 := (hokC w2 hm2).mod hm3
      have he := hok3.at hx
      obtain ⟨A1, c1, hs1, _⟩ := reads_cap he.exprs.1
      have hlenE := Ex.len_sz l[n].exprs
      rw [dispatcherref02_DeepStmts_L5_eq]
      unfold dispatcherref02_DeepStmts_L5_F
      rw [g7, g0, g6, g5]
      refine ixStA hok3 hx fun a ha => ?_
      have c5 := ha 5 _ rfl
      rw [hs1] at c5
      simp only [fo25_0, fo25_1, fo25_2, fo25_3, fo25_4, fo25_5, fo25_6, fo25_7, fo29_0, fo29_1, fo29_2, fo29_3, fo34_0, fo34_1, fo43_0, fo43_1, ld2, ld3, ld5, ld9, ld22, ld23, ld32, len9, len22, len23, len32, len91, ldK_some, cellE, blkC_c, add_pl, Nat.zero_add, List.getElem?_toArray, List.getElem?_cons_succ, List.getElem?_cons_zero, c5, BK_lss]
      by_cases hltj : j < l[n].exprs.length
      · rw [show decide ((j : Int) < (l[n].exprs.length : Int)) = true by rw [decide_eq_true_eq]; omega]
        refine condT ?_
        refine ixStA hok3 hx fun a3 ha3 => ?_
        have c53 := ha3 5 _ rfl
        rw [hs1] at c53
        simp only [fo25_0, fo25_1, fo25_2, fo25_3, fo25_4, fo25_5, fo25_6, fo25_7, fo29_0, fo29_1, fo29_2, fo29_3, fo34_0, fo34_1, fo43_0, fo43_1, ld2, ld3, ld5, ld9, ld22, ld23, ld32, len9, len22, len23, len32, len91, ldK_some, cellE, blkC_c, add_pl, Nat.zero_add, List.getElem?_toArray, List.getElem?_cons_succ, List.getElem?_cons_zero, c53]
        have hxj : l[n].exprs[j]? = some l[n].exprs[j] := List.getElem?_eq_getElem hltj
        have hokE : ExsOk w3 (.slice A1 l[n].exprs.length c1) l[n].exprs := by rw [← hs1]; exact he.exprs
        refine ixEx hokE hxj fun y2 => ?_
        have hsj := Ex.szL_at hxj
        refine CK_st Tryd.func87 rfl rfl (DeepExpr_ok _ w3 (hokE.at hxj) (by omega)) ?_
        rintro _ w4 ⟨rfl, hm4⟩
        rw [max_i, BK_add, wrap_i (n := (j : Int) + 1) (by omega) (by omega)]
        refine ⟨⟨j + 1, hltj, rfl, g0, g1, g6, ?_, hm3.trans hm4⟩, ?_⟩
        · show Value.int .i64 _ = _
          rw [List.take_add_one, hxj, Option.toList_some, Ex.deepL_snoc]
          congr 1
          generalize max (max (max (St.deepAt (l.take n) at_) at_) (St.deepAt l[n].body (at_ + 1))) (St.deepAt l[n].els (at_ + 1)) = M
          split <;> omega
        · show l[n].exprs.length - (intOf (Value.int .i64 ((j : Int) + 1))).toNat < _
          simp only [intOf]; omega
      · obtain rfl : j = l[n].exprs.length := by omega
        rw [show decide (((l[n].exprs.length : Nat) : Int) < (l[n].exprs.length : Int)) = false by simp]
        refine condF ?_
        rw [sq_x, bk_x, bk_n, sq_n, dispatcherref02_DeepStmts_R4_eq]
        unfold dispatcherref02_DeepStmts_R4_F
        rw [List.take_length] at g5
        have g6' : ∀ a b d f g h i k : Value, (up (up (up (up (up (up (up (up ρ2 33 a) 34 b) 35 d) 36 f) 37 g) 38 h) 39 i) 40 k) 6 = .int .i64 n := fun _ _ _ _ _ _ _ _ => g6
        rw [g6', BK_add, wrap_i (n := (n : Int) + 1) (by omega) (by omega)]
        refine ⟨⟨n + 1, hlt, rfl, g0, g1, ?_, (hm.trans hm2).trans hm3⟩, ?_⟩
        · refine g5.trans ?_
          rw [List.take_add_one, hx, Option.toList_some, St.deepAt_snoc]
          congr 2
          omega
        · show l.length - (intOf (Value.int .i64 ((n : Int) + 1))).toNat < _
          simp only [intOf]; omega
    refine go _ ?_ ?_ ?_ ?_
    · exact h0
    · exact h1
    · exact h6
    · rfl
  · obtain rfl : n = l.length := by omega
    rw [show decide (((l.length : Nat) : Int) < (l.length : Int)) = false by simp]
    refine condF ?_
    rw [sq_x, bk_x, sq_n, dispatcherref02_DeepStmts_R1_eq]
    unfold dispatcherref02_DeepStmts_R1_F
    rw [List.take_length] at h5
    exact ⟨h5, hm⟩
theorem deepR_all : ∀ e : St, DeepR e.body ∧ DeepR e.els := by
  intro e
  induction e using St.ind with
  | h e ih1 ih2 => exact ⟨deepR_row ih1, deepR_row ih2⟩
theorem DeepStmts_ok (l : List St) : DeepR l := deepR_row fun a _ => deepR_all a
theorem DeepR_ok {w : World} {p : Pr} (h : p.Ok w) (hf : p.fits) : Rt Tryd.prog 44 #[.agg p.cells.toArray] w fun v w' => v = .int .i64 (St.deepAt p.body 1) ∧ Mod none_ w w' := by
  refine dispatcherref02_Deep_calls ?_
  unfold dispatcherref02_Deep_F
  refine box_k (cs := p.cells.toArray) rfl fun w1 hb1 hm1 _ => ?_
  simp only [fo25_0, fo25_1, fo25_2, fo25_3, fo25_4, fo25_5, fo25_6, fo25_7, fo29_0, fo29_1, fo29_2, fo29_3, fo34_0, fo34_1, fo43_0, fo43_1, ld2, ld3, ld5, ld9, ld22, ld23, ld32, len9, len22, len23, len32, len91, ldK_some, cellE, blkC_c, add_pl, Nat.zero_add, List.getElem?_toArray, List.getElem?_cons_succ, List.getElem?_cons_zero, hb1, Pr.c1]
  refine CK_st Tryd.func72 rfl rfl (DeepStmts_ok _ w1 _ 1 (h.b.mod hm1) hf.2 (by have := hf.2; omega)) ?_
  rintro _ w2 ⟨rfl, hm2⟩
  exact ⟨rfl, hm1.trans hm2⟩
end Go.Proofs.YtpkfbaagpjdifaaDoor.Tr
set_option linter.unusedVariables false
set_option linter.unusedSimpArgs false
namespace Go.X
open Go Go.RowKit
structure Ent (κ : Type) where
  k : κ
  v : Value
  b : Nat
section
variable {κ : Type} [DecidableEq κ]
def Ent.enc (enc : κ → Value) (e : Ent κ) : MapEntry := { key := enc e.k, val := e.v, born := e.b }
def findE (k : κ) : List (Ent κ) → Nat → Option (Nat × Value)
  | [], _ => none
  | e :: r, i => if k = e.k then some (i, e.v) else findE k r (i + 1)
structure KeyT (P : Program) (kt : TypeId) (enc : κ → Value) : Prop where
  find : ∀ (k : κ) (l : List (Ent κ)) (w : World), (Instr.findKey kt (enc k) (l.map (Ent.enc enc))).run P w = .ok (findE k l 0) w
  check : ∀ (e : Bool) (k : κ) (w : World), (Instr.checkKey e 10000 kt (enc k)).run P w = .ok () w
  bits : ∀ k : κ, Instr.sameBits 10000 (enc k) (enc k) = true
  inj : ∀ a b : κ, enc a = enc b → a = b
variable {P : Program} {kt : TypeId} {enc : κ → Value}
def IsMap (enc : κ → Value) (w : World) (b : Nat) (l : List (Ent κ)) (clock : Nat) : Prop := w.heap[b]? = some (.map (l.map (Ent.enc enc)).toArray clock)
omit [DecidableEq κ] in
theorem IsMap.mod {S : Nat → Prop} {w w' : World} {b : Nat} {l : List (Ent κ)} {c : Nat} (h : IsMap enc w b l c) (hm : Mod S w w') (hS : ¬ S b) : IsMap enc w' b l c := hm.blk h hS
variable (T : KeyT P kt enc) {t e : TypeId} (ht : P.underlying t = some (.map kt e))
include T ht
theorem run_look {w : World} {b : Nat} {l : List (Ent κ)} {c : Nat} (h : IsMap enc w b l c) {z : Value} (hz : (P.info? e).bind (·.zero) = some z) (k : κ) (ok : Bool) :
    (Instr.lookup t (.map (some b)) (enc k) ok).run P w = .ok (match findE k l 0 with | some (_, v) => if ok then .tuple #[v, .bool true] else v | none => if ok then .tuple #[z, .bool false] else z) w := by
  obtain ⟨i, hi, hzz⟩ := Option.bind_eq_some_iff.1 hz
  have hg : (getObj b).run P w = .ok (.map (l.map (Ent.enc enc)).toArray c) w := MapKept.run_getObj_map h
  unfold Instr.lookup
  simp only [Sem.run_bind, run_underlying ht, Result.andThen_ok, hg, Sem.run_pure, T.check, List.toList_toArray, T.find]
  cases findE k l 0 with
  | none => simp [zeroValue, typeInfo, hi, hzz, Sem.run_bind]
  | some p => simp
theorem run_update {w : World} {b : Nat} {l : List (Ent κ)} {c : Nat} (h : IsMap enc w b l c) (k : κ) (v : Value) :
    (Instr.mapUpdate t (.map (some b)) (enc k) v).run P w = .ok () (match findE k l 0 with
      | some (i, _) => setB w b (.map ((l.map (Ent.enc enc)).toArray.modify i fun e => { e with key := enc k, val := v }) c)
      | none => setB w b (.map ((l.map (Ent.enc enc)).toArray.push { key := enc k, val := v, born := c }) (c + 1))) := by
  have hg : (getObj b).run P w = .ok (.map (l.map (Ent.enc enc)).toArray c) w := MapKept.run_getObj_map h
  have hs : ∀ o, (setObj b o).run P w = .ok () (setB w b o) := fun o => MapKept.run_setObj_map o h
  unfold Instr.mapUpdate
  simp only [Sem.run_bind, run_underlying ht, Result.andThen_ok, hg, Sem.run_pure, T.check, List.toList_toArray, T.find]
  cases hf : findE k l 0 with
  | none => simp only [hs]
  | some p =>
    obtain ⟨i, u⟩ := p
    have hk : ∃ e, l[i]? = some e ∧ e.k = k := by
      have gen : ∀ (l : List (Ent κ)) (n : Nat), findE k l n = some (i, u) → ∃ e, n ≤ i ∧ l[i - n]? = some e ∧ e.k = k := by
        intro l
        induction l with
        | nil => intro n h; simp [findE] at h
        | cons e r ih =>
          intro n h
          unfold findE at h
          split at h
          · rename_i hk
            cases h
            exact ⟨e, Nat.le_refl _, by simp, hk.symm⟩
          · obtain ⟨e', h1, h2, h3⟩ := ih (n + 1) h
            refine ⟨e', by omega, ?_, h3⟩
            rw [show i - n = (i - (n + 1)) + 1 by omega]
            simpa using h2
      obtain ⟨e, _, h2, h3⟩ := gen l 0 hf
      exact ⟨e, by simpa using h2, h3⟩
    obtain ⟨e0, he0, rfl⟩ := hk
    have : (l.map (Ent.enc enc)).toArray[i]? = some (e0.enc enc) := by simp [he0]
    simp only [this, Option.map_some, Option.getD_some, Ent.enc, Instr.keyThatStays, T.bits, if_true, Sem.run_bind, Sem.run_pure, Result.andThen_ok, hs]
omit [DecidableEq κ] T ht in
theorem modify_ents (l : List (Ent κ)) (i : Nat) (f : MapEntry → MapEntry) (g : Ent κ → Ent κ) (h : ∀ e, l[i]? = some e → f (e.enc enc) = (g e).enc enc) : (l.map (Ent.enc enc)).toArray.modify i f = ((l.modify i g).map (Ent.enc enc)).toArray := by
  apply Array.ext_getElem?
  intro j
  rw [Array.getElem?_modify]
  simp only [List.getElem?_toArray, List.getElem?_map, List.getElem?_modify]
  by_cases e : i = j
  · subst e
    simp only [if_true]
    cases hl : l[i]? with
    | none => rfl
    | some x => simp [h x hl]
  · simp [e]
omit T ht in
theorem findE_at {k : κ} {l : List (Ent κ)} {i : Nat} {u : Value} (h : findE k l 0 = some (i, u)) : ∃ e, l[i]? = some e ∧ e.k = k ∧ e.v = u := by
  have gen : ∀ (l : List (Ent κ)) (n : Nat), findE k l n = some (i, u) → ∃ e, n ≤ i ∧ l[i - n]? = some e ∧ e.k = k ∧ e.v = u := by
    intro l
    induction l with
    | nil => intro n h; simp [findE] at h
    | cons e r ih =>
      intro n h
      unfold findE at h
      split at h
      · rename_i hk
        cases h
        exact ⟨e, Nat.le_refl _, by simp, hk.symm, rfl⟩
      · obtain ⟨e', h1, h2, h3⟩ := ih (n + 1) h
        refine ⟨e', by omega, ?_, h3⟩
        rw [show i - n = (i - (n + 1)) + 1 by omega]
        simpa using h2
  obtain ⟨e, _, h2, h3⟩ := gen l 0 h
  exact ⟨e, by simpa using h2, h3⟩
omit T ht in
def putE (k : κ) (v : Value) (c : Nat) (l : List (Ent κ)) : List (Ent κ) :=
  match findE k l 0 with
  | some (i, _) => l.modify i fun e => ⟨e.k, v, e.b⟩
  | none => l ++ [⟨k, v, c⟩]
def clkE (k : κ) (c : Nat) (l : List (Ent κ)) : Nat := if (findE k l 0).isSome then c else c + 1
theorem run_put {w : World} {b : Nat} {l : List (Ent κ)} {c : Nat} (h : IsMap enc w b l c) (k : κ) (v : Value) :
    ∃ w', (Instr.mapUpdate t (.map (some b)) (enc k) v).run P w = .ok () w' ∧ IsMap enc w' b (putE k v c l) (clkE k c l) ∧ Mod (fun i => i = b) w w' := by
  have hr := run_update T ht h k v
  unfold putE clkE
  cases hf : findE k l 0 with
  | none =>
    rw [hf] at hr
    refine ⟨_, hr, ?_, (Mod.refl _ w).set _ (fun _ => rfl)⟩
    unfold IsMap
    rw [setB_new _ _ _ (X.blk_lt h)]
    simp [Ent.enc]
  | some p =>
    obtain ⟨i, u⟩ := p
    rw [hf] at hr
    refine ⟨_, hr, ?_, (Mod.refl _ w).set _ (fun _ => rfl)⟩
    unfold IsMap
    obtain ⟨e0, he0, hk0, _⟩ := findE_at hf
    rw [setB_new _ _ _ (X.blk_lt h), modify_ents l i _ (fun e => ⟨e.k, v, e.b⟩) (fun e he => by rw [he0] at he; cases he; rw [← hk0]; rfl)]
    rfl
omit [DecidableEq κ] T ht in
omit [DecidableEq κ] T ht in
theorem make_ok (t : TypeId) {w : World} {K : Value → World → Prop} (hk : ∀ w', IsMap enc w' w.heap.size [] 0 → Mod none_ w w' → w'.heap.size = w.heap.size + 1 → K (.map (some w.heap.size)) w') : VK P (Instr.makeMap t none) w K := by
  have hr : (Instr.makeMap t none).run P w = .ok (.map (some w.heap.size)) (w.alloc (.map #[] 0)) := by
    simp [Instr.makeMap, Sem.run_bind]
  exact VK_of hr (new_k w _ hk)
end
end Go.X
set_option linter.unusedVariables false
set_option linter.unusedSimpArgs false
namespace Go.X
open Go
inductive Pl where
  | done
  | take (i : Nat) (r : Pl)
  | only (i : Nat) (r : Pl)
  | two (i j : Nat) (a b : Pl)
def Pl.len : Pl → Nat
  | .done => 0
  | .take _ r => r.len + 1
  | .only _ r => r.len + 1
  | .two _ _ a _ => a.len + 1
def sxp (P : Program) (S : World → Prop) (ops : Array Oper) (K : Sl → World → Prop) : Pl → Sl → World → Prop
  | .done, ρ, w => K ρ w
  | .take i r, ρ, w => match ops[i]? with | none => False | some o => sxt1 P S ops o (fun ρ => sxp P S ops K r ρ w) ρ
  | .only i r, ρ, w => match ops[i]? with | none => False | some o => sx1 P ops o (fun ρ w => S w ∧ sxp P S ops K r ρ w) ρ w
  | .two i j a b, ρ, w => (match ops[i]? with | none => False | some o => sx1 P ops o (fun ρ w => S w ∧ sxp P S ops K a ρ w) ρ w) ∧ (match ops[j]? with | none => False | some o => sx1 P ops o (fun ρ w => S w ∧ sxp P S ops K b ρ w) ρ w)
def opOk (P : Program) (n : Nat) (ops : Array Oper) (i : Nat) : Bool := match ops[i]? with | none => false | some o => oOk n o && noRound P o.op
def Pl.ok (P : Program) (n : Nat) (ops : Array Oper) : Pl → Array Bool → Bool
  | .done, listed => (Region.ready .any ops listed).isEmpty
  | .take i r, listed => (match ops[i]? with | none => false | some o => oOk n o && (Region.free .any ops listed i && (Region.ready .any ops listed).contains i)) && Pl.ok P n ops r (listed.setIfInBounds i true)
  | .only i r, listed => opOk P n ops i && (Region.ready .any ops listed == [i]) && Pl.ok P n ops r (listed.setIfInBounds i true)
  | .two i j a b, listed => opOk P n ops i && opOk P n ops j && (Region.ready .any ops listed == [i, j]) && (a.len == b.len) && Pl.ok P n ops a (listed.setIfInBounds i true) && Pl.ok P n ops b (listed.setIfInBounds j true)
theorem opOk_some {P : Program} {n : Nat} {ops : Array Oper} {i : Nat} (h : opOk P n ops i = true) : ∃ o, ops[i]? = some o ∧ oOk n o = true ∧ noRound P o.op = true := by
  unfold opOk at h
  cases ho : ops[i]? with
  | none => rw [ho] at h; cases h
  | some o =>
    rw [ho] at h
    simp only [Bool.and_eq_true] at h
    exact ⟨o, rfl, h.1, h.2⟩
theorem sxp_held {P : Program} {n : Nat} {D : List Deferred} {S : World → Prop} {ops : Array Oper} {K : Sl → World → Prop} {Q : Exit → Act → World → Prop} (hQ : ∀ a ρ w, Lk ⟨none, D⟩ n a ρ → K ρ w → Q .normal a w)
    (hp : ∀ c a w, ¬ Q (.panic c) a w) (hs : Region.noSelect ops = true) : ∀ (l : Pl) (listed : Array Bool) a ρ w,
    l.ok P n ops listed = true → Lk ⟨none, D⟩ n a ρ → S w → sxp P S ops K l ρ w → wpAnyH P .any ops Q S l.len listed a w
  | .done, listed, a, ρ, w, hpl, hl, hS, h => ⟨List.isEmpty_iff.1 hpl, hQ a ρ w hl h⟩
  | .take i r, listed, a, ρ, w, hpl, hl, hS, h => by
    unfold Pl.ok at hpl
    unfold sxp at h
    cases ho : ops[i]? with
    | none => rw [ho] at h; exact h.elim
    | some o =>
      rw [ho] at h hpl
      dsimp only at h hpl
      simp only [Bool.and_eq_true] at hpl
      obtain ⟨⟨h1, h2, h3⟩, h4⟩ := hpl
      obtain ⟨v, hy, ρ', hl', hN⟩ := sxt1_yields (oOk_dst h1) hl h
      exact wpAnyH_take ho hs h2 h3 (fun c a w q => absurd q (hp _ _ _)) hy hS (sxp_held hQ hp hs r _ _ ρ' w h4 hl' hS hN)
  | .only i r, listed, a, ρ, w, hpl, hl, hS, h => by
    unfold Pl.ok at hpl
    unfold sxp at h
    simp only [Bool.and_eq_true, beq_iff_eq] at hpl
    obtain ⟨⟨h1, h3⟩, h4⟩ := hpl
    obtain ⟨o, ho, g1, g2⟩ := opOk_some h1
    rw [ho] at h
    dsimp only at h
    refine wpAnyH_all h3 (by simp) fun j hj => ?_
    obtain rfl : j = i := by simpa using hj
    unfold wpOp
    rw [ho]
    exact sx1_wp0 (n := n) g2 (oOk_dst g1) hl h (fun a ρ w hl hq => ⟨hq.1, sxp_held hQ hp hs r _ a ρ w h4 hl hq.1 hq.2⟩)
  | .two i j a b, listed, ac, ρ, w, hpl, hl, hS, h => by
    unfold Pl.ok at hpl
    unfold sxp at h
    simp only [Bool.and_eq_true, beq_iff_eq] at hpl
    obtain ⟨⟨⟨⟨⟨h1, h2⟩, h3⟩, h4⟩, h5⟩, h6⟩ := hpl
    obtain ⟨o, ho, g1, g1'⟩ := opOk_some h1
    obtain ⟨o', ho', g2, g2'⟩ := opOk_some h2
    rw [ho, ho'] at h
    dsimp only at h
    refine wpAnyH_all h3 (by simp) fun k hk => ?_
    rcases List.mem_cons.1 hk with rfl | hk
    · unfold wpOp
      rw [ho]
      exact sx1_wp0 (n := n) g1' (oOk_dst g1) hl h.1 (fun a' ρ w hl hq => ⟨hq.1, sxp_held hQ hp hs a _ a' ρ w h5 hl hq.1 hq.2⟩)
    · obtain rfl : k = j := by simpa using hk
      unfold wpOp
      rw [ho']
      have h4' : a.len = b.len := by simpa using h4
      rw [h4']
      exact sx1_wp0 (n := n) g2' (oOk_dst g2) hl h.2 (fun a' ρ w hl hq => ⟨hq.1, sxp_held hQ hp hs b _ a' ρ w h6 hl hq.1 hq.2⟩)
theorem W_plan {P : Program} {n : Nat} {D : List Deferred} {id : Nat} {ops : Array Oper} {K : Exit → Sl → World → Prop} {ρ : Sl} {w : World} (S : World → Prop) (plan : Pl) (hlen : plan.len = ops.size)
    (hs : Region.noSelect ops = true) (hpl : plan.ok P n ops (Array.replicate ops.size false) = true) (hm : P.follows .mixedOrders = true) (hS : S { w with drawn := w.drawn + 1 })
    (h : sxp P S ops (K .normal) plan ρ { w with drawn := w.drawn + 1 }) : W ⟨none, D⟩ P n (.region id ops true) K ρ w := by
  intro a hl
  refine wpIn_wide.2 (Code.wp_mono ?_ (wp_region_held (S := S) (Q := fun e a w => e = .normal ∧ ∃ ρ, Lk ⟨none, D⟩ n a ρ ∧ K .normal ρ w) hm ?_))
  · rintro e a w ⟨rfl, ρ, hl, hk⟩
    exact ⟨ρ, hl, hk⟩
  · have := sxp_held (Q := fun e a w => e = .normal ∧ ∃ ρ, Lk ⟨none, D⟩ n a ρ ∧ K .normal ρ w) (fun a ρ w hl hk => ⟨rfl, ρ, hl, hk⟩) (fun c a w q => by cases q.1) hs plan _ a ρ _ hpl hl hS h
    rw [hlen] at this
    exact this
end Go.X
