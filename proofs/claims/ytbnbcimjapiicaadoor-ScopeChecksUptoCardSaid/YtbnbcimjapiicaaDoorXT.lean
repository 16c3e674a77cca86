/- Trees of programs in memory: expressions, statements, declarations. -/
import Derived.Test.YtbnbcimjapiicaaDoorXShM
set_option linter.unusedVariables false
namespace Go.X
open Go Go.RowKit

structure Ex where
  op : Int
  num : Int
  name : ByteArray
  s : Value
  args : List Ex
  line : Int
  col : Int
def Ex.cells (e : Ex) : List Value := [.int .u8 e.op, .int .i64 e.num, .string e.name, e.s, .int .i64 e.line, .int .i64 e.col]
def Ex.v (e : Ex) : Value := .agg e.cells.toArray
def Ex.fine (e : Ex) : Prop := (Lit.int .u8 e.op).wf = true ∧ (Lit.int .i64 e.num).wf = true ∧ e.name.size ≤ maxLen ∧ (Lit.int .i64 e.line).wf = true ∧ (Lit.int .i64 e.col).wf = true
mutual
def Ex.Ok (w : World) : Ex → Prop
  | ⟨op, num, name, s, args, line, col⟩ => reads w 6 s args.length (args.flatMap Ex.cells) ∧ Ex.fine ⟨op, num, name, s, args, line, col⟩ ∧ Ex.OkL w args
def Ex.OkL (w : World) : List Ex → Prop
  | [] => True
  | e :: r => Ex.Ok w e ∧ Ex.OkL w r
end
mutual
def Ex.sz : Ex → Nat
  | ⟨_, _, name, _, args, _, _⟩ => 1 + name.size + Ex.szL args
def Ex.szL : List Ex → Nat
  | [] => 0
  | e :: r => Ex.sz e + Ex.szL r
end
structure St where
  op : Int
  kind : Int
  red : Int
  name : ByteArray
  turns : Int
  es : Value
  exprs : List Ex
  bs : Value
  body : List St
  ls : Value
  els : List St
  line : Int
  col : Int
def St.cells (e : St) : List Value := [.int .u8 e.op, .int .u8 e.kind, .int .u8 e.red, .string e.name, .int .i64 e.turns, e.es, e.bs, e.ls, .int .i64 e.line, .int .i64 e.col]
def St.v (e : St) : Value := .agg e.cells.toArray
def St.fine (e : St) : Prop := (Lit.int .u8 e.op).wf = true ∧ (Lit.int .u8 e.kind).wf = true ∧ (Lit.int .u8 e.red).wf = true ∧ e.name.size ≤ maxLen ∧ (Lit.int .i64 e.turns).wf = true ∧ (Lit.int .i64 e.line).wf = true ∧ (Lit.int .i64 e.col).wf = true
mutual
def St.Ok (w : World) : St → Prop
  | ⟨op, kind, red, name, turns, es, exprs, bs, body, ls, els, line, col⟩ => (reads w 6 es exprs.length (exprs.flatMap Ex.cells) ∧ Ex.OkL w exprs) ∧ (reads w 10 bs body.length (body.flatMap St.cells) ∧ St.OkL w body) ∧ (reads w 10 ls els.length (els.flatMap St.cells) ∧ St.OkL w els) ∧ St.fine ⟨op, kind, red, name, turns, es, exprs, bs, body, ls, els, line, col⟩
def St.OkL (w : World) : List St → Prop
  | [] => True
  | e :: r => St.Ok w e ∧ St.OkL w r
end
mutual
def St.sz : St → Nat
  | ⟨_, _, _, name, _, _, exprs, _, body, _, els, _, _⟩ => 1 + name.size + Ex.szL exprs + St.szL body + St.szL els
def St.szL : List St → Nat
  | [] => 0
  | e :: r => St.sz e + St.szL r
end
theorem Ex.ind {Q : Ex → Prop} (h : ∀ e : Ex, (∀ a ∈ e.args, Q a) → Q e) : ∀ e, Q e := by
  intro e
  refine Ex.rec (motive_1 := Q) (motive_2 := fun l => ∀ a ∈ l, Q a) (fun op num name s args line col ih => h _ ih) (fun a ha => by cases ha) (fun e r he hr a ha => ?_) e
  rcases List.mem_cons.1 ha with rfl | ha
  · exact he
  · exact hr a ha
theorem St.ind {Q : St → Prop} (h : ∀ e : St, (∀ a ∈ e.body, Q a) → (∀ a ∈ e.els, Q a) → Q e) : ∀ e, Q e := by
  intro e
  refine St.rec (motive_1 := Q) (motive_2 := fun l => ∀ a ∈ l, Q a) (fun op kind red name turns es exprs bs body ls els line col ih1 ih2 => h _ ih1 ih2) (fun a ha => by cases ha) (fun e r he hr a ha => ?_) e
  rcases List.mem_cons.1 ha with rfl | ha
  · exact he
  · exact hr a ha
theorem Ex.okL {w : World} : ∀ {l : List Ex}, Ex.OkL w l ↔ ∀ a ∈ l, a.Ok w
  | [] => by simp [Ex.OkL]
  | e :: r => by simp [Ex.OkL, Ex.okL (l := r)]
theorem St.okL {w : World} : ∀ {l : List St}, St.OkL w l ↔ ∀ a ∈ l, a.Ok w
  | [] => by simp [St.OkL]
  | e :: r => by simp [St.OkL, St.okL (l := r)]
theorem Ex.ok {w : World} {e : Ex} : e.Ok w ↔ reads w 6 e.s e.args.length (e.args.flatMap Ex.cells) ∧ e.fine ∧ ∀ a ∈ e.args, a.Ok w := by
  obtain ⟨op, num, name, s, args, line, col⟩ := e
  rw [Ex.Ok, Ex.okL]
theorem St.ok {w : World} {e : St} : e.Ok w ↔ (reads w 6 e.es e.exprs.length (e.exprs.flatMap Ex.cells) ∧ ∀ a ∈ e.exprs, a.Ok w) ∧ (reads w 10 e.bs e.body.length (e.body.flatMap St.cells) ∧ ∀ a ∈ e.body, a.Ok w) ∧ (reads w 10 e.ls e.els.length (e.els.flatMap St.cells) ∧ ∀ a ∈ e.els, a.Ok w) ∧ e.fine := by
  obtain ⟨op, kind, red, name, turns, es, exprs, bs, body, ls, els, line, col⟩ := e
  rw [St.Ok, Ex.okL, St.okL, St.okL]
/-- Blocks that were there are as they were: trees stay. -/
theorem Ex.Ok.mod {w w' : World} (hm : Mod none_ w w') : ∀ {e : Ex}, e.Ok w → e.Ok w' := by
  intro e
  induction e using Ex.ind with
  | h e ih =>
    intro h
    obtain ⟨h1, h2, h3⟩ := Ex.ok.1 h
    exact Ex.ok.2 ⟨reads_mod h1 hm (fun _ _ _ => id), h2, fun a ha => ih a ha (h3 a ha)⟩
theorem St.Ok.mod {w w' : World} (hm : Mod none_ w w') : ∀ {e : St}, e.Ok w → e.Ok w' := by
  intro e
  induction e using St.ind with
  | h e ih1 ih2 =>
    intro h
    obtain ⟨⟨h1, h2⟩, ⟨h3, h4⟩, ⟨h5, h6⟩, h7⟩ := St.ok.1 h
    exact St.ok.2 ⟨⟨reads_mod h1 hm (fun _ _ _ => id), fun a ha => (h2 a ha).mod hm⟩, ⟨reads_mod h3 hm (fun _ _ _ => id), fun a ha => ih1 a ha (h4 a ha)⟩, ⟨reads_mod h5 hm (fun _ _ _ => id), fun a ha => ih2 a ha (h6 a ha)⟩, h7⟩
/-- A row of expressions, of statements. -/
def ExsOk (w : World) (s : Value) (l : List Ex) : Prop := reads w 6 s l.length (l.flatMap Ex.cells) ∧ ∀ a ∈ l, a.Ok w
def StsOk (w : World) (s : Value) (l : List St) : Prop := reads w 10 s l.length (l.flatMap St.cells) ∧ ∀ a ∈ l, a.Ok w
theorem ExsOk.mod {w w' : World} {s : Value} {l : List Ex} (h : ExsOk w s l) (hm : Mod none_ w w') : ExsOk w' s l := ⟨reads_mod h.1 hm (fun _ _ _ => id), fun a ha => (h.2 a ha).mod hm⟩
theorem StsOk.mod {w w' : World} {s : Value} {l : List St} (h : StsOk w s l) (hm : Mod none_ w w') : StsOk w' s l := ⟨reads_mod h.1 hm (fun _ _ _ => id), fun a ha => (h.2 a ha).mod hm⟩
theorem Ex.Ok.args {w : World} {e : Ex} (h : e.Ok w) : ExsOk w e.s e.args := ⟨(Ex.ok.1 h).1, (Ex.ok.1 h).2.2⟩
theorem Ex.Ok.fine {w : World} {e : Ex} (h : e.Ok w) : e.fine := (Ex.ok.1 h).2.1
theorem St.Ok.exprs {w : World} {e : St} (h : e.Ok w) : ExsOk w e.es e.exprs := (St.ok.1 h).1
theorem St.Ok.body {w : World} {e : St} (h : e.Ok w) : StsOk w e.bs e.body := (St.ok.1 h).2.1
theorem St.Ok.els {w : World} {e : St} (h : e.Ok w) : StsOk w e.ls e.els := (St.ok.1 h).2.2.1
theorem St.Ok.fine {w : World} {e : St} (h : e.Ok w) : e.fine := (St.ok.1 h).2.2.2
theorem Ex.cells_len (e : Ex) : e.cells.length = 6 := rfl
theorem St.cells_len (e : St) : e.cells.length = 10 := rfl
theorem ExsOk.at {w : World} {s : Value} {l : List Ex} (h : ExsOk w s l) {i : Nat} {e : Ex} (hi : l[i]? = some e) : e.Ok w := h.2 e (List.mem_of_getElem? hi)
theorem StsOk.at {w : World} {s : Value} {l : List St} (h : StsOk w s l) {i : Nat} {e : St} (hi : l[i]? = some e) : e.Ok w := h.2 e (List.mem_of_getElem? hi)
theorem Ex.sz_eq (e : Ex) : e.sz = 1 + e.name.size + Ex.szL e.args := by obtain ⟨op, num, name, s, args, line, col⟩ := e; rw [Ex.sz]
theorem St.sz_eq (e : St) : e.sz = 1 + e.name.size + Ex.szL e.exprs + St.szL e.body + St.szL e.els := by obtain ⟨op, kind, red, name, turns, es, exprs, bs, body, ls, els, line, col⟩ := e; rw [St.sz]
theorem Ex.szL_eq : ∀ l : List Ex, Ex.szL l = (l.map Ex.sz).sum
  | [] => by simp [Ex.szL]
  | e :: r => by simp [Ex.szL, Ex.szL_eq r]
theorem St.szL_eq : ∀ l : List St, St.szL l = (l.map St.sz).sum
  | [] => by simp [St.szL]
  | e :: r => by simp [St.szL, St.szL_eq r]
theorem Ex.c0 (e : Ex) : e.cells[0]? = some (.int .u8 e.op) := rfl
theorem Ex.c1 (e : Ex) : e.cells[1]? = some (.int .i64 e.num) := rfl
theorem Ex.c2 (e : Ex) : e.cells[2]? = some (.string e.name) := rfl
theorem Ex.c3 (e : Ex) : e.cells[3]? = some e.s := rfl
theorem Ex.c4 (e : Ex) : e.cells[4]? = some (.int .i64 e.line) := rfl
theorem Ex.c5 (e : Ex) : e.cells[5]? = some (.int .i64 e.col) := rfl
theorem St.c0 (e : St) : e.cells[0]? = some (.int .u8 e.op) := rfl
theorem St.c1 (e : St) : e.cells[1]? = some (.int .u8 e.kind) := rfl
theorem St.c2 (e : St) : e.cells[2]? = some (.int .u8 e.red) := rfl
theorem St.c3 (e : St) : e.cells[3]? = some (.string e.name) := rfl
theorem St.c4 (e : St) : e.cells[4]? = some (.int .i64 e.turns) := rfl
theorem St.c5 (e : St) : e.cells[5]? = some e.es := rfl
theorem St.c6 (e : St) : e.cells[6]? = some e.bs := rfl
theorem St.c7 (e : St) : e.cells[7]? = some e.ls := rfl
theorem St.c8 (e : St) : e.cells[8]? = some (.int .i64 e.line) := rfl
theorem St.c9 (e : St) : e.cells[9]? = some (.int .i64 e.col) := rfl
end Go.X
