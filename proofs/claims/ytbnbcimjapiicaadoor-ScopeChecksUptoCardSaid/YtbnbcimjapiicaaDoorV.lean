/- Trees of one's own: erased, owned; the chapter's copies. -/
import Derived.Test.YtbnbcimjapiicaaDoorU
set_option linter.unusedVariables false
set_option linter.unusedSimpArgs false
set_option maxRecDepth 4000
namespace Go.X
open Go Go.RowKit Go.Proofs.YtbnbcimjapiicaaDoor.Tr

/-! Trees without the places of their rows. -/
mutual
def Ex.er : Ex → Ex
  | ⟨op, num, name, _, args, line, col⟩ => ⟨op, num, name, .slice none 0 0, Ex.erL args, line, col⟩
def Ex.erL : List Ex → List Ex
  | [] => []
  | e :: r => Ex.er e :: Ex.erL r
end
theorem Ex.erL_eq : ∀ l : List Ex, Ex.erL l = l.map Ex.er
  | [] => by simp [Ex.erL]
  | e :: r => by simp [Ex.erL, Ex.erL_eq r]
theorem Ex.er_eq (e : Ex) : e.er = ⟨e.op, e.num, e.name, .slice none 0 0, e.args.map Ex.er, e.line, e.col⟩ := by obtain ⟨op, num, name, s, args, line, col⟩ := e; rw [Ex.er, Ex.erL_eq]
mutual
def St.er : St → St
  | ⟨op, kind, red, name, turns, _, exprs, _, body, _, els, line, col⟩ => ⟨op, kind, red, name, turns, .slice none 0 0, Ex.erL exprs, .slice none 0 0, St.erL body, .slice none 0 0, St.erL els, line, col⟩
def St.erL : List St → List St
  | [] => []
  | e :: r => St.er e :: St.erL r
end
theorem St.erL_eq : ∀ l : List St, St.erL l = l.map St.er
  | [] => by simp [St.erL]
  | e :: r => by simp [St.erL, St.erL_eq r]
theorem St.er_eq (e : St) : e.er = ⟨e.op, e.kind, e.red, e.name, e.turns, .slice none 0 0, e.exprs.map Ex.er, .slice none 0 0, e.body.map St.er, .slice none 0 0, e.els.map St.er, e.line, e.col⟩ := by
  obtain ⟨op, kind, red, name, turns, es, exprs, bs, body, ls, els, line, col⟩ := e; rw [St.er, Ex.erL_eq, St.erL_eq, St.erL_eq]
section
variable (e : Ex) (s : St)
theorem Ex.er_op : e.er.op = e.op := by rw [Ex.er_eq]
theorem Ex.er_num : e.er.num = e.num := by rw [Ex.er_eq]
theorem Ex.er_name : e.er.name = e.name := by rw [Ex.er_eq]
theorem Ex.er_line : e.er.line = e.line := by rw [Ex.er_eq]
theorem Ex.er_col : e.er.col = e.col := by rw [Ex.er_eq]
theorem Ex.er_args : e.er.args = e.args.map Ex.er := by rw [Ex.er_eq]
theorem St.er_op : s.er.op = s.op := by rw [St.er_eq]
theorem St.er_kind : s.er.kind = s.kind := by rw [St.er_eq]
theorem St.er_red : s.er.red = s.red := by rw [St.er_eq]
theorem St.er_name : s.er.name = s.name := by rw [St.er_eq]
theorem St.er_turns : s.er.turns = s.turns := by rw [St.er_eq]
theorem St.er_line : s.er.line = s.line := by rw [St.er_eq]
theorem St.er_col : s.er.col = s.col := by rw [St.er_eq]
theorem St.er_exprs : s.er.exprs = s.exprs.map Ex.er := by rw [St.er_eq]
theorem St.er_body : s.er.body = s.body.map St.er := by rw [St.er_eq]
theorem St.er_els : s.er.els = s.els.map St.er := by rw [St.er_eq]
end
/-- What is told of a tree by its parts, whatever its rows' places. -/
theorem Ex.er_may : ∀ e : Ex, e.er.may = e.may := by
  intro e
  induction e using Ex.ind with
  | h e ih =>
    have ho : e.er.own = e.own := by rw [Ex.er_eq]; unfold Ex.own; simp
    rw [Ex.may_eq, Ex.may_eq, ho, Ex.er_args, Ex.mayL_eq, Ex.mayL_eq, List.all_map]
    congr 1
    rw [Bool.eq_iff_iff, List.all_eq_true, List.all_eq_true]
    exact ⟨fun h a ha => by rw [← ih a ha]; exact h a ha, fun h a ha => by show a.er.may = true; rw [ih a ha]; exact h a ha⟩
theorem Ex.mayL_er (l : List Ex) : Ex.mayL (l.map Ex.er) = Ex.mayL l := by
  rw [Ex.mayL_eq, Ex.mayL_eq, List.all_map]
  congr 1
  funext a
  exact Ex.er_may a
theorem Ex.er_deep : ∀ e : Ex, e.er.deep = e.deep := by
  intro e
  induction e using Ex.ind with
  | h e ih =>
    rw [Ex.deep_eq, Ex.deep_eq, Ex.er_args]
    congr 1
    have : ∀ l : List Ex, (∀ a ∈ l, a.er.deep = a.deep) → Ex.deepL (l.map Ex.er) = Ex.deepL l := by
      intro l
      induction l with
      | nil => intro _; rfl
      | cons a r ihr =>
        intro h
        rw [List.map_cons, Ex.deepL, Ex.deepL, h a (List.mem_cons_self ..), ihr fun b hb => h b (List.mem_cons_of_mem _ hb)]
    exact this e.args ih
theorem Ex.deepL_er : ∀ l : List Ex, Ex.deepL (l.map Ex.er) = Ex.deepL l
  | [] => rfl
  | a :: r => by rw [List.map_cons, Ex.deepL, Ex.deepL, Ex.er_deep, Ex.deepL_er r]
theorem Ex.er_sz : ∀ e : Ex, e.er.sz = e.sz := by
  intro e
  induction e using Ex.ind with
  | h e ih =>
    rw [Ex.sz_eq, Ex.sz_eq, Ex.er_args, Ex.er_name, Ex.szL_eq, Ex.szL_eq, List.map_map]
    congr 2
    exact List.map_congr_left ih
theorem Ex.szL_er (l : List Ex) : Ex.szL (l.map Ex.er) = Ex.szL l := by
  rw [Ex.szL_eq, Ex.szL_eq, List.map_map]
  congr 1
  exact List.map_congr_left fun a _ => Ex.er_sz a
theorem St.er_own (s : St) : s.er.own = s.own := by rw [St.er_eq]; unfold St.own St.rng; simp
theorem St.er_may : ∀ e : St, e.er.may = e.may := by
  intro e
  induction e using St.ind with
  | h e ih1 ih2 =>
    have hl : ∀ l : List St, (∀ a ∈ l, a.er.may = a.may) → St.mayL (l.map St.er) = St.mayL l := by
      intro l h
      rw [St.mayL_eq, St.mayL_eq, List.all_map, Bool.eq_iff_iff, List.all_eq_true, List.all_eq_true]
      exact ⟨fun q a ha => by rw [← h a ha]; exact q a ha, fun q a ha => by show a.er.may = true; rw [h a ha]; exact q a ha⟩
    rw [St.may_eq, St.may_eq, St.er_own, St.er_exprs, St.er_body, St.er_els, Ex.mayL_er, hl _ ih1, hl _ ih2]
theorem St.mayL_er (l : List St) : St.mayL (l.map St.er) = St.mayL l := by
  rw [St.mayL_eq, St.mayL_eq, List.all_map]
  congr 1
  funext a
  exact St.er_may a
theorem St.er_sz : ∀ e : St, e.er.sz = e.sz := by
  intro e
  induction e using St.ind with
  | h e ih1 ih2 =>
    rw [St.sz_eq, St.sz_eq, St.er_name, St.er_exprs, St.er_body, St.er_els, Ex.szL_er, St.szL_eq, St.szL_eq, St.szL_eq, St.szL_eq, List.map_map, List.map_map]
    rw [show List.map (St.sz ∘ St.er) e.body = List.map St.sz e.body from List.map_congr_left ih1, show List.map (St.sz ∘ St.er) e.els = List.map St.sz e.els from List.map_congr_left ih2]
theorem St.szL_er (l : List St) : St.szL (l.map St.er) = St.szL l := by
  rw [St.szL_eq, St.szL_eq, List.map_map]
  congr 1
  exact List.map_congr_left fun a _ => St.er_sz a
theorem St.blocksL'_er {l : List St} (h : ∀ a ∈ l, a.er.blocks = a.blocks) : St.blocksL' (l.map St.er) = St.blocksL' l := by
  induction l with
  | nil => rfl
  | cons a r ihr => rw [List.map_cons, St.blocksL', St.blocksL', h a (List.mem_cons_self ..), ihr fun b hb => h b (List.mem_cons_of_mem _ hb)]
theorem St.blocksL_er {l : List St} (h : ∀ a ∈ l, a.er.blocks = a.blocks) : St.blocksL (l.map St.er) = St.blocksL l := by
  unfold St.blocksL
  rw [List.length_map, St.blocksL'_er h]
theorem St.er_blocks : ∀ e : St, e.er.blocks = e.blocks := by
  intro e
  induction e using St.ind with
  | h e ih1 ih2 => rw [St.blocks_eq, St.blocks_eq, St.er_body, St.er_els, St.blocksL_er ih1, St.blocksL_er ih2]
theorem St.exprDL_er {l : List St} (h : ∀ a ∈ l, a.er.exprD = a.exprD) : St.exprDL (l.map St.er) = St.exprDL l := by
  induction l with
  | nil => rfl
  | cons a r ihr => rw [List.map_cons, St.exprDL, St.exprDL, h a (List.mem_cons_self ..), ihr fun b hb => h b (List.mem_cons_of_mem _ hb)]
theorem St.er_exprD : ∀ e : St, e.er.exprD = e.exprD := by
  intro e
  induction e using St.ind with
  | h e ih1 ih2 => rw [St.exprD_eq, St.exprD_eq, St.er_body, St.er_els, St.er_exprs, Ex.deepL_er, St.exprDL_er ih1, St.exprDL_er ih2]
theorem St.deepAt_er (l : List St) (n : Nat) : St.deepAt (l.map St.er) n = St.deepAt l n := by
  unfold St.deepAt
  rw [List.length_map, St.blocksL'_er (fun a _ => St.er_blocks a), St.exprDL_er (fun a _ => St.er_exprD a)]
/-! Rows of one's own, all the way down. -/
mutual
def Ex.In (S : Nat → Prop) : Ex → Prop
  | ⟨_, _, _, s, args, _, _⟩ => (∀ k, s.ownBlock = some k → S k) ∧ Ex.InL S args
def Ex.InL (S : Nat → Prop) : List Ex → Prop
  | [] => True
  | e :: r => Ex.In S e ∧ Ex.InL S r
end
mutual
def Ex.Own (w : World) (tE : TypeId) : Ex → Prop
  | ⟨op, num, name, s, args, line, col⟩ => w.ownsRow 0 tE 6 s args.length (args.flatMap Ex.cells) ∧ Ex.fine ⟨op, num, name, s, args, line, col⟩ ∧ Ex.OwnL w tE args
def Ex.OwnL (w : World) (tE : TypeId) : List Ex → Prop
  | [] => True
  | e :: r => Ex.Own w tE e ∧ Ex.OwnL w tE r
end
theorem Ex.inL {S : Nat → Prop} : ∀ {l : List Ex}, Ex.InL S l ↔ ∀ a ∈ l, a.In S
  | [] => by simp [Ex.InL]
  | e :: r => by simp [Ex.InL, Ex.inL (l := r)]
theorem Ex.ownL {w : World} {tE : TypeId} : ∀ {l : List Ex}, Ex.OwnL w tE l ↔ ∀ a ∈ l, a.Own w tE
  | [] => by simp [Ex.OwnL]
  | e :: r => by simp [Ex.OwnL, Ex.ownL (l := r)]
theorem Ex.in_ {S : Nat → Prop} {e : Ex} : e.In S ↔ (∀ k, e.s.ownBlock = some k → S k) ∧ ∀ a ∈ e.args, a.In S := by
  obtain ⟨op, num, name, s, args, line, col⟩ := e
  rw [Ex.In, Ex.inL]
theorem Ex.own_ {w : World} {tE : TypeId} {e : Ex} : e.Own w tE ↔ w.ownsRow 0 tE 6 e.s e.args.length (e.args.flatMap Ex.cells) ∧ e.fine ∧ ∀ a ∈ e.args, a.Own w tE := by
  obtain ⟨op, num, name, s, args, line, col⟩ := e
  rw [Ex.Own, Ex.ownL]
theorem Ex.In.mono {S T : Nat → Prop} (h : ∀ k, S k → T k) : ∀ {e : Ex}, e.In S → e.In T := by
  intro e
  induction e using Ex.ind with
  | h e ih =>
    intro q
    obtain ⟨q1, q2⟩ := Ex.in_.1 q
    exact Ex.in_.2 ⟨fun k hk => h k (q1 k hk), fun a ha => ih a ha (q2 a ha)⟩
theorem Ex.Own.ok {w : World} {tE : TypeId} : ∀ {e : Ex}, e.Own w tE → e.Ok w := by
  intro e
  induction e using Ex.ind with
  | h e ih =>
    intro h
    obtain ⟨h1, h2, h3⟩ := Ex.own_.1 h
    exact Ex.ok.2 ⟨reads_of_owns h1, h2, fun a ha => ih a ha (h3 a ha)⟩
theorem Ex.Own.mod {S : Nat → Prop} {w w' : World} {tE : TypeId} (hm : Mod S w w') : ∀ {e : Ex}, e.Own w tE → e.In (fun k => ¬ S k) → e.Own w' tE := by
  intro e
  induction e using Ex.ind with
  | h e ih =>
    intro h q
    obtain ⟨h1, h2, h3⟩ := Ex.own_.1 h
    obtain ⟨q1, q2⟩ := Ex.in_.1 q
    exact Ex.own_.2 ⟨owns_mod h1 hm (fun k hk => q1 k hk), h2, fun a ha => ih a ha (h3 a ha) (q2 a ha)⟩
theorem Ex.Own.mod0 {w w' : World} {tE : TypeId} (hm : Mod none_ w w') : ∀ {e : Ex}, e.Own w tE → e.Own w' tE := by
  intro e
  induction e using Ex.ind with
  | h e ih =>
    intro h
    obtain ⟨h1, h2, h3⟩ := Ex.own_.1 h
    exact Ex.own_.2 ⟨owns_mod h1 hm (fun k hk => id), h2, fun a ha => ih a ha (h3 a ha)⟩
theorem Ex.Own.lt {w : World} {tE : TypeId} : ∀ {e : Ex}, e.Own w tE → e.In (fun k => k < w.heap.size) := by
  intro e
  induction e using Ex.ind with
  | h e ih =>
    intro h
    obtain ⟨h1, h2, h3⟩ := Ex.own_.1 h
    exact Ex.in_.2 ⟨fun k hk => by obtain ⟨cur, hb⟩ := owns_blk h1 hk; exact blk_lt hb, fun a ha => ih a ha (h3 a ha)⟩
theorem Ex.In.and {S T : Nat → Prop} : ∀ {e : Ex}, e.In S → e.In T → e.In (fun k => S k ∧ T k) := by
  intro e
  induction e using Ex.ind with
  | h e ih =>
    intro p q
    obtain ⟨p1, p2⟩ := Ex.in_.1 p
    obtain ⟨q1, q2⟩ := Ex.in_.1 q
    exact Ex.in_.2 ⟨fun k hk => ⟨p1 k hk, q1 k hk⟩, fun a ha => ih a ha (p2 a ha) (q2 a ha)⟩
mutual
def St.In (S : Nat → Prop) : St → Prop
  | ⟨_, _, _, _, _, es, exprs, bs, body, ls, els, _, _⟩ => ((∀ k, es.ownBlock = some k → S k) ∧ Ex.InL S exprs) ∧ ((∀ k, bs.ownBlock = some k → S k) ∧ St.InL S body) ∧ ((∀ k, ls.ownBlock = some k → S k) ∧ St.InL S els)
def St.InL (S : Nat → Prop) : List St → Prop
  | [] => True
  | e :: r => St.In S e ∧ St.InL S r
end
mutual
def St.Own (w : World) (tE tS : TypeId) : St → Prop
  | ⟨op, kind, red, name, turns, es, exprs, bs, body, ls, els, line, col⟩ => (w.ownsRow 0 tE 6 es exprs.length (exprs.flatMap Ex.cells) ∧ Ex.OwnL w tE exprs) ∧ (w.ownsRow 0 tS 10 bs body.length (body.flatMap St.cells) ∧ St.OwnL w tE tS body) ∧ (w.ownsRow 0 tS 10 ls els.length (els.flatMap St.cells) ∧ St.OwnL w tE tS els) ∧ St.fine ⟨op, kind, red, name, turns, es, exprs, bs, body, ls, els, line, col⟩
def St.OwnL (w : World) (tE tS : TypeId) : List St → Prop
  | [] => True
  | e :: r => St.Own w tE tS e ∧ St.OwnL w tE tS r
end
theorem St.inL {S : Nat → Prop} : ∀ {l : List St}, St.InL S l ↔ ∀ a ∈ l, a.In S
  | [] => by simp [St.InL]
  | e :: r => by simp [St.InL, St.inL (l := r)]
theorem St.ownL {w : World} {tE tS : TypeId} : ∀ {l : List St}, St.OwnL w tE tS l ↔ ∀ a ∈ l, a.Own w tE tS
  | [] => by simp [St.OwnL]
  | e :: r => by simp [St.OwnL, St.ownL (l := r)]
theorem St.in_ {S : Nat → Prop} {e : St} : e.In S ↔ ((∀ k, e.es.ownBlock = some k → S k) ∧ ∀ a ∈ e.exprs, a.In S) ∧ ((∀ k, e.bs.ownBlock = some k → S k) ∧ ∀ a ∈ e.body, a.In S) ∧ ((∀ k, e.ls.ownBlock = some k → S k) ∧ ∀ a ∈ e.els, a.In S) := by
  obtain ⟨op, kind, red, name, turns, es, exprs, bs, body, ls, els, line, col⟩ := e
  rw [St.In, Ex.inL, St.inL, St.inL]
theorem St.own_ {w : World} {tE tS : TypeId} {e : St} : e.Own w tE tS ↔ (w.ownsRow 0 tE 6 e.es e.exprs.length (e.exprs.flatMap Ex.cells) ∧ ∀ a ∈ e.exprs, a.Own w tE) ∧ (w.ownsRow 0 tS 10 e.bs e.body.length (e.body.flatMap St.cells) ∧ ∀ a ∈ e.body, a.Own w tE tS) ∧ (w.ownsRow 0 tS 10 e.ls e.els.length (e.els.flatMap St.cells) ∧ ∀ a ∈ e.els, a.Own w tE tS) ∧ e.fine := by
  obtain ⟨op, kind, red, name, turns, es, exprs, bs, body, ls, els, line, col⟩ := e
  rw [St.Own, Ex.ownL, St.ownL, St.ownL]
theorem St.In.mono {S T : Nat → Prop} (h : ∀ k, S k → T k) : ∀ {e : St}, e.In S → e.In T := by
  intro e
  induction e using St.ind with
  | h e ih1 ih2 =>
    intro q
    obtain ⟨⟨q1, q2⟩, ⟨q3, q4⟩, q5, q6⟩ := St.in_.1 q
    exact St.in_.2 ⟨⟨fun k hk => h k (q1 k hk), fun a ha => (q2 a ha).mono h⟩, ⟨fun k hk => h k (q3 k hk), fun a ha => ih1 a ha (q4 a ha)⟩, fun k hk => h k (q5 k hk), fun a ha => ih2 a ha (q6 a ha)⟩
theorem St.Own.ok {w : World} {tE tS : TypeId} : ∀ {e : St}, e.Own w tE tS → e.Ok w := by
  intro e
  induction e using St.ind with
  | h e ih1 ih2 =>
    intro h
    obtain ⟨⟨h1, h2⟩, ⟨h3, h4⟩, ⟨h5, h6⟩, h7⟩ := St.own_.1 h
    exact St.ok.2 ⟨⟨reads_of_owns h1, fun a ha => (h2 a ha).ok⟩, ⟨reads_of_owns h3, fun a ha => ih1 a ha (h4 a ha)⟩, ⟨reads_of_owns h5, fun a ha => ih2 a ha (h6 a ha)⟩, h7⟩
theorem St.Own.mod {S : Nat → Prop} {w w' : World} {tE tS : TypeId} (hm : Mod S w w') : ∀ {e : St}, e.Own w tE tS → e.In (fun k => ¬ S k) → e.Own w' tE tS := by
  intro e
  induction e using St.ind with
  | h e ih1 ih2 =>
    intro h q
    obtain ⟨⟨h1, h2⟩, ⟨h3, h4⟩, ⟨h5, h6⟩, h7⟩ := St.own_.1 h
    obtain ⟨⟨q1, q2⟩, ⟨q3, q4⟩, q5, q6⟩ := St.in_.1 q
    exact St.own_.2 ⟨⟨owns_mod h1 hm q1, fun a ha => (h2 a ha).mod hm (q2 a ha)⟩, ⟨owns_mod h3 hm q3, fun a ha => ih1 a ha (h4 a ha) (q4 a ha)⟩, ⟨owns_mod h5 hm q5, fun a ha => ih2 a ha (h6 a ha) (q6 a ha)⟩, h7⟩
theorem St.Own.mod0 {w w' : World} {tE tS : TypeId} (hm : Mod none_ w w') : ∀ {e : St}, e.Own w tE tS → e.Own w' tE tS := by
  intro e
  induction e using St.ind with
  | h e ih1 ih2 =>
    intro h
    obtain ⟨⟨h1, h2⟩, ⟨h3, h4⟩, ⟨h5, h6⟩, h7⟩ := St.own_.1 h
    exact St.own_.2 ⟨⟨owns_mod h1 hm fun k hk => id, fun a ha => (h2 a ha).mod0 hm⟩, ⟨owns_mod h3 hm fun k hk => id, fun a ha => ih1 a ha (h4 a ha)⟩, ⟨owns_mod h5 hm fun k hk => id, fun a ha => ih2 a ha (h6 a ha)⟩, h7⟩
theorem St.Own.lt {w : World} {tE tS : TypeId} : ∀ {e : St}, e.Own w tE tS → e.In (fun k => k < w.heap.size) := by
  intro e
  induction e using St.ind with
  | h e ih1 ih2 =>
    intro h
    obtain ⟨⟨h1, h2⟩, ⟨h3, h4⟩, ⟨h5, h6⟩, h7⟩ := St.own_.1 h
    exact St.in_.2 ⟨⟨fun k hk => by obtain ⟨cur, hb⟩ := owns_blk h1 hk; exact blk_lt hb, fun a ha => (h2 a ha).lt⟩, ⟨fun k hk => by obtain ⟨cur, hb⟩ := owns_blk h3 hk; exact blk_lt hb, fun a ha => ih1 a ha (h4 a ha)⟩,
      fun k hk => by obtain ⟨cur, hb⟩ := owns_blk h5 hk; exact blk_lt hb, fun a ha => ih2 a ha (h6 a ha)⟩
theorem St.In.and {S T : Nat → Prop} : ∀ {e : St}, e.In S → e.In T → e.In (fun k => S k ∧ T k) := by
  intro e
  induction e using St.ind with
  | h e ih1 ih2 =>
    intro p q
    obtain ⟨⟨p1, p2⟩, ⟨p3, p4⟩, p5, p6⟩ := St.in_.1 p
    obtain ⟨⟨q1, q2⟩, ⟨q3, q4⟩, q5, q6⟩ := St.in_.1 q
    exact St.in_.2 ⟨⟨fun k hk => ⟨p1 k hk, q1 k hk⟩, fun a ha => (p2 a ha).and (q2 a ha)⟩, ⟨fun k hk => ⟨p3 k hk, q3 k hk⟩, fun a ha => ih1 a ha (p4 a ha) (q4 a ha)⟩, fun k hk => ⟨p5 k hk, q5 k hk⟩, fun a ha => ih2 a ha (p6 a ha) (q6 a ha)⟩
end Go.X
namespace Go.Proofs.YtbnbcimjapiicaaDoor.Tr
open Go Go.X Go.RowKit
def Pr.er (p : Pr) : Pr := ⟨.slice none 0 0, p.decls, .slice none 0 0, p.body.map St.er⟩
theorem Pr.er_may (p : Pr) : p.er.may = p.may := by
  unfold Pr.may Pr.er
  rw [St.deepAt_er, St.mayL_er]
theorem Pr.er_fits (p : Pr) (h : p.fits) : p.er.fits := by
  unfold Pr.fits Pr.er at *
  rw [St.szL_er]
  exact h
end Go.Proofs.YtbnbcimjapiicaaDoor.Tr
