/- The framework X, part 1: a weakest precondition that is computed (sx), over frames as functions from slots to values; its soundness over the kit's Code.wp. -/
import Derived.WalkKit
import Derived.KernelRfl
import Derived.Deep.Quiet
import Derived.StillTail
set_option linter.unusedVariables false
set_option linter.unusedSimpArgs false
namespace Go.X
open Go

abbrev Sl := Nat → Value

def ev (ρ : Sl) : Operand → Value
  | .tmp t => ρ t
  | .const v => v
  | .global g => .pointer (some ⟨g, 0, none⟩)
  | .func f => .func (.func f) #[] #[]

def up (ρ : Sl) (d : Nat) (v : Value) : Sl := fun i => cond (Nat.beq i d) v (ρ i)
def upo (ρ : Sl) (d : Option Nat) (v : Value) : Sl :=
  match d with
  | some d => up ρ d v
  | none => ρ

/-- The machine's frame has n slots, no deferred calls, and reads as ρ. -/
structure Lk (n : Nat) (a : Act) (ρ : Sl) : Prop where
  size : a.tmps.size = n
  defers : a.defers = []
  val : ∀ i, a.tmps.getD i undef = ρ i

theorem Lk.ev {n : Nat} {a : Act} {ρ : Sl} (h : Lk n a ρ) (x : Operand) : a.eval x = ev ρ x := by
  cases x with
  | tmp t => exact h.val t
  | const v => rfl
  | global g => rfl
  | func f => rfl

theorem Lk.put {n : Nat} {a : Act} {ρ : Sl} (h : Lk n a ρ) (d : Option Nat) (v : Value) (hd : ∀ k, d = some k → k < n) : Lk n (a.put d v) (upo ρ d v) := by
  cases d with
  | none => exact h
  | some k =>
    have hk := hd k rfl
    refine ⟨?_, h.defers, fun i => ?_⟩
    · simp only [Act.put]
      rw [Array.size_setIfInBounds]; exact h.size
    · have hv := h.val i
      simp only [Act.put, upo, up]
      by_cases e : i = k
      · subst e
        have hlt : i < a.tmps.size := by rw [h.size]; exact hk
        simp [Array.getD_eq_getD_getElem?, hlt, Nat.beq_refl]
      · have hb : Nat.beq i k = false := by
          cases hq : Nat.beq i k with
          | false => rfl
          | true => exact absurd (Nat.eq_of_beq_eq_true hq) e
        rw [hb]
        simp only [cond_false]
        simp only [Array.getD_eq_getD_getElem?] at hv ⊢
        rw [Array.getElem?_setIfInBounds]
        rw [if_neg (fun q => e q.symm)]
        simpa using hv

/-- What an operation's run comes to. -/
def OpK (P : Program) (s : Sem Next) (w : World) (K : Value → World → Prop) : Prop :=
  match s.run P w with
  | .ok (.value v) w' => K v w'
  | .ok .skip w' => K undef w'
  | .ok (.enter f args) w' => Calls P f args w' fun e w'' => ∃ v, e = .returned v ∧ K v w''
  | _ => False

def GuardK (v : Value) (b : Bool) (A B : Prop) : Prop := ∃ t, v = .bool t ∧ (t = b → A) ∧ (t ≠ b → B)
def CondK (v : Value) (A B : Prop) : Prop := ∃ t, v = .bool t ∧ (t = true → A) ∧ (t = false → B)

def GOp (P : Program) (g : Value) (b : Bool) (s : Sem Next) (w : World) (K : Value → World → Prop) : Prop := GuardK g b (OpK P s w K) (K undef w)

/-- The nil check, under a name. -/
def nilCk (v : Value) : Sem Next := execOp (fun _ => v) { dst := none, op := .nilCheck (.tmp 0), type := 0, pos := "", after := #[], guard := none }

/-- execOp, its arrays of operands gone through as lists. -/
def exo (ρ : Operand → Value) (op : Op) (ty : TypeId) : Sem Next :=
  match op with
  | .build t parts => do pure (.value (← Instr.build t (parts.toList.map fun p => (p.1, ρ p.2)).toArray))
  | .buildSlice t len parts => do pure (.value (← Instr.buildSlice t len (parts.toList.map fun p => (p.1, ρ p.2)).toArray))
  | .makeFunc fn first captured => do pure (.value (← Instr.makeFunc fn (first.toList.map ρ).toArray (captured.toList.map ρ).toArray))
  | .nilCheck x => nilCk (ρ x)
  | .call { callee := .builtin b, args, argTypes } => builtin b argTypes ty ((args.toList.map fun | .const _ => true | _ => false).toArray) (args.toList.map ρ).toArray
  | .call { callee := .value f, args, .. } => do let d ← Deferred.ofValue (ρ f) (args.toList.map ρ).toArray; invoke d.target d.args
  | op => execOp ρ { dst := none, op, type := ty, pos := "", after := #[], guard := none }

theorem arr_map {α β : Type} (f : α → β) (a : Array α) : a.map f = (a.toList.map f).toArray := by
  rw [← Array.toList_map]

theorem exo_eq (ρ : Operand → Value) (o : Oper) : exo ρ o.op o.type = execOp ρ o := by
  obtain ⟨dst, op, ty, pos, after, guard⟩ := o
  cases op with
  | build t parts => simp only [exo, execOp, arr_map]
  | buildSlice t len parts => simp only [exo, execOp, arr_map]
  | makeFunc fn first captured => simp only [exo, execOp, arr_map]
  | nilCheck x => rfl
  | call c =>
    obtain ⟨callee, args, argTypes⟩ := c
    cases callee with
    | value f => simp only [exo, execOp, resolve, arr_map]
    | invoke r m => rfl
    | builtin b =>
      simp only [exo, execOp, resolve, arr_map]
      rfl
  | _ => rfl

def gv (ops : Array Oper) (ρ : Sl) (j : Nat) : Value :=
  match (ops[j]?).bind (·.dst) with
  | some d => ρ d
  | none => undef

/-- A move or an assignment hands on this. -/
def mvOf : Op → Option Operand
  | .move x => some x
  | .assign x => some x
  | _ => none

def sx1 (P : Program) (ops : Array Oper) (o : Oper) (N : Sl → World → Prop) (ρ : Sl) (w : World) : Prop :=
  match o with
  | ⟨dst, op, ty, _, _, g⟩ =>
    match g, dst with
    | none, some d => match mvOf op with
      | some x => N (up ρ d (ev ρ x)) w
      | none => OpK P (exo (ev ρ) op ty) w fun v w' => N (up ρ d v) w'
    | none, none => OpK P (exo (ev ρ) op ty) w fun _ w' => N ρ w'
    | some (j, b), some d => GOp P (gv ops ρ j) b (exo (ev ρ) op ty) w fun v w' => N (up ρ d v) w'
    | some (j, b), none => GOp P (gv ops ρ j) b (exo (ev ρ) op ty) w fun _ w' => N ρ w'

/-- The operations by their numbers, in a given order. -/
def sxIdx (P : Program) (ops : Array Oper) (K : Sl → World → Prop) : List Nat → Sl → World → Prop
  | [], ρ, w => K ρ w
  | i :: r, ρ, w =>
    match ops[i]? with
    | none => sxIdx P ops K r ρ w
    | some o => sx1 P ops o (sxIdx P ops K r) ρ w

/-- The operations in the order of the text. -/
def sxL (P : Program) (ops : Array Oper) (K : Sl → World → Prop) : List Oper → Sl → World → Prop
  | [], ρ, w => K ρ w
  | o :: r, ρ, w => sx1 P ops o (sxL P ops K r) ρ w

/-- The post that the kit's wp is asked for. -/
def lift (n : Nat) (K : Exit → Sl → World → Prop) : Exit → Act → World → Prop := fun e a w => ∃ ρ, Lk n a ρ ∧ K e ρ w

/-- The kit's wp, over slots. -/
def W (P : Program) (n : Nat) (c : Code) (K : Exit → Sl → World → Prop) (ρ : Sl) (w : World) : Prop :=
  ∀ a, Lk n a ρ → c.wp P (lift n K) a w

def seqK (N : Sl → World → Prop) (K : Exit → Sl → World → Prop) : Exit → Sl → World → Prop
  | .normal => N
  | e => K e
def blkK (id : Nat) (K : Exit → Sl → World → Prop) : Exit → Sl → World → Prop
  | .exit i => if Nat.beq i id then K .normal else K (.exit i)
  | e => K e

def sx (P : Program) (n : Nat) : Code → (Exit → Sl → World → Prop) → Sl → World → Prop
  | .skip, K, ρ, w => K .normal ρ w
  | .region id ops false, K, ρ, w => sxL P ops (K .normal) ops.toList ρ w
  | .seq a b, K, ρ, w => sx P n a (seqK (sx P n b K) K) ρ w
  | .cond c x y, K, ρ, w => CondK (ev ρ c) (sx P n x K ρ w) (sx P n y K ρ w)
  | .block id c, K, ρ, w => sx P n c (blkK id K) ρ w
  | .exit id, K, ρ, w => K (.exit id) ρ w
  | .ret, K, ρ, w => K .ret ρ w
  | .label _, K, ρ, w => K .normal ρ w
  | c, K, ρ, w => W P n c K ρ w

def dstOk (n : Nat) : Code → Bool
  | .region _ ops _ => ops.toList.all fun o => match o.dst with | some d => Nat.blt d n | none => true
  | .seq a b => dstOk n a && dstOk n b
  | .cond _ a b => dstOk n a && dstOk n b
  | .block _ c => dstOk n c
  | .scope c => dstOk n c
  | .loop c => dstOk n c
  | _ => true

theorem yielded_gv {n : Nat} {a : Act} {ρ : Sl} (h : Lk n a ρ) (ops : Array Oper) (j : Nat) (t : Bool) (hv : gv ops ρ j = .bool t) : yielded ops a.tmps j = some t := by
  unfold gv at hv
  unfold yielded
  cases hq : (ops[j]?).bind (·.dst) with
  | none => rw [hq] at hv; simp [undef] at hv
  | some d =>
    rw [hq] at hv
    dsimp only at hv
    have hd := h.val d
    rw [hv] at hd
    simp only [Option.bind_some]
    cases hz : a.tmps[d]? with
    | none => simp [Array.getD_eq_getD_getElem?, hz, undef] at hd
    | some v => simp [Array.getD_eq_getD_getElem?, hz] at hd; rw [hd]

theorem opK_wp {P : Program} {n : Nat} {a : Act} {ρ : Sl} {o : Oper} {w : World} {K : Value → World → Prop} {next : Act → World → Prop} {Q : Exit → Act → World → Prop}
    (h : Lk n a ρ) (hk : OpK P (exo (ev ρ) o.op o.type) w K) (hn : ∀ v w', K v w' → next (a.put o.dst v) w') : o.wp P a w next Q := by
  have he : a.eval = ev ρ := funext (fun x => h.ev x)
  unfold Oper.wp
  rw [he]
  rw [exo_eq] at hk
  unfold OpK at hk
  unfold Oper.upon
  split at hk
  · rename_i v w' hr; rw [hr]; exact hn _ _ hk
  · rename_i w' hr; rw [hr]; exact hn _ _ hk
  · rename_i f args w' hr
    rw [hr]
    refine hk.mono ?_
    rintro e w'' ⟨v, rfl, hv⟩
    exact hn _ _ hv
  · exact hk.elim

theorem sx1_eq (P : Program) (ops : Array Oper) (o : Oper) (N : Sl → World → Prop) (ρ : Sl) (w : World) :
    sx1 P ops o N ρ w = match o.guard with
      | none => OpK P (exo (ev ρ) o.op o.type) w fun v w' => N (upo ρ o.dst v) w'
      | some (j, b) => GOp P (gv ops ρ j) b (exo (ev ρ) o.op o.type) w fun v w' => N (upo ρ o.dst v) w' := by
  obtain ⟨dst, op, ty, pos, after, guard⟩ := o
  cases guard with
  | none =>
    cases dst with
    | none => rfl
    | some d => cases op <;> rfl
  | some jb => cases dst <;> rfl

theorem sx1_wp {P : Program} {n : Nat} {ops : Array Oper} {Q : Exit → Act → World → Prop} {o : Oper} {N : Sl → World → Prop} {next : Act → World → Prop} {a : Act} {ρ : Sl} {w : World}
    (hd : ∀ k, o.dst = some k → k < n) (hl : Lk n a ρ) (h : sx1 P ops o N ρ w) (hn : ∀ a ρ w, Lk n a ρ → N ρ w → next a w) :
    if Region.wanted o (yielded ops a.tmps) then o.wp P a w next Q ∨ (o.asks P a w ∧ LetsOut Q) else next (a.put o.dst undef) w := by
  rw [sx1_eq] at h
  cases hg : o.guard with
  | none =>
    rw [hg] at h
    have hw : Region.wanted o (yielded ops a.tmps) = true := by unfold Region.wanted; rw [hg]
    rw [hw]
    simp only [if_true]
    exact .inl (opK_wp hl h fun v w' hv => hn _ _ _ (hl.put _ _ hd) hv)
  | some jb =>
    obtain ⟨j, b⟩ := jb
    rw [hg] at h
    obtain ⟨t, hv, h1, h2⟩ := h
    have hy := yielded_gv hl ops j t hv
    by_cases htb : t = b
    · have hw : Region.wanted o (yielded ops a.tmps) = true := by unfold Region.wanted; rw [hg]; dsimp only; rw [hy, htb]; simp
      rw [hw]
      simp only [if_true]
      exact .inl (opK_wp hl (h1 htb) fun v w' hv => hn _ _ _ (hl.put _ _ hd) hv)
    · have hw : Region.wanted o (yielded ops a.tmps) = false := by
        unfold Region.wanted; rw [hg]; dsimp only; rw [hy]
        cases t <;> cases b <;> simp_all
      rw [hw]
      simp only [Bool.false_eq_true, if_false]
      exact hn _ _ _ (hl.put _ _ hd) (h2 htb)

theorem dst_lt {n : Nat} {ops : Array Oper} (hd : (ops.toList.all fun o => match o.dst with | some d => Nat.blt d n | none => true) = true) {i : Nat} {o : Oper} (ho : ops[i]? = some o) : ∀ k, o.dst = some k → k < n := by
  intro k hk
  have hm : o ∈ ops.toList := by
    obtain ⟨hi, hv⟩ := Array.getElem?_eq_some_iff.1 ho
    rw [← hv]; exact Array.getElem_mem_toList hi
  have := List.all_eq_true.1 hd o hm
  rw [hk] at this
  exact Nat.lt_of_lt_of_le (Nat.lt_succ_self _) (Nat.le_of_ble_eq_true this)

theorem sxIdx_wp {P : Program} {n : Nat} {ops : Array Oper} {K : Sl → World → Prop} {Q : Exit → Act → World → Prop}
    (hd : (ops.toList.all fun o => match o.dst with | some d => Nat.blt d n | none => true) = true)
    (hQ : ∀ a ρ w, Lk n a ρ → K ρ w → Q .normal a w) (l : List Nat) : ∀ a ρ w, Lk n a ρ → sxIdx P ops K l ρ w → wpOps P ops Q l a w := by
  induction l with
  | nil => intro a ρ w hl h; exact hQ a ρ w hl h
  | cons i r ih =>
    intro a ρ w hl h
    unfold sxIdx at h
    unfold wpOps
    cases ho : ops[i]? with
    | none => rw [ho] at h; exact ih a ρ w hl h
    | some o =>
      rw [ho] at h
      exact sx1_wp (dst_lt hd ho) hl h ih

theorem sxL_wp {P : Program} {n : Nat} {ops : Array Oper} {K : Sl → World → Prop} {Q : Exit → Act → World → Prop}
    (hd : (ops.toList.all fun o => match o.dst with | some d => Nat.blt d n | none => true) = true)
    (hQ : ∀ a ρ w, Lk n a ρ → K ρ w → Q .normal a w) (m : Nat) : ∀ k a ρ w, k + m = ops.size → Lk n a ρ → sxL P ops K (ops.toList.drop k) ρ w → wpOps P ops Q (List.range' k m) a w := by
  induction m with
  | zero =>
    intro k a ρ w hk hl h
    rw [List.drop_of_length_le (by simp; omega)] at h
    exact hQ a ρ w hl h
  | succ m ih =>
    intro k a ρ w hk hl h
    have hlt : k < ops.toList.length := by simp; omega
    rw [List.drop_eq_getElem_cons hlt] at h
    have ho : ops[k]? = some ops.toList[k] := by
      rw [← Array.getElem?_toList]
      exact List.getElem?_eq_getElem hlt
    show wpOps P ops Q (k :: List.range' (k + 1) m) a w
    unfold wpOps
    rw [ho]
    exact sx1_wp (dst_lt hd ho) hl h (fun a ρ w hl hq => ih (k + 1) a ρ w (by omega) hl hq)

theorem sx_W {P : Program} {n : Nat} : ∀ (c : Code) (K : Exit → Sl → World → Prop) (ρ : Sl) (w : World), dstOk n c = true → sx P n c K ρ w → W P n c K ρ w
  | .skip, K, ρ, w, _, h => fun a hl => wp_skip ⟨ρ, hl, h⟩
  | .region id ops false, K, ρ, w, hd, h => fun a hl => wp_region (by rw [List.range_eq_range']; exact sxL_wp hd (fun a ρ w hl hk => ⟨ρ, hl, hk⟩) ops.size 0 a ρ w (by omega) hl h)
  | .region id ops true, K, ρ, w, hd, h => h
  | .seq x y, K, ρ, w, hd, h => by
    intro a hl
    simp only [dstOk, Bool.and_eq_true] at hd
    refine wp_seq (wp_mono (sx_W x _ ρ w hd.1 h a hl) ?_)
    rintro e a' w' ⟨ρ', hl', hk⟩
    cases e with
    | normal => exact sx_W y K ρ' w' hd.2 hk a' hl'
    | exit id => exact ⟨ρ', hl', hk⟩
    | goto l => exact ⟨ρ', hl', hk⟩
    | ret => exact ⟨ρ', hl', hk⟩
    | panic c => exact ⟨ρ', hl', hk⟩
    | outgrown => exact ⟨ρ', hl', hk⟩
  | .cond c x y, K, ρ, w, hd, h => by
    intro a hl
    simp only [dstOk, Bool.and_eq_true] at hd
    obtain ⟨t, hv, h1, h2⟩ := h
    exact wp_cond_split ((hl.ev c).trans hv) (fun ht => sx_W x K ρ w hd.1 (h1 ht) a hl) (fun ht => sx_W y K ρ w hd.2 (h2 ht) a hl)
  | .block id c, K, ρ, w, hd, h => by
    intro a hl
    refine wp_block (wp_mono (sx_W c _ ρ w hd h a hl) ?_)
    rintro e a' w' ⟨ρ', hl', hk⟩
    cases e with
    | exit i =>
      simp only [Exit.inBlock]
      unfold blkK at hk
      dsimp only at hk
      by_cases e : i = id
      · subst e
        rw [if_pos rfl]
        rw [if_pos (Nat.beq_refl i)] at hk
        exact ⟨ρ', hl', hk⟩
      · rw [if_neg e]
        rw [if_neg (fun q => e (Nat.eq_of_beq_eq_true q))] at hk
        exact ⟨ρ', hl', hk⟩
    | normal => exact ⟨ρ', hl', hk⟩
    | goto l => exact ⟨ρ', hl', hk⟩
    | ret => exact ⟨ρ', hl', hk⟩
    | panic c => exact ⟨ρ', hl', hk⟩
    | outgrown => exact ⟨ρ', hl', hk⟩
  | .exit id, K, ρ, w, hd, h => fun a hl => wp_exit ⟨ρ, hl, h⟩
  | .ret, K, ρ, w, hd, h => fun a hl => wp_ret ⟨ρ, hl, h⟩
  | .label _, K, ρ, w, hd, h => fun a hl => wp_label ⟨ρ, hl, h⟩
  | .loop c, K, ρ, w, hd, h => h
  | .rangeFunc .., K, ρ, w, hd, h => h
  | .scope _, K, ρ, w, hd, h => h
  | .goto _, K, ρ, w, hd, h => h
  | .refuse _, K, ρ, w, hd, h => h

theorem W_mono {P : Program} {n : Nat} {c : Code} {K K' : Exit → Sl → World → Prop} {ρ : Sl} {w : World} (h : W P n c K ρ w) (hk : ∀ e ρ w, K e ρ w → K' e ρ w) : W P n c K' ρ w :=
  fun a hl => wp_mono (h a hl) fun e a' w' ⟨ρ', hl', q⟩ => ⟨ρ', hl', hk _ _ _ q⟩

/-- A loop: a relation and a measure. -/
theorem W_loop {P : Program} {n : Nat} {c : Code} {K : Exit → Sl → World → Prop} {ρ : Sl} {w : World} (hd : dstOk n c = true) (I : Sl → World → Prop) (μ : Sl → World → Nat) (h0 : I ρ w)
    (round : ∀ ρ w, I ρ w → sx P n c (seqK (fun ρ' w' => I ρ' w' ∧ μ ρ' w' < μ ρ w) K) ρ w) : W P n (.loop c) K ρ w := by
  intro a hl
  let M : Act → World → Nat := fun a w => μ (fun i => a.tmps.getD i undef) w
  have hM : ∀ a ρ w, Lk n a ρ → M a w = μ ρ w := by
    intro a ρ w hl
    have : (fun i => a.tmps.getD i undef) = ρ := funext hl.val
    show μ (fun i => a.tmps.getD i undef) w = μ ρ w
    rw [this]
  refine wp_loop (fun a w => ∃ ρ, Lk n a ρ ∧ I ρ w) M ⟨ρ, hl, h0⟩ ?_
  rintro a w ⟨ρ, hl, hI⟩
  refine wp_mono (sx_W c _ ρ w hd (round ρ w hI) a hl) ?_
  rintro e a' w' ⟨ρ', hl', hk⟩
  cases e with
  | normal => exact ⟨⟨ρ', hl', hk.1⟩, by rw [hM a' ρ' w' hl', hM a ρ w hl]; exact hk.2⟩
  | exit id => exact ⟨ρ', hl', hk⟩
  | goto l => exact ⟨ρ', hl', hk⟩
  | ret => exact ⟨ρ', hl', hk⟩
  | panic c => exact ⟨ρ', hl', hk⟩
  | outgrown => exact ⟨ρ', hl', hk⟩

/-! ### Regions that draw their order -/
def dstsIn (n : Nat) (ops : Array Oper) : Bool := ops.toList.all fun o => match o.dst with | some d => Nat.blt d n | none => true

/-- One value in every world of a class; what is not a call leaves the world as it is. -/
def QK (P : Program) (C : World → Prop) (s : Sem Next) (K : Value → Prop) : Prop := ∃ v, (∀ w, C w → Oper.quietUpon P C w v (s.run P w)) ∧ K v
def QG (P : Program) (C : World → Prop) (g : Value) (b : Bool) (s : Sem Next) (K : Value → Prop) : Prop := GuardK g b (QK P C s K) (K undef)

def sxq1 (P : Program) (C : World → Prop) (ops : Array Oper) (o : Oper) (N : Sl → Prop) (ρ : Sl) : Prop :=
  match o with
  | ⟨dst, op, ty, _, _, g⟩ =>
    match g, dst with
    | none, some d => match mvOf op with
      | some x => N (up ρ d (ev ρ x))
      | none => QK P C (exo (ev ρ) op ty) fun v => N (up ρ d v)
    | none, none => QK P C (exo (ev ρ) op ty) fun _ => N ρ
    | some (j, b), some d => QG P C (gv ops ρ j) b (exo (ev ρ) op ty) fun v => N (up ρ d v)
    | some (j, b), none => QG P C (gv ops ρ j) b (exo (ev ρ) op ty) fun _ => N ρ
def sxq (P : Program) (C : World → Prop) (ops : Array Oper) (K : Sl → Prop) : List Oper → Sl → Prop
  | [], ρ => K ρ
  | o :: r, ρ => sxq1 P C ops o (sxq P C ops K r) ρ

theorem sxq1_eq (P : Program) (C : World → Prop) (ops : Array Oper) (o : Oper) (N : Sl → Prop) (ρ : Sl) (h : sxq1 P C ops o N ρ) :
    match o.guard with
      | none => QK P C (exo (ev ρ) o.op o.type) fun v => N (upo ρ o.dst v)
      | some (j, b) => QG P C (gv ops ρ j) b (exo (ev ρ) o.op o.type) fun v => N (upo ρ o.dst v) := by
  obtain ⟨dst, op, ty, pos, after, guard⟩ := o
  cases guard with
  | none =>
    cases dst with
    | none => exact h
    | some d =>
      cases op <;> first | exact h | exact ⟨_, fun w _ => ⟨rfl, rfl⟩, h⟩
  | some jb => cases dst <;> exact h

theorem sxq1_wp {P : Program} {n : Nat} {C : World → Prop} {ops : Array Oper} {o : Oper} {N : Sl → Prop} {next : Act → Prop} {a : Act} {ρ : Sl}
    (hd : ∀ k, o.dst = some k → k < n) (hl : Lk n a ρ) (h : sxq1 P C ops o N ρ) (hn : ∀ a ρ, Lk n a ρ → N ρ → next a) :
    if Region.wanted o (yielded ops a.tmps) then o.quiet P a C next else next (a.put o.dst undef) := by
  have he : a.eval = ev ρ := funext (fun x => hl.ev x)
  have h := sxq1_eq P C ops o N ρ h
  have key : ∀ (hk : QK P C (exo (ev ρ) o.op o.type) fun v => N (upo ρ o.dst v)), o.quiet P a C next := by
    rintro ⟨v, h1, h2⟩
    refine ⟨v, fun w hw => ?_, hn _ _ (hl.put _ _ hd) h2⟩
    unfold Oper.quietAt
    rw [he, ← exo_eq]
    exact h1 w hw
  cases hg : o.guard with
  | none =>
    rw [hg] at h
    have hw : Region.wanted o (yielded ops a.tmps) = true := by unfold Region.wanted; rw [hg]
    rw [hw]
    simp only [if_true]
    exact key h
  | some jb =>
    obtain ⟨j, b⟩ := jb
    rw [hg] at h
    obtain ⟨t, hv, h1, h2⟩ := h
    have hy := yielded_gv hl ops j t hv
    by_cases htb : t = b
    · have hw : Region.wanted o (yielded ops a.tmps) = true := by unfold Region.wanted; rw [hg]; dsimp only; rw [hy, htb]; simp
      rw [hw]
      simp only [if_true]
      exact key (h1 htb)
    · have hw : Region.wanted o (yielded ops a.tmps) = false := by
        unfold Region.wanted; rw [hg]; dsimp only; rw [hy]
        cases t <;> cases b <;> simp_all
      rw [hw]
      simp only [Bool.false_eq_true, if_false]
      exact hn _ _ (hl.put _ _ hd) (h2 htb)

theorem sxq_quiet {P : Program} {n : Nat} {C : World → Prop} {ops : Array Oper} {K : Sl → Prop} {Q : Act → Prop} (hQ : ∀ a ρ, Lk n a ρ → K ρ → Q a) : ∀ (l : List Oper) a ρ,
    (l.all fun o => match o.dst with | some d => Nat.blt d n | none => true) = true → Lk n a ρ → sxq P C ops K l ρ → wpQuiet P ops C Q l a
  | [], a, ρ, _, hl, h => hQ a ρ hl h
  | o :: r, a, ρ, hd, hl, h => by
    simp only [List.all_cons, Bool.and_eq_true] at hd
    refine sxq1_wp (n := n) (fun k hk => ?_) hl h (fun a ρ hl hq => sxq_quiet hQ r a ρ hd.2 hl hq)
    have := hd.1
    rw [hk] at this
    exact Nat.lt_of_lt_of_le (Nat.lt_succ_self _) (Nat.le_of_ble_eq_true this)

theorem quiet_still {P : Program} {w : World} {ops : Array Oper} {Q : Act → Prop} : ∀ (l : List Oper) (a : Act), wpQuiet P ops (fun w' => w' = w) Q l a → wpStill P ops w Q l a
  | [], a, h => h
  | o :: r, a, h => by
    unfold wpQuiet at h
    unfold wpStill
    split at h
    · rename_i hw
      rw [if_pos hw]
      obtain ⟨v, h1, h2⟩ := h
      have h3 := h1 w rfl
      unfold Oper.quietAt at h3
      unfold Oper.still
      generalize (execOp a.eval o).run P w = x at *
      cases x with
      | halt x w' => exact h3.elim
      | ok x w' =>
        cases x <;> first | exact h3.elim | skip
        case value u => obtain ⟨rfl, rfl⟩ := h3; exact ⟨rfl, quiet_still r _ h2⟩
        case skip => obtain ⟨rfl, rfl⟩ := h3; exact ⟨rfl, quiet_still r _ h2⟩
        case enter f args => obtain ⟨rfl, hc⟩ := h3; exact ⟨rfl, v, hc, quiet_still r _ h2⟩
    · rename_i hw
      rw [if_neg hw]
      exact quiet_still r _ h

/-- All operations are quiet: one walk in the order of the text. -/
theorem W_quiet {P : Program} {n : Nat} {id : Nat} {ops : Array Oper} {K : Exit → Sl → World → Prop} {ρ : Sl} {w : World} (C : World → Prop) (hd : dstsIn n ops = true)
    (hm : P.follows .mixedOrders = true) (hB : Region.lexB .any ops = true) (hC : C { w with drawn := w.drawn + 1 })
    (h : sxq P C ops (fun ρ' => ∀ w', C w' → K .normal ρ' w') ops.toList ρ) : W P n (.region id ops true) K ρ w := by
  intro a hl
  refine wp_region_quiet (C := C) hm hB hC ?_
  exact sxq_quiet (n := n) (fun a ρ hl hq w' hw' => ⟨ρ, hl, hq w' hw'⟩) _ a ρ hd hl h

theorem sxL_list {P : Program} {n : Nat} {ops : Array Oper} {K : Sl → World → Prop} {Q : Exit → Act → World → Prop} (hQ : ∀ a ρ w, Lk n a ρ → K ρ w → Q .normal a w) : ∀ (l : List Oper) a ρ w,
    (l.all fun o => match o.dst with | some d => Nat.blt d n | none => true) = true → Lk n a ρ → sxL P ops K l ρ w → wpList P ops Q l a w
  | [], a, ρ, w, _, hl, h => hQ a ρ w hl h
  | o :: r, a, ρ, w, hd, hl, h => by
    simp only [List.all_cons, Bool.and_eq_true] at hd
    unfold wpList
    refine sx1_wp (n := n) (fun k hk => ?_) hl h (fun a ρ w hl hq => sxL_list hQ r a ρ w hd.2 hl hq)
    have := hd.1
    rw [hk] at this
    exact Nat.lt_of_lt_of_le (Nat.lt_succ_self _) (Nat.le_of_ble_eq_true this)

/-- m operations that are quiet (the world is just as it was), then the others one behind the other. -/
theorem W_tail {P : Program} {n : Nat} {id : Nat} {ops : Array Oper} {K : Exit → Sl → World → Prop} {ρ : Sl} {w : World} (m : Nat) (hd : dstsIn n ops = true)
    (hm : P.follows .mixedOrders = true) (hB : Region.lexTailB .any ops m = true)
    (h : sxq P (fun w' => w' = { w with drawn := w.drawn + 1 }) ops (fun ρ' => sxL P ops (K .normal) (ops.toList.drop m) ρ' { w with drawn := w.drawn + 1 }) (ops.toList.take m) ρ) : W P n (.region id ops true) K ρ w := by
  intro a hl
  obtain ⟨l⟩ := ops
  have ht : ((l.take m).all fun o => match o.dst with | some d => Nat.blt d n | none => true) = true := List.all_eq_true.2 fun o ho => List.all_eq_true.1 hd o (List.mem_of_mem_take ho)
  have hdr : ((l.drop m).all fun o => match o.dst with | some d => Nat.blt d n | none => true) = true := List.all_eq_true.2 fun o ho => List.all_eq_true.1 hd o (List.mem_of_mem_drop ho)
  refine wp_region_still_tail m hm hB (quiet_still _ _ ?_)
  refine sxq_quiet (n := n) (fun a ρ hl hq => ?_) _ a ρ ht hl h
  exact sxL_list (fun a ρ w hl hq => ⟨ρ, hl, hq⟩) _ a ρ _ hdr hl hq

/-! ### Functions -/
def rho0 (args : List Value) : Sl := fun i => args.getD i undef

/-- The results, one behind the other; those in memory are loaded. -/
def resK (P : Program) (ρ : Sl) (k : List Value → World → Prop) : List ResultVar → World → Prop
  | [], w => k [] w
  | .tmp t :: r, w => resK P ρ (fun vs w => k (ρ t :: vs) w) r w
  | .cell x t :: r, w => ∃ v, (do loadVar t (← asAddr (ρ x)) : Sem Value).run P w = .ok v w ∧ resK P ρ (fun vs w => k (v :: vs) w) r w
def packV : List Value → Value
  | [v] => v
  | vs => .tuple vs.toArray

def retK (P : Program) (rs : List ResultVar) (R : Value → World → Prop) : Exit → Sl → World → Prop
  | .normal, ρ, w | .ret, ρ, w => resK P ρ (fun vs w => R (packV vs) w) rs w
  | _, _, _ => False

theorem resK_run {P : Program} {ρ : Sl} {w : World} (g : ResultVar → Sem Value) (hg : ∀ t, g (.tmp t) = Sem.pure (ρ t)) (hc : ∀ x t, g (.cell x t) = (do loadVar t (← asAddr (ρ x)))) (l : List ResultVar) :
    ∀ (k : List Value → World → Prop), resK P ρ k l w → ∃ vs, (l.mapM g).run P w = .ok vs w ∧ k vs w := by
  induction l with
  | nil => intro k h; exact ⟨[], rfl, h⟩
  | cons x r ih =>
    intro k h
    cases x with
    | tmp t =>
      obtain ⟨vs, hr, hk⟩ := ih _ h
      refine ⟨ρ t :: vs, ?_, hk⟩
      rw [List.mapM_cons, hg, Sem.run_bind]
      show ((List.mapM g r >>= fun us => pure (ρ t :: us)) : Sem (List Value)).run P w = _
      rw [Sem.run_bind, hr]
      rfl
    | cell x t =>
      obtain ⟨v, hv, h⟩ := h
      obtain ⟨vs, hr, hk⟩ := ih _ h
      refine ⟨v :: vs, ?_, hk⟩
      rw [List.mapM_cons, hc, Sem.run_bind, hv]
      simp only [Result.andThen_ok, Sem.run_bind, hr]
      rfl

theorem results_of_resK {P : Program} {n : Nat} {fn : Func} {a : Act} {ρ : Sl} {w : World} {R : Value → World → Prop} (hl : Lk n a ρ) (h : resK P ρ (fun vs w => R (packV vs) w) fn.results.toList w) :
    ∃ v, (results fn a.tmps).run P w = .ok v w ∧ R v w := by
  have key : ∀ g : ResultVar → Sem Value, (∀ t, g (.tmp t) = Sem.pure (ρ t)) → (∀ x t, g (.cell x t) = (do loadVar t (← asAddr (ρ x)))) →
      ∃ v, (do let vs ← List.toArray <$> fn.results.toList.mapM g; pure (if h : vs.size = 1 then vs[0] else .tuple vs) : Sem Value).run P w = .ok v w ∧ R v w := by
    intro g hg hc
    obtain ⟨vs, hr, hk⟩ := resK_run (P := P) (ρ := ρ) (w := w) g hg hc fn.results.toList _ h
    refine ⟨packV vs, ?_, hk⟩
    rw [Sem.run_bind, Sem.run_map, hr]
    simp only [Result.andThen_ok]
    match vs with
    | [] => rfl
    | [v] => rfl
    | v :: u :: r => rfl
  unfold results
  rw [Array.mapM_eq_mapM_toList]
  refine key _ ?_ ?_
  · intro t; rw [← hl.val t]; rfl
  · intro x t; rw [← hl.val x]

theorem calls_of_sx {P : Program} {f : FuncId} {fn : Func} {c : Code} {args : Array Value} {w : World} {R : Value → World → Prop} {n : Nat}
    (hf : P.funcs[f]? = some fn) (hb : fn.body = some c) (hn : fn.ntmps = n) (hsz : args.size ≤ n) (hd : dstOk n c = true)
    (h : sx P n c (retK P fn.results.toList R) (rho0 args.toList) w) : Calls P f args w fun e w' => ∃ v, e = .returned v ∧ R v w' := by
  refine calls_of_wp hf hb (wp_mono (sx_W c _ _ w hd h { tmps := args ++ Array.replicate (fn.ntmps - args.size) undef, defers := [] } ⟨?_, rfl, fun i => ?_⟩) ?_)
  · simp [hn]; omega
  · simp only [rho0, Array.getD_eq_getD_getElem?, List.getD_eq_getElem?_getD, Array.getElem?_append, Array.getElem?_toList]
    by_cases hi : i < args.size
    · rw [if_pos hi]
    · rw [if_neg hi, Array.getElem?_replicate, Array.getElem?_eq_none (xs := args) (by omega)]
      split <;> rfl
  · rintro e a' w' ⟨ρ', hl', hk⟩
    have key : ∀ (hq : resK P ρ' (fun vs w => R (packV vs) w) fn.results.toList w'), a'.defers = [] ∧ ∃ v, (results fn a'.tmps).run P w' = .ok v w' ∧ ∃ u, Ending.returned v = .returned u ∧ R u w' := by
      intro hq
      obtain ⟨v, hr, hk⟩ := results_of_resK hl' hq
      exact ⟨hl'.defers, v, hr, v, rfl, hk⟩
    cases e with
    | normal => exact key hk
    | ret => exact key hk
    | exit id => exact hk.elim
    | goto l => exact hk.elim
    | panic c => exact hk.elim
    | outgrown => exact hk.elim

/-! ### The printed formulas' words -/
def VK (P : Program) (s : Sem Value) (w : World) (K : Value → World → Prop) : Prop := OpK P (do pure (Next.value (← s))) w K
def UK (P : Program) (s : Sem Unit) (w : World) (K : Value → World → Prop) : Prop := OpK P (do s; pure Next.skip) w K
def NK (P : Program) (v : Value) (w : World) (K : Value → World → Prop) : Prop := OpK P (nilCk v) w K
def PK (P : Program) (c a b : Value) (w : World) (K : Value → World → Prop) : Prop := OpK P (do pure (Next.value (if ← asBool c then a else b))) w K
def BK (P : Program) (op : BinOp) (t : TypeId) (x y : Operand) (a b : Value) (w : World) (K : Value → World → Prop) : Prop := OpK P (do pure (Next.value (← (do eqGuard op t x y a b; binOp op t a b)))) w K
def CK (P : Program) (f : Value) (args : List Value) (w : World) (K : Value → World → Prop) : Prop := OpK P (do let d ← Deferred.ofValue f args.toArray; invoke d.target d.args) w K
def IK (P : Program) (b : Builtin) (ts : Array TypeId) (t : TypeId) (cs : List Bool) (args : List Value) (w : World) (K : Value → World → Prop) : Prop := OpK P (builtin b ts t cs.toArray args.toArray) w K
def VG (P : Program) (g : Value) (b : Bool) (s : Sem Value) (w : World) (K : Value → World → Prop) : Prop := GOp P g b (do pure (Next.value (← s))) w K
def UG (P : Program) (g : Value) (b : Bool) (s : Sem Unit) (w : World) (K : Value → World → Prop) : Prop := GOp P g b (do s; pure Next.skip) w K
def MG (P : Program) (g : Value) (b : Bool) (v : Value) (w : World) (K : Value → World → Prop) : Prop := GOp P g b (pure (Next.value v)) w K
def NG (P : Program) (g : Value) (b : Bool) (v : Value) (w : World) (K : Value → World → Prop) : Prop := GOp P g b (nilCk v) w K
def PG (P : Program) (g : Value) (gb : Bool) (c a b : Value) (w : World) (K : Value → World → Prop) : Prop := GOp P g gb (do pure (Next.value (if ← asBool c then a else b))) w K
def BG (P : Program) (g : Value) (gb : Bool) (op : BinOp) (t : TypeId) (x y : Operand) (a b : Value) (w : World) (K : Value → World → Prop) : Prop := GOp P g gb (do pure (Next.value (← (do eqGuard op t x y a b; binOp op t a b)))) w K
def CG (P : Program) (g : Value) (gb : Bool) (f : Value) (args : List Value) (w : World) (K : Value → World → Prop) : Prop := GOp P g gb (do let d ← Deferred.ofValue f args.toArray; invoke d.target d.args) w K
def IG (P : Program) (g : Value) (gb : Bool) (b : Builtin) (ts : Array TypeId) (t : TypeId) (cs : List Bool) (args : List Value) (w : World) (K : Value → World → Prop) : Prop := GOp P g gb (builtin b ts t cs.toArray args.toArray) w K
/-- What several ways go on to. -/
def LJ (F : (Sl → World → Prop) → Prop) (J : Sl → World → Prop) : Prop := F J
/-- A part of a code. -/
def cAt : List Nat → Code → Code
  | [], c => c
  | 0 :: p, .seq a _ => cAt p a
  | _ :: p, .seq _ b => cAt p b
  | 0 :: p, .cond _ a _ => cAt p a
  | _ :: p, .cond _ _ b => cAt p b
  | _ :: p, .block _ c => cAt p c
  | _ :: p, .loop c => cAt p c
  | _ :: p, .scope c => cAt p c
  | 0 :: p, .rangeFunc _ _ a _ => cAt p a
  | _ :: p, .rangeFunc _ _ _ b => cAt p b
  | _, c => c
def opsOf : Code → Array Oper
  | .region _ ops _ => ops
  | _ => #[]
def idOf : Code → Nat
  | .region id _ _ => id
  | _ => 0
end Go.X
