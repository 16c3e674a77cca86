/- The framework X, part 1: a weakest precondition that is computed (sx), over frames as functions from slots to values; its soundness over the kit's Code.wp. -/
import Derived.WalkKit
import Derived.KernelRfl
import Derived.Deep.Quiet
import Derived.StillTail
import Derived.RangeFuncIn
import Derived.RangeFuncRecord
set_option linter.unusedVariables false
set_option linter.unusedSimpArgs false
namespace Go.X
open Go

abbrev Sl := Nat → Value

def ev (ρ : Sl) : Operand → Value
  | .tmp t => ρ t
  | .const v => v
  | .global g => .pointer (some ⟨g, 0, none⟩)
  | .func f => .func (.func f) #[] #[]

def up (ρ : Sl) (d : Nat) (v : Value) : Sl := fun i => cond (Nat.beq i d) v (ρ i)
def upo (ρ : Sl) (d : Option Nat) (v : Value) : Sl :=
  match d with
  | some d => up ρ d v
  | none => ρ

/-- Where code runs: in a function's frame, or in a round's (of a range over a function), and what is deferred there. -/
structure At where
  r : Option Nat := none
  D : List Deferred := []
def fn_ : At := {}
def FF (c : At) : Fence := { Fence.wide with round := c.r }

/-- The machine's frame has n slots, so many deferred calls, and reads as ρ. -/
structure Lk (z : At) (n : Nat) (a : Act) (ρ : Sl) : Prop where
  size : a.tmps.size = n
  defers : a.defers = z.D
  val : ∀ i, a.tmps.getD i undef = ρ i

theorem Lk.ev {z : At} {n : Nat} {a : Act} {ρ : Sl} (h : Lk z n a ρ) (x : Operand) : a.eval x = ev ρ x := by
  cases x with
  | tmp t => exact h.val t
  | const v => rfl
  | global g => rfl
  | func f => rfl

theorem Lk.put {z : At} {n : Nat} {a : Act} {ρ : Sl} (h : Lk z n a ρ) (d : Option Nat) (v : Value) (hd : ∀ k, d = some k → k < n) : Lk z n (a.put d v) (upo ρ d v) := by
  cases d with
  | none => exact h
  | some k =>
    have hk := hd k rfl
    refine ⟨?_, h.defers, fun i => ?_⟩
    · simp only [Act.put]
      rw [Array.size_setIfInBounds]; exact h.size
    · have hv := h.val i
      simp only [Act.put, upo, up]
      by_cases e : i = k
      · subst e
        have hlt : i < a.tmps.size := by rw [h.size]; exact hk
        simp [Array.getD_eq_getD_getElem?, hlt, Nat.beq_refl]
      · have hb : Nat.beq i k = false := by
          cases hq : Nat.beq i k with
          | false => rfl
          | true => exact absurd (Nat.eq_of_beq_eq_true hq) e
        rw [hb]
        simp only [cond_false]
        simp only [Array.getD_eq_getD_getElem?] at hv ⊢
        rw [Array.getElem?_setIfInBounds]
        rw [if_neg (fun q => e q.symm)]
        simpa using hv

/-- What an operation's run comes to. -/
def OpK (P : Program) (s : Sem Next) (w : World) (K : Value → World → Prop) : Prop :=
  match s.run P w with
  | .ok (.value v) w' => K v w'
  | .ok .skip w' => K undef w'
  | .ok (.enter f args) w' => Calls P f args w' fun e w'' => ∃ v, e = .returned v ∧ K v w''
  | .ok (.round l f tmps assign body) w' => RoundIn Fence.wide 0 P l f tmps assign body w' fun e w'' => ∃ v, e = .returned v ∧ K v w''
  | _ => False

/-- Is an operation wanted whose guard yields that? -/
def wantB (v : Value) (b : Bool) : Bool := match v with | .bool t => t == b | _ => false
def GuardK (v : Value) (b : Bool) (A B : Prop) : Prop := (wantB v b = true → A) ∧ (wantB v b = false → B)
def CondK (v : Value) (A B : Prop) : Prop := ∃ t, v = .bool t ∧ (t = true → A) ∧ (t = false → B)

def GOp (P : Program) (g : Value) (b : Bool) (s : Sem Next) (w : World) (K : Value → World → Prop) : Prop := GuardK g b (OpK P s w K) (K undef w)

/-- The nil check, under a name. -/
def nilCk (v : Value) : Sem Next := execOp (fun _ => v) { dst := none, op := .nilCheck (.tmp 0), type := 0, pos := "", after := #[], guard := none }

/-- execOp, its arrays of operands gone through as lists. -/
def exo (ρ : Operand → Value) (op : Op) (ty : TypeId) : Sem Next :=
  match op with
  | .build t parts => do pure (.value (← Instr.build t (parts.toList.map fun p => (p.1, ρ p.2)).toArray))
  | .buildSlice t len parts => do pure (.value (← Instr.buildSlice t len (parts.toList.map fun p => (p.1, ρ p.2)).toArray))
  | .makeFunc fn first captured => do pure (.value (← Instr.makeFunc fn (first.toList.map ρ).toArray (captured.toList.map ρ).toArray))
  | .nilCheck x => nilCk (ρ x)
  | .call { callee := .builtin b, args, argTypes } => builtin b argTypes ty ((args.toList.map fun | .const _ => true | _ => false).toArray) (args.toList.map ρ).toArray
  | .call { callee := .value f, args, .. } => do let d ← Deferred.ofValue (ρ f) (args.toList.map ρ).toArray; invoke d.target d.args
  | op => execOp ρ { dst := none, op, type := ty, pos := "", after := #[], guard := none }

theorem arr_map {α β : Type} (f : α → β) (a : Array α) : a.map f = (a.toList.map f).toArray := by
  rw [← Array.toList_map]

theorem exo_eq (ρ : Operand → Value) (o : Oper) : exo ρ o.op o.type = execOp ρ o := by
  obtain ⟨dst, op, ty, pos, after, guard⟩ := o
  cases op with
  | build t parts => simp only [exo, execOp, arr_map]
  | buildSlice t len parts => simp only [exo, execOp, arr_map]
  | makeFunc fn first captured => simp only [exo, execOp, arr_map]
  | nilCheck x => rfl
  | call c =>
    obtain ⟨callee, args, argTypes⟩ := c
    cases callee with
    | value f => simp only [exo, execOp, resolve, arr_map]
    | invoke r m => rfl
    | builtin b =>
      simp only [exo, execOp, resolve, arr_map]
      rfl
  | _ => rfl

def gv (ops : Array Oper) (ρ : Sl) (j : Nat) : Value :=
  match (ops[j]?).bind (·.dst) with
  | some d => ρ d
  | none => undef

/-- A move or an assignment hands on this. -/
def mvOf : Op → Option Operand
  | .move x => some x
  | .assign x => some x
  | _ => none

def sx1 (P : Program) (ops : Array Oper) (o : Oper) (N : Sl → World → Prop) (ρ : Sl) (w : World) : Prop :=
  match o with
  | ⟨dst, op, ty, _, _, g⟩ =>
    match g, dst with
    | none, some d => match mvOf op with
      | some x => N (up ρ d (ev ρ x)) w
      | none => OpK P (exo (ev ρ) op ty) w fun v w' => N (up ρ d v) w'
    | none, none => OpK P (exo (ev ρ) op ty) w fun _ w' => N ρ w'
    | some (j, b), some d => GOp P (gv ops ρ j) b (exo (ev ρ) op ty) w fun v w' => N (up ρ d v) w'
    | some (j, b), none => GOp P (gv ops ρ j) b (exo (ev ρ) op ty) w fun _ w' => N ρ w'

/-- The operations by their numbers, in a given order. -/
def sxIdx (P : Program) (ops : Array Oper) (K : Sl → World → Prop) : List Nat → Sl → World → Prop
  | [], ρ, w => K ρ w
  | i :: r, ρ, w =>
    match ops[i]? with
    | none => sxIdx P ops K r ρ w
    | some o => sx1 P ops o (sxIdx P ops K r) ρ w

/-- The operations in the order of the text. -/
def sxL (P : Program) (ops : Array Oper) (K : Sl → World → Prop) : List Oper → Sl → World → Prop
  | [], ρ, w => K ρ w
  | o :: r, ρ, w => sx1 P ops o (sxL P ops K r) ρ w

/-- The post that the kit's wp is asked for. -/
def lift (z : At) (n : Nat) (K : Exit → Sl → World → Prop) : Exit → Act → World → Prop := fun e a w => ∃ ρ, Lk z n a ρ ∧ K e ρ w

/-- The kit's wp, over slots. -/
def W (z : At) (P : Program) (n : Nat) (c : Code) (K : Exit → Sl → World → Prop) (ρ : Sl) (w : World) : Prop :=
  ∀ a, Lk z n a ρ → c.wpIn (FF z) 0 P (lift z n K) a w

def seqK (N : Sl → World → Prop) (K : Exit → Sl → World → Prop) : Exit → Sl → World → Prop
  | .normal => N
  | e => K e
def blkK (id : Nat) (K : Exit → Sl → World → Prop) : Exit → Sl → World → Prop
  | .exit i => if Nat.beq i id then K .normal else K (.exit i)
  | e => K e

def sx (z : At) (P : Program) (n : Nat) : Code → (Exit → Sl → World → Prop) → Sl → World → Prop
  | .skip, K, ρ, w => K .normal ρ w
  | .region id ops false, K, ρ, w => sxL P ops (K .normal) ops.toList ρ w
  | .seq a b, K, ρ, w => sx z P n a (seqK (sx z P n b K) K) ρ w
  | .cond c x y, K, ρ, w => CondK (ev ρ c) (sx z P n x K ρ w) (sx z P n y K ρ w)
  | .block id c, K, ρ, w => sx z P n c (blkK id K) ρ w
  | .exit id, K, ρ, w => K (.exit id) ρ w
  | .ret, K, ρ, w => K .ret ρ w
  | .label _, K, ρ, w => K .normal ρ w
  | c, K, ρ, w => W z P n c K ρ w

def isDefer : Op → Bool
  | .defer _ => true
  | _ => false
def oOk (n : Nat) (o : Oper) : Bool := (match o.dst with | some d => Nat.blt d n | none => true) && !isDefer o.op
def dstOk (n : Nat) : Code → Bool
  | .region _ ops _ => ops.toList.all (oOk n)
  | .seq a b => dstOk n a && dstOk n b
  | .cond _ a b => dstOk n a && dstOk n b
  | .block _ c => dstOk n c
  | .scope c => dstOk n c
  | .loop c => dstOk n c
  | _ => true

theorem yielded_gv {z : At} {n : Nat} {a : Act} {ρ : Sl} (h : Lk z n a ρ) (ops : Array Oper) (j : Nat) : yielded ops a.tmps j = (match gv ops ρ j with | .bool t => some t | _ => none) := by
  unfold gv yielded
  cases hq : (ops[j]?).bind (·.dst) with
  | none => simp [undef]
  | some d =>
    have hd := h.val d
    simp only [Option.bind_some]
    cases hz : a.tmps[d]? with
    | none =>
      rw [Array.getD_eq_getD_getElem?, hz] at hd
      simp only [Option.getD_none] at hd
      rw [← hd]
      simp [undef]
    | some v =>
      rw [Array.getD_eq_getD_getElem?, hz] at hd
      simp only [Option.getD_some] at hd
      rw [← hd]
      cases v <;> simp
theorem wanted_gv {z : At} {n : Nat} {a : Act} {ρ : Sl} (h : Lk z n a ρ) (ops : Array Oper) {o : Oper} {j : Nat} {b : Bool} (hg : o.guard = some (j, b)) : Region.wanted o (yielded ops a.tmps) = wantB (gv ops ρ j) b := by
  unfold Region.wanted
  rw [hg]
  dsimp only
  rw [yielded_gv h ops j]
  unfold wantB
  cases gv ops ρ j <;> simp

theorem opK_wp {P : Program} {z : At} {n : Nat} {a : Act} {ρ : Sl} {o : Oper} {w : World} {K : Value → World → Prop} {next : Act → World → Prop} {Q : Exit → Act → World → Prop}
    (hdf : isDefer o.op = false) (h : Lk z n a ρ) (hk : OpK P (exo (ev ρ) o.op o.type) w K) (hn : ∀ v w', K v w' → next (a.put o.dst v) w') : o.wpIn (FF z) 0 P a w next Q := by
  have he : a.eval = ev ρ := funext (fun x => h.ev x)
  refine ⟨fun _ _ => trivial, ?_⟩
  rw [Oper.semAt_eq _ _ _ (fun c hc => by rw [hc] at hdf; cases hdf), he]
  rw [exo_eq] at hk
  unfold OpK at hk
  unfold Oper.uponIn
  split at hk
  · rename_i v w' hr; rw [hr]; exact hn _ _ hk
  · rename_i w' hr; rw [hr]; exact hn _ _ hk
  · rename_i f args w' hr
    rw [hr]
    refine ⟨fun q => by simp [FF, Fence.wide] at q, ?_⟩
    have hk' : CallsIn Fence.wide 0 P f args w' fun e w'' => ∃ v, e = .returned v ∧ K v w'' := callsIn_wide.2 hk
    refine CallsIn.mono (F := FF z) (n := 0) hk' ?_
    rintro e w'' ⟨v, rfl, hv⟩
    exact hn _ _ hv
  · rename_i l f tmps assign body w' hr
    rw [hr]
    refine ⟨fun q => by simp [FF, Fence.wide] at q, ?_⟩
    refine RoundIn.mono (F := FF z) (n := 0) hk ?_
    rintro e w'' ⟨v, rfl, hv⟩
    exact hn _ _ hv
  · exact hk.elim

theorem sx1_eq (P : Program) (ops : Array Oper) (o : Oper) (N : Sl → World → Prop) (ρ : Sl) (w : World) :
    sx1 P ops o N ρ w = match o.guard with
      | none => OpK P (exo (ev ρ) o.op o.type) w fun v w' => N (upo ρ o.dst v) w'
      | some (j, b) => GOp P (gv ops ρ j) b (exo (ev ρ) o.op o.type) w fun v w' => N (upo ρ o.dst v) w' := by
  obtain ⟨dst, op, ty, pos, after, guard⟩ := o
  cases guard with
  | none =>
    cases dst with
    | none => rfl
    | some d => cases op <;> rfl
  | some jb => cases dst <;> rfl

theorem oOk_dst {n : Nat} {o : Oper} (h : oOk n o = true) : ∀ k, o.dst = some k → k < n := by
  intro k hk
  simp only [oOk, Bool.and_eq_true] at h
  have := h.1
  rw [hk] at this
  exact Nat.lt_of_lt_of_le (Nat.lt_succ_self _) (Nat.le_of_ble_eq_true this)
theorem oOk_df {n : Nat} {o : Oper} (h : oOk n o = true) : isDefer o.op = false := by
  simp only [oOk, Bool.and_eq_true, Bool.not_eq_true'] at h
  exact h.2

theorem sx1_wp {P : Program} {z : At} {n : Nat} {ops : Array Oper} {Q : Exit → Act → World → Prop} {o : Oper} {N : Sl → World → Prop} {next : Act → World → Prop} {a : Act} {ρ : Sl} {w : World}
    (ho : oOk n o = true) (hl : Lk z n a ρ) (h : sx1 P ops o N ρ w) (hn : ∀ a ρ w, Lk z n a ρ → N ρ w → next a w) :
    if Region.wanted o (yielded ops a.tmps) then o.wpIn (FF z) 0 P a w next Q else next (a.put o.dst undef) w := by
  have hd := oOk_dst ho
  rw [sx1_eq] at h
  cases hg : o.guard with
  | none =>
    rw [hg] at h
    have hw : Region.wanted o (yielded ops a.tmps) = true := by unfold Region.wanted; rw [hg]
    rw [hw]
    simp only [if_true]
    exact opK_wp (oOk_df ho) hl h fun v w' hv => hn _ _ _ (hl.put _ _ hd) hv
  | some jb =>
    obtain ⟨j, b⟩ := jb
    rw [hg] at h
    obtain ⟨h1, h2⟩ := h
    have hy := wanted_gv hl ops hg
    by_cases htb : wantB (gv ops ρ j) b = true
    · have hw : Region.wanted o (yielded ops a.tmps) = true := hy.trans htb
      rw [hw]
      simp only [if_true]
      exact opK_wp (oOk_df ho) hl (h1 htb) fun v w' hv => hn _ _ _ (hl.put _ _ hd) hv
    · have htb : wantB (gv ops ρ j) b = false := Bool.eq_false_iff.2 htb
      have hw : Region.wanted o (yielded ops a.tmps) = false := hy.trans htb
      rw [hw]
      simp only [Bool.false_eq_true, if_false]
      exact hn _ _ _ (hl.put _ _ hd) (h2 htb)

theorem oOk_at {n : Nat} {ops : Array Oper} (hd : (ops.toList.all (oOk n)) = true) {i : Nat} {o : Oper} (ho : ops[i]? = some o) : oOk n o = true := by
  have hm : o ∈ ops.toList := by
    obtain ⟨hi, hv⟩ := Array.getElem?_eq_some_iff.1 ho
    rw [← hv]; exact Array.getElem_mem_toList hi
  exact List.all_eq_true.1 hd o hm

theorem sxL_wp {P : Program} {z : At} {n : Nat} {ops : Array Oper} {K : Sl → World → Prop} {Q : Exit → Act → World → Prop}
    (hd : (ops.toList.all (oOk n)) = true)
    (hQ : ∀ a ρ w, Lk z n a ρ → K ρ w → Q .normal a w) (m : Nat) : ∀ k a ρ w, k + m = ops.size → Lk z n a ρ → sxL P ops K (ops.toList.drop k) ρ w → wpOpsIn (FF z) 0 P ops Q (List.range' k m) a w := by
  induction m with
  | zero =>
    intro k a ρ w hk hl h
    rw [List.drop_of_length_le (by simp; omega)] at h
    exact hQ a ρ w hl h
  | succ m ih =>
    intro k a ρ w hk hl h
    have hlt : k < ops.toList.length := by simp; omega
    rw [List.drop_eq_getElem_cons hlt] at h
    have ho : ops[k]? = some ops.toList[k] := by
      rw [← Array.getElem?_toList]
      exact List.getElem?_eq_getElem hlt
    show wpOpsIn (FF z) 0 P ops Q (k :: List.range' (k + 1) m) a w
    unfold wpOpsIn
    rw [ho]
    have := sx1_wp (Q := Q) (oOk_at hd ho) hl h (fun a ρ w hl hq => ih (k + 1) a ρ w (by omega) hl hq)
    dsimp only
    split at this
    · rename_i hw; rw [if_pos hw]; exact this
    · rename_i hw; rw [if_neg hw]; exact ⟨fun _ _ => trivial, this⟩

theorem sx_W {P : Program} {z : At} {n : Nat} : ∀ (c : Code) (K : Exit → Sl → World → Prop) (ρ : Sl) (w : World), dstOk n c = true → sx z P n c K ρ w → W z P n c K ρ w
  | .skip, K, ρ, w, _, h => fun a hl => wpIn_skip ⟨ρ, hl, h⟩
  | .region id ops false, K, ρ, w, hd, h => fun a hl => wpIn_region (by rw [List.range_eq_range']; exact sxL_wp hd (fun a ρ w hl hk => ⟨ρ, hl, hk⟩) ops.size 0 a ρ w (by omega) hl h)
  | .region id ops true, K, ρ, w, hd, h => h
  | .seq x y, K, ρ, w, hd, h => by
    intro a hl
    simp only [dstOk, Bool.and_eq_true] at hd
    refine wpIn_seq (wpIn_mono (sx_W x _ ρ w hd.1 h a hl) ?_)
    rintro e a' w' ⟨ρ', hl', hk⟩
    cases e with
    | normal => exact sx_W y K ρ' w' hd.2 hk a' hl'
    | exit id => exact ⟨ρ', hl', hk⟩
    | goto l => exact ⟨ρ', hl', hk⟩
    | ret => exact ⟨ρ', hl', hk⟩
    | panic c => exact ⟨ρ', hl', hk⟩
    | outgrown => exact ⟨ρ', hl', hk⟩
  | .cond c x y, K, ρ, w, hd, h => by
    intro a hl
    simp only [dstOk, Bool.and_eq_true] at hd
    obtain ⟨t, hv, h1, h2⟩ := h
    exact wpIn_cond_split ((hl.ev c).trans hv) (fun ht => sx_W x K ρ w hd.1 (h1 ht) a hl) (fun ht => sx_W y K ρ w hd.2 (h2 ht) a hl)
  | .block id c, K, ρ, w, hd, h => by
    intro a hl
    refine wpIn_block (wpIn_mono (sx_W c _ ρ w hd h a hl) ?_)
    rintro e a' w' ⟨ρ', hl', hk⟩
    cases e with
    | exit i =>
      simp only [Exit.inBlock]
      unfold blkK at hk
      dsimp only at hk
      by_cases e : i = id
      · subst e
        rw [if_pos rfl]
        rw [if_pos (Nat.beq_refl i)] at hk
        exact ⟨ρ', hl', hk⟩
      · rw [if_neg e]
        rw [if_neg (fun q => e (Nat.eq_of_beq_eq_true q))] at hk
        exact ⟨ρ', hl', hk⟩
    | normal => exact ⟨ρ', hl', hk⟩
    | goto l => exact ⟨ρ', hl', hk⟩
    | ret => exact ⟨ρ', hl', hk⟩
    | panic c => exact ⟨ρ', hl', hk⟩
    | outgrown => exact ⟨ρ', hl', hk⟩
  | .exit id, K, ρ, w, hd, h => fun a hl => wpIn_exit ⟨ρ, hl, h⟩
  | .ret, K, ρ, w, hd, h => fun a hl => wpIn_ret ⟨ρ, hl, h⟩
  | .label _, K, ρ, w, hd, h => fun a hl => wpIn_label ⟨ρ, hl, h⟩
  | .loop c, K, ρ, w, hd, h => h
  | .rangeFunc .., K, ρ, w, hd, h => h
  | .scope _, K, ρ, w, hd, h => h
  | .goto _, K, ρ, w, hd, h => h
  | .refuse _, K, ρ, w, hd, h => h

theorem W_mono {P : Program} {z : At} {n : Nat} {c : Code} {K K' : Exit → Sl → World → Prop} {ρ : Sl} {w : World} (h : W z P n c K ρ w) (hk : ∀ e ρ w, K e ρ w → K' e ρ w) : W z P n c K' ρ w :=
  fun a hl => wpIn_mono (h a hl) fun e a' w' ⟨ρ', hl', q⟩ => ⟨ρ', hl', hk _ _ _ q⟩

/-- A loop: a relation and a measure. -/
theorem W_loop {P : Program} {z : At} {n : Nat} {c : Code} {K : Exit → Sl → World → Prop} {ρ : Sl} {w : World} (hd : dstOk n c = true) (I : Sl → World → Prop) (μ : Sl → World → Nat) (h0 : I ρ w)
    (round : ∀ ρ w, I ρ w → sx z P n c (seqK (fun ρ' w' => I ρ' w' ∧ μ ρ' w' < μ ρ w) K) ρ w) : W z P n (.loop c) K ρ w := by
  intro a hl
  let M : Act → World → Nat := fun a w => μ (fun i => a.tmps.getD i undef) w
  have hM : ∀ a ρ w, Lk z n a ρ → M a w = μ ρ w := by
    intro a ρ w hl
    have : (fun i => a.tmps.getD i undef) = ρ := funext hl.val
    show μ (fun i => a.tmps.getD i undef) w = μ ρ w
    rw [this]
  refine wpIn_loop (fun a w => ∃ ρ, Lk z n a ρ ∧ I ρ w) M ⟨ρ, hl, h0⟩ ?_
  rintro a w ⟨ρ, hl, hI⟩
  refine wpIn_mono (sx_W c _ ρ w hd (round ρ w hI) a hl) ?_
  rintro e a' w' ⟨ρ', hl', hk⟩
  cases e with
  | normal => exact ⟨⟨ρ', hl', hk.1⟩, by rw [hM a' ρ' w' hl', hM a ρ w hl]; exact hk.2⟩
  | exit id => exact ⟨ρ', hl', hk⟩
  | goto l => exact ⟨ρ', hl', hk⟩
  | ret => exact ⟨ρ', hl', hk⟩
  | panic c => exact ⟨ρ', hl', hk⟩
  | outgrown => exact ⟨ρ', hl', hk⟩

/-! ### Regions that draw their order -/
/-- An operation that asks for no round, by its form. -/
def noRound (P : Program) : Op → Bool
  | .call { callee := .value (.func f), .. } => (P.funcs[f]?).any fun fn => fn.body.isSome && !(fn.name == "runtime.NumGoroutine")
  | .call { callee := .builtin .append, .. } => true
  | .call { callee := .builtin .len, .. } => true
  | .call { callee := .builtin .max, .. } => true
  | .call { callee := .builtin .min, .. } => true
  | .call { callee := .builtin .copy, .. } => true
  | .move _ | .assign _ | .pick .. | .alloc _ | .box .. | .build .. | .buildSlice .. | .load .. | .store .. | .binOp .. | .unOp .. | .convert .. | .makeFunc .. | .makeMap .. | .makeSlice .. | .slice .. | .fieldAddr .. | .indexAddr .. | .lookup .. | .mapUpdate .. | .mapEntry .. | .entryStore .. | .field .. | .index .. | .makeInterface .. | .extract .. => true
  | _ => false
theorem run_value_ne {P : Program} {w w' : World} (s : Sem Value) (l : Nat) (f : FuncId) (t : Array Value) (x y : Code) : (do pure (Next.value (← s)) : Sem Next).run P w ≠ .ok (.round l f t x y) w' := by
  rw [Sem.run_bind]
  cases s.run P w with
  | ok v w1 => simp
  | halt h w1 => simp
theorem run_skip_ne {P : Program} {w w' : World} (s : Sem Unit) (l : Nat) (f : FuncId) (t : Array Value) (x y : Code) : (do s; pure Next.skip : Sem Next).run P w ≠ .ok (.round l f t x y) w' := by
  rw [Sem.run_bind]
  cases s.run P w with
  | ok v w1 => simp
  | halt h w1 => simp
theorem noRound_run {P : Program} {w w' : World} {ρ : Operand → Value} {o : Oper} {l : Nat} {f : FuncId} {t : Array Value} {x y : Code} (hρ : ∀ k, ρ (.func k) = .func (.func k) #[] #[]) (h : noRound P o.op = true) : (execOp ρ o).run P w ≠ .ok (.round l f t x y) w' := by
  obtain ⟨dst, op, ty, pos, after, guard⟩ := o
  dsimp only at h
  cases op with
  | move a => intro q; cases q
  | assign a => intro q; cases q
  | pick c a b =>
    show ((asBool (ρ c)) >>= fun t => pure (Next.value (if t then ρ a else ρ b)) : Sem Next).run P w ≠ _
    rw [Sem.run_bind]
    cases (asBool (ρ c)).run P w with
    | ok v w1 => simp
    | halt h w1 => simp
  | store t a v => exact run_skip_ne _ _ _ _ _ _
  | mapUpdate t m k v => exact run_skip_ne _ _ _ _ _ _
  | entryStore t m k v => exact run_skip_ne _ _ _ _ _ _
  | call c =>
    obtain ⟨callee, args, argTypes⟩ := c
    cases callee with
    | invoke r m => simp [noRound] at h
    | builtin b =>
      cases b <;> first | (simp [noRound] at h; done) | exact run_value_ne _ _ _ _ _ _
    | value g =>
      cases g <;> first | (simp [noRound] at h; done) | skip
      rename_i k
      simp only [noRound] at h
      cases hk : P.funcs[k]? with
      | none => rw [hk] at h; simp at h
      | some fn =>
        rw [hk] at h
        simp only [Option.any_some, Bool.and_eq_true, Bool.not_eq_true'] at h
        obtain ⟨h1, h2⟩ := h
        have hb' : fn.body ≠ none := by intro q; rw [q] at h1; cases h1
        have hn' : fn.name ≠ "runtime.NumGoroutine" := by intro q; rw [q] at h2; simp at h2
        have hc : (callFunc k ((args.map ρ) ++ #[])).run P w = .ok (.enter k ((args.map ρ) ++ #[])) w := by
          simp [callFunc, program, Sem.run, hk, hb', hn', Sem.run_bind, pure, bind, Sem.bind]
        intro q
        by_cases hf : ρ (.func k) = .func (.func k) #[] #[]
        · have he : (execOp ρ { dst := dst, op := .call { callee := .value (.func k), args := args, argTypes := argTypes }, type := ty, pos := pos, after := after, guard := guard }).run P w = .ok (.enter k ((args.map ρ) ++ #[])) w := by
            simp only [execOp, resolve, hf, Deferred.ofValue, Sem.run_bind, Sem.run_pure, Result.andThen_ok, invoke, Array.empty_append]
            exact hc
          rw [he] at q
          cases q
        · exact absurd (hρ k) hf
  | _ => first | (simp [noRound] at h; done) | exact run_value_ne _ _ _ _ _ _
def dstsIn (n : Nat) (ops : Array Oper) : Bool := ops.toList.all (oOk n)

/-- One value in every world of a class; what is not a call leaves the world as it is. -/
def QK (P : Program) (C : World → Prop) (s : Sem Next) (K : Value → Prop) : Prop := ∃ v, (∀ w, C w → Oper.quietUpon P C w v (s.run P w)) ∧ K v
def QG (P : Program) (C : World → Prop) (g : Value) (b : Bool) (s : Sem Next) (K : Value → Prop) : Prop := GuardK g b (QK P C s K) (K undef)

def sxq1 (P : Program) (C : World → Prop) (ops : Array Oper) (o : Oper) (N : Sl → Prop) (ρ : Sl) : Prop :=
  match o with
  | ⟨dst, op, ty, _, _, g⟩ =>
    match g, dst with
    | none, some d => match mvOf op with
      | some x => N (up ρ d (ev ρ x))
      | none => QK P C (exo (ev ρ) op ty) fun v => N (up ρ d v)
    | none, none => QK P C (exo (ev ρ) op ty) fun _ => N ρ
    | some (j, b), some d => QG P C (gv ops ρ j) b (exo (ev ρ) op ty) fun v => N (up ρ d v)
    | some (j, b), none => QG P C (gv ops ρ j) b (exo (ev ρ) op ty) fun _ => N ρ
def sxq (P : Program) (C : World → Prop) (ops : Array Oper) (K : Sl → Prop) : List Oper → Sl → Prop
  | [], ρ => K ρ
  | o :: r, ρ => sxq1 P C ops o (sxq P C ops K r) ρ

theorem sxq1_eq (P : Program) (C : World → Prop) (ops : Array Oper) (o : Oper) (N : Sl → Prop) (ρ : Sl) (h : sxq1 P C ops o N ρ) :
    match o.guard with
      | none => QK P C (exo (ev ρ) o.op o.type) fun v => N (upo ρ o.dst v)
      | some (j, b) => QG P C (gv ops ρ j) b (exo (ev ρ) o.op o.type) fun v => N (upo ρ o.dst v) := by
  obtain ⟨dst, op, ty, pos, after, guard⟩ := o
  cases guard with
  | none =>
    cases dst with
    | none => exact h
    | some d =>
      cases op <;> first | exact h | exact ⟨_, fun w _ => ⟨rfl, rfl⟩, h⟩
  | some jb => cases dst <;> exact h

theorem sxq1_wp {P : Program} {z : At} {n : Nat} {C : World → Prop} {ops : Array Oper} {o : Oper} {N : Sl → Prop} {next : Act → Prop} {a : Act} {ρ : Sl}
    (hd : ∀ k, o.dst = some k → k < n) (hl : Lk z n a ρ) (h : sxq1 P C ops o N ρ) (hn : ∀ a ρ, Lk z n a ρ → N ρ → next a) :
    if Region.wanted o (yielded ops a.tmps) then o.quiet P a C next else next (a.put o.dst undef) := by
  have he : a.eval = ev ρ := funext (fun x => hl.ev x)
  have h := sxq1_eq P C ops o N ρ h
  have key : ∀ (hk : QK P C (exo (ev ρ) o.op o.type) fun v => N (upo ρ o.dst v)), o.quiet P a C next := by
    rintro ⟨v, h1, h2⟩
    refine ⟨v, fun w hw => ?_, hn _ _ (hl.put _ _ hd) h2⟩
    unfold Oper.quietAt
    rw [he, ← exo_eq]
    exact h1 w hw
  cases hg : o.guard with
  | none =>
    rw [hg] at h
    have hw : Region.wanted o (yielded ops a.tmps) = true := by unfold Region.wanted; rw [hg]
    rw [hw]
    simp only [if_true]
    exact key h
  | some jb =>
    obtain ⟨j, b⟩ := jb
    rw [hg] at h
    obtain ⟨h1, h2⟩ := h
    have hy := wanted_gv hl ops hg
    by_cases htb : wantB (gv ops ρ j) b = true
    · have hw : Region.wanted o (yielded ops a.tmps) = true := hy.trans htb
      rw [hw]
      simp only [if_true]
      exact key (h1 htb)
    · have htb : wantB (gv ops ρ j) b = false := Bool.eq_false_iff.2 htb
      have hw : Region.wanted o (yielded ops a.tmps) = false := hy.trans htb
      rw [hw]
      simp only [Bool.false_eq_true, if_false]
      exact hn _ _ (hl.put _ _ hd) (h2 htb)

theorem sxq_quiet {P : Program} {z : At} {n : Nat} {C : World → Prop} {ops : Array Oper} {K : Sl → Prop} {Q : Act → Prop} (hQ : ∀ a ρ, Lk z n a ρ → K ρ → Q a) : ∀ (l : List Oper) a ρ,
    (l.all (oOk n)) = true → Lk z n a ρ → sxq P C ops K l ρ → wpQuiet P ops C Q l a
  | [], a, ρ, _, hl, h => hQ a ρ hl h
  | o :: r, a, ρ, hd, hl, h => by
    simp only [List.all_cons, Bool.and_eq_true] at hd
    exact sxq1_wp (n := n) (oOk_dst hd.1) hl h (fun a ρ hl hq => sxq_quiet hQ r a ρ hd.2 hl hq)

theorem quiet_still {P : Program} {w : World} {ops : Array Oper} {Q : Act → Prop} : ∀ (l : List Oper) (a : Act), wpQuiet P ops (fun w' => w' = w) Q l a → wpStill P ops w Q l a
  | [], a, h => h
  | o :: r, a, h => by
    unfold wpQuiet at h
    unfold wpStill
    split at h
    · rename_i hw
      rw [if_pos hw]
      obtain ⟨v, h1, h2⟩ := h
      have h3 := h1 w rfl
      unfold Oper.quietAt at h3
      unfold Oper.still
      generalize (execOp a.eval o).run P w = x at *
      cases x with
      | halt x w' => exact h3.elim
      | ok x w' =>
        cases x <;> first | exact h3.elim | skip
        case value u => obtain ⟨rfl, rfl⟩ := h3; exact ⟨rfl, quiet_still r _ h2⟩
        case skip => obtain ⟨rfl, rfl⟩ := h3; exact ⟨rfl, quiet_still r _ h2⟩
        case enter f args => obtain ⟨rfl, hc⟩ := h3; exact ⟨rfl, v, hc, quiet_still r _ h2⟩
    · rename_i hw
      rw [if_neg hw]
      exact quiet_still r _ h

/-- All operations are quiet: one walk in the order of the text. -/
theorem W_quiet {P : Program} {n : Nat} {D : List Deferred} {id : Nat} {ops : Array Oper} {K : Exit → Sl → World → Prop} {ρ : Sl} {w : World} (C : World → Prop) (hd : dstsIn n ops = true)
    (hm : P.follows .mixedOrders = true) (hB : Region.lexB .any ops = true) (hC : C { w with drawn := w.drawn + 1 })
    (h : sxq P C ops (fun ρ' => ∀ w', C w' → K .normal ρ' w') ops.toList ρ) : W ⟨none, D⟩ P n (.region id ops true) K ρ w := by
  intro a hl
  refine wpIn_wide.2 (wp_region_quiet (C := C) hm hB hC ?_)
  exact sxq_quiet (n := n) (fun a ρ hl hq w' hw' => ⟨ρ, hl, hq w' hw'⟩) _ a ρ hd hl h

theorem sx1_wp0 {P : Program} {D : List Deferred} {n : Nat} {ops : Array Oper} {Q : Exit → Act → World → Prop} {o : Oper} {N : Sl → World → Prop} {next : Act → World → Prop} {a : Act} {ρ : Sl} {w : World}
    (hr : noRound P o.op = true) (hd : ∀ k, o.dst = some k → k < n) (hl : Lk ⟨none, D⟩ n a ρ) (h : sx1 P ops o N ρ w) (hn : ∀ a ρ w, Lk ⟨none, D⟩ n a ρ → N ρ w → next a w) :
    if Region.wanted o (yielded ops a.tmps) then o.wp P a w next Q ∨ (o.asks P a w ∧ LetsOut Q) else next (a.put o.dst undef) w := by
  have he : a.eval = ev ρ := funext (fun x => hl.ev x)
  rw [sx1_eq] at h
  have key : ∀ (hk : OpK P (exo (ev ρ) o.op o.type) w fun v w' => N (upo ρ o.dst v) w'), o.wp P a w next Q := by
    intro hk
    unfold Oper.wp
    rw [he]
    rw [exo_eq] at hk
    unfold OpK at hk
    unfold Oper.upon
    split at hk
    · rename_i v w' hr; rw [hr]; exact hn _ _ _ (hl.put _ _ hd) hk
    · rename_i w' hr; rw [hr]; exact hn _ _ _ (hl.put _ _ hd) hk
    · rename_i f args w' hr
      rw [hr]
      refine hk.mono ?_
      rintro e w'' ⟨v, rfl, hv⟩
      exact hn _ _ _ (hl.put _ _ hd) hv
    · rename_i l f tmps assign body w' hrun
      exact absurd hrun (noRound_run (fun _ => rfl) hr)
    · exact hk.elim
  cases hg : o.guard with
  | none =>
    rw [hg] at h
    have hw : Region.wanted o (yielded ops a.tmps) = true := by unfold Region.wanted; rw [hg]
    rw [hw]
    simp only [if_true]
    exact .inl (key h)
  | some jb =>
    obtain ⟨j, b⟩ := jb
    rw [hg] at h
    obtain ⟨h1, h2⟩ := h
    have hy := wanted_gv hl ops hg
    by_cases htb : wantB (gv ops ρ j) b = true
    · have hw : Region.wanted o (yielded ops a.tmps) = true := hy.trans htb
      rw [hw]
      simp only [if_true]
      exact .inl (key (h1 htb))
    · have htb : wantB (gv ops ρ j) b = false := Bool.eq_false_iff.2 htb
      have hw : Region.wanted o (yielded ops a.tmps) = false := hy.trans htb
      rw [hw]
      simp only [Bool.false_eq_true, if_false]
      exact hn _ _ _ (hl.put _ _ hd) (h2 htb)

theorem sxL_list {P : Program} {D : List Deferred} {n : Nat} {ops : Array Oper} {K : Sl → World → Prop} {Q : Exit → Act → World → Prop} (hQ : ∀ a ρ w, Lk ⟨none, D⟩ n a ρ → K ρ w → Q .normal a w) : ∀ (l : List Oper) a ρ w,
    (l.all (oOk n)) = true → (l.all fun o => noRound P o.op) = true → Lk ⟨none, D⟩ n a ρ → sxL P ops K l ρ w → wpList P ops Q l a w
  | [], a, ρ, w, _, _, hl, h => hQ a ρ w hl h
  | o :: r, a, ρ, w, hd, hr, hl, h => by
    simp only [List.all_cons, Bool.and_eq_true] at hd hr
    unfold wpList
    exact sx1_wp0 (n := n) hr.1 (oOk_dst hd.1) hl h (fun a ρ w hl hq => sxL_list hQ r a ρ w hd.2 hr.2 hl hq)

/-- m operations that are quiet (the world is just as it was), then the others one behind the other. -/
theorem W_tail {P : Program} {n : Nat} {D : List Deferred} {id : Nat} {ops : Array Oper} {K : Exit → Sl → World → Prop} {ρ : Sl} {w : World} (m : Nat) (hd : dstsIn n ops = true) (hr : ((ops.toList.drop m).all fun o => noRound P o.op) = true)
    (hm : P.follows .mixedOrders = true) (hB : Region.lexTailB .any ops m = true)
    (h : sxq P (fun w' => w' = { w with drawn := w.drawn + 1 }) ops (fun ρ' => sxL P ops (K .normal) (ops.toList.drop m) ρ' { w with drawn := w.drawn + 1 }) (ops.toList.take m) ρ) : W ⟨none, D⟩ P n (.region id ops true) K ρ w := by
  intro a hl
  obtain ⟨l⟩ := ops
  have ht : ((l.take m).all (oOk n)) = true := List.all_eq_true.2 fun o ho => List.all_eq_true.1 hd o (List.mem_of_mem_take ho)
  have hdr : ((l.drop m).all (oOk n)) = true := List.all_eq_true.2 fun o ho => List.all_eq_true.1 hd o (List.mem_of_mem_drop ho)
  refine wpIn_wide.2 (wp_region_still_tail m hm hB (quiet_still _ _ ?_))
  refine sxq_quiet (n := n) (fun a ρ hl hq => ?_) _ a ρ ht hl h
  exact sxL_list (fun a ρ w hl hq => ⟨ρ, hl, hq⟩) _ a ρ _ hdr hr hl hq

/-! ### A range over a function, in a function's frame, nothing deferred yet: what comes behind it runs with the mark of the loop's deferred calls -/
def ranged (w : World) : At := { r := none, D := [{ target := .collected w.heap.size, args := #[] }] }
/-- The loop's record. -/
def rec_ (w : World) (fn : FuncId) (tmps : Array Value) (ps : Array Tmp) (assign body : Code) : Loop := { state := .ready, pending := none, fn, tmps, params := ps, assign, body, defers := w.heap.size }
def enter_ (w : World) (L : Loop) : World := (w.alloc (.deferred (some []))).alloc (.loop L)

theorem range_wp {P : Program} {n : Nat} {g : Operand} {ps : Array Tmp} {assign body : Code} {Q : Exit → Act → World → Prop} {ρ : Sl} {w : World} {N : World → Prop} {f : FuncId} {fn' : Func} {cap : Array Value}
    (hg : ev ρ g = .func (.func f) #[] cap) (hf : P.funcs[f]? = some fn') (hb : fn'.body.isNone = false) (hnm : (fn'.name == "runtime.NumGoroutine") = false)
    (hcall : ∀ (fn : FuncId) (tmps : Array Value), tmps.size = n → (∀ i, tmps.getD i undef = ρ i) →
      Calls P f (#[.func (.yield (w.heap.size + 1)) #[] #[]] ++ cap) (enter_ w (rec_ w fn tmps ps assign body)) fun e w3 => ∃ v, e = .returned v ∧ ∃ L, w3.heap[w.heap.size + 1]? = some (.loop L) ∧ L.state ≠ .busy ∧ L.pending = none ∧
        N (w3.putObj (w.heap.size + 1) (.loop { L with state := .exhausted })))
    (hQ : ∀ a' w', Lk (ranged w) n a' ρ → N w' → Q .normal a' w') : ∀ a, Lk fn_ n a ρ → (Code.rangeFunc g ps assign body).wpIn (FF fn_) 0 P Q a w := by
  intro a hl
  refine wpIn_rangeFunc (fun fn _ => ?_)
  have hbd : fn'.body ≠ none := by intro q; rw [q] at hb; cases hb
  have hn' : fn'.name ≠ "runtime.NumGoroutine" := by intro q; rw [q] at hnm; simp at hnm
  refine ⟨w.heap.size + 1, [{ target := .collected w.heap.size, args := #[] }], enter_ w (rec_ w fn a.tmps ps assign body), { target := .fn (.func f) cap, args := #[.func (.yield (w.heap.size + 1)) #[] #[]] }, enter_ w (rec_ w fn a.tmps ps assign body), f, #[.func (.yield (w.heap.size + 1)) #[] #[]] ++ cap, enter_ w (rec_ w fn a.tmps ps assign body), run_enterLoop_outer fn a.tmps ps assign body, ?_, fun _ _ => trivial, ?_, fun q => by simp [FF, fn_, Fence.wide] at q, ?_⟩
  · have ha : (#[Operand.const (.func (.yield (w.heap.size + 1)) #[] #[])] : Array Operand).map a.eval = #[.func (.yield (w.heap.size + 1)) #[] #[]] := by rw [arr_map]; rfl
    simp only [resolve, rangeCall, hl.ev, hg, Deferred.ofValue, ha, Array.empty_append]
    exact rfl
  · show (callFunc f _).run P _ = _
    simp [callFunc, program, Sem.run, hf, hbd, hn', Sem.run_bind, pure, bind, Sem.bind]
  · have hc := hcall fn a.tmps hl.size hl.val
    refine CallsIn.mono (callsIn_wide.2 hc) ?_
    rintro e w3 ⟨v, rfl, L, hL, hst, hpn, hN⟩
    refine ⟨none, (w3.putObj (w.heap.size + 1) (.loop { L with state := .exhausted })), ?_, ?_⟩
    · rw [run_endLoop hL hst, hpn]
    · refine hQ _ _ ⟨hl.size, ?_, hl.val⟩ hN
      show [{ target := Target.collected w.heap.size, args := #[] }] ++ a.defers = _
      rw [hl.defers]
      rfl

/-- One round, out of what the assignments and the body do in a round's frame. -/
theorem round_of {P : Program} {n l : Nat} {f : FuncId} {tmps : Array Value} {assign body : Code} {w : World} {R : Value → World → Prop} {ρ : Sl} (hs : tmps.size = n) (hv : ∀ i, tmps.getD i undef = ρ i) (hda : dstOk n assign = true) (hdb : dstOk n body = true)
    (h : sx ⟨some l, []⟩ P n assign (seqK (fun ρ1 w1 => ∃ L, w1.heap[l]? = some (.loop L) ∧ L.state = .ready ∧
      sx ⟨some l, []⟩ P n body (seqK (fun _ w3 => ∃ L, w3.heap[l]? = some (.loop L) ∧ R (.bool true) (w3.putObj l (.loop { L with state := .ready, pending := none }))) (fun _ _ _ => False)) ρ1 (w1.putObj l (.loop { L with state := .busy }))) (fun _ _ _ => False)) ρ w) :
    RoundIn Fence.wide 0 P l f tmps assign body w fun e w' => ∃ v, e = .returned v ∧ R v w' := by
  refine roundIn_of_wpIn trivial ?_
  have h1 := sx_W assign _ ρ w hda h { tmps := tmps, defers := [] } ⟨hs, rfl, hv⟩
  refine wpIn_mono h1 ?_
  rintro e a1 w1 ⟨ρ1, hl1, hk⟩
  cases e with
  | normal =>
    obtain ⟨L, hL, hst, hb⟩ := hk
    refine ⟨_, run_beginRound hL hst, ?_⟩
    refine wpIn_mono (sx_W body _ ρ1 _ hdb hb a1 hl1) ?_
    rintro e a2 w3 ⟨ρ2, hl2, hk⟩
    cases e with
    | normal =>
      obtain ⟨L', hL', hR⟩ := hk
      exact ⟨_, _, run_endRound none hL', _, rfl, hR⟩
    | exit id => exact hk.elim
    | goto l => exact hk.elim
    | ret => exact hk.elim
    | panic c => exact hk.elim
    | outgrown => exact hk.elim
  | exit id => exact hk.elim
  | goto l => exact hk.elim
  | ret => exact hk.elim
  | panic c => exact hk.elim
  | outgrown => exact hk.elim

/-! ### Functions -/
def rho0 (args : List Value) : Sl := fun i => args.getD i undef

/-- The results, one behind the other; those in memory are loaded. -/
def resK (P : Program) (ρ : Sl) (k : List Value → World → Prop) : List ResultVar → World → Prop
  | [], w => k [] w
  | .tmp t :: r, w => resK P ρ (fun vs w => k (ρ t :: vs) w) r w
  | .cell x t :: r, w => ∃ v, (do loadVar t (← asAddr (ρ x)) : Sem Value).run P w = .ok v w ∧ resK P ρ (fun vs w => k (v :: vs) w) r w
def packV : List Value → Value
  | [v] => v
  | vs => .tuple vs.toArray

def retK (P : Program) (rs : List ResultVar) (R : Value → World → Prop) : Exit → Sl → World → Prop
  | .normal, ρ, w | .ret, ρ, w => resK P ρ (fun vs w => R (packV vs) w) rs w
  | _, _, _ => False

theorem resK_run {P : Program} {ρ : Sl} {w : World} (g : ResultVar → Sem Value) (hg : ∀ t, g (.tmp t) = Sem.pure (ρ t)) (hc : ∀ x t, g (.cell x t) = (do loadVar t (← asAddr (ρ x)))) (l : List ResultVar) :
    ∀ (k : List Value → World → Prop), resK P ρ k l w → ∃ vs, (l.mapM g).run P w = .ok vs w ∧ k vs w := by
  induction l with
  | nil => intro k h; exact ⟨[], rfl, h⟩
  | cons x r ih =>
    intro k h
    cases x with
    | tmp t =>
      obtain ⟨vs, hr, hk⟩ := ih _ h
      refine ⟨ρ t :: vs, ?_, hk⟩
      rw [List.mapM_cons, hg, Sem.run_bind]
      show ((List.mapM g r >>= fun us => pure (ρ t :: us)) : Sem (List Value)).run P w = _
      rw [Sem.run_bind, hr]
      rfl
    | cell x t =>
      obtain ⟨v, hv, h⟩ := h
      obtain ⟨vs, hr, hk⟩ := ih _ h
      refine ⟨v :: vs, ?_, hk⟩
      rw [List.mapM_cons, hc, Sem.run_bind, hv]
      simp only [Result.andThen_ok, Sem.run_bind, hr]
      rfl

theorem results_of_resK {P : Program} {z : At} {n : Nat} {fn : Func} {a : Act} {ρ : Sl} {w : World} {R : Value → World → Prop} (hl : Lk z n a ρ) (h : resK P ρ (fun vs w => R (packV vs) w) fn.results.toList w) :
    ∃ v, (results fn a.tmps).run P w = .ok v w ∧ R v w := by
  have key : ∀ g : ResultVar → Sem Value, (∀ t, g (.tmp t) = Sem.pure (ρ t)) → (∀ x t, g (.cell x t) = (do loadVar t (← asAddr (ρ x)))) →
      ∃ v, (do let vs ← List.toArray <$> fn.results.toList.mapM g; pure (if h : vs.size = 1 then vs[0] else .tuple vs) : Sem Value).run P w = .ok v w ∧ R v w := by
    intro g hg hc
    obtain ⟨vs, hr, hk⟩ := resK_run (P := P) (ρ := ρ) (w := w) g hg hc fn.results.toList _ h
    refine ⟨packV vs, ?_, hk⟩
    rw [Sem.run_bind, Sem.run_map, hr]
    simp only [Result.andThen_ok]
    match vs with
    | [] => rfl
    | [v] => rfl
    | v :: u :: r => rfl
  unfold results
  rw [Array.mapM_eq_mapM_toList]
  refine key _ ?_ ?_
  · intro t; rw [← hl.val t]; rfl
  · intro x t; rw [← hl.val x]

theorem calls_of_sx {P : Program} {f : FuncId} {fn : Func} {c : Code} {args : Array Value} {w : World} {R : Value → World → Prop} {n : Nat}
    (hf : P.funcs[f]? = some fn) (hb : fn.body = some c) (hn : fn.ntmps = n) (hsz : args.size ≤ n) (hd : dstOk n c = true)
    (h : sx fn_ P n c (retK P fn.results.toList R) (rho0 args.toList) w) : Calls P f args w fun e w' => ∃ v, e = .returned v ∧ R v w' := by
  refine callsIn_wide.1 (callsIn_of_wp (F := Fence.wide) (n := 0) hf hb trivial (wpIn_mono (sx_W c _ _ w hd h { tmps := args ++ Array.replicate (fn.ntmps - args.size) undef, defers := [] } ⟨?_, rfl, fun i => ?_⟩) ?_))
  · simp [hn]; omega
  · simp only [rho0, Array.getD_eq_getD_getElem?, List.getD_eq_getElem?_getD, Array.getElem?_append, Array.getElem?_toList]
    by_cases hi : i < args.size
    · rw [if_pos hi]
    · rw [if_neg hi, Array.getElem?_replicate, Array.getElem?_eq_none (xs := args) (by omega)]
      split <;> rfl
  · rintro e a' w' ⟨ρ', hl', hk⟩
    have key : ∀ (hq : resK P ρ' (fun vs w => R (packV vs) w) fn.results.toList w'), a'.defers = [] ∧ ∃ v, (results fn a'.tmps).run P w' = .ok v w' ∧ ∃ u, Ending.returned v = .returned u ∧ R u w' := by
      intro hq
      obtain ⟨v, hr, hk⟩ := results_of_resK hl' hq
      exact ⟨hl'.defers, v, hr, v, rfl, hk⟩
    cases e with
    | normal => exact key hk
    | ret => exact key hk
    | exit id => exact hk.elim
    | goto l => exact hk.elim
    | panic c => exact hk.elim
    | outgrown => exact hk.elim

/-! ### A function with a range over a function among its outermost statements -/
def retC (P : Program) (b : Nat) (rs : List ResultVar) (R : Value → World → Prop) : Exit → Sl → World → Prop
  | .normal, ρ, w | .ret, ρ, w => w.heap[b]? = some (.deferred (some [])) ∧ resK P ρ (fun vs w => R (packV vs) w) rs (w.putObj b (.deferred none))
  | _, _, _ => False
theorem postM_of {P : Program} {n : Nat} {fn : Func} {R : Value → World → Prop} {w0 : World} {e : Exit} {a : Act} {w : World} (h : ∃ ρ, Lk (ranged w0) n a ρ ∧ retC P w0.heap.size fn.results.toList R e ρ w) :
    bodyPostM Fence.wide 0 P fn (fun e w' => ∃ v, e = .returned v ∧ R v w') e a w := by
  obtain ⟨ρ, hl, hk⟩ := h
  have key : ∀ (hq : w.heap[w0.heap.size]? = some (.deferred (some [])) ∧ resK P ρ (fun vs w => R (packV vs) w) fn.results.toList (w.putObj w0.heap.size (.deferred none))),
      LeavesInM Fence.wide 0 P fn a.tmps (fun e w' => ∃ v, e = .returned v ∧ R v w') a.defers .returning w := by
    rintro ⟨hd, hr⟩
    rw [hl.defers]
    refine ⟨by simp, .inl ⟨w0.heap.size, _, rfl, run_takeDeferred hd, ?_⟩⟩
    obtain ⟨v, hv, hR⟩ := results_of_resK hl hr
    exact ⟨v, hv, v, rfl, hR⟩
  cases e with
  | normal => exact key hk
  | ret => exact key hk
  | exit id => exact hk.elim
  | goto l => exact hk.elim
  | panic c => exact hk.elim
  | outgrown => exact hk.elim
theorem calls_of_M {P : Program} {f : FuncId} {fn : Func} {c : Code} {args : Array Value} {w : World} {R : Value → World → Prop} {n : Nat}
    (hf : P.funcs[f]? = some fn) (hb : fn.body = some c) (hn : fn.ntmps = n) (hsz : args.size ≤ n)
    (h : ∀ a, Lk fn_ n a (rho0 args.toList) → c.wpIn (FF fn_) 0 P (bodyPostM Fence.wide 0 P fn (fun e w' => ∃ v, e = .returned v ∧ R v w')) a w) : Calls P f args w fun e w' => ∃ v, e = .returned v ∧ R v w' := by
  refine callsIn_wide.1 (callsIn_of_wp_marks (F := Fence.wide) (n := 0) hf hb trivial (h { tmps := args ++ Array.replicate (fn.ntmps - args.size) undef, defers := [] } ⟨?_, rfl, fun i => ?_⟩))
  · simp [hn]; omega
  · simp only [rho0, Array.getD_eq_getD_getElem?, List.getD_eq_getElem?_getD, Array.getElem?_append, Array.getElem?_toList]
    by_cases hi : i < args.size
    · rw [if_pos hi]
    · rw [if_neg hi, Array.getElem?_replicate, Array.getElem?_eq_none (xs := args) (by omega)]
      split <;> rfl
/-- What stands ahead of the range, a statement that ends normally. -/
theorem seq_M {P : Program} {n : Nat} {x y : Code} {Q : Exit → Act → World → Prop} {ρ : Sl} {w : World} (hd : dstOk n x = true) {N : Sl → World → Prop} (hx : sx fn_ P n x (seqK N (fun _ _ _ => False)) ρ w)
    (hy : ∀ ρ' w', N ρ' w' → ∀ a, Lk fn_ n a ρ' → y.wpIn (FF fn_) 0 P Q a w') : ∀ a, Lk fn_ n a ρ → (Code.seq x y).wpIn (FF fn_) 0 P Q a w := by
  intro a hl
  refine wpIn_seq (wpIn_mono (sx_W x _ ρ w hd hx a hl) ?_)
  rintro e a' w' ⟨ρ', hl', hk⟩
  cases e with
  | normal => exact hy ρ' w' hk a' hl'
  | exit id => exact hk.elim
  | goto l => exact hk.elim
  | ret => exact hk.elim
  | panic c => exact hk.elim
  | outgrown => exact hk.elim

/-- '(x; block (for .. := range g ..)); rest'. -/
theorem seq_range {P : Program} {n i : Nat} {x : Code} {g : Operand} {ps : Array Tmp} {assign body rest : Code} {fn : Func} {R : Value → World → Prop} {ρ : Sl} {w : World} (hd : dstOk n x = true) (hdr : dstOk n rest = true) {N : Sl → World → Prop} (hx : sx fn_ P n x (seqK N (fun _ _ _ => False)) ρ w)
    (hy : ∀ ρ' w', N ρ' w' → ∃ (f : FuncId) (fn' : Func) (cap : Array Value), ev ρ' g = .func (.func f) #[] cap ∧ P.funcs[f]? = some fn' ∧ fn'.body.isNone = false ∧ (fn'.name == "runtime.NumGoroutine") = false ∧
      ∀ (fn0 : FuncId) (tmps : Array Value), tmps.size = n → (∀ i, tmps.getD i undef = ρ' i) →
        Calls P f (#[.func (.yield (w'.heap.size + 1)) #[] #[]] ++ cap) (enter_ w' (rec_ w' fn0 tmps ps assign body)) fun e w3 => ∃ v, e = .returned v ∧ ∃ L, w3.heap[w'.heap.size + 1]? = some (.loop L) ∧ L.state ≠ .busy ∧ L.pending = none ∧
          sx (ranged w') P n rest (retC P w'.heap.size fn.results.toList R) ρ' (w3.putObj (w'.heap.size + 1) (.loop { L with state := .exhausted }))) :
    ∀ a, Lk fn_ n a ρ → (Code.seq (Code.seq x (.block i (.rangeFunc g ps assign body))) rest).wpIn (FF fn_) 0 P (bodyPostM Fence.wide 0 P fn (fun e w' => ∃ v, e = .returned v ∧ R v w')) a w := by
  intro a hl
  refine wpIn_seq (wpIn_seq (wpIn_mono (sx_W x _ ρ w hd hx a hl) ?_))
  rintro e a' w' ⟨ρ', hl', hk⟩
  cases e with
  | normal =>
    obtain ⟨f, fn', cap, h1, h2, h3, h4, h5⟩ := hy ρ' w' hk
    refine wpIn_block (range_wp (N := fun w4 => sx (ranged w') P n rest (retC P w'.heap.size fn.results.toList R) ρ' w4) h1 h2 h3 h4 h5 ?_ a' hl')
    intro a2 w4 hl2 hN
    exact wpIn_mono (sx_W rest _ ρ' w4 hdr hN a2 hl2) (fun e a3 w5 hq => postM_of hq)
  | exit id => exact hk.elim
  | goto l => exact hk.elim
  | ret => exact hk.elim
  | panic c => exact hk.elim
  | outgrown => exact hk.elim

/-! ### The printed formulas' words -/
def VK (P : Program) (s : Sem Value) (w : World) (K : Value → World → Prop) : Prop := OpK P (do pure (Next.value (← s))) w K
def UK (P : Program) (s : Sem Unit) (w : World) (K : Value → World → Prop) : Prop := OpK P (do s; pure Next.skip) w K
def NK (P : Program) (v : Value) (w : World) (K : Value → World → Prop) : Prop := OpK P (nilCk v) w K
def PK (P : Program) (c a b : Value) (w : World) (K : Value → World → Prop) : Prop := OpK P (do pure (Next.value (if ← asBool c then a else b))) w K
def BK (P : Program) (op : BinOp) (t : TypeId) (x y : Operand) (a b : Value) (w : World) (K : Value → World → Prop) : Prop := OpK P (do pure (Next.value (← (do eqGuard op t x y a b; binOp op t a b)))) w K
def CK (P : Program) (f : Value) (args : List Value) (w : World) (K : Value → World → Prop) : Prop := OpK P (do let d ← Deferred.ofValue f args.toArray; invoke d.target d.args) w K
def IK (P : Program) (b : Builtin) (ts : Array TypeId) (t : TypeId) (cs : List Bool) (args : List Value) (w : World) (K : Value → World → Prop) : Prop := OpK P (builtin b ts t cs.toArray args.toArray) w K
def VG (P : Program) (g : Value) (b : Bool) (s : Sem Value) (w : World) (K : Value → World → Prop) : Prop := GOp P g b (do pure (Next.value (← s))) w K
def UG (P : Program) (g : Value) (b : Bool) (s : Sem Unit) (w : World) (K : Value → World → Prop) : Prop := GOp P g b (do s; pure Next.skip) w K
def MG (P : Program) (g : Value) (b : Bool) (v : Value) (w : World) (K : Value → World → Prop) : Prop := GOp P g b (pure (Next.value v)) w K
def NG (P : Program) (g : Value) (b : Bool) (v : Value) (w : World) (K : Value → World → Prop) : Prop := GOp P g b (nilCk v) w K
def PG (P : Program) (g : Value) (gb : Bool) (c a b : Value) (w : World) (K : Value → World → Prop) : Prop := GOp P g gb (do pure (Next.value (if ← asBool c then a else b))) w K
def BG (P : Program) (g : Value) (gb : Bool) (op : BinOp) (t : TypeId) (x y : Operand) (a b : Value) (w : World) (K : Value → World → Prop) : Prop := GOp P g gb (do pure (Next.value (← (do eqGuard op t x y a b; binOp op t a b)))) w K
def CG (P : Program) (g : Value) (gb : Bool) (f : Value) (args : List Value) (w : World) (K : Value → World → Prop) : Prop := GOp P g gb (do let d ← Deferred.ofValue f args.toArray; invoke d.target d.args) w K
def IG (P : Program) (g : Value) (gb : Bool) (b : Builtin) (ts : Array TypeId) (t : TypeId) (cs : List Bool) (args : List Value) (w : World) (K : Value → World → Prop) : Prop := GOp P g gb (builtin b ts t cs.toArray args.toArray) w K
/-- What several ways go on to. -/
def LJ (F : (Sl → World → Prop) → Prop) (J : Sl → World → Prop) : Prop := F J
/-- A part of a code. -/
def cAt : List Nat → Code → Code
  | [], c => c
  | 0 :: p, .seq a _ => cAt p a
  | _ :: p, .seq _ b => cAt p b
  | 0 :: p, .cond _ a _ => cAt p a
  | _ :: p, .cond _ _ b => cAt p b
  | _ :: p, .block _ c => cAt p c
  | _ :: p, .loop c => cAt p c
  | _ :: p, .scope c => cAt p c
  | 0 :: p, .rangeFunc _ _ a _ => cAt p a
  | _ :: p, .rangeFunc _ _ _ b => cAt p b
  | _, c => c
def gOf : Code → Operand
  | .rangeFunc g _ _ _ => g
  | _ => .const undef
def psOf : Code → Array Tmp
  | .rangeFunc _ ps _ _ => ps
  | _ => #[]
def opsOf : Code → Array Oper
  | .region _ ops _ => ops
  | _ => #[]
def idOf : Code → Nat
  | .region id _ _ => id
  | _ => 0
end Go.X
