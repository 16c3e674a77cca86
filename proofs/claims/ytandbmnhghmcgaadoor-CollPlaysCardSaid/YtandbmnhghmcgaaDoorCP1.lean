/- Several texts of this repo, one behind the other, without what is not used here. -/
import Derived.WalkKit
import Derived.ProofKit
import Derived.OpenShut
import Derived.ShutString
import Derived.ChangeOld
import Derived.Below
import Derived.Carry
import Derived.SizedLaws
import Derived.KernelRfl
import Derived.Deep.Quiet
import Derived.StillTail
import Derived.RangeFuncIn
import Derived.RangeFuncRecord
import Derived.Maps.AppendAt
import Derived.Great.BuildSlice
import Derived.ChangeArms
import Derived.DataReads
import Derived.Deep.DeepHandedRow
import Derived.Handy
import Derived.Lay
import Derived.LaidMore
import Derived.Stop.Joined
import Derived.MapKept
import Derived.Laws.StructEq
import Derived.Lib.SliceRun
import Derived.Laws.OwnMore
import Derived.Laws.IdiomStrings
import Derived.Laws.BytesArg
import Derived.OrdersHeld
import Derived.Test.YtandbmnhghmcgaaDoorProg
import Derived.Lib.ItoaNum
set_option linter.unusedVariables false
namespace Go.X
open Go Go.ChangeShapes Go.WideShapes Go.ChangeAt Go.RowKit
theorem trodAll_lt {H : Type} {enc : TypeId × Value → H} {P : Program} {w : World} {base : Nat} {sp : Nat → Bool} {hd : Bool} : ∀ {ts : List TypeId} {vs : List Value} {ds : List (DataW H)} {p : List MemPlace},
    DataW.TrodAll enc P w base sp hd ts vs ds p → ∀ x ∈ p, x.block < w.heap.size
  | [], [], [], p, h => by
    have : p = [] := h
    subst this
    simp
  | t :: ts, v :: vs, d :: ds, p, h => by
    obtain ⟨p1, q1, h1, h2, rfl⟩ := h
    intro x hx
    rcases List.mem_append.1 hx with hx | hx
    · obtain ⟨m, hm⟩ := h1
      exact DataW.trod_lt m _ _ _ hm x hx
    · exact trodAll_lt h2 x hx
  | [], [], _ :: _, _, h => h.elim
  | [], _ :: _, _, _, h => h.elim
  | _ :: _, [], _, _, h => h.elim
  | _ :: _, _ :: _, [], _, h => h.elim
theorem trodAll_length {H : Type} {enc : TypeId × Value → H} {P : Program} {w : World} {base : Nat} {sp : Nat → Bool} {hd : Bool} : ∀ {ts : List TypeId} {vs : List Value} {ds : List (DataW H)} {p : List MemPlace},
    DataW.TrodAll enc P w base sp hd ts vs ds p → ds.length = ts.length
  | [], [], [], p, h => rfl
  | t :: ts, v :: vs, d :: ds, p, h => by
    obtain ⟨p1, q1, h1, h2, rfl⟩ := h
    simp [trodAll_length h2]
  | [], [], _ :: _, _, h => h.elim
  | [], _ :: _, _, _, h => h.elim
  | _ :: _, [], _, _, h => h.elim
  | _ :: _, _ :: _, [], _, h => h.elim
theorem below_trodAll {H : Type} {enc : TypeId × Value → H} {P : Program} {W W' : World} (hl : laidOutB P = true) (hb : Below W.heap.size W W') : ∀ {ts : List TypeId} {vs : List Value} {ds : List (DataW H)} {p : List MemPlace},
    (ts.all fun t => P.readableRec t && decide (t < P.types.size)) = true → DataW.TrodAll enc P W 0 (fun _ => true) true ts vs ds p → DataW.TrodAll enc P W' 0 (fun b => decide (b < W.heap.size)) true ts vs ds p
  | [], [], [], p, _, h => h
  | t :: ts, v :: vs, d :: ds, p, hr, h => by
    have hlt := trodAll_lt h
    obtain ⟨p1, q1, h1, h2, rfl⟩ := h
    simp only [List.all_cons, Bool.and_eq_true, decide_eq_true_eq] at hr
    exact ⟨p1, q1, Below.trod hl hr.1.1 hr.1.2 h1 hb (fun x hx => hlt x (List.mem_append_left _ hx)), below_trodAll hl hb (by simpa using hr.2) h2, rfl⟩
  | [], [], _ :: _, _, _, h => h.elim
  | [], _ :: _, _, _, _, h => h.elim
  | _ :: _, [], _, _, _, h => h.elim
  | _ :: _, _ :: _, [], _, _, h => h.elim
end Go.X
set_option linter.unusedVariables false
set_option linter.unusedSimpArgs false
namespace Go.X
open Go
abbrev Sl := Nat → Value
def ev (ρ : Sl) : Operand → Value
  | .tmp t => ρ t
  | .const v => v
  | .global g => .pointer (some ⟨g, 0, none⟩)
  | .func f => .func (.func f) #[] #[]
def up (ρ : Sl) (d : Nat) (v : Value) : Sl := fun i => cond (Nat.beq i d) v (ρ i)
def upo (ρ : Sl) (d : Option Nat) (v : Value) : Sl :=
  match d with
  | some d => up ρ d v
  | none => ρ
structure At where
  r : Option Nat := none
  D : List Deferred := []
def fn_ : At := {}
def FF (c : At) : Fence := { Fence.wide with round := c.r }
structure Lk (z : At) (n : Nat) (a : Act) (ρ : Sl) : Prop where
  size : a.tmps.size = n
  defers : a.defers = z.D
  val : ∀ i, a.tmps.getD i undef = ρ i
theorem Lk.ev {z : At} {n : Nat} {a : Act} {ρ : Sl} (h : Lk z n a ρ) (x : Operand) : a.eval x = ev ρ x := by
  cases x with
  | tmp t => exact h.val t
  | const v => rfl
  | global g => rfl
  | func f => rfl
theorem Lk.put {z : At} {n : Nat} {a : Act} {ρ : Sl} (h : Lk z n a ρ) (d : Option Nat) (v : Value) (hd : ∀ k, d = some k → k < n) : Lk z n (a.put d v) (upo ρ d v) := by
  cases d with
  | none => exact h
  | some k =>
    have hk := hd k rfl
    refine ⟨?_, h.defers, fun i => ?_⟩
    · simp only [Act.put]
      rw [Array.size_setIfInBounds]; exact h.size
    · have hv := h.val i
      simp only [Act.put, upo, up]
      by_cases e : i = k
      · subst e
        have hlt : i < a.tmps.size := by rw [h.size]; exact hk
        simp [Array.getD_eq_getD_getElem?, hlt, Nat.beq_refl]
      · have hb : Nat.beq i k = false := by
          cases hq : Nat.beq i k with
          | false => rfl
          | true => exact absurd (Nat.eq_of_beq_eq_true hq) e
        rw [hb]
        simp only [cond_false]
        simp only [Array.getD_eq_getD_getElem?] at hv ⊢
        rw [Array.getElem?_setIfInBounds]
        rw [if_neg (fun q => e q.symm)]
        simpa using hv
def OpK (P : Program) (s : Sem Next) (w : World) (K : Value → World → Prop) : Prop :=
  match s.run P w with
  | .ok (.value v) w' => K v w'
  | .ok .skip w' => K undef w'
  | .ok (.enter f args) w' => Calls P f args w' fun e w'' => ∃ v, e = .returned v ∧ K v w''
  | .ok (.round l f tmps assign body) w' => RoundIn Fence.wide 0 P l f tmps assign body w' fun e w'' => ∃ v, e = .returned v ∧ K v w''
  | _ => False
def wantB (v : Value) (b : Bool) : Bool := match v with | .bool t => t == b | _ => false
def GuardK (v : Value) (b : Bool) (A B : Prop) : Prop := (wantB v b = true → A) ∧ (wantB v b = false → B)
def CondK (v : Value) (A B : Prop) : Prop := ∃ t, v = .bool t ∧ (t = true → A) ∧ (t = false → B)
def GOp (P : Program) (g : Value) (b : Bool) (s : Sem Next) (w : World) (K : Value → World → Prop) : Prop := GuardK g b (OpK P s w K) (K undef w)
def nilCk (v : Value) : Sem Next := execOp (fun _ => v) { dst := none, op := .nilCheck (.tmp 0), type := 0, pos := "", after := #[], guard := none }
def exo (ρ : Operand → Value) (op : Op) (ty : TypeId) : Sem Next :=
  match op with
  | .build t parts => do pure (.value (← Instr.build t (parts.toList.map fun p => (p.1, ρ p.2)).toArray))
  | .buildSlice t len parts => do pure (.value (← Instr.buildSlice t len (parts.toList.map fun p => (p.1, ρ p.2)).toArray))
  | .makeFunc fn first captured => do pure (.value (← Instr.makeFunc fn (first.toList.map ρ).toArray (captured.toList.map ρ).toArray))
  | .nilCheck x => nilCk (ρ x)
  | .call { callee := .builtin b, args, argTypes } => builtin b argTypes ty ((args.toList.map fun | .const _ => true | _ => false).toArray) (args.toList.map ρ).toArray
  | .call { callee := .value f, args, .. } => do let d ← Deferred.ofValue (ρ f) (args.toList.map ρ).toArray; invoke d.target d.args
  | op => execOp ρ { dst := none, op, type := ty, pos := "", after := #[], guard := none }
theorem arr_map {α β : Type} (f : α → β) (a : Array α) : a.map f = (a.toList.map f).toArray := by
  rw [← Array.toList_map]
theorem exo_eq (ρ : Operand → Value) (o : Oper) : exo ρ o.op o.type = execOp ρ o := by
  obtain ⟨dst, op, ty, pos, after, guard⟩ := o
  cases op with
  | build t parts => simp only [exo, execOp, arr_map]
  | buildSlice t len parts => simp only [exo, execOp, arr_map]
  | makeFunc fn first captured => simp only [exo, execOp, arr_map]
  | nilCheck x => rfl
  | call c =>
    obtain ⟨callee, args, argTypes⟩ := c
    cases callee with
    | value f => simp only [exo, execOp, resolve, arr_map]
    | invoke r m => rfl
    | builtin b =>
      simp only [exo, execOp, resolve, arr_map]
      rfl
  | _ => rfl
def gv (ops : Array Oper) (ρ : Sl) (j : Nat) : Value :=
  match (ops[j]?).bind (·.dst) with
  | some d => ρ d
  | none => undef
def mvOf : Op → Option Operand
  | .move x => some x
  | .assign x => some x
  | _ => none
def sx1 (P : Program) (ops : Array Oper) (o : Oper) (N : Sl → World → Prop) (ρ : Sl) (w : World) : Prop :=
  match o with
  | ⟨dst, op, ty, _, _, g⟩ =>
    match g, dst with
    | none, some d => match mvOf op with
      | some x => N (up ρ d (ev ρ x)) w
      | none => OpK P (exo (ev ρ) op ty) w fun v w' => N (up ρ d v) w'
    | none, none => OpK P (exo (ev ρ) op ty) w fun _ w' => N ρ w'
    | some (j, b), some d => GOp P (gv ops ρ j) b (exo (ev ρ) op ty) w fun v w' => N (up ρ d v) w'
    | some (j, b), none => GOp P (gv ops ρ j) b (exo (ev ρ) op ty) w fun _ w' => N ρ w'
def sxL (P : Program) (ops : Array Oper) (K : Sl → World → Prop) : List Oper → Sl → World → Prop
  | [], ρ, w => K ρ w
  | o :: r, ρ, w => sx1 P ops o (sxL P ops K r) ρ w
def lift (z : At) (n : Nat) (K : Exit → Sl → World → Prop) : Exit → Act → World → Prop := fun e a w => ∃ ρ, Lk z n a ρ ∧ K e ρ w
def W (z : At) (P : Program) (n : Nat) (c : Code) (K : Exit → Sl → World → Prop) (ρ : Sl) (w : World) : Prop :=
  ∀ a, Lk z n a ρ → c.wpIn (FF z) 0 P (lift z n K) a w
def seqK (N : Sl → World → Prop) (K : Exit → Sl → World → Prop) : Exit → Sl → World → Prop
  | .normal => N
  | e => K e
def blkK (id : Nat) (K : Exit → Sl → World → Prop) : Exit → Sl → World → Prop
  | .exit i => if Nat.beq i id then K .normal else K (.exit i)
  | e => K e
def sx (z : At) (P : Program) (n : Nat) : Code → (Exit → Sl → World → Prop) → Sl → World → Prop
  | .skip, K, ρ, w => K .normal ρ w
  | .region id ops false, K, ρ, w => sxL P ops (K .normal) ops.toList ρ w
  | .seq a b, K, ρ, w => sx z P n a (seqK (sx z P n b K) K) ρ w
  | .cond c x y, K, ρ, w => CondK (ev ρ c) (sx z P n x K ρ w) (sx z P n y K ρ w)
  | .block id c, K, ρ, w => sx z P n c (blkK id K) ρ w
  | .exit id, K, ρ, w => K (.exit id) ρ w
  | .ret, K, ρ, w => K .ret ρ w
  | .label _, K, ρ, w => K .normal ρ w
  | c, K, ρ, w => W z P n c K ρ w
def isDefer : Op → Bool
  | .defer _ => true
  | _ => false
def oOk (n : Nat) (o : Oper) : Bool := (match o.dst with | some d => Nat.blt d n | none => true) && !isDefer o.op
def dstOk (n : Nat) : Code → Bool
  | .region _ ops _ => ops.toList.all (oOk n)
  | .seq a b => dstOk n a && dstOk n b
  | .cond _ a b => dstOk n a && dstOk n b
  | .block _ c => dstOk n c
  | .scope c => dstOk n c
  | .loop c => dstOk n c
  | _ => true
theorem yielded_gv {z : At} {n : Nat} {a : Act} {ρ : Sl} (h : Lk z n a ρ) (ops : Array Oper) (j : Nat) : yielded ops a.tmps j = (match gv ops ρ j with | .bool t => some t | _ => none) := by
  unfold gv yielded
  cases hq : (ops[j]?).bind (·.dst) with
  | none => simp [undef]
  | some d =>
    have hd := h.val d
    simp only [Option.bind_some]
    cases hz : a.tmps[d]? with
    | none =>
      rw [Array.getD_eq_getD_getElem?, hz] at hd
      simp only [Option.getD_none] at hd
      rw [← hd]
      simp [undef]
    | some v =>
      rw [Array.getD_eq_getD_getElem?, hz] at hd
      simp only [Option.getD_some] at hd
      rw [← hd]
      cases v <;> simp
theorem wanted_gv {z : At} {n : Nat} {a : Act} {ρ : Sl} (h : Lk z n a ρ) (ops : Array Oper) {o : Oper} {j : Nat} {b : Bool} (hg : o.guard = some (j, b)) : Region.wanted o (yielded ops a.tmps) = wantB (gv ops ρ j) b := by
  unfold Region.wanted
  rw [hg]
  dsimp only
  rw [yielded_gv h ops j]
  unfold wantB
  cases gv ops ρ j <;> simp
theorem opK_wp {P : Program} {z : At} {n : Nat} {a : Act} {ρ : Sl} {o : Oper} {w : World} {K : Value → World → Prop} {next : Act → World → Prop} {Q : Exit → Act → World → Prop}
    (hdf : isDefer o.op = false) (h : Lk z n a ρ) (hk : OpK P (exo (ev ρ) o.op o.type) w K) (hn : ∀ v w', K v w' → next (a.put o.dst v) w') : o.wpIn (FF z) 0 P a w next Q := by
  have he : a.eval = ev ρ := funext (fun x => h.ev x)
  refine ⟨fun _ _ => trivial, ?_⟩
  rw [Oper.semAt_eq _ _ _ (fun c hc => by rw [hc] at hdf; cases hdf), he]
  rw [exo_eq] at hk
  unfold OpK at hk
  unfold Oper.uponIn
  split at hk
  · rename_i v w' hr; rw [hr]; exact hn _ _ hk
  · rename_i w' hr; rw [hr]; exact hn _ _ hk
  · rename_i f args w' hr
    rw [hr]
    refine ⟨fun q => by simp [FF, Fence.wide] at q, ?_⟩
    have hk' : CallsIn Fence.wide 0 P f args w' fun e w'' => ∃ v, e = .returned v ∧ K v w'' := callsIn_wide.2 hk
    refine CallsIn.mono (F := FF z) (n := 0) hk' ?_
    rintro e w'' ⟨v, rfl, hv⟩
    exact hn _ _ hv
  · rename_i l f tmps assign body w' hr
    rw [hr]
    refine ⟨fun q => by simp [FF, Fence.wide] at q, ?_⟩
    refine RoundIn.mono (F := FF z) (n := 0) hk ?_
    rintro e w'' ⟨v, rfl, hv⟩
    exact hn _ _ hv
  · exact hk.elim
theorem sx1_eq (P : Program) (ops : Array Oper) (o : Oper) (N : Sl → World → Prop) (ρ : Sl) (w : World) :
    sx1 P ops o N ρ w = match o.guard with
      | none => OpK P (exo (ev ρ) o.op o.type) w fun v w' => N (upo ρ o.dst v) w'
      | some (j, b) => GOp P (gv ops ρ j) b (exo (ev ρ) o.op o.type) w fun v w' => N (upo ρ o.dst v) w' := by
  obtain ⟨dst, op, ty, pos, after, guard⟩ := o
  cases guard with
  | none =>
    cases dst with
    | none => rfl
    | some d => cases op <;> rfl
  | some jb => cases dst <;> rfl
theorem oOk_dst {n : Nat} {o : Oper} (h : oOk n o = true) : ∀ k, o.dst = some k → k < n := by
  intro k hk
  simp only [oOk, Bool.and_eq_true] at h
  have := h.1
  rw [hk] at this
  exact Nat.lt_of_lt_of_le (Nat.lt_succ_self _) (Nat.le_of_ble_eq_true this)
theorem oOk_df {n : Nat} {o : Oper} (h : oOk n o = true) : isDefer o.op = false := by
  simp only [oOk, Bool.and_eq_true, Bool.not_eq_true'] at h
  exact h.2
theorem sx1_wp {P : Program} {z : At} {n : Nat} {ops : Array Oper} {Q : Exit → Act → World → Prop} {o : Oper} {N : Sl → World → Prop} {next : Act → World → Prop} {a : Act} {ρ : Sl} {w : World}
    (ho : oOk n o = true) (hl : Lk z n a ρ) (h : sx1 P ops o N ρ w) (hn : ∀ a ρ w, Lk z n a ρ → N ρ w → next a w) :
    if Region.wanted o (yielded ops a.tmps) then o.wpIn (FF z) 0 P a w next Q else next (a.put o.dst undef) w := by
  have hd := oOk_dst ho
  rw [sx1_eq] at h
  cases hg : o.guard with
  | none =>
    rw [hg] at h
    have hw : Region.wanted o (yielded ops a.tmps) = true := by unfold Region.wanted; rw [hg]
    rw [hw]
    simp only [if_true]
    exact opK_wp (oOk_df ho) hl h fun v w' hv => hn _ _ _ (hl.put _ _ hd) hv
  | some jb =>
    obtain ⟨j, b⟩ := jb
    rw [hg] at h
    obtain ⟨h1, h2⟩ := h
    have hy := wanted_gv hl ops hg
    by_cases htb : wantB (gv ops ρ j) b = true
    · have hw : Region.wanted o (yielded ops a.tmps) = true := hy.trans htb
      rw [hw]
      simp only [if_true]
      exact opK_wp (oOk_df ho) hl (h1 htb) fun v w' hv => hn _ _ _ (hl.put _ _ hd) hv
    · have htb : wantB (gv ops ρ j) b = false := Bool.eq_false_iff.2 htb
      have hw : Region.wanted o (yielded ops a.tmps) = false := hy.trans htb
      rw [hw]
      simp only [Bool.false_eq_true, if_false]
      exact hn _ _ _ (hl.put _ _ hd) (h2 htb)
theorem oOk_at {n : Nat} {ops : Array Oper} (hd : (ops.toList.all (oOk n)) = true) {i : Nat} {o : Oper} (ho : ops[i]? = some o) : oOk n o = true := by
  have hm : o ∈ ops.toList := by
    obtain ⟨hi, hv⟩ := Array.getElem?_eq_some_iff.1 ho
    rw [← hv]; exact Array.getElem_mem_toList hi
  exact List.all_eq_true.1 hd o hm
theorem sxL_wp {P : Program} {z : At} {n : Nat} {ops : Array Oper} {K : Sl → World → Prop} {Q : Exit → Act → World → Prop}
    (hd : (ops.toList.all (oOk n)) = true)
    (hQ : ∀ a ρ w, Lk z n a ρ → K ρ w → Q .normal a w) (m : Nat) : ∀ k a ρ w, k + m = ops.size → Lk z n a ρ → sxL P ops K (ops.toList.drop k) ρ w → wpOpsIn (FF z) 0 P ops Q (List.range' k m) a w := by
  induction m with
  | zero =>
    intro k a ρ w hk hl h
    rw [List.drop_of_length_le (by simp; omega)] at h
    exact hQ a ρ w hl h
  | succ m ih =>
    intro k a ρ w hk hl h
    have hlt : k < ops.toList.length := by simp; omega
    rw [List.drop_eq_getElem_cons hlt] at h
    have ho : ops[k]? = some ops.toList[k] := by
      rw [← Array.getElem?_toList]
      exact List.getElem?_eq_getElem hlt
    show wpOpsIn (FF z) 0 P ops Q (k :: List.range' (k + 1) m) a w
    unfold wpOpsIn
    rw [ho]
    have := sx1_wp (Q := Q) (oOk_at hd ho) hl h (fun a ρ w hl hq => ih (k + 1) a ρ w (by omega) hl hq)
    dsimp only
    split at this
    · rename_i hw; rw [if_pos hw]; exact this
    · rename_i hw; rw [if_neg hw]; exact ⟨fun _ _ => trivial, this⟩
theorem sx_W {P : Program} {z : At} {n : Nat} : ∀ (c : Code) (K : Exit → Sl → World → Prop) (ρ : Sl) (w : World), dstOk n c = true → sx z P n c K ρ w → W z P n c K ρ w
  | .skip, K, ρ, w, _, h => fun a hl => wpIn_skip ⟨ρ, hl, h⟩
  | .region id ops false, K, ρ, w, hd, h => fun a hl => wpIn_region (by rw [List.range_eq_range']; exact sxL_wp hd (fun a ρ w hl hk => ⟨ρ, hl, hk⟩) ops.size 0 a ρ w (by omega) hl h)
  | .region id ops true, K, ρ, w, hd, h => h
  | .seq x y, K, ρ, w, hd, h => by
    intro a hl
    simp only [dstOk, Bool.and_eq_true] at hd
    refine wpIn_seq (wpIn_mono (sx_W x _ ρ w hd.1 h a hl) ?_)
    rintro e a' w' ⟨ρ', hl', hk⟩
    cases e with
    | normal => exact sx_W y K ρ' w' hd.2 hk a' hl'
    | exit id => exact ⟨ρ', hl', hk⟩
    | goto l => exact ⟨ρ', hl', hk⟩
    | ret => exact ⟨ρ', hl', hk⟩
    | panic c => exact ⟨ρ', hl', hk⟩
    | outgrown => exact ⟨ρ', hl', hk⟩
  | .cond c x y, K, ρ, w, hd, h => by
    intro a hl
    simp only [dstOk, Bool.and_eq_true] at hd
    obtain ⟨t, hv, h1, h2⟩ := h
    exact wpIn_cond_split ((hl.ev c).trans hv) (fun ht => sx_W x K ρ w hd.1 (h1 ht) a hl) (fun ht => sx_W y K ρ w hd.2 (h2 ht) a hl)
  | .block id c, K, ρ, w, hd, h => by
    intro a hl
    refine wpIn_block (wpIn_mono (sx_W c _ ρ w hd h a hl) ?_)
    rintro e a' w' ⟨ρ', hl', hk⟩
    cases e with
    | exit i =>
      simp only [Exit.inBlock]
      unfold blkK at hk
      dsimp only at hk
      by_cases e : i = id
      · subst e
        rw [if_pos rfl]
        rw [if_pos (Nat.beq_refl i)] at hk
        exact ⟨ρ', hl', hk⟩
      · rw [if_neg e]
        rw [if_neg (fun q => e (Nat.eq_of_beq_eq_true q))] at hk
        exact ⟨ρ', hl', hk⟩
    | normal => exact ⟨ρ', hl', hk⟩
    | goto l => exact ⟨ρ', hl', hk⟩
    | ret => exact ⟨ρ', hl', hk⟩
    | panic c => exact ⟨ρ', hl', hk⟩
    | outgrown => exact ⟨ρ', hl', hk⟩
  | .exit id, K, ρ, w, hd, h => fun a hl => wpIn_exit ⟨ρ, hl, h⟩
  | .ret, K, ρ, w, hd, h => fun a hl => wpIn_ret ⟨ρ, hl, h⟩
  | .label _, K, ρ, w, hd, h => fun a hl => wpIn_label ⟨ρ, hl, h⟩
  | .loop c, K, ρ, w, hd, h => h
  | .rangeFunc .., K, ρ, w, hd, h => h
  | .scope _, K, ρ, w, hd, h => h
  | .goto _, K, ρ, w, hd, h => h
  | .refuse _, K, ρ, w, hd, h => h
theorem W_loop {P : Program} {z : At} {n : Nat} {c : Code} {K : Exit → Sl → World → Prop} {ρ : Sl} {w : World} (hd : dstOk n c = true) (I : Sl → World → Prop) (μ : Sl → World → Nat) (h0 : I ρ w)
    (round : ∀ ρ w, I ρ w → sx z P n c (seqK (fun ρ' w' => I ρ' w' ∧ μ ρ' w' < μ ρ w) K) ρ w) : W z P n (.loop c) K ρ w := by
  intro a hl
  let M : Act → World → Nat := fun a w => μ (fun i => a.tmps.getD i undef) w
  have hM : ∀ a ρ w, Lk z n a ρ → M a w = μ ρ w := by
    intro a ρ w hl
    have : (fun i => a.tmps.getD i undef) = ρ := funext hl.val
    show μ (fun i => a.tmps.getD i undef) w = μ ρ w
    rw [this]
  refine wpIn_loop (fun a w => ∃ ρ, Lk z n a ρ ∧ I ρ w) M ⟨ρ, hl, h0⟩ ?_
  rintro a w ⟨ρ, hl, hI⟩
  refine wpIn_mono (sx_W c _ ρ w hd (round ρ w hI) a hl) ?_
  rintro e a' w' ⟨ρ', hl', hk⟩
  cases e with
  | normal => exact ⟨⟨ρ', hl', hk.1⟩, by rw [hM a' ρ' w' hl', hM a ρ w hl]; exact hk.2⟩
  | exit id => exact ⟨ρ', hl', hk⟩
  | goto l => exact ⟨ρ', hl', hk⟩
  | ret => exact ⟨ρ', hl', hk⟩
  | panic c => exact ⟨ρ', hl', hk⟩
  | outgrown => exact ⟨ρ', hl', hk⟩
def noRound (P : Program) : Op → Bool
  | .call { callee := .value (.func f), .. } => (P.funcs[f]?).any fun fn => fn.body.isSome && !(fn.name == "runtime.NumGoroutine")
  | .call { callee := .builtin .append, .. } => true
  | .call { callee := .builtin .len, .. } => true
  | .call { callee := .builtin .max, .. } => true
  | .call { callee := .builtin .min, .. } => true
  | .call { callee := .builtin .copy, .. } => true
  | .move _ | .assign _ | .pick .. | .alloc _ | .box .. | .build .. | .buildSlice .. | .load .. | .store .. | .binOp .. | .unOp .. | .convert .. | .makeFunc .. | .makeMap .. | .makeSlice .. | .slice .. | .fieldAddr .. | .indexAddr .. | .lookup .. | .mapUpdate .. | .mapEntry .. | .entryStore .. | .field .. | .index .. | .makeInterface .. | .extract .. => true
  | _ => false
theorem run_value_ne {P : Program} {w w' : World} (s : Sem Value) (l : Nat) (f : FuncId) (t : Array Value) (x y : Code) : (do pure (Next.value (← s)) : Sem Next).run P w ≠ .ok (.round l f t x y) w' := by
  rw [Sem.run_bind]
  cases s.run P w with
  | ok v w1 => simp
  | halt h w1 => simp
theorem run_skip_ne {P : Program} {w w' : World} (s : Sem Unit) (l : Nat) (f : FuncId) (t : Array Value) (x y : Code) : (do s; pure Next.skip : Sem Next).run P w ≠ .ok (.round l f t x y) w' := by
  rw [Sem.run_bind]
  cases s.run P w with
  | ok v w1 => simp
  | halt h w1 => simp
theorem noRound_run {P : Program} {w w' : World} {ρ : Operand → Value} {o : Oper} {l : Nat} {f : FuncId} {t : Array Value} {x y : Code} (hρ : ∀ k, ρ (.func k) = .func (.func k) #[] #[]) (h : noRound P o.op = true) : (execOp ρ o).run P w ≠ .ok (.round l f t x y) w' := by
  obtain ⟨dst, op, ty, pos, after, guard⟩ := o
  dsimp only at h
  cases op with
  | move a => intro q; cases q
  | assign a => intro q; cases q
  | pick c a b =>
    show ((asBool (ρ c)) >>= fun t => pure (Next.value (if t then ρ a else ρ b)) : Sem Next).run P w ≠ _
    rw [Sem.run_bind]
    cases (asBool (ρ c)).run P w with
    | ok v w1 => simp
    | halt h w1 => simp
  | store t a v => exact run_skip_ne _ _ _ _ _ _
  | mapUpdate t m k v => exact run_skip_ne _ _ _ _ _ _
  | entryStore t m k v => exact run_skip_ne _ _ _ _ _ _
  | call c =>
    obtain ⟨callee, args, argTypes⟩ := c
    cases callee with
    | invoke r m => simp [noRound] at h
    | builtin b =>
      cases b <;> first | (simp [noRound] at h; done) | exact run_value_ne _ _ _ _ _ _
    | value g =>
      cases g <;> first | (simp [noRound] at h; done) | skip
      rename_i k
      simp only [noRound] at h
      cases hk : P.funcs[k]? with
      | none => rw [hk] at h; simp at h
      | some fn =>
        rw [hk] at h
        simp only [Option.any_some, Bool.and_eq_true, Bool.not_eq_true'] at h
        obtain ⟨h1, h2⟩ := h
        have hb' : fn.body ≠ none := by intro q; rw [q] at h1; cases h1
        have hn' : fn.name ≠ "runtime.NumGoroutine" := by intro q; rw [q] at h2; simp at h2
        have hc : (callFunc k ((args.map ρ) ++ #[])).run P w = .ok (.enter k ((args.map ρ) ++ #[])) w := by
          simp [callFunc, program, Sem.run, hk, hb', hn', Sem.run_bind, pure, bind, Sem.bind]
        intro q
        by_cases hf : ρ (.func k) = .func (.func k) #[] #[]
        · have he : (execOp ρ { dst := dst, op := .call { callee := .value (.func k), args := args, argTypes := argTypes }, type := ty, pos := pos, after := after, guard := guard }).run P w = .ok (.enter k ((args.map ρ) ++ #[])) w := by
            simp only [execOp, resolve, hf, Deferred.ofValue, Sem.run_bind, Sem.run_pure, Result.andThen_ok, invoke, Array.empty_append]
            exact hc
          rw [he] at q
          cases q
        · exact absurd (hρ k) hf
  | _ => first | (simp [noRound] at h; done) | exact run_value_ne _ _ _ _ _ _
def dstsIn (n : Nat) (ops : Array Oper) : Bool := ops.toList.all (oOk n)
def QK (P : Program) (C : World → Prop) (s : Sem Next) (K : Value → Prop) : Prop := ∃ v, (∀ w, C w → Oper.quietUpon P C w v (s.run P w)) ∧ K v
def QG (P : Program) (C : World → Prop) (g : Value) (b : Bool) (s : Sem Next) (K : Value → Prop) : Prop := GuardK g b (QK P C s K) (K undef)
def sxq1 (P : Program) (C : World → Prop) (ops : Array Oper) (o : Oper) (N : Sl → Prop) (ρ : Sl) : Prop :=
  match o with
  | ⟨dst, op, ty, _, _, g⟩ =>
    match g, dst with
    | none, some d => match mvOf op with
      | some x => N (up ρ d (ev ρ x))
      | none => QK P C (exo (ev ρ) op ty) fun v => N (up ρ d v)
    | none, none => QK P C (exo (ev ρ) op ty) fun _ => N ρ
    | some (j, b), some d => QG P C (gv ops ρ j) b (exo (ev ρ) op ty) fun v => N (up ρ d v)
    | some (j, b), none => QG P C (gv ops ρ j) b (exo (ev ρ) op ty) fun _ => N ρ
def sxq (P : Program) (C : World → Prop) (ops : Array Oper) (K : Sl → Prop) : List Oper → Sl → Prop
  | [], ρ => K ρ
  | o :: r, ρ => sxq1 P C ops o (sxq P C ops K r) ρ
theorem sxq1_eq (P : Program) (C : World → Prop) (ops : Array Oper) (o : Oper) (N : Sl → Prop) (ρ : Sl) (h : sxq1 P C ops o N ρ) :
    match o.guard with
      | none => QK P C (exo (ev ρ) o.op o.type) fun v => N (upo ρ o.dst v)
      | some (j, b) => QG P C (gv ops ρ j) b (exo (ev ρ) o.op o.type) fun v => N (upo ρ o.dst v) := by
  obtain ⟨dst, op, ty, pos, after, guard⟩ := o
  cases guard with
  | none =>
    cases dst with
    | none => exact h
    | some d =>
      cases op <;> first | exact h | exact ⟨_, fun w _ => ⟨rfl, rfl⟩, h⟩
  | some jb => cases dst <;> exact h
theorem sxq1_wp {P : Program} {z : At} {n : Nat} {C : World → Prop} {ops : Array Oper} {o : Oper} {N : Sl → Prop} {next : Act → Prop} {a : Act} {ρ : Sl}
    (hd : ∀ k, o.dst = some k → k < n) (hl : Lk z n a ρ) (h : sxq1 P C ops o N ρ) (hn : ∀ a ρ, Lk z n a ρ → N ρ → next a) :
    if Region.wanted o (yielded ops a.tmps) then o.quiet P a C next else next (a.put o.dst undef) := by
  have he : a.eval = ev ρ := funext (fun x => hl.ev x)
  have h := sxq1_eq P C ops o N ρ h
  have key : ∀ (hk : QK P C (exo (ev ρ) o.op o.type) fun v => N (upo ρ o.dst v)), o.quiet P a C next := by
    rintro ⟨v, h1, h2⟩
    refine ⟨v, fun w hw => ?_, hn _ _ (hl.put _ _ hd) h2⟩
    unfold Oper.quietAt
    rw [he, ← exo_eq]
    exact h1 w hw
  cases hg : o.guard with
  | none =>
    rw [hg] at h
    have hw : Region.wanted o (yielded ops a.tmps) = true := by unfold Region.wanted; rw [hg]
    rw [hw]
    simp only [if_true]
    exact key h
  | some jb =>
    obtain ⟨j, b⟩ := jb
    rw [hg] at h
    obtain ⟨h1, h2⟩ := h
    have hy := wanted_gv hl ops hg
    by_cases htb : wantB (gv ops ρ j) b = true
    · have hw : Region.wanted o (yielded ops a.tmps) = true := hy.trans htb
      rw [hw]
      simp only [if_true]
      exact key (h1 htb)
    · have htb : wantB (gv ops ρ j) b = false := Bool.eq_false_iff.2 htb
      have hw : Region.wanted o (yielded ops a.tmps) = false := hy.trans htb
      rw [hw]
      simp only [Bool.false_eq_true, if_false]
      exact hn _ _ (hl.put _ _ hd) (h2 htb)
theorem sxq_quiet {P : Program} {z : At} {n : Nat} {C : World → Prop} {ops : Array Oper} {K : Sl → Prop} {Q : Act → Prop} (hQ : ∀ a ρ, Lk z n a ρ → K ρ → Q a) : ∀ (l : List Oper) a ρ,
    (l.all (oOk n)) = true → Lk z n a ρ → sxq P C ops K l ρ → wpQuiet P ops C Q l a
  | [], a, ρ, _, hl, h => hQ a ρ hl h
  | o :: r, a, ρ, hd, hl, h => by
    simp only [List.all_cons, Bool.and_eq_true] at hd
    exact sxq1_wp (n := n) (oOk_dst hd.1) hl h (fun a ρ hl hq => sxq_quiet hQ r a ρ hd.2 hl hq)
theorem quiet_still {P : Program} {w : World} {ops : Array Oper} {Q : Act → Prop} : ∀ (l : List Oper) (a : Act), wpQuiet P ops (fun w' => w' = w) Q l a → wpStill P ops w Q l a
  | [], a, h => h
  | o :: r, a, h => by
    unfold wpQuiet at h
    unfold wpStill
    split at h
    · rename_i hw
      rw [if_pos hw]
      obtain ⟨v, h1, h2⟩ := h
      have h3 := h1 w rfl
      unfold Oper.quietAt at h3
      unfold Oper.still
      generalize (execOp a.eval o).run P w = x at *
      cases x with
      | halt x w' => exact h3.elim
      | ok x w' =>
        cases x <;> first | exact h3.elim | skip
        case value u => obtain ⟨rfl, rfl⟩ := h3; exact ⟨rfl, quiet_still r _ h2⟩
        case skip => obtain ⟨rfl, rfl⟩ := h3; exact ⟨rfl, quiet_still r _ h2⟩
        case enter f args => obtain ⟨rfl, hc⟩ := h3; exact ⟨rfl, v, hc, quiet_still r _ h2⟩
    · rename_i hw
      rw [if_neg hw]
      exact quiet_still r _ h
theorem W_quiet {P : Program} {n : Nat} {D : List Deferred} {id : Nat} {ops : Array Oper} {K : Exit → Sl → World → Prop} {ρ : Sl} {w : World} (C : World → Prop) (hd : dstsIn n ops = true)
    (hm : P.follows .mixedOrders = true) (hB : Region.lexB .any ops = true) (hC : C { w with drawn := w.drawn + 1 })
    (h : sxq P C ops (fun ρ' => ∀ w', C w' → K .normal ρ' w') ops.toList ρ) : W ⟨none, D⟩ P n (.region id ops true) K ρ w := by
  intro a hl
  refine wpIn_wide.2 (wp_region_quiet (C := C) hm hB hC ?_)
  exact sxq_quiet (n := n) (fun a ρ hl hq w' hw' => ⟨ρ, hl, hq w' hw'⟩) _ a ρ hd hl h
theorem sx1_wp0 {P : Program} {D : List Deferred} {n : Nat} {ops : Array Oper} {Q : Exit → Act → World → Prop} {o : Oper} {N : Sl → World → Prop} {next : Act → World → Prop} {a : Act} {ρ : Sl} {w : World}
    (hr : noRound P o.op = true) (hd : ∀ k, o.dst = some k → k < n) (hl : Lk ⟨none, D⟩ n a ρ) (h : sx1 P ops o N ρ w) (hn : ∀ a ρ w, Lk ⟨none, D⟩ n a ρ → N ρ w → next a w) :
    if Region.wanted o (yielded ops a.tmps) then o.wp P a w next Q ∨ (o.asks P a w ∧ LetsOut Q) else next (a.put o.dst undef) w := by
  have he : a.eval = ev ρ := funext (fun x => hl.ev x)
  rw [sx1_eq] at h
  have key : ∀ (hk : OpK P (exo (ev ρ) o.op o.type) w fun v w' => N (upo ρ o.dst v) w'), o.wp P a w next Q := by
    intro hk
    unfold Oper.wp
    rw [he]
    rw [exo_eq] at hk
    unfold OpK at hk
    unfold Oper.upon
    split at hk
    · rename_i v w' hr; rw [hr]; exact hn _ _ _ (hl.put _ _ hd) hk
    · rename_i w' hr; rw [hr]; exact hn _ _ _ (hl.put _ _ hd) hk
    · rename_i f args w' hr
      rw [hr]
      refine hk.mono ?_
      rintro e w'' ⟨v, rfl, hv⟩
      exact hn _ _ _ (hl.put _ _ hd) hv
    · rename_i l f tmps assign body w' hrun
      exact absurd hrun (noRound_run (fun _ => rfl) hr)
    · exact hk.elim
  cases hg : o.guard with
  | none =>
    rw [hg] at h
    have hw : Region.wanted o (yielded ops a.tmps) = true := by unfold Region.wanted; rw [hg]
    rw [hw]
    simp only [if_true]
    exact .inl (key h)
  | some jb =>
    obtain ⟨j, b⟩ := jb
    rw [hg] at h
    obtain ⟨h1, h2⟩ := h
    have hy := wanted_gv hl ops hg
    by_cases htb : wantB (gv ops ρ j) b = true
    · have hw : Region.wanted o (yielded ops a.tmps) = true := hy.trans htb
      rw [hw]
      simp only [if_true]
      exact .inl (key (h1 htb))
    · have htb : wantB (gv ops ρ j) b = false := Bool.eq_false_iff.2 htb
      have hw : Region.wanted o (yielded ops a.tmps) = false := hy.trans htb
      rw [hw]
      simp only [Bool.false_eq_true, if_false]
      exact hn _ _ _ (hl.put _ _ hd) (h2 htb)
theorem sxL_list {P : Program} {D : List Deferred} {n : Nat} {ops : Array Oper} {K : Sl → World → Prop} {Q : Exit → Act → World → Prop} (hQ : ∀ a ρ w, Lk ⟨none, D⟩ n a ρ → K ρ w → Q .normal a w) : ∀ (l : List Oper) a ρ w,
    (l.all (oOk n)) = true → (l.all fun o => noRound P o.op) = true → Lk ⟨none, D⟩ n a ρ → sxL P ops K l ρ w → wpList P ops Q l a w
  | [], a, ρ, w, _, _, hl, h => hQ a ρ w hl h
  | o :: r, a, ρ, w, hd, hr, hl, h => by
    simp only [List.all_cons, Bool.and_eq_true] at hd hr
    unfold wpList
    exact sx1_wp0 (n := n) hr.1 (oOk_dst hd.1) hl h (fun a ρ w hl hq => sxL_list hQ r a ρ w hd.2 hr.2 hl hq)
theorem W_tail {P : Program} {n : Nat} {D : List Deferred} {id : Nat} {ops : Array Oper} {K : Exit → Sl → World → Prop} {ρ : Sl} {w : World} (m : Nat) (hd : dstsIn n ops = true) (hr : ((ops.toList.drop m).all fun o => noRound P o.op) = true)
    (hm : P.follows .mixedOrders = true) (hB : Region.lexTailB .any ops m = true)
    (h : sxq P (fun w' => w' = { w with drawn := w.drawn + 1 }) ops (fun ρ' => sxL P ops (K .normal) (ops.toList.drop m) ρ' { w with drawn := w.drawn + 1 }) (ops.toList.take m) ρ) : W ⟨none, D⟩ P n (.region id ops true) K ρ w := by
  intro a hl
  obtain ⟨l⟩ := ops
  have ht : ((l.take m).all (oOk n)) = true := List.all_eq_true.2 fun o ho => List.all_eq_true.1 hd o (List.mem_of_mem_take ho)
  have hdr : ((l.drop m).all (oOk n)) = true := List.all_eq_true.2 fun o ho => List.all_eq_true.1 hd o (List.mem_of_mem_drop ho)
  refine wpIn_wide.2 (wp_region_still_tail m hm hB (quiet_still _ _ ?_))
  refine sxq_quiet (n := n) (fun a ρ hl hq => ?_) _ a ρ ht hl h
  exact sxL_list (fun a ρ w hl hq => ⟨ρ, hl, hq⟩) _ a ρ _ hdr hr hl hq
def rho0 (args : List Value) : Sl := fun i => args.getD i undef
def resK (P : Program) (ρ : Sl) (k : List Value → World → Prop) : List ResultVar → World → Prop
  | [], w => k [] w
  | .tmp t :: r, w => resK P ρ (fun vs w => k (ρ t :: vs) w) r w
  | .cell x t :: r, w => ∃ v, (do loadVar t (← asAddr (ρ x)) : Sem Value).run P w = .ok v w ∧ resK P ρ (fun vs w => k (v :: vs) w) r w
def packV : List Value → Value
  | [v] => v
  | vs => .tuple vs.toArray
def retK (P : Program) (rs : List ResultVar) (R : Value → World → Prop) : Exit → Sl → World → Prop
  | .normal, ρ, w | .ret, ρ, w => resK P ρ (fun vs w => R (packV vs) w) rs w
  | _, _, _ => False
theorem resK_run {P : Program} {ρ : Sl} {w : World} (g : ResultVar → Sem Value) (hg : ∀ t, g (.tmp t) = Sem.pure (ρ t)) (hc : ∀ x t, g (.cell x t) = (do loadVar t (← asAddr (ρ x)))) (l : List ResultVar) :
    ∀ (k : List Value → World → Prop), resK P ρ k l w → ∃ vs, (l.mapM g).run P w = .ok vs w ∧ k vs w := by
  induction l with
  | nil => intro k h; exact ⟨[], rfl, h⟩
  | cons x r ih =>
    intro k h
    cases x with
    | tmp t =>
      obtain ⟨vs, hr, hk⟩ := ih _ h
      refine ⟨ρ t :: vs, ?_, hk⟩
      rw [List.mapM_cons, hg, Sem.run_bind]
      show ((List.mapM g r >>= fun us => pure (ρ t :: us)) : Sem (List Value)).run P w = _
      rw [Sem.run_bind, hr]
      rfl
    | cell x t =>
      obtain ⟨v, hv, h⟩ := h
      obtain ⟨vs, hr, hk⟩ := ih _ h
      refine ⟨v :: vs, ?_, hk⟩
      rw [List.mapM_cons, hc, Sem.run_bind, hv]
      simp only [Result.andThen_ok, Sem.run_bind, hr]
      rfl
theorem results_of_resK {P : Program} {z : At} {n : Nat} {fn : Func} {a : Act} {ρ : Sl} {w : World} {R : Value → World → Prop} (hl : Lk z n a ρ) (h : resK P ρ (fun vs w => R (packV vs) w) fn.results.toList w) :
    ∃ v, (results fn a.tmps).run P w = .ok v w ∧ R v w := by
  have key : ∀ g : ResultVar → Sem Value, (∀ t, g (.tmp t) = Sem.pure (ρ t)) → (∀ x t, g (.cell x t) = (do loadVar t (← asAddr (ρ x)))) →
      ∃ v, (do let vs ← List.toArray <$> fn.results.toList.mapM g; pure (if h : vs.size = 1 then vs[0] else .tuple vs) : Sem Value).run P w = .ok v w ∧ R v w := by
    intro g hg hc
    obtain ⟨vs, hr, hk⟩ := resK_run (P := P) (ρ := ρ) (w := w) g hg hc fn.results.toList _ h
    refine ⟨packV vs, ?_, hk⟩
    rw [Sem.run_bind, Sem.run_map, hr]
    simp only [Result.andThen_ok]
    match vs with
    | [] => rfl
    | [v] => rfl
    | v :: u :: r => rfl
  unfold results
  rw [Array.mapM_eq_mapM_toList]
  refine key _ ?_ ?_
  · intro t; rw [← hl.val t]; rfl
  · intro x t; rw [← hl.val x]
theorem calls_of_sx {P : Program} {f : FuncId} {fn : Func} {c : Code} {args : Array Value} {w : World} {R : Value → World → Prop} {n : Nat}
    (hf : P.funcs[f]? = some fn) (hb : fn.body = some c) (hn : fn.ntmps = n) (hsz : args.size ≤ n) (hd : dstOk n c = true)
    (h : sx fn_ P n c (retK P fn.results.toList R) (rho0 args.toList) w) : Calls P f args w fun e w' => ∃ v, e = .returned v ∧ R v w' := by
  refine callsIn_wide.1 (callsIn_of_wp (F := Fence.wide) (n := 0) hf hb trivial (wpIn_mono (sx_W c _ _ w hd h { tmps := args ++ Array.replicate (fn.ntmps - args.size) undef, defers := [] } ⟨?_, rfl, fun i => ?_⟩) ?_))
  · simp [hn]; omega
  · simp only [rho0, Array.getD_eq_getD_getElem?, List.getD_eq_getElem?_getD, Array.getElem?_append, Array.getElem?_toList]
    by_cases hi : i < args.size
    · rw [if_pos hi]
    · rw [if_neg hi, Array.getElem?_replicate, Array.getElem?_eq_none (xs := args) (by omega)]
      split <;> rfl
  · rintro e a' w' ⟨ρ', hl', hk⟩
    have key : ∀ (hq : resK P ρ' (fun vs w => R (packV vs) w) fn.results.toList w'), a'.defers = [] ∧ ∃ v, (results fn a'.tmps).run P w' = .ok v w' ∧ ∃ u, Ending.returned v = .returned u ∧ R u w' := by
      intro hq
      obtain ⟨v, hr, hk⟩ := results_of_resK hl' hq
      exact ⟨hl'.defers, v, hr, v, rfl, hk⟩
    cases e with
    | normal => exact key hk
    | ret => exact key hk
    | exit id => exact hk.elim
    | goto l => exact hk.elim
    | panic c => exact hk.elim
    | outgrown => exact hk.elim
def VK (P : Program) (s : Sem Value) (w : World) (K : Value → World → Prop) : Prop := OpK P (do pure (Next.value (← s))) w K
def UK (P : Program) (s : Sem Unit) (w : World) (K : Value → World → Prop) : Prop := OpK P (do s; pure Next.skip) w K
def NK (P : Program) (v : Value) (w : World) (K : Value → World → Prop) : Prop := OpK P (nilCk v) w K
def PK (P : Program) (c a b : Value) (w : World) (K : Value → World → Prop) : Prop := OpK P (do pure (Next.value (if ← asBool c then a else b))) w K
def BK (P : Program) (op : BinOp) (t : TypeId) (x y : Operand) (a b : Value) (w : World) (K : Value → World → Prop) : Prop := OpK P (do pure (Next.value (← (do eqGuard op t x y a b; binOp op t a b)))) w K
def CK (P : Program) (f : Value) (args : List Value) (w : World) (K : Value → World → Prop) : Prop := OpK P (do let d ← Deferred.ofValue f args.toArray; invoke d.target d.args) w K
def IK (P : Program) (b : Builtin) (ts : Array TypeId) (t : TypeId) (cs : List Bool) (args : List Value) (w : World) (K : Value → World → Prop) : Prop := OpK P (builtin b ts t cs.toArray args.toArray) w K
def VG (P : Program) (g : Value) (b : Bool) (s : Sem Value) (w : World) (K : Value → World → Prop) : Prop := GOp P g b (do pure (Next.value (← s))) w K
def UG (P : Program) (g : Value) (b : Bool) (s : Sem Unit) (w : World) (K : Value → World → Prop) : Prop := GOp P g b (do s; pure Next.skip) w K
def MG (P : Program) (g : Value) (b : Bool) (v : Value) (w : World) (K : Value → World → Prop) : Prop := GOp P g b (pure (Next.value v)) w K
def NG (P : Program) (g : Value) (b : Bool) (v : Value) (w : World) (K : Value → World → Prop) : Prop := GOp P g b (nilCk v) w K
def PG (P : Program) (g : Value) (gb : Bool) (c a b : Value) (w : World) (K : Value → World → Prop) : Prop := GOp P g gb (do pure (Next.value (if ← asBool c then a else b))) w K
def BG (P : Program) (g : Value) (gb : Bool) (op : BinOp) (t : TypeId) (x y : Operand) (a b : Value) (w : World) (K : Value → World → Prop) : Prop := GOp P g gb (do pure (Next.value (← (do eqGuard op t x y a b; binOp op t a b)))) w K
def CG (P : Program) (g : Value) (gb : Bool) (f : Value) (args : List Value) (w : World) (K : Value → World → Prop) : Prop := GOp P g gb (do let d ← Deferred.ofValue f args.toArray; invoke d.target d.args) w K
def IG (P : Program) (g : Value) (gb : Bool) (b : Builtin) (ts : Array TypeId) (t : TypeId) (cs : List Bool) (args : List Value) (w : World) (K : Value → World → Prop) : Prop := GOp P g gb (builtin b ts t cs.toArray args.toArray) w K
def cAt : List Nat → Code → Code
  | [], c => c
  | 0 :: p, .seq a _ => cAt p a
  | _ :: p, .seq _ b => cAt p b
  | 0 :: p, .cond _ a _ => cAt p a
  | _ :: p, .cond _ _ b => cAt p b
  | _ :: p, .block _ c => cAt p c
  | _ :: p, .loop c => cAt p c
  | _ :: p, .scope c => cAt p c
  | 0 :: p, .rangeFunc _ _ a _ => cAt p a
  | _ :: p, .rangeFunc _ _ _ b => cAt p b
  | _, c => c
def opsOf : Code → Array Oper
  | .region _ ops _ => ops
  | _ => #[]
def idOf : Code → Nat
  | .region id _ _ => id
  | _ => 0
end Go.X
set_option linter.unusedVariables false
set_option linter.unusedSimpArgs false
namespace Go.X
open Go Go.RowKit
section
variable {P : Program} {w w' : World} {K : Value → World → Prop}
theorem VK_of {s : Sem Value} {v : Value} (h : s.run P w = .ok v w') (hk : K v w') : VK P s w K := by
  unfold VK OpK
  simp only [Sem.run_bind, h, Result.andThen_ok]
  exact hk
theorem VK_eq_of {s : Sem Value} {v : Value} (h : s.run P w = .ok v w') : VK P s w K = K v w' := by
  unfold VK OpK
  simp only [Sem.run_bind, h, Result.andThen_ok]
  rfl
theorem UK_of {s : Sem Unit} (h : s.run P w = .ok () w') (hk : K undef w') : UK P s w K := by
  unfold UK OpK
  simp only [Sem.run_bind, h, Result.andThen_ok]
  exact hk
theorem CK_fn {f : FuncId} {fn : Func} {first cap : Array Value} {args : List Value} {R : Value → World → Prop} (hf : P.funcs[f]? = some fn) (hb : fn.body.isNone = false) (hn : (fn.name == "runtime.NumGoroutine") = false)
    (h : Calls P f (first ++ args.toArray ++ cap) w fun e w' => ∃ v, e = .returned v ∧ R v w') (hk : ∀ v w', R v w' → K v w') : CK P (.func (.func f) first cap) args w K := by
  unfold CK OpK
  have hr : (do let d ← Deferred.ofValue (.func (.func f) first cap) args.toArray; invoke d.target d.args : Sem Next).run P w = .ok (.enter f (first ++ args.toArray ++ cap)) w := by
    have hb' : fn.body ≠ none := by intro q; rw [q] at hb; cases hb
    have hn' : fn.name ≠ "runtime.NumGoroutine" := by intro q; rw [q] at hn; simp at hn
    simp [Deferred.ofValue, invoke, callFunc, program, Sem.run, hf, hb', hn', Sem.run_bind, pure, bind, Sem.bind]
  rw [hr]
  exact h.mono fun e w' ⟨v, he, hv⟩ => ⟨v, he, hk _ _ hv⟩
theorem CK_st {f : FuncId} {fn : Func} {args : List Value} {R : Value → World → Prop} (hf : P.funcs[f]? = some fn) (hb : fn.body.isNone = false) (hn : (fn.name == "runtime.NumGoroutine") = false)
    (h : Calls P f args.toArray w fun e w' => ∃ v, e = .returned v ∧ R v w') (hk : ∀ v w', R v w' → K v w') : CK P (.func (.func f) #[] #[]) args w K :=
  CK_fn hf hb hn (by simpa using h) hk
theorem PK_bool (t : Bool) (a b : Value) : PK P (.bool t) a b w K = K (if t then a else b) w := by
  unfold PK OpK; cases t <;> rfl
theorem NK_ptr (a : Addr) : NK P (.pointer (some a)) w K = K (.pointer (some a)) w := by
  unfold NK OpK; rfl
theorem extract_ok {vs : Array Value} {i : Nat} {v : Value} (h : vs[i]? = some v) : VK P (Instr.extract (.tuple vs) i) w K = K v w := by
  unfold VK OpK; simp [Instr.extract, h]
theorem not_ok (t : Bool) : VK P (Op.unary .not (.bool t)) w K = K (.bool (!t)) w := by
  unfold VK OpK; rfl
section
variable (t : TypeId) (x y : Operand) (k : IntKind) (a b : Int)
theorem BK_lss : BK P .lss t x y (.int k a) (.int k b) w K = K (.bool (decide (a < b))) w := by unfold BK OpK; go_simp
theorem BK_leq : BK P .leq t x y (.int k a) (.int k b) w K = K (.bool (decide (a ≤ b))) w := by unfold BK OpK; go_simp
theorem BK_gtr : BK P .gtr t x y (.int k a) (.int k b) w K = K (.bool (decide (b < a))) w := by unfold BK OpK; go_simp
theorem BK_geq : BK P .geq t x y (.int k a) (.int k b) w K = K (.bool (decide (b ≤ a))) w := by unfold BK OpK; go_simp
theorem BK_eql : BK P .eql t x y (.int k a) (.int k b) w K = K (.bool (a == b)) w := by unfold BK OpK; go_simp
theorem BK_neq : BK P .neq t x y (.int k a) (.int k b) w K = K (.bool (a != b)) w := by unfold BK OpK; go_simp
theorem BK_add : BK P .add t x y (.int k a) (.int k b) w K = K (.int k (k.wrap (a + b))) w := by unfold BK OpK; go_simp
theorem BK_sub : BK P .sub t x y (.int k a) (.int k b) w K = K (.int k (k.wrap (a - b))) w := by unfold BK OpK; go_simp
end
theorem BK_of {op : BinOp} {t : TypeId} {x y : Operand} {a b v : Value} (hg : (eqGuard op t x y a b).run P w = .ok () w) (h : (binOp op t a b).run P w = .ok v w) : BK P op t x y a b w K = K v w := by
  unfold BK OpK
  simp only [Sem.run_bind, hg, h, Result.andThen_ok]
  rfl
theorem BK_eqlS (t : TypeId) (x y : Operand) (a b : ByteArray) : BK P .eql t x y (.string a) (.string b) w K = K (.bool (a.toList == b.toList)) w := BK_of rfl (by rw [binOp_string_eql]; rfl)
theorem BK_neqS (t : TypeId) (x y : Operand) (a b : ByteArray) : BK P .neq t x y (.string a) (.string b) w K = K (.bool (!(a.toList == b.toList))) w := BK_of rfl (by rw [binOp_string_neq]; rfl)
theorem BK_eqlP {t e : TypeId} (h : P.underlying t = some (.pointer e)) (x y : Operand) (p : Option Addr) : BK P .eql t x y (.pointer p) (.pointer none) w K = K (.bool p.isNone) w :=
  BK_of rfl (run_eql_pointer_nil w t p (by simp [Program.pointee, h]))
theorem GOp_bool (t b : Bool) (s : Sem Next) : GOp P (.bool t) b s w K = if t = b then OpK P s w K else K undef w := by
  unfold GOp GuardK wantB
  by_cases h : t = b <;> simp [h]
theorem GOp_u (b : Bool) (s : Sem Next) : GOp P undef b s w K = K undef w := by
  unfold GOp GuardK wantB undef
  simp
theorem VG_u (b : Bool) (s : Sem Value) : VG P undef b s w K = K undef w := GOp_u b _
theorem UG_u (b : Bool) (s : Sem Unit) : UG P undef b s w K = K undef w := GOp_u b _
theorem MG_u (b : Bool) (v : Value) : MG P undef b v w K = K undef w := by unfold MG; rw [GOp_u]
theorem NG_u (b : Bool) (v : Value) : NG P undef b v w K = K undef w := GOp_u b _
theorem PG_u (gb : Bool) (c a b : Value) : PG P undef gb c a b w K = K undef w := GOp_u gb _
theorem BG_u (gb : Bool) (op : BinOp) (ty : TypeId) (x y : Operand) (a b : Value) : BG P undef gb op ty x y a b w K = K undef w := GOp_u gb _
theorem CG_u (gb : Bool) (f : Value) (args : List Value) : CG P undef gb f args w K = K undef w := GOp_u gb _
theorem IG_u (gb : Bool) (b : Builtin) (ts : Array TypeId) (ty : TypeId) (cs : List Bool) (args : List Value) : IG P undef gb b ts ty cs args w K = K undef w := GOp_u gb _
theorem VG_b (t b : Bool) (s : Sem Value) : VG P (.bool t) b s w K = if t = b then VK P s w K else K undef w := GOp_bool t b _
theorem UG_b (t b : Bool) (s : Sem Unit) : UG P (.bool t) b s w K = if t = b then UK P s w K else K undef w := GOp_bool t b _
theorem MG_b (t b : Bool) (v : Value) : MG P (.bool t) b v w K = K (if t = b then v else undef) w := by
  unfold MG; rw [GOp_bool]; by_cases h : t = b <;> simp [h]; rfl
theorem NG_b (t b : Bool) (v : Value) : NG P (.bool t) b v w K = if t = b then NK P v w K else K undef w := GOp_bool t b _
theorem PG_b (t gb : Bool) (c a b : Value) : PG P (.bool t) gb c a b w K = if t = gb then PK P c a b w K else K undef w := GOp_bool t gb _
theorem BG_b (t gb : Bool) (op : BinOp) (ty : TypeId) (x y : Operand) (a b : Value) : BG P (.bool t) gb op ty x y a b w K = if t = gb then BK P op ty x y a b w K else K undef w := GOp_bool t gb _
theorem CG_b (t gb : Bool) (f : Value) (args : List Value) : CG P (.bool t) gb f args w K = if t = gb then CK P f args w K else K undef w := GOp_bool t gb _
theorem IG_b (t gb : Bool) (b : Builtin) (ts : Array TypeId) (ty : TypeId) (cs : List Bool) (args : List Value) : IG P (.bool t) gb b ts ty cs args w K = if t = gb then IK P b ts ty cs args w K else K undef w := GOp_bool t gb _
theorem IK_of {b : Builtin} {ts : Array TypeId} {ty : TypeId} {cs : List Bool} {args : List Value} {v : Value} {s : Sem Value} (he : builtin b ts ty cs.toArray args.toArray = (do pure (Next.value (← s)))) (h : s.run P w = .ok v w') (hk : K v w') : IK P b ts ty cs args w K := by
  unfold IK OpK
  rw [he]
  simp only [Sem.run_bind, h, Result.andThen_ok]
  exact hk
theorem elem_of {t e : TypeId} (h : P.underlying t = some (.slice e)) : P.underlying t = some (.slice (P.elem t)) := by simp [Program.elem, h]
theorem len_sl {t e ty : TypeId} (h : P.underlying t = some (.slice e)) (cs : List Bool) (A : Option Addr) (n c : Nat) : IK P .len #[t] ty cs [.slice A n c] w K = K (.int .i64 n) w := by
  unfold IK OpK
  simp [builtin, run_len_slice w t ty A n c (elem_of h), goInt]
theorem len_str {t ty : TypeId} (h : P.underlying t = some .string) (cs : List Bool) (s : ByteArray) : IK P .len #[t] ty cs [.string s] w K = K (.int .i64 s.size) w := by
  unfold IK OpK
  simp [builtin, run_len_string w t ty s h, goInt]
theorem max_i (ts : Array TypeId) (ty : TypeId) (cs : List Bool) (k k' : IntKind) (x y : Int) : IK P .max ts ty cs [.int k x, .int k' y] w K = K (.int k (if y > x then y else x)) w := by
  unfold IK OpK
  simp [builtin, run_max_int2]
theorem CondK_bool (t : Bool) (A B : Prop) : CondK (.bool t) A B = if t then A else B := by
  unfold CondK; cases t <;> simp
end
theorem up_at (ρ : Sl) (d : Nat) (v : Value) (i : Nat) : up ρ d v i = if i = d then v else ρ i := by
  unfold up
  by_cases h : i = d
  · subst h; simp [Nat.beq_refl]
  · have : Nat.beq i d = false := by
      cases hq : Nat.beq i d with
      | false => rfl
      | true => exact absurd (Nat.eq_of_beq_eq_true hq) h
    simp [this, h]
def setB (w : World) (b : Nat) (o : Obj) : World := { w with heap := w.heap.setIfInBounds b o }
theorem setB_size (w : World) (b : Nat) (o : Obj) : (setB w b o).heap.size = w.heap.size := by simp [setB]
theorem setB_new (w : World) (b : Nat) (o : Obj) (h : b < w.heap.size) : (setB w b o).heap[b]? = some o := by simp [setB, h]
theorem setB_old (w : World) (b i : Nat) (o : Obj) (h : i ≠ b) : (setB w b o).heap[i]? = w.heap[i]? := by
  simp only [setB]; rw [Array.getElem?_setIfInBounds_ne (Ne.symm h)]
theorem alloc_size (w : World) (o : Obj) : (w.alloc o).heap.size = w.heap.size + 1 := by simp
theorem alloc_new (w : World) (o : Obj) : (w.alloc o).heap[w.heap.size]? = some o := heap_alloc_new w o
theorem alloc_old (w : World) (o : Obj) (i : Nat) (h : i < w.heap.size) : (w.alloc o).heap[i]? = w.heap[i]? := by
  show (w.heap.push o)[i]? = _
  rw [Array.getElem?_push, if_neg (Nat.ne_of_lt h)]
theorem cell_blk {w : World} {b j : Nat} {cs : Array Value} {t : TypeId} {fr : Nat × Nat} (h : w.heap[b]? = some (.cells cs t fr)) : w.cell? ⟨b, j, none⟩ = cs[j]? := by simp [World.cell?, h]
theorem blk_lt {w : World} {b : Nat} {o : Obj} (h : w.heap[b]? = some o) : b < w.heap.size := (Array.getElem?_eq_some_iff.1 h).1
theorem add_pl (b o j : Nat) : (⟨b, o, none⟩ : Addr).add j = ⟨b, o + j, none⟩ := by unfold Addr.add; split <;> simp_all
structure Mod (S : Nat → Prop) (w w' : World) : Prop where
  os : w'.os = w.os
  tape : w'.tape = w.tape
  output : w'.output = w.output
  size : w.heap.size ≤ w'.heap.size
  block : ∀ k, k < w.heap.size → ¬ S k → w'.heap[k]? = w.heap[k]?
def none_ : Nat → Prop := fun _ => False
theorem Mod.refl (S : Nat → Prop) (w : World) : Mod S w w := ⟨rfl, rfl, rfl, Nat.le_refl _, fun _ _ _ => rfl⟩
theorem Mod.trans {S : Nat → Prop} {a b c : World} (h : Mod S a b) (k : Mod S b c) : Mod S a c :=
  ⟨k.os.trans h.os, k.tape.trans h.tape, k.output.trans h.output, Nat.le_trans h.size k.size, fun i hi hs => (k.block i (Nat.lt_of_lt_of_le hi h.size) hs).trans (h.block i hi hs)⟩
theorem Mod.mono {S S' : Nat → Prop} {a b : World} (h : Mod S a b) (hs : ∀ k, k < a.heap.size → S k → S' k) : Mod S' a b :=
  ⟨h.os, h.tape, h.output, h.size, fun i hi hn => h.block i hi (fun q => hn (hs i hi q))⟩
theorem Mod.then {S T : Nat → Prop} {a b c : World} (h : Mod S a b) (k : Mod T b c) (hT : ∀ i, i < a.heap.size → T i → S i) : Mod S a c :=
  ⟨k.os.trans h.os, k.tape.trans h.tape, k.output.trans h.output, Nat.le_trans h.size k.size, fun i hi hs => (k.block i (Nat.lt_of_lt_of_le hi h.size) (fun q => hs (hT i hi q))).trans (h.block i hi hs)⟩
theorem Mod.alloc {S : Nat → Prop} {a b : World} (h : Mod S a b) (o : Obj) : Mod S a (b.alloc o) :=
  h.trans ⟨rfl, rfl, rfl, by simp, fun k hk _ => alloc_old b o k hk⟩
theorem Mod.set {S : Nat → Prop} {a b : World} (h : Mod S a b) {i : Nat} (o : Obj) (hi : i < a.heap.size → S i) : Mod S a (setB b i o) :=
  h.then (T := fun k => k = i) ⟨rfl, rfl, rfl, Nat.le_of_eq (setB_size b i o).symm, fun k _ hk => setB_old b i k o hk⟩ (fun k hk e => e ▸ hi (e ▸ hk))
theorem Mod.drawn {S : Nat → Prop} {a b : World} (h : Mod S a b) (n : Nat) : Mod S a { b with drawn := n } := ⟨h.os, h.tape, h.output, h.size, h.block⟩
theorem Mod.ofBelow {a b : World} (h : Below a.heap.size a b) : Mod none_ a b := ⟨h.os, h.tape, h.output, h.size, fun k hk _ => h.block k hk⟩
theorem Mod.ofGrown {a b : World} {row : Option Nat} (h : a.grownBy b row) : Mod (fun k => some k = row) a b := ⟨h.os, h.tape, h.output, h.size, fun k hk hn => h.block k hk hn⟩
theorem Mod.toBelow {a b : World} (h : Mod none_ a b) : Below a.heap.size a b := ⟨h.os, h.tape, h.output, h.size, fun k hk => h.block k hk id⟩
theorem Mod.blk {S : Nat → Prop} {a b : World} (h : Mod S a b) {i : Nat} {o : Obj} (hi : a.heap[i]? = some o) (hn : ¬ S i) : b.heap[i]? = some o := (h.block i (blk_lt hi) hn).trans hi
section
variable {P : Program} {w w' : World} {K : Value → World → Prop}
theorem info_of {t : TypeId} {n : Nat} (h : P.cellsOf t = n + 1) : ∃ z, P.info? t = some z ∧ z.size = n + 1 := by
  unfold Program.cellsOf at h
  cases hz : P.info? t with
  | none => rw [hz] at h; simp at h
  | some z => rw [hz] at h; exact ⟨z, rfl, by simpa using h⟩
theorem alloc_ok {t : TypeId} {z : Value} (hz0 : (P.info? t).bind (·.zero) = some z) (v : Value) : VK P (Instr.alloc t true v) w K = K (.pointer (some ⟨w.heap.size, 0, none⟩)) (w.alloc (.cells z.cells t)) := by
  obtain ⟨i, hi, hz⟩ := Option.bind_eq_some_iff.1 hz0
  have h : (Instr.alloc t true v).run P w = .ok (.pointer (some ⟨w.heap.size, 0, none⟩)) (w.alloc (.cells z.cells t)) := by
    simp only [Instr.alloc, zeroValue, typeInfo, program, Sem.run_bind, Sem.run, hi, hz, newVar, newRow, newObj, Result.andThen_ok, Sem.run_pure]
    rfl
  unfold VK OpK
  simp only [Sem.run_bind, h, Result.andThen_ok]
  rfl
theorem box_ok (t : TypeId) (v : Value) : VK P (Instr.box t v) w K = K (.pointer (some ⟨w.heap.size, 0, none⟩)) (w.alloc (.cells v.cells t)) := rfl
theorem run_ld1 {t : TypeId} {d : TypeDesc} {a : Addr} {v : Value} (hu : P.underlying t = some d) (hd : (match d with | .struct _ | .array _ _ => true | _ => false) = false) (hc : w.cell? a = some v) : (Instr.loadAt t (.pointer (some a))).run P w = .ok v w := by
  have hagg : (isAgg t).run P w = .ok false w := by
    unfold isAgg
    rw [Sem.run_bind, run_underlying hu w]
    cases d <;> simp_all
  simp [Instr.loadAt, Instr.sureAddr, loadVar, Sem.run_bind, hagg, load, Sem.run, hc]
theorem ld1 {t : TypeId} {d : TypeDesc} {a : Addr} {v : Value} (hu : P.underlying t = some d) (hd : (match d with | .struct _ | .array _ _ => true | _ => false) = false) (hc : w.cell? a = some v) (hk : K v w) : VK P (Instr.loadAt t (.pointer (some a))) w K :=
  VK_of (run_ld1 hu hd hc) hk
theorem run_ldA {t : TypeId} {d : TypeDesc} {a : Addr} {cs : List Value} (hu : P.underlying t = some d) (hd : (match d with | .struct _ | .array _ _ => true | _ => false) = true) (hi : (P.info? t).map (·.size) = some cs.length)
    (hc : ∀ j v, cs[j]? = some v → w.cell? (a.add j) = some v) : (Instr.loadAt t (.pointer (some a))).run P w = .ok (.agg cs.toArray) w := by
  have hl := run_loadCells_list (P := P) w a cs hc
  cases hq : P.info? t with
  | none => simp [hq] at hi
  | some i =>
    have hs : i.size = cs.length := by simpa [hq] using hi
    have hagg : (isAgg t).run P w = .ok true w := by
      unfold isAgg
      rw [Sem.run_bind, run_underlying hu w]
      cases d <;> simp_all
    simp [Instr.loadAt, Instr.sureAddr, loadVar, Sem.run_bind, hagg, sizeOf, typeInfo, hq, hs, hl]
theorem ldA {t : TypeId} {d : TypeDesc} {a : Addr} {cs : List Value} (hu : P.underlying t = some d) (hd : (match d with | .struct _ | .array _ _ => true | _ => false) = true) (hi : (P.info? t).map (·.size) = some cs.length)
    (hc : ∀ j v, cs[j]? = some v → w.cell? (a.add j) = some v) (hk : K (.agg cs.toArray) w) : VK P (Instr.loadAt t (.pointer (some a))) w K := VK_of (run_ldA hu hd hi hc) hk
theorem run_ldB {t ty : TypeId} {d : TypeDesc} {b : Nat} {cs : Array Value} {fr : Nat × Nat} (hu : P.underlying t = some d) (hd : (match d with | .struct _ | .array _ _ => true | _ => false) = true) (hi : (P.info? t).map (·.size) = some cs.size)
    (hc : w.heap[b]? = some (.cells cs ty fr)) : (Instr.loadAt t (.pointer (some ⟨b, 0, none⟩))).run P w = .ok (.agg cs) w := by
  have := run_ldA (P := P) (w := w) (a := ⟨b, 0, none⟩) (cs := cs.toList) hu hd (by simpa using hi) (fun j v hv => by
    rw [add_pl, cell_blk hc]
    simpa using hv)
  simpa using this
theorem ldB {t ty : TypeId} {d : TypeDesc} {b : Nat} {cs : Array Value} {fr : Nat × Nat} (hu : P.underlying t = some d) (hd : (match d with | .struct _ | .array _ _ => true | _ => false) = true) (hi : (P.info? t).map (·.size) = some cs.size)
    (hc : w.heap[b]? = some (.cells cs ty fr)) (hk : K (.agg cs) w) : VK P (Instr.loadAt t (.pointer (some ⟨b, 0, none⟩))) w K := VK_of (run_ldB hu hd hi hc) hk
theorem fld {s : TypeId} {fs : Array Field} {i n : Nat} {f : Field} (hu : P.underlying s = some (.struct fs)) (hf : fs[i]? = some f) (hc : P.cellsOf f.type = n + 1) (a : Addr) :
    VK P (Instr.fieldAt s (.pointer (some a)) i) w K = K (.pointer (some (a.add f.offset))) w := by
  obtain ⟨z, hz, hzs⟩ := info_of hc
  have h0 : z.size ≠ 0 := by omega
  have h : (Instr.fieldAt s (.pointer (some a)) i).run P w = .ok (.pointer (some (a.add f.offset))) w := by
    simp [Instr.fieldAt, run_underlying hu, Sem.run_bind, hf, Instr.sureAddr, fieldPlace, sizeOf, typeInfo, hz, h0]
  unfold VK OpK
  simp only [Sem.run_bind, h, Result.andThen_ok]
  rfl
def fieldOff (P : Program) (s : TypeId) (i : Nat) : Option Nat :=
  match P.underlying s with
  | some (.struct fs) =>
    match fs[i]? with
    | some f => match P.cellsOf f.type with | 0 => none | _ + 1 => some f.offset
    | none => none
  | _ => none
theorem fo {s : TypeId} {i off : Nat} (h : fieldOff P s i = some off) (a : Addr) : VK P (Instr.fieldAt s (.pointer (some a)) i) w K = K (.pointer (some (a.add off))) w := by
  unfold fieldOff at h
  split at h
  · rename_i fs hu
    split at h
    · rename_i f hf
      split at h
      · cases h
      · rename_i n hc
        cases h
        exact fld hu hf hc a
    · cases h
  · cases h
theorem ixa {t e : TypeId} {sz : Nat} (hu : P.underlying t = some (.slice e)) (hc : P.cellsOf e = sz + 1) {a : Addr} {n c : Nat} {k : IntKind} {i : Int} (h0 : 0 ≤ i) (h1 : i < n) :
    VK P (Instr.indexAt t (.slice (some a) n c) (.int k i)) w K = K (.pointer (some (a.add (i.toNat * (sz + 1))))) w := by
  obtain ⟨z, hz, hzs⟩ := info_of hc
  have h : (Instr.indexAt t (.slice (some a) n c) (.int k i)).run P w = .ok (.pointer (some (a.add (i.toNat * (sz + 1))))) w := by
    simp [Instr.indexAt, run_underlying hu, Sem.run_bind, asIntOf, h0, h1, sizeOf, typeInfo, hz, hzs]
  unfold VK OpK
  simp only [Sem.run_bind, h, Result.andThen_ok]
  rfl
theorem setB_setCell (w : World) (b o : Nat) (cs : Array Value) (t : TypeId) (fr : Nat × Nat) (v : Value) (h : w.heap[b]? = some (.cells cs t fr)) : w.setCell ⟨b, o, none⟩ v = setB w b (.cells (cs.setIfInBounds o v) t fr) := by
  unfold World.setCell setB
  congr 1
  apply Array.ext_getElem?
  intro i
  rw [Array.getElem?_modify, Array.getElem?_setIfInBounds]
  by_cases e : b = i
  · subst e
    obtain ⟨hlt, hg⟩ := Array.getElem?_eq_some_iff.1 h
    simp [hlt, hg]
  · rw [if_neg e, if_neg e]
theorem st1 {t ty : TypeId} {b o : Nat} {cs : Array Value} {v : Value} (hc1 : P.cellsOf t = 1) (hv : v.oneCell' = true) (hb : w.heap[b]? = some (.cells cs ty (0, 0))) (ho : o < cs.size)
    (hk : K undef (setB w b (.cells (cs.setIfInBounds o v) ty (0, 0)))) : UK P (Instr.storeAt t (.pointer (some ⟨b, o, none⟩)) v) w K := by
  obtain ⟨z, hz, h1⟩ := info_of hc1
  refine UK_of (w' := setB w b (.cells (cs.setIfInBounds o v) ty (0, 0))) ?_ hk
  have hc : w.cell? ⟨b, o, none⟩ = some cs[o] := by rw [cell_blk hb]; simp [ho]
  have hf : w.frozen? ⟨b, o, none⟩ = false := by simp [World.frozen?, hb]
  have hcl : v.cells = #[v] := by cases v <;> first | rfl | simp [Value.oneCell'] at hv
  have ha : (⟨b, o, none⟩ : Addr).add 0 = ⟨b, o, none⟩ := rfl
  have hst : (Sem.store .plain ⟨b, o, none⟩ v (.pure ()) : Sem Unit).run P w = .ok () (w.setCell ⟨b, o, none⟩ v) := by
    cases v <;> first | (simp [Value.oneCell'] at hv; done) | simp [Sem.run, hc, hf]
  rw [← setB_setCell w b o cs ty (0, 0) v hb]
  simp only [Instr.storeAt, Instr.sureAddr, storeVar, Sem.run_bind, Sem.run_pure, Result.andThen_ok, sizeOf, typeInfo, program, Sem.run, hz, hcl]
  simp [h1, storeCells, store, ha, hst, Sem.run_bind]
end
section
variable {P : Program} {w w' : World} {K : Value → World → Prop}
theorem setRow_setB (w : World) (g : Nat) (cs cs' : Array Value) (t : TypeId) (h : w.heap[g]? = some (.cells cs t (0, 0))) : w.setRow g cs' = setB w g (.cells cs' t (0, 0)) := by
  obtain ⟨hlt, hg⟩ := Array.getElem?_eq_some_iff.1 h
  unfold World.setRow setB
  congr 1
  apply Array.ext_getElem?
  intro i
  rw [Array.getElem?_modify, Array.getElem?_setIfInBounds]
  by_cases e : g = i
  · subst e
    simp [hlt, hg]
  · rw [if_neg e, if_neg e]
theorem stB {t ty : TypeId} {b : Nat} {old cs : Array Value} (hi : (P.info? t).map (·.size) = some cs.size) (ho : old.size = cs.size) (h1 : cs.all (·.oneCell') = true) (hb : w.heap[b]? = some (.cells old ty (0, 0)))
    (hk : K undef (setB w b (.cells cs ty (0, 0)))) : UK P (Instr.storeAt t (.pointer (some ⟨b, 0, none⟩)) (.agg cs)) w K := by
  rw [← setRow_setB w b old cs ty hb] at hk
  refine UK_of ?_ hk
  simp only [Instr.storeAt, Instr.sureAddr, Sem.run_bind, Sem.run_pure, Result.andThen_ok]
  exact run_storeVar_row w b ty t old cs hb hi ho h1
theorem build_ok {t : TypeId} {parts : List (Nat × Value)} {cs : Array Value} (h : P.built t parts = some cs) : VK P (Instr.build t parts.toArray) w K = K (.agg cs) w := by
  have := run_build (P := P) w t parts.toArray cs (by simpa using h)
  unfold VK OpK
  simp only [Sem.run_bind, this, Result.andThen_ok]
  rfl
end
section
variable {P : Program} {C : World → Prop} {K : Value → Prop}
theorem QV_of {s : Sem Value} {v : Value} (h : ∀ w, C w → s.run P w = .ok v w) (hk : K v) : QK P C (do pure (Next.value (← s))) K := by
  refine ⟨v, fun w hw => ?_, hk⟩
  simp only [Sem.run_bind, h w hw, Result.andThen_ok]
  exact ⟨rfl, rfl⟩
theorem QN_ptr {a : Addr} (hk : K (.pointer (some a))) : QK P C (nilCk (.pointer (some a))) K := ⟨_, fun _ _ => ⟨rfl, rfl⟩, hk⟩
theorem QP_of {t : Bool} {a b : Value} (hk : K (if t then a else b)) : QK P C (do pure (Next.value (if ← asBool (.bool t) then a else b))) K :=
  ⟨_, fun _ _ => by cases t <;> exact ⟨rfl, rfl⟩, hk⟩
theorem QB_of {op : BinOp} {t : TypeId} {x y : Operand} {a b v : Value} (hg : ∀ w, (eqGuard op t x y a b).run P w = .ok () w) (h : ∀ w, (binOp op t a b).run P w = .ok v w) (hk : K v) : QK P C (do pure (Next.value (← (do eqGuard op t x y a b; binOp op t a b)))) K := by
  refine QV_of (fun w _ => ?_) hk
  simp only [Sem.run_bind, hg, h, Result.andThen_ok]
theorem QC_fn {f : FuncId} {fn : Func} {first cap : Array Value} {args : Array Value} {v : Value} (hf : P.funcs[f]? = some fn) (hb : fn.body.isNone = false) (hn : (fn.name == "runtime.NumGoroutine") = false)
    (h : ∀ w, C w → Calls P f (first ++ args ++ cap) w fun e w' => e = .returned v ∧ C w') (hk : K v) : QK P C (do let d ← Deferred.ofValue (.func (.func f) first cap) args; invoke d.target d.args) K := by
  refine ⟨v, fun w hw => ?_, hk⟩
  have hr : (do let d ← Deferred.ofValue (.func (.func f) first cap) args; invoke d.target d.args : Sem Next).run P w = .ok (.enter f (first ++ args ++ cap)) w := by
    have hb' : fn.body ≠ none := by intro q; rw [q] at hb; cases hb
    have hn' : fn.name ≠ "runtime.NumGoroutine" := by intro q; rw [q] at hn; simp at hn
    simp [Deferred.ofValue, invoke, callFunc, program, Sem.run, hf, hb', hn', Sem.run_bind, pure, bind, Sem.bind]
  rw [hr]
  exact ⟨rfl, h w hw⟩
theorem QC_st {f : FuncId} {fn : Func} {args : Array Value} {v : Value} (hf : P.funcs[f]? = some fn) (hb : fn.body.isNone = false) (hn : (fn.name == "runtime.NumGoroutine") = false)
    (h : ∀ w, C w → Calls P f args w fun e w' => e = .returned v ∧ C w') (hk : K v) : QK P C (do let d ← Deferred.ofValue (.func (.func f) #[] #[]) args; invoke d.target d.args) K :=
  QC_fn hf hb hn (by simpa using h) hk
theorem QG_b (t b : Bool) (s : Sem Next) : QG P C (.bool t) b s K = if t = b then QK P C s K else K undef := by
  unfold QG GuardK wantB
  by_cases h : t = b <;> simp [h]
theorem QG_u (b : Bool) (s : Sem Next) : QG P C undef b s K = K undef := by
  unfold QG GuardK wantB undef
  simp
end
end Go.X
set_option linter.unusedVariables false
set_option linter.unusedSimpArgs false
namespace Go.X
open Go Go.RowKit
def reads (w : World) (size : Nat) (v : Value) (n : Nat) (xs : List Value) : Prop :=
  xs.length = n * size ∧ ∃ A c, v = .slice A n c ∧ n ≤ c ∧ ∀ j u, xs[j]? = some u → ∃ a, A = some a ∧ w.cell? (a.add j) = some u
theorem add_block (a : Addr) (j : Nat) : (a.add j).block = a.block := by unfold Addr.add; split <;> rfl
theorem reads_mod {S : Nat → Prop} {w w' : World} {size : Nat} {v : Value} {n : Nat} {xs : List Value} (h : reads w size v n xs) (hm : Mod S w w') (hS : ∀ k, k < w.heap.size → v.ownBlock = some k → ¬ S k) : reads w' size v n xs := by
  obtain ⟨hl, A, c, rfl, hc, hr⟩ := h
  refine ⟨hl, A, c, rfl, hc, fun j u hu => ?_⟩
  obtain ⟨a, rfl, hcell⟩ := hr j u hu
  have hlt := World.block_lt_of_cell? _ _ hcell
  rw [add_block] at hlt
  refine ⟨a, rfl, (World.cell?_of_block ?_).trans hcell⟩
  rw [add_block]
  exact hm.block _ hlt (hS _ hlt rfl)
theorem reads_of_owns {w : World} {base : Nat} {e : TypeId} {size : Nat} {v : Value} {n : Nat} {xs : List Value} (h : w.ownsRow base e size v n xs) : reads w size v n xs := by
  refine ⟨h.1, ?_⟩
  have hc := fun g hg => h.cells (g := g) hg
  rcases h.2 with ⟨rfl, rfl⟩ | ⟨g, cap, cur, rfl, _, _, hn, _⟩
  · have : xs = [] := List.length_eq_zero_iff.1 (by simpa using h.1)
    subst this
    exact ⟨none, 0, rfl, Nat.le_refl _, by simp⟩
  · exact ⟨_, cap, rfl, hn, fun j u hu => ⟨_, rfl, hc g rfl j u hu⟩⟩
theorem owns_mod {S : Nat → Prop} {w w' : World} {base : Nat} {e : TypeId} {size : Nat} {v : Value} {n : Nat} {xs : List Value} (h : w.ownsRow base e size v n xs) (hm : Mod S w w') (hS : ∀ k, v.ownBlock = some k → ¬ S k) : w'.ownsRow base e size v n xs := by
  refine ⟨h.1, ?_⟩
  rcases h.2 with hn | ⟨g, cap, cur, rfl, hb, hgg, rest⟩
  · exact .inl hn
  · exact .inr ⟨g, cap, cur, rfl, hb, hm.blk hgg (hS g rfl), rest⟩
theorem add_add (a : Addr) (i j : Nat) : (a.add i).add j = a.add (i + j) := by
  unfold Addr.add
  by_cases e1 : i = 0
  · by_cases e2 : j = 0
    · simp [e1, e2]
    · simp [e1, e2]
  · by_cases e2 : j = 0
    · simp [e1, e2]
    · rw [if_neg e2, if_neg e1, if_neg (by omega)]
      simp [Nat.add_assoc]
section
variable {P : Program} {w w' : World} {K : Value → World → Prop}
theorem ixld {t e : TypeId} {d : TypeDesc} (hu : P.underlying t = some (.slice e)) (hc : P.cellsOf e = 1) (hue : P.underlying e = some d) (hd : (match d with | .struct _ | .array _ _ => true | _ => false) = false) {v : Value} {n : Nat} {xs : List Value} (h : reads w 1 v n xs) {k : IntKind} {i : Int}
    (h0 : 0 ≤ i) {u : Value} (hi : xs[i.toNat]? = some u) {K : Value → Value → World → Prop} (hk : ∀ x, K x u w) : VK P (Instr.indexAt t v (.int k i)) w fun x w => VK P (Instr.loadAt e x) w (K x) := by
  obtain ⟨hl, A, c, rfl, _, hr⟩ := h
  obtain ⟨a, rfl, hcell⟩ := hr _ _ hi
  have hlt : i.toNat < xs.length := by
    rcases Nat.lt_or_ge i.toNat xs.length with q | q
    · exact q
    · rw [List.getElem?_eq_none q] at hi; cases hi
  rw [ixa (sz := 0) hu hc h0 (by omega)]
  exact ld1 hue hd (by simpa using hcell) (hk _)
theorem rd_cell {size : Nat} {n : Nat} {xs : List Value} {A : Option Addr} {c : Nat} (h : reads w size (.slice A n c) n xs) {i : Nat} (hi : i < n) : ∃ a, A = some a ∨ size = 0 := by
  by_cases hs : size = 0
  · exact ⟨⟨0, 0, none⟩, .inr hs⟩
  · obtain ⟨hl, A', c', he, _, hr⟩ := h
    have hlt : 0 < xs.length := by rw [hl]; exact Nat.mul_pos (by omega) (by omega)
    obtain ⟨a, rfl, _⟩ := hr 0 _ (List.getElem?_eq_getElem hlt)
    cases he
    exact ⟨a, .inl rfl⟩
theorem ixat {t e : TypeId} {sz : Nat} (hu : P.underlying t = some (.slice e)) (hc : P.cellsOf e = sz + 1) {v : Value} {n : Nat} {xs : List Value} (h : reads w (sz + 1) v n xs) {k : IntKind} {i : Int} (h0 : 0 ≤ i) (h1 : i < n)
    (hk : ∀ a, (∀ j u, j < sz + 1 → xs[i.toNat * (sz + 1) + j]? = some u → w.cell? (a.add j) = some u) → v.ownBlock = some a.block → K (.pointer (some a)) w) : VK P (Instr.indexAt t v (.int k i)) w K := by
  obtain ⟨hl, A, c, rfl, hnc, hr⟩ := h
  obtain ⟨a, ha | q⟩ := rd_cell ⟨hl, A, c, rfl, hnc, hr⟩ (i := i.toNat) (by omega)
  · subst ha
    rw [ixa hu hc h0 h1]
    refine hk _ (fun j u hj hx => ?_) (by rw [add_block]; rfl)
    obtain ⟨a', ha', hcell⟩ := hr _ _ hx
    cases ha'
    rw [add_add]
    exact hcell
  · omega
theorem ixldA {t e : TypeId} {d : TypeDesc} {sz : Nat} (hu : P.underlying t = some (.slice e)) (hc : P.cellsOf e = sz + 1) (hue : P.underlying e = some d) (hd : (match d with | .struct _ | .array _ _ => true | _ => false) = true) {v : Value} {n : Nat} {xs : List Value} (h : reads w (sz + 1) v n xs) {k : IntKind} {i : Int}
    (h0 : 0 ≤ i) (h1 : i < n) {K : Value → Value → World → Prop} (hk : ∀ x, K x (.agg ((xs.drop (i.toNat * (sz + 1))).take (sz + 1)).toArray) w) : VK P (Instr.indexAt t v (.int k i)) w fun x w => VK P (Instr.loadAt e x) w (K x) := by
  refine ixat hu hc h h0 h1 fun a ha _ => ?_
  have hlen : ((xs.drop (i.toNat * (sz + 1))).take (sz + 1)).length = sz + 1 := by
    have hm : (i.toNat + 1) * (sz + 1) ≤ n * (sz + 1) := Nat.mul_le_mul_right _ (by omega)
    rw [Nat.succ_mul] at hm
    rw [List.length_take, List.length_drop, h.1]
    omega
  obtain ⟨z, hz, hzs⟩ := info_of hc
  refine ldA hue hd (by rw [hz, hlen]; simp [hzs]) (fun j u hj => ?_) (hk _)
  rw [List.getElem?_take] at hj
  split at hj
  · rw [List.getElem?_drop] at hj
    exact ha j u (by omega) hj
  · cases hj
def builtRow (P : Program) (t : TypeId) (len : Nat) (parts : List (Nat × Value)) : Option (Array Value) :=
  match P.underlying t with
  | some (.slice e) =>
    match P.info? e with
    | some ie =>
      match ie.zero with
      | some z => if decide (len * ie.size > 2 ^ 24) || decide (len * ie.size = 0) then none else Instr.fill (fun i => some (i * ie.size, ie.size)) ((Array.range (len * ie.size)).map (z.cells[· % z.cells.size]!)) parts
      | none => none
    | none => none
  | _ => none
theorem bs_ok {t : TypeId} {len : Nat} {parts : List (Nat × Value)} {cs : Array Value} (h : builtRow P t len parts = some cs) : VK P (Instr.buildSlice t len parts.toArray) w K = K (.slice (some ⟨w.heap.size, 0, none⟩) len len) (w.alloc (.cells cs (P.elem t))) := by
  unfold builtRow at h
  split at h
  · rename_i e hu
    split at h
    · rename_i ie hie
      split at h
      · rename_i z hz
        split at h
        · cases h
        · rename_i hn
          simp only [Bool.or_eq_true, decide_eq_true_eq, not_or] at hn
          have := run_buildSlice (P := P) w t e len parts.toArray cs ie z hu hie hz hn.1 hn.2 h
          unfold VK OpK
          simp only [Sem.run_bind, this, Result.andThen_ok]
          have he : P.elem t = e := by simp [Program.elem, hu]
          rw [he]
          rfl
      · cases h
    · cases h
  · cases h
theorem reads_new {w : World} {cs : Array Value} {e : TypeId} {size n : Nat} (hs : cs.size = n * size) : reads (w.alloc (.cells cs e)) size (.slice (some ⟨w.heap.size, 0, none⟩) n n) n cs.toList :=
  ⟨by simpa using hs, _, _, rfl, Nat.le_refl _, fun j u hu => ⟨_, rfl, by rw [add_pl, cell_blk (alloc_new w _)]; simpa using hu⟩⟩
def elemOk (P : Program) (t e : TypeId) (size bytes : Nat) : Bool :=
  match P.underlying t, P.info? e with
  | some (.slice e'), some i => e' == e && (match i.zero with | some z => z.cells.size == size | none => false) && i.size == size && i.bytes == bytes && Nat.blt 0 size
  | _, _ => false
theorem ap_own {t ty e : TypeId} {size bytes base : Nat} (hE : elemOk P t e size bytes = true) {v : Value} {n : Nat} {xs : List Value} (hown : w.ownsRow base e size v n xs) {v2 : Value} {m : Nat} {news : List Value} (hr : reads w size v2 m news) (hm : 0 < m) (h1 : ∀ u ∈ news, u.oneCell' = true)
    (h63 : n + m ≤ maxLen) (hbytes : (n + m) * bytes ≤ 140737488355328) (hbase : base ≤ w.heap.size)
    (hk : ∀ v' w', w'.ownsRow base e size v' (n + m) (xs ++ news) → Mod (fun k => some k = v.ownBlock) w w' → (v'.ownBlock = v.ownBlock ∨ v'.ownBlock = some w.heap.size) → K v' w') : IK P .append #[t, t] ty [false, false] [v, v2] w K := by
  unfold elemOk at hE
  split at hE
  · rename_i e' i hu hi
    simp only [Bool.and_eq_true, beq_iff_eq] at hE
    obtain ⟨⟨⟨⟨rfl, hz⟩, hs⟩, hb⟩, hp⟩ := hE
    split at hz
    · rename_i z hzz
      have hz : z.cells.size = size := by simpa using hz
      have hpos : 0 < size := Nat.le_of_ble_eq_true hp
      obtain ⟨hl, A, c, rfl, _, hrd⟩ := hr
      have hlt : 0 < news.length := by rw [hl]; exact Nat.mul_pos hm hpos
      obtain ⟨a, rfl, _⟩ := hrd 0 _ (List.getElem?_eq_getElem hlt)
      obtain ⟨v', w', hrun, h2, h3, h4, h5⟩ := run_append_own_at (P := P) w base t ty _ i z size bytes hu hi hzz hs hb hz hpos v n xs hown a m c news hl (fun j u hj => by obtain ⟨a', ha, hc⟩ := hrd j u hj; cases ha; exact hc) h1 h63 hbytes hbase
      exact IK_of (s := Builtin.append_ #[t, t] ty #[v, .slice (some a) m c]) rfl hrun (hk v' w' h2 (Mod.ofGrown h3) h5)
    · cases hz
  · cases hE
theorem snoc {t ty e : TypeId} {size bytes base : Nat} (hE : elemOk P t e size bytes = true) {v : Value} {n : Nat} {xs : List Value} (hown : w.ownsRow base e size v n xs) {x : Value} {cs : Array Value} (hb : builtRow P t 1 [(0, x)] = some cs) (hcs : cs.size = size) (h1 : ∀ u ∈ cs.toList, u.oneCell' = true)
    (h63 : n + 1 ≤ maxLen) (hbytes : (n + 1) * bytes ≤ 140737488355328) (hbase : base ≤ w.heap.size) {K : Value → Value → World → Prop}
    (hk : ∀ y v' w', w'.ownsRow base e size v' (n + 1) (xs ++ cs.toList) → Mod (fun k => some k = v.ownBlock) w w' → (v'.ownBlock = v.ownBlock ∨ ∃ g, v'.ownBlock = some g ∧ w.heap.size ≤ g) → K y v' w') :
    VK P (Instr.buildSlice t 1 [(0, x)].toArray) w fun y w => IK P .append #[t, t] ty [false, false] [v, y] w (K y) := by
  rw [bs_ok hb]
  have hown' := owns_mod (w' := w.alloc (.cells cs (P.elem t))) hown ((Mod.refl none_ w).alloc _) (fun _ _ => id)
  refine ap_own hE hown' (reads_new (n := 1) (by omega)) (by decide) h1 h63 hbytes (by simp; omega) fun v' w' h2 h3 h4 => hk _ _ _ h2 (((Mod.refl _ w).alloc _).trans h3) ?_
  rcases h4 with h4 | h4
  · exact .inl h4
  · exact .inr ⟨_, h4, by simp⟩
end
theorem wrap_i {n : Int} (h0 : -9223372036854775808 ≤ n) (h1 : n < 9223372036854775808) : IntKind.i64.wrap n = n := by rw [IntKind.wrap_i64]; omega
theorem res_ld {P : Program} {t : TypeId} {a : Addr} {v : Value} {w : World} (h : (Instr.loadAt t (.pointer (some a))).run P w = .ok v w) : (do loadVar t (← asAddr (.pointer (some a))) : Sem Value).run P w = .ok v w := h
def Rt (P : Program) (f : FuncId) (args : Array Value) (w : World) (R : Value → World → Prop) : Prop := Calls P f args w fun e w' => ∃ v, e = .returned v ∧ R v w'
theorem Rt.mono {P : Program} {f : FuncId} {args : Array Value} {w : World} {R R' : Value → World → Prop} (h : Rt P f args w R) (hk : ∀ v w', R v w' → R' v w') : Rt P f args w R' := Calls.mono h fun e w' ⟨v, he, hv⟩ => ⟨v, he, hk v w' hv⟩
section
variable {P : Program} {N : Sl → World → Prop} {K : Exit → Sl → World → Prop} {ρ : Sl} {w : World} {rs : List ResultVar} {R : Value → World → Prop}
theorem sq_n : seqK N K .normal = N := rfl
theorem sq_x (i : Nat) : seqK N K (.exit i) = K (.exit i) := rfl
theorem sq_r : seqK N K .ret = K .ret := rfl
theorem bk_n (i : Nat) : blkK i K .normal = K .normal := rfl
theorem bk_r (i : Nat) : blkK i K .ret = K .ret := rfl
theorem bk_x (i : Nat) : blkK i K (.exit i) = K .normal := by
  show (if Nat.beq i i then K .normal else K (.exit i)) = _
  rw [if_pos (Nat.beq_refl i)]
theorem rt_r : retK P rs R .ret ρ w = resK P ρ (fun vs w => R (packV vs) w) rs w := rfl
theorem rt_n : retK P rs R .normal ρ w = resK P ρ (fun vs w => R (packV vs) w) rs w := rfl
theorem rs_0 {k : List Value → World → Prop} : resK P ρ k [] w = k [] w := rfl
theorem rs_t {k : List Value → World → Prop} (t : Nat) : resK P ρ k (.tmp t :: rs) w = resK P ρ (fun vs w => k (ρ t :: vs) w) rs w := rfl
theorem pk_1 (v : Value) : packV [v] = v := rfl
theorem pk_2 (v u : Value) : packV [v, u] = .tuple #[v, u] := rfl
end
theorem Mod.put {S : Nat → Prop} {a b : World} (h : Mod S a b) {i : Nat} (o : Obj) (hi : i < a.heap.size → S i) : Mod S a (b.putObj i o) := Mod.set h o hi
section
variable {α : Type} {enc : α → List Value} {k : Nat} (hk : ∀ a, (enc a).length = k)
include hk
theorem fl_len (xs : List α) : (xs.flatMap enc).length = xs.length * k := by
  induction xs with
  | nil => simp
  | cons r xs ih => simp only [List.flatMap_cons, List.length_append, List.length_cons, hk, ih, Nat.add_mul]; omega
theorem fl_drop {xs : List α} {n : Nat} {r : α} (h : xs[n]? = some r) : ((xs.flatMap enc).drop (n * k)).take k = enc r := by
  induction xs generalizing n with
  | nil => simp at h
  | cons q xs ih =>
    cases n with
    | zero =>
      simp at h
      subst h
      rw [List.flatMap_cons, Nat.zero_mul, List.drop_zero, List.take_append_of_le_length (by rw [hk]; exact Nat.le_refl _), List.take_of_length_le (by rw [hk]; exact Nat.le_refl _)]
    | succ n =>
      have := ih (n := n) (by simpa using h)
      rw [List.flatMap_cons, List.drop_append, List.drop_of_length_le (by rw [hk, Nat.add_mul]; omega), List.nil_append, hk, show (n + 1) * k - k = n * k by rw [Nat.add_mul]; omega]
      exact this
theorem fl_get {xs : List α} {n j : Nat} {r : α} (h : xs[n]? = some r) (hj : j < k) : (xs.flatMap enc)[n * k + j]? = (enc r)[j]? := by
  have := fl_drop hk h
  rw [← this, List.getElem?_take, if_pos hj, List.getElem?_drop]
end
section
variable {P : Program} {w : World} {K : Value → World → Prop}
theorem new_k (w : World) (o : Obj) {M : World → Prop} (hk : ∀ w', w'.heap[w.heap.size]? = some o → Mod none_ w w' → w'.heap.size = w.heap.size + 1 → M w') : M (w.alloc o) := hk _ (alloc_new w o) ((Mod.refl _ w).alloc _) (alloc_size w o)
theorem bs_k {t : TypeId} {len : Nat} {parts : List (Nat × Value)} {cs : Array Value} (h : builtRow P t len parts = some cs)
    (hk : ∀ w', w'.heap[w.heap.size]? = some (.cells cs (P.elem t) (0, 0)) → Mod none_ w w' → w'.heap.size = w.heap.size + 1 → K (.slice (some ⟨w.heap.size, 0, none⟩) len len) w') : VK P (Instr.buildSlice t len parts.toArray) w K := by
  rw [bs_ok h]
  exact new_k w _ hk
theorem box_k {t : TypeId} {v : Value} {cs : Array Value} (hc : v.cells = cs) (hk : ∀ w', w'.heap[w.heap.size]? = some (.cells cs t (0, 0)) → Mod none_ w w' → w'.heap.size = w.heap.size + 1 → K (.pointer (some ⟨w.heap.size, 0, none⟩)) w') : VK P (Instr.box t v) w K := by
  rw [box_ok, hc]
  exact new_k w _ hk
theorem al_k {t : TypeId} {z : Value} {cs : Array Value} (hz0 : (P.info? t).bind (·.zero) = some z) (hc : z.cells = cs) (v : Value) (hk : ∀ w', w'.heap[w.heap.size]? = some (.cells cs t (0, 0)) → Mod none_ w w' → w'.heap.size = w.heap.size + 1 → K (.pointer (some ⟨w.heap.size, 0, none⟩)) w') : VK P (Instr.alloc t true v) w K := by
  rw [alloc_ok hz0, hc]
  exact new_k w _ hk
theorem lcl_k {t : TypeId} {z : Value} {cs : Array Value} (hz0 : (P.info? t).bind (·.zero) = some z) (v : Value) (hi : (P.info? t).map (·.size) = some cs.size) (hsz : z.cells.size = cs.size) (h1 : cs.all (·.oneCell') = true) {K : Value → Value → World → Prop}
    (hk : ∀ w', w'.heap[w.heap.size]? = some (.cells cs t (0, 0)) → Mod none_ w w' → w'.heap.size = w.heap.size + 1 → K (.pointer (some ⟨w.heap.size, 0, none⟩)) undef w') : VK P (Instr.alloc t true v) w fun x w => UK P (Instr.storeAt t x (.agg cs)) w (K x) := by
  rw [alloc_ok hz0]
  refine stB hi hsz h1 (alloc_new w _) (hk _ (setB_new _ _ _ (by simp)) (((Mod.refl _ w).alloc _).set _ (fun q => absurd q (by omega))) (by rw [setB_size, alloc_size]))
theorem reads_blk {w : World} {b : Nat} {cs : Array Value} {e : TypeId} {fr : Nat × Nat} {size n : Nat} (h : w.heap[b]? = some (.cells cs e fr)) (hs : cs.size = n * size) : reads w size (.slice (some ⟨b, 0, none⟩) n n) n cs.toList :=
  ⟨by simpa using hs, _, _, rfl, Nat.le_refl _, fun j u hu => ⟨_, rfl, by rw [add_pl, cell_blk h]; simpa using hu⟩⟩
end
theorem run_fo {P : Program} {s : TypeId} {i off : Nat} (h : fieldOff P s i = some off) (a : Addr) (w : World) : (Instr.fieldAt s (.pointer (some a)) i).run P w = .ok (.pointer (some (a.add off))) w := by
  unfold fieldOff at h
  split at h
  · rename_i fs hu
    split at h
    · rename_i f hf
      split at h
      · cases h
      · rename_i n hc
        cases h
        obtain ⟨z, hz, hzs⟩ := info_of hc
        have h0 : z.size ≠ 0 := by omega
        simp [Instr.fieldAt, run_underlying hu, Sem.run_bind, hf, Instr.sureAddr, fieldPlace, sizeOf, typeInfo, hz, h0]
    · cases h
  · cases h
theorem run_ixa {P : Program} {t e : TypeId} {sz : Nat} (hu : P.underlying t = some (.slice e)) (hc : P.cellsOf e = sz + 1) {a : Addr} {n c : Nat} {k : IntKind} {i : Int} (h0 : 0 ≤ i) (h1 : i < n) (w : World) :
    (Instr.indexAt t (.slice (some a) n c) (.int k i)).run P w = .ok (.pointer (some (a.add (i.toNat * (sz + 1))))) w := by
  obtain ⟨z, hz, hzs⟩ := info_of hc
  simp [Instr.indexAt, run_underlying hu, Sem.run_bind, asIntOf, h0, h1, sizeOf, typeInfo, hz, hzs]
theorem owns_some {w : World} {base : Nat} {e : TypeId} {size : Nat} {v : Value} {n : Nat} {xs : List Value} (h : w.ownsRow base e size v n xs) (hn : 0 < n) : ∃ g cap, v = .slice (some ⟨g, 0, none⟩) n cap ∧ ∃ cur, w.heap[g]? = some (.cells cur e (0, 0)) := by
  rcases h.2 with ⟨_, rfl⟩ | ⟨g, cap, cur, rfl, _, hg, _⟩
  · omega
  · exact ⟨g, cap, rfl, cur, hg⟩
theorem owns_blk {w : World} {base : Nat} {e : TypeId} {size : Nat} {v : Value} {n : Nat} {xs : List Value} (h : w.ownsRow base e size v n xs) {g : Nat} (hg : v.ownBlock = some g) : ∃ cur, w.heap[g]? = some (.cells cur e (0, 0)) := by
  rcases h.2 with ⟨rfl, rfl⟩ | ⟨g', cap, cur, rfl, _, hg', _⟩
  · simp [Value.ownBlock] at hg
  · simp [Value.ownBlock] at hg
    subst hg
    exact ⟨cur, hg'⟩
theorem owns_base {w : World} {b b' : Nat} {e : TypeId} {s : Nat} {v : Value} {n : Nat} {xs : List Value} (h : w.ownsRow b e s v n xs) (hb : b' ≤ b) : w.ownsRow b' e s v n xs :=
  ⟨h.1, h.2.imp id fun ⟨g, cap, cur, e1, e2, e3⟩ => ⟨g, cap, cur, e1, by omega, e3⟩⟩
theorem st_row {P : Program} {w : World} {K : Value → World → Prop} {t e : TypeId} {base size n cap g : Nat} {u : Value} {xs : List Value} (hc1 : P.cellsOf t = 1) (hv : u.oneCell' = true) (hown : w.ownsRow base e size (.slice (some ⟨g, 0, none⟩) n cap) n xs) {k : Nat} (hk : k < n * size)
    (hK : ∀ w', w'.ownsRow base e size (.slice (some ⟨g, 0, none⟩) n cap) n (xs.set k u) → Mod (fun b => b = g) w w' → K undef w') : UK P (Instr.storeAt t (.pointer (some ⟨g, k, none⟩)) u) w K := by
  obtain ⟨hl, h⟩ := hown
  rcases h with ⟨q, _⟩ | ⟨g', cap', cur, q, hb, hg, hn, hm, hs, ht⟩
  · cases q
  · cases q
    have hcap : n * size ≤ cap * size := Nat.mul_le_mul_right _ hn
    refine st1 hc1 hv hg (by omega) (hK _ ⟨by rw [List.length_set]; exact hl, .inr ⟨g, cap, _, rfl, hb, setB_new _ _ _ (X.blk_lt hg), hn, hm, by simpa using hs, ?_⟩⟩ ((Mod.refl _ w).set _ (fun _ => rfl)))
    rw [← ht, Array.toList_setIfInBounds, List.take_set]
theorem reads_cap {w : World} {size : Nat} {v : Value} {n : Nat} {xs : List Value} (h : reads w size v n xs) : ∃ A c, v = .slice A n c ∧ n ≤ c := by
  obtain ⟨_, A, c, rfl, hnc, _⟩ := h
  exact ⟨A, c, rfl, hnc⟩
section
variable {P : Program} {C : World → Prop}
end
theorem BK_rem {P : Program} {w : World} {K : Value → World → Prop} {t : TypeId} {x y : Operand} {k : IntKind} {a b : Int} (hb : b ≠ 0) : BK P .rem t x y (.int k a) (.int k b) w K = K (.int k (a.tmod b)) w := by
  refine BK_of rfl ?_
  rw [binOp_rem]
  simp [Op.intDiv, hb]
theorem QI_len {P : Program} {C : World → Prop} {K : Value → Prop} {t e ty : TypeId} (h : P.underlying t = some (.slice e)) (cs : Array Bool) (A : Option Addr) (n c : Nat) (hk : K (.int .i64 n)) : QK P C (builtin .len #[t] ty cs [Value.slice A n c].toArray) K := by
  refine ⟨_, fun w _ => ?_, hk⟩
  have : (builtin .len #[t] ty cs [Value.slice A n c].toArray).run P w = .ok (.value (.int .i64 n)) w := by simp [builtin, run_len_slice w t ty A n c (elem_of h), goInt]
  rw [this]
  exact ⟨rfl, rfl⟩
theorem caseC {A B : Prop} {b : Bool} (h1 : b = true → A) (h2 : b = false → B) : CondK (.bool b) A B := ⟨b, rfl, h1, h2⟩
theorem condT {A B : Prop} (h : A) : CondK (.bool true) A B := ⟨true, rfl, fun _ => h, fun q => by cases q⟩
theorem condF {A B : Prop} (h : B) : CondK (.bool false) A B := ⟨false, rfl, (fun q => by cases q), fun _ => h⟩
section
variable {P : Program} {C : World → Prop} {K : Value → Prop}
section
variable (t : TypeId) (x y : Operand) (k : IntKind) (a b : Int)
theorem Qlss {t : TypeId} {x y : Operand} {k : IntKind} {a b : Int} (hk : K (.bool (decide (a < b)))) : QK P C (do pure (Next.value (← (do eqGuard .lss t x y (.int k a) (.int k b); binOp .lss t (.int k a) (.int k b))))) K := QB_of (fun _ => rfl) (fun w => by simp [go_sem]) hk
theorem Qeql {t : TypeId} {x y : Operand} {k : IntKind} {a b : Int} (hk : K (.bool (a == b))) : QK P C (do pure (Next.value (← (do eqGuard .eql t x y (.int k a) (.int k b); binOp .eql t (.int k a) (.int k b))))) K := QB_of (fun _ => rfl) (fun w => by simp [go_sem]) hk
theorem Qneq {t : TypeId} {x y : Operand} {k : IntKind} {a b : Int} (hk : K (.bool (a != b))) : QK P C (do pure (Next.value (← (do eqGuard .neq t x y (.int k a) (.int k b); binOp .neq t (.int k a) (.int k b))))) K := QB_of (fun _ => rfl) (fun w => by simp [go_sem]) hk
end
theorem QC_rt {f : FuncId} {fn : Func} {args : Array Value} {R : World → Value → World → Prop} {v : Value} (hf : P.funcs[f]? = some fn) (hb : fn.body.isNone = false) (hn : (fn.name == "runtime.NumGoroutine") = false)
    (h : ∀ w, C w → Rt P f args w (R w)) (hR : ∀ w u w', C w → R w u w' → u = v ∧ C w') (hk : K v) : QK P C (do let d ← Deferred.ofValue (.func (.func f) #[] #[]) args; invoke d.target d.args) K :=
  QC_st hf hb hn (fun w hw => Calls.mono (h w hw) fun e w' ⟨u, he, hu⟩ => by obtain ⟨rfl, hc⟩ := hR w u w' hw hu; exact ⟨he, hc⟩) hk
end
end Go.X
set_option linter.unusedVariables false
namespace Go.X
open Go Go.RowKit
structure Sh (α : Type) where
  sz : Nat
  K : World → α → List Value → Prop
structure OpensAt (P : Program) (n : Nat) {α : Type} (k : Sh α) (t : TypeId) : Prop where
  go : ∀ {H : Type} {enc : TypeId × Value → H} {w : World} {base : Nat} {sp : Nat → Bool} {hd : Bool} {cs : List Value} {x : DataW H × List MemPlace}, DataW.trod enc P w base sp hd n t cs = some x → ∃ v : α, k.K w v cs
def Sh.int (k : IntKind) : Sh Int := ⟨1, fun _ v cs => cs = [.int k v] ∧ (Lit.int k v).wf = true⟩
def Sh.bool : Sh Bool := ⟨1, fun _ v cs => cs = [.bool v]⟩
def Sh.string : Sh ByteArray := ⟨1, fun _ v cs => cs = [.string v] ∧ v.size ≤ maxLen⟩
def Sh.slice {α : Type} (k : Sh α) : Sh (Value × List α) := ⟨1, fun w x cs => cs = [x.1] ∧ x.2.length ≤ maxLen ∧ ∃ A c, x.1 = .slice A x.2.length c ∧ x.2.length ≤ c ∧ ∀ (i : Nat) y, x.2[i]? = some y → ∃ a d, A = some a ∧ d.length = k.sz ∧ k.K w y d ∧ ∀ (j : Nat) u, d[j]? = some u → w.cell? (a.add (i * k.sz + j)) = some u⟩
def Sh.pair {α β : Type} (a : Sh α) (b : Sh β) : Sh (α × β) := ⟨a.sz + b.sz, fun w x cs => ∃ c d, cs = c ++ d ∧ c.length = a.sz ∧ a.K w x.1 c ∧ b.K w x.2 d⟩
section
variable {P : Program} {n : Nat}
theorem opens_int {k : IntKind} {t : TypeId} (h : P.underlying t = some (.int k)) : OpensAt P n (Sh.int k) t := by
  constructor
  intro H enc w base sp hd cs x hx
  cases n with
  | zero => simp [DataW.trod] at hx
  | succ n =>
    unfold DataW.trod at hx
    rw [h] at hx
    match cs with
    | [.int k' m] =>
      simp only at hx
      split at hx
      · rename_i hk
        obtain ⟨rfl, hw⟩ := hk
        exact ⟨m, rfl, hw⟩
      · cases hx
    | [] => simp at hx
    | [.bool _] => simp at hx
    | [.float ..] => simp at hx
    | [.complex ..] => simp at hx
    | [.string _] => simp at hx
    | [.pointer _] => simp at hx
    | [.slice ..] => simp at hx
    | [.map _] => simp at hx
    | [.chan _] => simp at hx
    | [.func ..] => simp at hx
    | [.nilFunc] => simp at hx
    | [.iface ..] => simp at hx
    | [.nilIface] => simp at hx
    | [.agg _] => simp at hx
    | [.tuple _] => simp at hx
    | _ :: _ :: _ => simp at hx
theorem opens_bool {t : TypeId} (h : P.underlying t = some .bool) : OpensAt P n Sh.bool t := by
  constructor
  intro H enc w base sp hd cs x hx
  cases n with
  | zero => simp [DataW.trod] at hx
  | succ n =>
    unfold DataW.trod at hx
    rw [h] at hx
    match cs with
    | [.bool b] => exact ⟨b, rfl⟩
    | [] => simp at hx
    | [.int ..] => simp at hx
    | [.float ..] => simp at hx
    | [.complex ..] => simp at hx
    | [.string _] => simp at hx
    | [.pointer _] => simp at hx
    | [.slice ..] => simp at hx
    | [.map _] => simp at hx
    | [.chan _] => simp at hx
    | [.func ..] => simp at hx
    | [.nilFunc] => simp at hx
    | [.iface ..] => simp at hx
    | [.nilIface] => simp at hx
    | [.agg _] => simp at hx
    | [.tuple _] => simp at hx
    | _ :: _ :: _ => simp at hx
theorem opens_string {t : TypeId} (h : P.underlying t = some .string) : OpensAt P n Sh.string t := by
  constructor
  intro H enc w base sp hd cs x hx
  cases n with
  | zero => simp [DataW.trod] at hx
  | succ n =>
    unfold DataW.trod at hx
    rw [h] at hx
    match cs with
    | [.string s] =>
      simp only at hx
      split at hx
      · rename_i hk; exact ⟨s, rfl, hk⟩
      · cases hx
    | [] => simp at hx
    | [.int ..] => simp at hx
    | [.float ..] => simp at hx
    | [.complex ..] => simp at hx
    | [.bool _] => simp at hx
    | [.pointer _] => simp at hx
    | [.slice ..] => simp at hx
    | [.map _] => simp at hx
    | [.chan _] => simp at hx
    | [.func ..] => simp at hx
    | [.nilFunc] => simp at hx
    | [.iface ..] => simp at hx
    | [.nilIface] => simp at hx
    | [.agg _] => simp at hx
    | [.tuple _] => simp at hx
    | _ :: _ :: _ => simp at hx
theorem choose_list {α : Type} {Q : Nat → α → Prop} : ∀ n : Nat, (∀ i, i < n → ∃ v, Q i v) → ∃ l : List α, l.length = n ∧ ∀ i v, l[i]? = some v → Q i v
  | 0, _ => ⟨[], rfl, fun i v h => by simp at h⟩
  | n + 1, h => by
    obtain ⟨l, hl, hq⟩ := choose_list n (fun i hi => h i (by omega))
    obtain ⟨v, hv⟩ := h n (by omega)
    refine ⟨l ++ [v], by simp [hl], fun i u hu => ?_⟩
    rcases Nat.lt_trichotomy i n with hi | hi | hi
    · rw [List.getElem?_append_left (by omega)] at hu; exact hq i u hu
    · subst hi
      rw [List.getElem?_append_right (by omega), hl] at hu
      simp at hu
      exact hu ▸ hv
    · rw [List.getElem?_eq_none (by simp [hl]; omega)] at hu; cases hu
theorem opens_slice {α : Type} {k : Sh α} {t e : TypeId} (h : P.underlying t = some (.slice e)) (hs : P.cellsOf e = k.sz) (he : ∀ m, m < n → OpensAt P m k e) : OpensAt P n (Sh.slice k) t := by
  constructor
  intro H enc w base sp hd cs x hx
  rcases DataW.trod_slice h hx with ⟨rfl, rfl⟩ | ⟨a, len, cap, elems, rest, m, hn, rfl, rfl, hb, hl, hm, hlen, hel, _, _⟩
  · exact ⟨(.slice none 0 0, []), rfl, by simp, none, 0, rfl, Nat.le_refl _, by simp⟩
  · have key : ∀ i, i < len → ∃ v : α, ∃ c, c.length = k.sz ∧ k.K w v c ∧ ∀ j u, c[j]? = some u → w.cell? (a.add (i * k.sz + j)) = some u := by
      intro i hi
      have h1 := hel i hi
      rw [List.getElem?_eq_getElem (show i < elems.length by omega)] at h1
      obtain ⟨c, hc, ht⟩ := Option.bind_eq_some_iff.1 h1
      obtain ⟨_, hcl, hcell⟩ := World.cells?_some hc
      obtain ⟨v, hv⟩ := (he m (by omega)).go ht
      refine ⟨v, c, by rw [hcl, hs], hv, fun j u hu => ?_⟩
      have hj : j < P.cellsOf e := by
        rcases Nat.lt_or_ge j c.length with q | q
        · omega
        · rw [List.getElem?_eq_none q] at hu; cases hu
      have := hcell j hj
      rw [hu] at this
      rw [← this, ← hs, add_add]
    obtain ⟨l, hll, hq⟩ := choose_list len key
    refine ⟨(.slice (some a) len cap, l), rfl, ?_, some a, cap, by rw [hll], by show l.length ≤ cap; omega, fun i y hy => ?_⟩
    · show l.length ≤ maxLen; omega
    · obtain ⟨d, h1, h2, h3⟩ := hq i y hy
      exact ⟨a, d, rfl, h1, h2, h3⟩
structure FieldsAt (P : Program) (n : Nat) {α : Type} (k : Sh α) (fs : List Field) (off : Nat) : Prop where
  go : ∀ {H : Type} {enc : TypeId × Value → H} {w : World} {base : Nat} {sp : Nat → Bool} {hd : Bool} {cs : List Value}, cs.length = off + k.sz →
    (∀ f ∈ fs, ∃ x, DataW.trod enc P w base sp hd n f.type ((cs.drop f.offset).take (P.cellsOf f.type)) = some x) → ∃ v : α, k.K w v (cs.drop off)
theorem fields_one {α : Type} {k : Sh α} {f : Field} {off : Nat} (ho : f.offset = off) (hs : P.cellsOf f.type = k.sz) (h : OpensAt P n k f.type) : FieldsAt P n k [f] off := by
  constructor
  intro H enc w base sp hd cs hl hx
  obtain ⟨x, hx⟩ := hx f (List.mem_singleton.2 rfl)
  rw [ho, List.take_of_length_le (by simp [hs]; omega)] at hx
  exact h.go hx
theorem fields_cons {α β : Type} {a : Sh α} {b : Sh β} {f : Field} {fs : List Field} {off : Nat} (ho : f.offset = off) (hs : P.cellsOf f.type = a.sz) (h : OpensAt P n a f.type) (hr : FieldsAt P n b fs (off + a.sz)) : FieldsAt P n (Sh.pair a b) (f :: fs) off := by
  constructor
  intro H enc w base sp hd cs hl hx
  obtain ⟨x, hx0⟩ := hx f List.mem_cons_self
  rw [ho, hs] at hx0
  have hl' : cs.length = off + (a.sz + b.sz) := hl
  obtain ⟨u, hu⟩ := h.go hx0
  obtain ⟨v, hv⟩ := hr.go (cs := cs) (by omega) (fun g hg => hx g (List.mem_cons_of_mem _ hg))
  refine ⟨(u, v), (cs.drop off).take a.sz, cs.drop (off + a.sz), ?_, ?_, hu, hv⟩
  · rw [← List.drop_drop, List.take_append_drop]
  · rw [List.length_take, List.length_drop]; omega
theorem opens_struct {α : Type} {k : Sh α} {t : TypeId} {fs : Array Field} (h : P.underlying t = some (.struct fs)) (hs : P.cellsOf t = k.sz) (hf : ∀ m, m < n → FieldsAt P m k fs.toList 0) : OpensAt P n k t := by
  constructor
  intro H enc w base sp hd cs x hx
  obtain ⟨xs, m, hn, _, hl, hxl, hfs⟩ := DataW.trod_struct h hx
  obtain ⟨v, hv⟩ := (hf m (by omega)).go (cs := cs) (H := H) (enc := enc) (w := w) (base := base) (sp := sp) (hd := hd) (by rw [hl, hs]; omega) (fun f hm => by
    obtain ⟨i, hi, rfl⟩ := List.mem_iff_getElem.1 hm
    have hi' : i < fs.size := by simpa using hi
    have h1 := hfs i fs.toList[i] (by rw [← Array.getElem?_toList]; exact List.getElem?_eq_getElem hi)
    rw [List.getElem?_eq_getElem (by omega)] at h1
    exact ⟨_, h1⟩)
  exact ⟨v, by simpa using hv⟩
theorem opens_as {α β : Type} {k : Sh α} {k' : Sh β} {t : TypeId} (h : OpensAt P n k t) (f : α → β) (hf : ∀ w v cs, k.K w v cs → k'.K w (f v) cs) : OpensAt P n k' t := by
  constructor
  intro H enc w base sp hd cs x hx
  obtain ⟨v, hv⟩ := h.go hx
  exact ⟨f v, hf _ _ _ hv⟩
end
theorem reads_sh {α : Type} {k : Sh α} {w : World} {x : Value × List α} {cs : List Value} (h : (Sh.slice k).K w x cs) (enc : α → List Value) (hk : ∀ a, (enc a).length = k.sz) (he : ∀ a d, k.K w a d → d = enc a) : reads w k.sz x.1 x.2.length (x.2.flatMap enc) := by
  obtain ⟨_, _, A, c, hv, hc, hr⟩ := h
  refine ⟨fl_len hk _, A, c, hv, hc, fun j u hu => ?_⟩
  have hlen := fl_len hk x.2
  have hj : j < x.2.length * k.sz := by
    rcases Nat.lt_or_ge j (x.2.flatMap enc).length with q | q
    · omega
    · rw [List.getElem?_eq_none q] at hu; cases hu
  have hs : 0 < k.sz := by
    rcases Nat.eq_zero_or_pos k.sz with q | q
    · rw [q] at hj; omega
    · exact q
  have hi : j / k.sz < x.2.length := by rw [Nat.div_lt_iff_lt_mul hs]; exact hj
  obtain ⟨a, d, rfl, hdl, hkd, hcell⟩ := hr _ _ (List.getElem?_eq_getElem hi)
  have hjd : j / k.sz * k.sz + j % k.sz = j := by rw [Nat.mul_comm]; exact Nat.div_add_mod j k.sz
  refine ⟨a, rfl, ?_⟩
  have h1 := hcell (j % k.sz) u (by
    rw [he _ _ hkd, ← fl_get hk (List.getElem?_eq_getElem hi) (Nat.mod_lt _ hs), hjd]
    exact hu)
  rwa [hjd] at h1
theorem slice_arg {P : Program} {t e : TypeId} {w : World} {base : Nat} {v : Value} {α : Type} {k : Sh α} {x : Value × List α} (hu : P.underlying t = some (.slice e)) (hv : Value.okWide P w .any base t v) (hK : (Sh.slice k).K w x v.cells.toList) : v = x.1 := by
  obtain ⟨hcs, _, A, c, hx, _⟩ := hK
  rw [hx] at hcs ⊢
  cases v <;> first | (simp [Value.cells] at hcs ⊢; done) | (simp [Value.cells] at hcs ⊢; exact hcs) | (exfalso; simp [Value.okWide, hu, Cell.okWide, Cell.ok] at hv; done) | skip
end Go.X
set_option linter.unusedVariables false
namespace Go.X
open Go Go.ChangeShapes Go.WideShapes Go.ChangeAt Go.RowKit
theorem law_row {H : Type} {enc : TypeId × Value → H} {C : Checked} {os : Os} {f : FuncId} {fn : Func} {s : ChangeSpec} {cond : Option ((H : Type) → List (DataW H) → Bool)} {tb : TypeId} {laid : List (String × DataW Unit)} {dom : List PathCond} {F : Stop.Interp}
    (own : ownKnob C.prog.godebug = none) (started : os.Started) (noInit : C.prog.inits.idxOf? f = none) (hfn : C.prog.funcs[f]? = some fn) (hvars : s.vars = []) (hlaid : laidOutB C.prog = true)
    (hr : (fn.params.toList.all fun t => C.prog.readableRec t && decide (t < C.prog.types.size)) = true) (hres : fn.resultTypes = #[tb]) (hb : C.prog.underlying tb = some .bool)
    (hspec : ∀ ds : List (DataW H), ds.length = fn.params.toList.length → s.fn H ds = { results := [.lit (.bool true)], args := ds })
    (witness : ∃ (w : World) (tape : Tape) (i : Input), w.os = os ∧ (w.forCall tape i).Shaped C.prog ∧ i.vars = [] ∧ Input.okWide C.prog (w.forCall tape i) .any w.heap.size f i ∧
      ({ OpenSpec.ofChange s with cond := cond } : OpenSpec).preRow enc C.prog fn dom false laid (w.forCall tape i).memory i.args ∧ ({} : Assume).holds C.prog (lone (Frame.enter C.prog f i.args .normal) [] (w.forCall tape i)))
    (contract : ∀ (W : World) (base : Nat) (args : Array Value) (ds : List (DataW H)) (p : List MemPlace),
      (∀ (j : Nat) t v, fn.params[j]? = some t → args[j]? = some v → Value.okWide C.prog W .any base t v) →
      DataW.TrodAll enc C.prog W 0 (fun _ => true) true fn.params.toList args.toList ds p →
      (DataW.weightsEach C.prog fn.params.toList ds).all (· ≤ reachBytes) = true → (∀ k, cond = some k → k H ds = true) → laidMetH C.prog laid W →
      Calls C.prog f args W fun e W' => e = .returned (.bool true) ∧ Below W.heap.size W W') :
    ReturnsInHanded {} C os f .any (({ OpenSpec.ofChange s with cond := cond } : OpenSpec).preRow enc C.prog fn dom false laid) ((({ OpenSpec.ofChange s with cond := cond } : OpenSpec).at F).post enc C.prog fn false true false false) := by
  refine returnsInHanded_of_row (C := C) (s := { OpenSpec.ofChange s with cond := cond }) own started noInit hfn witness ?_
  intro W base args ds gs before hval hW hcnd hcond hsz hX _ _
  have hW' := hW
  obtain ⟨p, q, hA, hV, rfl, hfz, hnd⟩ := hW
  have hV : DataW.TrodVars enc C.prog W (fun _ => true) s.vars gs q := hV
  have hpv : ({ OpenSpec.ofChange s with cond := cond } : OpenSpec).bare.plain.varTypes C.prog = [] := by
    show s.plain.varTypes C.prog = []
    simp [ChangeSpec.plain, DataSpec.varTypes, hvars]
  rw [hvars] at hV
  obtain ⟨rfl, rfl⟩ := trodVars_none hV
  rw [hpv] at hsz
  simp only [List.append_nil] at hsz hcond
  refine (contract W base args ds p hval hA hsz hcond hX).mono fun e W' ⟨he, bel⟩ => ?_
  subst he
  have hlen := trodAll_length hA
  have hs := hspec ds hlen
  refine ⟨_, rfl, ds, [], _, [], p, [], hW', ?_, ?_, ?_, bel.frame _, fun h => by cases h⟩
  · show DataW.TrodAll enc C.prog W' _ _ _ _ _ (s.fn H (ds ++ [])).results _
    simp only [List.append_nil, hs, hres]
    exact trodAll_mk1 (shut_bool hb _)
  · show DataW.TrodAll enc C.prog W' _ _ _ _ _ (s.fn H (ds ++ [])).args _
    simp only [List.append_nil, hs]
    exact below_trodAll hlaid bel hr hA
  · show DataW.TrodVars enc C.prog W' _ s.vars (s.fn H (ds ++ [])).vars _
    simp only [List.append_nil, hs, hvars]
    exact rfl
theorem witness_row_shaped {H : Type} {enc : TypeId × Value → H} {C : Checked} {os : Os} {f : FuncId} {fn : Func} {s : OpenSpec} {conds : List PathCond} {apart : Bool} {laid : List (String × DataW Unit)} (w0 : World) (args : Array Value) (hos : w0.os = os)
    (hsh : (w0.forCall (fun _ _ => 0) ⟨#[], args, []⟩).Shaped C.prog)
    (hok : Input.okWideB C.prog (w0.forCall (fun _ _ => 0) ⟨#[], args, []⟩) f ⟨#[], args, []⟩ = true)
    (hrow : s.preRow enc C.prog fn conds apart laid (w0.forCall (fun _ _ => 0) ⟨#[], args, []⟩).memory args) :
    ∃ (w : World) (tape : Tape) (i : Input), w.os = os ∧ (w.forCall tape i).Shaped C.prog ∧ i.vars = [] ∧ Input.okWide C.prog (w.forCall tape i) .any w.heap.size f i ∧
      s.preRow enc C.prog fn conds apart laid (w.forCall tape i).memory i.args ∧ ({} : Assume).holds C.prog (lone (Frame.enter C.prog f i.args .normal) [] (w.forCall tape i)) :=
  ⟨w0, fun _ _ => 0, ⟨#[], args, []⟩, hos, hsh, (Input.okWide_of_okWideB (base := 0) hok).1, (Input.okWide_of_okWideB hok).2, hrow, by
    simp only [Assume.holds]
    exact ⟨by simp, by simp, by simp, by simp, by simp⟩⟩
end Go.X
set_option linter.unusedVariables false
set_option linter.unusedSimpArgs false
namespace Go.X
open Go Go.RowKit
structure Ent (κ : Type) where
  k : κ
  v : Value
  b : Nat
section
variable {κ : Type} [DecidableEq κ]
def Ent.enc (enc : κ → Value) (e : Ent κ) : MapEntry := { key := enc e.k, val := e.v, born := e.b }
def findE (k : κ) : List (Ent κ) → Nat → Option (Nat × Value)
  | [], _ => none
  | e :: r, i => if k = e.k then some (i, e.v) else findE k r (i + 1)
structure KeyT (P : Program) (kt : TypeId) (enc : κ → Value) : Prop where
  find : ∀ (k : κ) (l : List (Ent κ)) (w : World), (Instr.findKey kt (enc k) (l.map (Ent.enc enc))).run P w = .ok (findE k l 0) w
  check : ∀ (e : Bool) (k : κ) (w : World), (Instr.checkKey e 10000 kt (enc k)).run P w = .ok () w
  bits : ∀ k : κ, Instr.sameBits 10000 (enc k) (enc k) = true
  inj : ∀ a b : κ, enc a = enc b → a = b
variable {P : Program} {kt : TypeId} {enc : κ → Value}
def IsMap (enc : κ → Value) (w : World) (b : Nat) (l : List (Ent κ)) (clock : Nat) : Prop := w.heap[b]? = some (.map (l.map (Ent.enc enc)).toArray clock)
omit [DecidableEq κ] in
theorem IsMap.mod {S : Nat → Prop} {w w' : World} {b : Nat} {l : List (Ent κ)} {c : Nat} (h : IsMap enc w b l c) (hm : Mod S w w') (hS : ¬ S b) : IsMap enc w' b l c := hm.blk h hS
variable (T : KeyT P kt enc) {t e : TypeId} (ht : P.underlying t = some (.map kt e))
include T ht
theorem run_look {w : World} {b : Nat} {l : List (Ent κ)} {c : Nat} (h : IsMap enc w b l c) {z : Value} (hz : (P.info? e).bind (·.zero) = some z) (k : κ) (ok : Bool) :
    (Instr.lookup t (.map (some b)) (enc k) ok).run P w = .ok (match findE k l 0 with | some (_, v) => if ok then .tuple #[v, .bool true] else v | none => if ok then .tuple #[z, .bool false] else z) w := by
  obtain ⟨i, hi, hzz⟩ := Option.bind_eq_some_iff.1 hz
  have hg : (getObj b).run P w = .ok (.map (l.map (Ent.enc enc)).toArray c) w := MapKept.run_getObj_map h
  unfold Instr.lookup
  simp only [Sem.run_bind, run_underlying ht, Result.andThen_ok, hg, Sem.run_pure, T.check, List.toList_toArray, T.find]
  cases findE k l 0 with
  | none => simp [zeroValue, typeInfo, hi, hzz, Sem.run_bind]
  | some p => simp
theorem run_update {w : World} {b : Nat} {l : List (Ent κ)} {c : Nat} (h : IsMap enc w b l c) (k : κ) (v : Value) :
    (Instr.mapUpdate t (.map (some b)) (enc k) v).run P w = .ok () (match findE k l 0 with
      | some (i, _) => setB w b (.map ((l.map (Ent.enc enc)).toArray.modify i fun e => { e with key := enc k, val := v }) c)
      | none => setB w b (.map ((l.map (Ent.enc enc)).toArray.push { key := enc k, val := v, born := c }) (c + 1))) := by
  have hg : (getObj b).run P w = .ok (.map (l.map (Ent.enc enc)).toArray c) w := MapKept.run_getObj_map h
  have hs : ∀ o, (setObj b o).run P w = .ok () (setB w b o) := fun o => MapKept.run_setObj_map o h
  unfold Instr.mapUpdate
  simp only [Sem.run_bind, run_underlying ht, Result.andThen_ok, hg, Sem.run_pure, T.check, List.toList_toArray, T.find]
  cases hf : findE k l 0 with
  | none => simp only [hs]
  | some p =>
    obtain ⟨i, u⟩ := p
    have hk : ∃ e, l[i]? = some e ∧ e.k = k := by
      have gen : ∀ (l : List (Ent κ)) (n : Nat), findE k l n = some (i, u) → ∃ e, n ≤ i ∧ l[i - n]? = some e ∧ e.k = k := by
        intro l
        induction l with
        | nil => intro n h; simp [findE] at h
        | cons e r ih =>
          intro n h
          unfold findE at h
          split at h
          · rename_i hk
            cases h
            exact ⟨e, Nat.le_refl _, by simp, hk.symm⟩
          · obtain ⟨e', h1, h2, h3⟩ := ih (n + 1) h
            refine ⟨e', by omega, ?_, h3⟩
            rw [show i - n = (i - (n + 1)) + 1 by omega]
            simpa using h2
      obtain ⟨e, _, h2, h3⟩ := gen l 0 hf
      exact ⟨e, by simpa using h2, h3⟩
    obtain ⟨e0, he0, rfl⟩ := hk
    have : (l.map (Ent.enc enc)).toArray[i]? = some (e0.enc enc) := by simp [he0]
    simp only [this, Option.map_some, Option.getD_some, Ent.enc, Instr.keyThatStays, T.bits, if_true, Sem.run_bind, Sem.run_pure, Result.andThen_ok, hs]
omit [DecidableEq κ] T ht in
theorem modify_ents (l : List (Ent κ)) (i : Nat) (f : MapEntry → MapEntry) (g : Ent κ → Ent κ) (h : ∀ e, l[i]? = some e → f (e.enc enc) = (g e).enc enc) : (l.map (Ent.enc enc)).toArray.modify i f = ((l.modify i g).map (Ent.enc enc)).toArray := by
  apply Array.ext_getElem?
  intro j
  rw [Array.getElem?_modify]
  simp only [List.getElem?_toArray, List.getElem?_map, List.getElem?_modify]
  by_cases e : i = j
  · subst e
    simp only [if_true]
    cases hl : l[i]? with
    | none => rfl
    | some x => simp [h x hl]
  · simp [e]
omit T ht in
theorem findE_at {k : κ} {l : List (Ent κ)} {i : Nat} {u : Value} (h : findE k l 0 = some (i, u)) : ∃ e, l[i]? = some e ∧ e.k = k ∧ e.v = u := by
  have gen : ∀ (l : List (Ent κ)) (n : Nat), findE k l n = some (i, u) → ∃ e, n ≤ i ∧ l[i - n]? = some e ∧ e.k = k ∧ e.v = u := by
    intro l
    induction l with
    | nil => intro n h; simp [findE] at h
    | cons e r ih =>
      intro n h
      unfold findE at h
      split at h
      · rename_i hk
        cases h
        exact ⟨e, Nat.le_refl _, by simp, hk.symm, rfl⟩
      · obtain ⟨e', h1, h2, h3⟩ := ih (n + 1) h
        refine ⟨e', by omega, ?_, h3⟩
        rw [show i - n = (i - (n + 1)) + 1 by omega]
        simpa using h2
  obtain ⟨e, _, h2, h3⟩ := gen l 0 h
  exact ⟨e, by simpa using h2, h3⟩
omit T ht in
def putE (k : κ) (v : Value) (c : Nat) (l : List (Ent κ)) : List (Ent κ) :=
  match findE k l 0 with
  | some (i, _) => l.modify i fun e => ⟨e.k, v, e.b⟩
  | none => l ++ [⟨k, v, c⟩]
def clkE (k : κ) (c : Nat) (l : List (Ent κ)) : Nat := if (findE k l 0).isSome then c else c + 1
theorem run_put {w : World} {b : Nat} {l : List (Ent κ)} {c : Nat} (h : IsMap enc w b l c) (k : κ) (v : Value) :
    ∃ w', (Instr.mapUpdate t (.map (some b)) (enc k) v).run P w = .ok () w' ∧ IsMap enc w' b (putE k v c l) (clkE k c l) ∧ Mod (fun i => i = b) w w' := by
  have hr := run_update T ht h k v
  unfold putE clkE
  cases hf : findE k l 0 with
  | none =>
    rw [hf] at hr
    refine ⟨_, hr, ?_, (Mod.refl _ w).set _ (fun _ => rfl)⟩
    unfold IsMap
    rw [setB_new _ _ _ (X.blk_lt h)]
    simp [Ent.enc]
  | some p =>
    obtain ⟨i, u⟩ := p
    rw [hf] at hr
    refine ⟨_, hr, ?_, (Mod.refl _ w).set _ (fun _ => rfl)⟩
    unfold IsMap
    obtain ⟨e0, he0, hk0, _⟩ := findE_at hf
    rw [setB_new _ _ _ (X.blk_lt h), modify_ents l i _ (fun e => ⟨e.k, v, e.b⟩) (fun e he => by rw [he0] at he; cases he; rw [← hk0]; rfl)]
    rfl
omit [DecidableEq κ] T ht in
omit [DecidableEq κ] T ht in
theorem make_ok (t : TypeId) {w : World} {K : Value → World → Prop} (hk : ∀ w', IsMap enc w' w.heap.size [] 0 → Mod none_ w w' → w'.heap.size = w.heap.size + 1 → K (.map (some w.heap.size)) w') : VK P (Instr.makeMap t none) w K := by
  have hr : (Instr.makeMap t none).run P w = .ok (.map (some w.heap.size)) (w.alloc (.map #[] 0)) := by
    simp [Instr.makeMap, Sem.run_bind]
  exact VK_of hr (new_k w _ hk)
end
end Go.X
set_option linter.unusedVariables false
set_option linter.unusedSimpArgs false
namespace Go.X
open Go Go.RowKit
structure FAt (P : Program) (w : World) (t : TypeId) (i : Nat) (a : Addr) (t' : TypeId) (v : Value) : Prop where
  go : ∃ off, fieldOff P t i = some off ∧ ∀ K : Value → World → Prop, VK P (Instr.loadAt t' (.pointer (some (a.add off)))) w K = K v w
theorem FAt.mk' {P : Program} {w : World} {t : TypeId} {i : Nat} {a : Addr} {t' : TypeId} {v : Value} {off : Nat} {d : TypeDesc} (h1 : fieldOff P t i = some off) (h2 : P.underlying t' = some d) (h3 : (match d with | .struct _ | .array _ _ => true | _ => false) = false) (h4 : w.cell? (a.add off) = some v) : FAt P w t i a t' v :=
  ⟨_, h1, fun K => VK_eq_of (run_ld1 h2 h3 h4)⟩
section
variable {P : Program} {w : World} {K : Value → World → Prop} {t t' ty ty' : TypeId} {i : Nat} {a : Addr} {v : Value} {b : Bool}
theorem FAt.eq (h : FAt P w t i a t' v) (K : Value → World → Prop) : (VK P (Instr.fieldAt t (.pointer (some a)) i) w fun x w => VK P (Instr.loadAt t' x) w K) = K v w := by
  obtain ⟨off, h1, h2⟩ := h.go
  rw [fo h1, h2]
theorem FAt.vk (h : FAt P w t i a t' v) (hk : K v w) : VK P (Instr.fieldAt t (.pointer (some a)) i) w fun x w => VK P (Instr.loadAt t' x) w K := by
  rw [h.eq]
  exact hk
variable {t2 t2' : TypeId} {i2 : Nat} {v2 : Value}
theorem FAt.vk' {K : Value → Value → World → Prop} (h : FAt P w t i a t' v) (hk : ∀ x, K x v w) : VK P (Instr.fieldAt t (.pointer (some a)) i) w fun x w => VK P (Instr.loadAt t' x) w (K x) := by
  obtain ⟨off, h1, h2⟩ := h.go
  rw [fo h1, h2]
  exact hk _
end
end Go.X
set_option linter.unusedVariables false
namespace Go.X
open Go Go.RowKit
section
variable {P : Program} {w : World} {K : Value → World → Prop}
theorem stS {t ty : TypeId} {b : Nat} {old cs : Array Value} {x v : Value} (hx : x = .pointer (some ⟨b, 0, none⟩)) (hv : v = .agg cs) (hi : (P.info? t).map (·.size) = some cs.size) (ho : old.size = cs.size) (h1 : cs.all (·.oneCell') = true) (hb : w.heap[b]? = some (.cells old ty (0, 0)))
    (hk : ∀ w', w'.heap[b]? = some (.cells cs ty (0, 0)) → Mod (fun i => i = b) w w' → w'.heap.size = w.heap.size → K undef w') : UK P (Instr.storeAt t x v) w K := by
  rw [hx, hv]
  exact stB hi ho h1 hb (hk _ (setB_new _ _ _ (blk_lt hb)) ((Mod.refl _ w).set _ (fun _ => rfl)) (by rw [setB_size]))
theorem stC {t ty : TypeId} {b o : Nat} {cs : Array Value} {x v : Value} (hx : x = .pointer (some ⟨b, o, none⟩)) (hc1 : P.cellsOf t = 1) (hv : v.oneCell' = true) (hb : w.heap[b]? = some (.cells cs ty (0, 0))) (ho : o < cs.size)
    (hk : ∀ w', w'.heap[b]? = some (.cells (cs.setIfInBounds o v) ty (0, 0)) → Mod (fun i => i = b) w w' → w'.heap.size = w.heap.size → K undef w') : UK P (Instr.storeAt t x v) w K := by
  rw [hx]
  exact st1 hc1 hv hb ho (hk _ (setB_new _ _ _ (blk_lt hb)) ((Mod.refl _ w).set _ (fun _ => rfl)) (by rw [setB_size]))
theorem ldS {t ty : TypeId} {d : TypeDesc} {b : Nat} {cs : Array Value} {x : Value} (hx : x = .pointer (some ⟨b, 0, none⟩)) (hu : P.underlying t = some d) (hd : (match d with | .struct _ | .array _ _ => true | _ => false) = true) (hi : (P.info? t).map (·.size) = some cs.size) (hb : w.heap[b]? = some (.cells cs ty (0, 0))) (hk : K (.agg cs) w) : VK P (Instr.loadAt t x) w K := by
  rw [hx]
  exact ldB hu hd hi hb hk
theorem FAt.vs {t t' : TypeId} {i : Nat} {a : Addr} {v x : Value} {K : Value → Value → World → Prop} (h : FAt P w t i a t' v) (hx : x = .pointer (some a)) (hk : ∀ y, K y v w) : VK P (Instr.fieldAt t x i) w fun y w => VK P (Instr.loadAt t' y) w (K y) := by
  rw [hx]; exact h.vk' hk
theorem rtCell {t ty : TypeId} {d : TypeDesc} {b i : Nat} {cs : Array Value} {R : Value → World → Prop} {ρ : Sl} (hx : ρ i = .pointer (some ⟨b, 0, none⟩)) (hu : P.underlying t = some d) (hd : (match d with | .struct _ | .array _ _ => true | _ => false) = true) (hi : (P.info? t).map (·.size) = some cs.size) (hb : w.heap[b]? = some (.cells cs ty (0, 0))) (hk : R (.agg cs) w) :
    retK P [ResultVar.cell i t] R .ret ρ w := by
  show ∃ v, (do loadVar t (← asAddr (ρ i)) : Sem Value).run P w = .ok v w ∧ R v w
  rw [hx]
  exact ⟨_, res_ld (run_ldB hu hd hi hb), hk⟩
theorem rsCell {t ty : TypeId} {d : TypeDesc} {b : Nat} {cs : Array Value} {R : Value → World → Prop} {x : Value} (hx : x = .pointer (some ⟨b, 0, none⟩)) (hu : P.underlying t = some d) (hd : (match d with | .struct _ | .array _ _ => true | _ => false) = true) (hi : (P.info? t).map (·.size) = some cs.size) (hb : w.heap[b]? = some (.cells cs ty (0, 0))) (hk : R (.agg cs) w) :
    ∃ v, (do loadVar t (← asAddr x) : Sem Value).run P w = .ok v w ∧ R v w := by
  rw [hx]
  exact ⟨_, res_ld (run_ldB hu hd hi hb), hk⟩
end
end Go.X
set_option linter.unusedVariables false
set_option linter.unusedSimpArgs false
set_option maxRecDepth 4000
namespace Go.X
open Go Go.RowKit
theorem run_append_none {P : Program} (w : World) (base : Nat) (t ty e : TypeId) (i : TypeInfo) (size c2 : Nat) (ht : P.underlying t = some (.slice e)) (hi : P.info? e = some i) (v : Value) (n : Nat) (xs : List Value) (hown : w.ownsRow base e size v n xs) :
    (Builtin.append_ #[t, t] ty #[v, .slice none 0 c2]).run P w = .ok v w := by
  rcases hown.2 with ⟨rfl, rfl⟩ | ⟨g, cap, cur, rfl, _, _, hnc, _⟩
  · simp [Builtin.append_, run_underlying ht, sizeOf, typeInfo, hi, Builtin.lenOf, Builtin.firstCells]
  · simp [Builtin.append_, run_underlying ht, sizeOf, typeInfo, hi, Builtin.lenOf, Builtin.firstCells, hnc, storeCells]
theorem ap_any {P : Program} {w : World} {K : Value → World → Prop} {t ty e : TypeId} {size bytes base : Nat} (hE : elemOk P t e size bytes = true) {v : Value} {n : Nat} {xs : List Value} (hown : w.ownsRow base e size v n xs) {v2 : Value} {m : Nat} {news : List Value} (hr : reads w size v2 m news) (h1 : ∀ u ∈ news, u.oneCell' = true)
    (h63 : n + m ≤ maxLen) (hbytes : (n + m) * bytes ≤ 140737488355328) (hbase : base ≤ w.heap.size)
    (hk : ∀ v' w', w'.ownsRow base e size v' (n + m) (xs ++ news) → Mod (fun k => some k = v.ownBlock) w w' → (v'.ownBlock = v.ownBlock ∨ v'.ownBlock = some w.heap.size) → K v' w') : IK P .append #[t, t] ty [false, false] [v, v2] w K := by
  have hE' := hE
  unfold elemOk at hE
  split at hE
  · rename_i e' i hu hi
    simp only [Bool.and_eq_true, beq_iff_eq] at hE
    obtain ⟨⟨⟨⟨rfl, hz⟩, hs⟩, hb⟩, hp⟩ := hE
    split at hz
    · rename_i z hzz
      have hz : z.cells.size = size := by simpa using hz
      have hpos : 0 < size := Nat.le_of_ble_eq_true hp
      obtain ⟨hl, A, c, rfl, _, hrd⟩ := hr
      cases A with
      | none =>
        have h0 : news = [] := by
          rcases Nat.eq_zero_or_pos news.length with q | q
          · exact List.length_eq_zero_iff.1 q
          · obtain ⟨a, ha, _⟩ := hrd 0 _ (List.getElem?_eq_getElem q)
            cases ha
        subst h0
        have hm0 : m = 0 := by
          rcases Nat.eq_zero_or_pos m with q | q
          · exact q
          · have := Nat.mul_pos q hpos; simp at hl; omega
        subst hm0
        refine IK_of (s := Builtin.append_ #[t, t] ty #[v, .slice none 0 c]) rfl (run_append_none w base t ty _ i size c hu hi v n xs hown) (hk v w (by simpa using hown) (Mod.refl _ _) (.inl rfl))
      | some a =>
        obtain ⟨v', w', hrun, h2, h3, h4, h5⟩ := run_append_own_at (P := P) w base t ty _ i z size bytes hu hi hzz hs hb hz hpos v n xs hown a m c news hl (fun j u hj => by obtain ⟨a', ha, hc⟩ := hrd j u hj; cases ha; exact hc) h1 h63 hbytes hbase
        exact IK_of (s := Builtin.append_ #[t, t] ty #[v, .slice (some a) m c]) rfl hrun (hk v' w' h2 (Mod.ofGrown h3) h5)
    · cases hz
  · cases hE
def byteV (c : UInt8) : Value := .int .u8 (c.toNat : Int)
theorem str_of {P : Program} {w : World} {K : Value → World → Prop} {src dst e : TypeId} (hs : P.underlying src = some (.slice e)) (he : P.underlying e = some (.int .u8)) (hd : P.underlying dst = some .string) {v : Value} {n : Nat} {b : List UInt8} (h : reads w 1 v n (b.map byteV)) (hk : K (.string ⟨b.toArray⟩) w) : VK P (convert src dst v) w K := by
  obtain ⟨hl, A, c, rfl, _, hr⟩ := h
  have hn : n = b.length := by simpa using hl.symm
  subst hn
  cases A with
  | none =>
    have h0 : b = [] := by
      cases b with
      | nil => rfl
      | cons x r => obtain ⟨a, ha, _⟩ := hr 0 (byteV x) rfl; cases ha
    subst h0
    exact VK_of (run_convert_bytes_nil w src e hs he _ _ dst hd) hk
  | some a =>
    refine VK_of (run_convert_bytes_back w src dst e a c b hs he hd fun j hj => ?_) hk
    obtain ⟨a', ha, hcell⟩ := hr j (byteV b[j]) (by rw [List.getElem?_map, List.getElem?_eq_getElem hj]; rfl)
    cases ha
    exact hcell
theorem Mod.fresh {w w' w'' : World} {b : Nat} (h : Mod none_ w w') (hm : Mod (fun i => i = b) w' w'') (hb : w.heap.size ≤ b) : Mod none_ w w'' := h.then hm fun i hi q => by omega
end Go.X
set_option linter.unusedVariables false
set_option linter.unusedSimpArgs false
namespace Go.X
open Go Go.RowKit
theorem bytes_inj {a b : ByteArray} (h : a.data.toList = b.data.toList) : a = b := by
  cases a; cases b
  simp only [Array.toList_inj] at h
  rw [h]
section
variable {P : Program} {w : World} {K : Value → World → Prop}
theorem VGtt (s : Sem Value) : VG P (.bool true) true s w K = VK P s w K := by rw [VG_b]; rfl
theorem VGtf (s : Sem Value) : VG P (.bool true) false s w K = K undef w := by rw [VG_b]; rfl
theorem VGft (s : Sem Value) : VG P (.bool false) true s w K = K undef w := by rw [VG_b]; rfl
theorem VGff (s : Sem Value) : VG P (.bool false) false s w K = VK P s w K := by rw [VG_b]; rfl
theorem UGtt (s : Sem Unit) : UG P (.bool true) true s w K = UK P s w K := by rw [UG_b]; rfl
theorem UGtf (s : Sem Unit) : UG P (.bool true) false s w K = K undef w := by rw [UG_b]; rfl
theorem UGft (s : Sem Unit) : UG P (.bool false) true s w K = K undef w := by rw [UG_b]; rfl
theorem UGff (s : Sem Unit) : UG P (.bool false) false s w K = UK P s w K := by rw [UG_b]; rfl
theorem MGtt (v : Value) : MG P (.bool true) true v w K = K v w := by rw [MG_b]; rfl
theorem MGtf (v : Value) : MG P (.bool true) false v w K = K undef w := by rw [MG_b]; rfl
theorem MGft (v : Value) : MG P (.bool false) true v w K = K undef w := by rw [MG_b]; rfl
theorem MGff (v : Value) : MG P (.bool false) false v w K = K v w := by rw [MG_b]; rfl
theorem NGtt (v : Value) : NG P (.bool true) true v w K = NK P v w K := by rw [NG_b]; rfl
theorem NGtf (v : Value) : NG P (.bool true) false v w K = K undef w := by rw [NG_b]; rfl
theorem NGft (v : Value) : NG P (.bool false) true v w K = K undef w := by rw [NG_b]; rfl
theorem NGff (v : Value) : NG P (.bool false) false v w K = NK P v w K := by rw [NG_b]; rfl
theorem PGtt (c a b : Value) : PG P (.bool true) true c a b w K = PK P c a b w K := by rw [PG_b]; rfl
theorem PGtf (c a b : Value) : PG P (.bool true) false c a b w K = K undef w := by rw [PG_b]; rfl
theorem PGft (c a b : Value) : PG P (.bool false) true c a b w K = K undef w := by rw [PG_b]; rfl
theorem PGff (c a b : Value) : PG P (.bool false) false c a b w K = PK P c a b w K := by rw [PG_b]; rfl
theorem BGtt (op : BinOp) (ty : TypeId) (x y : Operand) (a b : Value) : BG P (.bool true) true op ty x y a b w K = BK P op ty x y a b w K := by rw [BG_b]; rfl
theorem BGtf (op : BinOp) (ty : TypeId) (x y : Operand) (a b : Value) : BG P (.bool true) false op ty x y a b w K = K undef w := by rw [BG_b]; rfl
theorem BGft (op : BinOp) (ty : TypeId) (x y : Operand) (a b : Value) : BG P (.bool false) true op ty x y a b w K = K undef w := by rw [BG_b]; rfl
theorem BGff (op : BinOp) (ty : TypeId) (x y : Operand) (a b : Value) : BG P (.bool false) false op ty x y a b w K = BK P op ty x y a b w K := by rw [BG_b]; rfl
theorem CGtt (f : Value) (args : List Value) : CG P (.bool true) true f args w K = CK P f args w K := by rw [CG_b]; rfl
theorem CGtf (f : Value) (args : List Value) : CG P (.bool true) false f args w K = K undef w := by rw [CG_b]; rfl
theorem CGft (f : Value) (args : List Value) : CG P (.bool false) true f args w K = K undef w := by rw [CG_b]; rfl
theorem CGff (f : Value) (args : List Value) : CG P (.bool false) false f args w K = CK P f args w K := by rw [CG_b]; rfl
theorem IGtt (b : Builtin) (ts : Array TypeId) (ty : TypeId) (cs : List Bool) (args : List Value) : IG P (.bool true) true b ts ty cs args w K = IK P b ts ty cs args w K := by rw [IG_b]; rfl
theorem IGtf (b : Builtin) (ts : Array TypeId) (ty : TypeId) (cs : List Bool) (args : List Value) : IG P (.bool true) false b ts ty cs args w K = K undef w := by rw [IG_b]; rfl
theorem IGft (b : Builtin) (ts : Array TypeId) (ty : TypeId) (cs : List Bool) (args : List Value) : IG P (.bool false) true b ts ty cs args w K = K undef w := by rw [IG_b]; rfl
theorem IGff (b : Builtin) (ts : Array TypeId) (ty : TypeId) (cs : List Bool) (args : List Value) : IG P (.bool false) false b ts ty cs args w K = IK P b ts ty cs args w K := by rw [IG_b]; rfl
theorem PKt (a b : Value) : PK P (.bool true) a b w K = K a w := by rw [PK_bool]; rfl
theorem PKf (a b : Value) : PK P (.bool false) a b w K = K b w := by rw [PK_bool]; rfl
theorem CDt (A B : Prop) : CondK (.bool true) A B = A := by rw [CondK_bool]; rfl
theorem CDf (A B : Prop) : CondK (.bool false) A B = B := by rw [CondK_bool]; rfl
theorem NOTt : VK P (Op.unary .not (.bool true)) w K = K (.bool false) w := not_ok true
theorem NOTf : VK P (Op.unary .not (.bool false)) w K = K (.bool true) w := not_ok false
section
variable {k : IntKind} {a b : Int}
theorem EQt (h : a = b) (t : TypeId) (x y : Operand) (K : Value → World → Prop) : BK P .eql t x y (.int k a) (.int k b) w K = K (.bool true) w := by rw [BK_eql, h]; simp
theorem EQf (h : a ≠ b) (t : TypeId) (x y : Operand) (K : Value → World → Prop) : BK P .eql t x y (.int k a) (.int k b) w K = K (.bool false) w := by rw [BK_eql, beq_eq_false_iff_ne.2 h]
theorem NEt (h : a ≠ b) (t : TypeId) (x y : Operand) (K : Value → World → Prop) : BK P .neq t x y (.int k a) (.int k b) w K = K (.bool true) w := by rw [BK_neq, bne_iff_ne.2 h]
theorem NEf (h : a = b) (t : TypeId) (x y : Operand) (K : Value → World → Prop) : BK P .neq t x y (.int k a) (.int k b) w K = K (.bool false) w := by rw [BK_neq, h]; simp
theorem LTt (h : a < b) (t : TypeId) (x y : Operand) (K : Value → World → Prop) : BK P .lss t x y (.int k a) (.int k b) w K = K (.bool true) w := by rw [BK_lss, decide_eq_true h]
theorem LTf (h : b ≤ a) (t : TypeId) (x y : Operand) (K : Value → World → Prop) : BK P .lss t x y (.int k a) (.int k b) w K = K (.bool false) w := by rw [BK_lss, decide_eq_false (by omega)]
theorem GTt (h : b < a) (t : TypeId) (x y : Operand) (K : Value → World → Prop) : BK P .gtr t x y (.int k a) (.int k b) w K = K (.bool true) w := by rw [BK_gtr, decide_eq_true h]
theorem GTf (h : a ≤ b) (t : TypeId) (x y : Operand) (K : Value → World → Prop) : BK P .gtr t x y (.int k a) (.int k b) w K = K (.bool false) w := by rw [BK_gtr, decide_eq_false (by omega)]
theorem LEt (h : a ≤ b) (t : TypeId) (x y : Operand) (K : Value → World → Prop) : BK P .leq t x y (.int k a) (.int k b) w K = K (.bool true) w := by rw [BK_leq, decide_eq_true h]
theorem LEf (h : b < a) (t : TypeId) (x y : Operand) (K : Value → World → Prop) : BK P .leq t x y (.int k a) (.int k b) w K = K (.bool false) w := by rw [BK_leq, decide_eq_false (by omega)]
theorem GEt (h : b ≤ a) (t : TypeId) (x y : Operand) (K : Value → World → Prop) : BK P .geq t x y (.int k a) (.int k b) w K = K (.bool true) w := by rw [BK_geq, decide_eq_true h]
theorem GEf (h : a < b) (t : TypeId) (x y : Operand) (K : Value → World → Prop) : BK P .geq t x y (.int k a) (.int k b) w K = K (.bool false) w := by rw [BK_geq, decide_eq_false (by omega)]
end
section
variable {a b : ByteArray}
theorem SEQt (h : a = b) (t : TypeId) (x y : Operand) (K : Value → World → Prop) : BK P .eql t x y (.string a) (.string b) w K = K (.bool true) w := by rw [BK_eqlS, h]; simp
theorem SEQf (h : a ≠ b) (t : TypeId) (x y : Operand) (K : Value → World → Prop) : BK P .eql t x y (.string a) (.string b) w K = K (.bool false) w := by
  rw [BK_eqlS, beq_eq_false_iff_ne.2]
  exact fun q => h (bytes_inj (by rw [← ByteArray.toList_eq, ← ByteArray.toList_eq]; exact q))
theorem SNEt (h : a ≠ b) (t : TypeId) (x y : Operand) (K : Value → World → Prop) : BK P .neq t x y (.string a) (.string b) w K = K (.bool true) w := by
  rw [BK_neqS, beq_eq_false_iff_ne.2]
  · rfl
  · exact fun q => h (bytes_inj (by rw [← ByteArray.toList_eq, ← ByteArray.toList_eq]; exact q))
theorem SNEf (h : a = b) (t : TypeId) (x y : Operand) (K : Value → World → Prop) : BK P .neq t x y (.string a) (.string b) w K = K (.bool false) w := by rw [BK_neqS, h]; simp
end
structure FO (P : Program) (w : World) (t : TypeId) (i off : Nat) (a : Addr) (t' : TypeId) (v : Value) : Prop where
  h1 : fieldOff P t i = some off
  h2 : ∀ K : Value → World → Prop, VK P (Instr.loadAt t' (.pointer (some (a.add off)))) w K = K v w
theorem FO.mk' {t t' : TypeId} {i off : Nat} {a : Addr} {v : Value} {d : TypeDesc} (h1 : fieldOff P t i = some off) (h2 : P.underlying t' = some d) (h3 : (match d with | .struct _ | .array _ _ => true | _ => false) = false) (h4 : w.cell? (a.add off) = some v) : FO P w t i off a t' v :=
  ⟨h1, fun K => VK_eq_of (run_ld1 h2 h3 h4)⟩
theorem FO.blk {t t' ty : TypeId} {i off b : Nat} {fr : Nat × Nat} {cs : Array Value} {v : Value} {d : TypeDesc} (hb : w.heap[b]? = some (.cells cs ty fr)) (h1 : fieldOff P t i = some off) (h2 : P.underlying t' = some d) (h3 : (match d with | .struct _ | .array _ _ => true | _ => false) = false) (h4 : cs[off]? = some v) : FO P w t i off ⟨b, 0, none⟩ t' v :=
  FO.mk' h1 h2 h3 (by rw [add_pl, Nat.zero_add, cell_blk hb]; exact h4)
theorem FO.e {t t' : TypeId} {i off : Nat} {a : Addr} {v : Value} (h : FO P w t i off a t' v) (K : Value → Value → World → Prop) :
    (VK P (Instr.fieldAt t (.pointer (some a)) i) w fun x w => VK P (Instr.loadAt t' x) w (K x)) = K (.pointer (some (a.add off))) v w := by
  rw [fo h.h1, h.h2]
end
theorem least_of {p : Nat → Prop} : ∀ n, p n → ∃ m, p m ∧ ∀ k, p k → m ≤ k := by
  intro n
  induction n using Nat.strongRecOn with
  | ind n ih =>
    intro hn
    by_cases h : ∃ k, k < n ∧ p k
    · obtain ⟨k, hk, hp⟩ := h
      exact ih k hk hp
    · exact ⟨n, hn, fun k hk => Nat.le_of_not_lt fun q => h ⟨k, q, hk⟩⟩
open Classical in
theorem W_loopG {P : Program} {z : At} {n : Nat} {c : Code} {K : Exit → Sl → World → Prop} {ρ : Sl} {w : World} (hd : dstOk n c = true) (I : Nat → Sl → World → Prop) (m : Nat) (h0 : I m ρ w)
    (round : ∀ m ρ w, I m ρ w → sx z P n c (seqK (fun ρ' w' => ∃ m', m' < m ∧ I m' ρ' w') K) ρ w) : W z P n (.loop c) K ρ w := by
  intro a hl
  have hmin : ∀ {ρ w}, (∃ m, I m ρ w) → ∃ m, I m ρ w ∧ ∀ k, I k ρ w → m ≤ k := fun ⟨m, h⟩ => least_of m h
  let μ : Sl → World → Nat := fun ρ w => if h : ∃ m, I m ρ w then Classical.choose (hmin h) else 0
  let M : Act → World → Nat := fun a w => μ (fun i => a.tmps.getD i undef) w
  have hM : ∀ a ρ w, Lk z n a ρ → M a w = μ ρ w := by
    intro a ρ w hl
    have : (fun i => a.tmps.getD i undef) = ρ := funext hl.val
    show μ (fun i => a.tmps.getD i undef) w = μ ρ w
    rw [this]
  refine wpIn_loop (fun a w => ∃ ρ, Lk z n a ρ ∧ ∃ m, I m ρ w) M ⟨ρ, hl, m, h0⟩ ?_
  rintro a w ⟨ρ, hl, hI⟩
  obtain ⟨hs, hle⟩ := Classical.choose_spec (hmin hI)
  have hμ : μ ρ w = Classical.choose (hmin hI) := dif_pos hI
  refine wpIn_mono (sx_W c _ ρ w hd (round _ ρ w hs) a hl) ?_
  rintro e a' w' ⟨ρ', hl', hk⟩
  cases e with
  | normal =>
    obtain ⟨m', hlt, hI'⟩ := hk
    refine ⟨⟨ρ', hl', m', hI'⟩, ?_⟩
    rw [hM a' ρ' w' hl', hM a ρ w hl, hμ]
    have h' : ∃ m, I m ρ' w' := ⟨m', hI'⟩
    have : μ ρ' w' = Classical.choose (hmin h') := dif_pos h'
    rw [this]
    exact Nat.lt_of_le_of_lt ((Classical.choose_spec (hmin h')).2 _ hI') hlt
  | exit id => exact ⟨ρ', hl', hk⟩
  | goto l => exact ⟨ρ', hl', hk⟩
  | ret => exact ⟨ρ', hl', hk⟩
  | panic c => exact ⟨ρ', hl', hk⟩
  | outgrown => exact ⟨ρ', hl', hk⟩
end Go.X
set_option linter.unusedVariables false
set_option linter.unusedSimpArgs false
namespace Go.X
open Go
def HK (P : Program) (S : World → Prop) (s : Sem Next) (K : Value → Prop) : Prop := ∃ v, (∀ w, S w → s.run P w = .ok (.value v) w) ∧ K v
def HG (P : Program) (S : World → Prop) (g : Value) (b : Bool) (s : Sem Next) (K : Value → Prop) : Prop := GuardK g b (HK P S s K) (K undef)
def sxt1 (P : Program) (S : World → Prop) (ops : Array Oper) (o : Oper) (N : Sl → Prop) (ρ : Sl) : Prop :=
  match o with
  | ⟨dst, op, ty, _, _, g⟩ =>
    match g, dst with
    | none, some d => match mvOf op with
      | some x => N (up ρ d (ev ρ x))
      | none => HK P S (exo (ev ρ) op ty) fun v => N (up ρ d v)
    | none, none => HK P S (exo (ev ρ) op ty) fun _ => N ρ
    | some (j, b), some d => HG P S (gv ops ρ j) b (exo (ev ρ) op ty) fun v => N (up ρ d v)
    | some (j, b), none => HG P S (gv ops ρ j) b (exo (ev ρ) op ty) fun _ => N ρ
def sxh (P : Program) (S : World → Prop) (ops : Array Oper) (K : Sl → World → Prop) : List (Nat × Bool) → Sl → World → Prop
  | [], ρ, w => K ρ w
  | (i, t) :: r, ρ, w =>
    match ops[i]? with
    | none => False
    | some o => if t then sxt1 P S ops o (fun ρ => sxh P S ops K r ρ w) ρ else sx1 P ops o (fun ρ w => S w ∧ sxh P S ops K r ρ w) ρ w
def planOk (P : Program) (n : Nat) (ops : Array Oper) : List (Nat × Bool) → Array Bool → Bool
  | [], listed => (Region.ready .any ops listed).isEmpty
  | (i, t) :: r, listed =>
    (match ops[i]? with
     | none => false
     | some o => oOk n o && (if t then Region.free .any ops listed i && (Region.ready .any ops listed).contains i else noRound P o.op && (Region.ready .any ops listed == [i]))) && planOk P n ops r (listed.setIfInBounds i true)
theorem sxt1_eq (P : Program) (S : World → Prop) (ops : Array Oper) (o : Oper) (N : Sl → Prop) (ρ : Sl) (h : sxt1 P S ops o N ρ) :
    match o.guard with
      | none => HK P S (exo (ev ρ) o.op o.type) fun v => N (upo ρ o.dst v)
      | some (j, b) => HG P S (gv ops ρ j) b (exo (ev ρ) o.op o.type) fun v => N (upo ρ o.dst v) := by
  obtain ⟨dst, op, ty, pos, after, guard⟩ := o
  cases guard with
  | none =>
    cases dst with
    | none => exact h
    | some d =>
      cases op <;> first | exact h | exact ⟨_, fun w _ => rfl, h⟩
  | some jb => cases dst <;> exact h
theorem sxt1_yields {P : Program} {z : At} {n : Nat} {S : World → Prop} {ops : Array Oper} {o : Oper} {N : Sl → Prop} {a : Act} {ρ : Sl}
    (hd : ∀ k, o.dst = some k → k < n) (hl : Lk z n a ρ) (h : sxt1 P S ops o N ρ) : ∃ v, YieldsIf P ops S o v a ∧ ∃ ρ', Lk z n (a.put o.dst v) ρ' ∧ N ρ' := by
  have he : a.eval = ev ρ := funext (fun x => hl.ev x)
  have h := sxt1_eq P S ops o N ρ h
  cases hg : o.guard with
  | none =>
    rw [hg] at h
    obtain ⟨v, h1, h2⟩ := h
    refine ⟨v, .inl ⟨by unfold Region.wanted; rw [hg], fun w hw => ?_⟩, _, hl.put _ _ hd, h2⟩
    rw [he, ← exo_eq]
    exact h1 w hw
  | some jb =>
    obtain ⟨j, b⟩ := jb
    rw [hg] at h
    obtain ⟨h1, h2⟩ := h
    have hy := wanted_gv hl ops hg
    by_cases htb : wantB (gv ops ρ j) b = true
    · obtain ⟨v, h3, h4⟩ := h1 htb
      refine ⟨v, .inl ⟨hy.trans htb, fun w hw => ?_⟩, _, hl.put _ _ hd, h4⟩
      rw [he, ← exo_eq]
      exact h3 w hw
    · have htb : wantB (gv ops ρ j) b = false := Bool.eq_false_iff.2 htb
      exact ⟨undef, .inr ⟨hy.trans htb, rfl⟩, _, hl.put _ _ hd, h2 htb⟩
theorem sxh_held {P : Program} {n : Nat} {D : List Deferred} {S : World → Prop} {ops : Array Oper} {K : Sl → World → Prop} {Q : Exit → Act → World → Prop} (hQ : ∀ a ρ w, Lk ⟨none, D⟩ n a ρ → K ρ w → Q .normal a w)
    (hp : ∀ c a w, ¬ Q (.panic c) a w) (hs : Region.noSelect ops = true) : ∀ (l : List (Nat × Bool)) (listed : Array Bool) a ρ w,
    planOk P n ops l listed = true → Lk ⟨none, D⟩ n a ρ → S w → sxh P S ops K l ρ w → wpAnyH P .any ops Q S l.length listed a w
  | [], listed, a, ρ, w, hpl, hl, hS, h => ⟨List.isEmpty_iff.1 hpl, hQ a ρ w hl h⟩
  | (i, t) :: r, listed, a, ρ, w, hpl, hl, hS, h => by
    unfold planOk at hpl
    unfold sxh at h
    cases ho : ops[i]? with
    | none => rw [ho] at h; exact h.elim
    | some o =>
      rw [ho] at h hpl
      dsimp only at h hpl
      cases t with
      | true =>
        simp only [if_true, Bool.and_eq_true] at h hpl
        obtain ⟨⟨h1, h2, h3⟩, h4⟩ := hpl
        obtain ⟨v, hy, ρ', hl', hN⟩ := sxt1_yields (oOk_dst h1) hl h
        exact wpAnyH_take ho hs h2 h3 (fun c a w q => absurd q (hp _ _ _)) hy hS (sxh_held hQ hp hs r _ _ ρ' w h4 hl' hS hN)
      | false =>
        simp only [Bool.false_eq_true, if_false, Bool.and_eq_true, beq_iff_eq] at h hpl
        obtain ⟨⟨h1, h2, h3⟩, h4⟩ := hpl
        refine wpAnyH_all h3 (by simp) fun j hj => ?_
        obtain rfl : j = i := by simpa using hj
        unfold wpOp
        rw [ho]
        exact sx1_wp0 (n := n) h2 (oOk_dst h1) hl h (fun a ρ w hl hq => ⟨hq.1, sxh_held hQ hp hs r _ a ρ w h4 hl hq.1 hq.2⟩)
theorem W_held {P : Program} {n : Nat} {D : List Deferred} {id : Nat} {ops : Array Oper} {K : Exit → Sl → World → Prop} {ρ : Sl} {w : World} (S : World → Prop) (plan : List (Nat × Bool)) (hlen : plan.length = ops.size)
    (hs : Region.noSelect ops = true) (hpl : planOk P n ops plan (Array.replicate ops.size false) = true) (hm : P.follows .mixedOrders = true) (hS : S { w with drawn := w.drawn + 1 })
    (h : sxh P S ops (K .normal) plan ρ { w with drawn := w.drawn + 1 }) : W ⟨none, D⟩ P n (.region id ops true) K ρ w := by
  intro a hl
  refine wpIn_wide.2 (Code.wp_mono ?_ (wp_region_held (S := S) (Q := fun e a w => e = .normal ∧ ∃ ρ, Lk ⟨none, D⟩ n a ρ ∧ K .normal ρ w) hm ?_))
  · rintro e a w ⟨rfl, ρ, hl, hk⟩
    exact ⟨ρ, hl, hk⟩
  · have := sxh_held (Q := fun e a w => e = .normal ∧ ∃ ρ, Lk ⟨none, D⟩ n a ρ ∧ K .normal ρ w) (fun a ρ w hl hk => ⟨rfl, ρ, hl, hk⟩) (fun c a w q => by cases q.1) hs plan _ a ρ _ hpl hl hS h
    rw [hlen] at this
    exact this
section
variable {P : Program} {S : World → Prop} {K : Value → Prop}
theorem HV_of {s : Sem Value} {v : Value} (h : ∀ w, S w → s.run P w = .ok v w) (hk : K v) : HK P S (do pure (Next.value (← s))) K := by
  refine ⟨v, fun w hw => ?_, hk⟩
  simp only [Sem.run_bind, h w hw, Result.andThen_ok]
  rfl
theorem HN_ptr {a : Addr} (hk : K (.pointer (some a))) : HK P S (nilCk (.pointer (some a))) K := ⟨_, fun _ _ => rfl, hk⟩
theorem HB_of {op : BinOp} {t : TypeId} {x y : Operand} {a b v : Value} (hg : ∀ w, (eqGuard op t x y a b).run P w = .ok () w) (h : ∀ w, (binOp op t a b).run P w = .ok v w) (hk : K v) : HK P S (do pure (Next.value (← (do eqGuard op t x y a b; binOp op t a b)))) K := by
  refine HV_of (fun w _ => ?_) hk
  simp only [Sem.run_bind, hg, h, Result.andThen_ok]
theorem HI_len {t e ty : TypeId} (h : P.underlying t = some (.slice e)) (cs : Array Bool) (A : Option Addr) (n c : Nat) (hk : K (.int .i64 n)) : HK P S (builtin .len #[t] ty cs [Value.slice A n c].toArray) K := by
  refine ⟨_, fun w _ => ?_, hk⟩
  have h' : P.underlying t = some (.slice (P.elem t)) := by simp [Program.elem, h]
  simp [builtin, run_len_slice w t ty A n c h', goInt]
end
end Go.X
set_option linter.unusedVariables false
set_option linter.unusedSimpArgs false
namespace Go.X
open Go
inductive Pd where
  | done
  | take (i : Nat) (r : Pd)
  | only (d : Bool) (i : Nat) (r : Pd)
  | two (d e : Bool) (i j : Nat) (a b : Pd)
def Pd.len : Pd → Nat
  | .done => 0
  | .take _ r => r.len + 1
  | .only _ _ r => r.len + 1
  | .two _ _ _ _ a _ => a.len + 1
def FnL (P : Program) (v : Value) : Prop := ∃ f fn a b, v = .func (.func f) a b ∧ P.funcs[f]? = some fn ∧ fn.body.isNone = false ∧ (fn.name == "runtime.NumGoroutine") = false
def fnOf : Op → Option Operand
  | .call { callee := .value g, .. } => some g
  | _ => none
def stepD (P : Program) (ops : Array Oper) (o : Oper) (N : Sl → World → Prop) (ρ : Sl) (w : World) : Bool → Prop
  | false => sx1 P ops o N ρ w
  | true => (match fnOf o.op with | none => False | some g => FnL P (ev ρ g)) ∧ sx1 P ops o N ρ w
theorem dyn_run {P : Program} {w w' : World} {ρ : Operand → Value} {o : Oper} {g : Operand} {l : Nat} {f : FuncId} {t : Array Value} {x y : Code} (hg : fnOf o.op = some g) (h : FnL P (ρ g)) : (execOp ρ o).run P w ≠ .ok (.round l f t x y) w' := by
  obtain ⟨dst, op, ty, pos, after, guard⟩ := o
  cases op with
  | call c =>
    obtain ⟨callee, args, argTypes⟩ := c
    cases callee with
    | value g' =>
      cases hg
      obtain ⟨k, fn, a, b, hf, hk, h1, h2⟩ := h
      have hb' : fn.body ≠ none := by intro q; rw [q] at h1; cases h1
      have hn' : fn.name ≠ "runtime.NumGoroutine" := by intro q; rw [q] at h2; simp at h2
      have hc : (callFunc k (a ++ args.map ρ ++ b)).run P w = .ok (.enter k (a ++ args.map ρ ++ b)) w := by
        simp [callFunc, program, Sem.run, hk, hb', hn', Sem.run_bind, pure, bind, Sem.bind]
      intro q
      have he : (execOp ρ { dst := dst, op := .call { callee := .value g, args := args, argTypes := argTypes }, type := ty, pos := pos, after := after, guard := guard }).run P w = .ok (.enter k (a ++ args.map ρ ++ b)) w := by
        simp only [execOp, resolve, hf, Deferred.ofValue, Sem.run_bind, Sem.run_pure, Result.andThen_ok, invoke]
        exact hc
      rw [he] at q
      cases q
    | _ => cases hg
  | _ => cases hg
def sxd (P : Program) (S : World → Prop) (ops : Array Oper) (K : Sl → World → Prop) : Pd → Sl → World → Prop
  | .done, ρ, w => K ρ w
  | .take i r, ρ, w => match ops[i]? with | none => False | some o => sxt1 P S ops o (fun ρ => sxd P S ops K r ρ w) ρ
  | .only d i r, ρ, w => match ops[i]? with | none => False | some o => stepD P ops o (fun ρ w => S w ∧ sxd P S ops K r ρ w) ρ w d
  | .two d e i j a b, ρ, w => (match ops[i]? with | none => False | some o => stepD P ops o (fun ρ w => S w ∧ sxd P S ops K a ρ w) ρ w d) ∧ (match ops[j]? with | none => False | some o => stepD P ops o (fun ρ w => S w ∧ sxd P S ops K b ρ w) ρ w e)
def opOkD (P : Program) (n : Nat) (ops : Array Oper) (d : Bool) (i : Nat) : Bool := match ops[i]? with | none => false | some o => oOk n o && (d || noRound P o.op)
def Pd.ok (P : Program) (n : Nat) (ops : Array Oper) : Pd → Array Bool → Bool
  | .done, listed => (Region.ready .any ops listed).isEmpty
  | .take i r, listed => (match ops[i]? with | none => false | some o => oOk n o && (Region.free .any ops listed i && (Region.ready .any ops listed).contains i)) && Pd.ok P n ops r (listed.setIfInBounds i true)
  | .only d i r, listed => opOkD P n ops d i && (Region.ready .any ops listed == [i]) && Pd.ok P n ops r (listed.setIfInBounds i true)
  | .two d e i j a b, listed => opOkD P n ops d i && opOkD P n ops e j && (Region.ready .any ops listed == [i, j]) && (a.len == b.len) && Pd.ok P n ops a (listed.setIfInBounds i true) && Pd.ok P n ops b (listed.setIfInBounds j true)
theorem opOkD_some {P : Program} {n : Nat} {ops : Array Oper} {d : Bool} {i : Nat} (h : opOkD P n ops d i = true) : ∃ o, ops[i]? = some o ∧ oOk n o = true ∧ (d || noRound P o.op) = true := by
  unfold opOkD at h
  cases ho : ops[i]? with
  | none => rw [ho] at h; cases h
  | some o =>
    rw [ho] at h
    simp only [Bool.and_eq_true] at h
    exact ⟨o, rfl, h.1, h.2⟩
theorem stepD_wp {P : Program} {D : List Deferred} {n : Nat} {ops : Array Oper} {Q : Exit → Act → World → Prop} {o : Oper} {N : Sl → World → Prop} {next : Act → World → Prop} {a : Act} {ρ : Sl} {w : World} {dy : Bool}
    (hr : (dy || noRound P o.op) = true) (hd : ∀ k, o.dst = some k → k < n) (hl : Lk ⟨none, D⟩ n a ρ) (h : stepD P ops o N ρ w dy) (hn : ∀ a ρ w, Lk ⟨none, D⟩ n a ρ → N ρ w → next a w) :
    if Region.wanted o (yielded ops a.tmps) then o.wp P a w next Q ∨ (o.asks P a w ∧ LetsOut Q) else next (a.put o.dst undef) w := by
  cases dy with
  | false => exact sx1_wp0 (n := n) (by simpa using hr) hd hl h hn
  | true =>
    obtain ⟨hg, h⟩ := h
    cases hf : fnOf o.op with
    | none => rw [hf] at hg; exact hg.elim
    | some g =>
      rw [hf] at hg
      have he : a.eval = ev ρ := funext (fun x => hl.ev x)
      rw [sx1_eq] at h
      have key : ∀ (hk : OpK P (exo (ev ρ) o.op o.type) w fun v w' => N (upo ρ o.dst v) w'), o.wp P a w next Q := by
        intro hk
        unfold Oper.wp
        rw [he]
        rw [exo_eq] at hk
        unfold OpK at hk
        unfold Oper.upon
        split at hk
        · rename_i v w' hr; rw [hr]; exact hn _ _ _ (hl.put _ _ hd) hk
        · rename_i w' hr; rw [hr]; exact hn _ _ _ (hl.put _ _ hd) hk
        · rename_i f args w' hr
          rw [hr]
          refine hk.mono ?_
          rintro e w'' ⟨v, rfl, hv⟩
          exact hn _ _ _ (hl.put _ _ hd) hv
        · rename_i l f tmps assign body w' hrun
          exact absurd hrun (dyn_run hf hg)
        · exact hk.elim
      cases hgd : o.guard with
      | none =>
        rw [hgd] at h
        have hw : Region.wanted o (yielded ops a.tmps) = true := by unfold Region.wanted; rw [hgd]
        rw [hw]
        simp only [if_true]
        exact .inl (key h)
      | some jb =>
        obtain ⟨j, b⟩ := jb
        rw [hgd] at h
        obtain ⟨h1, h2⟩ := h
        have hy := wanted_gv hl ops hgd
        by_cases htb : wantB (gv ops ρ j) b = true
        · have hw : Region.wanted o (yielded ops a.tmps) = true := hy.trans htb
          rw [hw]
          simp only [if_true]
          exact .inl (key (h1 htb))
        · have htb : wantB (gv ops ρ j) b = false := Bool.eq_false_iff.2 htb
          have hw : Region.wanted o (yielded ops a.tmps) = false := hy.trans htb
          rw [hw]
          simp only [Bool.false_eq_true, if_false]
          exact hn _ _ _ (hl.put _ _ hd) (h2 htb)
theorem sxd_held {P : Program} {n : Nat} {D : List Deferred} {S : World → Prop} {ops : Array Oper} {K : Sl → World → Prop} {Q : Exit → Act → World → Prop} (hQ : ∀ a ρ w, Lk ⟨none, D⟩ n a ρ → K ρ w → Q .normal a w)
    (hp : ∀ c a w, ¬ Q (.panic c) a w) (hs : Region.noSelect ops = true) : ∀ (l : Pd) (listed : Array Bool) a ρ w,
    l.ok P n ops listed = true → Lk ⟨none, D⟩ n a ρ → S w → sxd P S ops K l ρ w → wpAnyH P .any ops Q S l.len listed a w
  | .done, listed, a, ρ, w, hpl, hl, hS, h => ⟨List.isEmpty_iff.1 hpl, hQ a ρ w hl h⟩
  | .take i r, listed, a, ρ, w, hpl, hl, hS, h => by
    unfold Pd.ok at hpl
    unfold sxd at h
    cases ho : ops[i]? with
    | none => rw [ho] at h; exact h.elim
    | some o =>
      rw [ho] at h hpl
      dsimp only at h hpl
      simp only [Bool.and_eq_true] at hpl
      obtain ⟨⟨h1, h2, h3⟩, h4⟩ := hpl
      obtain ⟨v, hy, ρ', hl', hN⟩ := sxt1_yields (oOk_dst h1) hl h
      exact wpAnyH_take ho hs h2 h3 (fun c a w q => absurd q (hp _ _ _)) hy hS (sxd_held hQ hp hs r _ _ ρ' w h4 hl' hS hN)
  | .only d i r, listed, a, ρ, w, hpl, hl, hS, h => by
    unfold Pd.ok at hpl
    unfold sxd at h
    simp only [Bool.and_eq_true, beq_iff_eq] at hpl
    obtain ⟨⟨h1, h3⟩, h4⟩ := hpl
    obtain ⟨o, ho, g1, g2⟩ := opOkD_some h1
    rw [ho] at h
    dsimp only at h
    refine wpAnyH_all h3 (by simp) fun j hj => ?_
    obtain rfl : j = i := by simpa using hj
    unfold wpOp
    rw [ho]
    exact stepD_wp (n := n) g2 (oOk_dst g1) hl h (fun a ρ w hl hq => ⟨hq.1, sxd_held hQ hp hs r _ a ρ w h4 hl hq.1 hq.2⟩)
  | .two d e i j a b, listed, ac, ρ, w, hpl, hl, hS, h => by
    unfold Pd.ok at hpl
    unfold sxd at h
    simp only [Bool.and_eq_true, beq_iff_eq] at hpl
    obtain ⟨⟨⟨⟨⟨h1, h2⟩, h3⟩, h4⟩, h5⟩, h6⟩ := hpl
    obtain ⟨o, ho, g1, g1'⟩ := opOkD_some h1
    obtain ⟨o', ho', g2, g2'⟩ := opOkD_some h2
    rw [ho, ho'] at h
    dsimp only at h
    refine wpAnyH_all h3 (by simp) fun k hk => ?_
    rcases List.mem_cons.1 hk with rfl | hk
    · unfold wpOp
      rw [ho]
      exact stepD_wp (n := n) g1' (oOk_dst g1) hl h.1 (fun a' ρ w hl hq => ⟨hq.1, sxd_held hQ hp hs a _ a' ρ w h5 hl hq.1 hq.2⟩)
    · obtain rfl : k = j := by simpa using hk
      unfold wpOp
      rw [ho']
      have h4' : a.len = b.len := by simpa using h4
      rw [h4']
      exact stepD_wp (n := n) g2' (oOk_dst g2) hl h.2 (fun a' ρ w hl hq => ⟨hq.1, sxd_held hQ hp hs b _ a' ρ w h6 hl hq.1 hq.2⟩)
theorem W_pland {P : Program} {n : Nat} {D : List Deferred} {id : Nat} {ops : Array Oper} {K : Exit → Sl → World → Prop} {ρ : Sl} {w : World} (S : World → Prop) (plan : Pd) (hlen : plan.len = ops.size)
    (hs : Region.noSelect ops = true) (hpl : plan.ok P n ops (Array.replicate ops.size false) = true) (hm : P.follows .mixedOrders = true) (hS : S { w with drawn := w.drawn + 1 })
    (h : sxd P S ops (K .normal) plan ρ { w with drawn := w.drawn + 1 }) : W ⟨none, D⟩ P n (.region id ops true) K ρ w := by
  intro a hl
  refine wpIn_wide.2 (Code.wp_mono ?_ (wp_region_held (S := S) (Q := fun e a w => e = .normal ∧ ∃ ρ, Lk ⟨none, D⟩ n a ρ ∧ K .normal ρ w) hm ?_))
  · rintro e a w ⟨rfl, ρ, hl, hk⟩
    exact ⟨ρ, hl, hk⟩
  · have := sxd_held (Q := fun e a w => e = .normal ∧ ∃ ρ, Lk ⟨none, D⟩ n a ρ ∧ K .normal ρ w) (fun a ρ w hl hk => ⟨rfl, ρ, hl, hk⟩) (fun c a w q => by cases q.1) hs plan _ a ρ _ hpl hl hS h
    rw [hlen] at this
    exact this
end Go.X
set_option linter.unusedVariables false
namespace Go.X
open Go
theorem sxh_append (P : Program) (S : World → Prop) (ops : Array Oper) (K : Sl → World → Prop) : ∀ (l r : List (Nat × Bool)), sxh P S ops K (l ++ r) = sxh P S ops (sxh P S ops K r) l
  | [], r => by funext ρ w; rfl
  | (i, t) :: l, r => by
    funext ρ w
    show sxh P S ops K ((i, t) :: (l ++ r)) ρ w = _
    unfold sxh
    rw [sxh_append P S ops K l r]
end Go.X
set_option linter.unusedVariables false
set_option maxRecDepth 100000
namespace Go.Proofs.YtandbmnhghmcgaaDoor.XF
open Go Go.X
noncomputable def coll_New_b : Code := (Tryd.f11.body).getD .skip
noncomputable def coll_New_F (a0 : Value) (w : World) (R : Value → World → Prop) : Prop :=
  VK Tryd.prog (Instr.makeMap 70 none) w fun x4 w => VK Tryd.prog (Instr.build 72 [(0, a0), (1, x4)].toArray) w fun x5 w => VK Tryd.prog (Instr.box 72 x5) w fun x6 w => R x6 w
theorem coll_New_eq (a0 : Value) (w : World) (R : Value → World → Prop) : sx fn_ Tryd.prog 7 coll_New_b (retK Tryd.prog Tryd.f11.results.toList R) (rho0 [a0]) w = coll_New_F a0 w R := by kernel_rfl
theorem coll_New_calls {a0 : Value} {w : World} {R : Value → World → Prop} (h : coll_New_F a0 w R) : Calls Tryd.prog 11 #[a0] w fun e w' => ∃ v, e = .returned v ∧ R v w' :=
  Go.X.calls_of_sx (n := 7) (c := coll_New_b) Tryd.func11 (by kernel_rfl) (by kernel_rfl) (Nat.le_of_ble_eq_true rfl) (by kernel_rfl) (Eq.mpr (coll_New_eq a0 w R) h)
noncomputable def coll_Coll_Copy_b : Code := (Tryd.f15.body).getD .skip
noncomputable def coll_Coll_Copy_L0 : Code := cAt [1, 1, 1, 1, 0, 1, 0, 0] coll_Coll_Copy_b
noncomputable def coll_Coll_Copy_R1 : Code := cAt [1, 1, 1, 1, 1] coll_Coll_Copy_b
noncomputable def coll_Coll_Copy_R2 : Code := cAt [1, 1, 1, 1, 0, 1, 0, 0, 1, 1, 0, 1, 0] coll_Coll_Copy_b
noncomputable def coll_Coll_Copy_R3 : Code := cAt [1, 1, 1, 1, 0, 1, 0, 0, 1, 1, 0, 1, 1] coll_Coll_Copy_b
noncomputable def coll_Coll_Copy_L4 : Code := cAt [1, 1, 1, 1, 0, 1, 0, 0, 1, 1, 0, 1, 1, 0, 1, 0, 0] coll_Coll_Copy_b
noncomputable def coll_Coll_Copy_R5 : Code := cAt [1, 1, 1, 1, 0, 1, 0, 0, 1, 1, 0, 1, 1, 1] coll_Coll_Copy_b
noncomputable def coll_Coll_Copy_R6 : Code := cAt [1, 1, 1, 1, 0, 1, 0, 0, 1, 1, 0, 1, 1, 0, 1, 0, 0, 1, 1, 0, 0, 1] coll_Coll_Copy_b
noncomputable def coll_Coll_Copy_R7 : Code := cAt [1, 1, 1, 1, 0, 1, 0, 0, 1, 1, 0, 1, 1, 0, 1, 0, 0, 1, 1, 1] coll_Coll_Copy_b
noncomputable def coll_Coll_Copy_L0_F (z : At) (K : Exit → Sl → World → Prop) (ρ : Sl) (w : World) : Prop :=
  VK Tryd.prog (Instr.next (ρ 24) false 0) w fun x25 w => VK Tryd.prog (Instr.extract x25 0) w fun x26 w => CondK x26 (VK Tryd.prog (Instr.entry (ρ 24)) w fun x27 w => VK Tryd.prog (Instr.extract x27 0) w fun x28 w => VK Tryd.prog (Instr.extract x27 1) w fun x29 w => W z Tryd.prog 68 coll_Coll_Copy_R2 (seqK (sx z Tryd.prog 68 coll_Coll_Copy_R3 (blkK 1 K)) (blkK 1 K)) (up (up (up (up (up (up (up ρ 25 x25) 26 x26) 27 x27) 28 x28) 29 x29) 4 x28) 5 x29) w) (K (.exit 0) (up (up ρ 25 x25) 26 x26) w)
theorem coll_Coll_Copy_L0_eq (z : At) (K : Exit → Sl → World → Prop) (ρ : Sl) (w : World) : sx z Tryd.prog 68 coll_Coll_Copy_L0 K ρ w = coll_Coll_Copy_L0_F z K ρ w := by kernel_rfl
theorem coll_Coll_Copy_L0_ok : dstOk 68 coll_Coll_Copy_L0 = true := by kernel_rfl
noncomputable def coll_Coll_Copy_R1_F (z : At) (K : Exit → Sl → World → Prop) (ρ : Sl) (w : World) : Prop :=
  K .ret (up (up ρ 67 (ρ 3)) 2 (ρ 3)) w
theorem coll_Coll_Copy_R1_eq (z : At) (K : Exit → Sl → World → Prop) (ρ : Sl) (w : World) : sx z Tryd.prog 68 coll_Coll_Copy_R1 K ρ w = coll_Coll_Copy_R1_F z K ρ w := by kernel_rfl
noncomputable def coll_Coll_Copy_R2_ops : Array Oper := opsOf coll_Coll_Copy_R2
def coll_Coll_Copy_R2_H0 (S : World → Prop) (K : Sl → World → Prop) (ρ : Sl) (w : World) : Prop :=
  HK Tryd.prog S (nilCk (ρ 5)) fun x31 => HK Tryd.prog S (do pure (Next.value (← Instr.fieldAt 82 x31 0))) fun x32 => HK Tryd.prog S (do pure (Next.value (← Instr.loadAt 32 x32))) fun x33 => HK Tryd.prog S (nilCk (ρ 5)) fun x35 => HK Tryd.prog S (do pure (Next.value (← Instr.fieldAt 82 x35 1))) fun x36 => HK Tryd.prog S (do pure (Next.value (← Instr.loadAt 80 x36))) fun x37 => HK Tryd.prog S (builtin Builtin.len #[80] 3 [false].toArray [x37].toArray) fun x38 => VK Tryd.prog (Instr.makeSlice 80 x38 x38) w fun x39 w => S w ∧ (HK Tryd.prog S (do pure (Next.value (← Instr.build 82 [(0, x33), (1, x39)].toArray))) fun x40 => VK Tryd.prog (Instr.box 82 x40) w fun x41 w => S w ∧ (K (up (up (up (up (up (up (up (up (up (up (up (up ρ 30 (ρ 5)) 31 x31) 32 x32) 33 x33) 34 (ρ 5)) 35 x35) 36 x36) 37 x37) 38 x38) 39 x39) 40 x40) 41 x41) w))
theorem coll_Coll_Copy_R2_q0 (S : World → Prop) (K : Sl → World → Prop) : sxh Tryd.prog S coll_Coll_Copy_R2_ops K [(0, true), (1, true), (2, true), (3, true), (4, true), (5, true), (6, true), (7, true), (8, true), (9, false), (10, true), (11, false)] = coll_Coll_Copy_R2_H0 S K := by kernel_rfl
def coll_Coll_Copy_R2_H1 (S : World → Prop) (K : Sl → World → Prop) (ρ : Sl) (w : World) : Prop :=
  K (up ρ 6 (ρ 41)) w
theorem coll_Coll_Copy_R2_q1 (S : World → Prop) (K : Sl → World → Prop) : sxh Tryd.prog S coll_Coll_Copy_R2_ops K [(12, true)] = coll_Coll_Copy_R2_H1 S K := by kernel_rfl
def coll_Coll_Copy_R2_H (S : World → Prop) (K : Exit → Sl → World → Prop) (ρ : Sl) (w : World) : Prop :=
  coll_Coll_Copy_R2_H0 S (coll_Coll_Copy_R2_H1 S (K .normal)) ρ w
theorem coll_Coll_Copy_R2_steps : planOk Tryd.prog 68 coll_Coll_Copy_R2_ops [(0, true), (1, true), (2, true), (3, true), (4, true), (5, true), (6, true), (7, true), (8, true), (9, false), (10, true), (11, false), (12, true)] (Array.replicate coll_Coll_Copy_R2_ops.size false) = true :=
  by kernel_rfl
theorem coll_Coll_Copy_R2_held {D : List Deferred} (S : World → Prop) {K : Exit → Sl → World → Prop} {ρ : Sl} {w : World} (hS : S { w with drawn := w.drawn + 1 }) (h : coll_Coll_Copy_R2_H S K ρ { w with drawn := w.drawn + 1 }) : W ⟨none, D⟩ Tryd.prog 68 coll_Coll_Copy_R2 K ρ w := by
  have e : coll_Coll_Copy_R2 = .region (idOf coll_Coll_Copy_R2) coll_Coll_Copy_R2_ops true := by kernel_rfl
  have q : sxh Tryd.prog S coll_Coll_Copy_R2_ops (K .normal) [(0, true), (1, true), (2, true), (3, true), (4, true), (5, true), (6, true), (7, true), (8, true), (9, false), (10, true), (11, false), (12, true)] ρ { w with drawn := w.drawn + 1 } = coll_Coll_Copy_R2_H S K ρ { w with drawn := w.drawn + 1 } := by
    show sxh Tryd.prog S coll_Coll_Copy_R2_ops (K .normal) ([(0, true), (1, true), (2, true), (3, true), (4, true), (5, true), (6, true), (7, true), (8, true), (9, false), (10, true), (11, false)] ++ [(12, true)]) ρ { w with drawn := w.drawn + 1 } = _
    rw [sxh_append, coll_Coll_Copy_R2_q1, coll_Coll_Copy_R2_q0]; rfl
  rw [e]
  exact W_held S [(0, true), (1, true), (2, true), (3, true), (4, true), (5, true), (6, true), (7, true), (8, true), (9, false), (10, true), (11, false), (12, true)] (by kernel_rfl) (by kernel_rfl) coll_Coll_Copy_R2_steps (by kernel_rfl) hS (Eq.mpr q h)
noncomputable def coll_Coll_Copy_R3_F (z : At) (K : Exit → Sl → World → Prop) (ρ : Sl) (w : World) : Prop :=
  NK Tryd.prog (ρ 5) w fun x43 w => VK Tryd.prog (Instr.fieldAt 82 x43 1) w fun x44 w => VK Tryd.prog (Instr.loadAt 80 x44) w fun x45 w => IK Tryd.prog .len #[80] 3 [false] [x45] w fun x46 w => W z Tryd.prog 68 (Code.loop coll_Coll_Copy_L4) (blkK 2 (seqK (sx z Tryd.prog 68 coll_Coll_Copy_R5 K) K)) (up (up (up (up (up (up ρ 42 (ρ 5)) 43 x43) 44 x44) 45 x45) 46 x46) 47 (Value.int .i64 0)) w
theorem coll_Coll_Copy_R3_eq (z : At) (K : Exit → Sl → World → Prop) (ρ : Sl) (w : World) : sx z Tryd.prog 68 coll_Coll_Copy_R3 K ρ w = coll_Coll_Copy_R3_F z K ρ w := by kernel_rfl
noncomputable def coll_Coll_Copy_L4_F (z : At) (K : Exit → Sl → World → Prop) (ρ : Sl) (w : World) : Prop :=
  BK Tryd.prog .lss 3 (.tmp 47) (.tmp 46) (ρ 47) (ρ 46) w fun x48 w => CondK x48 (VK Tryd.prog (Instr.indexAt 80 (ρ 45) (ρ 47)) w fun x50 w => VK Tryd.prog (Instr.loadAt 61 x50) w fun x51 w => W z Tryd.prog 68 coll_Coll_Copy_R6 (blkK 3 (seqK (sx z Tryd.prog 68 coll_Coll_Copy_R7 K) K)) (up (up (up (up (up (up ρ 48 x48) 49 (ρ 47)) 50 x50) 51 x51) 7 (ρ 47)) 8 x51) w) (K (.exit 2) (up ρ 48 x48) w)
theorem coll_Coll_Copy_L4_eq (z : At) (K : Exit → Sl → World → Prop) (ρ : Sl) (w : World) : sx z Tryd.prog 68 coll_Coll_Copy_L4 K ρ w = coll_Coll_Copy_L4_F z K ρ w := by kernel_rfl
theorem coll_Coll_Copy_L4_ok : dstOk 68 coll_Coll_Copy_L4 = true := by kernel_rfl
noncomputable def coll_Coll_Copy_R5_F (z : At) (K : Exit → Sl → World → Prop) (ρ : Sl) (w : World) : Prop :=
  NK Tryd.prog (ρ 3) w fun x62 w => VK Tryd.prog (Instr.fieldAt 72 x62 1) w fun x63 w => VK Tryd.prog (Instr.loadAt 70 x63) w fun x64 w => UK Tryd.prog (Instr.mapUpdate 70 x64 (ρ 4) (ρ 6)) w fun _ w => K .normal (up (up (up (up (up (up ρ 61 (ρ 3)) 62 x62) 63 x63) 64 x64) 65 (ρ 4)) 66 (ρ 6)) w
theorem coll_Coll_Copy_R5_eq (z : At) (K : Exit → Sl → World → Prop) (ρ : Sl) (w : World) : sx z Tryd.prog 68 coll_Coll_Copy_R5 K ρ w = coll_Coll_Copy_R5_F z K ρ w := by kernel_rfl
noncomputable def coll_Coll_Copy_R6_ops : Array Oper := opsOf coll_Coll_Copy_R6
def coll_Coll_Copy_R6_H (S : World → Prop) (K : Exit → Sl → World → Prop) (ρ : Sl) (w : World) : Prop :=
  HK Tryd.prog S (nilCk (ρ 6)) fun x53_1 => HK Tryd.prog S (do pure (Next.value (← Instr.fieldAt 82 x53_1 1))) fun x54_1 => HK Tryd.prog S (do pure (Next.value (← Instr.loadAt 80 x54_1))) fun x55_1 => CK Tryd.prog (Value.func (Fn.func 46) #[] #[]) [(ρ 8)] w fun x58_1 w => S w ∧ (HK Tryd.prog S (do pure (Next.value (← Instr.indexAt 80 x55_1 (ρ 7)))) fun x59_1 => UK Tryd.prog (Instr.storeAt 61 x59_1 x58_1) w fun _ w => S w ∧ (K Exit.normal (up (up (up (up (up (up (up (up ρ 52 (ρ 6)) 53 x53_1) 54 x54_1) 55 x55_1) 56 (ρ 7)) 57 (ρ 8)) 58 x58_1) 59 x59_1) w))
theorem coll_Coll_Copy_R6_held {D : List Deferred} (S : World → Prop) {K : Exit → Sl → World → Prop} {ρ : Sl} {w : World} (hS : S { w with drawn := w.drawn + 1 }) (h : coll_Coll_Copy_R6_H S K ρ { w with drawn := w.drawn + 1 }) : W ⟨none, D⟩ Tryd.prog 68 coll_Coll_Copy_R6 K ρ w := by
  have e : coll_Coll_Copy_R6 = .region (idOf coll_Coll_Copy_R6) coll_Coll_Copy_R6_ops true := by kernel_rfl
  have q : sxh Tryd.prog S coll_Coll_Copy_R6_ops (K .normal) [(0, true), (1, true), (2, true), (3, true), (4, true), (5, true), (6, false), (7, true), (8, false)] ρ { w with drawn := w.drawn + 1 } = coll_Coll_Copy_R6_H S K ρ { w with drawn := w.drawn + 1 } := by kernel_rfl
  rw [e]
  exact W_held S [(0, true), (1, true), (2, true), (3, true), (4, true), (5, true), (6, false), (7, true), (8, false)] (by kernel_rfl) (by kernel_rfl) (by kernel_rfl) (by kernel_rfl) hS (Eq.mpr q h)
noncomputable def coll_Coll_Copy_R7_F (z : At) (K : Exit → Sl → World → Prop) (ρ : Sl) (w : World) : Prop :=
  BK Tryd.prog .add 3 (.tmp 47) (.const (Value.int .i64 1)) (ρ 47) (Value.int .i64 1) w fun x60 w => K .normal (up (up ρ 60 x60) 47 x60) w
theorem coll_Coll_Copy_R7_eq (z : At) (K : Exit → Sl → World → Prop) (ρ : Sl) (w : World) : sx z Tryd.prog 68 coll_Coll_Copy_R7 K ρ w = coll_Coll_Copy_R7_F z K ρ w := by kernel_rfl
noncomputable def coll_Coll_Copy_F (a0 : Value) (w : World) (R : Value → World → Prop) : Prop :=
  BK Tryd.prog .eql 24 (.tmp 9) (.const (Value.pointer none)) a0 (Value.pointer none) w fun x10 w => CondK x10 (R (Value.pointer none) w) (CK Tryd.prog (Value.func (Fn.func 34) #[] #[]) [a0] w fun x12 w => CondK x12 (VK Tryd.prog (Instr.build 72 [].toArray) w fun x13 w => VK Tryd.prog (Instr.box 72 x13) w fun x14 w => R x14 w) (NK Tryd.prog a0 w fun x16 w => VK Tryd.prog (Instr.fieldAt 72 x16 0) w fun x17 w => VK Tryd.prog (Instr.loadAt 4 x17) w fun x18 w => CK Tryd.prog (Value.func (Fn.func 11) #[] #[]) [x18] w fun x19 w => NK Tryd.prog a0 w fun x21 w => VK Tryd.prog (Instr.fieldAt 72 x21 1) w fun x22 w => VK Tryd.prog (Instr.loadAt 70 x22) w fun x23 w => VK Tryd.prog (Instr.range 70 x23) w fun x24 w => W fn_ Tryd.prog 68 (Code.loop coll_Coll_Copy_L0) (blkK 0 (seqK (sx fn_ Tryd.prog 68 coll_Coll_Copy_R1 (retK Tryd.prog [ResultVar.tmp 2] R)) (retK Tryd.prog [ResultVar.tmp 2] R))) (up (up (up (up (up (up (up (up (up (up (up (up (up (up (up (up (rho0 [a0]) 2 (Value.pointer none)) 9 a0) 10 x10) 11 a0) 12 x12) 15 a0) 16 x16) 17 x17) 18 x18) 19 x19) 3 x19) 20 a0) 21 x21) 22 x22) 23 x23) 24 x24) w))
theorem coll_Coll_Copy_eq (a0 : Value) (w : World) (R : Value → World → Prop) : sx fn_ Tryd.prog 68 coll_Coll_Copy_b (retK Tryd.prog Tryd.f15.results.toList R) (rho0 [a0]) w = coll_Coll_Copy_F a0 w R := by kernel_rfl
theorem coll_Coll_Copy_calls {a0 : Value} {w : World} {R : Value → World → Prop} (h : coll_Coll_Copy_F a0 w R) : Calls Tryd.prog 15 #[a0] w fun e w' => ∃ v, e = .returned v ∧ R v w' :=
  Go.X.calls_of_sx (n := 68) (c := coll_Coll_Copy_b) Tryd.func15 (by kernel_rfl) (by kernel_rfl) (Nat.le_of_ble_eq_true rfl) (by kernel_rfl) (Eq.mpr (coll_Coll_Copy_eq a0 w R) h)
noncomputable def coll_Coll_Many_b : Code := (Tryd.f17.body).getD .skip
noncomputable def coll_Coll_Many_F (a0 a1 a2 : Value) (w : World) (R : Value → World → Prop) : Prop :=
  CK Tryd.prog (Value.func (Fn.func 47) #[] #[]) [a0, a1, a2] w fun x14 w => VK Tryd.prog (Instr.extract x14 0) w fun x15 w => VK Tryd.prog (Instr.extract x14 1) w fun x16 w => VK Tryd.prog (Instr.extract x14 2) w fun x17 w => VK Tryd.prog (Op.unary UnOp.not x17) w fun x19 w => CondK x19 (R (Value.int .i64 0) w) (NK Tryd.prog x15 w fun x21 w => VK Tryd.prog (Instr.fieldAt 82 x21 1) w fun x22 w => VK Tryd.prog (Instr.loadAt 80 x22) w fun x23 w => VK Tryd.prog (Instr.indexAt 80 x23 x16) w fun x25 w => VK Tryd.prog (Instr.loadAt 61 x25) w fun x26 w => IK Tryd.prog .len #[61] 3 [false] [x26] w fun x27 w => R x27 w)
theorem coll_Coll_Many_eq (a0 a1 a2 : Value) (w : World) (R : Value → World → Prop) : sx fn_ Tryd.prog 28 coll_Coll_Many_b (retK Tryd.prog Tryd.f17.results.toList R) (rho0 [a0, a1, a2]) w = coll_Coll_Many_F a0 a1 a2 w R := by kernel_rfl
theorem coll_Coll_Many_calls {a0 a1 a2 : Value} {w : World} {R : Value → World → Prop} (h : coll_Coll_Many_F a0 a1 a2 w R) : Calls Tryd.prog 17 #[a0, a1, a2] w fun e w' => ∃ v, e = .returned v ∧ R v w' :=
  Go.X.calls_of_sx (n := 28) (c := coll_Coll_Many_b) Tryd.func17 (by kernel_rfl) (by kernel_rfl) (Nat.le_of_ble_eq_true rfl) (by kernel_rfl) (Eq.mpr (coll_Coll_Many_eq a0 a1 a2 w R) h)
noncomputable def coll_May_b : Code := (Tryd.f19.body).getD .skip
noncomputable def coll_May_R0 : Code := cAt [1, 0, 0, 1, 1, 1] coll_May_b
noncomputable def coll_May_R1 : Code := cAt [1, 1] coll_May_b
noncomputable def coll_May_R0_F (z : At) (K : Exit → Sl → World → Prop) (ρ : Sl) (w : World) : Prop :=
  CondK (ρ 14) (K .ret (up ρ 4 (Value.bool false)) w) (K .normal ρ w)
theorem coll_May_R0_eq (z : At) (K : Exit → Sl → World → Prop) (ρ : Sl) (w : World) : sx z Tryd.prog 50 coll_May_R0 K ρ w = coll_May_R0_F z K ρ w := by kernel_rfl
noncomputable def coll_May_R1_F (z : At) (K : Exit → Sl → World → Prop) (ρ : Sl) (w : World) : Prop :=
  VK Tryd.prog (Instr.fieldAt 34 (ρ 3) 2) w fun x37 w => VK Tryd.prog (Instr.loadAt 5 x37) w fun x38 w => BK Tryd.prog .leq 5 (.tmp 38) (.const (Value.int .u8 2)) x38 (Value.int .u8 2) w fun x39 w => VG Tryd.prog x39 true (Instr.fieldAt 34 (ρ 3) 2) w fun x41 w => VG Tryd.prog x39 true (Instr.loadAt 5 x41) w fun x42 w => BG Tryd.prog x39 true .eql 5 (.tmp 42) (.const (Value.int .u8 0)) x42 (Value.int .u8 0) w fun x43 w => MG Tryd.prog x39 true x43 w fun x44 w => VG Tryd.prog x44 false (Instr.fieldAt 34 (ρ 3) 0) w fun x45 w => VG Tryd.prog x44 false (Instr.loadAt 5 x45) w fun x46 w => CG Tryd.prog x44 false (Value.func (Fn.func 49) #[] #[]) [x46] w fun x47 w => PG Tryd.prog x39 true x44 (Value.bool true) x47 w fun x48 w => PK Tryd.prog x39 x48 (Value.bool false) w fun x49 w => K .ret (up (up (up (up (up (up (up (up (up (up (up (up (up (up ρ 37 x37) 38 x38) 39 x39) 40 x39) 41 x41) 42 x42) 43 x43) 44 x44) 45 x45) 46 x46) 47 x47) 48 x48) 49 x49) 4 x49) w
theorem coll_May_R1_eq (z : At) (K : Exit → Sl → World → Prop) (ρ : Sl) (w : World) : sx z Tryd.prog 50 coll_May_R1 K ρ w = coll_May_R1_F z K ρ w := by kernel_rfl
noncomputable def coll_May_F (a0 a1 : Value) (w : World) (R : Value → World → Prop) : Prop :=
  VK Tryd.prog (Instr.box 32 a0) w fun x2 w => VK Tryd.prog (Instr.box 34 a1) w fun x3 w => VK Tryd.prog (Instr.fieldAt 34 x3 0) w fun x6 w => VK Tryd.prog (Instr.loadAt 5 x6) w fun x7 w => BK Tryd.prog .lss 5 (.tmp 7) (.const (Value.int .u8 15)) x7 (Value.int .u8 15) w fun x8 w => VG Tryd.prog x8 false (Instr.fieldAt 34 x3 0) w fun x10 w => VG Tryd.prog x8 false (Instr.loadAt 5 x10) w fun x11 w => BG Tryd.prog x8 false .gtr 5 (.tmp 11) (.const (Value.int .u8 21)) x11 (Value.int .u8 21) w fun x12 w => PK Tryd.prog x8 (Value.bool true) x12 w fun x13 w => CondK x13 (R (Value.bool false) w) (VK Tryd.prog (Instr.fieldAt 34 x3 1) w fun x15 w => VK Tryd.prog (Instr.loadAt 3 x15) w fun x16 w => BK Tryd.prog .lss 3 (.tmp 16) (.const (Value.int .i64 0)) x16 (Value.int .i64 0) w fun x17 w => VG Tryd.prog x17 false (Instr.fieldAt 34 x3 1) w fun x19 w => VG Tryd.prog x17 false (Instr.loadAt 3 x19) w fun x20 w => VG Tryd.prog x17 false (Instr.fieldAt 32 x2 1) w fun x21 w => VG Tryd.prog x17 false (Instr.loadAt 30 x21) w fun x22 w => IG Tryd.prog x17 false .len #[30] 3 [false] [x22] w fun x23 w => BG Tryd.prog x17 false .geq 3 (.tmp 20) (.tmp 23) x20 x23 w fun x24 w => PK Tryd.prog x17 (Value.bool true) x24 w fun x25 w => VG Tryd.prog x25 false (Instr.fieldAt 34 x3 1) w fun x27 w => VG Tryd.prog x25 false (Instr.loadAt 3 x27) w fun x28 w => BG Tryd.prog x25 false .gtr 3 (.tmp 28) (.const (Value.int .i64 0)) x28 (Value.int .i64 0) w fun x29 w => MG Tryd.prog x25 false x29 w fun x30 w => VG Tryd.prog x30 true (Instr.fieldAt 34 x3 0) w fun x31 w => VG Tryd.prog x30 true (Instr.loadAt 5 x31) w fun x32 w => CG Tryd.prog x30 true (Value.func (Fn.func 48) #[] #[]) [x32] w fun x33 w => VG Tryd.prog x30 true (Op.unary UnOp.not x33) w fun x34 w => PG Tryd.prog x25 false x30 x34 (Value.bool false) w fun x35 w => PK Tryd.prog x25 (Value.bool true) x35 w fun x36 w => sx fn_ Tryd.prog 50 coll_May_R0 (blkK 0 (seqK (sx fn_ Tryd.prog 50 coll_May_R1 (retK Tryd.prog [ResultVar.tmp 4] R)) (retK Tryd.prog [ResultVar.tmp 4] R))) (up (up (up (up (up (up (up (up (up (up (up (up (up (up (up (up (up (up (up (up (up (up (up (up (up (up (up (up (up (up (up (up (up (up (up (rho0 [a0, a1]) 2 x2) 3 x3) 4 (Value.bool false)) 6 x6) 7 x7) 8 x8) 9 x8) 10 x10) 11 x11) 12 x12) 13 x13) 5 x13) 15 x15) 16 x16) 17 x17) 18 x17) 19 x19) 20 x20) 21 x21) 22 x22) 23 x23) 24 x24) 25 x25) 26 x25) 27 x27) 28 x28) 29 x29) 30 x30) 31 x31) 32 x32) 33 x33) 34 x34) 35 x35) 36 x36) 14 x36) w)
theorem coll_May_eq (a0 a1 : Value) (w : World) (R : Value → World → Prop) : sx fn_ Tryd.prog 50 coll_May_b (retK Tryd.prog Tryd.f19.results.toList R) (rho0 [a0, a1]) w = coll_May_F a0 a1 w R := by kernel_rfl
theorem coll_May_calls {a0 a1 : Value} {w : World} {R : Value → World → Prop} (h : coll_May_F a0 a1 w R) : Calls Tryd.prog 19 #[a0, a1] w fun e w' => ∃ v, e = .returned v ∧ R v w' :=
  Go.X.calls_of_sx (n := 50) (c := coll_May_b) Tryd.func19 (by kernel_rfl) (by kernel_rfl) (Nat.le_of_ble_eq_true rfl) (by kernel_rfl) (Eq.mpr (coll_May_eq a0 a1 w R) h)
noncomputable def coll_Fit_b : Code := (Tryd.f21.body).getD .skip
noncomputable def coll_Fit_F (a0 a1 : Value) (w : World) (R : Value → World → Prop) : Prop :=
  VK Tryd.prog (Instr.box 34 a0) w fun x2 w => VK Tryd.prog (Instr.box 34 a1) w fun x3 w => VK Tryd.prog (Instr.fieldAt 34 x2 0) w fun x5 w => VK Tryd.prog (Instr.loadAt 5 x5) w fun x6 w => VK Tryd.prog (Instr.fieldAt 34 x3 0) w fun x7 w => VK Tryd.prog (Instr.loadAt 5 x7) w fun x8 w => BK Tryd.prog .eql 5 (.tmp 6) (.tmp 8) x6 x8 w fun x9 w => VG Tryd.prog x9 true (Instr.fieldAt 34 x2 1) w fun x11 w => VG Tryd.prog x9 true (Instr.loadAt 3 x11) w fun x12 w => VG Tryd.prog x9 true (Instr.fieldAt 34 x3 1) w fun x13 w => VG Tryd.prog x9 true (Instr.loadAt 3 x13) w fun x14 w => BG Tryd.prog x9 true .eql 3 (.tmp 12) (.tmp 14) x12 x14 w fun x15 w => PK Tryd.prog x9 x15 (Value.bool false) w fun x16 w => VG Tryd.prog x16 true (Instr.fieldAt 34 x2 2) w fun x18 w => VG Tryd.prog x16 true (Instr.loadAt 5 x18) w fun x19 w => VG Tryd.prog x16 true (Instr.fieldAt 34 x3 2) w fun x20 w => VG Tryd.prog x16 true (Instr.loadAt 5 x20) w fun x21 w => BG Tryd.prog x16 true .eql 5 (.tmp 19) (.tmp 21) x19 x21 w fun x22 w => PK Tryd.prog x16 x22 (Value.bool false) w fun x23 w => R x23 w
theorem coll_Fit_eq (a0 a1 : Value) (w : World) (R : Value → World → Prop) : sx fn_ Tryd.prog 24 coll_Fit_b (retK Tryd.prog Tryd.f21.results.toList R) (rho0 [a0, a1]) w = coll_Fit_F a0 a1 w R := by kernel_rfl
theorem coll_Fit_calls {a0 a1 : Value} {w : World} {R : Value → World → Prop} (h : coll_Fit_F a0 a1 w R) : Calls Tryd.prog 21 #[a0, a1] w fun e w' => ∃ v, e = .returned v ∧ R v w' :=
  Go.X.calls_of_sx (n := 24) (c := coll_Fit_b) Tryd.func21 (by kernel_rfl) (by kernel_rfl) (Nat.le_of_ble_eq_true rfl) (by kernel_rfl) (Eq.mpr (coll_Fit_eq a0 a1 w R) h)
noncomputable def coll_Coll_Odd_b : Code := (Tryd.f24.body).getD .skip
noncomputable def coll_Coll_Odd_L0 : Code := cAt [1, 1, 1, 0, 1, 0, 0] coll_Coll_Odd_b
noncomputable def coll_Coll_Odd_R1 : Code := cAt [1, 1, 1, 1] coll_Coll_Odd_b
noncomputable def coll_Coll_Odd_L2 : Code := cAt [1, 1, 1, 0, 1, 0, 0, 1, 1, 0, 0, 1, 1, 1, 0, 1, 0, 0] coll_Coll_Odd_b
noncomputable def coll_Coll_Odd_R3 : Code := cAt [1, 1, 1, 0, 1, 0, 0, 1, 1, 0, 0, 1, 1, 1, 1] coll_Coll_Odd_b
noncomputable def coll_Coll_Odd_R4 : Code := cAt [1, 1, 1, 0, 1, 0, 0, 1, 1, 1] coll_Coll_Odd_b
noncomputable def coll_Coll_Odd_L5 : Code := cAt [1, 1, 1, 0, 1, 0, 0, 1, 1, 0, 0, 1, 1, 1, 1, 1, 0, 0] coll_Coll_Odd_b
noncomputable def coll_Coll_Odd_R6 : Code := cAt [1, 1, 1, 0, 1, 0, 0, 1, 1, 0, 0, 1, 1, 1, 1, 1, 0, 0, 1, 1, 1] coll_Coll_Odd_b
noncomputable def coll_Coll_Odd_L0_F (z : At) (K : Exit → Sl → World → Prop) (ρ : Sl) (w : World) : Prop :=
  BK Tryd.prog .lss 3 (.tmp 20) (.tmp 19) (ρ 20) (ρ 19) w fun x21 w => CondK x21 (VK Tryd.prog (Instr.indexAt 50 (ρ 18) (ρ 20)) w fun x22 w => VK Tryd.prog (Instr.loadAt 9 x22) w fun x23 w => NK Tryd.prog (ρ 0) w fun x25 w => VK Tryd.prog (Instr.fieldAt 72 x25 1) w fun x26 w => VK Tryd.prog (Instr.loadAt 70 x26) w fun x27 w => VK Tryd.prog (Instr.lookup 70 x27 x23 false) w fun x29 w => NK Tryd.prog x29 w fun x31 w => VK Tryd.prog (Instr.fieldAt 82 x31 1) w fun x32 w => VK Tryd.prog (Instr.loadAt 80 x32) w fun x33 w => IK Tryd.prog .len #[80] 3 [false] [x33] w fun x34 w => W z Tryd.prog 62 (Code.loop coll_Coll_Odd_L2) (blkK 2 (seqK (sx z Tryd.prog 62 coll_Coll_Odd_R3 (blkK 1 (seqK (sx z Tryd.prog 62 coll_Coll_Odd_R4 K) K))) (blkK 1 (seqK (sx z Tryd.prog 62 coll_Coll_Odd_R4 K) K)))) (up (up (up (up (up (up (up (up (up (up (up (up (up (up (up (up (up (up ρ 21 x21) 22 x22) 23 x23) 5 x23) 24 (ρ 0)) 25 x25) 26 x26) 27 x27) 28 x23) 29 x29) 6 x29) 7 (Value.int .i64 0)) 30 x29) 31 x31) 32 x32) 33 x33) 34 x34) 35 (Value.int .i64 0)) w) (K (.exit 0) (up ρ 21 x21) w)
theorem coll_Coll_Odd_L0_eq (z : At) (K : Exit → Sl → World → Prop) (ρ : Sl) (w : World) : sx z Tryd.prog 62 coll_Coll_Odd_L0 K ρ w = coll_Coll_Odd_L0_F z K ρ w := by kernel_rfl
theorem coll_Coll_Odd_L0_ok : dstOk 62 coll_Coll_Odd_L0 = true := by kernel_rfl
noncomputable def coll_Coll_Odd_R1_F (z : At) (K : Exit → Sl → World → Prop) (ρ : Sl) (w : World) : Prop :=
  K .ret (up (up ρ 61 (ρ 3)) 2 (ρ 3)) w
theorem coll_Coll_Odd_R1_eq (z : At) (K : Exit → Sl → World → Prop) (ρ : Sl) (w : World) : sx z Tryd.prog 62 coll_Coll_Odd_R1 K ρ w = coll_Coll_Odd_R1_F z K ρ w := by kernel_rfl
noncomputable def coll_Coll_Odd_L2_F (z : At) (K : Exit → Sl → World → Prop) (ρ : Sl) (w : World) : Prop :=
  BK Tryd.prog .lss 3 (.tmp 35) (.tmp 34) (ρ 35) (ρ 34) w fun x36 w => CondK x36 (VK Tryd.prog (Instr.indexAt 80 (ρ 33) (ρ 35)) w fun x37 w => VK Tryd.prog (Instr.loadAt 61 x37) w fun x38 w => IK Tryd.prog .len #[61] 3 [false] [x38] w fun x41 w => IK Tryd.prog .max #[3, 3] 3 [false, false] [(ρ 7), x41] w fun x42 w => BK Tryd.prog .add 3 (.tmp 35) (.const (Value.int .i64 1)) (ρ 35) (Value.int .i64 1) w fun x43 w => K .normal (up (up (up (up (up (up (up (up (up (up (up ρ 36 x36) 37 x37) 38 x38) 9 x38) 39 (ρ 7)) 40 x38) 41 x41) 42 x42) 7 x42) 43 x43) 35 x43) w) (K (.exit 2) (up ρ 36 x36) w)
theorem coll_Coll_Odd_L2_eq (z : At) (K : Exit → Sl → World → Prop) (ρ : Sl) (w : World) : sx z Tryd.prog 62 coll_Coll_Odd_L2 K ρ w = coll_Coll_Odd_L2_F z K ρ w := by kernel_rfl
theorem coll_Coll_Odd_L2_ok : dstOk 62 coll_Coll_Odd_L2 = true := by kernel_rfl
noncomputable def coll_Coll_Odd_R3_F (z : At) (K : Exit → Sl → World → Prop) (ρ : Sl) (w : World) : Prop :=
  W z Tryd.prog 62 (Code.loop coll_Coll_Odd_L5) (blkK 4 K) (up (up ρ 44 (ρ 7)) 45 (Value.int .i64 0)) w
theorem coll_Coll_Odd_R3_eq (z : At) (K : Exit → Sl → World → Prop) (ρ : Sl) (w : World) : sx z Tryd.prog 62 coll_Coll_Odd_R3 K ρ w = coll_Coll_Odd_R3_F z K ρ w := by kernel_rfl
noncomputable def coll_Coll_Odd_R4_F (z : At) (K : Exit → Sl → World → Prop) (ρ : Sl) (w : World) : Prop :=
  BK Tryd.prog .add 3 (.tmp 20) (.const (Value.int .i64 1)) (ρ 20) (Value.int .i64 1) w fun x60 w => K .normal (up (up ρ 60 x60) 20 x60) w
theorem coll_Coll_Odd_R4_eq (z : At) (K : Exit → Sl → World → Prop) (ρ : Sl) (w : World) : sx z Tryd.prog 62 coll_Coll_Odd_R4 K ρ w = coll_Coll_Odd_R4_F z K ρ w := by kernel_rfl
noncomputable def coll_Coll_Odd_L5_F (z : At) (K : Exit → Sl → World → Prop) (ρ : Sl) (w : World) : Prop :=
  BK Tryd.prog .lss 3 (.tmp 45) (.tmp 44) (ρ 45) (ρ 44) w fun x46 w => CondK x46 (CK Tryd.prog (Value.func (Fn.func 52) #[] #[]) [(ρ 6), (ρ 45)] w fun x50 w => CondK x50 (BK Tryd.prog .add 9 (.tmp 52) (.const (Value.string { data := #[46] })) (ρ 5) (Value.string { data := #[46] }) w fun x53 w => CK Tryd.prog (Value.func (Fn.func 53) #[] #[]) [(ρ 45)] w fun x55 w => BK Tryd.prog .add 9 (.tmp 53) (.tmp 55) x53 x55 w fun x56 w => VK Tryd.prog (Instr.buildSlice 50 1 [(0, x56)].toArray) w fun x57 w => IK Tryd.prog .append #[50, 50] 50 [false, false] [(ρ 3), x57] w fun x58 w => sx z Tryd.prog 62 coll_Coll_Odd_R6 K (up (up (up (up (up (up (up (up (up (up (up (up (up (up (up ρ 46 x46) 47 (ρ 45)) 10 (ρ 45)) 48 (ρ 6)) 49 (ρ 45)) 50 x50) 51 (ρ 3)) 52 (ρ 5)) 53 x53) 54 (ρ 45)) 55 x55) 56 x56) 57 x57) 58 x58) 3 x58) w) (sx z Tryd.prog 62 coll_Coll_Odd_R6 K (up (up (up (up (up (up ρ 46 x46) 47 (ρ 45)) 10 (ρ 45)) 48 (ρ 6)) 49 (ρ 45)) 50 x50) w)) (K (.exit 4) (up ρ 46 x46) w)
theorem coll_Coll_Odd_L5_eq (z : At) (K : Exit → Sl → World → Prop) (ρ : Sl) (w : World) : sx z Tryd.prog 62 coll_Coll_Odd_L5 K ρ w = coll_Coll_Odd_L5_F z K ρ w := by kernel_rfl
theorem coll_Coll_Odd_L5_ok : dstOk 62 coll_Coll_Odd_L5 = true := by kernel_rfl
noncomputable def coll_Coll_Odd_R6_F (z : At) (K : Exit → Sl → World → Prop) (ρ : Sl) (w : World) : Prop :=
  BK Tryd.prog .add 3 (.tmp 45) (.const (Value.int .i64 1)) (ρ 45) (Value.int .i64 1) w fun x59 w => K .normal (up (up ρ 59 x59) 45 x59) w
theorem coll_Coll_Odd_R6_eq (z : At) (K : Exit → Sl → World → Prop) (ρ : Sl) (w : World) : sx z Tryd.prog 62 coll_Coll_Odd_R6 K ρ w = coll_Coll_Odd_R6_F z K ρ w := by kernel_rfl
noncomputable def coll_Coll_Odd_F (a0 : Value) (w : World) (R : Value → World → Prop) : Prop :=
  CK Tryd.prog (Value.func (Fn.func 34) #[] #[]) [a0] w fun x12 w => CondK x12 (R (Value.slice none 0 0) w) (NK Tryd.prog a0 w fun x14 w => VK Tryd.prog (Instr.fieldAt 72 x14 1) w fun x15 w => VK Tryd.prog (Instr.loadAt 70 x15) w fun x16 w => CK Tryd.prog (Value.func (Fn.func 51) #[] #[]) [x16] w fun x17 w => CK Tryd.prog (Value.func (Fn.func 50) #[] #[]) [x17] w fun x18 w => IK Tryd.prog .len #[50] 3 [false] [x18] w fun x19 w => W fn_ Tryd.prog 62 (Code.loop coll_Coll_Odd_L0) (blkK 0 (seqK (sx fn_ Tryd.prog 62 coll_Coll_Odd_R1 (retK Tryd.prog [ResultVar.tmp 2] R)) (retK Tryd.prog [ResultVar.tmp 2] R))) (up (up (up (up (up (up (up (up (up (up (up (up (rho0 [a0]) 2 (Value.slice none 0 0)) 3 (Value.slice none 0 0)) 11 a0) 12 x12) 13 a0) 14 x14) 15 x15) 16 x16) 17 x17) 18 x18) 19 x19) 20 (Value.int .i64 0)) w)
theorem coll_Coll_Odd_eq (a0 : Value) (w : World) (R : Value → World → Prop) : sx fn_ Tryd.prog 62 coll_Coll_Odd_b (retK Tryd.prog Tryd.f24.results.toList R) (rho0 [a0]) w = coll_Coll_Odd_F a0 w R := by kernel_rfl
theorem coll_Coll_Odd_calls {a0 : Value} {w : World} {R : Value → World → Prop} (h : coll_Coll_Odd_F a0 w R) : Calls Tryd.prog 24 #[a0] w fun e w' => ∃ v, e = .returned v ∧ R v w' :=
  Go.X.calls_of_sx (n := 62) (c := coll_Coll_Odd_b) Tryd.func24 (by kernel_rfl) (by kernel_rfl) (Nat.le_of_ble_eq_true rfl) (by kernel_rfl) (Eq.mpr (coll_Coll_Odd_eq a0 w R) h)
noncomputable def coll_Coll_none_b : Code := (Tryd.f34.body).getD .skip
noncomputable def coll_Coll_none_F (a0 : Value) (w : World) (R : Value → World → Prop) : Prop :=
  BK Tryd.prog .eql 24 (.tmp 3) (.const (Value.pointer none)) a0 (Value.pointer none) w fun x4 w => MG Tryd.prog x4 false a0 w fun x6 w => NG Tryd.prog x4 false x6 w fun x7 w => VG Tryd.prog x4 false (Instr.fieldAt 72 x7 1) w fun x8 w => VG Tryd.prog x4 false (Instr.loadAt 70 x8) w fun x9 w => BG Tryd.prog x4 false .eql 70 (.tmp 9) (.const (Value.map none)) x9 (Value.map none) w fun x10 w => PK Tryd.prog x4 (Value.bool true) x10 w fun x11 w => R x11 w
theorem coll_Coll_none_eq (a0 : Value) (w : World) (R : Value → World → Prop) : sx fn_ Tryd.prog 12 coll_Coll_none_b (retK Tryd.prog Tryd.f34.results.toList R) (rho0 [a0]) w = coll_Coll_none_F a0 w R := by kernel_rfl
theorem coll_Coll_none_calls {a0 : Value} {w : World} {R : Value → World → Prop} (h : coll_Coll_none_F a0 w R) : Calls Tryd.prog 34 #[a0] w fun e w' => ∃ v, e = .returned v ∧ R v w' :=
  Go.X.calls_of_sx (n := 12) (c := coll_Coll_none_b) Tryd.func34 (by kernel_rfl) (by kernel_rfl) (Nat.le_of_ble_eq_true rfl) (by kernel_rfl) (Eq.mpr (coll_Coll_none_eq a0 w R) h)
noncomputable def group_Number_b : Code := (Tryd.f35.body).getD .skip
noncomputable def group_Number_F (a0 a1 : Value) (w : World) (R : Value → World → Prop) : Prop :=
  VK Tryd.prog (Instr.box 32 a0) w fun x2 w => VK Tryd.prog (Instr.fieldAt 32 x2 1) w fun x7 w => VK Tryd.prog (Instr.loadAt 30 x7) w fun x8 w => CK Tryd.prog (Value.func (Fn.func 61) #[] #[]) [x8, a1] w fun x10 w => IK Tryd.prog .max #[3, 3] 3 [false, true] [x10, (Value.int .i64 0)] w fun x12 w => BK Tryd.prog .geq 3 (.tmp 13) (.const (Value.int .i64 0)) x10 (Value.int .i64 0) w fun x14 w => R (Value.tuple #[x12, x14]) w
theorem group_Number_eq (a0 a1 : Value) (w : World) (R : Value → World → Prop) : sx fn_ Tryd.prog 15 group_Number_b (retK Tryd.prog Tryd.f35.results.toList R) (rho0 [a0, a1]) w = group_Number_F a0 a1 w R := by kernel_rfl
theorem group_Number_calls {a0 a1 : Value} {w : World} {R : Value → World → Prop} (h : group_Number_F a0 a1 w R) : Calls Tryd.prog 35 #[a0, a1] w fun e w' => ∃ v, e = .returned v ∧ R v w' :=
  Go.X.calls_of_sx (n := 15) (c := group_Number_b) Tryd.func35 (by kernel_rfl) (by kernel_rfl) (Nat.le_of_ble_eq_true rfl) (by kernel_rfl) (Eq.mpr (group_Number_eq a0 a1 w R) h)
noncomputable def group_May_b : Code := (Tryd.f36.body).getD .skip
noncomputable def group_May_L0 : Code := cAt [1, 1, 0, 1, 0, 0] group_May_b
noncomputable def group_May_R1 : Code := cAt [1, 1, 1] group_May_b
noncomputable def group_May_L0_F (z : At) (K : Exit → Sl → World → Prop) (ρ : Sl) (w : World) : Prop :=
  BK Tryd.prog .lss 3 (.tmp 9) (.tmp 8) (ρ 9) (ρ 8) w fun x10 w => CondK x10 (VK Tryd.prog (Instr.indexAt 30 (ρ 7) (ρ 9)) w fun x11 w => VK Tryd.prog (Instr.loadAt 3 x11) w fun x12 w => BK Tryd.prog .lss 3 (.tmp 13) (.const (Value.int .i64 0)) x12 (Value.int .i64 0) w fun x14 w => MG Tryd.prog x14 false x12 w fun x16 w => BG Tryd.prog x14 false .geq 3 (.tmp 16) (.const (Value.int .i64 64)) x16 (Value.int .i64 64) w fun x17 w => PK Tryd.prog x14 (Value.bool true) x17 w fun x18 w => MG Tryd.prog x18 false x12 w fun x20 w => VG Tryd.prog x18 false (Instr.indexAt 114 (ρ 3) x20) w fun x21 w => VG Tryd.prog x18 false (Instr.loadAt 3 x21) w fun x22 w => BG Tryd.prog x18 false .gtr 3 (.tmp 22) (.const (Value.int .i64 0)) x22 (Value.int .i64 0) w fun x23 w => PK Tryd.prog x18 (Value.bool true) x23 w fun x24 w => CondK x24 (K .ret (up (up (up (up (up (up (up (up (up (up (up (up (up (up (up (up (up ρ 10 x10) 11 x11) 12 x12) 5 x12) 13 x12) 14 x14) 15 x14) 16 x16) 17 x17) 18 x18) 19 x18) 20 x20) 21 x21) 22 x22) 23 x23) 24 x24) 2 (Value.bool false)) w) (VK Tryd.prog (Instr.indexAt 114 (ρ 3) x12) w fun x26 w => VK Tryd.prog (Instr.loadAt 3 x26) w fun x27 w => BK Tryd.prog .add 3 (.tmp 27) (.const (Value.int .i64 1)) x27 (Value.int .i64 1) w fun x28 w => VK Tryd.prog (Instr.indexAt 114 (ρ 3) x12) w fun x29 w => UK Tryd.prog (Instr.storeAt 3 x29 x28) w fun _ w => BK Tryd.prog .add 3 (.tmp 9) (.const (Value.int .i64 1)) (ρ 9) (Value.int .i64 1) w fun x30 w => K .normal (up (up (up (up (up (up (up (up (up (up (up (up (up (up (up (up (up (up (up (up (up (up (up ρ 10 x10) 11 x11) 12 x12) 5 x12) 13 x12) 14 x14) 15 x14) 16 x16) 17 x17) 18 x18) 19 x18) 20 x20) 21 x21) 22 x22) 23 x23) 24 x24) 25 x12) 26 x26) 27 x27) 28 x28) 29 x29) 30 x30) 9 x30) w)) (K (.exit 0) (up ρ 10 x10) w)
theorem group_May_L0_eq (z : At) (K : Exit → Sl → World → Prop) (ρ : Sl) (w : World) : sx z Tryd.prog 35 group_May_L0 K ρ w = group_May_L0_F z K ρ w := by kernel_rfl
theorem group_May_L0_ok : dstOk 35 group_May_L0 = true := by kernel_rfl
noncomputable def group_May_R1_F (z : At) (K : Exit → Sl → World → Prop) (ρ : Sl) (w : World) : Prop :=
  VK Tryd.prog (Instr.fieldAt 32 (ρ 1) 1) w fun x31 w => VK Tryd.prog (Instr.loadAt 30 x31) w fun x32 w => IK Tryd.prog .len #[30] 3 [false] [x32] w fun x33 w => BK Tryd.prog .gtr 3 (.tmp 33) (.const (Value.int .i64 0)) x33 (Value.int .i64 0) w fun x34 w => K .ret (up (up (up (up (up ρ 31 x31) 32 x32) 33 x33) 34 x34) 2 x34) w
theorem group_May_R1_eq (z : At) (K : Exit → Sl → World → Prop) (ρ : Sl) (w : World) : sx z Tryd.prog 35 group_May_R1 K ρ w = group_May_R1_F z K ρ w := by kernel_rfl
noncomputable def group_May_F (a0 : Value) (w : World) (R : Value → World → Prop) : Prop :=
  VK Tryd.prog (Instr.box 32 a0) w fun x1 w => VK Tryd.prog (Instr.alloc 114 true (.tuple #[])) w fun x3 w => VK Tryd.prog (Instr.fieldAt 32 x1 1) w fun x6 w => VK Tryd.prog (Instr.loadAt 30 x6) w fun x7 w => IK Tryd.prog .len #[30] 3 [false] [x7] w fun x8 w => W fn_ Tryd.prog 35 (Code.loop group_May_L0) (blkK 0 (seqK (sx fn_ Tryd.prog 35 group_May_R1 (retK Tryd.prog [ResultVar.tmp 2] R)) (retK Tryd.prog [ResultVar.tmp 2] R))) (up (up (up (up (up (up (up (rho0 [a0]) 1 x1) 2 (Value.bool false)) 3 x3) 6 x6) 7 x7) 8 x8) 9 (Value.int .i64 0)) w
theorem group_May_eq (a0 : Value) (w : World) (R : Value → World → Prop) : sx fn_ Tryd.prog 35 group_May_b (retK Tryd.prog Tryd.f36.results.toList R) (rho0 [a0]) w = group_May_F a0 w R := by kernel_rfl
theorem group_May_calls {a0 : Value} {w : World} {R : Value → World → Prop} (h : group_May_F a0 w R) : Calls Tryd.prog 36 #[a0] w fun e w' => ∃ v, e = .returned v ∧ R v w' :=
  Go.X.calls_of_sx (n := 35) (c := group_May_b) Tryd.func36 (by kernel_rfl) (by kernel_rfl) (Nat.le_of_ble_eq_true rfl) (by kernel_rfl) (Eq.mpr (group_May_eq a0 w R) h)
noncomputable def group_Same_b : Code := (Tryd.f37.body).getD .skip
noncomputable def group_Same_F (a0 a1 : Value) (w : World) (R : Value → World → Prop) : Prop :=
  VK Tryd.prog (Instr.box 32 a0) w fun x2 w => VK Tryd.prog (Instr.box 32 a1) w fun x3 w => VK Tryd.prog (Instr.fieldAt 32 x2 0) w fun x5 w => VK Tryd.prog (Instr.loadAt 9 x5) w fun x6 w => VK Tryd.prog (Instr.fieldAt 32 x3 0) w fun x7 w => VK Tryd.prog (Instr.loadAt 9 x7) w fun x8 w => BK Tryd.prog .eql 9 (.tmp 6) (.tmp 8) x6 x8 w fun x9 w => VG Tryd.prog x9 true (Instr.fieldAt 32 x2 1) w fun x11 w => VG Tryd.prog x9 true (Instr.loadAt 30 x11) w fun x12 w => VG Tryd.prog x9 true (Instr.fieldAt 32 x3 1) w fun x13 w => VG Tryd.prog x9 true (Instr.loadAt 30 x13) w fun x14 w => CG Tryd.prog x9 true (Value.func (Fn.func 62) #[] #[]) [x12, x14] w fun x15 w => PK Tryd.prog x9 x15 (Value.bool false) w fun x16 w => R x16 w
theorem group_Same_eq (a0 a1 : Value) (w : World) (R : Value → World → Prop) : sx fn_ Tryd.prog 17 group_Same_b (retK Tryd.prog Tryd.f37.results.toList R) (rho0 [a0, a1]) w = group_Same_F a0 a1 w R := by kernel_rfl
theorem group_Same_calls {a0 a1 : Value} {w : World} {R : Value → World → Prop} (h : group_Same_F a0 a1 w R) : Calls Tryd.prog 37 #[a0, a1] w fun e w' => ∃ v, e = .returned v ∧ R v w' :=
  Go.X.calls_of_sx (n := 17) (c := group_Same_b) Tryd.func37 (by kernel_rfl) (by kernel_rfl) (Nat.le_of_ble_eq_true rfl) (by kernel_rfl) (Eq.mpr (group_Same_eq a0 a1 w R) h)
noncomputable def slices_Clone_int_int_b : Code := (Tryd.f38.body).getD .skip
noncomputable def slices_Clone_int_int_F (a0 : Value) (w : World) (R : Value → World → Prop) : Prop :=
  BK Tryd.prog .eql 30 (.tmp 3) (.const (Value.slice none 0 0)) a0 (Value.slice none 0 0) w fun x4 w => CondK x4 (R (Value.slice none 0 0) w) (VK Tryd.prog (Instr.buildSlice 30 0 [].toArray) w fun x5 w => IK Tryd.prog .append #[30, 30] 30 [false, false] [x5, a0] w fun x7 w => R x7 w)
theorem slices_Clone_int_int_eq (a0 : Value) (w : World) (R : Value → World → Prop) : sx fn_ Tryd.prog 8 slices_Clone_int_int_b (retK Tryd.prog Tryd.f38.results.toList R) (rho0 [a0]) w = slices_Clone_int_int_F a0 w R := by kernel_rfl
theorem slices_Clone_int_int_calls {a0 : Value} {w : World} {R : Value → World → Prop} (h : slices_Clone_int_int_F a0 w R) : Calls Tryd.prog 38 #[a0] w fun e w' => ∃ v, e = .returned v ∧ R v w' :=
  Go.X.calls_of_sx (n := 8) (c := slices_Clone_int_int_b) Tryd.func38 (by kernel_rfl) (by kernel_rfl) (Nat.le_of_ble_eq_true rfl) (by kernel_rfl) (Eq.mpr (slices_Clone_int_int_eq a0 w R) h)
noncomputable def slices_Clone_coll_Part_coll_Part_b : Code := (Tryd.f46.body).getD .skip
noncomputable def slices_Clone_coll_Part_coll_Part_F (a0 : Value) (w : World) (R : Value → World → Prop) : Prop :=
  BK Tryd.prog .eql 61 (.tmp 3) (.const (Value.slice none 0 0)) a0 (Value.slice none 0 0) w fun x4 w => CondK x4 (R (Value.slice none 0 0) w) (VK Tryd.prog (Instr.buildSlice 61 0 [].toArray) w fun x5 w => IK Tryd.prog .append #[61, 61] 61 [false, false] [x5, a0] w fun x7 w => R x7 w)
theorem slices_Clone_coll_Part_coll_Part_eq (a0 : Value) (w : World) (R : Value → World → Prop) : sx fn_ Tryd.prog 8 slices_Clone_coll_Part_coll_Part_b (retK Tryd.prog Tryd.f46.results.toList R) (rho0 [a0]) w = slices_Clone_coll_Part_coll_Part_F a0 w R := by kernel_rfl
theorem slices_Clone_coll_Part_coll_Part_calls {a0 : Value} {w : World} {R : Value → World → Prop} (h : slices_Clone_coll_Part_coll_Part_F a0 w R) : Calls Tryd.prog 46 #[a0] w fun e w' => ∃ v, e = .returned v ∧ R v w' :=
  Go.X.calls_of_sx (n := 8) (c := slices_Clone_coll_Part_coll_Part_b) Tryd.func46 (by kernel_rfl) (by kernel_rfl) (Nat.le_of_ble_eq_true rfl) (by kernel_rfl) (Eq.mpr (slices_Clone_coll_Part_coll_Part_eq a0 w R) h)
noncomputable def coll_Coll_of_b : Code := (Tryd.f47.body).getD .skip
noncomputable def coll_Coll_of_R0 : Code := cAt [1, 1, 1, 1] coll_Coll_of_b
noncomputable def coll_Coll_of_R0_F (z : At) (K : Exit → Sl → World → Prop) (ρ : Sl) (w : World) : Prop :=
  K .ret (up (up (up (up (up (up ρ 38 (ρ 9)) 39 (ρ 10)) 40 (ρ 11)) 6 (ρ 9)) 7 (ρ 10)) 8 (ρ 11)) w
theorem coll_Coll_of_R0_eq (z : At) (K : Exit → Sl → World → Prop) (ρ : Sl) (w : World) : sx z Tryd.prog 41 coll_Coll_of_R0 K ρ w = coll_Coll_of_R0_F z K ρ w := by kernel_rfl
noncomputable def coll_Coll_of_F (a0 a1 a2 : Value) (w : World) (R : Value → World → Prop) : Prop :=
  CK Tryd.prog (Value.func (Fn.func 34) #[] #[]) [a0] w fun x13 w => MG Tryd.prog x13 false a0 w fun x15 w => NG Tryd.prog x13 false x15 w fun x16 w => VG Tryd.prog x13 false (Instr.fieldAt 72 x16 1) w fun x17 w => VG Tryd.prog x13 false (Instr.loadAt 70 x17) w fun x18 w => MG Tryd.prog x13 false a1 w fun x19 w => VG Tryd.prog x13 false (Instr.lookup 70 x18 x19 false) w fun x20 w => BG Tryd.prog x13 false .eql 76 (.tmp 20) (.const (Value.pointer none)) x20 (Value.pointer none) w fun x21 w => PK Tryd.prog x13 (Value.bool true) x21 w fun x22 w => CondK x22 (R (Value.tuple #[(Value.pointer none), (Value.int .i64 0), (Value.bool false)]) w) (NK Tryd.prog a0 w fun x24 w => VK Tryd.prog (Instr.fieldAt 72 x24 1) w fun x25 w => VK Tryd.prog (Instr.loadAt 70 x25) w fun x26 w => VK Tryd.prog (Instr.lookup 70 x26 a1 false) w fun x28 w => NK Tryd.prog x28 w fun x31 w => VK Tryd.prog (Instr.fieldAt 82 x31 0) w fun x32 w => VK Tryd.prog (Instr.loadAt 32 x32) w fun x33 w => CK Tryd.prog (Value.func (Fn.func 35) #[] #[]) [x33, a2] w fun x35 w => VK Tryd.prog (Instr.extract x35 0) w fun x36 w => VK Tryd.prog (Instr.extract x35 1) w fun x37 w => sx fn_ Tryd.prog 41 coll_Coll_of_R0 (retK Tryd.prog [ResultVar.tmp 6, ResultVar.tmp 7, ResultVar.tmp 8] R) (up (up (up (up (up (up (up (up (up (up (up (up (up (up (up (up (up (up (up (up (up (up (up (up (up (up (up (up (up (up (up (up (rho0 [a0, a1, a2]) 6 (Value.pointer none)) 7 (Value.int .i64 0)) 8 (Value.bool false)) 12 a0) 13 x13) 14 x13) 15 x15) 16 x16) 17 x17) 18 x18) 19 x19) 20 x20) 21 x21) 22 x22) 23 a0) 24 x24) 25 x25) 26 x26) 27 a1) 28 x28) 9 x28) 30 x28) 31 x31) 32 x32) 33 x33) 34 a2) 35 x35) 29 x35) 36 x36) 37 x37) 10 x36) 11 x37) w)
theorem coll_Coll_of_eq (a0 a1 a2 : Value) (w : World) (R : Value → World → Prop) : sx fn_ Tryd.prog 41 coll_Coll_of_b (retK Tryd.prog Tryd.f47.results.toList R) (rho0 [a0, a1, a2]) w = coll_Coll_of_F a0 a1 a2 w R := by kernel_rfl
theorem coll_Coll_of_calls {a0 a1 a2 : Value} {w : World} {R : Value → World → Prop} (h : coll_Coll_of_F a0 a1 a2 w R) : Calls Tryd.prog 47 #[a0, a1, a2] w fun e w' => ∃ v, e = .returned v ∧ R v w' :=
  Go.X.calls_of_sx (n := 41) (c := coll_Coll_of_b) Tryd.func47 (by kernel_rfl) (by kernel_rfl) (Nat.le_of_ble_eq_true rfl) (by kernel_rfl) (Eq.mpr (coll_Coll_of_eq a0 a1 a2 w R) h)
noncomputable def coll_rooted_b : Code := (Tryd.f48.body).getD .skip
noncomputable def coll_rooted_F (a0 : Value) (w : World) (R : Value → World → Prop) : Prop :=
  BK Tryd.prog .eql 5 (.tmp 3) (.const (Value.int .u8 16)) a0 (Value.int .u8 16) w fun x4 w => MG Tryd.prog x4 false a0 w fun x6 w => BG Tryd.prog x4 false .eql 5 (.tmp 6) (.const (Value.int .u8 17)) x6 (Value.int .u8 17) w fun x7 w => PK Tryd.prog x4 (Value.bool true) x7 w fun x8 w => MG Tryd.prog x8 false a0 w fun x10 w => BG Tryd.prog x8 false .eql 5 (.tmp 10) (.const (Value.int .u8 19)) x10 (Value.int .u8 19) w fun x11 w => PK Tryd.prog x8 (Value.bool true) x11 w fun x12 w => R x12 w
theorem coll_rooted_eq (a0 : Value) (w : World) (R : Value → World → Prop) : sx fn_ Tryd.prog 13 coll_rooted_b (retK Tryd.prog Tryd.f48.results.toList R) (rho0 [a0]) w = coll_rooted_F a0 w R := by kernel_rfl
theorem coll_rooted_calls {a0 : Value} {w : World} {R : Value → World → Prop} (h : coll_rooted_F a0 w R) : Calls Tryd.prog 48 #[a0] w fun e w' => ∃ v, e = .returned v ∧ R v w' :=
  Go.X.calls_of_sx (n := 13) (c := coll_rooted_b) Tryd.func48 (by kernel_rfl) (by kernel_rfl) (Nat.le_of_ble_eq_true rfl) (by kernel_rfl) (Eq.mpr (coll_rooted_eq a0 w R) h)
noncomputable def coll_reduces_b : Code := (Tryd.f49.body).getD .skip
noncomputable def coll_reduces_F (a0 : Value) (w : World) (R : Value → World → Prop) : Prop :=
  BK Tryd.prog .eql 5 (.tmp 3) (.const (Value.int .u8 17)) a0 (Value.int .u8 17) w fun x4 w => MG Tryd.prog x4 false a0 w fun x6 w => BG Tryd.prog x4 false .eql 5 (.tmp 6) (.const (Value.int .u8 18)) x6 (Value.int .u8 18) w fun x7 w => PK Tryd.prog x4 (Value.bool true) x7 w fun x8 w => R x8 w
theorem coll_reduces_eq (a0 : Value) (w : World) (R : Value → World → Prop) : sx fn_ Tryd.prog 9 coll_reduces_b (retK Tryd.prog Tryd.f49.results.toList R) (rho0 [a0]) w = coll_reduces_F a0 w R := by kernel_rfl
theorem coll_reduces_calls {a0 : Value} {w : World} {R : Value → World → Prop} (h : coll_reduces_F a0 w R) : Calls Tryd.prog 49 #[a0] w fun e w' => ∃ v, e = .returned v ∧ R v w' :=
  Go.X.calls_of_sx (n := 9) (c := coll_reduces_b) Tryd.func49 (by kernel_rfl) (by kernel_rfl) (Nat.le_of_ble_eq_true rfl) (by kernel_rfl) (Eq.mpr (coll_reduces_eq a0 w R) h)
noncomputable def coll_rows_odd_b : Code := (Tryd.f52.body).getD .skip
noncomputable def coll_rows_odd_L0 : Code := cAt [1, 1, 0, 1, 0, 0] coll_rows_odd_b
noncomputable def coll_rows_odd_R1 : Code := cAt [1, 1, 1] coll_rows_odd_b
noncomputable def coll_rows_odd_R2 : Code := cAt [1, 1, 0, 1, 0, 0, 1, 1, 1] coll_rows_odd_b
noncomputable def coll_rows_odd_R3 : Code := cAt [1, 1, 0, 1, 0, 0, 1, 1, 0, 0, 1, 1, 0, 0] coll_rows_odd_b
noncomputable def coll_rows_odd_R4 : Code := cAt [1, 1, 0, 1, 0, 0, 1, 1, 0, 0, 1, 1, 0, 1] coll_rows_odd_b
noncomputable def coll_rows_odd_R5 : Code := cAt [1, 1, 0, 1, 0, 0, 1, 1, 0, 0, 1, 1, 1] coll_rows_odd_b
noncomputable def coll_rows_odd_L0_F (z : At) (K : Exit → Sl → World → Prop) (ρ : Sl) (w : World) : Prop :=
  BK Tryd.prog .lss 3 (.tmp 14) (.tmp 13) (ρ 14) (ρ 13) w fun x15 w => CondK x15 (CK Tryd.prog (Value.func (Fn.func 58) #[] #[]) [(ρ 0), (ρ 14), (ρ 1)] w fun x21 w => VK Tryd.prog (Instr.extract x21 0) w fun x22 w => VK Tryd.prog (Instr.extract x21 1) w fun x23 w => VK Tryd.prog (Instr.alloc 34 true (.tuple #[])) w fun x7 w => UK Tryd.prog (Instr.storeAt 34 x7 x22) w fun _ w => W z Tryd.prog 43 coll_rows_odd_R3 (seqK (sx z Tryd.prog 43 coll_rows_odd_R4 (seqK (sx z Tryd.prog 43 coll_rows_odd_R5 (blkK 1 (seqK (sx z Tryd.prog 43 coll_rows_odd_R2 K) K))) (blkK 1 (seqK (sx z Tryd.prog 43 coll_rows_odd_R2 K) K)))) (seqK (sx z Tryd.prog 43 coll_rows_odd_R5 (blkK 1 (seqK (sx z Tryd.prog 43 coll_rows_odd_R2 K) K))) (blkK 1 (seqK (sx z Tryd.prog 43 coll_rows_odd_R2 K) K)))) (up (up (up (up (up (up (up (up (up (up (up (up ρ 15 x15) 16 (ρ 14)) 6 (ρ 14)) 18 (ρ 0)) 19 (ρ 14)) 20 (ρ 1)) 21 x21) 17 x21) 22 x22) 23 x23) 7 x7) 8 x23) w) (K (.exit 0) (up ρ 15 x15) w)
theorem coll_rows_odd_L0_eq (z : At) (K : Exit → Sl → World → Prop) (ρ : Sl) (w : World) : sx z Tryd.prog 43 coll_rows_odd_L0 K ρ w = coll_rows_odd_L0_F z K ρ w := by kernel_rfl
theorem coll_rows_odd_L0_ok : dstOk 43 coll_rows_odd_L0 = true := by kernel_rfl
noncomputable def coll_rows_odd_R1_F (z : At) (K : Exit → Sl → World → Prop) (ρ : Sl) (w : World) : Prop :=
  K .ret (up ρ 4 (Value.bool false)) w
theorem coll_rows_odd_R1_eq (z : At) (K : Exit → Sl → World → Prop) (ρ : Sl) (w : World) : sx z Tryd.prog 43 coll_rows_odd_R1 K ρ w = coll_rows_odd_R1_F z K ρ w := by kernel_rfl
noncomputable def coll_rows_odd_R2_F (z : At) (K : Exit → Sl → World → Prop) (ρ : Sl) (w : World) : Prop :=
  BK Tryd.prog .add 3 (.tmp 14) (.const (Value.int .i64 1)) (ρ 14) (Value.int .i64 1) w fun x42 w => K .normal (up (up ρ 42 x42) 14 x42) w
theorem coll_rows_odd_R2_eq (z : At) (K : Exit → Sl → World → Prop) (ρ : Sl) (w : World) : sx z Tryd.prog 43 coll_rows_odd_R2 K ρ w = coll_rows_odd_R2_F z K ρ w := by kernel_rfl
noncomputable def coll_rows_odd_R3_ops : Array Oper := opsOf coll_rows_odd_R3
def coll_rows_odd_R3_Q (C : World → Prop) (K : Exit → Sl → World → Prop) (ρ : Sl) : Prop :=
  QG Tryd.prog C (ρ 8) true  (pure (Next.value (ρ 5))) fun x26 => QG Tryd.prog C (ρ 8) true  (do pure (Next.value (← (do eqGuard BinOp.neq 127 (Operand.tmp 26) (Operand.const (Value.pointer none)) x26 (Value.pointer none); binOp BinOp.neq 127 x26 (Value.pointer none))))) fun x27 => QK Tryd.prog C (do pure (Next.value (if ← asBool (ρ 8) then x27 else (Value.bool false)))) fun x28 => QG Tryd.prog C x28 true  (pure (Next.value (ρ 5))) fun x30 => QG Tryd.prog C x28 true  (nilCk x30) fun x31 => QG Tryd.prog C x28 true  (do pure (Next.value (← Instr.loadAt 34 x31))) fun x32 => QG Tryd.prog C x28 true  (do pure (Next.value (← Instr.loadAt 34 (ρ 7)))) fun x33 => QG Tryd.prog C x28 true  (do let d ← Deferred.ofValue (Value.func (Fn.func 21) #[] #[]) [x32, x33].toArray; invoke d.target d.args) fun x34 => QG Tryd.prog C x28 true  (do pure (Next.value (← Op.unary UnOp.not x34))) fun x35 => QK Tryd.prog C (do pure (Next.value (if ← asBool x28 then x35 else (Value.bool false)))) fun x36 => ∀ w', C w' → K Exit.normal (up (up (up (up (up (up (up (up (up (up (up (up (up ρ 24 (ρ 8)) 25 (ρ 8)) 26 x26) 27 x27) 28 x28) 29 x28) 30 x30) 31 x31) 32 x32) 33 x33) 34 x34) 35 x35) 36 x36) w'
theorem coll_rows_odd_R3_quiet {D : List Deferred} (C : World → Prop) {K : Exit → Sl → World → Prop} {ρ : Sl} {w : World} (hC : C { w with drawn := w.drawn + 1 }) (h : coll_rows_odd_R3_Q C K ρ) : W ⟨none, D⟩ Tryd.prog 43 coll_rows_odd_R3 K ρ w := by
  have e : coll_rows_odd_R3 = .region (idOf coll_rows_odd_R3) coll_rows_odd_R3_ops true := by kernel_rfl
  have q : sxq Tryd.prog C coll_rows_odd_R3_ops (fun ρ' => ∀ w', C w' → K .normal ρ' w') coll_rows_odd_R3_ops.toList ρ = coll_rows_odd_R3_Q C K ρ := by kernel_rfl
  rw [e]
  exact W_quiet C (by kernel_rfl) (by kernel_rfl) (by kernel_rfl) hC (Eq.mpr q h)
noncomputable def coll_rows_odd_R4_F (z : At) (K : Exit → Sl → World → Prop) (ρ : Sl) (w : World) : Prop :=
  CondK (ρ 36) (K .ret (up ρ 4 (Value.bool true)) w) (K .normal ρ w)
theorem coll_rows_odd_R4_eq (z : At) (K : Exit → Sl → World → Prop) (ρ : Sl) (w : World) : sx z Tryd.prog 43 coll_rows_odd_R4 K ρ w = coll_rows_odd_R4_F z K ρ w := by kernel_rfl
noncomputable def coll_rows_odd_R5_F (z : At) (K : Exit → Sl → World → Prop) (ρ : Sl) (w : World) : Prop :=
  MG Tryd.prog (ρ 8) true (ρ 5) w fun x39 w => BG Tryd.prog (ρ 8) true .eql 127 (.tmp 39) (.const (Value.pointer none)) x39 (Value.pointer none) w fun x40 w => PK Tryd.prog (ρ 8) x40 (Value.bool false) w fun x41 w => CondK x41 (K .normal (up (up (up (up (up (up ρ 37 (ρ 8)) 38 (ρ 8)) 39 x39) 40 x40) 41 x41) 5 (ρ 7)) w) (K .normal (up (up (up (up (up ρ 37 (ρ 8)) 38 (ρ 8)) 39 x39) 40 x40) 41 x41) w)
theorem coll_rows_odd_R5_eq (z : At) (K : Exit → Sl → World → Prop) (ρ : Sl) (w : World) : sx z Tryd.prog 43 coll_rows_odd_R5 K ρ w = coll_rows_odd_R5_F z K ρ w := by kernel_rfl
noncomputable def coll_rows_odd_F (a0 a1 : Value) (w : World) (R : Value → World → Prop) : Prop :=
  NK Tryd.prog a0 w fun x10 w => VK Tryd.prog (Instr.fieldAt 82 x10 1) w fun x11 w => VK Tryd.prog (Instr.loadAt 80 x11) w fun x12 w => IK Tryd.prog .len #[80] 3 [false] [x12] w fun x13 w => W fn_ Tryd.prog 43 (Code.loop coll_rows_odd_L0) (blkK 0 (seqK (sx fn_ Tryd.prog 43 coll_rows_odd_R1 (retK Tryd.prog [ResultVar.tmp 4] R)) (retK Tryd.prog [ResultVar.tmp 4] R))) (up (up (up (up (up (up (up (up (rho0 [a0, a1]) 4 (Value.bool false)) 5 (Value.pointer none)) 9 a0) 10 x10) 11 x11) 12 x12) 13 x13) 14 (Value.int .i64 0)) w
theorem coll_rows_odd_eq (a0 a1 : Value) (w : World) (R : Value → World → Prop) : sx fn_ Tryd.prog 43 coll_rows_odd_b (retK Tryd.prog Tryd.f52.results.toList R) (rho0 [a0, a1]) w = coll_rows_odd_F a0 a1 w R := by kernel_rfl
theorem coll_rows_odd_calls {a0 a1 : Value} {w : World} {R : Value → World → Prop} (h : coll_rows_odd_F a0 a1 w R) : Calls Tryd.prog 52 #[a0, a1] w fun e w' => ∃ v, e = .returned v ∧ R v w' :=
  Go.X.calls_of_sx (n := 43) (c := coll_rows_odd_b) Tryd.func52 (by kernel_rfl) (by kernel_rfl) (Nat.le_of_ble_eq_true rfl) (by kernel_rfl) (Eq.mpr (coll_rows_odd_eq a0 a1 w R) h)
noncomputable def coll_rows_part_b : Code := (Tryd.f58.body).getD .skip
noncomputable def coll_rows_part_F (a0 a1 a2 : Value) (w : World) (R : Value → World → Prop) : Prop :=
  VK Tryd.prog (Instr.alloc 34 true (.tuple #[])) w fun x6 w => BK Tryd.prog .lss 3 (.tmp 8) (.const (Value.int .i64 0)) a2 (Value.int .i64 0) w fun x9 w => MG Tryd.prog x9 false a2 w fun x11 w => MG Tryd.prog x9 false a0 w fun x12 w => NG Tryd.prog x9 false x12 w fun x13 w => VG Tryd.prog x9 false (Instr.fieldAt 82 x13 1) w fun x14 w => VG Tryd.prog x9 false (Instr.loadAt 80 x14) w fun x15 w => MG Tryd.prog x9 false a1 w fun x16 w => VG Tryd.prog x9 false (Instr.indexAt 80 x15 x16) w fun x17 w => VG Tryd.prog x9 false (Instr.loadAt 61 x17) w fun x18 w => IG Tryd.prog x9 false .len #[61] 3 [false] [x18] w fun x19 w => BG Tryd.prog x9 false .geq 3 (.tmp 11) (.tmp 19) x11 x19 w fun x20 w => PK Tryd.prog x9 (Value.bool true) x20 w fun x21 w => CondK x21 (VK Tryd.prog (Instr.build 34 [].toArray) w fun x22 w => UK Tryd.prog (Instr.storeAt 34 x6 x22) w fun _ w => ∃ x6_1, (do loadVar 34 (← asAddr x6) : Sem Value).run Tryd.prog w = .ok x6_1 w ∧ R (Value.tuple #[x6_1, (Value.bool false)]) w) (NK Tryd.prog a0 w fun x24 w => VK Tryd.prog (Instr.fieldAt 82 x24 1) w fun x25 w => VK Tryd.prog (Instr.loadAt 80 x25) w fun x26 w => VK Tryd.prog (Instr.indexAt 80 x26 a1) w fun x28 w => VK Tryd.prog (Instr.loadAt 61 x28) w fun x29 w => VK Tryd.prog (Instr.indexAt 61 x29 a2) w fun x31 w => VK Tryd.prog (Instr.loadAt 34 x31) w fun x32 w => UK Tryd.prog (Instr.storeAt 34 x6 x32) w fun _ w => ∃ x6_2, (do loadVar 34 (← asAddr x6) : Sem Value).run Tryd.prog w = .ok x6_2 w ∧ R (Value.tuple #[x6_2, (Value.bool true)]) w)
theorem coll_rows_part_eq (a0 a1 a2 : Value) (w : World) (R : Value → World → Prop) : sx fn_ Tryd.prog 33 coll_rows_part_b (retK Tryd.prog Tryd.f58.results.toList R) (rho0 [a0, a1, a2]) w = coll_rows_part_F a0 a1 a2 w R := by kernel_rfl
theorem coll_rows_part_calls {a0 a1 a2 : Value} {w : World} {R : Value → World → Prop} (h : coll_rows_part_F a0 a1 a2 w R) : Calls Tryd.prog 58 #[a0, a1, a2] w fun e w' => ∃ v, e = .returned v ∧ R v w' :=
  Go.X.calls_of_sx (n := 33) (c := coll_rows_part_b) Tryd.func58 (by kernel_rfl) (by kernel_rfl) (Nat.le_of_ble_eq_true rfl) (by kernel_rfl) (Eq.mpr (coll_rows_part_eq a0 a1 a2 w R) h)
noncomputable def slices_Index_int_int_b : Code := (Tryd.f61.body).getD .skip
noncomputable def slices_Index_int_int_L0 : Code := cAt [1, 0, 1, 0, 0] slices_Index_int_int_b
noncomputable def slices_Index_int_int_R1 : Code := cAt [1, 1] slices_Index_int_int_b
noncomputable def slices_Index_int_int_L0_F (z : At) (K : Exit → Sl → World → Prop) (ρ : Sl) (w : World) : Prop :=
  BK Tryd.prog .lss 3 (.tmp 8) (.tmp 7) (ρ 8) (ρ 7) w fun x9 w => CondK x9 (VK Tryd.prog (Instr.indexAt 30 (ρ 0) (ρ 8)) w fun x14 w => VK Tryd.prog (Instr.loadAt 3 x14) w fun x15 w => BK Tryd.prog .eql 3 (.tmp 11) (.tmp 15) (ρ 1) x15 w fun x16 w => CondK x16 (K .ret (up (up (up (up (up (up (up (up (up (up (up ρ 9 x9) 10 (ρ 8)) 5 (ρ 8)) 11 (ρ 1)) 12 (ρ 0)) 13 (ρ 8)) 14 x14) 15 x15) 16 x16) 17 (ρ 8)) 4 (ρ 8)) w) (BK Tryd.prog .add 3 (.tmp 8) (.const (Value.int .i64 1)) (ρ 8) (Value.int .i64 1) w fun x18 w => K .normal (up (up (up (up (up (up (up (up (up (up (up ρ 9 x9) 10 (ρ 8)) 5 (ρ 8)) 11 (ρ 1)) 12 (ρ 0)) 13 (ρ 8)) 14 x14) 15 x15) 16 x16) 18 x18) 8 x18) w)) (K (.exit 0) (up ρ 9 x9) w)
theorem slices_Index_int_int_L0_eq (z : At) (K : Exit → Sl → World → Prop) (ρ : Sl) (w : World) : sx z Tryd.prog 19 slices_Index_int_int_L0 K ρ w = slices_Index_int_int_L0_F z K ρ w := by kernel_rfl
theorem slices_Index_int_int_L0_ok : dstOk 19 slices_Index_int_int_L0 = true := by kernel_rfl
noncomputable def slices_Index_int_int_R1_F (z : At) (K : Exit → Sl → World → Prop) (ρ : Sl) (w : World) : Prop :=
  K .ret (up ρ 4 (Value.int .i64 (-1))) w
theorem slices_Index_int_int_R1_eq (z : At) (K : Exit → Sl → World → Prop) (ρ : Sl) (w : World) : sx z Tryd.prog 19 slices_Index_int_int_R1 K ρ w = slices_Index_int_int_R1_F z K ρ w := by kernel_rfl
noncomputable def slices_Index_int_int_F (a0 a1 : Value) (w : World) (R : Value → World → Prop) : Prop :=
  IK Tryd.prog .len #[30] 3 [false] [a0] w fun x7 w => W fn_ Tryd.prog 19 (Code.loop slices_Index_int_int_L0) (blkK 0 (seqK (sx fn_ Tryd.prog 19 slices_Index_int_int_R1 (retK Tryd.prog [ResultVar.tmp 4] R)) (retK Tryd.prog [ResultVar.tmp 4] R))) (up (up (up (up (rho0 [a0, a1]) 4 (Value.int .i64 0)) 6 a0) 7 x7) 8 (Value.int .i64 0)) w
theorem slices_Index_int_int_eq (a0 a1 : Value) (w : World) (R : Value → World → Prop) : sx fn_ Tryd.prog 19 slices_Index_int_int_b (retK Tryd.prog Tryd.f61.results.toList R) (rho0 [a0, a1]) w = slices_Index_int_int_F a0 a1 w R := by kernel_rfl
theorem slices_Index_int_int_calls {a0 a1 : Value} {w : World} {R : Value → World → Prop} (h : slices_Index_int_int_F a0 a1 w R) : Calls Tryd.prog 61 #[a0, a1] w fun e w' => ∃ v, e = .returned v ∧ R v w' :=
  Go.X.calls_of_sx (n := 19) (c := slices_Index_int_int_b) Tryd.func61 (by kernel_rfl) (by kernel_rfl) (Nat.le_of_ble_eq_true rfl) (by kernel_rfl) (Eq.mpr (slices_Index_int_int_eq a0 a1 w R) h)
noncomputable def slices_Equal_int_int_b : Code := (Tryd.f62.body).getD .skip
noncomputable def slices_Equal_int_int_L0 : Code := cAt [1, 1, 0, 1, 0, 0] slices_Equal_int_int_b
noncomputable def slices_Equal_int_int_R1 : Code := cAt [1, 1, 1] slices_Equal_int_int_b
noncomputable def slices_Equal_int_int_R2 : Code := cAt [1, 1, 0, 1, 0, 0, 1, 1, 0, 0, 1, 0] slices_Equal_int_int_b
noncomputable def slices_Equal_int_int_R3 : Code := cAt [1, 1, 0, 1, 0, 0, 1, 1, 0, 0, 1, 1] slices_Equal_int_int_b
noncomputable def slices_Equal_int_int_R4 : Code := cAt [1, 1, 0, 1, 0, 0, 1, 1, 1] slices_Equal_int_int_b
noncomputable def slices_Equal_int_int_L0_F (z : At) (K : Exit → Sl → World → Prop) (ρ : Sl) (w : World) : Prop :=
  BK Tryd.prog .lss 3 (.tmp 13) (.tmp 12) (ρ 13) (ρ 12) w fun x14 w => CondK x14 (W z Tryd.prog 26 slices_Equal_int_int_R2 (seqK (sx z Tryd.prog 26 slices_Equal_int_int_R3 (blkK 1 (seqK (sx z Tryd.prog 26 slices_Equal_int_int_R4 K) K))) (blkK 1 (seqK (sx z Tryd.prog 26 slices_Equal_int_int_R4 K) K))) (up (up (up ρ 14 x14) 15 (ρ 13)) 5 (ρ 13)) w) (K (.exit 0) (up ρ 14 x14) w)
theorem slices_Equal_int_int_L0_eq (z : At) (K : Exit → Sl → World → Prop) (ρ : Sl) (w : World) : sx z Tryd.prog 26 slices_Equal_int_int_L0 K ρ w = slices_Equal_int_int_L0_F z K ρ w := by kernel_rfl
theorem slices_Equal_int_int_L0_ok : dstOk 26 slices_Equal_int_int_L0 = true := by kernel_rfl
noncomputable def slices_Equal_int_int_R1_F (z : At) (K : Exit → Sl → World → Prop) (ρ : Sl) (w : World) : Prop :=
  K .ret (up ρ 4 (Value.bool true)) w
theorem slices_Equal_int_int_R1_eq (z : At) (K : Exit → Sl → World → Prop) (ρ : Sl) (w : World) : sx z Tryd.prog 26 slices_Equal_int_int_R1 K ρ w = slices_Equal_int_int_R1_F z K ρ w := by kernel_rfl
noncomputable def slices_Equal_int_int_R2_ops : Array Oper := opsOf slices_Equal_int_int_R2
def slices_Equal_int_int_R2_Q (C : World → Prop) (K : Exit → Sl → World → Prop) (ρ : Sl) : Prop :=
  QK Tryd.prog C (do pure (Next.value (← Instr.indexAt 30 (ρ 0) (ρ 5)))) fun x18 => QK Tryd.prog C (do pure (Next.value (← Instr.loadAt 3 x18))) fun x19 => QK Tryd.prog C (do pure (Next.value (← Instr.indexAt 30 (ρ 1) (ρ 5)))) fun x22 => QK Tryd.prog C (do pure (Next.value (← Instr.loadAt 3 x22))) fun x23 => QK Tryd.prog C (do pure (Next.value (← (do eqGuard BinOp.neq 3 (Operand.tmp 19) (Operand.tmp 23) x19 x23; binOp BinOp.neq 3 x19 x23)))) fun x24 => ∀ w', C w' → K Exit.normal (up (up (up (up (up (up (up (up (up ρ 16 (ρ 0)) 17 (ρ 5)) 18 x18) 19 x19) 20 (ρ 1)) 21 (ρ 5)) 22 x22) 23 x23) 24 x24) w'
theorem slices_Equal_int_int_R2_quiet {D : List Deferred} (C : World → Prop) {K : Exit → Sl → World → Prop} {ρ : Sl} {w : World} (hC : C { w with drawn := w.drawn + 1 }) (h : slices_Equal_int_int_R2_Q C K ρ) : W ⟨none, D⟩ Tryd.prog 26 slices_Equal_int_int_R2 K ρ w := by
  have e : slices_Equal_int_int_R2 = .region (idOf slices_Equal_int_int_R2) slices_Equal_int_int_R2_ops true := by kernel_rfl
  have q : sxq Tryd.prog C slices_Equal_int_int_R2_ops (fun ρ' => ∀ w', C w' → K .normal ρ' w') slices_Equal_int_int_R2_ops.toList ρ = slices_Equal_int_int_R2_Q C K ρ := by kernel_rfl
  rw [e]
  exact W_quiet C (by kernel_rfl) (by kernel_rfl) (by kernel_rfl) hC (Eq.mpr q h)
noncomputable def slices_Equal_int_int_R3_F (z : At) (K : Exit → Sl → World → Prop) (ρ : Sl) (w : World) : Prop :=
  CondK (ρ 24) (K .ret (up ρ 4 (Value.bool false)) w) (K .normal ρ w)
theorem slices_Equal_int_int_R3_eq (z : At) (K : Exit → Sl → World → Prop) (ρ : Sl) (w : World) : sx z Tryd.prog 26 slices_Equal_int_int_R3 K ρ w = slices_Equal_int_int_R3_F z K ρ w := by kernel_rfl
noncomputable def slices_Equal_int_int_R4_F (z : At) (K : Exit → Sl → World → Prop) (ρ : Sl) (w : World) : Prop :=
  BK Tryd.prog .add 3 (.tmp 13) (.const (Value.int .i64 1)) (ρ 13) (Value.int .i64 1) w fun x25 w => K .normal (up (up ρ 25 x25) 13 x25) w
theorem slices_Equal_int_int_R4_eq (z : At) (K : Exit → Sl → World → Prop) (ρ : Sl) (w : World) : sx z Tryd.prog 26 slices_Equal_int_int_R4 K ρ w = slices_Equal_int_int_R4_F z K ρ w := by kernel_rfl
noncomputable def slices_Equal_int_int_F (a0 a1 : Value) (w : World) (R : Value → World → Prop) : Prop :=
  IK Tryd.prog .len #[30] 3 [false] [a0] w fun x7 w => IK Tryd.prog .len #[30] 3 [false] [a1] w fun x9 w => BK Tryd.prog .neq 3 (.tmp 7) (.tmp 9) x7 x9 w fun x10 w => CondK x10 (R (Value.bool false) w) (IK Tryd.prog .len #[30] 3 [false] [a0] w fun x12 w => W fn_ Tryd.prog 26 (Code.loop slices_Equal_int_int_L0) (blkK 0 (seqK (sx fn_ Tryd.prog 26 slices_Equal_int_int_R1 (retK Tryd.prog [ResultVar.tmp 4] R)) (retK Tryd.prog [ResultVar.tmp 4] R))) (up (up (up (up (up (up (up (up (up (rho0 [a0, a1]) 4 (Value.bool false)) 6 a0) 7 x7) 8 a1) 9 x9) 10 x10) 11 a0) 12 x12) 13 (Value.int .i64 0)) w)
theorem slices_Equal_int_int_eq (a0 a1 : Value) (w : World) (R : Value → World → Prop) : sx fn_ Tryd.prog 26 slices_Equal_int_int_b (retK Tryd.prog Tryd.f62.results.toList R) (rho0 [a0, a1]) w = slices_Equal_int_int_F a0 a1 w R := by kernel_rfl
theorem slices_Equal_int_int_calls {a0 a1 : Value} {w : World} {R : Value → World → Prop} (h : slices_Equal_int_int_F a0 a1 w R) : Calls Tryd.prog 62 #[a0, a1] w fun e w' => ∃ v, e = .returned v ∧ R v w' :=
  Go.X.calls_of_sx (n := 26) (c := slices_Equal_int_int_b) Tryd.func62 (by kernel_rfl) (by kernel_rfl) (Nat.le_of_ble_eq_true rfl) (by kernel_rfl) (Eq.mpr (slices_Equal_int_int_eq a0 a1 w R) h)
end Go.Proofs.YtandbmnhghmcgaaDoor.XF
set_option linter.unusedVariables false
namespace Go.Proofs.YtandbmnhghmcgaaDoor.XK
open Go Go.X
end Go.Proofs.YtandbmnhghmcgaaDoor.XK
set_option linter.unusedVariables false
set_option linter.unusedSimpArgs false
set_option maxRecDepth 4000
namespace Go.X
open Go Go.RowKit
def strV (k : List UInt8) : Value := .string ⟨k.toArray⟩
def sb (v : Value) (b : Nat) : Prop := v.ownBlock = some b
theorem findE_none {κ : Type} [DecidableEq κ] {k : κ} : ∀ {l : List (Ent κ)} {n : Nat}, findE k l n = none ↔ ∀ e ∈ l, e.k ≠ k
  | [], n => by simp [findE]
  | e :: r, n => by
    unfold findE
    by_cases h : k = e.k
    · simp [h]
    · simp only [h, if_false, findE_none (l := r) (n := n + 1), List.mem_cons]
      refine ⟨fun q x hx => ?_, fun q x hx => q x (.inr hx)⟩
      rcases hx with rfl | hx
      · exact fun z => h z.symm
      · exact q x hx
theorem app_get {α : Type} {l : List α} {x : α} {i : Nat} {a : α} (hi : (l ++ [x])[i]? = some a) : l[i]? = some a ∨ i = l.length ∧ a = x := by
  rcases Nat.lt_or_ge i l.length with q | q
  · rw [List.getElem?_append_left q] at hi; exact .inl hi
  · rw [List.getElem?_append_right q] at hi
    have : i - l.length = 0 := by
      rcases Nat.eq_zero_or_pos (i - l.length) with z | z
      · exact z
      · rw [List.getElem?_eq_none (by simp only [List.length_cons, List.length_nil]; omega)] at hi; cases hi
    rw [this] at hi
    exact .inr ⟨by omega, by simpa using hi.symm⟩
theorem bl_irr : ∀ a : List UInt8, Op.bytesLess a a = false
  | [] => rfl
  | a :: x => by simp [Op.bytesLess, bl_irr x]
theorem bl_tri : ∀ {a b : List UInt8}, Op.bytesLess a b = false → Op.bytesLess b a = false → a = b
  | [], [], _, _ => rfl
  | [], _ :: _, h, _ => by simp [Op.bytesLess] at h
  | _ :: _, [], _, h => by simp [Op.bytesLess] at h
  | a :: x, b :: y, h, k => by
    simp only [Op.bytesLess, Bool.or_eq_false_iff, decide_eq_false_iff_not, Bool.and_eq_false_iff] at h k
    have e : a = b := by
      apply UInt8.le_antisymm
      · exact UInt8.not_lt.1 k.1
      · exact UInt8.not_lt.1 h.1
    subst e
    simp at h k
    rw [bl_tri h k]
theorem bl_tr : ∀ {a b c : List UInt8}, Op.bytesLess a b = true → Op.bytesLess b c = true → Op.bytesLess a c = true
  | _, [], _, h, _ => by cases ‹List UInt8› <;> simp [Op.bytesLess] at h
  | _, _ :: _, [], _, h => by simp [Op.bytesLess] at h
  | [], _ :: _, _ :: _, _, _ => by simp [Op.bytesLess]
  | a :: x, b :: y, c :: z, h, k => by
    simp only [Op.bytesLess, Bool.or_eq_true, decide_eq_true_eq, Bool.and_eq_true, beq_iff_eq] at h k ⊢
    rcases h with h | ⟨rfl, h⟩ <;> rcases k with k | ⟨rfl, k⟩
    · exact .inl (UInt8.lt_trans h k)
    · exact .inl h
    · exact .inl k
    · exact .inr ⟨rfl, bl_tr h k⟩
theorem bl_asym {a b : List UInt8} (h : Op.bytesLess a b = true) : Op.bytesLess b a = false := by
  cases k : Op.bytesLess b a with
  | false => rfl
  | true => have := bl_tr h k; rw [bl_irr] at this; cases this
def ints (l : List Int) : List Value := l.map (Value.int .i64)
theorem ints_get {l : List Int} {i : Nat} {x : Int} (h : l[i]? = some x) : (ints l)[i]? = some (.int .i64 x) := by unfold ints; simp [h]
theorem bs0_k {P : Program} {w : World} {K : Value → World → Prop} {t e : TypeId} {n : Nat} (hu : P.underlying t = some (.slice e)) (hi : (P.info? e).map (·.size) = some n)
    (hk : ∀ w', w'.heap[w.heap.size]? = some (.cells #[] e (0, 0)) → Mod none_ w w' → w'.heap.size = w.heap.size + 1 → K (.slice (some ⟨w.heap.size, 0, none⟩) 0 0) w') : VK P (Instr.buildSlice t 0 [].toArray) w K := by
  obtain ⟨ie, hie, _⟩ := Option.map_eq_some_iff.1 hi
  have hr : (Instr.buildSlice t 0 [].toArray).run P w = .ok (.slice (some ⟨w.heap.size, 0, none⟩) 0 0) (w.alloc (.cells #[] e)) := by
    simp [Instr.buildSlice, Sem.run_bind, run_underlying hu, sizeOf, typeInfo, hie, Instr.fill, newRow]
    rw [Array.eq_empty_of_size_eq_zero (xs := Array.map _ (Array.range 0)) (by simp)]
  exact VK_of hr (new_k w _ hk)
theorem owns_zero {w : World} {b : Nat} {e : TypeId} {size base : Nat} (h : w.heap[b]? = some (.cells #[] e (0, 0))) (hb : base ≤ b) : w.ownsRow base e size (.slice (some ⟨b, 0, none⟩) 0 0) 0 [] :=
  ⟨by simp, .inr ⟨b, 0, #[], rfl, hb, h, Nat.le_refl _, Nat.zero_le _, by simp, by simp⟩⟩
theorem findE_map {κ : Type} [DecidableEq κ] {k : κ} : ∀ {l : List (Ent κ)} {n : Nat}, (findE k l n).map (·.2) = (l.find? fun e => decide (e.k = k)).map (·.v)
  | [], n => rfl
  | e :: r, n => by
    unfold findE
    by_cases h : k = e.k
    · rw [if_pos h, List.find?_cons_of_pos (by simp [h])]; rfl
    · rw [if_neg h, List.find?_cons_of_neg (by simpa using fun q : e.k = k => h q.symm)]
      exact findE_map
theorem beqB (a b : List UInt8) : ((⟨a.toArray⟩ : ByteArray) == ⟨b.toArray⟩) = decide (a = b) := by
  show ((a.toArray : Array UInt8) == b.toArray) = decide (a = b)
  by_cases h : a = b
  · subst h; simp
  · rw [decide_eq_false h]
    apply Bool.eq_false_iff.2
    intro q
    apply h
    have := eq_of_beq q
    simpa using this
end Go.X
namespace Go.Proofs.YtandbmnhghmcgaaDoor.Col
open Go Go.X Go.RowKit Go.Proofs.YtandbmnhghmcgaaDoor.XF Go.Proofs.YtandbmnhghmcgaaDoor.XK
theorem vI : Tryd.prog.underlying 3 = some (.int .i64) := by kernel_rfl
theorem vB : Tryd.prog.underlying 4 = some .bool := by kernel_rfl
theorem vS : Tryd.prog.underlying 9 = some .string := by kernel_rfl
theorem vIs : Tryd.prog.underlying 30 = some (.slice 3) := by kernel_rfl
theorem chkS (e : Bool) (n : Nat) (k : ByteArray) (w : World) : (Instr.checkKey e (n + 1) 9 (.string k)).run Tryd.prog w = .ok () w := by
  simp [Instr.checkKey, Sem.run_bind, run_underlying vS]
theorem KT : KeyT Tryd.prog 9 strV where
  find := fun k l w => by
    have gen : ∀ (l : List (Ent (List UInt8))) (i : Nat), Instr.findNow .string (strV k) (l.map (Ent.enc strV)) i = some (findE k l i) := by
      intro l
      induction l with
      | nil => intro i; rfl
      | cons e r ih =>
        intro i
        simp only [List.map_cons, Instr.findNow, Ent.enc, strV, Instr.sameNow, beqB, findE]
        by_cases h : k = e.k
        · simp [h]
        · simp only [h, decide_false, if_false]
          exact ih (i + 1)
    unfold Instr.findKey
    rw [Sem.run_bind, run_underlying vS]
    simp only [Result.andThen_ok, gen]
    rfl
  check := fun e k w => chkS e 9999 _ w
  bits := fun k => by
    show Instr.sameBits (9999 + 1) _ _ = true
    simp [strV, Instr.sameBits]
    show ((k.toArray : Array UInt8) == k.toArray) = true
    simp
  inj := fun a b h => by simpa [strV] using h
end Go.Proofs.YtandbmnhghmcgaaDoor.Col
set_option linter.unusedVariables false
set_option linter.unusedSimpArgs false
namespace Go.X
open Go
abbrev Ky := List UInt8
structure Pt where
  kind : Int
  root : Int
  op : Int
  val : Int
  color : Int
  key : Int
  deriving DecidableEq
def zPt : Pt := ⟨0, 0, 0, 0, 0, 0⟩
structure Br where
  key : Ky
  ranks : List Int
  rank : Int
  p : Pt
def atK (key : Ky) (rank : Int) (b : Br) : Bool := decide (b.key = key) && decide (b.rank = rank)
def grpC (L : List Br) (key : Ky) : Option (List Int) := (L.find? fun b => decide (b.key = key)).map (·.ranks)
def partsC (L : List Br) (key : Ky) (rank : Int) : List Pt := (L.filter (atK key rank)).map (·.p)
def nthC (l : List Pt) (k : Int) : Option Pt := if 0 ≤ k then l[k.toNat]? else none
def partC (L : List Br) (key : Ky) (rank : Int) (k : Int) : Option Pt := nthC (partsC L key rank) k
def mayG (r : List Int) : Bool := decide (0 < r.length) && (r.all (fun x => decide (0 ≤ x) && decide (x ≤ 63)) && decide r.Nodup)
def rootedK (k : Int) : Bool := decide (k = 16) || (decide (k = 17) || decide (k = 19))
def reducesK (k : Int) : Bool := decide (k = 17) || decide (k = 18)
def mayPt (n : Nat) (p : Pt) : Bool := decide (15 ≤ p.kind) && decide (p.kind ≤ 21) && (decide (0 ≤ p.root) && decide (p.root < n)) && (decide (p.root = 0) || rootedK p.kind) && (decide (p.op ≤ 2) && (decide (p.op = 0) || reducesK p.kind))
def fitPt (a b : Pt) : Bool := decide (a.kind = b.kind) && (decide (a.root = b.root) && decide (a.op = b.op))
def sameG (L : List Br) (key : Ky) (ranks : List Int) : Bool := match grpC L key with | none => true | some r => decide (r = ranks)
def okC (L : List Br) (b : Br) : Bool := mayG b.ranks && (decide (b.rank ∈ b.ranks) && (sameG L b.key b.ranks && mayPt b.ranks.length b.p))
def bringC (L : List Br) (b : Br) : List Br × Int × Int := if okC L b then (L ++ [b], (partsC L b.key b.rank).length, 0) else (L, 0, 2)
structure CInv (L : List Br) : Prop where
  ok : ∀ b ∈ L, mayG b.ranks = true ∧ b.rank ∈ b.ranks ∧ mayPt b.ranks.length b.p = true ∧ grpC L b.key = some b.ranks
theorem CInv.nil : CInv [] := ⟨fun b hb => by cases hb⟩
theorem grpC_snoc (L : List Br) (b : Br) (k : Ky) : grpC (L ++ [b]) k = match grpC L k with | some r => some r | none => if b.key = k then some b.ranks else none := by
  unfold grpC
  rw [List.find?_append]
  cases L.find? (fun b => decide (b.key = k)) with
  | some x => rfl
  | none =>
    by_cases h : b.key = k
    · simp [h]
    · simp [h]
theorem partsC_snoc (L : List Br) (b : Br) (k : Ky) (r : Int) : partsC (L ++ [b]) k r = partsC L k r ++ (if atK k r b then [b.p] else []) := by
  unfold partsC
  rw [List.filter_append, List.map_append]
  by_cases h : atK k r b = true
  · simp [h]
  · simp [h]
theorem partsC_mem {L : List Br} {k : Ky} {r : Int} {p : Pt} (h : p ∈ partsC L k r) : ∃ b ∈ L, b.key = k ∧ b.rank = r ∧ b.p = p := by
  unfold partsC at h
  obtain ⟨b, hb, rfl⟩ := List.mem_map.1 h
  obtain ⟨h1, h2⟩ := List.mem_filter.1 hb
  simp only [atK, Bool.and_eq_true, decide_eq_true_eq] at h2
  exact ⟨b, h1, h2.1, h2.2, rfl⟩
theorem grpC_some {L : List Br} {k : Ky} {r : List Int} (h : grpC L k = some r) : ∃ b ∈ L, b.key = k ∧ b.ranks = r := by
  unfold grpC at h
  obtain ⟨b, hb, rfl⟩ := Option.map_eq_some_iff.1 h
  exact ⟨b, List.mem_of_find?_eq_some hb, by simpa using List.find?_some hb, rfl⟩
theorem grpC_isSome {L : List Br} {k : Ky} : (grpC L k).isSome = true ↔ ∃ b ∈ L, b.key = k := by
  unfold grpC
  simp [Option.isSome_map, List.find?_isSome]
theorem CInv.part {L : List Br} (h : CInv L) {k : Ky} {r : Int} {p : Pt} (hp : p ∈ partsC L k r) : ∃ g, grpC L k = some g ∧ r ∈ g ∧ mayPt g.length p = true := by
  obtain ⟨b, hb, rfl, rfl, rfl⟩ := partsC_mem hp
  obtain ⟨_, h2, h3, h4⟩ := h.ok b hb
  exact ⟨b.ranks, h4, h2, h3⟩
theorem CInv.grp {L : List Br} (h : CInv L) {k : Ky} {g : List Int} (hg : grpC L k = some g) : mayG g = true := by
  obtain ⟨b, hb, rfl, rfl⟩ := grpC_some hg
  exact (h.ok b hb).1
theorem CInv.none {L : List Br} (h : CInv L) {k : Ky} (hg : grpC L k = .none) (r : Int) : partsC L k r = [] := by
  cases hp : partsC L k r with
  | nil => rfl
  | cons p l =>
    obtain ⟨g, h1, _⟩ := h.part (k := k) (r := r) (p := p) (by rw [hp]; simp)
    rw [hg] at h1; cases h1
theorem CInv.other {L : List Br} (h : CInv L) {k : Ky} {g : List Int} (hg : grpC L k = some g) {r : Int} (hr : r ∉ g) : partsC L k r = [] := by
  cases hp : partsC L k r with
  | nil => rfl
  | cons p l =>
    obtain ⟨g', h1, h2, _⟩ := h.part (k := k) (r := r) (p := p) (by rw [hp]; simp)
    rw [hg] at h1; cases h1; exact absurd h2 hr
theorem CInv.bring {L : List Br} (h : CInv L) {b : Br} (hb : okC L b = true) : CInv (L ++ [b]) := by
  unfold okC at hb
  simp only [Bool.and_eq_true, decide_eq_true_eq] at hb
  obtain ⟨h1, h2, h3, h4⟩ := hb
  refine ⟨fun x hx => ?_⟩
  rcases List.mem_append.1 hx with hx | hx
  · obtain ⟨a1, a2, a3, a4⟩ := h.ok x hx
    exact ⟨a1, a2, a3, by rw [grpC_snoc, a4]⟩
  · obtain rfl := List.mem_singleton.1 hx
    refine ⟨h1, h2, h4, ?_⟩
    rw [grpC_snoc]
    unfold sameG at h3
    cases hg : grpC L x.key with
    | none => simp
    | some r => rw [hg] at h3; simp only [decide_eq_true_eq] at h3; rw [h3]
theorem CInv.bringC {L : List Br} (h : CInv L) (b : Br) : CInv (bringC L b).1 := by
  unfold X.bringC
  split
  · exact h.bring (by assumption)
  · exact h
theorem bringC_len (L : List Br) (b : Br) : (bringC L b).1.length ≤ L.length + 1 := by
  unfold bringC
  split
  · simp
  · simp
theorem mayG_iff {r : List Int} : mayG r = true ↔ 0 < r.length ∧ (∀ x ∈ r, 0 ≤ x ∧ x ≤ 63) ∧ r.Nodup := by
  simp [mayG, List.all_eq_true]
def fitO (L : List Br) (key : Ky) (k : Int) (own : Pt) (r : Int) : Bool := match partC L key r k with | some p => fitPt p own | none => false
def overC (loose : Bool) (L : List Br) (key : Ky) (rank k : Int) : Bool :=
  match partC L key rank k with
  | none => false
  | some own =>
    let g := (grpC L key).getD []
    if loose && decide (own.kind = 16) then fitO L key k own (g.getD own.root.toNat 0)
    else if loose && (rootedK own.kind && decide (g.getD own.root.toNat 0 ≠ rank)) then true
    else g.all (fitO L key k own)
structure Td where
  val : Int
  row : List Int
  gkey : Ky
  ranks : List Int
  has : Bool
def zTd : Td := ⟨0, [], [], [], false⟩
def valsC (L : List Br) (key : Ky) (g : List Int) (k : Int) : List Int := g.map fun r => ((partC L key r k).getD zPt).val
def redC (op : Int) : List Int → Int
  | [] => 0
  | v :: l => l.foldl (fun s v => if op = 0 then IntKind.i64.wrap (s + v) else if op = 1 then (if s < v then v else s) else if v < s then v else s) v
def askC (L : List Br) (key : Ky) (g : List Int) (k : Int) : List (Int × Int) := g.map fun r => let p := (partC L key r k).getD zPt; (p.color, p.key)
structure Ak where
  color : Int
  key : Int
  rank : Int
  deriving DecidableEq
def ltA (a b : Ak) : Bool := decide (a.color < b.color) || (decide (a.color = b.color) && decide (a.key < b.key))
def insA (x : Ak) : List Ak → List Ak
  | [] => [x]
  | y :: l => if ltA x y then x :: y :: l else y :: insA x l
def sortA (l : List Ak) : List Ak := l.foldl (fun s x => insA x s) []
def asksC (g : List Int) (asks : List (Int × Int)) : List Ak := ((g.zip asks).map fun x => ⟨x.2.1, x.2.2, x.1⟩).filter fun a => decide (0 ≤ a.color)
def grpA : List (Int × List Int) → List Ak → List (Int × List Int)
  | out, [] => out
  | out, a :: l => match out.getLast? with
    | some (c, r) => if c = a.color then grpA (out.dropLast ++ [(c, r ++ [a.rank])]) l else grpA (out ++ [(a.color, [a.rank])]) l
    | none => grpA [(a.color, [a.rank])] l
def splitC (g : List Int) (asks : List (Int × Int)) : List (Int × List Int) := grpA [] (sortA (asksC g asks))
end Go.X
set_option linter.unusedVariables false
set_option linter.unusedSimpArgs false
namespace Go.X
structure WO {α : Type} (lt : α → α → Bool) : Prop where
  irr : ∀ a, lt a a = false
  asym : ∀ a b, lt a b = true → lt b a = false
  tr : ∀ a b c, lt b a = false → lt c b = false → lt c a = false
section
variable {α : Type} {lt : α → α → Bool}
def eqv (lt : α → α → Bool) (a b : α) : Bool := !lt a b && !lt b a
def SortedL (lt : α → α → Bool) (l : List α) : Prop := l.Pairwise fun a b => lt b a = false
structure Stab (lt : α → α → Bool) (l s : List α) : Prop where
  so : SortedL lt s
  eq : ∀ x, s.filter (eqv lt x) = l.filter (eqv lt x)
theorem eqv_refl (W : WO lt) (a : α) : eqv lt a a = true := by simp [eqv, W.irr]
theorem SameF.mem (W : WO lt) {l s : List α} (h : ∀ x, s.filter (eqv lt x) = l.filter (eqv lt x)) {a : α} : a ∈ s ↔ a ∈ l := by
  have h1 : a ∈ s ↔ a ∈ s.filter (eqv lt a) := by simp [eqv_refl W]
  have h2 : a ∈ l ↔ a ∈ l.filter (eqv lt a) := by simp [eqv_refl W]
  rw [h1, h2, h]
theorem Stab.mem (W : WO lt) {l s : List α} (h : Stab lt l s) {a : α} : a ∈ s ↔ a ∈ l := SameF.mem W h.eq
theorem Stab.len (W : WO lt) : ∀ {l s : List α}, (∀ x, s.filter (eqv lt x) = l.filter (eqv lt x)) → s.length = l.length := by
  intro l
  induction hn : l.length using Nat.strongRecOn generalizing l with
  | ind n ih =>
    intro s h
    cases l with
    | nil =>
      cases s with
      | nil => simpa using hn
      | cons b s => have := h b; simp [eqv_refl W] at this
    | cons a l =>
      have c1 : ∀ (m : List α), m.length = (m.filter (eqv lt a)).length + (m.filter fun x => !eqv lt a x).length := fun m => by
        induction m with
        | nil => rfl
        | cons b m ih => by_cases c : eqv lt a b = true <;> simp [c, ih] <;> omega
      have c2 := c1 s
      have c3 := c1 (a :: l)
      rw [h a] at c2
      have key : (s.filter fun x => !eqv lt a x).length = ((a :: l).filter fun x => !eqv lt a x).length := by
        refine ih _ ?_ rfl (fun x => ?_)
        · rw [← hn]
          rw [List.filter_cons_of_neg (by simp [eqv_refl W])]
          exact Nat.lt_of_le_of_lt (List.length_filter_le _ _) (by simp)
        · rw [List.filter_filter, List.filter_filter]
          have e1 : ∀ m : List α, m.filter (fun y => eqv lt x y && !eqv lt a y) = (m.filter (eqv lt x)).filter fun y => !eqv lt a y := fun m => by
            rw [List.filter_filter]
            congr 1; funext y; rw [Bool.and_comm]
          rw [e1, e1, h x]
      omega
theorem Stab.refl {l : List α} (h : SortedL lt l) : Stab lt l l := ⟨h, fun _ => rfl⟩
theorem Stab.trans {l m s : List α} (h : ∀ x, m.filter (eqv lt x) = l.filter (eqv lt x)) (k : Stab lt m s) : Stab lt l s := ⟨k.so, fun x => (k.eq x).trans (h x)⟩
theorem SortedL.at_ {l : List α} (h : SortedL lt l) {i j : Nat} {a b : α} (hij : i < j) (ha : l[i]? = some a) (hb : l[j]? = some b) : lt b a = false := by
  obtain ⟨hj, rfl⟩ := List.getElem?_eq_some_iff.1 hb
  obtain ⟨hi, rfl⟩ := List.getElem?_eq_some_iff.1 ha
  exact List.pairwise_iff_getElem.1 h i j hi hj hij
end
end Go.X
set_option linter.unusedVariables false
set_option linter.unusedSimpArgs false
namespace Go.X
open Go
theorem ltA_iff {a b : Ak} : ltA a b = true ↔ a.color < b.color ∨ a.color = b.color ∧ a.key < b.key := by simp [ltA]
theorem ltA_wo : WO ltA where
  irr a := by rw [Bool.eq_false_iff]; intro h; have := ltA_iff.1 h; omega
  asym a b h := by rw [Bool.eq_false_iff]; intro k; have := ltA_iff.1 h; have := ltA_iff.1 k; omega
  tr a b c h k := by
    rw [Bool.eq_false_iff] at h k ⊢
    intro z
    have z := ltA_iff.1 z
    have h : ¬ (b.color < a.color ∨ b.color = a.color ∧ b.key < a.key) := fun q => h (ltA_iff.2 q)
    have k : ¬ (c.color < b.color ∨ c.color = b.color ∧ c.key < b.key) := fun q => k (ltA_iff.2 q)
    omega
def childK (key : Ky) (k : Int) : Ky := key ++ 46 :: Lib.itoa k
def subK (key : Ky) (k c : Int) : Ky := childK key k ++ 58 :: Lib.itoa c
def tellC (L : List Br) (key : Ky) (rank k : Int) (own : Pt) : Td :=
  let g := (grpC L key).getD []
  let mine := decide (g.getD own.root.toNat 0 = rank)
  if own.kind = 16 then { zTd with val := ((partC L key (g.getD own.root.toNat 0) k).getD zPt).val }
  else if own.kind = 17 then (if mine then { zTd with val := redC own.op (valsC L key g k) } else zTd)
  else if own.kind = 18 then { zTd with val := redC own.op (valsC L key g k) }
  else if own.kind = 19 then (if mine then { zTd with row := valsC L key g k } else zTd)
  else if own.kind = 20 then { zTd with gkey := childK key k, ranks := g, has := true }
  else if own.kind = 21 then (match (splitC g (askC L key g k)).find? (fun x => decide (rank ∈ x.2)) with | some (c, r) => { zTd with gkey := subK key k c, ranks := r, has := true } | none => zTd)
  else zTd
def toldC (loose : Bool) (L : List Br) (key : Ky) (rank k : Int) : Td × Bool :=
  if overC loose L key rank k then (match partC L key rank k with | some own => (tellC L key rank k own, true) | none => (zTd, false)) else (zTd, false)
end Go.X
set_option linter.unusedVariables false
set_option linter.unusedSimpArgs false
namespace Go.X
open Go
section
variable {L : List Br} {key : Ky} {k : Int}
theorem partC_mem {r : Int} {p : Pt} (h : partC L key r k = some p) : p ∈ partsC L key r ∧ 0 ≤ k := by
  unfold partC nthC at h
  split at h
  · exact ⟨List.mem_of_getElem? h, by assumption⟩
  · cases h
theorem CInv.own (hI : CInv L) {rank : Int} {p : Pt} (h : partC L key rank k = some p) : ∃ g, grpC L key = some g ∧ rank ∈ g ∧ mayPt g.length p = true := hI.part (partC_mem h).1
theorem fitPt_refl (p : Pt) : fitPt p p = true := by simp [fitPt]
theorem fitPt_iff {a b : Pt} : fitPt a b = true ↔ a.kind = b.kind ∧ a.root = b.root ∧ a.op = b.op := by simp [fitPt]
end
end Go.X
set_option linter.unusedVariables false
set_option linter.unusedSimpArgs false
namespace Go.X
open Go
def presC (L : List Br) (key : Ky) (g : List Int) (k : Int) : List Pt := g.filterMap fun r => partC L key r k
def fitAll : List Pt → Bool
  | [] => true
  | f :: r => r.all (fitPt f)
def oddK (L : List Br) (key : Ky) (k : Int) : Bool := !fitAll (presC L key ((grpC L key).getD []) k)
def keysOf (L : List Br) : List Ky := L.foldl (fun s b => if b.key ∈ s then s else s ++ [b.key]) []
def leK (x y : Ky) : Bool := decide (x ≤ y)
def keysC (L : List Br) : List Ky := (keysOf L).mergeSort leK
def oddC (L : List Br) : List Ky := (keysC L).flatMap fun key => ((List.range L.length).filter fun k : Nat => oddK L key k).map fun k : Nat => childK key k
theorem snoc_of {α : Type} {L : List α} (h : L ≠ []) : ∃ l b, L = l ++ [b] := ⟨L.dropLast, L.getLast h, (List.dropLast_concat_getLast h).symm⟩
theorem keysOf_snoc (L : List Br) (b : Br) : keysOf (L ++ [b]) = if b.key ∈ keysOf L then keysOf L else keysOf L ++ [b.key] := by
  unfold keysOf
  rw [List.foldl_append]
  rfl
theorem keysOf_mem : ∀ {L : List Br} {k : Ky}, k ∈ keysOf L ↔ ∃ b ∈ L, b.key = k := by
  intro L
  induction hn : L.length generalizing L with
  | zero => intro k; have : L = [] := List.eq_nil_of_length_eq_zero hn; subst this; simp [keysOf]
  | succ n ih =>
    intro k
    obtain ⟨l, b, rfl⟩ := snoc_of (L := L) (by intro q; rw [q] at hn; simp at hn)
    have ih := @ih l (by simpa using hn)
    rw [keysOf_snoc]
    by_cases h : b.key ∈ keysOf l
    · rw [if_pos h, ih]
      constructor
      · rintro ⟨x, hx, rfl⟩; exact ⟨x, by simp [hx], rfl⟩
      · rintro ⟨x, hx, rfl⟩
        rcases List.mem_append.1 hx with z | z
        · exact ⟨x, z, rfl⟩
        · rw [List.mem_singleton.1 z]; exact ih.1 h
    · rw [if_neg h]
      simp only [List.mem_append, List.mem_singleton, ih]
      constructor
      · rintro (⟨x, hx, rfl⟩ | rfl)
        · exact ⟨x, .inl hx, rfl⟩
        · exact ⟨b, .inr rfl, rfl⟩
      · rintro ⟨x, hx | rfl, rfl⟩
        · exact .inl ⟨x, hx, rfl⟩
        · exact .inr rfl
theorem keysOf_nodup (L : List Br) : (keysOf L).Nodup := by
  induction hn : L.length generalizing L with
  | zero => have : L = [] := List.eq_nil_of_length_eq_zero hn; subst this; simp [keysOf]
  | succ n ih =>
    obtain ⟨l, b, rfl⟩ := snoc_of (L := L) (by intro q; rw [q] at hn; simp at hn)
    have ih := @ih l (by simpa using hn)
    rw [keysOf_snoc]
    split
    · exact ih
    · rename_i h
      rw [List.nodup_append]
      refine ⟨ih, by simp, fun a ha b' hb q => ?_⟩
      rw [List.mem_singleton.1 hb] at q
      exact h (q ▸ ha)
def worldL (n : Nat) : List Int := (List.range n).map fun i : Nat => (i : Int)
theorem worldL_len (n : Nat) : (worldL n).length = n := by simp [worldL]
theorem worldL_mem {n : Nat} {x : Int} : x ∈ worldL n ↔ 0 ≤ x ∧ x < n := by
  simp only [worldL, List.mem_map, List.mem_range]
  constructor
  · rintro ⟨i, hi, rfl⟩; omega
  · rintro ⟨h0, h1⟩; exact ⟨x.toNat, by omega, by omega⟩
theorem worldL_nodup (n : Nat) : (worldL n).Nodup := by
  unfold worldL
  rw [List.nodup_iff_pairwise_ne, List.pairwise_map]
  exact (List.nodup_range (n := n)).imp fun h q => h (by omega)
theorem worldL_may {n : Nat} (h : 1 ≤ n) (h2 : n ≤ 64) : mayG (worldL n) = true := by
  refine mayG_iff.2 ⟨by rw [worldL_len]; omega, fun x hx => ?_, worldL_nodup n⟩
  have := worldL_mem.1 hx
  omega
structure Wd (n : Nat) (L : List Br) : Prop where
  all : ∀ b ∈ L, b.key = [] ∧ b.ranks = worldL n
theorem Wd.nil (n : Nat) : Wd n [] := ⟨fun b hb => by cases hb⟩
theorem Wd.grp {n : Nat} {L : List Br} (h : Wd n L) (hn : L ≠ []) : grpC L [] = some (worldL n) := by
  cases L with
  | nil => exact absurd rfl hn
  | cons b l =>
    obtain ⟨h1, h2⟩ := h.all b (by simp)
    unfold grpC
    rw [List.find?_cons_of_pos (by simp [h1])]
    simp [h2]
theorem Wd.same {n : Nat} {L : List Br} (h : Wd n L) : sameG L [] (worldL n) = true := by
  unfold sameG
  by_cases hn : L = []
  · subst hn; rfl
  · rw [h.grp hn]; simp
theorem Wd.ok {n : Nat} {L : List Br} (h : Wd n L) (h1 : 1 ≤ n) (h2 : n ≤ 64) {r : Int} (hr : r ∈ worldL n) {p : Pt} (hp : mayPt n p = true) : okC L ⟨[], worldL n, r, p⟩ = true := by
  unfold okC
  simp only [worldL_may h1 h2, hr, decide_true, h.same, worldL_len, hp, Bool.and_self]
theorem Wd.bring {n : Nat} {L : List Br} (h : Wd n L) (h1 : 1 ≤ n) (h2 : n ≤ 64) {r : Int} (hr : r ∈ worldL n) {p : Pt} (hp : mayPt n p = true) :
    bringC L ⟨[], worldL n, r, p⟩ = (L ++ [⟨[], worldL n, r, p⟩], ((partsC L [] r).length : Int), 0) := by
  unfold bringC
  rw [if_pos (h.ok h1 h2 hr hp)]
theorem Wd.snoc {n : Nat} {L : List Br} (h : Wd n L) (r : Int) (p : Pt) : Wd n (L ++ [⟨[], worldL n, r, p⟩]) := by
  refine ⟨fun b hb => ?_⟩
  rcases List.mem_append.1 hb with z | z
  · exact h.all b z
  · rw [List.mem_singleton.1 z]; exact ⟨rfl, rfl⟩
theorem Wd.keys {n : Nat} {L : List Br} (h : Wd n L) : keysC L = if L = [] then [] else [[]] := by
  by_cases hn : L = []
  · subst hn; simp [keysC, keysOf]
  · rw [if_neg hn]
    have hk : keysOf L = [[]] := by
      have hnd := keysOf_nodup L
      have hm : ∀ x ∈ keysOf L, x = [] := fun x hx => by
        obtain ⟨b, hb, rfl⟩ := keysOf_mem.1 hx
        exact (h.all b hb).1
      have h0 : ([] : Ky) ∈ keysOf L := by
        cases L with
        | nil => exact absurd rfl hn
        | cons b l => exact keysOf_mem.2 ⟨b, by simp, (h.all b (by simp)).1⟩
      generalize keysOf L = ks at *
      match ks with
      | [] => simp at h0
      | [x] => rw [hm x (by simp)]
      | x :: y :: r =>
        have e1 := hm x (by simp)
        have e2 := hm y (by simp)
        subst e1 e2
        simp at hnd
    unfold keysC
    rw [hk]
    simp
theorem fitPt_symm {a b : Pt} (h : fitPt a b = true) : fitPt b a = true := by
  obtain ⟨h1, h2, h3⟩ := fitPt_iff.1 h
  exact fitPt_iff.2 ⟨h1.symm, h2.symm, h3.symm⟩
theorem fitPt_trans {a b c : Pt} (h : fitPt a b = true) (k : fitPt b c = true) : fitPt a c = true := by
  obtain ⟨h1, h2, h3⟩ := fitPt_iff.1 h
  obtain ⟨k1, k2, k3⟩ := fitPt_iff.1 k
  exact fitPt_iff.2 ⟨h1.trans k1, h2.trans k2, h3.trans k3⟩
theorem fitAll_iff {l : List Pt} : fitAll l = true ↔ ∀ a ∈ l, ∀ b ∈ l, fitPt a b = true := by
  cases l with
  | nil => simp [fitAll]
  | cons f r =>
    simp only [fitAll, List.all_eq_true]
    constructor
    · intro h
      have hf : ∀ a ∈ f :: r, fitPt f a = true := fun a ha => by
        rcases List.mem_cons.1 ha with rfl | z
        · exact fitPt_refl _
        · exact h a z
      exact fun a ha b hb => fitPt_trans (fitPt_symm (hf a ha)) (hf b hb)
    · exact fun h a ha => h f (by simp) a (by simp [ha])
end Go.X
set_option linter.unusedVariables false
set_option linter.unusedSimpArgs false
namespace Go.X
open Go
section
variable {parts : List Pt} {lacks : Int}
end
structure FullL (parts : List Pt) (L : List Br) : Prop where
  wd : Wd parts.length L
  len : L.length = parts.length
  inv : CInv L
  pt : ∀ i : Nat, i < parts.length → partsC L [] (i : Int) = [parts.getD i zPt]
theorem FullL.alike {parts : List Pt} {A B : List Br} (hn : 1 ≤ parts.length) (hA : FullL parts A) (hB : FullL parts B) : grpC A [] = grpC B [] ∧ ∀ x : Int, partsC A [] x = partsC B [] x := by
  have nA : A ≠ [] := fun q => by have := hA.len; rw [q] at this; simp at this; omega
  have nB : B ≠ [] := fun q => by have := hB.len; rw [q] at this; simp at this; omega
  refine ⟨by rw [hA.wd.grp nA, hB.wd.grp nB], fun x => ?_⟩
  by_cases hx : x ∈ worldL parts.length
  · obtain ⟨q1, q2⟩ := worldL_mem.1 hx
    have a := hA.pt x.toNat (by omega)
    have b := hB.pt x.toNat (by omega)
    rw [show ((x.toNat : Nat) : Int) = x by omega] at a b
    rw [a, b]
  · rw [hA.inv.other (hA.wd.grp nA) hx, hB.inv.other (hB.wd.grp nB) hx]
theorem FullL.same {parts : List Pt} {A B : List Br} (hn : 1 ≤ parts.length) (hA : FullL parts A) (hB : FullL parts B) (loose : Bool) (r k : Int) : toldC loose A [] r k = toldC loose B [] r k := by
  obtain ⟨h1, h2⟩ := hA.alike hn hB
  have hp : ∀ x, partC A [] x k = partC B [] x k := fun x => by unfold partC; rw [h2]
  have hv : ∀ g, valsC A [] g k = valsC B [] g k := fun g => by unfold valsC; simp only [hp]
  have ha : ∀ g, askC A [] g k = askC B [] g k := fun g => by unfold askC; simp only [hp]
  have hf : ∀ own, fitO A [] k own = fitO B [] k own := fun own => funext fun r => by unfold fitO; rw [hp]
  have ho : overC loose A [] r k = overC loose B [] r k := by unfold overC; simp only [hp, hf, h1]
  have ht : ∀ own, tellC A [] r k own = tellC B [] r k own := fun own => by unfold tellC; simp only [hp, hv, ha, h1]
  unfold toldC
  simp only [ho, hp, ht]
end Go.X
set_option linter.unusedVariables false
set_option linter.unusedSimpArgs false
set_option maxRecDepth 4000
namespace Go.X
open Go Go.RowKit
def grpV (key : Ky) (rv : Value) : Value := .agg #[strV key, rv]
theorem idxOf_at : ∀ {r : List Int} {n : Nat} {x : Int}, r[n]? = some x → (∀ a ∈ r.take n, a ≠ x) → r.idxOf x = n
  | [], n, x, h, _ => by simp at h
  | a :: r, 0, x, h, _ => by
    obtain rfl : a = x := by simpa using h
    simp
  | a :: r, n + 1, x, h, hno => by
    have h1 : a ≠ x := hno a (by simp)
    have h2 : r[n]? = some x := by simpa using h
    have ih := idxOf_at h2 fun b hb => hno b (by simp [hb])
    rw [List.idxOf_cons]
    have : (a == x) = false := by simpa using h1
    simp [this, ih]
def metL (p : List Int) : List Value := (List.range 64).map fun i : Nat => .int .i64 (if (i : Int) ∈ p then 1 else 0)
theorem metL_len (p : List Int) : (metL p).length = 64 := by simp [metL]
theorem metL_at (p : List Int) {x : Int} (h0 : 0 ≤ x) (h1 : x ≤ 63) : (metL p)[x.toNat]? = some (.int .i64 (if x ∈ p then 1 else 0)) := by
  unfold metL
  rw [List.getElem?_map, List.getElem?_range (by omega)]
  simp only [Option.map_some]
  rw [show ((x.toNat : Nat) : Int) = x by omega]
theorem metL_set (p : List Int) {x : Int} (h0 : 0 ≤ x) (h1 : x ≤ 63) : (metL p).set x.toNat (.int .i64 1) = metL (p ++ [x]) := by
  apply List.ext_getElem?
  intro i
  unfold metL
  rw [List.getElem?_set]
  simp only [List.length_map, List.length_range, List.getElem?_map]
  by_cases hi : i < 64
  · rw [List.getElem?_range hi]
    by_cases e : x.toNat = i
    · subst e
      rw [if_pos rfl, if_pos hi]
      simp only [Option.map_some]
      rw [show ((x.toNat : Nat) : Int) = x by omega]
      simp
    · rw [if_neg e]
      have : (i : Int) ≠ x := by omega
      simp [this]
  · rw [if_neg (by omega), List.getElem?_eq_none (by simp; omega)]
    rfl
def RR (w : World) (v : Value) (r : List Int) : Prop := reads w 1 v r.length (ints r)
theorem RR.mod {S : Nat → Prop} {w w' : World} {v : Value} {r : List Int} (h : RR w v r) (hm : Mod S w w') (hS : ∀ k, k < w.heap.size → sb v k → ¬ S k) : RR w' v r := reads_mod h hm fun k hk z => hS k hk z
theorem RR.calm {w w' : World} {v : Value} {r : List Int} (h : RR w v r) (hm : Mod none_ w w') : RR w' v r := h.mod hm fun _ _ _ => id
end Go.X
namespace Go.Proofs.YtandbmnhghmcgaaDoor.Col
open Go Go.X Go.RowKit Go.Proofs.YtandbmnhghmcgaaDoor.XF Go.Proofs.YtandbmnhghmcgaaDoor.XK
abbrev tI : TypeId := 3
abbrev tIs : TypeId := 30
abbrev tG : TypeId := 32
theorem ixR {w : World} {v : Value} {l : List Int} {i : Nat} {m : Int} (h : RR w v l) (hi : l[i]? = some m) : ∃ a, (∀ w', (Instr.indexAt tIs v (.int .i64 (i : Int))).run Tryd.prog w' = .ok (.pointer (some a)) w') ∧ ∀ w', Mod none_ w w' → (Instr.loadAt tI (.pointer (some a))).run Tryd.prog w' = .ok (.int .i64 m) w' := by
  have hil := (List.getElem?_eq_some_iff.1 hi).1
  obtain ⟨_, A, c, es, hnc, hr⟩ := id h
  obtain ⟨a, ha, _⟩ := hr i _ (ints_get hi)
  subst es ha
  refine ⟨a.add i, fun w' => ?_, fun w' hw => ?_⟩
  · rw [run_ixa (sz := 0) vIs (by kernel_rfl) (by omega) (by omega) w']
    congr 4
    omega
  · obtain ⟨_, A, c, es, _, hc⟩ := h.calm hw
    cases es
    obtain ⟨b, hb, hcell⟩ := hc i _ (ints_get hi)
    cases hb
    exact run_ld1 vI rfl hcell
theorem Index_ok {w : World} {v : Value} {r : List Int} (h : RR w v r) (hl : r.length ≤ 1000000) (x : Int) : Rt Tryd.prog 61 #[v, .int .i64 x] w fun u w' => u = .int .i64 (if x ∈ r then (r.idxOf x : Int) else -1) ∧ w' = w := by
  obtain ⟨A, c, hs, _⟩ := reads_cap h
  refine slices_Index_int_int_calls ?_
  unfold slices_Index_int_int_F
  rw [hs, len_sl vIs, ← hs]
  refine W_loop slices_Index_int_int_L0_ok (fun ρ w' => ∃ n : Nat, n ≤ r.length ∧ ρ 8 = .int .i64 n ∧ ρ 7 = .int .i64 r.length ∧ ρ 0 = v ∧ ρ 1 = .int .i64 x ∧ (∀ a ∈ r.take n, a ≠ x) ∧ w' = w) (fun ρ _ => r.length - (intOf (ρ 8)).toNat)
    ⟨0, Nat.zero_le _, rfl, rfl, rfl, rfl, by simp, rfl⟩ ?_
  rintro ρ w1 ⟨n, hn, h8, h7, h0, h1, hno, rfl⟩
  rw [slices_Index_int_int_L0_eq]; unfold slices_Index_int_int_L0_F
  rw [h8, h7, h0, h1, BK_lss]
  by_cases hlt : n < r.length
  · rw [decide_eq_true (by omega)]
    refine condT ?_
    have hx : r[n]? = some r[n] := List.getElem?_eq_getElem hlt
    obtain ⟨a, hia, hla⟩ := ixR h hx
    refine VK_of (hia _) (VK_of (hla _ (Mod.refl _ _)) ?_)
    rw [BK_eql]
    refine caseC (fun q => ?_) (fun q => ?_)
    · refine ⟨?_, rfl⟩
      have hxe : x = r[n] := by simpa using q
      rw [if_pos (by rw [hxe]; exact List.getElem_mem hlt), idxOf_at (hxe ▸ hx) hno]
      rfl
    · rw [BK_add, wrap_i (by omega) (by omega)]
      refine ⟨⟨n + 1, hlt, rfl, h7, h0, h1, ?_, rfl⟩, ?_⟩
      · rw [List.take_add_one, hx, Option.toList_some]
        intro b z
        rcases List.mem_append.1 z with z | z
        · exact hno b z
        · rw [List.mem_singleton.1 z]; intro y; rw [y] at q; simp at q
      · simp only [sq_n, sq_x, sq_r, bk_n, bk_r, bk_x, rt_r, rt_n, rs_0, rs_t, pk_1, pk_2, up_at, reduceIte, Nat.reduceEqDiff, intOf]; omega
  · obtain rfl : n = r.length := by omega
    rw [decide_eq_false (by omega)]
    refine condF ?_
    rw [sq_x, bk_x, sq_n, slices_Index_int_int_R1_eq]; unfold slices_Index_int_int_R1_F
    refine ⟨?_, rfl⟩
    rw [List.take_length] at hno
    rw [if_neg fun z => hno x z rfl]
    rfl
theorem fG0 {w : World} {b : Nat} {key : Ky} {rv : Value} (h : w.heap[b]? = some (.cells #[strV key, rv] tG (0, 0))) : FO Tryd.prog w tG 0 0 ⟨b, 0, none⟩ 9 (strV key) := FO.blk h (by kernel_rfl) vS rfl rfl
theorem fG1 {w : World} {b : Nat} {key : Ky} {rv : Value} (h : w.heap[b]? = some (.cells #[strV key, rv] tG (0, 0))) : FO Tryd.prog w tG 1 1 ⟨b, 0, none⟩ tIs rv := FO.blk h (by kernel_rfl) vIs rfl rfl
def numI (r : List Int) (x : Int) : Int := if x ∈ r then (r.idxOf x : Int) else 0
theorem Number_ok {w : World} {key : Ky} {rv : Value} {r : List Int} (h : RR w rv r) (hl : r.length ≤ 1000000) (x : Int) : Rt Tryd.prog 35 #[grpV key rv, .int .i64 x] w fun u w' => u = .tuple #[.int .i64 (numI r x), .bool (decide (x ∈ r))] ∧ Mod none_ w w' := by
  refine group_Number_calls ?_
  unfold group_Number_F
  refine box_k (cs := #[strV key, rv]) rfl fun w1 hb1 hm1 hz1 => ?_
  simp only [↓(fG1 hb1).e]
  refine CK_st Tryd.func61 rfl rfl (Index_ok (h.calm hm1) hl x) ?_
  rintro _ w2 ⟨rfl, rfl⟩
  rw [max_i, BK_geq]
  refine ⟨?_, hm1⟩
  unfold numI
  by_cases hx : x ∈ r
  · rw [if_pos hx, if_pos hx, if_neg (by omega), decide_eq_true (by omega), decide_eq_true hx]
  · rw [if_neg hx, if_neg hx, if_pos (by omega), decide_eq_false (by omega), decide_eq_false hx]
theorem EqualI_ok {w : World} {v u : Value} {a b : List Int} (ha : RR w v a) (hb : RR w u b) (hl : a.length ≤ 1000000) : Rt Tryd.prog 62 #[v, u] w fun x w' => x = .bool (decide (a = b)) ∧ Mod none_ w w' := by
  refine slices_Equal_int_int_calls ?_
  unfold slices_Equal_int_int_F
  obtain ⟨A, c, es, _⟩ := reads_cap ha
  obtain ⟨A2, c2, es2, _⟩ := reads_cap hb
  rw [es, len_sl vIs, ← es, es2, len_sl vIs, ← es2, BK_neq]
  by_cases hlen : a.length = b.length
  · rw [show ((a.length : Int) != (b.length : Int)) = false by rw [hlen]; simp]
    refine condF ?_
    rw [es, len_sl vIs, ← es]
    refine W_loop slices_Equal_int_int_L0_ok (fun ρ w' => ∃ i : Nat, i ≤ a.length ∧ ρ 13 = .int .i64 i ∧ ρ 12 = .int .i64 a.length ∧ ρ 0 = v ∧ ρ 1 = u ∧ a.take i = b.take i ∧ Mod none_ w w') (fun ρ _ => a.length - (intOf (ρ 13)).toNat)
      ⟨0, Nat.zero_le _, rfl, rfl, rfl, rfl, by simp, Mod.refl _ _⟩ ?_
    rintro ρ w1 ⟨i, hi, e5, e12, e0, e1, heq, hm⟩
    rw [slices_Equal_int_int_L0_eq]; unfold slices_Equal_int_int_L0_F
    rw [e5, e12, BK_lss]
    by_cases hlt : i < a.length
    · rw [decide_eq_true (by omega)]
      refine condT ?_
      have hx : a[i]? = some a[i] := List.getElem?_eq_getElem hlt
      have hy : b[i]? = some b[i] := List.getElem?_eq_getElem (by omega)
      have ta : a.take (i + 1) = a.take i ++ [a[i]] := by rw [List.take_add_one, hx]; rfl
      have tb : b.take (i + 1) = b.take i ++ [b[i]] := by rw [List.take_add_one, hy]; rfl
      generalize a[i] = x at *
      generalize b[i] = y at *
      obtain ⟨p1, r1, l1⟩ := ixR ha hx
      obtain ⟨p2, r2, l2⟩ := ixR hb hy
      refine slices_Equal_int_int_R2_quiet (D := []) (fun w' => Mod none_ w w') (hm.trans ((Mod.refl _ w1).drawn _)) ?_
      have key : ∀ (ρ' : Sl) (K : Exit → Sl → World → Prop), ρ' 0 = v → ρ' 1 = u → ρ' 5 = .int .i64 i → ρ' 13 = .int .i64 i → ρ' 12 = .int .i64 a.length →
          (∀ (ρ2 : Sl) (w' : World), ρ2 0 = v → ρ2 1 = u → ρ2 13 = .int .i64 i → ρ2 12 = .int .i64 a.length → ρ2 24 = .bool (x != y) → Mod none_ w w' → K .normal ρ2 w') → slices_Equal_int_int_R2_Q (fun w' => Mod none_ w w') K ρ' := by
        intro ρ' K q0 q1 q5 q13 q12 hK
        unfold slices_Equal_int_int_R2_Q
        rw [q0, q1, q5]
        refine QV_of (fun w' _ => r1 w') (QV_of (fun w' hw => l1 w' hw) (QV_of (fun w' _ => r2 w') (QV_of (fun w' hw => l2 w' hw) ?_)))
        refine Qneq ?_
        intro w' hw
        exact hK _ w' q0 q1 q13 q12 rfl hw
      refine key _ _ (by first | exact e0 | rfl) (by first | exact e1 | rfl) (by first | rfl | exact e5) (by first | exact e5 | rfl) (by first | exact e12 | rfl) ?_
      intro ρ2 w' q0 q1 q13 q12 q24 hw
      rw [sq_n, slices_Equal_int_int_R3_eq]; unfold slices_Equal_int_int_R3_F
      rw [q24]
      refine caseC (fun q => ?_) (fun q => ?_)
      · refine ⟨?_, hw⟩
        rw [decide_eq_false]
        · rfl
        · intro z
          rw [z, hy] at hx
          have : x ≠ y := by simpa using q
          exact this (Option.some.inj hx).symm
      · have hxy : x = y := by simpa using q
        rw [bk_n, sq_n, slices_Equal_int_int_R4_eq]; unfold slices_Equal_int_int_R4_F
        rw [q13, BK_add, wrap_i (by omega) (by omega)]
        refine ⟨⟨i + 1, hlt, rfl, q12, q0, q1, by rw [ta, tb, heq, hxy], hw⟩, ?_⟩
        simp only [sq_n, sq_x, sq_r, bk_n, bk_r, bk_x, rt_r, rt_n, rs_0, rs_t, pk_1, pk_2, up_at, reduceIte, Nat.reduceEqDiff, intOf]; omega
    · obtain rfl : i = a.length := by omega
      rw [decide_eq_false (by omega)]
      refine condF ?_
      rw [sq_x, bk_x, sq_n, slices_Equal_int_int_R1_eq]; unfold slices_Equal_int_int_R1_F
      refine ⟨?_, hm⟩
      rw [List.take_length, hlen, List.take_length] at heq
      rw [decide_eq_true heq]; rfl
  · rw [show ((a.length : Int) != (b.length : Int)) = true by rw [bne_iff_ne]; omega]
    refine condT ⟨?_, Mod.refl _ _⟩
    rw [decide_eq_false fun z => hlen (by rw [z])]
theorem Same_ok {w : World} {k1 k2 : Ky} {v u : Value} {a b : List Int} (ha : RR w v a) (hb : RR w u b) (hl : a.length ≤ 1000000) : Rt Tryd.prog 37 #[grpV k1 v, grpV k2 u] w fun x w' => x = .bool (decide (k1 = k2) && decide (a = b)) ∧ Mod none_ w w' := by
  refine group_Same_calls ?_
  unfold group_Same_F
  refine box_k (cs := #[strV k1, v]) rfl fun w1 hb1 hm1 hz1 => ?_
  refine box_k (cs := #[strV k2, u]) rfl fun w2 hb2 hm2 hz2 => ?_
  have hb1' := hm2.blk hb1 id
  have hm := hm1.trans hm2
  simp only [↓(fG0 hb1').e, ↓(fG0 hb2).e]
  by_cases hk : k1 = k2
  · unfold strV
    rw [SEQt (by rw [hk])]
    simp only [↓VG_u, ↓UG_u, ↓MG_u, ↓NG_u, ↓PG_u, ↓BG_u, ↓CG_u, ↓IG_u, ↓VGtt, ↓VGtf, ↓VGft, ↓VGff, ↓UGtt, ↓UGtf, ↓UGft, ↓UGff, ↓MGtt, ↓MGtf, ↓MGft, ↓MGff, ↓NGtt, ↓NGtf, ↓NGft, ↓NGff, ↓PGtt, ↓PGtf, ↓PGft, ↓PGff, ↓BGtt, ↓BGtf, ↓BGft, ↓BGff, ↓CGtt, ↓CGtf, ↓CGft, ↓CGff, ↓IGtt, ↓IGtf, ↓IGft, ↓IGff, ↓PKt, ↓PKf, ↓CDt, ↓CDf, ↓NOTt, ↓NOTf, ↓NK_ptr, ↓(fG1 hb1').e, ↓(fG1 hb2).e]
    refine CK_st Tryd.func62 rfl rfl (EqualI_ok (ha.calm hm) (hb.calm hm) hl) ?_
    rintro _ w3 ⟨rfl, hm3⟩
    rw [decide_eq_true hk, Bool.true_and]
    exact ⟨rfl, hm.trans hm3⟩
  · unfold strV
    rw [SEQf (fun q => hk (by simpa using congrArg (fun b : ByteArray => b.data.toList) q))]
    simp only [↓VG_u, ↓UG_u, ↓MG_u, ↓NG_u, ↓PG_u, ↓BG_u, ↓CG_u, ↓IG_u, ↓VGtt, ↓VGtf, ↓VGft, ↓VGff, ↓UGtt, ↓UGtf, ↓UGft, ↓UGff, ↓MGtt, ↓MGtf, ↓MGft, ↓MGff, ↓NGtt, ↓NGtf, ↓NGft, ↓NGff, ↓PGtt, ↓PGtf, ↓PGft, ↓PGff, ↓BGtt, ↓BGtf, ↓BGft, ↓BGff, ↓CGtt, ↓CGtf, ↓CGft, ↓CGff, ↓IGtt, ↓IGtf, ↓IGft, ↓IGff, ↓PKt, ↓PKf, ↓CDt, ↓CDf, ↓NOTt, ↓NOTf, ↓NK_ptr]
    rw [decide_eq_false hk, Bool.false_and]
    exact ⟨rfl, hm⟩
theorem eIs : elemOk Tryd.prog tIs tI 1 8 = true := by kernel_rfl
theorem iI : (Tryd.prog.info? tI).map (·.size) = some 1 := by kernel_rfl
theorem ints_one (l : List Int) : ∀ u ∈ ints l, u.oneCell' = true := by
  intro u hu
  obtain ⟨x, _, rfl⟩ := List.mem_map.1 hu
  rfl
theorem BK_sln {t e : TypeId} (h : Tryd.prog.underlying t = some (.slice e)) {w : World} {K : Value → World → Prop} {x y : Operand} (a : Option Addr) (n c : Nat) : BK Tryd.prog .eql t x y (.slice a n c) (.slice none 0 0) w K = K (.bool a.isNone) w :=
  BK_of rfl (Lib.run_eql_slice_nil w t e a n c 0 0 h)
theorem CloneI_ok {w : World} {v : Value} {l : List Int} (h : RR w v l) (hn : l.length ≤ 1000000) : Rt Tryd.prog 38 #[v] w fun v' w' => w'.ownsRow w.heap.size tI 1 v' l.length (ints l) ∧ Mod none_ w w' := by
  refine slices_Clone_int_int_calls ?_
  unfold slices_Clone_int_int_F
  have h' := h
  obtain ⟨hl, A, c, rfl, hnc, hr⟩ := h
  rw [BK_sln vIs]
  cases A with
  | none =>
    refine condT ⟨?_, Mod.refl _ _⟩
    have h0 : l = [] := by
      cases l with
      | nil => rfl
      | cons a l =>
        obtain ⟨b, hb, _⟩ := hr 0 (.int .i64 a) rfl
        cases hb
    subst h0
    exact World.ownsRow_nil _ _ _ _
  | some a =>
    refine condF ?_
    refine bs0_k vIs iI fun w1 hb1 hm1 hz1 => ?_
    have hown : w1.ownsRow w.heap.size tI 1 (.slice (some ⟨w.heap.size, 0, none⟩) 0 0) 0 [] := owns_zero hb1 (Nat.le_refl _)
    refine ap_any eIs hown (h'.calm hm1) (ints_one l) (by unfold maxLen; omega) (by omega) (by omega) fun v' w' h2 hm2 _ => ?_
    refine ⟨by simpa using h2, hm1.then hm2 fun i hi q => ?_⟩
    have : i = w.heap.size := by simpa [Value.ownBlock] using q
    omega
end Go.Proofs.YtandbmnhghmcgaaDoor.Col
set_option linter.unusedVariables false
set_option linter.unusedSimpArgs false
set_option maxRecDepth 8000
namespace Go.Proofs.YtandbmnhghmcgaaDoor.Col
open Go Go.X Go.RowKit Go.Proofs.YtandbmnhghmcgaaDoor.XF Go.Proofs.YtandbmnhghmcgaaDoor.XK
abbrev tMet : TypeId := 114
theorem zMet : (Tryd.prog.info? tMet).bind (·.zero) = some (.agg (metL []).toArray) := by kernel_rfl
theorem run_met {b o : Nat} {k : IntKind} {i : Int} (h0 : 0 ≤ i) (h1 : i ≤ 63) (w : World) : (Instr.indexAt tMet (.pointer (some ⟨b, o, none⟩)) (.int k i)).run Tryd.prog w = .ok (.pointer (some ⟨b, o + i.toNat, none⟩)) w := by
  rw [run_indexAt_array w tMet _ k i (by kernel_rfl), if_pos ⟨h0, by rw [show Tryd.prog.arrayLen tMet = 64 by kernel_rfl]; omega⟩, show Tryd.prog.elem tMet = tI by kernel_rfl, Tryd.sizeOf3]
  simp [add_pl]
theorem mayG_f {r : List Int} (h : ∃ x ∈ r, ¬ (0 ≤ x ∧ x ≤ 63)) : mayG r = false := by
  rw [Bool.eq_false_iff]
  intro q
  obtain ⟨x, hx, hn⟩ := h
  exact hn ((mayG_iff.1 q).2.1 x hx)
theorem mayG_d {r : List Int} {n : Nat} {x : Int} (hx : r[n]? = some x) (h : x ∈ r.take n) : mayG r = false := by
  rw [Bool.eq_false_iff]
  intro q
  have hnd := (mayG_iff.1 q).2.2
  obtain ⟨i, hi, hi2⟩ := List.mem_take_iff_getElem.1 h
  obtain ⟨h1, h2⟩ := List.getElem?_eq_some_iff.1 hx
  have := (List.nodup_iff_pairwise_ne.1 hnd)
  exact List.pairwise_iff_getElem.1 this i n (by omega) h1 (by omega) (hi2.trans h2.symm)
theorem May_ok {w : World} {key : Ky} {v : Value} {r : List Int} (h : RR w v r) (hl : r.length ≤ 1000000) : Rt Tryd.prog 36 #[grpV key v] w fun x w' => x = .bool (mayG r) ∧ Mod none_ w w' := by
  refine group_May_calls ?_
  unfold group_May_F
  refine box_k (cs := #[strV key, v]) rfl fun w1 hb1 hm1 hz1 => ?_
  refine al_k (cs := (metL []).toArray) zMet rfl _ fun w2 hb2 hm2 hz2 => ?_
  have hb1' := hm2.blk hb1 id
  have hm02 := hm1.trans hm2
  simp only [↓(fG1 hb1').e]
  obtain ⟨A, c, es, _⟩ := reads_cap h
  rw [es, len_sl vIs, ← es]
  have hlt1 := blk_lt hb1
  refine W_loop group_May_L0_ok (fun ρ w' => ∃ n : Nat, n ≤ r.length ∧ ρ 9 = .int .i64 n ∧ ρ 8 = .int .i64 r.length ∧ ρ 7 = v ∧ ρ 3 = .pointer (some ⟨w1.heap.size, 0, none⟩) ∧ ρ 1 = .pointer (some ⟨w.heap.size, 0, none⟩) ∧ (∀ a ∈ r.take n, 0 ≤ a ∧ a ≤ 63) ∧ (r.take n).Nodup ∧ w'.heap[w1.heap.size]? = some (.cells (metL (r.take n)).toArray tMet (0, 0)) ∧ Mod (fun b => b = w1.heap.size) w1 w') (fun ρ _ => r.length - (intOf (ρ 9)).toNat)
    ⟨0, Nat.zero_le _, rfl, rfl, rfl, rfl, rfl, by simp, by simp, hb2, hm2.mono fun _ _ q => q.elim⟩ ?_
  rintro ρ w3 ⟨n, hn, h9, h8, h7, h3, h1, hin, hnd, hmet, hm3⟩
  have hm03 : Mod none_ w w3 := hm1.then hm3 fun i hi q => by have := hm1.size; omega
  rw [group_May_L0_eq]; unfold group_May_L0_F
  rw [h9, h8, h7, h3, BK_lss]
  by_cases hlt : n < r.length
  · rw [decide_eq_true (by omega)]
    refine condT ?_
    have hx : r[n]? = some r[n] := List.getElem?_eq_getElem hlt
    have etk : r.take (n + 1) = r.take n ++ [r[n]] := by rw [List.take_add_one, hx]; rfl
    have hmem : r[n] ∈ r := List.getElem_mem hlt
    generalize r[n] = x at *
    obtain ⟨a, hia, hla⟩ := ixR (h.calm hm03) hx
    refine VK_of (hia _) (VK_of (hla _ (Mod.refl _ _)) ?_)
    by_cases x0 : x < 0
    · simp only [↓VG_u, ↓UG_u, ↓MG_u, ↓NG_u, ↓PG_u, ↓BG_u, ↓CG_u, ↓IG_u, ↓VGtt, ↓VGtf, ↓VGft, ↓VGff, ↓UGtt, ↓UGtf, ↓UGft, ↓UGff, ↓MGtt, ↓MGtf, ↓MGft, ↓MGff, ↓NGtt, ↓NGtf, ↓NGft, ↓NGff, ↓PGtt, ↓PGtf, ↓PGft, ↓PGff, ↓BGtt, ↓BGtf, ↓BGft, ↓BGff, ↓CGtt, ↓CGtf, ↓CGft, ↓CGff, ↓IGtt, ↓IGtf, ↓IGft, ↓IGff, ↓PKt, ↓PKf, ↓CDt, ↓CDf, ↓NOTt, ↓NOTf, ↓NK_ptr, ↓LTt x0]
      exact ⟨by rw [mayG_f ⟨x, hmem, by omega⟩]; rfl, hm03⟩
    simp only [↓VG_u, ↓UG_u, ↓MG_u, ↓NG_u, ↓PG_u, ↓BG_u, ↓CG_u, ↓IG_u, ↓VGtt, ↓VGtf, ↓VGft, ↓VGff, ↓UGtt, ↓UGtf, ↓UGft, ↓UGff, ↓MGtt, ↓MGtf, ↓MGft, ↓MGff, ↓NGtt, ↓NGtf, ↓NGft, ↓NGff, ↓PGtt, ↓PGtf, ↓PGft, ↓PGff, ↓BGtt, ↓BGtf, ↓BGft, ↓BGff, ↓CGtt, ↓CGtf, ↓CGft, ↓CGff, ↓IGtt, ↓IGtf, ↓IGft, ↓IGff, ↓PKt, ↓PKf, ↓CDt, ↓CDf, ↓NOTt, ↓NOTf, ↓NK_ptr, ↓LTf (show (0 : Int) ≤ x by omega)]
    by_cases x1 : 64 ≤ x
    · simp only [↓VG_u, ↓UG_u, ↓MG_u, ↓NG_u, ↓PG_u, ↓BG_u, ↓CG_u, ↓IG_u, ↓VGtt, ↓VGtf, ↓VGft, ↓VGff, ↓UGtt, ↓UGtf, ↓UGft, ↓UGff, ↓MGtt, ↓MGtf, ↓MGft, ↓MGff, ↓NGtt, ↓NGtf, ↓NGft, ↓NGff, ↓PGtt, ↓PGtf, ↓PGft, ↓PGff, ↓BGtt, ↓BGtf, ↓BGft, ↓BGff, ↓CGtt, ↓CGtf, ↓CGft, ↓CGff, ↓IGtt, ↓IGtf, ↓IGft, ↓IGff, ↓PKt, ↓PKf, ↓CDt, ↓CDf, ↓NOTt, ↓NOTf, ↓NK_ptr, ↓GEt x1]
      exact ⟨by rw [mayG_f ⟨x, hmem, by omega⟩]; rfl, hm03⟩
    simp only [↓VG_u, ↓UG_u, ↓MG_u, ↓NG_u, ↓PG_u, ↓BG_u, ↓CG_u, ↓IG_u, ↓VGtt, ↓VGtf, ↓VGft, ↓VGff, ↓UGtt, ↓UGtf, ↓UGft, ↓UGff, ↓MGtt, ↓MGtf, ↓MGft, ↓MGff, ↓NGtt, ↓NGtf, ↓NGft, ↓NGff, ↓PGtt, ↓PGtf, ↓PGft, ↓PGff, ↓BGtt, ↓BGtf, ↓BGft, ↓BGff, ↓CGtt, ↓CGtf, ↓CGft, ↓CGff, ↓IGtt, ↓IGtf, ↓IGft, ↓IGff, ↓PKt, ↓PKf, ↓CDt, ↓CDf, ↓NOTt, ↓NOTf, ↓NK_ptr, ↓GEf (show x < 64 by omega)]
    have hcell : ∀ {w' : World}, w'.heap[w1.heap.size]? = some (.cells (metL (r.take n)).toArray tMet (0, 0)) → w'.cell? ⟨w1.heap.size, 0 + x.toNat, none⟩ = some (.int .i64 (if x ∈ r.take n then 1 else 0)) := fun hb => by
      rw [cell_blk hb, Nat.zero_add, List.getElem?_toArray, metL_at _ (by omega) (by omega)]
    refine VK_of (run_met (by omega) (by omega) _) ?_
    try simp only [↓VG_u, ↓UG_u, ↓MG_u, ↓NG_u, ↓PG_u, ↓BG_u, ↓CG_u, ↓IG_u, ↓VGtt, ↓VGtf, ↓VGft, ↓VGff, ↓UGtt, ↓UGtf, ↓UGft, ↓UGff, ↓MGtt, ↓MGtf, ↓MGft, ↓MGff, ↓NGtt, ↓NGtf, ↓NGft, ↓NGff, ↓PGtt, ↓PGtf, ↓PGft, ↓PGff, ↓BGtt, ↓BGtf, ↓BGft, ↓BGff, ↓CGtt, ↓CGtf, ↓CGft, ↓CGff, ↓IGtt, ↓IGtf, ↓IGft, ↓IGff, ↓PKt, ↓PKf, ↓CDt, ↓CDf, ↓NOTt, ↓NOTf, ↓NK_ptr]
    refine ld1 vI rfl (hcell hmet) ?_
    by_cases hm : x ∈ r.take n
    · rw [if_pos hm]
      simp only [↓VG_u, ↓UG_u, ↓MG_u, ↓NG_u, ↓PG_u, ↓BG_u, ↓CG_u, ↓IG_u, ↓VGtt, ↓VGtf, ↓VGft, ↓VGff, ↓UGtt, ↓UGtf, ↓UGft, ↓UGff, ↓MGtt, ↓MGtf, ↓MGft, ↓MGff, ↓NGtt, ↓NGtf, ↓NGft, ↓NGff, ↓PGtt, ↓PGtf, ↓PGft, ↓PGff, ↓BGtt, ↓BGtf, ↓BGft, ↓BGff, ↓CGtt, ↓CGtf, ↓CGft, ↓CGff, ↓IGtt, ↓IGtf, ↓IGft, ↓IGff, ↓PKt, ↓PKf, ↓CDt, ↓CDf, ↓NOTt, ↓NOTf, ↓NK_ptr, ↓GTt (show (0 : Int) < 1 by decide)]
      exact ⟨by rw [mayG_d hx hm]; rfl, hm03⟩
    rw [if_neg hm]
    simp only [↓VG_u, ↓UG_u, ↓MG_u, ↓NG_u, ↓PG_u, ↓BG_u, ↓CG_u, ↓IG_u, ↓VGtt, ↓VGtf, ↓VGft, ↓VGff, ↓UGtt, ↓UGtf, ↓UGft, ↓UGff, ↓MGtt, ↓MGtf, ↓MGft, ↓MGff, ↓NGtt, ↓NGtf, ↓NGft, ↓NGff, ↓PGtt, ↓PGtf, ↓PGft, ↓PGff, ↓BGtt, ↓BGtf, ↓BGft, ↓BGff, ↓CGtt, ↓CGtf, ↓CGft, ↓CGff, ↓IGtt, ↓IGtf, ↓IGft, ↓IGff, ↓PKt, ↓PKf, ↓CDt, ↓CDf, ↓NOTt, ↓NOTf, ↓NK_ptr, ↓GTf (Int.le_refl 0)]
    refine VK_of (run_met (by omega) (by omega) _) ?_
    refine ld1 vI rfl (hcell hmet) ?_
    rw [if_neg hm, BK_add, wrap_i (by omega) (by omega)]
    refine VK_of (run_met (by omega) (by omega) _) ?_
    refine stC rfl (by kernel_rfl) rfl hmet (by rw [List.size_toArray, metL_len]; omega) fun w4 hb4 hm4 hz4 => ?_
    rw [BK_add, wrap_i (by omega) (by omega)]
    have hst : ((metL (r.take n)).toArray.setIfInBounds (0 + x.toNat) (.int .i64 (0 + 1))) = (metL (r.take (n + 1))).toArray := by
      rw [Nat.zero_add, List.setIfInBounds_toArray, show (0 : Int) + 1 = 1 from rfl, metL_set _ (by omega) (by omega), ← etk]
    rw [hst] at hb4
    refine ⟨⟨n + 1, hlt, rfl, h8, h7, h3, h1, ?_, ?_, hb4, hm3.trans hm4⟩, ?_⟩
    · rw [etk]
      intro a z
      rcases List.mem_append.1 z with z | z
      · exact hin a z
      · rw [List.mem_singleton.1 z]; omega
    · rw [etk, List.nodup_append]
      refine ⟨hnd, by simp, fun a ha b hb q => ?_⟩
      rw [List.mem_singleton.1 hb] at q
      exact hm (q ▸ ha)
    · simp only [sq_n, sq_x, sq_r, bk_n, bk_r, bk_x, rt_r, rt_n, rs_0, rs_t, pk_1, pk_2, up_at, reduceIte, Nat.reduceEqDiff, intOf]; omega
  · obtain rfl : n = r.length := by omega
    rw [decide_eq_false (by omega)]
    refine condF ?_
    rw [sq_x, bk_x, sq_n, group_May_R1_eq]; unfold group_May_R1_F
    have hb3 : w3.heap[w.heap.size]? = some (.cells #[strV key, v] tG (0, 0)) := hm3.blk hb1 (by omega)
    rw [show (up ρ 10 (Value.bool false)) 1 = ρ 1 from rfl, h1]
    simp only [↓(fG1 hb3).e]
    rw [es, len_sl vIs, ← es, BK_gtr]
    refine ⟨?_, hm03⟩
    rw [List.take_length] at hin hnd
    have : mayG r = decide ((0 : Int) < (r.length : Int)) := by
      rw [Bool.eq_iff_iff, mayG_iff, decide_eq_true_iff]
      exact ⟨fun q => by omega, fun q => ⟨by omega, hin, hnd⟩⟩
    rw [this]
    rfl
end Go.Proofs.YtandbmnhghmcgaaDoor.Col
