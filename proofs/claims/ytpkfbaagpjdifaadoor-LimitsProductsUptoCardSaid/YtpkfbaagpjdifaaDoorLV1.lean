/- Several texts of this repo, one behind the other, without what is not used here. -/
import Derived.WalkKit
import Derived.ProofKit
import Derived.OpenShut
import Derived.ShutString
import Derived.ChangeOld
import Derived.Below
import Derived.Carry
import Derived.SizedLaws
import Derived.KernelRfl
import Derived.Deep.Quiet
import Derived.StillTail
import Derived.RangeFuncIn
import Derived.RangeFuncRecord
import Derived.Maps.AppendAt
import Derived.Great.BuildSlice
import Derived.ChangeArms
import Derived.DataReads
import Derived.Deep.DeepHandedRow
import Derived.Handy
import Derived.Lay
import Derived.LaidMore
import Derived.Stop.Joined
import Derived.OrdersHeld
import Derived.Test.YtpkfbaagpjdifaaDoorProg
set_option linter.unusedVariables false
namespace Go.X
open Go Go.ChangeShapes Go.WideShapes Go.ChangeAt Go.RowKit
theorem trodAll_lt {H : Type} {enc : TypeId × Value → H} {P : Program} {w : World} {base : Nat} {sp : Nat → Bool} {hd : Bool} : ∀ {ts : List TypeId} {vs : List Value} {ds : List (DataW H)} {p : List MemPlace},
    DataW.TrodAll enc P w base sp hd ts vs ds p → ∀ x ∈ p, x.block < w.heap.size
  | [], [], [], p, h => by
    have : p = [] := h
    subst this
    simp
  | t :: ts, v :: vs, d :: ds, p, h => by
    obtain ⟨p1, q1, h1, h2, rfl⟩ := h
    intro x hx
    rcases List.mem_append.1 hx with hx | hx
    · obtain ⟨m, hm⟩ := h1
      exact DataW.trod_lt m _ _ _ hm x hx
    · exact trodAll_lt h2 x hx
  | [], [], _ :: _, _, h => h.elim
  | [], _ :: _, _, _, h => h.elim
  | _ :: _, [], _, _, h => h.elim
  | _ :: _, _ :: _, [], _, h => h.elim
theorem trodAll_length {H : Type} {enc : TypeId × Value → H} {P : Program} {w : World} {base : Nat} {sp : Nat → Bool} {hd : Bool} : ∀ {ts : List TypeId} {vs : List Value} {ds : List (DataW H)} {p : List MemPlace},
    DataW.TrodAll enc P w base sp hd ts vs ds p → ds.length = ts.length
  | [], [], [], p, h => rfl
  | t :: ts, v :: vs, d :: ds, p, h => by
    obtain ⟨p1, q1, h1, h2, rfl⟩ := h
    simp [trodAll_length h2]
  | [], [], _ :: _, _, h => h.elim
  | [], _ :: _, _, _, h => h.elim
  | _ :: _, [], _, _, h => h.elim
  | _ :: _, _ :: _, [], _, h => h.elim
theorem below_trodAll {H : Type} {enc : TypeId × Value → H} {P : Program} {W W' : World} (hl : laidOutB P = true) (hb : Below W.heap.size W W') : ∀ {ts : List TypeId} {vs : List Value} {ds : List (DataW H)} {p : List MemPlace},
    (ts.all fun t => P.readableRec t && decide (t < P.types.size)) = true → DataW.TrodAll enc P W 0 (fun _ => true) true ts vs ds p → DataW.TrodAll enc P W' 0 (fun b => decide (b < W.heap.size)) true ts vs ds p
  | [], [], [], p, _, h => h
  | t :: ts, v :: vs, d :: ds, p, hr, h => by
    have hlt := trodAll_lt h
    obtain ⟨p1, q1, h1, h2, rfl⟩ := h
    simp only [List.all_cons, Bool.and_eq_true, decide_eq_true_eq] at hr
    exact ⟨p1, q1, Below.trod hl hr.1.1 hr.1.2 h1 hb (fun x hx => hlt x (List.mem_append_left _ hx)), below_trodAll hl hb (by simpa using hr.2) h2, rfl⟩
  | [], [], _ :: _, _, _, h => h.elim
  | [], _ :: _, _, _, _, h => h.elim
  | _ :: _, [], _, _, _, h => h.elim
  | _ :: _, _ :: _, [], _, _, h => h.elim
end Go.X
set_option linter.unusedVariables false
set_option linter.unusedSimpArgs false
namespace Go.X
open Go
abbrev Sl := Nat → Value
def ev (ρ : Sl) : Operand → Value
  | .tmp t => ρ t
  | .const v => v
  | .global g => .pointer (some ⟨g, 0, none⟩)
  | .func f => .func (.func f) #[] #[]
def up (ρ : Sl) (d : Nat) (v : Value) : Sl := fun i => cond (Nat.beq i d) v (ρ i)
def upo (ρ : Sl) (d : Option Nat) (v : Value) : Sl :=
  match d with
  | some d => up ρ d v
  | none => ρ
structure At where
  r : Option Nat := none
  D : List Deferred := []
def fn_ : At := {}
def FF (c : At) : Fence := { Fence.wide with round := c.r }
structure Lk (z : At) (n : Nat) (a : Act) (ρ : Sl) : Prop where
  size : a.tmps.size = n
  defers : a.defers = z.D
  val : ∀ i, a.tmps.getD i undef = ρ i
theorem Lk.ev {z : At} {n : Nat} {a : Act} {ρ : Sl} (h : Lk z n a ρ) (x : Operand) : a.eval x = ev ρ x := by
  cases x with
  | tmp t => exact h.val t
  | const v => rfl
  | global g => rfl
  | func f => rfl
theorem Lk.put {z : At} {n : Nat} {a : Act} {ρ : Sl} (h : Lk z n a ρ) (d : Option Nat) (v : Value) (hd : ∀ k, d = some k → k < n) : Lk z n (a.put d v) (upo ρ d v) := by
  cases d with
  | none => exact h
  | some k =>
    have hk := hd k rfl
    refine ⟨?_, h.defers, fun i => ?_⟩
    · simp only [Act.put]
      rw [Array.size_setIfInBounds]; exact h.size
    · have hv := h.val i
      simp only [Act.put, upo, up]
      by_cases e : i = k
      · subst e
        have hlt : i < a.tmps.size := by rw [h.size]; exact hk
        simp [Array.getD_eq_getD_getElem?, hlt, Nat.beq_refl]
      · have hb : Nat.beq i k = false := by
          cases hq : Nat.beq i k with
          | false => rfl
          | true => exact absurd (Nat.eq_of_beq_eq_true hq) e
        rw [hb]
        simp only [cond_false]
        simp only [Array.getD_eq_getD_getElem?] at hv ⊢
        rw [Array.getElem?_setIfInBounds]
        rw [if_neg (fun q => e q.symm)]
        simpa using hv
def OpK (P : Program) (s : Sem Next) (w : World) (K : Value → World → Prop) : Prop :=
  match s.run P w with
  | .ok (.value v) w' => K v w'
  | .ok .skip w' => K undef w'
  | .ok (.enter f args) w' => Calls P f args w' fun e w'' => ∃ v, e = .returned v ∧ K v w''
  | .ok (.round l f tmps assign body) w' => RoundIn Fence.wide 0 P l f tmps assign body w' fun e w'' => ∃ v, e = .returned v ∧ K v w''
  | _ => False
def wantB (v : Value) (b : Bool) : Bool := match v with | .bool t => t == b | _ => false
def GuardK (v : Value) (b : Bool) (A B : Prop) : Prop := (wantB v b = true → A) ∧ (wantB v b = false → B)
def CondK (v : Value) (A B : Prop) : Prop := ∃ t, v = .bool t ∧ (t = true → A) ∧ (t = false → B)
def GOp (P : Program) (g : Value) (b : Bool) (s : Sem Next) (w : World) (K : Value → World → Prop) : Prop := GuardK g b (OpK P s w K) (K undef w)
def nilCk (v : Value) : Sem Next := execOp (fun _ => v) { dst := none, op := .nilCheck (.tmp 0), type := 0, pos := "", after := #[], guard := none }
def exo (ρ : Operand → Value) (op : Op) (ty : TypeId) : Sem Next :=
  match op with
  | .build t parts => do pure (.value (← Instr.build t (parts.toList.map fun p => (p.1, ρ p.2)).toArray))
  | .buildSlice t len parts => do pure (.value (← Instr.buildSlice t len (parts.toList.map fun p => (p.1, ρ p.2)).toArray))
  | .makeFunc fn first captured => do pure (.value (← Instr.makeFunc fn (first.toList.map ρ).toArray (captured.toList.map ρ).toArray))
  | .nilCheck x => nilCk (ρ x)
  | .call { callee := .builtin b, args, argTypes } => builtin b argTypes ty ((args.toList.map fun | .const _ => true | _ => false).toArray) (args.toList.map ρ).toArray
  | .call { callee := .value f, args, .. } => do let d ← Deferred.ofValue (ρ f) (args.toList.map ρ).toArray; invoke d.target d.args
  | op => execOp ρ { dst := none, op, type := ty, pos := "", after := #[], guard := none }
theorem arr_map {α β : Type} (f : α → β) (a : Array α) : a.map f = (a.toList.map f).toArray := by
  rw [← Array.toList_map]
theorem exo_eq (ρ : Operand → Value) (o : Oper) : exo ρ o.op o.type = execOp ρ o := by
  obtain ⟨dst, op, ty, pos, after, guard⟩ := o
  cases op with
  | build t parts => simp only [exo, execOp, arr_map]
  | buildSlice t len parts => simp only [exo, execOp, arr_map]
  | makeFunc fn first captured => simp only [exo, execOp, arr_map]
  | nilCheck x => rfl
  | call c =>
    obtain ⟨callee, args, argTypes⟩ := c
    cases callee with
    | value f => simp only [exo, execOp, resolve, arr_map]
    | invoke r m => rfl
    | builtin b =>
      simp only [exo, execOp, resolve, arr_map]
      rfl
  | _ => rfl
def gv (ops : Array Oper) (ρ : Sl) (j : Nat) : Value :=
  match (ops[j]?).bind (·.dst) with
  | some d => ρ d
  | none => undef
def mvOf : Op → Option Operand
  | .move x => some x
  | .assign x => some x
  | _ => none
def sx1 (P : Program) (ops : Array Oper) (o : Oper) (N : Sl → World → Prop) (ρ : Sl) (w : World) : Prop :=
  match o with
  | ⟨dst, op, ty, _, _, g⟩ =>
    match g, dst with
    | none, some d => match mvOf op with
      | some x => N (up ρ d (ev ρ x)) w
      | none => OpK P (exo (ev ρ) op ty) w fun v w' => N (up ρ d v) w'
    | none, none => OpK P (exo (ev ρ) op ty) w fun _ w' => N ρ w'
    | some (j, b), some d => GOp P (gv ops ρ j) b (exo (ev ρ) op ty) w fun v w' => N (up ρ d v) w'
    | some (j, b), none => GOp P (gv ops ρ j) b (exo (ev ρ) op ty) w fun _ w' => N ρ w'
def sxL (P : Program) (ops : Array Oper) (K : Sl → World → Prop) : List Oper → Sl → World → Prop
  | [], ρ, w => K ρ w
  | o :: r, ρ, w => sx1 P ops o (sxL P ops K r) ρ w
def lift (z : At) (n : Nat) (K : Exit → Sl → World → Prop) : Exit → Act → World → Prop := fun e a w => ∃ ρ, Lk z n a ρ ∧ K e ρ w
def W (z : At) (P : Program) (n : Nat) (c : Code) (K : Exit → Sl → World → Prop) (ρ : Sl) (w : World) : Prop :=
  ∀ a, Lk z n a ρ → c.wpIn (FF z) 0 P (lift z n K) a w
def seqK (N : Sl → World → Prop) (K : Exit → Sl → World → Prop) : Exit → Sl → World → Prop
  | .normal => N
  | e => K e
def blkK (id : Nat) (K : Exit → Sl → World → Prop) : Exit → Sl → World → Prop
  | .exit i => if Nat.beq i id then K .normal else K (.exit i)
  | e => K e
def sx (z : At) (P : Program) (n : Nat) : Code → (Exit → Sl → World → Prop) → Sl → World → Prop
  | .skip, K, ρ, w => K .normal ρ w
  | .region id ops false, K, ρ, w => sxL P ops (K .normal) ops.toList ρ w
  | .seq a b, K, ρ, w => sx z P n a (seqK (sx z P n b K) K) ρ w
  | .cond c x y, K, ρ, w => CondK (ev ρ c) (sx z P n x K ρ w) (sx z P n y K ρ w)
  | .block id c, K, ρ, w => sx z P n c (blkK id K) ρ w
  | .exit id, K, ρ, w => K (.exit id) ρ w
  | .ret, K, ρ, w => K .ret ρ w
  | .label _, K, ρ, w => K .normal ρ w
  | c, K, ρ, w => W z P n c K ρ w
def isDefer : Op → Bool
  | .defer _ => true
  | _ => false
def oOk (n : Nat) (o : Oper) : Bool := (match o.dst with | some d => Nat.blt d n | none => true) && !isDefer o.op
def dstOk (n : Nat) : Code → Bool
  | .region _ ops _ => ops.toList.all (oOk n)
  | .seq a b => dstOk n a && dstOk n b
  | .cond _ a b => dstOk n a && dstOk n b
  | .block _ c => dstOk n c
  | .scope c => dstOk n c
  | .loop c => dstOk n c
  | _ => true
theorem yielded_gv {z : At} {n : Nat} {a : Act} {ρ : Sl} (h : Lk z n a ρ) (ops : Array Oper) (j : Nat) : yielded ops a.tmps j = (match gv ops ρ j with | .bool t => some t | _ => none) := by
  unfold gv yielded
  cases hq : (ops[j]?).bind (·.dst) with
  | none => simp [undef]
  | some d =>
    have hd := h.val d
    simp only [Option.bind_some]
    cases hz : a.tmps[d]? with
    | none =>
      rw [Array.getD_eq_getD_getElem?, hz] at hd
      simp only [Option.getD_none] at hd
      rw [← hd]
      simp [undef]
    | some v =>
      rw [Array.getD_eq_getD_getElem?, hz] at hd
      simp only [Option.getD_some] at hd
      rw [← hd]
      cases v <;> simp
theorem wanted_gv {z : At} {n : Nat} {a : Act} {ρ : Sl} (h : Lk z n a ρ) (ops : Array Oper) {o : Oper} {j : Nat} {b : Bool} (hg : o.guard = some (j, b)) : Region.wanted o (yielded ops a.tmps) = wantB (gv ops ρ j) b := by
  unfold Region.wanted
  rw [hg]
  dsimp only
  rw [yielded_gv h ops j]
  unfold wantB
  cases gv ops ρ j <;> simp
theorem opK_wp {P : Program} {z : At} {n : Nat} {a : Act} {ρ : Sl} {o : Oper} {w : World} {K : Value → World → Prop} {next : Act → World → Prop} {Q : Exit → Act → World → Prop}
    (hdf : isDefer o.op = false) (h : Lk z n a ρ) (hk : OpK P (exo (ev ρ) o.op o.type) w K) (hn : ∀ v w', K v w' → next (a.put o.dst v) w') : o.wpIn (FF z) 0 P a w next Q := by
  have he : a.eval = ev ρ := funext (fun x => h.ev x)
  refine ⟨fun _ _ => trivial, ?_⟩
  rw [Oper.semAt_eq _ _ _ (fun c hc => by rw [hc] at hdf; cases hdf), he]
  rw [exo_eq] at hk
  unfold OpK at hk
  unfold Oper.uponIn
  split at hk
  · rename_i v w' hr; rw [hr]; exact hn _ _ hk
  · rename_i w' hr; rw [hr]; exact hn _ _ hk
  · rename_i f args w' hr
    rw [hr]
    refine ⟨fun q => by simp [FF, Fence.wide] at q, ?_⟩
    have hk' : CallsIn Fence.wide 0 P f args w' fun e w'' => ∃ v, e = .returned v ∧ K v w'' := callsIn_wide.2 hk
    refine CallsIn.mono (F := FF z) (n := 0) hk' ?_
    rintro e w'' ⟨v, rfl, hv⟩
    exact hn _ _ hv
  · rename_i l f tmps assign body w' hr
    rw [hr]
    refine ⟨fun q => by simp [FF, Fence.wide] at q, ?_⟩
    refine RoundIn.mono (F := FF z) (n := 0) hk ?_
    rintro e w'' ⟨v, rfl, hv⟩
    exact hn _ _ hv
  · exact hk.elim
theorem sx1_eq (P : Program) (ops : Array Oper) (o : Oper) (N : Sl → World → Prop) (ρ : Sl) (w : World) :
    sx1 P ops o N ρ w = match o.guard with
      | none => OpK P (exo (ev ρ) o.op o.type) w fun v w' => N (upo ρ o.dst v) w'
      | some (j, b) => GOp P (gv ops ρ j) b (exo (ev ρ) o.op o.type) w fun v w' => N (upo ρ o.dst v) w' := by
  obtain ⟨dst, op, ty, pos, after, guard⟩ := o
  cases guard with
  | none =>
    cases dst with
    | none => rfl
    | some d => cases op <;> rfl
  | some jb => cases dst <;> rfl
theorem oOk_dst {n : Nat} {o : Oper} (h : oOk n o = true) : ∀ k, o.dst = some k → k < n := by
  intro k hk
  simp only [oOk, Bool.and_eq_true] at h
  have := h.1
  rw [hk] at this
  exact Nat.lt_of_lt_of_le (Nat.lt_succ_self _) (Nat.le_of_ble_eq_true this)
theorem oOk_df {n : Nat} {o : Oper} (h : oOk n o = true) : isDefer o.op = false := by
  simp only [oOk, Bool.and_eq_true, Bool.not_eq_true'] at h
  exact h.2
theorem sx1_wp {P : Program} {z : At} {n : Nat} {ops : Array Oper} {Q : Exit → Act → World → Prop} {o : Oper} {N : Sl → World → Prop} {next : Act → World → Prop} {a : Act} {ρ : Sl} {w : World}
    (ho : oOk n o = true) (hl : Lk z n a ρ) (h : sx1 P ops o N ρ w) (hn : ∀ a ρ w, Lk z n a ρ → N ρ w → next a w) :
    if Region.wanted o (yielded ops a.tmps) then o.wpIn (FF z) 0 P a w next Q else next (a.put o.dst undef) w := by
  have hd := oOk_dst ho
  rw [sx1_eq] at h
  cases hg : o.guard with
  | none =>
    rw [hg] at h
    have hw : Region.wanted o (yielded ops a.tmps) = true := by unfold Region.wanted; rw [hg]
    rw [hw]
    simp only [if_true]
    exact opK_wp (oOk_df ho) hl h fun v w' hv => hn _ _ _ (hl.put _ _ hd) hv
  | some jb =>
    obtain ⟨j, b⟩ := jb
    rw [hg] at h
    obtain ⟨h1, h2⟩ := h
    have hy := wanted_gv hl ops hg
    by_cases htb : wantB (gv ops ρ j) b = true
    · have hw : Region.wanted o (yielded ops a.tmps) = true := hy.trans htb
      rw [hw]
      simp only [if_true]
      exact opK_wp (oOk_df ho) hl (h1 htb) fun v w' hv => hn _ _ _ (hl.put _ _ hd) hv
    · have htb : wantB (gv ops ρ j) b = false := Bool.eq_false_iff.2 htb
      have hw : Region.wanted o (yielded ops a.tmps) = false := hy.trans htb
      rw [hw]
      simp only [Bool.false_eq_true, if_false]
      exact hn _ _ _ (hl.put _ _ hd) (h2 htb)
theorem oOk_at {n : Nat} {ops : Array Oper} (hd : (ops.toList.all (oOk n)) = true) {i : Nat} {o : Oper} (ho : ops[i]? = some o) : oOk n o = true := by
  have hm : o ∈ ops.toList := by
    obtain ⟨hi, hv⟩ := Array.getElem?_eq_some_iff.1 ho
    rw [← hv]; exact Array.getElem_mem_toList hi
  exact List.all_eq_true.1 hd o hm
theorem sxL_wp {P : Program} {z : At} {n : Nat} {ops : Array Oper} {K : Sl → World → Prop} {Q : Exit → Act → World → Prop}
    (hd : (ops.toList.all (oOk n)) = true)
    (hQ : ∀ a ρ w, Lk z n a ρ → K ρ w → Q .normal a w) (m : Nat) : ∀ k a ρ w, k + m = ops.size → Lk z n a ρ → sxL P ops K (ops.toList.drop k) ρ w → wpOpsIn (FF z) 0 P ops Q (List.range' k m) a w := by
  induction m with
  | zero =>
    intro k a ρ w hk hl h
    rw [List.drop_of_length_le (by simp; omega)] at h
    exact hQ a ρ w hl h
  | succ m ih =>
    intro k a ρ w hk hl h
    have hlt : k < ops.toList.length := by simp; omega
    rw [List.drop_eq_getElem_cons hlt] at h
    have ho : ops[k]? = some ops.toList[k] := by
      rw [← Array.getElem?_toList]
      exact List.getElem?_eq_getElem hlt
    show wpOpsIn (FF z) 0 P ops Q (k :: List.range' (k + 1) m) a w
    unfold wpOpsIn
    rw [ho]
    have := sx1_wp (Q := Q) (oOk_at hd ho) hl h (fun a ρ w hl hq => ih (k + 1) a ρ w (by omega) hl hq)
    dsimp only
    split at this
    · rename_i hw; rw [if_pos hw]; exact this
    · rename_i hw; rw [if_neg hw]; exact ⟨fun _ _ => trivial, this⟩
theorem sx_W {P : Program} {z : At} {n : Nat} : ∀ (c : Code) (K : Exit → Sl → World → Prop) (ρ : Sl) (w : World), dstOk n c = true → sx z P n c K ρ w → W z P n c K ρ w
  | .skip, K, ρ, w, _, h => fun a hl => wpIn_skip ⟨ρ, hl, h⟩
  | .region id ops false, K, ρ, w, hd, h => fun a hl => wpIn_region (by rw [List.range_eq_range']; exact sxL_wp hd (fun a ρ w hl hk => ⟨ρ, hl, hk⟩) ops.size 0 a ρ w (by omega) hl h)
  | .region id ops true, K, ρ, w, hd, h => h
  | .seq x y, K, ρ, w, hd, h => by
    intro a hl
    simp only [dstOk, Bool.and_eq_true] at hd
    refine wpIn_seq (wpIn_mono (sx_W x _ ρ w hd.1 h a hl) ?_)
    rintro e a' w' ⟨ρ', hl', hk⟩
    cases e with
    | normal => exact sx_W y K ρ' w' hd.2 hk a' hl'
    | exit id => exact ⟨ρ', hl', hk⟩
    | goto l => exact ⟨ρ', hl', hk⟩
    | ret => exact ⟨ρ', hl', hk⟩
    | panic c => exact ⟨ρ', hl', hk⟩
    | outgrown => exact ⟨ρ', hl', hk⟩
  | .cond c x y, K, ρ, w, hd, h => by
    intro a hl
    simp only [dstOk, Bool.and_eq_true] at hd
    obtain ⟨t, hv, h1, h2⟩ := h
    exact wpIn_cond_split ((hl.ev c).trans hv) (fun ht => sx_W x K ρ w hd.1 (h1 ht) a hl) (fun ht => sx_W y K ρ w hd.2 (h2 ht) a hl)
  | .block id c, K, ρ, w, hd, h => by
    intro a hl
    refine wpIn_block (wpIn_mono (sx_W c _ ρ w hd h a hl) ?_)
    rintro e a' w' ⟨ρ', hl', hk⟩
    cases e with
    | exit i =>
      simp only [Exit.inBlock]
      unfold blkK at hk
      dsimp only at hk
      by_cases e : i = id
      · subst e
        rw [if_pos rfl]
        rw [if_pos (Nat.beq_refl i)] at hk
        exact ⟨ρ', hl', hk⟩
      · rw [if_neg e]
        rw [if_neg (fun q => e (Nat.eq_of_beq_eq_true q))] at hk
        exact ⟨ρ', hl', hk⟩
    | normal => exact ⟨ρ', hl', hk⟩
    | goto l => exact ⟨ρ', hl', hk⟩
    | ret => exact ⟨ρ', hl', hk⟩
    | panic c => exact ⟨ρ', hl', hk⟩
    | outgrown => exact ⟨ρ', hl', hk⟩
  | .exit id, K, ρ, w, hd, h => fun a hl => wpIn_exit ⟨ρ, hl, h⟩
  | .ret, K, ρ, w, hd, h => fun a hl => wpIn_ret ⟨ρ, hl, h⟩
  | .label _, K, ρ, w, hd, h => fun a hl => wpIn_label ⟨ρ, hl, h⟩
  | .loop c, K, ρ, w, hd, h => h
  | .rangeFunc .., K, ρ, w, hd, h => h
  | .scope _, K, ρ, w, hd, h => h
  | .goto _, K, ρ, w, hd, h => h
  | .refuse _, K, ρ, w, hd, h => h
theorem W_loop {P : Program} {z : At} {n : Nat} {c : Code} {K : Exit → Sl → World → Prop} {ρ : Sl} {w : World} (hd : dstOk n c = true) (I : Sl → World → Prop) (μ : Sl → World → Nat) (h0 : I ρ w)
    (round : ∀ ρ w, I ρ w → sx z P n c (seqK (fun ρ' w' => I ρ' w' ∧ μ ρ' w' < μ ρ w) K) ρ w) : W z P n (.loop c) K ρ w := by
  intro a hl
  let M : Act → World → Nat := fun a w => μ (fun i => a.tmps.getD i undef) w
  have hM : ∀ a ρ w, Lk z n a ρ → M a w = μ ρ w := by
    intro a ρ w hl
    have : (fun i => a.tmps.getD i undef) = ρ := funext hl.val
    show μ (fun i => a.tmps.getD i undef) w = μ ρ w
    rw [this]
  refine wpIn_loop (fun a w => ∃ ρ, Lk z n a ρ ∧ I ρ w) M ⟨ρ, hl, h0⟩ ?_
  rintro a w ⟨ρ, hl, hI⟩
  refine wpIn_mono (sx_W c _ ρ w hd (round ρ w hI) a hl) ?_
  rintro e a' w' ⟨ρ', hl', hk⟩
  cases e with
  | normal => exact ⟨⟨ρ', hl', hk.1⟩, by rw [hM a' ρ' w' hl', hM a ρ w hl]; exact hk.2⟩
  | exit id => exact ⟨ρ', hl', hk⟩
  | goto l => exact ⟨ρ', hl', hk⟩
  | ret => exact ⟨ρ', hl', hk⟩
  | panic c => exact ⟨ρ', hl', hk⟩
  | outgrown => exact ⟨ρ', hl', hk⟩
def noRound (P : Program) : Op → Bool
  | .call { callee := .value (.func f), .. } => (P.funcs[f]?).any fun fn => fn.body.isSome && !(fn.name == "runtime.NumGoroutine")
  | .call { callee := .builtin .append, .. } => true
  | .call { callee := .builtin .len, .. } => true
  | .call { callee := .builtin .max, .. } => true
  | .call { callee := .builtin .min, .. } => true
  | .call { callee := .builtin .copy, .. } => true
  | .move _ | .assign _ | .pick .. | .alloc _ | .box .. | .build .. | .buildSlice .. | .load .. | .store .. | .binOp .. | .unOp .. | .convert .. | .makeFunc .. | .makeMap .. | .makeSlice .. | .slice .. | .fieldAddr .. | .indexAddr .. | .lookup .. | .mapUpdate .. | .mapEntry .. | .entryStore .. | .field .. | .index .. | .makeInterface .. | .extract .. => true
  | _ => false
theorem run_value_ne {P : Program} {w w' : World} (s : Sem Value) (l : Nat) (f : FuncId) (t : Array Value) (x y : Code) : (do pure (Next.value (← s)) : Sem Next).run P w ≠ .ok (.round l f t x y) w' := by
  rw [Sem.run_bind]
  cases s.run P w with
  | ok v w1 => simp
  | halt h w1 => simp
theorem run_skip_ne {P : Program} {w w' : World} (s : Sem Unit) (l : Nat) (f : FuncId) (t : Array Value) (x y : Code) : (do s; pure Next.skip : Sem Next).run P w ≠ .ok (.round l f t x y) w' := by
  rw [Sem.run_bind]
  cases s.run P w with
  | ok v w1 => simp
  | halt h w1 => simp
theorem noRound_run {P : Program} {w w' : World} {ρ : Operand → Value} {o : Oper} {l : Nat} {f : FuncId} {t : Array Value} {x y : Code} (hρ : ∀ k, ρ (.func k) = .func (.func k) #[] #[]) (h : noRound P o.op = true) : (execOp ρ o).run P w ≠ .ok (.round l f t x y) w' := by
  obtain ⟨dst, op, ty, pos, after, guard⟩ := o
  dsimp only at h
  cases op with
  | move a => intro q; cases q
  | assign a => intro q; cases q
  | pick c a b =>
    show ((asBool (ρ c)) >>= fun t => pure (Next.value (if t then ρ a else ρ b)) : Sem Next).run P w ≠ _
    rw [Sem.run_bind]
    cases (asBool (ρ c)).run P w with
    | ok v w1 => simp
    | halt h w1 => simp
  | store t a v => exact run_skip_ne _ _ _ _ _ _
  | mapUpdate t m k v => exact run_skip_ne _ _ _ _ _ _
  | entryStore t m k v => exact run_skip_ne _ _ _ _ _ _
  | call c =>
    obtain ⟨callee, args, argTypes⟩ := c
    cases callee with
    | invoke r m => simp [noRound] at h
    | builtin b =>
      cases b <;> first | (simp [noRound] at h; done) | exact run_value_ne _ _ _ _ _ _
    | value g =>
      cases g <;> first | (simp [noRound] at h; done) | skip
      rename_i k
      simp only [noRound] at h
      cases hk : P.funcs[k]? with
      | none => rw [hk] at h; simp at h
      | some fn =>
        rw [hk] at h
        simp only [Option.any_some, Bool.and_eq_true, Bool.not_eq_true'] at h
        obtain ⟨h1, h2⟩ := h
        have hb' : fn.body ≠ none := by intro q; rw [q] at h1; cases h1
        have hn' : fn.name ≠ "runtime.NumGoroutine" := by intro q; rw [q] at h2; simp at h2
        have hc : (callFunc k ((args.map ρ) ++ #[])).run P w = .ok (.enter k ((args.map ρ) ++ #[])) w := by
          simp [callFunc, program, Sem.run, hk, hb', hn', Sem.run_bind, pure, bind, Sem.bind]
        intro q
        by_cases hf : ρ (.func k) = .func (.func k) #[] #[]
        · have he : (execOp ρ { dst := dst, op := .call { callee := .value (.func k), args := args, argTypes := argTypes }, type := ty, pos := pos, after := after, guard := guard }).run P w = .ok (.enter k ((args.map ρ) ++ #[])) w := by
            simp only [execOp, resolve, hf, Deferred.ofValue, Sem.run_bind, Sem.run_pure, Result.andThen_ok, invoke, Array.empty_append]
            exact hc
          rw [he] at q
          cases q
        · exact absurd (hρ k) hf
  | _ => first | (simp [noRound] at h; done) | exact run_value_ne _ _ _ _ _ _
def dstsIn (n : Nat) (ops : Array Oper) : Bool := ops.toList.all (oOk n)
def QK (P : Program) (C : World → Prop) (s : Sem Next) (K : Value → Prop) : Prop := ∃ v, (∀ w, C w → Oper.quietUpon P C w v (s.run P w)) ∧ K v
def QG (P : Program) (C : World → Prop) (g : Value) (b : Bool) (s : Sem Next) (K : Value → Prop) : Prop := GuardK g b (QK P C s K) (K undef)
def sxq1 (P : Program) (C : World → Prop) (ops : Array Oper) (o : Oper) (N : Sl → Prop) (ρ : Sl) : Prop :=
  match o with
  | ⟨dst, op, ty, _, _, g⟩ =>
    match g, dst with
    | none, some d => match mvOf op with
      | some x => N (up ρ d (ev ρ x))
      | none => QK P C (exo (ev ρ) op ty) fun v => N (up ρ d v)
    | none, none => QK P C (exo (ev ρ) op ty) fun _ => N ρ
    | some (j, b), some d => QG P C (gv ops ρ j) b (exo (ev ρ) op ty) fun v => N (up ρ d v)
    | some (j, b), none => QG P C (gv ops ρ j) b (exo (ev ρ) op ty) fun _ => N ρ
def sxq (P : Program) (C : World → Prop) (ops : Array Oper) (K : Sl → Prop) : List Oper → Sl → Prop
  | [], ρ => K ρ
  | o :: r, ρ => sxq1 P C ops o (sxq P C ops K r) ρ
theorem sxq1_eq (P : Program) (C : World → Prop) (ops : Array Oper) (o : Oper) (N : Sl → Prop) (ρ : Sl) (h : sxq1 P C ops o N ρ) :
    match o.guard with
      | none => QK P C (exo (ev ρ) o.op o.type) fun v => N (upo ρ o.dst v)
      | some (j, b) => QG P C (gv ops ρ j) b (exo (ev ρ) o.op o.type) fun v => N (upo ρ o.dst v) := by
  obtain ⟨dst, op, ty, pos, after, guard⟩ := o
  cases guard with
  | none =>
    cases dst with
    | none => exact h
    | some d =>
      cases op <;> first | exact h | exact ⟨_, fun w _ => ⟨rfl, rfl⟩, h⟩
  | some jb => cases dst <;> exact h
theorem sxq1_wp {P : Program} {z : At} {n : Nat} {C : World → Prop} {ops : Array Oper} {o : Oper} {N : Sl → Prop} {next : Act → Prop} {a : Act} {ρ : Sl}
    (hd : ∀ k, o.dst = some k → k < n) (hl : Lk z n a ρ) (h : sxq1 P C ops o N ρ) (hn : ∀ a ρ, Lk z n a ρ → N ρ → next a) :
    if Region.wanted o (yielded ops a.tmps) then o.quiet P a C next else next (a.put o.dst undef) := by
  have he : a.eval = ev ρ := funext (fun x => hl.ev x)
  have h := sxq1_eq P C ops o N ρ h
  have key : ∀ (hk : QK P C (exo (ev ρ) o.op o.type) fun v => N (upo ρ o.dst v)), o.quiet P a C next := by
    rintro ⟨v, h1, h2⟩
    refine ⟨v, fun w hw => ?_, hn _ _ (hl.put _ _ hd) h2⟩
    unfold Oper.quietAt
    rw [he, ← exo_eq]
    exact h1 w hw
  cases hg : o.guard with
  | none =>
    rw [hg] at h
    have hw : Region.wanted o (yielded ops a.tmps) = true := by unfold Region.wanted; rw [hg]
    rw [hw]
    simp only [if_true]
    exact key h
  | some jb =>
    obtain ⟨j, b⟩ := jb
    rw [hg] at h
    obtain ⟨h1, h2⟩ := h
    have hy := wanted_gv hl ops hg
    by_cases htb : wantB (gv ops ρ j) b = true
    · have hw : Region.wanted o (yielded ops a.tmps) = true := hy.trans htb
      rw [hw]
      simp only [if_true]
      exact key (h1 htb)
    · have htb : wantB (gv ops ρ j) b = false := Bool.eq_false_iff.2 htb
      have hw : Region.wanted o (yielded ops a.tmps) = false := hy.trans htb
      rw [hw]
      simp only [Bool.false_eq_true, if_false]
      exact hn _ _ (hl.put _ _ hd) (h2 htb)
theorem sxq_quiet {P : Program} {z : At} {n : Nat} {C : World → Prop} {ops : Array Oper} {K : Sl → Prop} {Q : Act → Prop} (hQ : ∀ a ρ, Lk z n a ρ → K ρ → Q a) : ∀ (l : List Oper) a ρ,
    (l.all (oOk n)) = true → Lk z n a ρ → sxq P C ops K l ρ → wpQuiet P ops C Q l a
  | [], a, ρ, _, hl, h => hQ a ρ hl h
  | o :: r, a, ρ, hd, hl, h => by
    simp only [List.all_cons, Bool.and_eq_true] at hd
    exact sxq1_wp (n := n) (oOk_dst hd.1) hl h (fun a ρ hl hq => sxq_quiet hQ r a ρ hd.2 hl hq)
theorem quiet_still {P : Program} {w : World} {ops : Array Oper} {Q : Act → Prop} : ∀ (l : List Oper) (a : Act), wpQuiet P ops (fun w' => w' = w) Q l a → wpStill P ops w Q l a
  | [], a, h => h
  | o :: r, a, h => by
    unfold wpQuiet at h
    unfold wpStill
    split at h
    · rename_i hw
      rw [if_pos hw]
      obtain ⟨v, h1, h2⟩ := h
      have h3 := h1 w rfl
      unfold Oper.quietAt at h3
      unfold Oper.still
      generalize (execOp a.eval o).run P w = x at *
      cases x with
      | halt x w' => exact h3.elim
      | ok x w' =>
        cases x <;> first | exact h3.elim | skip
        case value u => obtain ⟨rfl, rfl⟩ := h3; exact ⟨rfl, quiet_still r _ h2⟩
        case skip => obtain ⟨rfl, rfl⟩ := h3; exact ⟨rfl, quiet_still r _ h2⟩
        case enter f args => obtain ⟨rfl, hc⟩ := h3; exact ⟨rfl, v, hc, quiet_still r _ h2⟩
    · rename_i hw
      rw [if_neg hw]
      exact quiet_still r _ h
theorem W_quiet {P : Program} {n : Nat} {D : List Deferred} {id : Nat} {ops : Array Oper} {K : Exit → Sl → World → Prop} {ρ : Sl} {w : World} (C : World → Prop) (hd : dstsIn n ops = true)
    (hm : P.follows .mixedOrders = true) (hB : Region.lexB .any ops = true) (hC : C { w with drawn := w.drawn + 1 })
    (h : sxq P C ops (fun ρ' => ∀ w', C w' → K .normal ρ' w') ops.toList ρ) : W ⟨none, D⟩ P n (.region id ops true) K ρ w := by
  intro a hl
  refine wpIn_wide.2 (wp_region_quiet (C := C) hm hB hC ?_)
  exact sxq_quiet (n := n) (fun a ρ hl hq w' hw' => ⟨ρ, hl, hq w' hw'⟩) _ a ρ hd hl h
theorem sx1_wp0 {P : Program} {D : List Deferred} {n : Nat} {ops : Array Oper} {Q : Exit → Act → World → Prop} {o : Oper} {N : Sl → World → Prop} {next : Act → World → Prop} {a : Act} {ρ : Sl} {w : World}
    (hr : noRound P o.op = true) (hd : ∀ k, o.dst = some k → k < n) (hl : Lk ⟨none, D⟩ n a ρ) (h : sx1 P ops o N ρ w) (hn : ∀ a ρ w, Lk ⟨none, D⟩ n a ρ → N ρ w → next a w) :
    if Region.wanted o (yielded ops a.tmps) then o.wp P a w next Q ∨ (o.asks P a w ∧ LetsOut Q) else next (a.put o.dst undef) w := by
  have he : a.eval = ev ρ := funext (fun x => hl.ev x)
  rw [sx1_eq] at h
  have key : ∀ (hk : OpK P (exo (ev ρ) o.op o.type) w fun v w' => N (upo ρ o.dst v) w'), o.wp P a w next Q := by
    intro hk
    unfold Oper.wp
    rw [he]
    rw [exo_eq] at hk
    unfold OpK at hk
    unfold Oper.upon
    split at hk
    · rename_i v w' hr; rw [hr]; exact hn _ _ _ (hl.put _ _ hd) hk
    · rename_i w' hr; rw [hr]; exact hn _ _ _ (hl.put _ _ hd) hk
    · rename_i f args w' hr
      rw [hr]
      refine hk.mono ?_
      rintro e w'' ⟨v, rfl, hv⟩
      exact hn _ _ _ (hl.put _ _ hd) hv
    · rename_i l f tmps assign body w' hrun
      exact absurd hrun (noRound_run (fun _ => rfl) hr)
    · exact hk.elim
  cases hg : o.guard with
  | none =>
    rw [hg] at h
    have hw : Region.wanted o (yielded ops a.tmps) = true := by unfold Region.wanted; rw [hg]
    rw [hw]
    simp only [if_true]
    exact .inl (key h)
  | some jb =>
    obtain ⟨j, b⟩ := jb
    rw [hg] at h
    obtain ⟨h1, h2⟩ := h
    have hy := wanted_gv hl ops hg
    by_cases htb : wantB (gv ops ρ j) b = true
    · have hw : Region.wanted o (yielded ops a.tmps) = true := hy.trans htb
      rw [hw]
      simp only [if_true]
      exact .inl (key (h1 htb))
    · have htb : wantB (gv ops ρ j) b = false := Bool.eq_false_iff.2 htb
      have hw : Region.wanted o (yielded ops a.tmps) = false := hy.trans htb
      rw [hw]
      simp only [Bool.false_eq_true, if_false]
      exact hn _ _ _ (hl.put _ _ hd) (h2 htb)
theorem sxL_list {P : Program} {D : List Deferred} {n : Nat} {ops : Array Oper} {K : Sl → World → Prop} {Q : Exit → Act → World → Prop} (hQ : ∀ a ρ w, Lk ⟨none, D⟩ n a ρ → K ρ w → Q .normal a w) : ∀ (l : List Oper) a ρ w,
    (l.all (oOk n)) = true → (l.all fun o => noRound P o.op) = true → Lk ⟨none, D⟩ n a ρ → sxL P ops K l ρ w → wpList P ops Q l a w
  | [], a, ρ, w, _, _, hl, h => hQ a ρ w hl h
  | o :: r, a, ρ, w, hd, hr, hl, h => by
    simp only [List.all_cons, Bool.and_eq_true] at hd hr
    unfold wpList
    exact sx1_wp0 (n := n) hr.1 (oOk_dst hd.1) hl h (fun a ρ w hl hq => sxL_list hQ r a ρ w hd.2 hr.2 hl hq)
theorem W_tail {P : Program} {n : Nat} {D : List Deferred} {id : Nat} {ops : Array Oper} {K : Exit → Sl → World → Prop} {ρ : Sl} {w : World} (m : Nat) (hd : dstsIn n ops = true) (hr : ((ops.toList.drop m).all fun o => noRound P o.op) = true)
    (hm : P.follows .mixedOrders = true) (hB : Region.lexTailB .any ops m = true)
    (h : sxq P (fun w' => w' = { w with drawn := w.drawn + 1 }) ops (fun ρ' => sxL P ops (K .normal) (ops.toList.drop m) ρ' { w with drawn := w.drawn + 1 }) (ops.toList.take m) ρ) : W ⟨none, D⟩ P n (.region id ops true) K ρ w := by
  intro a hl
  obtain ⟨l⟩ := ops
  have ht : ((l.take m).all (oOk n)) = true := List.all_eq_true.2 fun o ho => List.all_eq_true.1 hd o (List.mem_of_mem_take ho)
  have hdr : ((l.drop m).all (oOk n)) = true := List.all_eq_true.2 fun o ho => List.all_eq_true.1 hd o (List.mem_of_mem_drop ho)
  refine wpIn_wide.2 (wp_region_still_tail m hm hB (quiet_still _ _ ?_))
  refine sxq_quiet (n := n) (fun a ρ hl hq => ?_) _ a ρ ht hl h
  exact sxL_list (fun a ρ w hl hq => ⟨ρ, hl, hq⟩) _ a ρ _ hdr hr hl hq
def ranged (w : World) : At := { r := none, D := [{ target := .collected w.heap.size, args := #[] }] }
def rec_ (w : World) (fn : FuncId) (tmps : Array Value) (ps : Array Tmp) (assign body : Code) : Loop := { state := .ready, pending := none, fn, tmps, params := ps, assign, body, defers := w.heap.size }
def enter_ (w : World) (L : Loop) : World := (w.alloc (.deferred (some []))).alloc (.loop L)
theorem range_wp {P : Program} {n : Nat} {g : Operand} {ps : Array Tmp} {assign body : Code} {Q : Exit → Act → World → Prop} {ρ : Sl} {w : World} {N : World → Prop} {f : FuncId} {fn' : Func} {cap : Array Value}
    (hg : ev ρ g = .func (.func f) #[] cap) (hf : P.funcs[f]? = some fn') (hb : fn'.body.isNone = false) (hnm : (fn'.name == "runtime.NumGoroutine") = false)
    (hcall : ∀ (fn : FuncId) (tmps : Array Value), tmps.size = n → (∀ i, tmps.getD i undef = ρ i) →
      Calls P f (#[.func (.yield (w.heap.size + 1)) #[] #[]] ++ cap) (enter_ w (rec_ w fn tmps ps assign body)) fun e w3 => ∃ v, e = .returned v ∧ ∃ L, w3.heap[w.heap.size + 1]? = some (.loop L) ∧ L.state ≠ .busy ∧ L.pending = none ∧
        N (w3.putObj (w.heap.size + 1) (.loop { L with state := .exhausted })))
    (hQ : ∀ a' w', Lk (ranged w) n a' ρ → N w' → Q .normal a' w') : ∀ a, Lk fn_ n a ρ → (Code.rangeFunc g ps assign body).wpIn (FF fn_) 0 P Q a w := by
  intro a hl
  refine wpIn_rangeFunc (fun fn _ => ?_)
  have hbd : fn'.body ≠ none := by intro q; rw [q] at hb; cases hb
  have hn' : fn'.name ≠ "runtime.NumGoroutine" := by intro q; rw [q] at hnm; simp at hnm
  refine ⟨w.heap.size + 1, [{ target := .collected w.heap.size, args := #[] }], enter_ w (rec_ w fn a.tmps ps assign body), { target := .fn (.func f) cap, args := #[.func (.yield (w.heap.size + 1)) #[] #[]] }, enter_ w (rec_ w fn a.tmps ps assign body), f, #[.func (.yield (w.heap.size + 1)) #[] #[]] ++ cap, enter_ w (rec_ w fn a.tmps ps assign body), run_enterLoop_outer fn a.tmps ps assign body, ?_, fun _ _ => trivial, ?_, fun q => by simp [FF, fn_, Fence.wide] at q, ?_⟩
  · have ha : (#[Operand.const (.func (.yield (w.heap.size + 1)) #[] #[])] : Array Operand).map a.eval = #[.func (.yield (w.heap.size + 1)) #[] #[]] := by rw [arr_map]; rfl
    simp only [resolve, rangeCall, hl.ev, hg, Deferred.ofValue, ha, Array.empty_append]
    exact rfl
  · show (callFunc f _).run P _ = _
    simp [callFunc, program, Sem.run, hf, hbd, hn', Sem.run_bind, pure, bind, Sem.bind]
  · have hc := hcall fn a.tmps hl.size hl.val
    refine CallsIn.mono (callsIn_wide.2 hc) ?_
    rintro e w3 ⟨v, rfl, L, hL, hst, hpn, hN⟩
    refine ⟨none, (w3.putObj (w.heap.size + 1) (.loop { L with state := .exhausted })), ?_, ?_⟩
    · rw [run_endLoop hL hst, hpn]
    · refine hQ _ _ ⟨hl.size, ?_, hl.val⟩ hN
      show [{ target := Target.collected w.heap.size, args := #[] }] ++ a.defers = _
      rw [hl.defers]
      rfl
theorem round_of {P : Program} {n l : Nat} {f : FuncId} {tmps : Array Value} {assign body : Code} {w : World} {R : Value → World → Prop} {ρ : Sl} (hs : tmps.size = n) (hv : ∀ i, tmps.getD i undef = ρ i) (hda : dstOk n assign = true) (hdb : dstOk n body = true)
    (h : sx ⟨some l, []⟩ P n assign (seqK (fun ρ1 w1 => ∃ L, w1.heap[l]? = some (.loop L) ∧ L.state = .ready ∧
      sx ⟨some l, []⟩ P n body (seqK (fun _ w3 => ∃ L, w3.heap[l]? = some (.loop L) ∧ R (.bool true) (w3.putObj l (.loop { L with state := .ready, pending := none }))) (fun _ _ _ => False)) ρ1 (w1.putObj l (.loop { L with state := .busy }))) (fun _ _ _ => False)) ρ w) :
    RoundIn Fence.wide 0 P l f tmps assign body w fun e w' => ∃ v, e = .returned v ∧ R v w' := by
  refine roundIn_of_wpIn trivial ?_
  have h1 := sx_W assign _ ρ w hda h { tmps := tmps, defers := [] } ⟨hs, rfl, hv⟩
  refine wpIn_mono h1 ?_
  rintro e a1 w1 ⟨ρ1, hl1, hk⟩
  cases e with
  | normal =>
    obtain ⟨L, hL, hst, hb⟩ := hk
    refine ⟨_, run_beginRound hL hst, ?_⟩
    refine wpIn_mono (sx_W body _ ρ1 _ hdb hb a1 hl1) ?_
    rintro e a2 w3 ⟨ρ2, hl2, hk⟩
    cases e with
    | normal =>
      obtain ⟨L', hL', hR⟩ := hk
      exact ⟨_, _, run_endRound none hL', _, rfl, hR⟩
    | exit id => exact hk.elim
    | goto l => exact hk.elim
    | ret => exact hk.elim
    | panic c => exact hk.elim
    | outgrown => exact hk.elim
  | exit id => exact hk.elim
  | goto l => exact hk.elim
  | ret => exact hk.elim
  | panic c => exact hk.elim
  | outgrown => exact hk.elim
def rho0 (args : List Value) : Sl := fun i => args.getD i undef
def resK (P : Program) (ρ : Sl) (k : List Value → World → Prop) : List ResultVar → World → Prop
  | [], w => k [] w
  | .tmp t :: r, w => resK P ρ (fun vs w => k (ρ t :: vs) w) r w
  | .cell x t :: r, w => ∃ v, (do loadVar t (← asAddr (ρ x)) : Sem Value).run P w = .ok v w ∧ resK P ρ (fun vs w => k (v :: vs) w) r w
def packV : List Value → Value
  | [v] => v
  | vs => .tuple vs.toArray
def retK (P : Program) (rs : List ResultVar) (R : Value → World → Prop) : Exit → Sl → World → Prop
  | .normal, ρ, w | .ret, ρ, w => resK P ρ (fun vs w => R (packV vs) w) rs w
  | _, _, _ => False
theorem resK_run {P : Program} {ρ : Sl} {w : World} (g : ResultVar → Sem Value) (hg : ∀ t, g (.tmp t) = Sem.pure (ρ t)) (hc : ∀ x t, g (.cell x t) = (do loadVar t (← asAddr (ρ x)))) (l : List ResultVar) :
    ∀ (k : List Value → World → Prop), resK P ρ k l w → ∃ vs, (l.mapM g).run P w = .ok vs w ∧ k vs w := by
  induction l with
  | nil => intro k h; exact ⟨[], rfl, h⟩
  | cons x r ih =>
    intro k h
    cases x with
    | tmp t =>
      obtain ⟨vs, hr, hk⟩ := ih _ h
      refine ⟨ρ t :: vs, ?_, hk⟩
      rw [List.mapM_cons, hg, Sem.run_bind]
      show ((List.mapM g r >>= fun us => pure (ρ t :: us)) : Sem (List Value)).run P w = _
      rw [Sem.run_bind, hr]
      rfl
    | cell x t =>
      obtain ⟨v, hv, h⟩ := h
      obtain ⟨vs, hr, hk⟩ := ih _ h
      refine ⟨v :: vs, ?_, hk⟩
      rw [List.mapM_cons, hc, Sem.run_bind, hv]
      simp only [Result.andThen_ok, Sem.run_bind, hr]
      rfl
theorem results_of_resK {P : Program} {z : At} {n : Nat} {fn : Func} {a : Act} {ρ : Sl} {w : World} {R : Value → World → Prop} (hl : Lk z n a ρ) (h : resK P ρ (fun vs w => R (packV vs) w) fn.results.toList w) :
    ∃ v, (results fn a.tmps).run P w = .ok v w ∧ R v w := by
  have key : ∀ g : ResultVar → Sem Value, (∀ t, g (.tmp t) = Sem.pure (ρ t)) → (∀ x t, g (.cell x t) = (do loadVar t (← asAddr (ρ x)))) →
      ∃ v, (do let vs ← List.toArray <$> fn.results.toList.mapM g; pure (if h : vs.size = 1 then vs[0] else .tuple vs) : Sem Value).run P w = .ok v w ∧ R v w := by
    intro g hg hc
    obtain ⟨vs, hr, hk⟩ := resK_run (P := P) (ρ := ρ) (w := w) g hg hc fn.results.toList _ h
    refine ⟨packV vs, ?_, hk⟩
    rw [Sem.run_bind, Sem.run_map, hr]
    simp only [Result.andThen_ok]
    match vs with
    | [] => rfl
    | [v] => rfl
    | v :: u :: r => rfl
  unfold results
  rw [Array.mapM_eq_mapM_toList]
  refine key _ ?_ ?_
  · intro t; rw [← hl.val t]; rfl
  · intro x t; rw [← hl.val x]
theorem calls_of_sx {P : Program} {f : FuncId} {fn : Func} {c : Code} {args : Array Value} {w : World} {R : Value → World → Prop} {n : Nat}
    (hf : P.funcs[f]? = some fn) (hb : fn.body = some c) (hn : fn.ntmps = n) (hsz : args.size ≤ n) (hd : dstOk n c = true)
    (h : sx fn_ P n c (retK P fn.results.toList R) (rho0 args.toList) w) : Calls P f args w fun e w' => ∃ v, e = .returned v ∧ R v w' := by
  refine callsIn_wide.1 (callsIn_of_wp (F := Fence.wide) (n := 0) hf hb trivial (wpIn_mono (sx_W c _ _ w hd h { tmps := args ++ Array.replicate (fn.ntmps - args.size) undef, defers := [] } ⟨?_, rfl, fun i => ?_⟩) ?_))
  · simp [hn]; omega
  · simp only [rho0, Array.getD_eq_getD_getElem?, List.getD_eq_getElem?_getD, Array.getElem?_append, Array.getElem?_toList]
    by_cases hi : i < args.size
    · rw [if_pos hi]
    · rw [if_neg hi, Array.getElem?_replicate, Array.getElem?_eq_none (xs := args) (by omega)]
      split <;> rfl
  · rintro e a' w' ⟨ρ', hl', hk⟩
    have key : ∀ (hq : resK P ρ' (fun vs w => R (packV vs) w) fn.results.toList w'), a'.defers = [] ∧ ∃ v, (results fn a'.tmps).run P w' = .ok v w' ∧ ∃ u, Ending.returned v = .returned u ∧ R u w' := by
      intro hq
      obtain ⟨v, hr, hk⟩ := results_of_resK hl' hq
      exact ⟨hl'.defers, v, hr, v, rfl, hk⟩
    cases e with
    | normal => exact key hk
    | ret => exact key hk
    | exit id => exact hk.elim
    | goto l => exact hk.elim
    | panic c => exact hk.elim
    | outgrown => exact hk.elim
def retC (P : Program) (b : Nat) (rs : List ResultVar) (R : Value → World → Prop) : Exit → Sl → World → Prop
  | .normal, ρ, w | .ret, ρ, w => w.heap[b]? = some (.deferred (some [])) ∧ resK P ρ (fun vs w => R (packV vs) w) rs (w.putObj b (.deferred none))
  | _, _, _ => False
theorem postM_of {P : Program} {n : Nat} {fn : Func} {R : Value → World → Prop} {w0 : World} {e : Exit} {a : Act} {w : World} (h : ∃ ρ, Lk (ranged w0) n a ρ ∧ retC P w0.heap.size fn.results.toList R e ρ w) :
    bodyPostM Fence.wide 0 P fn (fun e w' => ∃ v, e = .returned v ∧ R v w') e a w := by
  obtain ⟨ρ, hl, hk⟩ := h
  have key : ∀ (hq : w.heap[w0.heap.size]? = some (.deferred (some [])) ∧ resK P ρ (fun vs w => R (packV vs) w) fn.results.toList (w.putObj w0.heap.size (.deferred none))),
      LeavesInM Fence.wide 0 P fn a.tmps (fun e w' => ∃ v, e = .returned v ∧ R v w') a.defers .returning w := by
    rintro ⟨hd, hr⟩
    rw [hl.defers]
    refine ⟨by simp, .inl ⟨w0.heap.size, _, rfl, run_takeDeferred hd, ?_⟩⟩
    obtain ⟨v, hv, hR⟩ := results_of_resK hl hr
    exact ⟨v, hv, v, rfl, hR⟩
  cases e with
  | normal => exact key hk
  | ret => exact key hk
  | exit id => exact hk.elim
  | goto l => exact hk.elim
  | panic c => exact hk.elim
  | outgrown => exact hk.elim
theorem calls_of_M {P : Program} {f : FuncId} {fn : Func} {c : Code} {args : Array Value} {w : World} {R : Value → World → Prop} {n : Nat}
    (hf : P.funcs[f]? = some fn) (hb : fn.body = some c) (hn : fn.ntmps = n) (hsz : args.size ≤ n)
    (h : ∀ a, Lk fn_ n a (rho0 args.toList) → c.wpIn (FF fn_) 0 P (bodyPostM Fence.wide 0 P fn (fun e w' => ∃ v, e = .returned v ∧ R v w')) a w) : Calls P f args w fun e w' => ∃ v, e = .returned v ∧ R v w' := by
  refine callsIn_wide.1 (callsIn_of_wp_marks (F := Fence.wide) (n := 0) hf hb trivial (h { tmps := args ++ Array.replicate (fn.ntmps - args.size) undef, defers := [] } ⟨?_, rfl, fun i => ?_⟩))
  · simp [hn]; omega
  · simp only [rho0, Array.getD_eq_getD_getElem?, List.getD_eq_getElem?_getD, Array.getElem?_append, Array.getElem?_toList]
    by_cases hi : i < args.size
    · rw [if_pos hi]
    · rw [if_neg hi, Array.getElem?_replicate, Array.getElem?_eq_none (xs := args) (by omega)]
      split <;> rfl
theorem seq_M {P : Program} {n : Nat} {x y : Code} {Q : Exit → Act → World → Prop} {ρ : Sl} {w : World} (hd : dstOk n x = true) {N : Sl → World → Prop} (hx : sx fn_ P n x (seqK N (fun _ _ _ => False)) ρ w)
    (hy : ∀ ρ' w', N ρ' w' → ∀ a, Lk fn_ n a ρ' → y.wpIn (FF fn_) 0 P Q a w') : ∀ a, Lk fn_ n a ρ → (Code.seq x y).wpIn (FF fn_) 0 P Q a w := by
  intro a hl
  refine wpIn_seq (wpIn_mono (sx_W x _ ρ w hd hx a hl) ?_)
  rintro e a' w' ⟨ρ', hl', hk⟩
  cases e with
  | normal => exact hy ρ' w' hk a' hl'
  | exit id => exact hk.elim
  | goto l => exact hk.elim
  | ret => exact hk.elim
  | panic c => exact hk.elim
  | outgrown => exact hk.elim
theorem seq_range {P : Program} {n i : Nat} {x : Code} {g : Operand} {ps : Array Tmp} {assign body rest : Code} {fn : Func} {R : Value → World → Prop} {ρ : Sl} {w : World} (hd : dstOk n x = true) (hdr : dstOk n rest = true) {N : Sl → World → Prop} (hx : sx fn_ P n x (seqK N (fun _ _ _ => False)) ρ w)
    (hy : ∀ ρ' w', N ρ' w' → ∃ (f : FuncId) (fn' : Func) (cap : Array Value), ev ρ' g = .func (.func f) #[] cap ∧ P.funcs[f]? = some fn' ∧ fn'.body.isNone = false ∧ (fn'.name == "runtime.NumGoroutine") = false ∧
      ∀ (fn0 : FuncId) (tmps : Array Value), tmps.size = n → (∀ i, tmps.getD i undef = ρ' i) →
        Calls P f (#[.func (.yield (w'.heap.size + 1)) #[] #[]] ++ cap) (enter_ w' (rec_ w' fn0 tmps ps assign body)) fun e w3 => ∃ v, e = .returned v ∧ ∃ L, w3.heap[w'.heap.size + 1]? = some (.loop L) ∧ L.state ≠ .busy ∧ L.pending = none ∧
          sx (ranged w') P n rest (retC P w'.heap.size fn.results.toList R) ρ' (w3.putObj (w'.heap.size + 1) (.loop { L with state := .exhausted }))) :
    ∀ a, Lk fn_ n a ρ → (Code.seq (Code.seq x (.block i (.rangeFunc g ps assign body))) rest).wpIn (FF fn_) 0 P (bodyPostM Fence.wide 0 P fn (fun e w' => ∃ v, e = .returned v ∧ R v w')) a w := by
  intro a hl
  refine wpIn_seq (wpIn_seq (wpIn_mono (sx_W x _ ρ w hd hx a hl) ?_))
  rintro e a' w' ⟨ρ', hl', hk⟩
  cases e with
  | normal =>
    obtain ⟨f, fn', cap, h1, h2, h3, h4, h5⟩ := hy ρ' w' hk
    refine wpIn_block (range_wp (N := fun w4 => sx (ranged w') P n rest (retC P w'.heap.size fn.results.toList R) ρ' w4) h1 h2 h3 h4 h5 ?_ a' hl')
    intro a2 w4 hl2 hN
    exact wpIn_mono (sx_W rest _ ρ' w4 hdr hN a2 hl2) (fun e a3 w5 hq => postM_of hq)
  | exit id => exact hk.elim
  | goto l => exact hk.elim
  | ret => exact hk.elim
  | panic c => exact hk.elim
  | outgrown => exact hk.elim
def VK (P : Program) (s : Sem Value) (w : World) (K : Value → World → Prop) : Prop := OpK P (do pure (Next.value (← s))) w K
def UK (P : Program) (s : Sem Unit) (w : World) (K : Value → World → Prop) : Prop := OpK P (do s; pure Next.skip) w K
def NK (P : Program) (v : Value) (w : World) (K : Value → World → Prop) : Prop := OpK P (nilCk v) w K
def PK (P : Program) (c a b : Value) (w : World) (K : Value → World → Prop) : Prop := OpK P (do pure (Next.value (if ← asBool c then a else b))) w K
def BK (P : Program) (op : BinOp) (t : TypeId) (x y : Operand) (a b : Value) (w : World) (K : Value → World → Prop) : Prop := OpK P (do pure (Next.value (← (do eqGuard op t x y a b; binOp op t a b)))) w K
def CK (P : Program) (f : Value) (args : List Value) (w : World) (K : Value → World → Prop) : Prop := OpK P (do let d ← Deferred.ofValue f args.toArray; invoke d.target d.args) w K
def IK (P : Program) (b : Builtin) (ts : Array TypeId) (t : TypeId) (cs : List Bool) (args : List Value) (w : World) (K : Value → World → Prop) : Prop := OpK P (builtin b ts t cs.toArray args.toArray) w K
def VG (P : Program) (g : Value) (b : Bool) (s : Sem Value) (w : World) (K : Value → World → Prop) : Prop := GOp P g b (do pure (Next.value (← s))) w K
def UG (P : Program) (g : Value) (b : Bool) (s : Sem Unit) (w : World) (K : Value → World → Prop) : Prop := GOp P g b (do s; pure Next.skip) w K
def MG (P : Program) (g : Value) (b : Bool) (v : Value) (w : World) (K : Value → World → Prop) : Prop := GOp P g b (pure (Next.value v)) w K
def NG (P : Program) (g : Value) (b : Bool) (v : Value) (w : World) (K : Value → World → Prop) : Prop := GOp P g b (nilCk v) w K
def PG (P : Program) (g : Value) (gb : Bool) (c a b : Value) (w : World) (K : Value → World → Prop) : Prop := GOp P g gb (do pure (Next.value (if ← asBool c then a else b))) w K
def BG (P : Program) (g : Value) (gb : Bool) (op : BinOp) (t : TypeId) (x y : Operand) (a b : Value) (w : World) (K : Value → World → Prop) : Prop := GOp P g gb (do pure (Next.value (← (do eqGuard op t x y a b; binOp op t a b)))) w K
def CG (P : Program) (g : Value) (gb : Bool) (f : Value) (args : List Value) (w : World) (K : Value → World → Prop) : Prop := GOp P g gb (do let d ← Deferred.ofValue f args.toArray; invoke d.target d.args) w K
def IG (P : Program) (g : Value) (gb : Bool) (b : Builtin) (ts : Array TypeId) (t : TypeId) (cs : List Bool) (args : List Value) (w : World) (K : Value → World → Prop) : Prop := GOp P g gb (builtin b ts t cs.toArray args.toArray) w K
def cAt : List Nat → Code → Code
  | [], c => c
  | 0 :: p, .seq a _ => cAt p a
  | _ :: p, .seq _ b => cAt p b
  | 0 :: p, .cond _ a _ => cAt p a
  | _ :: p, .cond _ _ b => cAt p b
  | _ :: p, .block _ c => cAt p c
  | _ :: p, .loop c => cAt p c
  | _ :: p, .scope c => cAt p c
  | 0 :: p, .rangeFunc _ _ a _ => cAt p a
  | _ :: p, .rangeFunc _ _ _ b => cAt p b
  | _, c => c
def gOf : Code → Operand
  | .rangeFunc g _ _ _ => g
  | _ => .const undef
def psOf : Code → Array Tmp
  | .rangeFunc _ ps _ _ => ps
  | _ => #[]
def opsOf : Code → Array Oper
  | .region _ ops _ => ops
  | _ => #[]
def idOf : Code → Nat
  | .region id _ _ => id
  | _ => 0
end Go.X
set_option linter.unusedVariables false
set_option linter.unusedSimpArgs false
namespace Go.X
open Go Go.RowKit
section
variable {P : Program} {w w' : World} {K : Value → World → Prop}
theorem VK_of {s : Sem Value} {v : Value} (h : s.run P w = .ok v w') (hk : K v w') : VK P s w K := by
  unfold VK OpK
  simp only [Sem.run_bind, h, Result.andThen_ok]
  exact hk
theorem VK_eq_of {s : Sem Value} {v : Value} (h : s.run P w = .ok v w') : VK P s w K = K v w' := by
  unfold VK OpK
  simp only [Sem.run_bind, h, Result.andThen_ok]
  rfl
theorem UK_of {s : Sem Unit} (h : s.run P w = .ok () w') (hk : K undef w') : UK P s w K := by
  unfold UK OpK
  simp only [Sem.run_bind, h, Result.andThen_ok]
  exact hk
theorem CK_fn {f : FuncId} {fn : Func} {first cap : Array Value} {args : List Value} {R : Value → World → Prop} (hf : P.funcs[f]? = some fn) (hb : fn.body.isNone = false) (hn : (fn.name == "runtime.NumGoroutine") = false)
    (h : Calls P f (first ++ args.toArray ++ cap) w fun e w' => ∃ v, e = .returned v ∧ R v w') (hk : ∀ v w', R v w' → K v w') : CK P (.func (.func f) first cap) args w K := by
  unfold CK OpK
  have hr : (do let d ← Deferred.ofValue (.func (.func f) first cap) args.toArray; invoke d.target d.args : Sem Next).run P w = .ok (.enter f (first ++ args.toArray ++ cap)) w := by
    have hb' : fn.body ≠ none := by intro q; rw [q] at hb; cases hb
    have hn' : fn.name ≠ "runtime.NumGoroutine" := by intro q; rw [q] at hn; simp at hn
    simp [Deferred.ofValue, invoke, callFunc, program, Sem.run, hf, hb', hn', Sem.run_bind, pure, bind, Sem.bind]
  rw [hr]
  exact h.mono fun e w' ⟨v, he, hv⟩ => ⟨v, he, hk _ _ hv⟩
theorem CK_st {f : FuncId} {fn : Func} {args : List Value} {R : Value → World → Prop} (hf : P.funcs[f]? = some fn) (hb : fn.body.isNone = false) (hn : (fn.name == "runtime.NumGoroutine") = false)
    (h : Calls P f args.toArray w fun e w' => ∃ v, e = .returned v ∧ R v w') (hk : ∀ v w', R v w' → K v w') : CK P (.func (.func f) #[] #[]) args w K :=
  CK_fn hf hb hn (by simpa using h) hk
theorem PK_bool (t : Bool) (a b : Value) : PK P (.bool t) a b w K = K (if t then a else b) w := by
  unfold PK OpK; cases t <;> rfl
theorem NK_ptr (a : Addr) : NK P (.pointer (some a)) w K = K (.pointer (some a)) w := by
  unfold NK OpK; rfl
theorem extract_ok {vs : Array Value} {i : Nat} {v : Value} (h : vs[i]? = some v) : VK P (Instr.extract (.tuple vs) i) w K = K v w := by
  unfold VK OpK; simp [Instr.extract, h]
theorem not_ok (t : Bool) : VK P (Op.unary .not (.bool t)) w K = K (.bool (!t)) w := by
  unfold VK OpK; rfl
section
variable (t : TypeId) (x y : Operand) (k : IntKind) (a b : Int)
theorem BK_lss : BK P .lss t x y (.int k a) (.int k b) w K = K (.bool (decide (a < b))) w := by unfold BK OpK; go_simp
theorem BK_leq : BK P .leq t x y (.int k a) (.int k b) w K = K (.bool (decide (a ≤ b))) w := by unfold BK OpK; go_simp
theorem BK_gtr : BK P .gtr t x y (.int k a) (.int k b) w K = K (.bool (decide (b < a))) w := by unfold BK OpK; go_simp
theorem BK_geq : BK P .geq t x y (.int k a) (.int k b) w K = K (.bool (decide (b ≤ a))) w := by unfold BK OpK; go_simp
theorem BK_eql : BK P .eql t x y (.int k a) (.int k b) w K = K (.bool (a == b)) w := by unfold BK OpK; go_simp
theorem BK_neq : BK P .neq t x y (.int k a) (.int k b) w K = K (.bool (a != b)) w := by unfold BK OpK; go_simp
theorem BK_add : BK P .add t x y (.int k a) (.int k b) w K = K (.int k (k.wrap (a + b))) w := by unfold BK OpK; go_simp
theorem BK_sub : BK P .sub t x y (.int k a) (.int k b) w K = K (.int k (k.wrap (a - b))) w := by unfold BK OpK; go_simp
theorem BK_mul : BK P .mul t x y (.int k a) (.int k b) w K = K (.int k (k.wrap (a * b))) w := by unfold BK OpK; go_simp
end
theorem BK_of {op : BinOp} {t : TypeId} {x y : Operand} {a b v : Value} (hg : (eqGuard op t x y a b).run P w = .ok () w) (h : (binOp op t a b).run P w = .ok v w) : BK P op t x y a b w K = K v w := by
  unfold BK OpK
  simp only [Sem.run_bind, hg, h, Result.andThen_ok]
  rfl
theorem BK_eqlB {t : TypeId} (h : P.underlying t = some .bool) (x y : Operand) (a b : Bool) : BK P .eql t x y (.bool a) (.bool b) w K = K (.bool (a == b)) w := BK_of rfl (run_eql_bool w t a b h)
theorem BK_eqlS (t : TypeId) (x y : Operand) (a b : ByteArray) : BK P .eql t x y (.string a) (.string b) w K = K (.bool (a.toList == b.toList)) w := BK_of rfl (by rw [binOp_string_eql]; rfl)
theorem BK_neqS (t : TypeId) (x y : Operand) (a b : ByteArray) : BK P .neq t x y (.string a) (.string b) w K = K (.bool (!(a.toList == b.toList))) w := BK_of rfl (by rw [binOp_string_neq]; rfl)
theorem GOp_bool (t b : Bool) (s : Sem Next) : GOp P (.bool t) b s w K = if t = b then OpK P s w K else K undef w := by
  unfold GOp GuardK wantB
  by_cases h : t = b <;> simp [h]
theorem GOp_u (b : Bool) (s : Sem Next) : GOp P undef b s w K = K undef w := by
  unfold GOp GuardK wantB undef
  simp
theorem VG_u (b : Bool) (s : Sem Value) : VG P undef b s w K = K undef w := GOp_u b _
theorem UG_u (b : Bool) (s : Sem Unit) : UG P undef b s w K = K undef w := GOp_u b _
theorem MG_u (b : Bool) (v : Value) : MG P undef b v w K = K undef w := by unfold MG; rw [GOp_u]
theorem NG_u (b : Bool) (v : Value) : NG P undef b v w K = K undef w := GOp_u b _
theorem PG_u (gb : Bool) (c a b : Value) : PG P undef gb c a b w K = K undef w := GOp_u gb _
theorem BG_u (gb : Bool) (op : BinOp) (ty : TypeId) (x y : Operand) (a b : Value) : BG P undef gb op ty x y a b w K = K undef w := GOp_u gb _
theorem CG_u (gb : Bool) (f : Value) (args : List Value) : CG P undef gb f args w K = K undef w := GOp_u gb _
theorem IG_u (gb : Bool) (b : Builtin) (ts : Array TypeId) (ty : TypeId) (cs : List Bool) (args : List Value) : IG P undef gb b ts ty cs args w K = K undef w := GOp_u gb _
theorem VG_b (t b : Bool) (s : Sem Value) : VG P (.bool t) b s w K = if t = b then VK P s w K else K undef w := GOp_bool t b _
theorem UG_b (t b : Bool) (s : Sem Unit) : UG P (.bool t) b s w K = if t = b then UK P s w K else K undef w := GOp_bool t b _
theorem MG_b (t b : Bool) (v : Value) : MG P (.bool t) b v w K = K (if t = b then v else undef) w := by
  unfold MG; rw [GOp_bool]; by_cases h : t = b <;> simp [h]; rfl
theorem NG_b (t b : Bool) (v : Value) : NG P (.bool t) b v w K = if t = b then NK P v w K else K undef w := GOp_bool t b _
theorem PG_b (t gb : Bool) (c a b : Value) : PG P (.bool t) gb c a b w K = if t = gb then PK P c a b w K else K undef w := GOp_bool t gb _
theorem BG_b (t gb : Bool) (op : BinOp) (ty : TypeId) (x y : Operand) (a b : Value) : BG P (.bool t) gb op ty x y a b w K = if t = gb then BK P op ty x y a b w K else K undef w := GOp_bool t gb _
theorem CG_b (t gb : Bool) (f : Value) (args : List Value) : CG P (.bool t) gb f args w K = if t = gb then CK P f args w K else K undef w := GOp_bool t gb _
theorem IG_b (t gb : Bool) (b : Builtin) (ts : Array TypeId) (ty : TypeId) (cs : List Bool) (args : List Value) : IG P (.bool t) gb b ts ty cs args w K = if t = gb then IK P b ts ty cs args w K else K undef w := GOp_bool t gb _
theorem IK_of {b : Builtin} {ts : Array TypeId} {ty : TypeId} {cs : List Bool} {args : List Value} {v : Value} {s : Sem Value} (he : builtin b ts ty cs.toArray args.toArray = (do pure (Next.value (← s)))) (h : s.run P w = .ok v w') (hk : K v w') : IK P b ts ty cs args w K := by
  unfold IK OpK
  rw [he]
  simp only [Sem.run_bind, h, Result.andThen_ok]
  exact hk
theorem elem_of {t e : TypeId} (h : P.underlying t = some (.slice e)) : P.underlying t = some (.slice (P.elem t)) := by simp [Program.elem, h]
theorem len_sl {t e ty : TypeId} (h : P.underlying t = some (.slice e)) (cs : List Bool) (A : Option Addr) (n c : Nat) : IK P .len #[t] ty cs [.slice A n c] w K = K (.int .i64 n) w := by
  unfold IK OpK
  simp [builtin, run_len_slice w t ty A n c (elem_of h), goInt]
theorem len_str {t ty : TypeId} (h : P.underlying t = some .string) (cs : List Bool) (s : ByteArray) : IK P .len #[t] ty cs [.string s] w K = K (.int .i64 s.size) w := by
  unfold IK OpK
  simp [builtin, run_len_string w t ty s h, goInt]
theorem mkFunc (f : Fn) (a b : List Value) : VK P (Instr.makeFunc f a.toArray b.toArray) w K = K (.func f a.toArray b.toArray) w := rfl
theorem max_i (ts : Array TypeId) (ty : TypeId) (cs : List Bool) (k k' : IntKind) (x y : Int) : IK P .max ts ty cs [.int k x, .int k' y] w K = K (.int k (if y > x then y else x)) w := by
  unfold IK OpK
  simp [builtin, run_max_int2]
theorem min_i (ts : Array TypeId) (ty : TypeId) (cs : List Bool) (k k' : IntKind) (x y : Int) : IK P .min ts ty cs [.int k x, .int k' y] w K = K (.int k (if y < x then y else x)) w := by
  unfold IK OpK
  simp [builtin, run_min_int2]
theorem CondK_bool (t : Bool) (A B : Prop) : CondK (.bool t) A B = if t then A else B := by
  unfold CondK; cases t <;> simp
end
theorem up_at (ρ : Sl) (d : Nat) (v : Value) (i : Nat) : up ρ d v i = if i = d then v else ρ i := by
  unfold up
  by_cases h : i = d
  · subst h; simp [Nat.beq_refl]
  · have : Nat.beq i d = false := by
      cases hq : Nat.beq i d with
      | false => rfl
      | true => exact absurd (Nat.eq_of_beq_eq_true hq) h
    simp [this, h]
def setB (w : World) (b : Nat) (o : Obj) : World := { w with heap := w.heap.setIfInBounds b o }
theorem setB_size (w : World) (b : Nat) (o : Obj) : (setB w b o).heap.size = w.heap.size := by simp [setB]
theorem setB_new (w : World) (b : Nat) (o : Obj) (h : b < w.heap.size) : (setB w b o).heap[b]? = some o := by simp [setB, h]
theorem setB_old (w : World) (b i : Nat) (o : Obj) (h : i ≠ b) : (setB w b o).heap[i]? = w.heap[i]? := by
  simp only [setB]; rw [Array.getElem?_setIfInBounds_ne (Ne.symm h)]
theorem alloc_size (w : World) (o : Obj) : (w.alloc o).heap.size = w.heap.size + 1 := by simp
theorem alloc_new (w : World) (o : Obj) : (w.alloc o).heap[w.heap.size]? = some o := heap_alloc_new w o
theorem alloc_old (w : World) (o : Obj) (i : Nat) (h : i < w.heap.size) : (w.alloc o).heap[i]? = w.heap[i]? := by
  show (w.heap.push o)[i]? = _
  rw [Array.getElem?_push, if_neg (Nat.ne_of_lt h)]
theorem cell_blk {w : World} {b j : Nat} {cs : Array Value} {t : TypeId} {fr : Nat × Nat} (h : w.heap[b]? = some (.cells cs t fr)) : w.cell? ⟨b, j, none⟩ = cs[j]? := by simp [World.cell?, h]
theorem blk_lt {w : World} {b : Nat} {o : Obj} (h : w.heap[b]? = some o) : b < w.heap.size := (Array.getElem?_eq_some_iff.1 h).1
theorem add_pl (b o j : Nat) : (⟨b, o, none⟩ : Addr).add j = ⟨b, o + j, none⟩ := by unfold Addr.add; split <;> simp_all
structure Mod (S : Nat → Prop) (w w' : World) : Prop where
  os : w'.os = w.os
  tape : w'.tape = w.tape
  output : w'.output = w.output
  size : w.heap.size ≤ w'.heap.size
  block : ∀ k, k < w.heap.size → ¬ S k → w'.heap[k]? = w.heap[k]?
def none_ : Nat → Prop := fun _ => False
theorem Mod.refl (S : Nat → Prop) (w : World) : Mod S w w := ⟨rfl, rfl, rfl, Nat.le_refl _, fun _ _ _ => rfl⟩
theorem Mod.trans {S : Nat → Prop} {a b c : World} (h : Mod S a b) (k : Mod S b c) : Mod S a c :=
  ⟨k.os.trans h.os, k.tape.trans h.tape, k.output.trans h.output, Nat.le_trans h.size k.size, fun i hi hs => (k.block i (Nat.lt_of_lt_of_le hi h.size) hs).trans (h.block i hi hs)⟩
theorem Mod.mono {S S' : Nat → Prop} {a b : World} (h : Mod S a b) (hs : ∀ k, k < a.heap.size → S k → S' k) : Mod S' a b :=
  ⟨h.os, h.tape, h.output, h.size, fun i hi hn => h.block i hi (fun q => hn (hs i hi q))⟩
theorem Mod.then {S T : Nat → Prop} {a b c : World} (h : Mod S a b) (k : Mod T b c) (hT : ∀ i, i < a.heap.size → T i → S i) : Mod S a c :=
  ⟨k.os.trans h.os, k.tape.trans h.tape, k.output.trans h.output, Nat.le_trans h.size k.size, fun i hi hs => (k.block i (Nat.lt_of_lt_of_le hi h.size) (fun q => hs (hT i hi q))).trans (h.block i hi hs)⟩
theorem Mod.alloc {S : Nat → Prop} {a b : World} (h : Mod S a b) (o : Obj) : Mod S a (b.alloc o) :=
  h.trans ⟨rfl, rfl, rfl, by simp, fun k hk _ => alloc_old b o k hk⟩
theorem Mod.set {S : Nat → Prop} {a b : World} (h : Mod S a b) {i : Nat} (o : Obj) (hi : i < a.heap.size → S i) : Mod S a (setB b i o) :=
  h.then (T := fun k => k = i) ⟨rfl, rfl, rfl, Nat.le_of_eq (setB_size b i o).symm, fun k _ hk => setB_old b i k o hk⟩ (fun k hk e => e ▸ hi (e ▸ hk))
theorem Mod.drawn {S : Nat → Prop} {a b : World} (h : Mod S a b) (n : Nat) : Mod S a { b with drawn := n } := ⟨h.os, h.tape, h.output, h.size, h.block⟩
theorem Mod.ofGrown {a b : World} {row : Option Nat} (h : a.grownBy b row) : Mod (fun k => some k = row) a b := ⟨h.os, h.tape, h.output, h.size, fun k hk hn => h.block k hk hn⟩
theorem Mod.toBelow {a b : World} (h : Mod none_ a b) : Below a.heap.size a b := ⟨h.os, h.tape, h.output, h.size, fun k hk => h.block k hk id⟩
theorem Mod.blk {S : Nat → Prop} {a b : World} (h : Mod S a b) {i : Nat} {o : Obj} (hi : a.heap[i]? = some o) (hn : ¬ S i) : b.heap[i]? = some o := (h.block i (blk_lt hi) hn).trans hi
section
variable {P : Program} {w w' : World} {K : Value → World → Prop}
theorem info_of {t : TypeId} {n : Nat} (h : P.cellsOf t = n + 1) : ∃ z, P.info? t = some z ∧ z.size = n + 1 := by
  unfold Program.cellsOf at h
  cases hz : P.info? t with
  | none => rw [hz] at h; simp at h
  | some z => rw [hz] at h; exact ⟨z, rfl, by simpa using h⟩
theorem alloc_ok {t : TypeId} {z : Value} (hz0 : (P.info? t).bind (·.zero) = some z) (v : Value) : VK P (Instr.alloc t true v) w K = K (.pointer (some ⟨w.heap.size, 0, none⟩)) (w.alloc (.cells z.cells t)) := by
  obtain ⟨i, hi, hz⟩ := Option.bind_eq_some_iff.1 hz0
  have h : (Instr.alloc t true v).run P w = .ok (.pointer (some ⟨w.heap.size, 0, none⟩)) (w.alloc (.cells z.cells t)) := by
    simp only [Instr.alloc, zeroValue, typeInfo, program, Sem.run_bind, Sem.run, hi, hz, newVar, newRow, newObj, Result.andThen_ok, Sem.run_pure]
    rfl
  unfold VK OpK
  simp only [Sem.run_bind, h, Result.andThen_ok]
  rfl
theorem box_ok (t : TypeId) (v : Value) : VK P (Instr.box t v) w K = K (.pointer (some ⟨w.heap.size, 0, none⟩)) (w.alloc (.cells v.cells t)) := rfl
theorem run_ld1 {t : TypeId} {d : TypeDesc} {a : Addr} {v : Value} (hu : P.underlying t = some d) (hd : (match d with | .struct _ | .array _ _ => true | _ => false) = false) (hc : w.cell? a = some v) : (Instr.loadAt t (.pointer (some a))).run P w = .ok v w := by
  have hagg : (isAgg t).run P w = .ok false w := by
    unfold isAgg
    rw [Sem.run_bind, run_underlying hu w]
    cases d <;> simp_all
  simp [Instr.loadAt, Instr.sureAddr, loadVar, Sem.run_bind, hagg, load, Sem.run, hc]
theorem ld1 {t : TypeId} {d : TypeDesc} {a : Addr} {v : Value} (hu : P.underlying t = some d) (hd : (match d with | .struct _ | .array _ _ => true | _ => false) = false) (hc : w.cell? a = some v) (hk : K v w) : VK P (Instr.loadAt t (.pointer (some a))) w K :=
  VK_of (run_ld1 hu hd hc) hk
theorem run_ldA {t : TypeId} {d : TypeDesc} {a : Addr} {cs : List Value} (hu : P.underlying t = some d) (hd : (match d with | .struct _ | .array _ _ => true | _ => false) = true) (hi : (P.info? t).map (·.size) = some cs.length)
    (hc : ∀ j v, cs[j]? = some v → w.cell? (a.add j) = some v) : (Instr.loadAt t (.pointer (some a))).run P w = .ok (.agg cs.toArray) w := by
  have hl := run_loadCells_list (P := P) w a cs hc
  cases hq : P.info? t with
  | none => simp [hq] at hi
  | some i =>
    have hs : i.size = cs.length := by simpa [hq] using hi
    have hagg : (isAgg t).run P w = .ok true w := by
      unfold isAgg
      rw [Sem.run_bind, run_underlying hu w]
      cases d <;> simp_all
    simp [Instr.loadAt, Instr.sureAddr, loadVar, Sem.run_bind, hagg, sizeOf, typeInfo, hq, hs, hl]
theorem ldA {t : TypeId} {d : TypeDesc} {a : Addr} {cs : List Value} (hu : P.underlying t = some d) (hd : (match d with | .struct _ | .array _ _ => true | _ => false) = true) (hi : (P.info? t).map (·.size) = some cs.length)
    (hc : ∀ j v, cs[j]? = some v → w.cell? (a.add j) = some v) (hk : K (.agg cs.toArray) w) : VK P (Instr.loadAt t (.pointer (some a))) w K := VK_of (run_ldA hu hd hi hc) hk
theorem run_ldB {t ty : TypeId} {d : TypeDesc} {b : Nat} {cs : Array Value} {fr : Nat × Nat} (hu : P.underlying t = some d) (hd : (match d with | .struct _ | .array _ _ => true | _ => false) = true) (hi : (P.info? t).map (·.size) = some cs.size)
    (hc : w.heap[b]? = some (.cells cs ty fr)) : (Instr.loadAt t (.pointer (some ⟨b, 0, none⟩))).run P w = .ok (.agg cs) w := by
  have := run_ldA (P := P) (w := w) (a := ⟨b, 0, none⟩) (cs := cs.toList) hu hd (by simpa using hi) (fun j v hv => by
    rw [add_pl, cell_blk hc]
    simpa using hv)
  simpa using this
theorem ldB {t ty : TypeId} {d : TypeDesc} {b : Nat} {cs : Array Value} {fr : Nat × Nat} (hu : P.underlying t = some d) (hd : (match d with | .struct _ | .array _ _ => true | _ => false) = true) (hi : (P.info? t).map (·.size) = some cs.size)
    (hc : w.heap[b]? = some (.cells cs ty fr)) (hk : K (.agg cs) w) : VK P (Instr.loadAt t (.pointer (some ⟨b, 0, none⟩))) w K := VK_of (run_ldB hu hd hi hc) hk
theorem fld {s : TypeId} {fs : Array Field} {i n : Nat} {f : Field} (hu : P.underlying s = some (.struct fs)) (hf : fs[i]? = some f) (hc : P.cellsOf f.type = n + 1) (a : Addr) :
    VK P (Instr.fieldAt s (.pointer (some a)) i) w K = K (.pointer (some (a.add f.offset))) w := by
  obtain ⟨z, hz, hzs⟩ := info_of hc
  have h0 : z.size ≠ 0 := by omega
  have h : (Instr.fieldAt s (.pointer (some a)) i).run P w = .ok (.pointer (some (a.add f.offset))) w := by
    simp [Instr.fieldAt, run_underlying hu, Sem.run_bind, hf, Instr.sureAddr, fieldPlace, sizeOf, typeInfo, hz, h0]
  unfold VK OpK
  simp only [Sem.run_bind, h, Result.andThen_ok]
  rfl
def fieldOff (P : Program) (s : TypeId) (i : Nat) : Option Nat :=
  match P.underlying s with
  | some (.struct fs) =>
    match fs[i]? with
    | some f => match P.cellsOf f.type with | 0 => none | _ + 1 => some f.offset
    | none => none
  | _ => none
theorem fo {s : TypeId} {i off : Nat} (h : fieldOff P s i = some off) (a : Addr) : VK P (Instr.fieldAt s (.pointer (some a)) i) w K = K (.pointer (some (a.add off))) w := by
  unfold fieldOff at h
  split at h
  · rename_i fs hu
    split at h
    · rename_i f hf
      split at h
      · cases h
      · rename_i n hc
        cases h
        exact fld hu hf hc a
    · cases h
  · cases h
theorem ixa {t e : TypeId} {sz : Nat} (hu : P.underlying t = some (.slice e)) (hc : P.cellsOf e = sz + 1) {a : Addr} {n c : Nat} {k : IntKind} {i : Int} (h0 : 0 ≤ i) (h1 : i < n) :
    VK P (Instr.indexAt t (.slice (some a) n c) (.int k i)) w K = K (.pointer (some (a.add (i.toNat * (sz + 1))))) w := by
  obtain ⟨z, hz, hzs⟩ := info_of hc
  have h : (Instr.indexAt t (.slice (some a) n c) (.int k i)).run P w = .ok (.pointer (some (a.add (i.toNat * (sz + 1))))) w := by
    simp [Instr.indexAt, run_underlying hu, Sem.run_bind, asIntOf, h0, h1, sizeOf, typeInfo, hz, hzs]
  unfold VK OpK
  simp only [Sem.run_bind, h, Result.andThen_ok]
  rfl
theorem setB_setCell (w : World) (b o : Nat) (cs : Array Value) (t : TypeId) (fr : Nat × Nat) (v : Value) (h : w.heap[b]? = some (.cells cs t fr)) : w.setCell ⟨b, o, none⟩ v = setB w b (.cells (cs.setIfInBounds o v) t fr) := by
  unfold World.setCell setB
  congr 1
  apply Array.ext_getElem?
  intro i
  rw [Array.getElem?_modify, Array.getElem?_setIfInBounds]
  by_cases e : b = i
  · subst e
    obtain ⟨hlt, hg⟩ := Array.getElem?_eq_some_iff.1 h
    simp [hlt, hg]
  · rw [if_neg e, if_neg e]
theorem st1 {t ty : TypeId} {b o : Nat} {cs : Array Value} {v : Value} (hc1 : P.cellsOf t = 1) (hv : v.oneCell' = true) (hb : w.heap[b]? = some (.cells cs ty (0, 0))) (ho : o < cs.size)
    (hk : K undef (setB w b (.cells (cs.setIfInBounds o v) ty (0, 0)))) : UK P (Instr.storeAt t (.pointer (some ⟨b, o, none⟩)) v) w K := by
  obtain ⟨z, hz, h1⟩ := info_of hc1
  refine UK_of (w' := setB w b (.cells (cs.setIfInBounds o v) ty (0, 0))) ?_ hk
  have hc : w.cell? ⟨b, o, none⟩ = some cs[o] := by rw [cell_blk hb]; simp [ho]
  have hf : w.frozen? ⟨b, o, none⟩ = false := by simp [World.frozen?, hb]
  have hcl : v.cells = #[v] := by cases v <;> first | rfl | simp [Value.oneCell'] at hv
  have ha : (⟨b, o, none⟩ : Addr).add 0 = ⟨b, o, none⟩ := rfl
  have hst : (Sem.store .plain ⟨b, o, none⟩ v (.pure ()) : Sem Unit).run P w = .ok () (w.setCell ⟨b, o, none⟩ v) := by
    cases v <;> first | (simp [Value.oneCell'] at hv; done) | simp [Sem.run, hc, hf]
  rw [← setB_setCell w b o cs ty (0, 0) v hb]
  simp only [Instr.storeAt, Instr.sureAddr, storeVar, Sem.run_bind, Sem.run_pure, Result.andThen_ok, sizeOf, typeInfo, program, Sem.run, hz, hcl]
  simp [h1, storeCells, store, ha, hst, Sem.run_bind]
end
section
variable {P : Program} {w w' : World} {K : Value → World → Prop}
theorem setRow_setB (w : World) (g : Nat) (cs cs' : Array Value) (t : TypeId) (h : w.heap[g]? = some (.cells cs t (0, 0))) : w.setRow g cs' = setB w g (.cells cs' t (0, 0)) := by
  obtain ⟨hlt, hg⟩ := Array.getElem?_eq_some_iff.1 h
  unfold World.setRow setB
  congr 1
  apply Array.ext_getElem?
  intro i
  rw [Array.getElem?_modify, Array.getElem?_setIfInBounds]
  by_cases e : g = i
  · subst e
    simp [hlt, hg]
  · rw [if_neg e, if_neg e]
theorem stB {t ty : TypeId} {b : Nat} {old cs : Array Value} (hi : (P.info? t).map (·.size) = some cs.size) (ho : old.size = cs.size) (h1 : cs.all (·.oneCell') = true) (hb : w.heap[b]? = some (.cells old ty (0, 0)))
    (hk : K undef (setB w b (.cells cs ty (0, 0)))) : UK P (Instr.storeAt t (.pointer (some ⟨b, 0, none⟩)) (.agg cs)) w K := by
  rw [← setRow_setB w b old cs ty hb] at hk
  refine UK_of ?_ hk
  simp only [Instr.storeAt, Instr.sureAddr, Sem.run_bind, Sem.run_pure, Result.andThen_ok]
  exact run_storeVar_row w b ty t old cs hb hi ho h1
theorem build_ok {t : TypeId} {parts : List (Nat × Value)} {cs : Array Value} (h : P.built t parts = some cs) : VK P (Instr.build t parts.toArray) w K = K (.agg cs) w := by
  have := run_build (P := P) w t parts.toArray cs (by simpa using h)
  unfold VK OpK
  simp only [Sem.run_bind, this, Result.andThen_ok]
  rfl
end
section
variable {P : Program} {C : World → Prop} {K : Value → Prop}
theorem QV_of {s : Sem Value} {v : Value} (h : ∀ w, C w → s.run P w = .ok v w) (hk : K v) : QK P C (do pure (Next.value (← s))) K := by
  refine ⟨v, fun w hw => ?_, hk⟩
  simp only [Sem.run_bind, h w hw, Result.andThen_ok]
  exact ⟨rfl, rfl⟩
theorem QN_ptr {a : Addr} (hk : K (.pointer (some a))) : QK P C (nilCk (.pointer (some a))) K := ⟨_, fun _ _ => ⟨rfl, rfl⟩, hk⟩
theorem QP_of {t : Bool} {a b : Value} (hk : K (if t then a else b)) : QK P C (do pure (Next.value (if ← asBool (.bool t) then a else b))) K :=
  ⟨_, fun _ _ => by cases t <;> exact ⟨rfl, rfl⟩, hk⟩
theorem QB_of {op : BinOp} {t : TypeId} {x y : Operand} {a b v : Value} (hg : ∀ w, (eqGuard op t x y a b).run P w = .ok () w) (h : ∀ w, (binOp op t a b).run P w = .ok v w) (hk : K v) : QK P C (do pure (Next.value (← (do eqGuard op t x y a b; binOp op t a b)))) K := by
  refine QV_of (fun w _ => ?_) hk
  simp only [Sem.run_bind, hg, h, Result.andThen_ok]
theorem QC_fn {f : FuncId} {fn : Func} {first cap : Array Value} {args : Array Value} {v : Value} (hf : P.funcs[f]? = some fn) (hb : fn.body.isNone = false) (hn : (fn.name == "runtime.NumGoroutine") = false)
    (h : ∀ w, C w → Calls P f (first ++ args ++ cap) w fun e w' => e = .returned v ∧ C w') (hk : K v) : QK P C (do let d ← Deferred.ofValue (.func (.func f) first cap) args; invoke d.target d.args) K := by
  refine ⟨v, fun w hw => ?_, hk⟩
  have hr : (do let d ← Deferred.ofValue (.func (.func f) first cap) args; invoke d.target d.args : Sem Next).run P w = .ok (.enter f (first ++ args ++ cap)) w := by
    have hb' : fn.body ≠ none := by intro q; rw [q] at hb; cases hb
    have hn' : fn.name ≠ "runtime.NumGoroutine" := by intro q; rw [q] at hn; simp at hn
    simp [Deferred.ofValue, invoke, callFunc, program, Sem.run, hf, hb', hn', Sem.run_bind, pure, bind, Sem.bind]
  rw [hr]
  exact ⟨rfl, h w hw⟩
theorem QC_st {f : FuncId} {fn : Func} {args : Array Value} {v : Value} (hf : P.funcs[f]? = some fn) (hb : fn.body.isNone = false) (hn : (fn.name == "runtime.NumGoroutine") = false)
    (h : ∀ w, C w → Calls P f args w fun e w' => e = .returned v ∧ C w') (hk : K v) : QK P C (do let d ← Deferred.ofValue (.func (.func f) #[] #[]) args; invoke d.target d.args) K :=
  QC_fn hf hb hn (by simpa using h) hk
theorem QG_b (t b : Bool) (s : Sem Next) : QG P C (.bool t) b s K = if t = b then QK P C s K else K undef := by
  unfold QG GuardK wantB
  by_cases h : t = b <;> simp [h]
end
end Go.X
set_option linter.unusedVariables false
set_option linter.unusedSimpArgs false
namespace Go.X
open Go Go.RowKit
def reads (w : World) (size : Nat) (v : Value) (n : Nat) (xs : List Value) : Prop :=
  xs.length = n * size ∧ ∃ A c, v = .slice A n c ∧ n ≤ c ∧ ∀ j u, xs[j]? = some u → ∃ a, A = some a ∧ w.cell? (a.add j) = some u
theorem reads_nil (w : World) (size : Nat) : reads w size (.slice none 0 0) 0 [] := ⟨by simp, none, 0, rfl, Nat.le_refl _, by simp⟩
theorem add_block (a : Addr) (j : Nat) : (a.add j).block = a.block := by unfold Addr.add; split <;> rfl
theorem reads_mod {S : Nat → Prop} {w w' : World} {size : Nat} {v : Value} {n : Nat} {xs : List Value} (h : reads w size v n xs) (hm : Mod S w w') (hS : ∀ k, k < w.heap.size → v.ownBlock = some k → ¬ S k) : reads w' size v n xs := by
  obtain ⟨hl, A, c, rfl, hc, hr⟩ := h
  refine ⟨hl, A, c, rfl, hc, fun j u hu => ?_⟩
  obtain ⟨a, rfl, hcell⟩ := hr j u hu
  have hlt := World.block_lt_of_cell? _ _ hcell
  rw [add_block] at hlt
  refine ⟨a, rfl, (World.cell?_of_block ?_).trans hcell⟩
  rw [add_block]
  exact hm.block _ hlt (hS _ hlt rfl)
theorem reads_of_owns {w : World} {base : Nat} {e : TypeId} {size : Nat} {v : Value} {n : Nat} {xs : List Value} (h : w.ownsRow base e size v n xs) : reads w size v n xs := by
  refine ⟨h.1, ?_⟩
  have hc := fun g hg => h.cells (g := g) hg
  rcases h.2 with ⟨rfl, rfl⟩ | ⟨g, cap, cur, rfl, _, _, hn, _⟩
  · have : xs = [] := List.length_eq_zero_iff.1 (by simpa using h.1)
    subst this
    exact ⟨none, 0, rfl, Nat.le_refl _, by simp⟩
  · exact ⟨_, cap, rfl, hn, fun j u hu => ⟨_, rfl, hc g rfl j u hu⟩⟩
theorem owns_mod {S : Nat → Prop} {w w' : World} {base : Nat} {e : TypeId} {size : Nat} {v : Value} {n : Nat} {xs : List Value} (h : w.ownsRow base e size v n xs) (hm : Mod S w w') (hS : ∀ k, v.ownBlock = some k → ¬ S k) : w'.ownsRow base e size v n xs := by
  refine ⟨h.1, ?_⟩
  rcases h.2 with hn | ⟨g, cap, cur, rfl, hb, hgg, rest⟩
  · exact .inl hn
  · exact .inr ⟨g, cap, cur, rfl, hb, hm.blk hgg (hS g rfl), rest⟩
theorem add_add (a : Addr) (i j : Nat) : (a.add i).add j = a.add (i + j) := by
  unfold Addr.add
  by_cases e1 : i = 0
  · by_cases e2 : j = 0
    · simp [e1, e2]
    · simp [e1, e2]
  · by_cases e2 : j = 0
    · simp [e1, e2]
    · rw [if_neg e2, if_neg e1, if_neg (by omega)]
      simp [Nat.add_assoc]
section
variable {P : Program} {w w' : World} {K : Value → World → Prop}
theorem ixld {t e : TypeId} {d : TypeDesc} (hu : P.underlying t = some (.slice e)) (hc : P.cellsOf e = 1) (hue : P.underlying e = some d) (hd : (match d with | .struct _ | .array _ _ => true | _ => false) = false) {v : Value} {n : Nat} {xs : List Value} (h : reads w 1 v n xs) {k : IntKind} {i : Int}
    (h0 : 0 ≤ i) {u : Value} (hi : xs[i.toNat]? = some u) {K : Value → Value → World → Prop} (hk : ∀ x, K x u w) : VK P (Instr.indexAt t v (.int k i)) w fun x w => VK P (Instr.loadAt e x) w (K x) := by
  obtain ⟨hl, A, c, rfl, _, hr⟩ := h
  obtain ⟨a, rfl, hcell⟩ := hr _ _ hi
  have hlt : i.toNat < xs.length := by
    rcases Nat.lt_or_ge i.toNat xs.length with q | q
    · exact q
    · rw [List.getElem?_eq_none q] at hi; cases hi
  rw [ixa (sz := 0) hu hc h0 (by omega)]
  exact ld1 hue hd (by simpa using hcell) (hk _)
theorem rd_cell {size : Nat} {n : Nat} {xs : List Value} {A : Option Addr} {c : Nat} (h : reads w size (.slice A n c) n xs) {i : Nat} (hi : i < n) : ∃ a, A = some a ∨ size = 0 := by
  by_cases hs : size = 0
  · exact ⟨⟨0, 0, none⟩, .inr hs⟩
  · obtain ⟨hl, A', c', he, _, hr⟩ := h
    have hlt : 0 < xs.length := by rw [hl]; exact Nat.mul_pos (by omega) (by omega)
    obtain ⟨a, rfl, _⟩ := hr 0 _ (List.getElem?_eq_getElem hlt)
    cases he
    exact ⟨a, .inl rfl⟩
theorem ixat {t e : TypeId} {sz : Nat} (hu : P.underlying t = some (.slice e)) (hc : P.cellsOf e = sz + 1) {v : Value} {n : Nat} {xs : List Value} (h : reads w (sz + 1) v n xs) {k : IntKind} {i : Int} (h0 : 0 ≤ i) (h1 : i < n)
    (hk : ∀ a, (∀ j u, j < sz + 1 → xs[i.toNat * (sz + 1) + j]? = some u → w.cell? (a.add j) = some u) → v.ownBlock = some a.block → K (.pointer (some a)) w) : VK P (Instr.indexAt t v (.int k i)) w K := by
  obtain ⟨hl, A, c, rfl, hnc, hr⟩ := h
  obtain ⟨a, ha | q⟩ := rd_cell ⟨hl, A, c, rfl, hnc, hr⟩ (i := i.toNat) (by omega)
  · subst ha
    rw [ixa hu hc h0 h1]
    refine hk _ (fun j u hj hx => ?_) (by rw [add_block]; rfl)
    obtain ⟨a', ha', hcell⟩ := hr _ _ hx
    cases ha'
    rw [add_add]
    exact hcell
  · omega
theorem ixldA {t e : TypeId} {d : TypeDesc} {sz : Nat} (hu : P.underlying t = some (.slice e)) (hc : P.cellsOf e = sz + 1) (hue : P.underlying e = some d) (hd : (match d with | .struct _ | .array _ _ => true | _ => false) = true) {v : Value} {n : Nat} {xs : List Value} (h : reads w (sz + 1) v n xs) {k : IntKind} {i : Int}
    (h0 : 0 ≤ i) (h1 : i < n) {K : Value → Value → World → Prop} (hk : ∀ x, K x (.agg ((xs.drop (i.toNat * (sz + 1))).take (sz + 1)).toArray) w) : VK P (Instr.indexAt t v (.int k i)) w fun x w => VK P (Instr.loadAt e x) w (K x) := by
  refine ixat hu hc h h0 h1 fun a ha _ => ?_
  have hlen : ((xs.drop (i.toNat * (sz + 1))).take (sz + 1)).length = sz + 1 := by
    have hm : (i.toNat + 1) * (sz + 1) ≤ n * (sz + 1) := Nat.mul_le_mul_right _ (by omega)
    rw [Nat.succ_mul] at hm
    rw [List.length_take, List.length_drop, h.1]
    omega
  obtain ⟨z, hz, hzs⟩ := info_of hc
  refine ldA hue hd (by rw [hz, hlen]; simp [hzs]) (fun j u hj => ?_) (hk _)
  rw [List.getElem?_take] at hj
  split at hj
  · rw [List.getElem?_drop] at hj
    exact ha j u (by omega) hj
  · cases hj
def builtRow (P : Program) (t : TypeId) (len : Nat) (parts : List (Nat × Value)) : Option (Array Value) :=
  match P.underlying t with
  | some (.slice e) =>
    match P.info? e with
    | some ie =>
      match ie.zero with
      | some z => if decide (len * ie.size > 2 ^ 24) || decide (len * ie.size = 0) then none else Instr.fill (fun i => some (i * ie.size, ie.size)) ((Array.range (len * ie.size)).map (z.cells[· % z.cells.size]!)) parts
      | none => none
    | none => none
  | _ => none
theorem bs_ok {t : TypeId} {len : Nat} {parts : List (Nat × Value)} {cs : Array Value} (h : builtRow P t len parts = some cs) : VK P (Instr.buildSlice t len parts.toArray) w K = K (.slice (some ⟨w.heap.size, 0, none⟩) len len) (w.alloc (.cells cs (P.elem t))) := by
  unfold builtRow at h
  split at h
  · rename_i e hu
    split at h
    · rename_i ie hie
      split at h
      · rename_i z hz
        split at h
        · cases h
        · rename_i hn
          simp only [Bool.or_eq_true, decide_eq_true_eq, not_or] at hn
          have := run_buildSlice (P := P) w t e len parts.toArray cs ie z hu hie hz hn.1 hn.2 h
          unfold VK OpK
          simp only [Sem.run_bind, this, Result.andThen_ok]
          have he : P.elem t = e := by simp [Program.elem, hu]
          rw [he]
          rfl
      · cases h
    · cases h
  · cases h
theorem reads_new {w : World} {cs : Array Value} {e : TypeId} {size n : Nat} (hs : cs.size = n * size) : reads (w.alloc (.cells cs e)) size (.slice (some ⟨w.heap.size, 0, none⟩) n n) n cs.toList :=
  ⟨by simpa using hs, _, _, rfl, Nat.le_refl _, fun j u hu => ⟨_, rfl, by rw [add_pl, cell_blk (alloc_new w _)]; simpa using hu⟩⟩
def elemOk (P : Program) (t e : TypeId) (size bytes : Nat) : Bool :=
  match P.underlying t, P.info? e with
  | some (.slice e'), some i => e' == e && (match i.zero with | some z => z.cells.size == size | none => false) && i.size == size && i.bytes == bytes && Nat.blt 0 size
  | _, _ => false
theorem ap_own {t ty e : TypeId} {size bytes base : Nat} (hE : elemOk P t e size bytes = true) {v : Value} {n : Nat} {xs : List Value} (hown : w.ownsRow base e size v n xs) {v2 : Value} {m : Nat} {news : List Value} (hr : reads w size v2 m news) (hm : 0 < m) (h1 : ∀ u ∈ news, u.oneCell' = true)
    (h63 : n + m ≤ maxLen) (hbytes : (n + m) * bytes ≤ 140737488355328) (hbase : base ≤ w.heap.size)
    (hk : ∀ v' w', w'.ownsRow base e size v' (n + m) (xs ++ news) → Mod (fun k => some k = v.ownBlock) w w' → (v'.ownBlock = v.ownBlock ∨ v'.ownBlock = some w.heap.size) → K v' w') : IK P .append #[t, t] ty [false, false] [v, v2] w K := by
  unfold elemOk at hE
  split at hE
  · rename_i e' i hu hi
    simp only [Bool.and_eq_true, beq_iff_eq] at hE
    obtain ⟨⟨⟨⟨rfl, hz⟩, hs⟩, hb⟩, hp⟩ := hE
    split at hz
    · rename_i z hzz
      have hz : z.cells.size = size := by simpa using hz
      have hpos : 0 < size := Nat.le_of_ble_eq_true hp
      obtain ⟨hl, A, c, rfl, _, hrd⟩ := hr
      have hlt : 0 < news.length := by rw [hl]; exact Nat.mul_pos hm hpos
      obtain ⟨a, rfl, _⟩ := hrd 0 _ (List.getElem?_eq_getElem hlt)
      obtain ⟨v', w', hrun, h2, h3, h4, h5⟩ := run_append_own_at (P := P) w base t ty _ i z size bytes hu hi hzz hs hb hz hpos v n xs hown a m c news hl (fun j u hj => by obtain ⟨a', ha, hc⟩ := hrd j u hj; cases ha; exact hc) h1 h63 hbytes hbase
      exact IK_of (s := Builtin.append_ #[t, t] ty #[v, .slice (some a) m c]) rfl hrun (hk v' w' h2 (Mod.ofGrown h3) h5)
    · cases hz
  · cases hE
theorem snoc {t ty e : TypeId} {size bytes base : Nat} (hE : elemOk P t e size bytes = true) {v : Value} {n : Nat} {xs : List Value} (hown : w.ownsRow base e size v n xs) {x : Value} {cs : Array Value} (hb : builtRow P t 1 [(0, x)] = some cs) (hcs : cs.size = size) (h1 : ∀ u ∈ cs.toList, u.oneCell' = true)
    (h63 : n + 1 ≤ maxLen) (hbytes : (n + 1) * bytes ≤ 140737488355328) (hbase : base ≤ w.heap.size) {K : Value → Value → World → Prop}
    (hk : ∀ y v' w', w'.ownsRow base e size v' (n + 1) (xs ++ cs.toList) → Mod (fun k => some k = v.ownBlock) w w' → (v'.ownBlock = v.ownBlock ∨ ∃ g, v'.ownBlock = some g ∧ w.heap.size ≤ g) → K y v' w') :
    VK P (Instr.buildSlice t 1 [(0, x)].toArray) w fun y w => IK P .append #[t, t] ty [false, false] [v, y] w (K y) := by
  rw [bs_ok hb]
  have hown' := owns_mod (w' := w.alloc (.cells cs (P.elem t))) hown ((Mod.refl none_ w).alloc _) (fun _ _ => id)
  refine ap_own hE hown' (reads_new (n := 1) (by omega)) (by decide) h1 h63 hbytes (by simp; omega) fun v' w' h2 h3 h4 => hk _ _ _ h2 (((Mod.refl _ w).alloc _).trans h3) ?_
  rcases h4 with h4 | h4
  · exact .inl h4
  · exact .inr ⟨_, h4, by simp⟩
end
theorem wrap_i {n : Int} (h0 : -9223372036854775808 ≤ n) (h1 : n < 9223372036854775808) : IntKind.i64.wrap n = n := by rw [IntKind.wrap_i64]; omega
theorem res_ld {P : Program} {t : TypeId} {a : Addr} {v : Value} {w : World} (h : (Instr.loadAt t (.pointer (some a))).run P w = .ok v w) : (do loadVar t (← asAddr (.pointer (some a))) : Sem Value).run P w = .ok v w := h
def Rt (P : Program) (f : FuncId) (args : Array Value) (w : World) (R : Value → World → Prop) : Prop := Calls P f args w fun e w' => ∃ v, e = .returned v ∧ R v w'
theorem Rt.mono {P : Program} {f : FuncId} {args : Array Value} {w : World} {R R' : Value → World → Prop} (h : Rt P f args w R) (hk : ∀ v w', R v w' → R' v w') : Rt P f args w R' := Calls.mono h fun e w' ⟨v, he, hv⟩ => ⟨v, he, hk v w' hv⟩
section
variable {P : Program} {N : Sl → World → Prop} {K : Exit → Sl → World → Prop} {ρ : Sl} {w : World} {rs : List ResultVar} {R : Value → World → Prop}
theorem sq_n : seqK N K .normal = N := rfl
theorem sq_x (i : Nat) : seqK N K (.exit i) = K (.exit i) := rfl
theorem sq_r : seqK N K .ret = K .ret := rfl
theorem bk_n (i : Nat) : blkK i K .normal = K .normal := rfl
theorem bk_r (i : Nat) : blkK i K .ret = K .ret := rfl
theorem bk_x (i : Nat) : blkK i K (.exit i) = K .normal := by
  show (if Nat.beq i i then K .normal else K (.exit i)) = _
  rw [if_pos (Nat.beq_refl i)]
theorem rt_r : retK P rs R .ret ρ w = resK P ρ (fun vs w => R (packV vs) w) rs w := rfl
theorem rt_n : retK P rs R .normal ρ w = resK P ρ (fun vs w => R (packV vs) w) rs w := rfl
theorem rs_0 {k : List Value → World → Prop} : resK P ρ k [] w = k [] w := rfl
theorem rs_t {k : List Value → World → Prop} (t : Nat) : resK P ρ k (.tmp t :: rs) w = resK P ρ (fun vs w => k (ρ t :: vs) w) rs w := rfl
theorem pk_1 (v : Value) : packV [v] = v := rfl
theorem pk_2 (v u : Value) : packV [v, u] = .tuple #[v, u] := rfl
end
theorem CK_yield {P : Program} {w : World} {K : Value → World → Prop} {l : Nat} {L : Loop} {args : List Value} (h : w.heap[l]? = some (.loop L)) (hs : args.toArray.size = L.params.size)
    (hr : RoundIn Fence.wide 0 P l L.fn ((L.params.zip args.toArray).foldl (fun tmps (t, a) => tmps.setIfInBounds t a) L.tmps) L.assign L.body w fun e w'' => ∃ v, e = .returned v ∧ K v w'') : CK P (.func (.yield l) #[] #[]) args w K := by
  unfold CK OpK
  have hq : (do let d ← Deferred.ofValue (.func (.yield l) #[] #[]) args.toArray; invoke d.target d.args : Sem Next).run P w = (Instr.yield l args.toArray).run P w := by
    simp [Deferred.ofValue, invoke, Sem.run_bind]
  rw [hq, run_yield h hs]
  exact hr
theorem Mod.put {S : Nat → Prop} {a b : World} (h : Mod S a b) {i : Nat} (o : Obj) (hi : i < a.heap.size → S i) : Mod S a (b.putObj i o) := Mod.set h o hi
theorem putB (w : World) (b : Nat) (o : Obj) : w.putObj b o = setB w b o := rfl
section
variable {α : Type} {enc : α → List Value} {k : Nat} (hk : ∀ a, (enc a).length = k)
include hk
theorem fl_len (xs : List α) : (xs.flatMap enc).length = xs.length * k := by
  induction xs with
  | nil => simp
  | cons r xs ih => simp only [List.flatMap_cons, List.length_append, List.length_cons, hk, ih, Nat.add_mul]; omega
theorem fl_drop {xs : List α} {n : Nat} {r : α} (h : xs[n]? = some r) : ((xs.flatMap enc).drop (n * k)).take k = enc r := by
  induction xs generalizing n with
  | nil => simp at h
  | cons q xs ih =>
    cases n with
    | zero =>
      simp at h
      subst h
      rw [List.flatMap_cons, Nat.zero_mul, List.drop_zero, List.take_append_of_le_length (by rw [hk]; exact Nat.le_refl _), List.take_of_length_le (by rw [hk]; exact Nat.le_refl _)]
    | succ n =>
      have := ih (n := n) (by simpa using h)
      rw [List.flatMap_cons, List.drop_append, List.drop_of_length_le (by rw [hk, Nat.add_mul]; omega), List.nil_append, hk, show (n + 1) * k - k = n * k by rw [Nat.add_mul]; omega]
      exact this
theorem fl_get {xs : List α} {n j : Nat} {r : α} (h : xs[n]? = some r) (hj : j < k) : (xs.flatMap enc)[n * k + j]? = (enc r)[j]? := by
  have := fl_drop hk h
  rw [← this, List.getElem?_take, if_pos hj, List.getElem?_drop]
end
section
variable {P : Program} {w : World} {K : Value → World → Prop}
theorem new_k (w : World) (o : Obj) {M : World → Prop} (hk : ∀ w', w'.heap[w.heap.size]? = some o → Mod none_ w w' → w'.heap.size = w.heap.size + 1 → M w') : M (w.alloc o) := hk _ (alloc_new w o) ((Mod.refl _ w).alloc _) (alloc_size w o)
theorem bs_k {t : TypeId} {len : Nat} {parts : List (Nat × Value)} {cs : Array Value} (h : builtRow P t len parts = some cs)
    (hk : ∀ w', w'.heap[w.heap.size]? = some (.cells cs (P.elem t) (0, 0)) → Mod none_ w w' → w'.heap.size = w.heap.size + 1 → K (.slice (some ⟨w.heap.size, 0, none⟩) len len) w') : VK P (Instr.buildSlice t len parts.toArray) w K := by
  rw [bs_ok h]
  exact new_k w _ hk
theorem box_k {t : TypeId} {v : Value} {cs : Array Value} (hc : v.cells = cs) (hk : ∀ w', w'.heap[w.heap.size]? = some (.cells cs t (0, 0)) → Mod none_ w w' → w'.heap.size = w.heap.size + 1 → K (.pointer (some ⟨w.heap.size, 0, none⟩)) w') : VK P (Instr.box t v) w K := by
  rw [box_ok, hc]
  exact new_k w _ hk
theorem al_k {t : TypeId} {z : Value} {cs : Array Value} (hz0 : (P.info? t).bind (·.zero) = some z) (hc : z.cells = cs) (v : Value) (hk : ∀ w', w'.heap[w.heap.size]? = some (.cells cs t (0, 0)) → Mod none_ w w' → w'.heap.size = w.heap.size + 1 → K (.pointer (some ⟨w.heap.size, 0, none⟩)) w') : VK P (Instr.alloc t true v) w K := by
  rw [alloc_ok hz0, hc]
  exact new_k w _ hk
theorem lcl_k {t : TypeId} {z : Value} {cs : Array Value} (hz0 : (P.info? t).bind (·.zero) = some z) (v : Value) (hi : (P.info? t).map (·.size) = some cs.size) (hsz : z.cells.size = cs.size) (h1 : cs.all (·.oneCell') = true) {K : Value → Value → World → Prop}
    (hk : ∀ w', w'.heap[w.heap.size]? = some (.cells cs t (0, 0)) → Mod none_ w w' → w'.heap.size = w.heap.size + 1 → K (.pointer (some ⟨w.heap.size, 0, none⟩)) undef w') : VK P (Instr.alloc t true v) w fun x w => UK P (Instr.storeAt t x (.agg cs)) w (K x) := by
  rw [alloc_ok hz0]
  refine stB hi hsz h1 (alloc_new w _) (hk _ (setB_new _ _ _ (by simp)) (((Mod.refl _ w).alloc _).set _ (fun q => absurd q (by omega))) (by rw [setB_size, alloc_size]))
theorem reads_blk {w : World} {b : Nat} {cs : Array Value} {e : TypeId} {fr : Nat × Nat} {size n : Nat} (h : w.heap[b]? = some (.cells cs e fr)) (hs : cs.size = n * size) : reads w size (.slice (some ⟨b, 0, none⟩) n n) n cs.toList :=
  ⟨by simpa using hs, _, _, rfl, Nat.le_refl _, fun j u hu => ⟨_, rfl, by rw [add_pl, cell_blk h]; simpa using hu⟩⟩
end
theorem run_fo {P : Program} {s : TypeId} {i off : Nat} (h : fieldOff P s i = some off) (a : Addr) (w : World) : (Instr.fieldAt s (.pointer (some a)) i).run P w = .ok (.pointer (some (a.add off))) w := by
  unfold fieldOff at h
  split at h
  · rename_i fs hu
    split at h
    · rename_i f hf
      split at h
      · cases h
      · rename_i n hc
        cases h
        obtain ⟨z, hz, hzs⟩ := info_of hc
        have h0 : z.size ≠ 0 := by omega
        simp [Instr.fieldAt, run_underlying hu, Sem.run_bind, hf, Instr.sureAddr, fieldPlace, sizeOf, typeInfo, hz, h0]
    · cases h
  · cases h
theorem run_ixa {P : Program} {t e : TypeId} {sz : Nat} (hu : P.underlying t = some (.slice e)) (hc : P.cellsOf e = sz + 1) {a : Addr} {n c : Nat} {k : IntKind} {i : Int} (h0 : 0 ≤ i) (h1 : i < n) (w : World) :
    (Instr.indexAt t (.slice (some a) n c) (.int k i)).run P w = .ok (.pointer (some (a.add (i.toNat * (sz + 1))))) w := by
  obtain ⟨z, hz, hzs⟩ := info_of hc
  simp [Instr.indexAt, run_underlying hu, Sem.run_bind, asIntOf, h0, h1, sizeOf, typeInfo, hz, hzs]
theorem owns_blk {w : World} {base : Nat} {e : TypeId} {size : Nat} {v : Value} {n : Nat} {xs : List Value} (h : w.ownsRow base e size v n xs) {g : Nat} (hg : v.ownBlock = some g) : ∃ cur, w.heap[g]? = some (.cells cur e (0, 0)) := by
  rcases h.2 with ⟨rfl, rfl⟩ | ⟨g', cap, cur, rfl, _, hg', _⟩
  · simp [Value.ownBlock] at hg
  · simp [Value.ownBlock] at hg
    subst hg
    exact ⟨cur, hg'⟩
theorem owns_ne {w : World} {b1 b2 : Nat} {e1 e2 : TypeId} {s1 s2 : Nat} {v1 v2 : Value} {n1 n2 : Nat} {x1 x2 : List Value} (h1 : w.ownsRow b1 e1 s1 v1 n1 x1) (h2 : w.ownsRow b2 e2 s2 v2 n2 x2) (he : e1 ≠ e2) : ∀ k, v1.ownBlock = some k → ¬ some k = v2.ownBlock := by
  intro k hk q
  obtain ⟨c1, hc1⟩ := owns_blk h1 hk
  obtain ⟨c2, hc2⟩ := owns_blk h2 q.symm
  rw [hc1] at hc2
  simp at hc2
  exact he hc2.2
theorem owns_ne_blk {w : World} {b1 : Nat} {e1 e2 : TypeId} {s1 : Nat} {v1 : Value} {n1 : Nat} {x1 : List Value} {t : Nat} {cs : Array Value} {fr : Nat × Nat} (h1 : w.ownsRow b1 e1 s1 v1 n1 x1) (h2 : w.heap[t]? = some (.cells cs e2 fr)) (he : e1 ≠ e2) : v1.ownBlock ≠ some t := by
  intro hk
  obtain ⟨c1, hc1⟩ := owns_blk h1 hk
  rw [hc1] at h2
  simp at h2
  exact he h2.2.1
theorem owns_base {w : World} {b b' : Nat} {e : TypeId} {s : Nat} {v : Value} {n : Nat} {xs : List Value} (h : w.ownsRow b e s v n xs) (hb : b' ≤ b) : w.ownsRow b' e s v n xs :=
  ⟨h.1, h.2.imp id fun ⟨g, cap, cur, e1, e2, e3⟩ => ⟨g, cap, cur, e1, by omega, e3⟩⟩
theorem reads_cut {w : World} {size : Nat} {A : Option Addr} {n c : Nat} {xs : List Value} (h : reads w size (.slice A n c) n xs) {m : Nat} (hm : m ≤ n) (s : Nat) : reads w size (sliced A 0 m c s) m (xs.take (m * size)) := by
  obtain ⟨hl, A', c', q, hnc, hr⟩ := h
  cases q
  refine ⟨?_, _, _, rfl, by omega, fun j u hu => ?_⟩
  · rw [List.length_take, hl]
    exact Nat.min_eq_left (Nat.mul_le_mul_right _ hm)
  · rw [List.getElem?_take] at hu
    split at hu
    · obtain ⟨a, rfl, hcell⟩ := hr j u hu
      refine ⟨a, ?_, hcell⟩
      by_cases hq : c = 0 <;> simp [hq, Addr.add]
    · cases hu
theorem reads_cap {w : World} {size : Nat} {v : Value} {n : Nat} {xs : List Value} (h : reads w size v n xs) : ∃ A c, v = .slice A n c ∧ n ≤ c := by
  obtain ⟨_, A, c, rfl, hnc, _⟩ := h
  exact ⟨A, c, rfl, hnc⟩
section
variable {P : Program} {C : World → Prop}
theorem QM {v : Value} {K : Value → Prop} (hk : K v) : QK P C (pure (Next.value v)) K := ⟨v, fun _ _ => ⟨rfl, rfl⟩, hk⟩
end
theorem QI_len {P : Program} {C : World → Prop} {K : Value → Prop} {t e ty : TypeId} (h : P.underlying t = some (.slice e)) (cs : Array Bool) (A : Option Addr) (n c : Nat) (hk : K (.int .i64 n)) : QK P C (builtin .len #[t] ty cs [Value.slice A n c].toArray) K := by
  refine ⟨_, fun w _ => ?_, hk⟩
  have : (builtin .len #[t] ty cs [Value.slice A n c].toArray).run P w = .ok (.value (.int .i64 n)) w := by simp [builtin, run_len_slice w t ty A n c (elem_of h), goInt]
  rw [this]
  exact ⟨rfl, rfl⟩
def ldStuck (P : Program) (t : TypeId) (a : Addr) (K : Value → World → Prop) (w : World) : Prop := VK P (Instr.loadAt t (.pointer (some a))) w K
def ldK (o : Option Value) (s : Prop) (K : Value → World → Prop) (w : World) : Prop := match o with | some v => K v w | none => s
theorem ldK_some (v : Value) (s : Prop) (K : Value → World → Prop) (w : World) : ldK (some v) s K w = K v w := rfl
theorem ldE {P : Program} {w : World} {K : Value → World → Prop} {t : TypeId} {d : TypeDesc} (hu : P.underlying t = some d) (hd : (match d with | .struct _ | .array _ _ => true | _ => false) = false) (a : Addr) : VK P (Instr.loadAt t (.pointer (some a))) w K = ldK (w.cell? a) (ldStuck P t a K w) K w := by
  cases hc : w.cell? a with
  | some v =>
    have := run_ld1 hu hd hc
    unfold VK OpK
    simp only [Sem.run_bind, this, Result.andThen_ok]
    rfl
  | none => rfl
def blkC (o : Option Obj) (j : Nat) : Option Value := match o with | some (.cells cs _ _) => cs[j]? | _ => none
theorem blkC_c (cs : Array Value) (t : TypeId) (fr : Nat × Nat) (j : Nat) : blkC (some (.cells cs t fr)) j = cs[j]? := rfl
theorem cellE (w : World) (b j : Nat) : w.cell? ⟨b, j, none⟩ = blkC (w.heap[b]?) j := by
  unfold World.cell? blkC
  cases h : w.heap[b]? with
  | none => simp [h]
  | some o => cases o <;> simp [h]
theorem caseI {P : Program} {w : World} {K : Value → World → Prop} {t : TypeId} {x y : Operand} {k : IntKind} {a b : Int} (h1 : a = b → K (.bool true) w) (h2 : a ≠ b → K (.bool false) w) : BK P .eql t x y (.int k a) (.int k b) w K := by
  rw [BK_eql]
  by_cases h : a = b
  · rw [beq_iff_eq.2 h]; exact h1 h
  · rw [beq_eq_false_iff_ne.2 h]; exact h2 h
theorem caseS {P : Program} {w : World} {K : Value → World → Prop} {t : TypeId} {x y : Operand} {a b : ByteArray} (h1 : a.data.toList = b.data.toList → K (.bool true) w) (h2 : a.data.toList ≠ b.data.toList → K (.bool false) w) : BK P .eql t x y (.string a) (.string b) w K := by
  rw [BK_eqlS, ByteArray.toList_eq, ByteArray.toList_eq]
  by_cases h : a.data.toList = b.data.toList
  · rw [beq_iff_eq.2 h]; exact h1 h
  · rw [beq_eq_false_iff_ne.2 h]; exact h2 h
theorem caseC {A B : Prop} {b : Bool} (h1 : b = true → A) (h2 : b = false → B) : CondK (.bool b) A B := ⟨b, rfl, h1, h2⟩
theorem condT {A B : Prop} (h : A) : CondK (.bool true) A B := ⟨true, rfl, fun _ => h, fun q => by cases q⟩
theorem condF {A B : Prop} (h : B) : CondK (.bool false) A B := ⟨false, rfl, (fun q => by cases q), fun _ => h⟩
section
variable {P : Program} {C : World → Prop} {K : Value → Prop}
theorem Qfo {s : TypeId} {i off : Nat} (h : fieldOff P s i = some off) {a : Addr} (hk : K (.pointer (some (a.add off)))) : QK P C (do pure (Next.value (← Instr.fieldAt s (.pointer (some a)) i))) K := QV_of (fun w _ => run_fo h a w) hk
theorem Qld {t : TypeId} {d : TypeDesc} {a : Addr} {v : Value} (hu : P.underlying t = some d) (hd : (match d with | .struct _ | .array _ _ => true | _ => false) = false) (hc : ∀ w, C w → w.cell? a = some v) (hk : K v) : QK P C (do pure (Next.value (← Instr.loadAt t (.pointer (some a))))) K := QV_of (fun w hw => run_ld1 hu hd (hc w hw)) hk
section
variable (t : TypeId) (x y : Operand) (k : IntKind) (a b : Int)
theorem Qleq {t : TypeId} {x y : Operand} {k : IntKind} {a b : Int} (hk : K (.bool (decide (a ≤ b)))) : QK P C (do pure (Next.value (← (do eqGuard .leq t x y (.int k a) (.int k b); binOp .leq t (.int k a) (.int k b))))) K := QB_of (fun _ => rfl) (fun w => by simp [go_sem]) hk
theorem Qgeq {t : TypeId} {x y : Operand} {k : IntKind} {a b : Int} (hk : K (.bool (decide (b ≤ a)))) : QK P C (do pure (Next.value (← (do eqGuard .geq t x y (.int k a) (.int k b); binOp .geq t (.int k a) (.int k b))))) K := QB_of (fun _ => rfl) (fun w => by simp [go_sem]) hk
theorem Qeql {t : TypeId} {x y : Operand} {k : IntKind} {a b : Int} (hk : K (.bool (a == b))) : QK P C (do pure (Next.value (← (do eqGuard .eql t x y (.int k a) (.int k b); binOp .eql t (.int k a) (.int k b))))) K := QB_of (fun _ => rfl) (fun w => by simp [go_sem]) hk
theorem Qadd {t : TypeId} {x y : Operand} {k : IntKind} {a b : Int} (hk : K (.int k (k.wrap (a + b)))) : QK P C (do pure (Next.value (← (do eqGuard .add t x y (.int k a) (.int k b); binOp .add t (.int k a) (.int k b))))) K := QB_of (fun _ => rfl) (fun w => by simp [go_sem]) hk
end
theorem Qlen_s {t ty : TypeId} (h : P.underlying t = some .string) (cs : Array Bool) (s : ByteArray) (hk : K (.int .i64 s.size)) : QK P C (builtin .len #[t] ty cs [Value.string s].toArray) K := by
  refine ⟨_, fun w _ => ?_, hk⟩
  have : (builtin .len #[t] ty cs [Value.string s].toArray).run P w = .ok (.value (.int .i64 s.size)) w := by simp [builtin, run_len_string w t ty s h, goInt]
  rw [this]
  exact ⟨rfl, rfl⟩
theorem Qmin {ts : Array TypeId} {ty : TypeId} {cs : Array Bool} {k k' : IntKind} {a b : Int} (hk : K (.int k (if b < a then b else a))) : QK P C (builtin .min ts ty cs [Value.int k a, Value.int k' b].toArray) K := by
  refine ⟨_, fun w _ => ?_, hk⟩
  have : (builtin .min ts ty cs [Value.int k a, Value.int k' b].toArray).run P w = .ok (.value (.int k (if b < a then b else a))) w := by simp [builtin, run_min_int2]
  rw [this]
  exact ⟨rfl, rfl⟩
theorem QC_rt {f : FuncId} {fn : Func} {args : Array Value} {R : World → Value → World → Prop} {v : Value} (hf : P.funcs[f]? = some fn) (hb : fn.body.isNone = false) (hn : (fn.name == "runtime.NumGoroutine") = false)
    (h : ∀ w, C w → Rt P f args w (R w)) (hR : ∀ w u w', C w → R w u w' → u = v ∧ C w') (hk : K v) : QK P C (do let d ← Deferred.ofValue (.func (.func f) #[] #[]) args; invoke d.target d.args) K :=
  QC_st hf hb hn (fun w hw => Calls.mono (h w hw) fun e w' ⟨u, he, hu⟩ => by obtain ⟨rfl, hc⟩ := hR w u w' hw hu; exact ⟨he, hc⟩) hk
end
theorem st_k {P : Program} {w : World} {K : Value → World → Prop} {t ty : TypeId} {b o : Nat} {cs : Array Value} {v : Value} (hc1 : P.cellsOf t = 1) (hv : v.oneCell' = true) (hb : w.heap[b]? = some (.cells cs ty (0, 0))) (ho : o < cs.size)
    (hk : ∀ w', w'.heap[b]? = some (.cells (cs.setIfInBounds o v) ty (0, 0)) → (∀ i, i ≠ b → w'.heap[i]? = w.heap[i]?) → w'.heap.size = w.heap.size → Mod (fun k => k = b) w w' → K undef w') : UK P (Instr.storeAt t (.pointer (some ⟨b, o, none⟩)) v) w K :=
  st1 hc1 hv hb ho (hk _ (setB_new _ _ _ (X.blk_lt hb)) (fun i hi => setB_old _ _ _ _ hi) (setB_size _ _ _) ((Mod.refl _ w).set _ (fun _ => rfl)))
end Go.X
set_option linter.unusedVariables false
namespace Go.X
open Go Go.RowKit
structure Sh (α : Type) where
  sz : Nat
  K : World → α → List Value → Prop
structure OpensAt (P : Program) (n : Nat) {α : Type} (k : Sh α) (t : TypeId) : Prop where
  go : ∀ {H : Type} {enc : TypeId × Value → H} {w : World} {base : Nat} {sp : Nat → Bool} {hd : Bool} {cs : List Value} {x : DataW H × List MemPlace}, DataW.trod enc P w base sp hd n t cs = some x → ∃ v : α, k.K w v cs
def Sh.int (k : IntKind) : Sh Int := ⟨1, fun _ v cs => cs = [.int k v] ∧ (Lit.int k v).wf = true⟩
def Sh.bool : Sh Bool := ⟨1, fun _ v cs => cs = [.bool v]⟩
def Sh.string : Sh ByteArray := ⟨1, fun _ v cs => cs = [.string v] ∧ v.size ≤ maxLen⟩
def Sh.slice {α : Type} (k : Sh α) : Sh (Value × List α) := ⟨1, fun w x cs => cs = [x.1] ∧ x.2.length ≤ maxLen ∧ ∃ A c, x.1 = .slice A x.2.length c ∧ x.2.length ≤ c ∧ ∀ (i : Nat) y, x.2[i]? = some y → ∃ a d, A = some a ∧ d.length = k.sz ∧ k.K w y d ∧ ∀ (j : Nat) u, d[j]? = some u → w.cell? (a.add (i * k.sz + j)) = some u⟩
def Sh.pair {α β : Type} (a : Sh α) (b : Sh β) : Sh (α × β) := ⟨a.sz + b.sz, fun w x cs => ∃ c d, cs = c ++ d ∧ c.length = a.sz ∧ a.K w x.1 c ∧ b.K w x.2 d⟩
section
variable {P : Program} {n : Nat}
theorem opens_int {k : IntKind} {t : TypeId} (h : P.underlying t = some (.int k)) : OpensAt P n (Sh.int k) t := by
  constructor
  intro H enc w base sp hd cs x hx
  cases n with
  | zero => simp [DataW.trod] at hx
  | succ n =>
    unfold DataW.trod at hx
    rw [h] at hx
    match cs with
    | [.int k' m] =>
      simp only at hx
      split at hx
      · rename_i hk
        obtain ⟨rfl, hw⟩ := hk
        exact ⟨m, rfl, hw⟩
      · cases hx
    | [] => simp at hx
    | [.bool _] => simp at hx
    | [.float ..] => simp at hx
    | [.complex ..] => simp at hx
    | [.string _] => simp at hx
    | [.pointer _] => simp at hx
    | [.slice ..] => simp at hx
    | [.map _] => simp at hx
    | [.chan _] => simp at hx
    | [.func ..] => simp at hx
    | [.nilFunc] => simp at hx
    | [.iface ..] => simp at hx
    | [.nilIface] => simp at hx
    | [.agg _] => simp at hx
    | [.tuple _] => simp at hx
    | _ :: _ :: _ => simp at hx
theorem opens_string {t : TypeId} (h : P.underlying t = some .string) : OpensAt P n Sh.string t := by
  constructor
  intro H enc w base sp hd cs x hx
  cases n with
  | zero => simp [DataW.trod] at hx
  | succ n =>
    unfold DataW.trod at hx
    rw [h] at hx
    match cs with
    | [.string s] =>
      simp only at hx
      split at hx
      · rename_i hk; exact ⟨s, rfl, hk⟩
      · cases hx
    | [] => simp at hx
    | [.int ..] => simp at hx
    | [.float ..] => simp at hx
    | [.complex ..] => simp at hx
    | [.bool _] => simp at hx
    | [.pointer _] => simp at hx
    | [.slice ..] => simp at hx
    | [.map _] => simp at hx
    | [.chan _] => simp at hx
    | [.func ..] => simp at hx
    | [.nilFunc] => simp at hx
    | [.iface ..] => simp at hx
    | [.nilIface] => simp at hx
    | [.agg _] => simp at hx
    | [.tuple _] => simp at hx
    | _ :: _ :: _ => simp at hx
theorem choose_list {α : Type} {Q : Nat → α → Prop} : ∀ n : Nat, (∀ i, i < n → ∃ v, Q i v) → ∃ l : List α, l.length = n ∧ ∀ i v, l[i]? = some v → Q i v
  | 0, _ => ⟨[], rfl, fun i v h => by simp at h⟩
  | n + 1, h => by
    obtain ⟨l, hl, hq⟩ := choose_list n (fun i hi => h i (by omega))
    obtain ⟨v, hv⟩ := h n (by omega)
    refine ⟨l ++ [v], by simp [hl], fun i u hu => ?_⟩
    rcases Nat.lt_trichotomy i n with hi | hi | hi
    · rw [List.getElem?_append_left (by omega)] at hu; exact hq i u hu
    · subst hi
      rw [List.getElem?_append_right (by omega), hl] at hu
      simp at hu
      exact hu ▸ hv
    · rw [List.getElem?_eq_none (by simp [hl]; omega)] at hu; cases hu
end
theorem reads_sh {α : Type} {k : Sh α} {w : World} {x : Value × List α} {cs : List Value} (h : (Sh.slice k).K w x cs) (enc : α → List Value) (hk : ∀ a, (enc a).length = k.sz) (he : ∀ a d, k.K w a d → d = enc a) : reads w k.sz x.1 x.2.length (x.2.flatMap enc) := by
  obtain ⟨_, _, A, c, hv, hc, hr⟩ := h
  refine ⟨fl_len hk _, A, c, hv, hc, fun j u hu => ?_⟩
  have hlen := fl_len hk x.2
  have hj : j < x.2.length * k.sz := by
    rcases Nat.lt_or_ge j (x.2.flatMap enc).length with q | q
    · omega
    · rw [List.getElem?_eq_none q] at hu; cases hu
  have hs : 0 < k.sz := by
    rcases Nat.eq_zero_or_pos k.sz with q | q
    · rw [q] at hj; omega
    · exact q
  have hi : j / k.sz < x.2.length := by rw [Nat.div_lt_iff_lt_mul hs]; exact hj
  obtain ⟨a, d, rfl, hdl, hkd, hcell⟩ := hr _ _ (List.getElem?_eq_getElem hi)
  have hjd : j / k.sz * k.sz + j % k.sz = j := by rw [Nat.mul_comm]; exact Nat.div_add_mod j k.sz
  refine ⟨a, rfl, ?_⟩
  have h1 := hcell (j % k.sz) u (by
    rw [he _ _ hkd, ← fl_get hk (List.getElem?_eq_getElem hi) (Nat.mod_lt _ hs), hjd]
    exact hu)
  rwa [hjd] at h1
theorem mem_sh {α : Type} {k : Sh α} {w : World} {x : Value × List α} {cs : List Value} (h : (Sh.slice k).K w x cs) : ∀ a ∈ x.2, ∃ d, k.K w a d := by
  intro a ha
  obtain ⟨_, _, A, c, hv, hc, hr⟩ := h
  obtain ⟨i, hi, rfl⟩ := List.mem_iff_getElem.1 ha
  obtain ⟨_, d, _, _, hkd, _⟩ := hr i _ (List.getElem?_eq_getElem hi)
  exact ⟨d, hkd⟩
end Go.X
set_option linter.unusedVariables false
namespace Go.X
open Go Go.ChangeShapes Go.WideShapes Go.ChangeAt Go.RowKit
theorem law_row {H : Type} {enc : TypeId × Value → H} {C : Checked} {os : Os} {f : FuncId} {fn : Func} {s : ChangeSpec} {cond : Option ((H : Type) → List (DataW H) → Bool)} {tb : TypeId} {laid : List (String × DataW Unit)} {dom : List PathCond} {F : Stop.Interp}
    (own : ownKnob C.prog.godebug = none) (started : os.Started) (noInit : C.prog.inits.idxOf? f = none) (hfn : C.prog.funcs[f]? = some fn) (hvars : s.vars = []) (hlaid : laidOutB C.prog = true)
    (hr : (fn.params.toList.all fun t => C.prog.readableRec t && decide (t < C.prog.types.size)) = true) (hres : fn.resultTypes = #[tb]) (hb : C.prog.underlying tb = some .bool)
    (hspec : ∀ ds : List (DataW H), ds.length = fn.params.toList.length → s.fn H ds = { results := [.lit (.bool true)], args := ds })
    (witness : ∃ (w : World) (tape : Tape) (i : Input), w.os = os ∧ (w.forCall tape i).Shaped C.prog ∧ i.vars = [] ∧ Input.okWide C.prog (w.forCall tape i) .any w.heap.size f i ∧
      ({ OpenSpec.ofChange s with cond := cond } : OpenSpec).preRow enc C.prog fn dom false laid (w.forCall tape i).memory i.args ∧ ({} : Assume).holds C.prog (lone (Frame.enter C.prog f i.args .normal) [] (w.forCall tape i)))
    (contract : ∀ (W : World) (base : Nat) (args : Array Value) (ds : List (DataW H)) (p : List MemPlace),
      (∀ (j : Nat) t v, fn.params[j]? = some t → args[j]? = some v → Value.okWide C.prog W .any base t v) →
      DataW.TrodAll enc C.prog W 0 (fun _ => true) true fn.params.toList args.toList ds p →
      (DataW.weightsEach C.prog fn.params.toList ds).all (· ≤ reachBytes) = true → (∀ k, cond = some k → k H ds = true) → laidMetH C.prog laid W →
      Calls C.prog f args W fun e W' => e = .returned (.bool true) ∧ Below W.heap.size W W') :
    ReturnsInHanded {} C os f .any (({ OpenSpec.ofChange s with cond := cond } : OpenSpec).preRow enc C.prog fn dom false laid) ((({ OpenSpec.ofChange s with cond := cond } : OpenSpec).at F).post enc C.prog fn false true false false) := by
  refine returnsInHanded_of_row (C := C) (s := { OpenSpec.ofChange s with cond := cond }) own started noInit hfn witness ?_
  intro W base args ds gs before hval hW hcnd hcond hsz hX _ _
  have hW' := hW
  obtain ⟨p, q, hA, hV, rfl, hfz, hnd⟩ := hW
  have hV : DataW.TrodVars enc C.prog W (fun _ => true) s.vars gs q := hV
  have hpv : ({ OpenSpec.ofChange s with cond := cond } : OpenSpec).bare.plain.varTypes C.prog = [] := by
    show s.plain.varTypes C.prog = []
    simp [ChangeSpec.plain, DataSpec.varTypes, hvars]
  rw [hvars] at hV
  obtain ⟨rfl, rfl⟩ := trodVars_none hV
  rw [hpv] at hsz
  simp only [List.append_nil] at hsz hcond
  refine (contract W base args ds p hval hA hsz hcond hX).mono fun e W' ⟨he, bel⟩ => ?_
  subst he
  have hlen := trodAll_length hA
  have hs := hspec ds hlen
  refine ⟨_, rfl, ds, [], _, [], p, [], hW', ?_, ?_, ?_, bel.frame _, fun h => by cases h⟩
  · show DataW.TrodAll enc C.prog W' _ _ _ _ _ (s.fn H (ds ++ [])).results _
    simp only [List.append_nil, hs, hres]
    exact trodAll_mk1 (shut_bool hb _)
  · show DataW.TrodAll enc C.prog W' _ _ _ _ _ (s.fn H (ds ++ [])).args _
    simp only [List.append_nil, hs]
    exact below_trodAll hlaid bel hr hA
  · show DataW.TrodVars enc C.prog W' _ s.vars (s.fn H (ds ++ [])).vars _
    simp only [List.append_nil, hs, hvars]
    exact rfl
theorem laid_arr {P : Program} {w : World} {g n fuel : Nat} {t e : TypeId} {cs : Array Value} {nm : String} {α : Type} {xs : List α} {val : α → Value} {dat : α → DataW Unit} {p : List MemPlace} (hg : P.globalNamed nm = some g) (hv : w.var? P nm = some cs) (hu : P.underlying t = some (.array n e)) (hc : P.cellsOf e = 1) (hn : xs.length = n)
    (hd : DataW.trod (fun _ => ()) P w 0 (fun _ => true) false fuel t cs.toList = some (.agg (xs.map dat), p))
    (hel : ∀ (m : Nat) (l : List Value) (x : DataW Unit × List MemPlace) (a : α), DataW.trod (fun _ => ()) P w 0 (fun _ => true) false m e l = some x → x.1 = dat a → l = [val a]) : ∀ j u, (xs.map val)[j]? = some u → w.cell? ⟨g, j, none⟩ = some u := by
  intro j u hu'
  obtain ⟨ys, m, _, ex, hcl, hl, hE⟩ := DataW.trod_array hu hd
  rw [List.getElem?_map] at hu'
  obtain ⟨a, ha, rfl⟩ := Option.map_eq_some_iff.1 hu'
  have hj : j < xs.length := (List.getElem?_eq_some_iff.1 ha).1
  have h1 := hE j (by omega)
  rw [List.getElem?_eq_getElem (by omega : j < ys.length), hc, Nat.mul_one] at h1
  have h2 : ys.map (·.1) = xs.map dat := (DataW.agg.inj (Prod.mk.inj ex).1).symm
  have h3 : (ys.map (·.1))[j]? = (xs.map dat)[j]? := by rw [h2]
  rw [List.getElem?_map, List.getElem?_map, List.getElem?_eq_getElem (by omega : j < ys.length), ha] at h3
  have h4 := hel m _ _ a h1 (by simpa using h3)
  rw [World.var?_cell hg hv j]
  have h5 : ((cs.toList.drop j).take 1)[0]? = some (val a) := by rw [h4]; rfl
  simpa using h5
theorem laid_str {P : Program} {w : World} {t : TypeId} (hu : P.underlying t = some .string) (m : Nat) (l : List Value) (x : DataW Unit × List MemPlace) (b : List UInt8) (h : DataW.trod (fun _ => ()) P w 0 (fun _ => true) false m t l = some x) (hx : x.1 = .lit (.string b)) : l = [.string ⟨b.toArray⟩] := by
  obtain ⟨s, rfl, rfl, _⟩ := DataW.trod_string hu h
  simp only [DataW.lit.injEq, Lit.string.injEq] at hx
  subst hx
  rfl
theorem laid_int {P : Program} {w : World} {t : TypeId} {k : IntKind} (hu : P.underlying t = some (.int k)) (m : Nat) (l : List Value) (x : DataW Unit × List MemPlace) (n : Int) (h : DataW.trod (fun _ => ()) P w 0 (fun _ => true) false m t l = some x) (hx : x.1 = .lit (.int k n)) : l = [.int k n] := by
  obtain ⟨v, rfl, rfl, _⟩ := DataW.trod_int hu h
  simp only [DataW.lit.injEq, Lit.int.injEq, true_and] at hx
  rw [hx]
theorem witness_row_shaped {H : Type} {enc : TypeId × Value → H} {C : Checked} {os : Os} {f : FuncId} {fn : Func} {s : OpenSpec} {conds : List PathCond} {apart : Bool} {laid : List (String × DataW Unit)} (w0 : World) (args : Array Value) (hos : w0.os = os)
    (hsh : (w0.forCall (fun _ _ => 0) ⟨#[], args, []⟩).Shaped C.prog)
    (hok : Input.okWideB C.prog (w0.forCall (fun _ _ => 0) ⟨#[], args, []⟩) f ⟨#[], args, []⟩ = true)
    (hrow : s.preRow enc C.prog fn conds apart laid (w0.forCall (fun _ _ => 0) ⟨#[], args, []⟩).memory args) :
    ∃ (w : World) (tape : Tape) (i : Input), w.os = os ∧ (w.forCall tape i).Shaped C.prog ∧ i.vars = [] ∧ Input.okWide C.prog (w.forCall tape i) .any w.heap.size f i ∧
      s.preRow enc C.prog fn conds apart laid (w.forCall tape i).memory i.args ∧ ({} : Assume).holds C.prog (lone (Frame.enter C.prog f i.args .normal) [] (w.forCall tape i)) :=
  ⟨w0, fun _ _ => 0, ⟨#[], args, []⟩, hos, hsh, (Input.okWide_of_okWideB (base := 0) hok).1, (Input.okWide_of_okWideB hok).2, hrow, by
    simp only [Assume.holds]
    exact ⟨by simp, by simp, by simp, by simp, by simp⟩⟩
end Go.X
set_option linter.unusedVariables false
set_option linter.unusedSimpArgs false
namespace Go.X
open Go
def HK (P : Program) (S : World → Prop) (s : Sem Next) (K : Value → Prop) : Prop := ∃ v, (∀ w, S w → s.run P w = .ok (.value v) w) ∧ K v
def HG (P : Program) (S : World → Prop) (g : Value) (b : Bool) (s : Sem Next) (K : Value → Prop) : Prop := GuardK g b (HK P S s K) (K undef)
def sxt1 (P : Program) (S : World → Prop) (ops : Array Oper) (o : Oper) (N : Sl → Prop) (ρ : Sl) : Prop :=
  match o with
  | ⟨dst, op, ty, _, _, g⟩ =>
    match g, dst with
    | none, some d => match mvOf op with
      | some x => N (up ρ d (ev ρ x))
      | none => HK P S (exo (ev ρ) op ty) fun v => N (up ρ d v)
    | none, none => HK P S (exo (ev ρ) op ty) fun _ => N ρ
    | some (j, b), some d => HG P S (gv ops ρ j) b (exo (ev ρ) op ty) fun v => N (up ρ d v)
    | some (j, b), none => HG P S (gv ops ρ j) b (exo (ev ρ) op ty) fun _ => N ρ
def sxh (P : Program) (S : World → Prop) (ops : Array Oper) (K : Sl → World → Prop) : List (Nat × Bool) → Sl → World → Prop
  | [], ρ, w => K ρ w
  | (i, t) :: r, ρ, w =>
    match ops[i]? with
    | none => False
    | some o => if t then sxt1 P S ops o (fun ρ => sxh P S ops K r ρ w) ρ else sx1 P ops o (fun ρ w => S w ∧ sxh P S ops K r ρ w) ρ w
def planOk (P : Program) (n : Nat) (ops : Array Oper) : List (Nat × Bool) → Array Bool → Bool
  | [], listed => (Region.ready .any ops listed).isEmpty
  | (i, t) :: r, listed =>
    (match ops[i]? with
     | none => false
     | some o => oOk n o && (if t then Region.free .any ops listed i && (Region.ready .any ops listed).contains i else noRound P o.op && (Region.ready .any ops listed == [i]))) && planOk P n ops r (listed.setIfInBounds i true)
theorem sxt1_eq (P : Program) (S : World → Prop) (ops : Array Oper) (o : Oper) (N : Sl → Prop) (ρ : Sl) (h : sxt1 P S ops o N ρ) :
    match o.guard with
      | none => HK P S (exo (ev ρ) o.op o.type) fun v => N (upo ρ o.dst v)
      | some (j, b) => HG P S (gv ops ρ j) b (exo (ev ρ) o.op o.type) fun v => N (upo ρ o.dst v) := by
  obtain ⟨dst, op, ty, pos, after, guard⟩ := o
  cases guard with
  | none =>
    cases dst with
    | none => exact h
    | some d =>
      cases op <;> first | exact h | exact ⟨_, fun w _ => rfl, h⟩
  | some jb => cases dst <;> exact h
theorem sxt1_yields {P : Program} {z : At} {n : Nat} {S : World → Prop} {ops : Array Oper} {o : Oper} {N : Sl → Prop} {a : Act} {ρ : Sl}
    (hd : ∀ k, o.dst = some k → k < n) (hl : Lk z n a ρ) (h : sxt1 P S ops o N ρ) : ∃ v, YieldsIf P ops S o v a ∧ ∃ ρ', Lk z n (a.put o.dst v) ρ' ∧ N ρ' := by
  have he : a.eval = ev ρ := funext (fun x => hl.ev x)
  have h := sxt1_eq P S ops o N ρ h
  cases hg : o.guard with
  | none =>
    rw [hg] at h
    obtain ⟨v, h1, h2⟩ := h
    refine ⟨v, .inl ⟨by unfold Region.wanted; rw [hg], fun w hw => ?_⟩, _, hl.put _ _ hd, h2⟩
    rw [he, ← exo_eq]
    exact h1 w hw
  | some jb =>
    obtain ⟨j, b⟩ := jb
    rw [hg] at h
    obtain ⟨h1, h2⟩ := h
    have hy := wanted_gv hl ops hg
    by_cases htb : wantB (gv ops ρ j) b = true
    · obtain ⟨v, h3, h4⟩ := h1 htb
      refine ⟨v, .inl ⟨hy.trans htb, fun w hw => ?_⟩, _, hl.put _ _ hd, h4⟩
      rw [he, ← exo_eq]
      exact h3 w hw
    · have htb : wantB (gv ops ρ j) b = false := Bool.eq_false_iff.2 htb
      exact ⟨undef, .inr ⟨hy.trans htb, rfl⟩, _, hl.put _ _ hd, h2 htb⟩
theorem sxh_held {P : Program} {n : Nat} {D : List Deferred} {S : World → Prop} {ops : Array Oper} {K : Sl → World → Prop} {Q : Exit → Act → World → Prop} (hQ : ∀ a ρ w, Lk ⟨none, D⟩ n a ρ → K ρ w → Q .normal a w)
    (hp : ∀ c a w, ¬ Q (.panic c) a w) (hs : Region.noSelect ops = true) : ∀ (l : List (Nat × Bool)) (listed : Array Bool) a ρ w,
    planOk P n ops l listed = true → Lk ⟨none, D⟩ n a ρ → S w → sxh P S ops K l ρ w → wpAnyH P .any ops Q S l.length listed a w
  | [], listed, a, ρ, w, hpl, hl, hS, h => ⟨List.isEmpty_iff.1 hpl, hQ a ρ w hl h⟩
  | (i, t) :: r, listed, a, ρ, w, hpl, hl, hS, h => by
    unfold planOk at hpl
    unfold sxh at h
    cases ho : ops[i]? with
    | none => rw [ho] at h; exact h.elim
    | some o =>
      rw [ho] at h hpl
      dsimp only at h hpl
      cases t with
      | true =>
        simp only [if_true, Bool.and_eq_true] at h hpl
        obtain ⟨⟨h1, h2, h3⟩, h4⟩ := hpl
        obtain ⟨v, hy, ρ', hl', hN⟩ := sxt1_yields (oOk_dst h1) hl h
        exact wpAnyH_take ho hs h2 h3 (fun c a w q => absurd q (hp _ _ _)) hy hS (sxh_held hQ hp hs r _ _ ρ' w h4 hl' hS hN)
      | false =>
        simp only [Bool.false_eq_true, if_false, Bool.and_eq_true, beq_iff_eq] at h hpl
        obtain ⟨⟨h1, h2, h3⟩, h4⟩ := hpl
        refine wpAnyH_all h3 (by simp) fun j hj => ?_
        obtain rfl : j = i := by simpa using hj
        unfold wpOp
        rw [ho]
        exact sx1_wp0 (n := n) h2 (oOk_dst h1) hl h (fun a ρ w hl hq => ⟨hq.1, sxh_held hQ hp hs r _ a ρ w h4 hl hq.1 hq.2⟩)
theorem W_held {P : Program} {n : Nat} {D : List Deferred} {id : Nat} {ops : Array Oper} {K : Exit → Sl → World → Prop} {ρ : Sl} {w : World} (S : World → Prop) (plan : List (Nat × Bool)) (hlen : plan.length = ops.size)
    (hs : Region.noSelect ops = true) (hpl : planOk P n ops plan (Array.replicate ops.size false) = true) (hm : P.follows .mixedOrders = true) (hS : S { w with drawn := w.drawn + 1 })
    (h : sxh P S ops (K .normal) plan ρ { w with drawn := w.drawn + 1 }) : W ⟨none, D⟩ P n (.region id ops true) K ρ w := by
  intro a hl
  refine wpIn_wide.2 (Code.wp_mono ?_ (wp_region_held (S := S) (Q := fun e a w => e = .normal ∧ ∃ ρ, Lk ⟨none, D⟩ n a ρ ∧ K .normal ρ w) hm ?_))
  · rintro e a w ⟨rfl, ρ, hl, hk⟩
    exact ⟨ρ, hl, hk⟩
  · have := sxh_held (Q := fun e a w => e = .normal ∧ ∃ ρ, Lk ⟨none, D⟩ n a ρ ∧ K .normal ρ w) (fun a ρ w hl hk => ⟨rfl, ρ, hl, hk⟩) (fun c a w q => by cases q.1) hs plan _ a ρ _ hpl hl hS h
    rw [hlen] at this
    exact this
section
variable {P : Program} {S : World → Prop} {K : Value → Prop}
theorem HV_of {s : Sem Value} {v : Value} (h : ∀ w, S w → s.run P w = .ok v w) (hk : K v) : HK P S (do pure (Next.value (← s))) K := by
  refine ⟨v, fun w hw => ?_, hk⟩
  simp only [Sem.run_bind, h w hw, Result.andThen_ok]
  rfl
theorem HN_ptr {a : Addr} (hk : K (.pointer (some a))) : HK P S (nilCk (.pointer (some a))) K := ⟨_, fun _ _ => rfl, hk⟩
theorem HB_of {op : BinOp} {t : TypeId} {x y : Operand} {a b v : Value} (hg : ∀ w, (eqGuard op t x y a b).run P w = .ok () w) (h : ∀ w, (binOp op t a b).run P w = .ok v w) (hk : K v) : HK P S (do pure (Next.value (← (do eqGuard op t x y a b; binOp op t a b)))) K := by
  refine HV_of (fun w _ => ?_) hk
  simp only [Sem.run_bind, hg, h, Result.andThen_ok]
end
end Go.X
set_option linter.unusedVariables false
set_option maxRecDepth 100000
namespace Go.Proofs.YtpkfbaagpjdifaaDoor.XF
open Go Go.X
noncomputable def dispatcherref01_Name_b : Code := (Tryd.f66.body).getD .skip
noncomputable def dispatcherref01_Name_L0 : Code := cAt [1, 1, 0, 1, 0, 0] dispatcherref01_Name_b
noncomputable def dispatcherref01_Name_R1 : Code := cAt [1, 1, 1] dispatcherref01_Name_b
noncomputable def dispatcherref01_Name_L0_F (z : At) (K : Exit → Sl → World → Prop) (ρ : Sl) (w : World) : Prop :=
  IK Tryd.prog .len #[9] 3 [false] [(ρ 0)] w fun x24 w => BK Tryd.prog .lss 3 (.tmp 22) (.tmp 24) (ρ 3) x24 w fun x25 w => CondK x25 (VK Tryd.prog (Instr.index 9 (ρ 0) (ρ 3)) w fun x30 w => CK Tryd.prog (Value.func (Fn.func 61) #[] #[]) [x30] w fun x31 w => VK Tryd.prog (Op.unary UnOp.not x31) w fun x32 w => MG Tryd.prog x32 true (ρ 0) w fun x34 w => MG Tryd.prog x32 true (ρ 3) w fun x35 w => VG Tryd.prog x32 true (Instr.index 9 x34 x35) w fun x36 w => CG Tryd.prog x32 true (Value.func (Fn.func 62) #[] #[]) [x36] w fun x37 w => VG Tryd.prog x32 true (Op.unary UnOp.not x37) w fun x38 w => PK Tryd.prog x32 x38 (Value.bool false) w fun x39 w => CondK x39 (K .ret (up (up (up (up (up (up (up (up (up (up (up (up (up (up (up (up (up ρ 22 (ρ 3)) 23 (ρ 0)) 24 x24) 25 x25) 28 (ρ 0)) 29 (ρ 3)) 30 x30) 31 x31) 32 x32) 33 x32) 34 x34) 35 x35) 36 x36) 37 x37) 38 x38) 39 x39) 2 (Value.bool false)) w) (BK Tryd.prog .add 3 (.tmp 26) (.const (Value.int .i64 1)) (ρ 3) (Value.int .i64 1) w fun x27 w => K .normal (up (up (up (up (up (up (up (up (up (up (up (up (up (up (up (up (up (up (up ρ 22 (ρ 3)) 23 (ρ 0)) 24 x24) 25 x25) 28 (ρ 0)) 29 (ρ 3)) 30 x30) 31 x31) 32 x32) 33 x32) 34 x34) 35 x35) 36 x36) 37 x37) 38 x38) 39 x39) 26 (ρ 3)) 27 x27) 3 x27) w)) (K (.exit 0) (up (up (up (up ρ 22 (ρ 3)) 23 (ρ 0)) 24 x24) 25 x25) w)
theorem dispatcherref01_Name_L0_eq (z : At) (K : Exit → Sl → World → Prop) (ρ : Sl) (w : World) : sx z Tryd.prog 40 dispatcherref01_Name_L0 K ρ w = dispatcherref01_Name_L0_F z K ρ w := by kernel_rfl
theorem dispatcherref01_Name_L0_ok : dstOk 40 dispatcherref01_Name_L0 = true := by kernel_rfl
noncomputable def dispatcherref01_Name_R1_F (z : At) (K : Exit → Sl → World → Prop) (ρ : Sl) (w : World) : Prop :=
  K .ret (up ρ 2 (Value.bool true)) w
theorem dispatcherref01_Name_R1_eq (z : At) (K : Exit → Sl → World → Prop) (ρ : Sl) (w : World) : sx z Tryd.prog 40 dispatcherref01_Name_R1 K ρ w = dispatcherref01_Name_R1_F z K ρ w := by kernel_rfl
noncomputable def dispatcherref01_Name_F (a0 : Value) (w : World) (R : Value → World → Prop) : Prop :=
  IK Tryd.prog .len #[9] 3 [false] [a0] w fun x5 w => BK Tryd.prog .lss 3 (.tmp 5) (.const (Value.int .i64 1)) x5 (Value.int .i64 1) w fun x6 w => MG Tryd.prog x6 false a0 w fun x8 w => IG Tryd.prog x6 false .len #[9] 3 [false] [x8] w fun x9 w => BG Tryd.prog x6 false .gtr 3 (.tmp 9) (.const (Value.int .i64 12)) x9 (Value.int .i64 12) w fun x10 w => PK Tryd.prog x6 (Value.bool true) x10 w fun x11 w => MG Tryd.prog x11 false a0 w fun x13 w => VG Tryd.prog x11 false (Instr.index 9 x13 (Value.int .i64 0)) w fun x14 w => CG Tryd.prog x11 false (Value.func (Fn.func 61) #[] #[]) [x14] w fun x15 w => VG Tryd.prog x11 false (Op.unary UnOp.not x15) w fun x16 w => PK Tryd.prog x11 (Value.bool true) x16 w fun x17 w => MG Tryd.prog x17 false a0 w fun x19 w => CG Tryd.prog x17 false (Value.func (Fn.func 65) #[] #[]) [x19] w fun x20 w => PK Tryd.prog x17 (Value.bool true) x20 w fun x21 w => CondK x21 (R (Value.bool false) w) (W fn_ Tryd.prog 40 (Code.loop dispatcherref01_Name_L0) (blkK 0 (seqK (sx fn_ Tryd.prog 40 dispatcherref01_Name_R1 (retK Tryd.prog [ResultVar.tmp 2] R)) (retK Tryd.prog [ResultVar.tmp 2] R))) (up (up (up (up (up (up (up (up (up (up (up (up (up (up (up (up (up (up (up (up (rho0 [a0]) 2 (Value.bool false)) 4 a0) 5 x5) 6 x6) 7 x6) 8 x8) 9 x9) 10 x10) 11 x11) 12 x11) 13 x13) 14 x14) 15 x15) 16 x16) 17 x17) 18 x17) 19 x19) 20 x20) 21 x21) 3 (Value.int .i64 0)) w)
theorem dispatcherref01_Name_eq (a0 : Value) (w : World) (R : Value → World → Prop) : sx fn_ Tryd.prog 40 dispatcherref01_Name_b (retK Tryd.prog Tryd.f66.results.toList R) (rho0 [a0]) w = dispatcherref01_Name_F a0 w R := by kernel_rfl
theorem dispatcherref01_Name_calls {a0 : Value} {w : World} {R : Value → World → Prop} (h : dispatcherref01_Name_F a0 w R) : Calls Tryd.prog 66 #[a0] w fun e w' => ∃ v, e = .returned v ∧ R v w' :=
  Go.X.calls_of_sx (n := 40) (c := dispatcherref01_Name_b) Tryd.func66 (by kernel_rfl) (by kernel_rfl) (Nat.le_of_ble_eq_true rfl) (by kernel_rfl) (Eq.mpr (dispatcherref01_Name_eq a0 w R) h)
noncomputable def tree_May_b : Code := (Tryd.f7.body).getD .skip
noncomputable def tree_May_F (a0 : Value) (w : World) (R : Value → World → Prop) : Prop :=
  VK Tryd.prog (Instr.box 34 a0) w fun x1 w => VK Tryd.prog (Instr.loadAt 34 x1) w fun x4 w => CK Tryd.prog (Value.func (Fn.func 16) #[] #[]) [x4] w fun x5 w => BK Tryd.prog .leq 3 (.tmp 5) (.const (Value.int .i64 32)) x5 (Value.int .i64 32) w fun x6 w => VG Tryd.prog x6 true (Instr.fieldAt 34 x1 0) w fun x8 w => VG Tryd.prog x6 true (Instr.loadAt 32 x8) w fun x9 w => MG Tryd.prog x6 true (Value.func (Fn.func 14) #[] #[]) w fun x10 w => CG Tryd.prog x6 true (Value.func (Fn.func 17) #[] #[]) [x9, x10] w fun x11 w => VG Tryd.prog x6 true (Op.unary UnOp.not x11) w fun x12 w => PK Tryd.prog x6 x12 (Value.bool false) w fun x13 w => VG Tryd.prog x13 true (Instr.fieldAt 34 x1 1) w fun x15 w => VG Tryd.prog x13 true (Instr.loadAt 23 x15) w fun x16 w => CG Tryd.prog x13 true (Value.func (Fn.func 18) #[] #[]) [x16] w fun x17 w => PK Tryd.prog x13 x17 (Value.bool false) w fun x18 w => R x18 w
theorem tree_May_eq (a0 : Value) (w : World) (R : Value → World → Prop) : sx fn_ Tryd.prog 19 tree_May_b (retK Tryd.prog Tryd.f7.results.toList R) (rho0 [a0]) w = tree_May_F a0 w R := by kernel_rfl
theorem tree_May_calls {a0 : Value} {w : World} {R : Value → World → Prop} (h : tree_May_F a0 w R) : Calls Tryd.prog 7 #[a0] w fun e w' => ∃ v, e = .returned v ∧ R v w' :=
  Go.X.calls_of_sx (n := 19) (c := tree_May_b) Tryd.func7 (by kernel_rfl) (by kernel_rfl) (Nat.le_of_ble_eq_true rfl) (by kernel_rfl) (Eq.mpr (tree_May_eq a0 w R) h)
noncomputable def dispatcherref02_Many_b : Code := (Tryd.f5.body).getD .skip
noncomputable def dispatcherref02_Many_L0 : Code := cAt [1, 1, 0, 1, 0, 0] dispatcherref02_Many_b
noncomputable def dispatcherref02_Many_R1 : Code := cAt [1, 1, 1] dispatcherref02_Many_b
noncomputable def dispatcherref02_Many_R2 : Code := cAt [1, 1, 0, 1, 0, 0, 1, 0, 0] dispatcherref02_Many_b
noncomputable def dispatcherref02_Many_R3 : Code := cAt [1, 1, 0, 1, 0, 0, 1, 1] dispatcherref02_Many_b
noncomputable def dispatcherref02_Many_L0_F (z : At) (K : Exit → Sl → World → Prop) (ρ : Sl) (w : World) : Prop :=
  IK Tryd.prog .len #[23] 3 [false] [(ρ 0)] w fun x7 w => BK Tryd.prog .lss 3 (.tmp 5) (.tmp 7) (ρ 4) x7 w fun x8 w => CondK x8 (W z Tryd.prog 43 dispatcherref02_Many_R2 (blkK 1 (seqK (sx z Tryd.prog 43 dispatcherref02_Many_R3 K) K)) (up (up (up (up ρ 5 (ρ 4)) 6 (ρ 0)) 7 x7) 8 x8) w) (K (.exit 0) (up (up (up (up ρ 5 (ρ 4)) 6 (ρ 0)) 7 x7) 8 x8) w)
theorem dispatcherref02_Many_L0_eq (z : At) (K : Exit → Sl → World → Prop) (ρ : Sl) (w : World) : sx z Tryd.prog 43 dispatcherref02_Many_L0 K ρ w = dispatcherref02_Many_L0_F z K ρ w := by kernel_rfl
theorem dispatcherref02_Many_L0_ok : dstOk 43 dispatcherref02_Many_L0 = true := by kernel_rfl
noncomputable def dispatcherref02_Many_R1_F (z : At) (K : Exit → Sl → World → Prop) (ρ : Sl) (w : World) : Prop :=
  K .ret (up (up ρ 42 (ρ 3)) 2 (ρ 3)) w
theorem dispatcherref02_Many_R1_eq (z : At) (K : Exit → Sl → World → Prop) (ρ : Sl) (w : World) : sx z Tryd.prog 43 dispatcherref02_Many_R1 K ρ w = dispatcherref02_Many_R1_F z K ρ w := by kernel_rfl
noncomputable def dispatcherref02_Many_R2_ops : Array Oper := opsOf dispatcherref02_Many_R2
def dispatcherref02_Many_R2_Q (C : World → Prop) (K : Exit → Sl → World → Prop) (ρ : Sl) : Prop :=
  QK Tryd.prog C (do pure (Next.value (← (do eqGuard BinOp.add 3 (Operand.tmp 11) (Operand.const (Value.int IntKind.i64 1)) (ρ 3) (Value.int IntKind.i64 1); binOp BinOp.add 3 (ρ 3) (Value.int IntKind.i64 1))))) fun x12 => QK Tryd.prog C (do pure (Next.value (← Instr.indexAt 23 (ρ 0) (ρ 4)))) fun x15 => QK Tryd.prog C (do pure (Next.value (← Instr.fieldAt 25 x15 3))) fun x16 => QK Tryd.prog C (do pure (Next.value (← Instr.loadAt 9 x16))) fun x17 => QK Tryd.prog C (builtin Builtin.len #[9] 3 [false].toArray [x17].toArray) fun x18 => QK Tryd.prog C (builtin Builtin.min #[3, 3] 3 [false, true].toArray [x18, (Value.int IntKind.i64 30000)].toArray) fun x19 => QK Tryd.prog C (do pure (Next.value (← (do eqGuard BinOp.add 3 (Operand.tmp 12) (Operand.tmp 19) x12 x19; binOp BinOp.add 3 x12 x19)))) fun x20 => QK Tryd.prog C (do pure (Next.value (← Instr.indexAt 23 (ρ 0) (ρ 4)))) fun x23 => QK Tryd.prog C (do pure (Next.value (← Instr.fieldAt 25 x23 5))) fun x24 => QK Tryd.prog C (do pure (Next.value (← Instr.loadAt 22 x24))) fun x25 => QK Tryd.prog C (do let d ← Deferred.ofValue (Value.func (Fn.func 12) #[] #[]) [x25].toArray; invoke d.target d.args) fun x26 => QK Tryd.prog C (do pure (Next.value (← (do eqGuard BinOp.add 3 (Operand.tmp 20) (Operand.tmp 26) x20 x26; binOp BinOp.add 3 x20 x26)))) fun x27 => QK Tryd.prog C (do pure (Next.value (← Instr.indexAt 23 (ρ 0) (ρ 4)))) fun x30 => QK Tryd.prog C (do pure (Next.value (← Instr.fieldAt 25 x30 6))) fun x31 => QK Tryd.prog C (do pure (Next.value (← Instr.loadAt 23 x31))) fun x32 => QK Tryd.prog C (do let d ← Deferred.ofValue (Value.func (Fn.func 5) #[] #[]) [x32].toArray; invoke d.target d.args) fun x33 => QK Tryd.prog C (do pure (Next.value (← (do eqGuard BinOp.add 3 (Operand.tmp 27) (Operand.tmp 33) x27 x33; binOp BinOp.add 3 x27 x33)))) fun x34 => QK Tryd.prog C (do pure (Next.value (← Instr.indexAt 23 (ρ 0) (ρ 4)))) fun x37 => QK Tryd.prog C (do pure (Next.value (← Instr.fieldAt 25 x37 7))) fun x38 => QK Tryd.prog C (do pure (Next.value (← Instr.loadAt 23 x38))) fun x39 => QK Tryd.prog C (do let d ← Deferred.ofValue (Value.func (Fn.func 5) #[] #[]) [x39].toArray; invoke d.target d.args) fun x40 => QK Tryd.prog C (do pure (Next.value (← (do eqGuard BinOp.add 3 (Operand.tmp 34) (Operand.tmp 40) x34 x40; binOp BinOp.add 3 x34 x40)))) fun x41 => ∀ w', C w' → K Exit.normal (up (up (up (up (up (up (up (up (up (up (up (up (up (up (up (up (up (up (up (up (up (up (up (up (up (up (up (up (up (up (up (up ρ 11 (ρ 3)) 12 x12) 13 (ρ 0)) 14 (ρ 4)) 15 x15) 16 x16) 17 x17) 18 x18) 19 x19) 20 x20) 21 (ρ 0)) 22 (ρ 4)) 23 x23) 24 x24) 25 x25) 26 x26) 27 x27) 28 (ρ 0)) 29 (ρ 4)) 30 x30) 31 x31) 32 x32) 33 x33) 34 x34) 35 (ρ 0)) 36 (ρ 4)) 37 x37) 38 x38) 39 x39) 40 x40) 41 x41) 3 x41) w'
theorem dispatcherref02_Many_R2_quiet {D : List Deferred} (C : World → Prop) {K : Exit → Sl → World → Prop} {ρ : Sl} {w : World} (hC : C { w with drawn := w.drawn + 1 }) (h : dispatcherref02_Many_R2_Q C K ρ) : W ⟨none, D⟩ Tryd.prog 43 dispatcherref02_Many_R2 K ρ w := by
  have e : dispatcherref02_Many_R2 = .region (idOf dispatcherref02_Many_R2) dispatcherref02_Many_R2_ops true := by kernel_rfl
  have q : sxq Tryd.prog C dispatcherref02_Many_R2_ops (fun ρ' => ∀ w', C w' → K .normal ρ' w') dispatcherref02_Many_R2_ops.toList ρ = dispatcherref02_Many_R2_Q C K ρ := by kernel_rfl
  rw [e]
  exact W_quiet C (by kernel_rfl) (by kernel_rfl) (by kernel_rfl) hC (Eq.mpr q h)
noncomputable def dispatcherref02_Many_R3_F (z : At) (K : Exit → Sl → World → Prop) (ρ : Sl) (w : World) : Prop :=
  BK Tryd.prog .add 3 (.tmp 9) (.const (Value.int .i64 1)) (ρ 4) (Value.int .i64 1) w fun x10 w => K .normal (up (up (up ρ 9 (ρ 4)) 10 x10) 4 x10) w
theorem dispatcherref02_Many_R3_eq (z : At) (K : Exit → Sl → World → Prop) (ρ : Sl) (w : World) : sx z Tryd.prog 43 dispatcherref02_Many_R3 K ρ w = dispatcherref02_Many_R3_F z K ρ w := by kernel_rfl
noncomputable def dispatcherref02_Many_F (a0 : Value) (w : World) (R : Value → World → Prop) : Prop :=
  W fn_ Tryd.prog 43 (Code.loop dispatcherref02_Many_L0) (blkK 0 (seqK (sx fn_ Tryd.prog 43 dispatcherref02_Many_R1 (retK Tryd.prog [ResultVar.tmp 2] R)) (retK Tryd.prog [ResultVar.tmp 2] R))) (up (up (up (rho0 [a0]) 2 (Value.int .i64 0)) 3 (Value.int .i64 0)) 4 (Value.int .i64 0)) w
theorem dispatcherref02_Many_eq (a0 : Value) (w : World) (R : Value → World → Prop) : sx fn_ Tryd.prog 43 dispatcherref02_Many_b (retK Tryd.prog Tryd.f5.results.toList R) (rho0 [a0]) w = dispatcherref02_Many_F a0 w R := by kernel_rfl
theorem dispatcherref02_Many_calls {a0 : Value} {w : World} {R : Value → World → Prop} (h : dispatcherref02_Many_F a0 w R) : Calls Tryd.prog 5 #[a0] w fun e w' => ∃ v, e = .returned v ∧ R v w' :=
  Go.X.calls_of_sx (n := 43) (c := dispatcherref02_Many_b) Tryd.func5 (by kernel_rfl) (by kernel_rfl) (Nat.le_of_ble_eq_true rfl) (by kernel_rfl) (Eq.mpr (dispatcherref02_Many_eq a0 w R) h)
noncomputable def dispatcherref01_letter_b : Code := (Tryd.f61.body).getD .skip
noncomputable def dispatcherref01_letter_F (a0 : Value) (w : World) (R : Value → World → Prop) : Prop :=
  BK Tryd.prog .geq 5 (.tmp 3) (.const (Value.int .u8 97)) a0 (Value.int .u8 97) w fun x4 w => MG Tryd.prog x4 true a0 w fun x6 w => BG Tryd.prog x4 true .leq 5 (.tmp 6) (.const (Value.int .u8 122)) x6 (Value.int .u8 122) w fun x7 w => PK Tryd.prog x4 x7 (Value.bool false) w fun x8 w => R x8 w
theorem dispatcherref01_letter_eq (a0 : Value) (w : World) (R : Value → World → Prop) : sx fn_ Tryd.prog 9 dispatcherref01_letter_b (retK Tryd.prog Tryd.f61.results.toList R) (rho0 [a0]) w = dispatcherref01_letter_F a0 w R := by kernel_rfl
theorem dispatcherref01_letter_calls {a0 : Value} {w : World} {R : Value → World → Prop} (h : dispatcherref01_letter_F a0 w R) : Calls Tryd.prog 61 #[a0] w fun e w' => ∃ v, e = .returned v ∧ R v w' :=
  Go.X.calls_of_sx (n := 9) (c := dispatcherref01_letter_b) Tryd.func61 (by kernel_rfl) (by kernel_rfl) (Nat.le_of_ble_eq_true rfl) (by kernel_rfl) (Eq.mpr (dispatcherref01_letter_eq a0 w R) h)
noncomputable def dispatcherref01_Word_b : Code := (Tryd.f65.body).getD .skip
noncomputable def dispatcherref01_Word_L0 : Code := cAt [1, 1, 0, 1, 0, 0] dispatcherref01_Word_b
noncomputable def dispatcherref01_Word_R1 : Code := cAt [1, 1, 1] dispatcherref01_Word_b
noncomputable def dispatcherref01_Word_L0_F (z : At) (K : Exit → Sl → World → Prop) (ρ : Sl) (w : World) : Prop :=
  IK Tryd.prog .len #[91] 3 [false] [(ρ 3)] w fun x8 w => BK Tryd.prog .lss 3 (.tmp 6) (.tmp 8) (ρ 4) x8 w fun x9 w => CondK x9 (VK Tryd.prog (Instr.indexAt 91 (ρ 3) (ρ 4)) w fun x14 w => VK Tryd.prog (Instr.loadAt 9 x14) w fun x15 w => BK Tryd.prog .eql 9 (.tmp 15) (.tmp 16) x15 (ρ 0) w fun x17 w => CondK x17 (K .ret (up (up (up (up (up (up (up (up (up (up (up ρ 6 (ρ 4)) 7 (ρ 3)) 8 x8) 9 x9) 12 (ρ 3)) 13 (ρ 4)) 14 x14) 15 x15) 16 (ρ 0)) 17 x17) 2 (Value.bool true)) w) (BK Tryd.prog .add 3 (.tmp 10) (.const (Value.int .i64 1)) (ρ 4) (Value.int .i64 1) w fun x11 w => K .normal (up (up (up (up (up (up (up (up (up (up (up (up (up ρ 6 (ρ 4)) 7 (ρ 3)) 8 x8) 9 x9) 12 (ρ 3)) 13 (ρ 4)) 14 x14) 15 x15) 16 (ρ 0)) 17 x17) 10 (ρ 4)) 11 x11) 4 x11) w)) (K (.exit 0) (up (up (up (up ρ 6 (ρ 4)) 7 (ρ 3)) 8 x8) 9 x9) w)
theorem dispatcherref01_Word_L0_eq (z : At) (K : Exit → Sl → World → Prop) (ρ : Sl) (w : World) : sx z Tryd.prog 18 dispatcherref01_Word_L0 K ρ w = dispatcherref01_Word_L0_F z K ρ w := by kernel_rfl
theorem dispatcherref01_Word_L0_ok : dstOk 18 dispatcherref01_Word_L0 = true := by kernel_rfl
noncomputable def dispatcherref01_Word_R1_F (z : At) (K : Exit → Sl → World → Prop) (ρ : Sl) (w : World) : Prop :=
  K .ret (up ρ 2 (Value.bool false)) w
theorem dispatcherref01_Word_R1_eq (z : At) (K : Exit → Sl → World → Prop) (ρ : Sl) (w : World) : sx z Tryd.prog 18 dispatcherref01_Word_R1 K ρ w = dispatcherref01_Word_R1_F z K ρ w := by kernel_rfl
noncomputable def dispatcherref01_Word_F (a0 : Value) (w : World) (R : Value → World → Prop) : Prop :=
  CK Tryd.prog (Value.func (Fn.func 81) #[] #[]) [] w fun x5 w => W fn_ Tryd.prog 18 (Code.loop dispatcherref01_Word_L0) (blkK 0 (seqK (sx fn_ Tryd.prog 18 dispatcherref01_Word_R1 (retK Tryd.prog [ResultVar.tmp 2] R)) (retK Tryd.prog [ResultVar.tmp 2] R))) (up (up (up (up (rho0 [a0]) 2 (Value.bool false)) 5 x5) 3 x5) 4 (Value.int .i64 0)) w
theorem dispatcherref01_Word_eq (a0 : Value) (w : World) (R : Value → World → Prop) : sx fn_ Tryd.prog 18 dispatcherref01_Word_b (retK Tryd.prog Tryd.f65.results.toList R) (rho0 [a0]) w = dispatcherref01_Word_F a0 w R := by kernel_rfl
theorem dispatcherref01_Word_calls {a0 : Value} {w : World} {R : Value → World → Prop} (h : dispatcherref01_Word_F a0 w R) : Calls Tryd.prog 65 #[a0] w fun e w' => ∃ v, e = .returned v ∧ R v w' :=
  Go.X.calls_of_sx (n := 18) (c := dispatcherref01_Word_b) Tryd.func65 (by kernel_rfl) (by kernel_rfl) (Nat.le_of_ble_eq_true rfl) (by kernel_rfl) (Eq.mpr (dispatcherref01_Word_eq a0 w R) h)
noncomputable def dispatcherref01_digit_b : Code := (Tryd.f62.body).getD .skip
noncomputable def dispatcherref01_digit_F (a0 : Value) (w : World) (R : Value → World → Prop) : Prop :=
  BK Tryd.prog .geq 5 (.tmp 3) (.const (Value.int .u8 48)) a0 (Value.int .u8 48) w fun x4 w => MG Tryd.prog x4 true a0 w fun x6 w => BG Tryd.prog x4 true .leq 5 (.tmp 6) (.const (Value.int .u8 57)) x6 (Value.int .u8 57) w fun x7 w => PK Tryd.prog x4 x7 (Value.bool false) w fun x8 w => R x8 w
theorem dispatcherref01_digit_eq (a0 : Value) (w : World) (R : Value → World → Prop) : sx fn_ Tryd.prog 9 dispatcherref01_digit_b (retK Tryd.prog Tryd.f62.results.toList R) (rho0 [a0]) w = dispatcherref01_digit_F a0 w R := by kernel_rfl
theorem dispatcherref01_digit_calls {a0 : Value} {w : World} {R : Value → World → Prop} (h : dispatcherref01_digit_F a0 w R) : Calls Tryd.prog 62 #[a0] w fun e w' => ∃ v, e = .returned v ∧ R v w' :=
  Go.X.calls_of_sx (n := 9) (c := dispatcherref01_digit_b) Tryd.func62 (by kernel_rfl) (by kernel_rfl) (Nat.le_of_ble_eq_true rfl) (by kernel_rfl) (Eq.mpr (dispatcherref01_digit_eq a0 w R) h)
noncomputable def tree_May_1_b : Code := (Tryd.f14.body).getD .skip
noncomputable def tree_May_1_F (a0 : Value) (w : World) (R : Value → World → Prop) : Prop :=
  VK Tryd.prog (Instr.box 43 a0) w fun x1 w => VK Tryd.prog (Instr.fieldAt 43 x1 0) w fun x3 w => VK Tryd.prog (Instr.loadAt 9 x3) w fun x4 w => CK Tryd.prog (Value.func (Fn.func 15) #[] #[]) [x4] w fun x5 w => VK Tryd.prog (Op.unary UnOp.not x5) w fun x6 w => VG Tryd.prog x6 false (Instr.fieldAt 43 x1 1) w fun x8 w => VG Tryd.prog x6 false (Instr.loadAt 3 x8) w fun x9 w => BG Tryd.prog x6 false .lss 3 (.tmp 9) (.const (Value.int .i64 0)) x9 (Value.int .i64 0) w fun x10 w => PK Tryd.prog x6 (Value.bool true) x10 w fun x11 w => VG Tryd.prog x11 false (Instr.fieldAt 43 x1 1) w fun x13 w => VG Tryd.prog x11 false (Instr.loadAt 3 x13) w fun x14 w => BG Tryd.prog x11 false .gtr 3 (.tmp 14) (.const (Value.int .i64 1000)) x14 (Value.int .i64 1000) w fun x15 w => PK Tryd.prog x11 (Value.bool true) x15 w fun x16 w => R x16 w
theorem tree_May_1_eq (a0 : Value) (w : World) (R : Value → World → Prop) : sx fn_ Tryd.prog 17 tree_May_1_b (retK Tryd.prog Tryd.f14.results.toList R) (rho0 [a0]) w = tree_May_1_F a0 w R := by kernel_rfl
theorem tree_May_1_calls {a0 : Value} {w : World} {R : Value → World → Prop} (h : tree_May_1_F a0 w R) : Calls Tryd.prog 14 #[a0] w fun e w' => ∃ v, e = .returned v ∧ R v w' :=
  Go.X.calls_of_sx (n := 17) (c := tree_May_1_b) Tryd.func14 (by kernel_rfl) (by kernel_rfl) (Nat.le_of_ble_eq_true rfl) (by kernel_rfl) (Eq.mpr (tree_May_1_eq a0 w R) h)
noncomputable def scan_Name_b : Code := (Tryd.f15.body).getD .skip
noncomputable def scan_Name_F (a0 : Value) (w : World) (R : Value → World → Prop) : Prop :=
  BK Tryd.prog .neq 9 (.tmp 3) (.const (Value.string { data := #[] })) a0 (Value.string { data := #[] }) w fun x4 w => MG Tryd.prog x4 true a0 w fun x6 w => CG Tryd.prog x4 true (Value.func (Fn.func 26) #[] #[]) [x6, (Value.func (Fn.func 27) #[] #[])] w fun x7 w => MG Tryd.prog x4 true a0 w fun x8 w => IG Tryd.prog x4 true .len #[9] 3 [false] [x8] w fun x9 w => BG Tryd.prog x4 true .eql 3 (.tmp 7) (.tmp 9) x7 x9 w fun x10 w => PK Tryd.prog x4 x10 (Value.bool false) w fun x11 w => MG Tryd.prog x11 true a0 w fun x13 w => VG Tryd.prog x11 true (Instr.index 9 x13 (Value.int .i64 0)) w fun x14 w => VG Tryd.prog x11 true (convert 5 21 x14) w fun x15 w => CG Tryd.prog x11 true (Value.func (Fn.func 28) #[] #[]) [x15] w fun x16 w => PK Tryd.prog x11 x16 (Value.bool false) w fun x17 w => MG Tryd.prog x17 true a0 w fun x19 w => IG Tryd.prog x17 true .len #[9] 3 [false] [x19] w fun x20 w => BG Tryd.prog x17 true .leq 3 (.tmp 20) (.const (Value.int .i64 12)) x20 (Value.int .i64 12) w fun x21 w => PK Tryd.prog x17 x21 (Value.bool false) w fun x22 w => MG Tryd.prog x22 true a0 w fun x24 w => CG Tryd.prog x22 true (Value.func (Fn.func 29) #[] #[]) [x24] w fun x25 w => VG Tryd.prog x22 true (Op.unary UnOp.not x25) w fun x26 w => PK Tryd.prog x22 x26 (Value.bool false) w fun x27 w => R x27 w
theorem scan_Name_eq (a0 : Value) (w : World) (R : Value → World → Prop) : sx fn_ Tryd.prog 28 scan_Name_b (retK Tryd.prog Tryd.f15.results.toList R) (rho0 [a0]) w = scan_Name_F a0 w R := by kernel_rfl
theorem scan_Name_calls {a0 : Value} {w : World} {R : Value → World → Prop} (h : scan_Name_F a0 w R) : Calls Tryd.prog 15 #[a0] w fun e w' => ∃ v, e = .returned v ∧ R v w' :=
  Go.X.calls_of_sx (n := 28) (c := scan_Name_b) Tryd.func15 (by kernel_rfl) (by kernel_rfl) (Nat.le_of_ble_eq_true rfl) (by kernel_rfl) (Eq.mpr (scan_Name_eq a0 w R) h)
noncomputable def tree_Deep_b : Code := (Tryd.f16.body).getD .skip
noncomputable def tree_Deep_F (a0 : Value) (w : World) (R : Value → World → Prop) : Prop :=
  VK Tryd.prog (Instr.box 34 a0) w fun x1 w => VK Tryd.prog (Instr.fieldAt 34 x1 1) w fun x6 w => VK Tryd.prog (Instr.loadAt 23 x6) w fun x7 w => CK Tryd.prog (Value.func (Fn.func 30) #[] #[]) [x7] w fun x8 w => VK Tryd.prog (Instr.extract x8 0) w fun x9 w => VK Tryd.prog (Instr.extract x8 1) w fun x10 w => IK Tryd.prog .max #[3, 3] 3 [false, false] [x9, x10] w fun x13 w => R x13 w
theorem tree_Deep_eq (a0 : Value) (w : World) (R : Value → World → Prop) : sx fn_ Tryd.prog 14 tree_Deep_b (retK Tryd.prog Tryd.f16.results.toList R) (rho0 [a0]) w = tree_Deep_F a0 w R := by kernel_rfl
theorem tree_Deep_calls {a0 : Value} {w : World} {R : Value → World → Prop} (h : tree_Deep_F a0 w R) : Calls Tryd.prog 16 #[a0] w fun e w' => ∃ v, e = .returned v ∧ R v w' :=
  Go.X.calls_of_sx (n := 14) (c := tree_Deep_b) Tryd.func16 (by kernel_rfl) (by kernel_rfl) (Nat.le_of_ble_eq_true rfl) (by kernel_rfl) (Eq.mpr (tree_Deep_eq a0 w R) h)
noncomputable def slices_ContainsFunc_tree_Decl_tree_Decl_b : Code := (Tryd.f17.body).getD .skip
noncomputable def slices_ContainsFunc_tree_Decl_tree_Decl_F (a0 a1 : Value) (w : World) (R : Value → World → Prop) : Prop :=
  CK Tryd.prog (Value.func (Fn.func 31) #[] #[]) [a0, a1] w fun x7 w => BK Tryd.prog .geq 3 (.tmp 7) (.const (Value.int .i64 0)) x7 (Value.int .i64 0) w fun x8 w => R x8 w
theorem slices_ContainsFunc_tree_Decl_tree_Decl_eq (a0 a1 : Value) (w : World) (R : Value → World → Prop) : sx fn_ Tryd.prog 9 slices_ContainsFunc_tree_Decl_tree_Decl_b (retK Tryd.prog Tryd.f17.results.toList R) (rho0 [a0, a1]) w = slices_ContainsFunc_tree_Decl_tree_Decl_F a0 a1 w R := by kernel_rfl
theorem slices_ContainsFunc_tree_Decl_tree_Decl_calls {a0 a1 : Value} {w : World} {R : Value → World → Prop} (h : slices_ContainsFunc_tree_Decl_tree_Decl_F a0 a1 w R) : Calls Tryd.prog 17 #[a0, a1] w fun e w' => ∃ v, e = .returned v ∧ R v w' :=
  Go.X.calls_of_sx (n := 9) (c := slices_ContainsFunc_tree_Decl_tree_Decl_b) Tryd.func17 (by kernel_rfl) (by kernel_rfl) (Nat.le_of_ble_eq_true rfl) (by kernel_rfl) (Eq.mpr (slices_ContainsFunc_tree_Decl_tree_Decl_eq a0 a1 w R) h)
noncomputable def tree_mayStmts_b : Code := (Tryd.f18.body).getD .skip
noncomputable def tree_mayStmts_F (a0 : Value) (w : World) (R : Value → World → Prop) : Prop :=
  CK Tryd.prog (Value.func (Fn.func 32) #[] #[]) [a0, (Value.func (Fn.func 33) #[] #[])] w fun x4 w => VK Tryd.prog (Op.unary UnOp.not x4) w fun x5 w => R x5 w
theorem tree_mayStmts_eq (a0 : Value) (w : World) (R : Value → World → Prop) : sx fn_ Tryd.prog 6 tree_mayStmts_b (retK Tryd.prog Tryd.f18.results.toList R) (rho0 [a0]) w = tree_mayStmts_F a0 w R := by kernel_rfl
theorem tree_mayStmts_calls {a0 : Value} {w : World} {R : Value → World → Prop} (h : tree_mayStmts_F a0 w R) : Calls Tryd.prog 18 #[a0] w fun e w' => ∃ v, e = .returned v ∧ R v w' :=
  Go.X.calls_of_sx (n := 6) (c := tree_mayStmts_b) Tryd.func18 (by kernel_rfl) (by kernel_rfl) (Nat.le_of_ble_eq_true rfl) (by kernel_rfl) (Eq.mpr (tree_mayStmts_eq a0 w R) h)
noncomputable def dispatcherref02_ManyExprs_b : Code := (Tryd.f12.body).getD .skip
noncomputable def dispatcherref02_ManyExprs_L0 : Code := cAt [1, 1, 0, 1, 0, 0] dispatcherref02_ManyExprs_b
noncomputable def dispatcherref02_ManyExprs_R1 : Code := cAt [1, 1, 1] dispatcherref02_ManyExprs_b
noncomputable def dispatcherref02_ManyExprs_R2 : Code := cAt [1, 1, 0, 1, 0, 0, 1, 0, 0] dispatcherref02_ManyExprs_b
noncomputable def dispatcherref02_ManyExprs_R3 : Code := cAt [1, 1, 0, 1, 0, 0, 1, 1] dispatcherref02_ManyExprs_b
noncomputable def dispatcherref02_ManyExprs_L0_F (z : At) (K : Exit → Sl → World → Prop) (ρ : Sl) (w : World) : Prop :=
  IK Tryd.prog .len #[22] 3 [false] [(ρ 0)] w fun x7 w => BK Tryd.prog .lss 3 (.tmp 5) (.tmp 7) (ρ 4) x7 w fun x8 w => CondK x8 (W z Tryd.prog 29 dispatcherref02_ManyExprs_R2 (blkK 1 (seqK (sx z Tryd.prog 29 dispatcherref02_ManyExprs_R3 K) K)) (up (up (up (up ρ 5 (ρ 4)) 6 (ρ 0)) 7 x7) 8 x8) w) (K (.exit 0) (up (up (up (up ρ 5 (ρ 4)) 6 (ρ 0)) 7 x7) 8 x8) w)
theorem dispatcherref02_ManyExprs_L0_eq (z : At) (K : Exit → Sl → World → Prop) (ρ : Sl) (w : World) : sx z Tryd.prog 29 dispatcherref02_ManyExprs_L0 K ρ w = dispatcherref02_ManyExprs_L0_F z K ρ w := by kernel_rfl
theorem dispatcherref02_ManyExprs_L0_ok : dstOk 29 dispatcherref02_ManyExprs_L0 = true := by kernel_rfl
noncomputable def dispatcherref02_ManyExprs_R1_F (z : At) (K : Exit → Sl → World → Prop) (ρ : Sl) (w : World) : Prop :=
  K .ret (up (up ρ 28 (ρ 3)) 2 (ρ 3)) w
theorem dispatcherref02_ManyExprs_R1_eq (z : At) (K : Exit → Sl → World → Prop) (ρ : Sl) (w : World) : sx z Tryd.prog 29 dispatcherref02_ManyExprs_R1 K ρ w = dispatcherref02_ManyExprs_R1_F z K ρ w := by kernel_rfl
noncomputable def dispatcherref02_ManyExprs_R2_ops : Array Oper := opsOf dispatcherref02_ManyExprs_R2
def dispatcherref02_ManyExprs_R2_Q (C : World → Prop) (K : Exit → Sl → World → Prop) (ρ : Sl) : Prop :=
  QK Tryd.prog C (do pure (Next.value (← (do eqGuard BinOp.add 3 (Operand.tmp 11) (Operand.const (Value.int IntKind.i64 1)) (ρ 3) (Value.int IntKind.i64 1); binOp BinOp.add 3 (ρ 3) (Value.int IntKind.i64 1))))) fun x12 => QK Tryd.prog C (do pure (Next.value (← Instr.indexAt 22 (ρ 0) (ρ 4)))) fun x15 => QK Tryd.prog C (do pure (Next.value (← Instr.fieldAt 29 x15 2))) fun x16 => QK Tryd.prog C (do pure (Next.value (← Instr.loadAt 9 x16))) fun x17 => QK Tryd.prog C (builtin Builtin.len #[9] 3 [false].toArray [x17].toArray) fun x18 => QK Tryd.prog C (builtin Builtin.min #[3, 3] 3 [false, true].toArray [x18, (Value.int IntKind.i64 30000)].toArray) fun x19 => QK Tryd.prog C (do pure (Next.value (← (do eqGuard BinOp.add 3 (Operand.tmp 12) (Operand.tmp 19) x12 x19; binOp BinOp.add 3 x12 x19)))) fun x20 => QK Tryd.prog C (do pure (Next.value (← Instr.indexAt 22 (ρ 0) (ρ 4)))) fun x23 => QK Tryd.prog C (do pure (Next.value (← Instr.fieldAt 29 x23 3))) fun x24 => QK Tryd.prog C (do pure (Next.value (← Instr.loadAt 22 x24))) fun x25 => QK Tryd.prog C (do let d ← Deferred.ofValue (Value.func (Fn.func 12) #[] #[]) [x25].toArray; invoke d.target d.args) fun x26 => QK Tryd.prog C (do pure (Next.value (← (do eqGuard BinOp.add 3 (Operand.tmp 20) (Operand.tmp 26) x20 x26; binOp BinOp.add 3 x20 x26)))) fun x27 => ∀ w', C w' → K Exit.normal (up (up (up (up (up (up (up (up (up (up (up (up (up (up (up (up (up (up ρ 11 (ρ 3)) 12 x12) 13 (ρ 0)) 14 (ρ 4)) 15 x15) 16 x16) 17 x17) 18 x18) 19 x19) 20 x20) 21 (ρ 0)) 22 (ρ 4)) 23 x23) 24 x24) 25 x25) 26 x26) 27 x27) 3 x27) w'
theorem dispatcherref02_ManyExprs_R2_quiet {D : List Deferred} (C : World → Prop) {K : Exit → Sl → World → Prop} {ρ : Sl} {w : World} (hC : C { w with drawn := w.drawn + 1 }) (h : dispatcherref02_ManyExprs_R2_Q C K ρ) : W ⟨none, D⟩ Tryd.prog 29 dispatcherref02_ManyExprs_R2 K ρ w := by
  have e : dispatcherref02_ManyExprs_R2 = .region (idOf dispatcherref02_ManyExprs_R2) dispatcherref02_ManyExprs_R2_ops true := by kernel_rfl
  have q : sxq Tryd.prog C dispatcherref02_ManyExprs_R2_ops (fun ρ' => ∀ w', C w' → K .normal ρ' w') dispatcherref02_ManyExprs_R2_ops.toList ρ = dispatcherref02_ManyExprs_R2_Q C K ρ := by kernel_rfl
  rw [e]
  exact W_quiet C (by kernel_rfl) (by kernel_rfl) (by kernel_rfl) hC (Eq.mpr q h)
noncomputable def dispatcherref02_ManyExprs_R3_F (z : At) (K : Exit → Sl → World → Prop) (ρ : Sl) (w : World) : Prop :=
  BK Tryd.prog .add 3 (.tmp 9) (.const (Value.int .i64 1)) (ρ 4) (Value.int .i64 1) w fun x10 w => K .normal (up (up (up ρ 9 (ρ 4)) 10 x10) 4 x10) w
theorem dispatcherref02_ManyExprs_R3_eq (z : At) (K : Exit → Sl → World → Prop) (ρ : Sl) (w : World) : sx z Tryd.prog 29 dispatcherref02_ManyExprs_R3 K ρ w = dispatcherref02_ManyExprs_R3_F z K ρ w := by kernel_rfl
noncomputable def dispatcherref02_ManyExprs_F (a0 : Value) (w : World) (R : Value → World → Prop) : Prop :=
  W fn_ Tryd.prog 29 (Code.loop dispatcherref02_ManyExprs_L0) (blkK 0 (seqK (sx fn_ Tryd.prog 29 dispatcherref02_ManyExprs_R1 (retK Tryd.prog [ResultVar.tmp 2] R)) (retK Tryd.prog [ResultVar.tmp 2] R))) (up (up (up (rho0 [a0]) 2 (Value.int .i64 0)) 3 (Value.int .i64 0)) 4 (Value.int .i64 0)) w
theorem dispatcherref02_ManyExprs_eq (a0 : Value) (w : World) (R : Value → World → Prop) : sx fn_ Tryd.prog 29 dispatcherref02_ManyExprs_b (retK Tryd.prog Tryd.f12.results.toList R) (rho0 [a0]) w = dispatcherref02_ManyExprs_F a0 w R := by kernel_rfl
theorem dispatcherref02_ManyExprs_calls {a0 : Value} {w : World} {R : Value → World → Prop} (h : dispatcherref02_ManyExprs_F a0 w R) : Calls Tryd.prog 12 #[a0] w fun e w' => ∃ v, e = .returned v ∧ R v w' :=
  Go.X.calls_of_sx (n := 29) (c := dispatcherref02_ManyExprs_b) Tryd.func12 (by kernel_rfl) (by kernel_rfl) (Nat.le_of_ble_eq_true rfl) (by kernel_rfl) (Eq.mpr (dispatcherref02_ManyExprs_eq a0 w R) h)
noncomputable def dispatcherref02_Deep_b : Code := (Tryd.f44.body).getD .skip
noncomputable def dispatcherref02_Deep_F (a0 : Value) (w : World) (R : Value → World → Prop) : Prop :=
  VK Tryd.prog (Instr.box 34 a0) w fun x1 w => VK Tryd.prog (Instr.fieldAt 34 x1 1) w fun x3 w => VK Tryd.prog (Instr.loadAt 23 x3) w fun x4 w => CK Tryd.prog (Value.func (Fn.func 72) #[] #[]) [x4, (Value.int .i64 1)] w fun x5 w => R x5 w
theorem dispatcherref02_Deep_eq (a0 : Value) (w : World) (R : Value → World → Prop) : sx fn_ Tryd.prog 6 dispatcherref02_Deep_b (retK Tryd.prog Tryd.f44.results.toList R) (rho0 [a0]) w = dispatcherref02_Deep_F a0 w R := by kernel_rfl
theorem dispatcherref02_Deep_calls {a0 : Value} {w : World} {R : Value → World → Prop} (h : dispatcherref02_Deep_F a0 w R) : Calls Tryd.prog 44 #[a0] w fun e w' => ∃ v, e = .returned v ∧ R v w' :=
  Go.X.calls_of_sx (n := 6) (c := dispatcherref02_Deep_b) Tryd.func44 (by kernel_rfl) (by kernel_rfl) (Nat.le_of_ble_eq_true rfl) (by kernel_rfl) (Eq.mpr (dispatcherref02_Deep_eq a0 w R) h)
noncomputable def dispatcherref01_Words_b : Code := (Tryd.f81.body).getD .skip
noncomputable def dispatcherref01_Words_F (w : World) (R : Value → World → Prop) : Prop :=
  VK Tryd.prog (Instr.buildSlice 91 43 [(0, (Value.string { data := #[105, 110, 116] })), (1, (Value.string { data := #[105, 102] })), (2, (Value.string { data := #[101, 108, 115, 101] })), (3, (Value.string { data := #[119, 104, 105, 108, 101] })), (4, (Value.string { data := #[102, 111, 114] })), (5, (Value.string { data := #[97, 115, 115, 101, 114, 116] })), (6, (Value.string { data := #[115, 116, 111, 112] })), (7, (Value.string { data := #[114, 97, 110, 107] })), (8, (Value.string { data := #[115, 105, 122, 101] })), (9, (Value.string { data := #[97, 110, 121] })), (10, (Value.string { data := #[118, 97, 108, 117, 101] })), (11, (Value.string { data := #[112, 101, 101, 114] })), (12, (Value.string { data := #[116, 97, 103] })), (13, (Value.string { data := #[102, 108, 97, 103] })), (14, (Value.string { data := #[105, 110, 100, 101, 120] })), (15, (Value.string { data := #[114, 101, 113] })), (16, (Value.string { data := #[99, 111, 109, 109] })), (17, (Value.string { data := #[114, 111, 119] })), (18, (Value.string { data := #[115, 117, 109] })), (19, (Value.string { data := #[109, 97, 120] })), (20, (Value.string { data := #[109, 105, 110] })), (21, (Value.string { data := #[115, 101, 110, 100] })), (22, (Value.string { data := #[115, 115, 101, 110, 100] })), (23, (Value.string { data := #[98, 115, 101, 110, 100] })), (24, (Value.string { data := #[105, 115, 101, 110, 100] })), (25, (Value.string { data := #[105, 115, 115, 101, 110, 100] })), (26, (Value.string { data := #[114, 101, 99, 118] })), (27, (Value.string { data := #[105, 114, 101, 99, 118] })), (28, (Value.string { data := #[112, 114, 111, 98, 101] })), (29, (Value.string { data := #[105, 112, 114, 111, 98, 101] })), (30, (Value.string { data := #[119, 97, 105, 116] })), (31, (Value.string { data := #[119, 97, 105, 116, 97, 108, 108] })), (32, (Value.string { data := #[119, 97, 105, 116, 97, 110, 121] })), (33, (Value.string { data := #[116, 101, 115, 116] })), (34, (Value.string { data := #[116, 101, 115, 116, 97, 110, 121] })), (35, (Value.string { data := #[98, 97, 114, 114, 105, 101, 114] })), (36, (Value.string { data := #[98, 99, 97, 115, 116] })), (37, (Value.string { data := #[114, 101, 100, 117, 99, 101] })), (38, (Value.string { data := #[97, 108, 108, 114, 101, 100, 117, 99, 101] })), (39, (Value.string { data := #[103, 97, 116, 104, 101, 114] })), (40, (Value.string { data := #[100, 117, 112] })), (41, (Value.string { data := #[115, 112, 108, 105, 116] })), (42, (Value.string { data := #[102, 114, 101, 101] }))].toArray) w fun x1 w => R x1 w
theorem dispatcherref01_Words_eq (w : World) (R : Value → World → Prop) : sx fn_ Tryd.prog 2 dispatcherref01_Words_b (retK Tryd.prog Tryd.f81.results.toList R) (rho0 []) w = dispatcherref01_Words_F  w R := by kernel_rfl
theorem dispatcherref01_Words_calls {w : World} {R : Value → World → Prop} (h : dispatcherref01_Words_F  w R) : Calls Tryd.prog 81 #[] w fun e w' => ∃ v, e = .returned v ∧ R v w' :=
  Go.X.calls_of_sx (n := 2) (c := dispatcherref01_Words_b) Tryd.func81 (by kernel_rfl) (by kernel_rfl) (Nat.le_of_ble_eq_true rfl) (by kernel_rfl) (Eq.mpr (dispatcherref01_Words_eq  w R) h)
noncomputable def scan_length_b : Code := (Tryd.f26.body).getD .skip
noncomputable def scan_length_L0 : Code := cAt [1, 0, 1, 0, 0] scan_length_b
noncomputable def scan_length_R1 : Code := cAt [1, 1] scan_length_b
noncomputable def scan_length_L0_F (z : At) (K : Exit → Sl → World → Prop) (ρ : Sl) (w : World) : Prop :=
  VK Tryd.prog (Instr.next (ρ 8) true 0) w fun x9 w => VK Tryd.prog (Instr.extract x9 0) w fun x10 w => CondK x10 (VK Tryd.prog (Instr.extract x9 1) w fun x11 w => VK Tryd.prog (Instr.extract x9 2) w fun x12 w => CK Tryd.prog (ρ 1) [x12] w fun x15 w => VK Tryd.prog (Op.unary UnOp.not x15) w fun x16 w => CondK x16 (K .ret (up (up (up (up (up (up (up (up (up (up (up (up ρ 9 x9) 10 x10) 11 x11) 12 x12) 5 x11) 6 x12) 13 (ρ 1)) 14 x12) 15 x15) 16 x16) 17 x11) 4 x11) w) (K .normal (up (up (up (up (up (up (up (up (up (up ρ 9 x9) 10 x10) 11 x11) 12 x12) 5 x11) 6 x12) 13 (ρ 1)) 14 x12) 15 x15) 16 x16) w)) (K (.exit 0) (up (up ρ 9 x9) 10 x10) w)
theorem scan_length_L0_eq (z : At) (K : Exit → Sl → World → Prop) (ρ : Sl) (w : World) : sx z Tryd.prog 20 scan_length_L0 K ρ w = scan_length_L0_F z K ρ w := by kernel_rfl
theorem scan_length_L0_ok : dstOk 20 scan_length_L0 = true := by kernel_rfl
noncomputable def scan_length_R1_F (z : At) (K : Exit → Sl → World → Prop) (ρ : Sl) (w : World) : Prop :=
  IK Tryd.prog .len #[9] 3 [false] [(ρ 0)] w fun x19 w => K .ret (up (up (up ρ 18 (ρ 0)) 19 x19) 4 x19) w
theorem scan_length_R1_eq (z : At) (K : Exit → Sl → World → Prop) (ρ : Sl) (w : World) : sx z Tryd.prog 20 scan_length_R1 K ρ w = scan_length_R1_F z K ρ w := by kernel_rfl
noncomputable def scan_length_F (a0 a1 : Value) (w : World) (R : Value → World → Prop) : Prop :=
  VK Tryd.prog (Instr.range 9 a0) w fun x8 w => W fn_ Tryd.prog 20 (Code.loop scan_length_L0) (blkK 0 (seqK (sx fn_ Tryd.prog 20 scan_length_R1 (retK Tryd.prog [ResultVar.tmp 4] R)) (retK Tryd.prog [ResultVar.tmp 4] R))) (up (up (up (rho0 [a0, a1]) 4 (Value.int .i64 0)) 7 a0) 8 x8) w
theorem scan_length_eq (a0 a1 : Value) (w : World) (R : Value → World → Prop) : sx fn_ Tryd.prog 20 scan_length_b (retK Tryd.prog Tryd.f26.results.toList R) (rho0 [a0, a1]) w = scan_length_F a0 a1 w R := by kernel_rfl
theorem scan_length_calls {a0 a1 : Value} {w : World} {R : Value → World → Prop} (h : scan_length_F a0 a1 w R) : Calls Tryd.prog 26 #[a0, a1] w fun e w' => ∃ v, e = .returned v ∧ R v w' :=
  Go.X.calls_of_sx (n := 20) (c := scan_length_b) Tryd.func26 (by kernel_rfl) (by kernel_rfl) (Nat.le_of_ble_eq_true rfl) (by kernel_rfl) (Eq.mpr (scan_length_eq a0 a1 w R) h)
noncomputable def scan_named_b : Code := (Tryd.f27.body).getD .skip
noncomputable def scan_named_F (a0 : Value) (w : World) (R : Value → World → Prop) : Prop :=
  CK Tryd.prog (Value.func (Fn.func 28) #[] #[]) [a0] w fun x4 w => MG Tryd.prog x4 false a0 w fun x6 w => CG Tryd.prog x4 false (Value.func (Fn.func 52) #[] #[]) [x6] w fun x7 w => PK Tryd.prog x4 (Value.bool true) x7 w fun x8 w => R x8 w
theorem scan_named_eq (a0 : Value) (w : World) (R : Value → World → Prop) : sx fn_ Tryd.prog 9 scan_named_b (retK Tryd.prog Tryd.f27.results.toList R) (rho0 [a0]) w = scan_named_F a0 w R := by kernel_rfl
theorem scan_named_calls {a0 : Value} {w : World} {R : Value → World → Prop} (h : scan_named_F a0 w R) : Calls Tryd.prog 27 #[a0] w fun e w' => ∃ v, e = .returned v ∧ R v w' :=
  Go.X.calls_of_sx (n := 9) (c := scan_named_b) Tryd.func27 (by kernel_rfl) (by kernel_rfl) (Nat.le_of_ble_eq_true rfl) (by kernel_rfl) (Eq.mpr (scan_named_eq a0 w R) h)
noncomputable def scan_letter_b : Code := (Tryd.f28.body).getD .skip
noncomputable def scan_letter_F (a0 : Value) (w : World) (R : Value → World → Prop) : Prop :=
  BK Tryd.prog .geq 21 (.tmp 3) (.const (Value.int .i32 97)) a0 (Value.int .i32 97) w fun x4 w => MG Tryd.prog x4 true a0 w fun x6 w => BG Tryd.prog x4 true .leq 21 (.tmp 6) (.const (Value.int .i32 122)) x6 (Value.int .i32 122) w fun x7 w => PK Tryd.prog x4 x7 (Value.bool false) w fun x8 w => R x8 w
theorem scan_letter_eq (a0 : Value) (w : World) (R : Value → World → Prop) : sx fn_ Tryd.prog 9 scan_letter_b (retK Tryd.prog Tryd.f28.results.toList R) (rho0 [a0]) w = scan_letter_F a0 w R := by kernel_rfl
theorem scan_letter_calls {a0 : Value} {w : World} {R : Value → World → Prop} (h : scan_letter_F a0 w R) : Calls Tryd.prog 28 #[a0] w fun e w' => ∃ v, e = .returned v ∧ R v w' :=
  Go.X.calls_of_sx (n := 9) (c := scan_letter_b) Tryd.func28 (by kernel_rfl) (by kernel_rfl) (Nat.le_of_ble_eq_true rfl) (by kernel_rfl) (Eq.mpr (scan_letter_eq a0 w R) h)
noncomputable def scan_Word_b : Code := (Tryd.f29.body).getD .skip
noncomputable def scan_Word_F (a0 : Value) (w : World) (R : Value → World → Prop) : Prop :=
  VK Tryd.prog (Instr.sliceAt 92 (Value.pointer (some ⟨0, 0, none⟩)) none none none) w fun x3 w => CK Tryd.prog (Value.func (Fn.func 53) #[] #[]) [x3, a0] w fun x5 w => R x5 w
theorem scan_Word_eq (a0 : Value) (w : World) (R : Value → World → Prop) : sx fn_ Tryd.prog 6 scan_Word_b (retK Tryd.prog Tryd.f29.results.toList R) (rho0 [a0]) w = scan_Word_F a0 w R := by kernel_rfl
theorem scan_Word_calls {a0 : Value} {w : World} {R : Value → World → Prop} (h : scan_Word_F a0 w R) : Calls Tryd.prog 29 #[a0] w fun e w' => ∃ v, e = .returned v ∧ R v w' :=
  Go.X.calls_of_sx (n := 6) (c := scan_Word_b) Tryd.func29 (by kernel_rfl) (by kernel_rfl) (Nat.le_of_ble_eq_true rfl) (by kernel_rfl) (Eq.mpr (scan_Word_eq a0 w R) h)
noncomputable def tree_deep_b : Code := (Tryd.f30.body).getD .skip
noncomputable def tree_deep_L0 : Code := cAt [1, 0, 1, 0, 0] tree_deep_b
noncomputable def tree_deep_R1 : Code := cAt [1, 1] tree_deep_b
noncomputable def tree_deep_L2 : Code := cAt [1, 0, 1, 0, 0, 1, 1, 0, 0, 1, 0, 1, 0, 0] tree_deep_b
noncomputable def tree_deep_R3 : Code := cAt [1, 0, 1, 0, 0, 1, 1, 0, 0, 1, 1] tree_deep_b
noncomputable def tree_deep_R4 : Code := cAt [1, 0, 1, 0, 0, 1, 1, 1] tree_deep_b
noncomputable def tree_deep_R5 : Code := cAt [1, 1, 1] tree_deep_b
noncomputable def tree_deep_L6 : Code := cAt [1, 0, 1, 0, 0, 1, 1, 0, 0, 1, 1, 1, 0, 0] tree_deep_b
noncomputable def tree_deep_L0_F (z : At) (K : Exit → Sl → World → Prop) (ρ : Sl) (w : World) : Prop :=
  BK Tryd.prog .lss 3 (.tmp 14) (.tmp 13) (ρ 14) (ρ 13) w fun x15 w => CondK x15 (VK Tryd.prog (Instr.indexAt 23 (ρ 12) (ρ 14)) w fun x16 w => VK Tryd.prog (Instr.loadAt 25 x16) w fun x17 w => VK Tryd.prog (Instr.alloc 25 true (.tuple #[])) w fun x5 w => UK Tryd.prog (Instr.storeAt 25 x5 x17) w fun _ w => VK Tryd.prog (Instr.fieldAt 25 x5 5) w fun x18 w => VK Tryd.prog (Instr.loadAt 22 x18) w fun x19 w => IK Tryd.prog .len #[22] 3 [false] [x19] w fun x20 w => W z Tryd.prog 58 (Code.loop tree_deep_L2) (blkK 2 (seqK (sx z Tryd.prog 58 tree_deep_R3 (blkK 1 (seqK (sx z Tryd.prog 58 tree_deep_R4 K) K))) (blkK 1 (seqK (sx z Tryd.prog 58 tree_deep_R4 K) K)))) (up (up (up (up (up (up (up (up ρ 15 x15) 16 x16) 17 x17) 5 x5) 18 x18) 19 x19) 20 x20) 21 (Value.int .i64 0)) w) (K (.exit 0) (up ρ 15 x15) w)
theorem tree_deep_L0_eq (z : At) (K : Exit → Sl → World → Prop) (ρ : Sl) (w : World) : sx z Tryd.prog 58 tree_deep_L0 K ρ w = tree_deep_L0_F z K ρ w := by kernel_rfl
theorem tree_deep_L0_ok : dstOk 58 tree_deep_L0 = true := by kernel_rfl
noncomputable def tree_deep_R1_F (z : At) (K : Exit → Sl → World → Prop) (ρ : Sl) (w : World) : Prop :=
  IK Tryd.prog .len #[23] 3 [false] [(ρ 0)] w fun x52 w => BK Tryd.prog .gtr 3 (.tmp 52) (.const (Value.int .i64 0)) x52 (Value.int .i64 0) w fun x53 w => CondK x53 (BK Tryd.prog .add 3 (.tmp 54) (.const (Value.int .i64 1)) (ρ 2) (Value.int .i64 1) w fun x55 w => sx z Tryd.prog 58 tree_deep_R5 K (up (up (up (up (up (up ρ 51 (ρ 0)) 52 x52) 53 x53) 54 (ρ 2)) 55 x55) 2 x55) w) (sx z Tryd.prog 58 tree_deep_R5 K (up (up (up ρ 51 (ρ 0)) 52 x52) 53 x53) w)
theorem tree_deep_R1_eq (z : At) (K : Exit → Sl → World → Prop) (ρ : Sl) (w : World) : sx z Tryd.prog 58 tree_deep_R1 K ρ w = tree_deep_R1_F z K ρ w := by kernel_rfl
noncomputable def tree_deep_L2_F (z : At) (K : Exit → Sl → World → Prop) (ρ : Sl) (w : World) : Prop :=
  BK Tryd.prog .lss 3 (.tmp 21) (.tmp 20) (ρ 21) (ρ 20) w fun x22 w => CondK x22 (VK Tryd.prog (Instr.indexAt 22 (ρ 19) (ρ 21)) w fun x23 w => VK Tryd.prog (Instr.loadAt 29 x23) w fun x24 w => VK Tryd.prog (Instr.alloc 29 true (.tuple #[])) w fun x7 w => UK Tryd.prog (Instr.storeAt 29 x7 x24) w fun _ w => VK Tryd.prog (Instr.loadAt 29 x7) w fun x26 w => CK Tryd.prog (Value.func (Fn.func 54) #[] #[]) [x26] w fun x27 w => IK Tryd.prog .max #[3, 3] 3 [false, false] [(ρ 3), x27] w fun x28 w => BK Tryd.prog .add 3 (.tmp 21) (.const (Value.int .i64 1)) (ρ 21) (Value.int .i64 1) w fun x29 w => K .normal (up (up (up (up (up (up (up (up (up (up (up ρ 22 x22) 23 x23) 24 x24) 7 x7) 25 (ρ 3)) 26 x26) 27 x27) 28 x28) 3 x28) 29 x29) 21 x29) w) (K (.exit 2) (up ρ 22 x22) w)
theorem tree_deep_L2_eq (z : At) (K : Exit → Sl → World → Prop) (ρ : Sl) (w : World) : sx z Tryd.prog 58 tree_deep_L2 K ρ w = tree_deep_L2_F z K ρ w := by kernel_rfl
theorem tree_deep_L2_ok : dstOk 58 tree_deep_L2 = true := by kernel_rfl
noncomputable def tree_deep_R3_F (z : At) (K : Exit → Sl → World → Prop) (ρ : Sl) (w : World) : Prop :=
  VK Tryd.prog (Instr.fieldAt 25 (ρ 5) 6) w fun x30 w => VK Tryd.prog (Instr.loadAt 23 x30) w fun x31 w => VK Tryd.prog (Instr.fieldAt 25 (ρ 5) 7) w fun x32 w => VK Tryd.prog (Instr.loadAt 23 x32) w fun x33 w => VK Tryd.prog (Instr.build 94 [(0, x31), (1, x33)].toArray) w fun x34 w => W z Tryd.prog 58 (Code.loop tree_deep_L6) (blkK 4 K) (up (up (up (up (up (up ρ 30 x30) 31 x31) 32 x32) 33 x33) 34 x34) 35 (Value.int .i64 0)) w
theorem tree_deep_R3_eq (z : At) (K : Exit → Sl → World → Prop) (ρ : Sl) (w : World) : sx z Tryd.prog 58 tree_deep_R3 K ρ w = tree_deep_R3_F z K ρ w := by kernel_rfl
noncomputable def tree_deep_R4_F (z : At) (K : Exit → Sl → World → Prop) (ρ : Sl) (w : World) : Prop :=
  BK Tryd.prog .add 3 (.tmp 14) (.const (Value.int .i64 1)) (ρ 14) (Value.int .i64 1) w fun x50 w => K .normal (up (up ρ 50 x50) 14 x50) w
theorem tree_deep_R4_eq (z : At) (K : Exit → Sl → World → Prop) (ρ : Sl) (w : World) : sx z Tryd.prog 58 tree_deep_R4 K ρ w = tree_deep_R4_F z K ρ w := by kernel_rfl
noncomputable def tree_deep_R5_F (z : At) (K : Exit → Sl → World → Prop) (ρ : Sl) (w : World) : Prop :=
  K .ret (up (up (up (up ρ 56 (ρ 2)) 57 (ρ 3)) 2 (ρ 2)) 3 (ρ 3)) w
theorem tree_deep_R5_eq (z : At) (K : Exit → Sl → World → Prop) (ρ : Sl) (w : World) : sx z Tryd.prog 58 tree_deep_R5 K ρ w = tree_deep_R5_F z K ρ w := by kernel_rfl
noncomputable def tree_deep_L6_F (z : At) (K : Exit → Sl → World → Prop) (ρ : Sl) (w : World) : Prop :=
  BK Tryd.prog .lss 3 (.tmp 35) (.const (Value.int .i64 2)) (ρ 35) (Value.int .i64 2) w fun x36 w => CondK x36 (VK Tryd.prog (Instr.index 94 (ρ 34) (ρ 35)) w fun x37 w => CK Tryd.prog (Value.func (Fn.func 30) #[] #[]) [x37] w fun x40 w => VK Tryd.prog (Instr.extract x40 0) w fun x41 w => VK Tryd.prog (Instr.extract x40 1) w fun x42 w => IK Tryd.prog .max #[3, 3] 3 [false, false] [(ρ 2), x41] w fun x45 w => IK Tryd.prog .max #[3, 3] 3 [false, false] [(ρ 3), x42] w fun x48 w => BK Tryd.prog .add 3 (.tmp 35) (.const (Value.int .i64 1)) (ρ 35) (Value.int .i64 1) w fun x49 w => K .normal (up (up (up (up (up (up (up (up (up (up (up (up (up (up (up (up (up (up (up (up ρ 36 x36) 37 x37) 9 x37) 39 x37) 40 x40) 38 x40) 41 x41) 42 x42) 10 x41) 11 x42) 43 (ρ 2)) 44 x41) 45 x45) 46 (ρ 3)) 47 x42) 48 x48) 2 x45) 3 x48) 49 x49) 35 x49) w) (K (.exit 4) (up ρ 36 x36) w)
theorem tree_deep_L6_eq (z : At) (K : Exit → Sl → World → Prop) (ρ : Sl) (w : World) : sx z Tryd.prog 58 tree_deep_L6 K ρ w = tree_deep_L6_F z K ρ w := by kernel_rfl
theorem tree_deep_L6_ok : dstOk 58 tree_deep_L6 = true := by kernel_rfl
noncomputable def tree_deep_F (a0 : Value) (w : World) (R : Value → World → Prop) : Prop :=
  IK Tryd.prog .len #[23] 3 [false] [a0] w fun x13 w => W fn_ Tryd.prog 58 (Code.loop tree_deep_L0) (blkK 0 (seqK (sx fn_ Tryd.prog 58 tree_deep_R1 (retK Tryd.prog [ResultVar.tmp 2, ResultVar.tmp 3] R)) (retK Tryd.prog [ResultVar.tmp 2, ResultVar.tmp 3] R))) (up (up (up (up (up (rho0 [a0]) 2 (Value.int .i64 0)) 3 (Value.int .i64 0)) 12 a0) 13 x13) 14 (Value.int .i64 0)) w
theorem tree_deep_eq (a0 : Value) (w : World) (R : Value → World → Prop) : sx fn_ Tryd.prog 58 tree_deep_b (retK Tryd.prog Tryd.f30.results.toList R) (rho0 [a0]) w = tree_deep_F a0 w R := by kernel_rfl
theorem tree_deep_calls {a0 : Value} {w : World} {R : Value → World → Prop} (h : tree_deep_F a0 w R) : Calls Tryd.prog 30 #[a0] w fun e w' => ∃ v, e = .returned v ∧ R v w' :=
  Go.X.calls_of_sx (n := 58) (c := tree_deep_b) Tryd.func30 (by kernel_rfl) (by kernel_rfl) (Nat.le_of_ble_eq_true rfl) (by kernel_rfl) (Eq.mpr (tree_deep_eq a0 w R) h)
noncomputable def slices_IndexFunc_tree_Decl_tree_Decl_b : Code := (Tryd.f31.body).getD .skip
noncomputable def slices_IndexFunc_tree_Decl_tree_Decl_L0 : Code := cAt [1, 0, 1, 0, 0] slices_IndexFunc_tree_Decl_tree_Decl_b
noncomputable def slices_IndexFunc_tree_Decl_tree_Decl_R1 : Code := cAt [1, 1] slices_IndexFunc_tree_Decl_tree_Decl_b
noncomputable def slices_IndexFunc_tree_Decl_tree_Decl_L0_F (z : At) (K : Exit → Sl → World → Prop) (ρ : Sl) (w : World) : Prop :=
  BK Tryd.prog .lss 3 (.tmp 8) (.tmp 7) (ρ 8) (ρ 7) w fun x9 w => CondK x9 (VK Tryd.prog (Instr.indexAt 32 (ρ 0) (ρ 8)) w fun x14 w => VK Tryd.prog (Instr.loadAt 43 x14) w fun x15 w => CK Tryd.prog (ρ 1) [x15] w fun x16 w => CondK x16 (K .ret (up (up (up (up (up (up (up (up (up (up (up ρ 9 x9) 10 (ρ 8)) 5 (ρ 8)) 11 (ρ 1)) 12 (ρ 0)) 13 (ρ 8)) 14 x14) 15 x15) 16 x16) 17 (ρ 8)) 4 (ρ 8)) w) (BK Tryd.prog .add 3 (.tmp 8) (.const (Value.int .i64 1)) (ρ 8) (Value.int .i64 1) w fun x18 w => K .normal (up (up (up (up (up (up (up (up (up (up (up ρ 9 x9) 10 (ρ 8)) 5 (ρ 8)) 11 (ρ 1)) 12 (ρ 0)) 13 (ρ 8)) 14 x14) 15 x15) 16 x16) 18 x18) 8 x18) w)) (K (.exit 0) (up ρ 9 x9) w)
theorem slices_IndexFunc_tree_Decl_tree_Decl_L0_eq (z : At) (K : Exit → Sl → World → Prop) (ρ : Sl) (w : World) : sx z Tryd.prog 19 slices_IndexFunc_tree_Decl_tree_Decl_L0 K ρ w = slices_IndexFunc_tree_Decl_tree_Decl_L0_F z K ρ w := by kernel_rfl
theorem slices_IndexFunc_tree_Decl_tree_Decl_L0_ok : dstOk 19 slices_IndexFunc_tree_Decl_tree_Decl_L0 = true := by kernel_rfl
noncomputable def slices_IndexFunc_tree_Decl_tree_Decl_R1_F (z : At) (K : Exit → Sl → World → Prop) (ρ : Sl) (w : World) : Prop :=
  K .ret (up ρ 4 (Value.int .i64 (-1))) w
theorem slices_IndexFunc_tree_Decl_tree_Decl_R1_eq (z : At) (K : Exit → Sl → World → Prop) (ρ : Sl) (w : World) : sx z Tryd.prog 19 slices_IndexFunc_tree_Decl_tree_Decl_R1 K ρ w = slices_IndexFunc_tree_Decl_tree_Decl_R1_F z K ρ w := by kernel_rfl
noncomputable def slices_IndexFunc_tree_Decl_tree_Decl_F (a0 a1 : Value) (w : World) (R : Value → World → Prop) : Prop :=
  IK Tryd.prog .len #[32] 3 [false] [a0] w fun x7 w => W fn_ Tryd.prog 19 (Code.loop slices_IndexFunc_tree_Decl_tree_Decl_L0) (blkK 0 (seqK (sx fn_ Tryd.prog 19 slices_IndexFunc_tree_Decl_tree_Decl_R1 (retK Tryd.prog [ResultVar.tmp 4] R)) (retK Tryd.prog [ResultVar.tmp 4] R))) (up (up (up (up (rho0 [a0, a1]) 4 (Value.int .i64 0)) 6 a0) 7 x7) 8 (Value.int .i64 0)) w
theorem slices_IndexFunc_tree_Decl_tree_Decl_eq (a0 a1 : Value) (w : World) (R : Value → World → Prop) : sx fn_ Tryd.prog 19 slices_IndexFunc_tree_Decl_tree_Decl_b (retK Tryd.prog Tryd.f31.results.toList R) (rho0 [a0, a1]) w = slices_IndexFunc_tree_Decl_tree_Decl_F a0 a1 w R := by kernel_rfl
theorem slices_IndexFunc_tree_Decl_tree_Decl_calls {a0 a1 : Value} {w : World} {R : Value → World → Prop} (h : slices_IndexFunc_tree_Decl_tree_Decl_F a0 a1 w R) : Calls Tryd.prog 31 #[a0, a1] w fun e w' => ∃ v, e = .returned v ∧ R v w' :=
  Go.X.calls_of_sx (n := 19) (c := slices_IndexFunc_tree_Decl_tree_Decl_b) Tryd.func31 (by kernel_rfl) (by kernel_rfl) (Nat.le_of_ble_eq_true rfl) (by kernel_rfl) (Eq.mpr (slices_IndexFunc_tree_Decl_tree_Decl_eq a0 a1 w R) h)
noncomputable def slices_ContainsFunc_tree_Stmt_tree_Stmt_b : Code := (Tryd.f32.body).getD .skip
noncomputable def slices_ContainsFunc_tree_Stmt_tree_Stmt_F (a0 a1 : Value) (w : World) (R : Value → World → Prop) : Prop :=
  CK Tryd.prog (Value.func (Fn.func 55) #[] #[]) [a0, a1] w fun x7 w => BK Tryd.prog .geq 3 (.tmp 7) (.const (Value.int .i64 0)) x7 (Value.int .i64 0) w fun x8 w => R x8 w
theorem slices_ContainsFunc_tree_Stmt_tree_Stmt_eq (a0 a1 : Value) (w : World) (R : Value → World → Prop) : sx fn_ Tryd.prog 9 slices_ContainsFunc_tree_Stmt_tree_Stmt_b (retK Tryd.prog Tryd.f32.results.toList R) (rho0 [a0, a1]) w = slices_ContainsFunc_tree_Stmt_tree_Stmt_F a0 a1 w R := by kernel_rfl
theorem slices_ContainsFunc_tree_Stmt_tree_Stmt_calls {a0 a1 : Value} {w : World} {R : Value → World → Prop} (h : slices_ContainsFunc_tree_Stmt_tree_Stmt_F a0 a1 w R) : Calls Tryd.prog 32 #[a0, a1] w fun e w' => ∃ v, e = .returned v ∧ R v w' :=
  Go.X.calls_of_sx (n := 9) (c := slices_ContainsFunc_tree_Stmt_tree_Stmt_b) Tryd.func32 (by kernel_rfl) (by kernel_rfl) (Nat.le_of_ble_eq_true rfl) (by kernel_rfl) (Eq.mpr (slices_ContainsFunc_tree_Stmt_tree_Stmt_eq a0 a1 w R) h)
noncomputable def tree_mayStmts_1_b : Code := (Tryd.f33.body).getD .skip
noncomputable def tree_mayStmts_1_F (a0 : Value) (w : World) (R : Value → World → Prop) : Prop :=
  VK Tryd.prog (Instr.box 25 a0) w fun x1 w => VK Tryd.prog (Instr.loadAt 25 x1) w fun x3 w => CK Tryd.prog (Value.func (Fn.func 34) #[] #[]) [x3] w fun x4 w => VK Tryd.prog (Op.unary UnOp.not x4) w fun x5 w => R x5 w
theorem tree_mayStmts_1_eq (a0 : Value) (w : World) (R : Value → World → Prop) : sx fn_ Tryd.prog 6 tree_mayStmts_1_b (retK Tryd.prog Tryd.f33.results.toList R) (rho0 [a0]) w = tree_mayStmts_1_F a0 w R := by kernel_rfl
theorem tree_mayStmts_1_calls {a0 : Value} {w : World} {R : Value → World → Prop} (h : tree_mayStmts_1_F a0 w R) : Calls Tryd.prog 33 #[a0] w fun e w' => ∃ v, e = .returned v ∧ R v w' :=
  Go.X.calls_of_sx (n := 6) (c := tree_mayStmts_1_b) Tryd.func33 (by kernel_rfl) (by kernel_rfl) (Nat.le_of_ble_eq_true rfl) (by kernel_rfl) (Eq.mpr (tree_mayStmts_1_eq a0 w R) h)
noncomputable def tree_mayStmt_b : Code := (Tryd.f34.body).getD .skip
noncomputable def tree_mayStmt_R0 : Code := cAt [1, 1, 1, 1] tree_mayStmt_b
noncomputable def tree_mayStmt_R1 : Code := cAt [1, 1, 1, 0, 1, 0, 1] tree_mayStmt_b
noncomputable def tree_mayStmt_R2 : Code := cAt [1, 1, 1, 0, 1, 0, 1, 1, 1, 1, 1] tree_mayStmt_b
noncomputable def tree_mayStmt_R0_FR (R : Value → World → Prop) (ρ : Sl) (w : World) : Prop :=
  VK Tryd.prog (Instr.fieldAt 25 (ρ 1) 3) w fun x42_1 w => VK Tryd.prog (Instr.loadAt 9 x42_1) w fun x43_1 w => BK Tryd.prog BinOp.neq 9 (Operand.tmp 43) (Operand.const (Value.string { data := #[] })) x43_1 (Value.string { data := #[] }) w fun x44_1 w => BK Tryd.prog BinOp.eql 4 (Operand.tmp 41) (Operand.tmp 44) (ρ 3) x44_1 w fun x45_1 w => MG Tryd.prog x45_1 true (ρ 3) w fun x47_1 w => VG Tryd.prog x45_1 true (Op.unary UnOp.not x47_1) w fun x48_1 w => MG Tryd.prog x45_1 true x48_1 w fun x49_1 w => VG Tryd.prog x49_1 false (Instr.fieldAt 25 (ρ 1) 3) w fun x50_1 w => VG Tryd.prog x49_1 false (Instr.loadAt 9 x50_1) w fun x51_1 w => CG Tryd.prog x49_1 false (Value.func (Fn.func 15) #[] #[]) [x51_1] w fun x52_1 w => PG Tryd.prog x45_1 true x49_1 (Value.bool true) x52_1 w fun x53_1 w => PK Tryd.prog x45_1 x53_1 (Value.bool false) w fun x54_1 w => VG Tryd.prog x54_1 true (Instr.fieldAt 25 (ρ 1) 5) w fun x56_1 w => VG Tryd.prog x54_1 true (Instr.loadAt 22 x56_1) w fun x57_1 w => IG Tryd.prog x54_1 true Builtin.len #[22] 3 [false] [x57_1] w fun x58_1 w => MG Tryd.prog x54_1 true (ρ 4) w fun x59_1 w => BG Tryd.prog x54_1 true BinOp.geq 3 (Operand.tmp 58) (Operand.tmp 59) x58_1 x59_1 w fun x60_1 w => PK Tryd.prog x54_1 x60_1 (Value.bool false) w fun x61_1 w => VG Tryd.prog x61_1 true (Instr.fieldAt 25 (ρ 1) 5) w fun x63_1 w => VG Tryd.prog x61_1 true (Instr.loadAt 22 x63_1) w fun x64_1 w => IG Tryd.prog x61_1 true Builtin.len #[22] 3 [false] [x64_1] w fun x65_1 w => MG Tryd.prog x61_1 true (ρ 5) w fun x66_1 w => BG Tryd.prog x61_1 true BinOp.leq 3 (Operand.tmp 65) (Operand.tmp 66) x65_1 x66_1 w fun x67_1 w => PK Tryd.prog x61_1 x67_1 (Value.bool false) w fun x68_1 w => VG Tryd.prog x68_1 true (Instr.fieldAt 25 (ρ 1) 5) w fun x70_1 w => VG Tryd.prog x68_1 true (Instr.loadAt 22 x70_1) w fun x71_1 w => CG Tryd.prog x68_1 true (Value.func (Fn.func 57) #[] #[]) [x71_1, (Value.func (Fn.func 58) #[] #[])] w fun x72_1 w => VG Tryd.prog x68_1 true (Op.unary UnOp.not x72_1) w fun x73_1 w => PK Tryd.prog x68_1 x73_1 (Value.bool false) w fun x74_1 w => VG Tryd.prog x74_1 true (Instr.fieldAt 25 (ρ 1) 0) w fun x76_1 w => VG Tryd.prog x74_1 true (Instr.loadAt 5 x76_1) w fun x77_1 w => BG Tryd.prog x74_1 true BinOp.eql 5 (Operand.tmp 77) (Operand.const (Value.int IntKind.u8 8)) x77_1 (Value.int IntKind.u8 8) w fun x78_1 w => MG Tryd.prog x74_1 true x78_1 w fun x79_1 w => VG Tryd.prog x79_1 false (Instr.fieldAt 25 (ρ 1) 1) w fun x80_1 w => VG Tryd.prog x79_1 false (Instr.loadAt 5 x80_1) w fun x81_1 w => BG Tryd.prog x79_1 false BinOp.eql 5 (Operand.tmp 81) (Operand.const (Value.int IntKind.u8 0)) x81_1 (Value.int IntKind.u8 0) w fun x82_1 w => PG Tryd.prog x74_1 true x79_1 (Value.bool true) x82_1 w fun x83_1 w => PK Tryd.prog x74_1 x83_1 (Value.bool false) w fun x84_1 w => VG Tryd.prog x84_1 true (Instr.fieldAt 25 (ρ 1) 2) w fun x86_1 w => VG Tryd.prog x84_1 true (Instr.loadAt 5 x86_1) w fun x87_1 w => BG Tryd.prog x84_1 true BinOp.eql 5 (Operand.tmp 87) (Operand.const (Value.int IntKind.u8 0)) x87_1 (Value.int IntKind.u8 0) w fun x88_1 w => MG Tryd.prog x84_1 true x88_1 w fun x89_1 w => VG Tryd.prog x89_1 false (Instr.fieldAt 25 (ρ 1) 1) w fun x90_1 w => VG Tryd.prog x89_1 false (Instr.loadAt 5 x90_1) w fun x91_1 w => CG Tryd.prog x89_1 false (Value.func (Fn.func 60) #[] #[]) [x91_1] w fun x92_1 w => MG Tryd.prog x89_1 false x92_1 w fun x93_1 w => VG Tryd.prog x93_1 true (Instr.fieldAt 25 (ρ 1) 2) w fun x94_1 w => VG Tryd.prog x93_1 true (Instr.loadAt 5 x94_1) w fun x95_1 w => BG Tryd.prog x93_1 true BinOp.leq 5 (Operand.tmp 95) (Operand.const (Value.int IntKind.u8 2)) x95_1 (Value.int IntKind.u8 2) w fun x96_1 w => PG Tryd.prog x89_1 false x93_1 x96_1 (Value.bool false) w fun x97_1 w => PG Tryd.prog x84_1 true x89_1 (Value.bool true) x97_1 w fun x98_1 w => PK Tryd.prog x84_1 x98_1 (Value.bool false) w fun x99_1 w => VG Tryd.prog x99_1 true (Instr.fieldAt 25 (ρ 1) 4) w fun x101_1 w => VG Tryd.prog x99_1 true (Instr.loadAt 3 x101_1) w fun x102_1 w => BG Tryd.prog x99_1 true BinOp.geq 3 (Operand.tmp 102) (Operand.const (Value.int IntKind.i64 0)) x102_1 (Value.int IntKind.i64 0) w fun x103_1 w => PK Tryd.prog x99_1 x103_1 (Value.bool false) w fun x104_1 w => VG Tryd.prog x104_1 true (Instr.fieldAt 25 (ρ 1) 4) w fun x106_1 w => VG Tryd.prog x104_1 true (Instr.loadAt 3 x106_1) w fun x107_1 w => BG Tryd.prog x104_1 true BinOp.leq 3 (Operand.tmp 107) (Operand.const (Value.int IntKind.i64 1000)) x107_1 (Value.int IntKind.i64 1000) w fun x108_1 w => PK Tryd.prog x104_1 x108_1 (Value.bool false) w fun x109_1 w => VG Tryd.prog x109_1 true (Instr.fieldAt 25 (ρ 1) 0) w fun x111_1 w => VG Tryd.prog x109_1 true (Instr.loadAt 5 x111_1) w fun x112_1 w => BG Tryd.prog x109_1 true BinOp.eql 5 (Operand.tmp 112) (Operand.const (Value.int IntKind.u8 5)) x112_1 (Value.int IntKind.u8 5) w fun x113_1 w => MG Tryd.prog x109_1 true x113_1 w fun x114_1 w => VG Tryd.prog x114_1 false (Instr.fieldAt 25 (ρ 1) 4) w fun x115_1 w => VG Tryd.prog x114_1 false (Instr.loadAt 3 x115_1) w fun x116_1 w => BG Tryd.prog x114_1 false BinOp.eql 3 (Operand.tmp 116) (Operand.const (Value.int IntKind.i64 0)) x116_1 (Value.int IntKind.i64 0) w fun x117_1 w => PG Tryd.prog x109_1 true x114_1 (Value.bool true) x117_1 w fun x118_1 w => PK Tryd.prog x109_1 x118_1 (Value.bool false) w fun x119_1 w => VG Tryd.prog x119_1 true (Instr.fieldAt 25 (ρ 1) 0) w fun x121_1 w => VG Tryd.prog x119_1 true (Instr.loadAt 5 x121_1) w fun x122_1 w => BG Tryd.prog x119_1 true BinOp.eql 5 (Operand.tmp 122) (Operand.const (Value.int IntKind.u8 3)) x122_1 (Value.int IntKind.u8 3) w fun x123_1 w => MG Tryd.prog x119_1 true x123_1 w fun x124_1 w => VG Tryd.prog x124_1 false (Instr.fieldAt 25 (ρ 1) 7) w fun x125_1 w => VG Tryd.prog x124_1 false (Instr.loadAt 23 x125_1) w fun x126_1 w => IG Tryd.prog x124_1 false Builtin.len #[23] 3 [false] [x126_1] w fun x127_1 w => BG Tryd.prog x124_1 false BinOp.eql 3 (Operand.tmp 127) (Operand.const (Value.int IntKind.i64 0)) x127_1 (Value.int IntKind.i64 0) w fun x128_1 w => PG Tryd.prog x119_1 true x124_1 (Value.bool true) x128_1 w fun x129_1 w => PK Tryd.prog x119_1 x129_1 (Value.bool false) w fun x130_1 w => VG Tryd.prog x130_1 true (Instr.fieldAt 25 (ρ 1) 0) w fun x132_1 w => VG Tryd.prog x130_1 true (Instr.loadAt 5 x132_1) w fun x133_1 w => BG Tryd.prog x130_1 true BinOp.eql 5 (Operand.tmp 133) (Operand.const (Value.int IntKind.u8 3)) x133_1 (Value.int IntKind.u8 3) w fun x134_1 w => MG Tryd.prog x130_1 true x134_1 w fun x135_1 w => VG Tryd.prog x135_1 false (Instr.fieldAt 25 (ρ 1) 0) w fun x136_1 w => VG Tryd.prog x135_1 false (Instr.loadAt 5 x136_1) w fun x137_1 w => BG Tryd.prog x135_1 false BinOp.eql 5 (Operand.tmp 137) (Operand.const (Value.int IntKind.u8 4)) x137_1 (Value.int IntKind.u8 4) w fun x138_1 w => PG Tryd.prog x130_1 true x135_1 (Value.bool true) x138_1 w fun x139_1 w => MG Tryd.prog x130_1 true x139_1 w fun x140_1 w => VG Tryd.prog x140_1 false (Instr.fieldAt 25 (ρ 1) 0) w fun x141_1 w => VG Tryd.prog x140_1 false (Instr.loadAt 5 x141_1) w fun x142_1 w => BG Tryd.prog x140_1 false BinOp.eql 5 (Operand.tmp 142) (Operand.const (Value.int IntKind.u8 5)) x142_1 (Value.int IntKind.u8 5) w fun x143_1 w => PG Tryd.prog x130_1 true x140_1 (Value.bool true) x143_1 w fun x144_1 w => MG Tryd.prog x130_1 true x144_1 w fun x145_1 w => VG Tryd.prog x145_1 false (Instr.fieldAt 25 (ρ 1) 6) w fun x146_1 w => VG Tryd.prog x145_1 false (Instr.loadAt 23 x146_1) w fun x147_1 w => IG Tryd.prog x145_1 false Builtin.len #[23] 3 [false] [x147_1] w fun x148_1 w => BG Tryd.prog x145_1 false BinOp.eql 3 (Operand.tmp 148) (Operand.const (Value.int IntKind.i64 0)) x148_1 (Value.int IntKind.i64 0) w fun x149_1 w => PG Tryd.prog x130_1 true x145_1 (Value.bool true) x149_1 w fun x150_1 w => PK Tryd.prog x130_1 x150_1 (Value.bool false) w fun x151_1 w => VG Tryd.prog x151_1 true (Instr.fieldAt 25 (ρ 1) 6) w fun x153_1 w => VG Tryd.prog x151_1 true (Instr.loadAt 23 x153_1) w fun x154_1 w => CG Tryd.prog x151_1 true (Value.func (Fn.func 18) #[] #[]) [x154_1] w fun x155_1 w => PK Tryd.prog x151_1 x155_1 (Value.bool false) w fun x156_1 w => VG Tryd.prog x156_1 true (Instr.fieldAt 25 (ρ 1) 7) w fun x158_1 w => VG Tryd.prog x156_1 true (Instr.loadAt 23 x158_1) w fun x159_1 w => CG Tryd.prog x156_1 true (Value.func (Fn.func 18) #[] #[]) [x159_1] w fun x160_1 w => PK Tryd.prog x156_1 x160_1 (Value.bool false) w fun x161_1 w => R x161_1 w
theorem tree_mayStmt_R0_eqR (R : Value → World → Prop) (ρ : Sl) (w : World) : sx fn_ Tryd.prog 162 tree_mayStmt_R0 (retK Tryd.prog [ResultVar.tmp 2] R) ρ w = tree_mayStmt_R0_FR R ρ w := by kernel_rfl
noncomputable def tree_mayStmt_R1_F (z : At) (K : Exit → Sl → World → Prop) (ρ : Sl) (w : World) : Prop :=
  CondK (ρ 21) (K .normal (up (up ρ 4 (Value.int .i64 1)) 5 (Value.int .i64 1)) w) (BK Tryd.prog .eql 5 (.tmp 20) (.const (Value.int .u8 2)) (ρ 20) (Value.int .u8 2) w fun x27 w => CondK x27 (K .normal (up (up (up (up ρ 27 x27) 26 x27) 4 (Value.int .i64 2)) 5 (Value.int .i64 2)) w) (BK Tryd.prog .eql 5 (.tmp 20) (.const (Value.int .u8 5)) (ρ 20) (Value.int .u8 5) w fun x29 w => CondK x29 (sx z Tryd.prog 162 tree_mayStmt_R2 K (up (up (up (up ρ 27 x27) 26 x27) 29 x29) 28 x29) w) (BK Tryd.prog .eql 5 (.tmp 20) (.const (Value.int .u8 7)) (ρ 20) (Value.int .u8 7) w fun x30 w => sx z Tryd.prog 162 tree_mayStmt_R2 K (up (up (up (up (up (up ρ 27 x27) 26 x27) 29 x29) 28 x29) 30 x30) 28 x30) w)))
theorem tree_mayStmt_R1_eq (z : At) (K : Exit → Sl → World → Prop) (ρ : Sl) (w : World) : sx z Tryd.prog 162 tree_mayStmt_R1 K ρ w = tree_mayStmt_R1_F z K ρ w := by kernel_rfl
noncomputable def tree_mayStmt_R2_F (z : At) (K : Exit → Sl → World → Prop) (ρ : Sl) (w : World) : Prop :=
  CondK (ρ 28) (K .normal ρ w) (BK Tryd.prog .eql 5 (.tmp 20) (.const (Value.int .u8 8)) (ρ 20) (Value.int .u8 8) w fun x32 w => CondK x32 (VK Tryd.prog (Instr.fieldAt 25 (ρ 1) 1) w fun x34 w => VK Tryd.prog (Instr.loadAt 5 x34) w fun x35 w => CK Tryd.prog (Value.func (Fn.func 56) #[] #[]) [x35] w fun x36 w => VK Tryd.prog (Instr.extract x36 0) w fun x37 w => VK Tryd.prog (Instr.extract x36 1) w fun x38 w => BK Tryd.prog .eql 3 (.tmp 39) (.const (Value.int .i64 0)) x38 (Value.int .i64 0) w fun x40 w => CondK x40 (K .ret (up (up (up (up (up (up (up (up (up (up (up (up (up ρ 32 x32) 31 x32) 34 x34) 35 x35) 36 x36) 33 x36) 37 x37) 38 x38) 4 x37) 5 x38) 39 x38) 40 x40) 2 (Value.bool false)) w) (K .normal (up (up (up (up (up (up (up (up (up (up (up (up ρ 32 x32) 31 x32) 34 x34) 35 x35) 36 x36) 33 x36) 37 x37) 38 x38) 4 x37) 5 x38) 39 x38) 40 x40) w)) (K .ret (up (up (up ρ 32 x32) 31 x32) 2 (Value.bool false)) w))
theorem tree_mayStmt_R2_eq (z : At) (K : Exit → Sl → World → Prop) (ρ : Sl) (w : World) : sx z Tryd.prog 162 tree_mayStmt_R2 K ρ w = tree_mayStmt_R2_F z K ρ w := by kernel_rfl
noncomputable def tree_mayStmt_F (a0 : Value) (w : World) (R : Value → World → Prop) : Prop :=
  VK Tryd.prog (Instr.box 25 a0) w fun x1 w => VK Tryd.prog (Instr.fieldAt 25 x1 0) w fun x6 w => VK Tryd.prog (Instr.loadAt 5 x6) w fun x7 w => BK Tryd.prog .eql 5 (.tmp 7) (.const (Value.int .u8 1)) x7 (Value.int .u8 1) w fun x8 w => VG Tryd.prog x8 false (Instr.fieldAt 25 x1 0) w fun x10 w => VG Tryd.prog x8 false (Instr.loadAt 5 x10) w fun x11 w => BG Tryd.prog x8 false .eql 5 (.tmp 11) (.const (Value.int .u8 2)) x11 (Value.int .u8 2) w fun x12 w => PK Tryd.prog x8 (Value.bool true) x12 w fun x13 w => VG Tryd.prog x13 false (Instr.fieldAt 25 x1 0) w fun x15 w => VG Tryd.prog x13 false (Instr.loadAt 5 x15) w fun x16 w => BG Tryd.prog x13 false .eql 5 (.tmp 16) (.const (Value.int .u8 5)) x16 (Value.int .u8 5) w fun x17 w => PK Tryd.prog x13 (Value.bool true) x17 w fun x18 w => VK Tryd.prog (Instr.fieldAt 25 x1 0) w fun x19 w => VK Tryd.prog (Instr.loadAt 5 x19) w fun x20 w => BK Tryd.prog .eql 5 (.tmp 20) (.const (Value.int .u8 1)) x20 (Value.int .u8 1) w fun x22 w => CondK x22 (sx fn_ Tryd.prog 162 tree_mayStmt_R1 (blkK 0 (seqK (sx fn_ Tryd.prog 162 tree_mayStmt_R0 (retK Tryd.prog [ResultVar.tmp 2] R)) (retK Tryd.prog [ResultVar.tmp 2] R))) (up (up (up (up (up (up (up (up (up (up (up (up (up (up (up (up (up (up (up (up (up (up (rho0 [a0]) 1 x1) 2 (Value.bool false)) 6 x6) 7 x7) 8 x8) 9 x8) 10 x10) 11 x11) 12 x12) 13 x13) 14 x13) 15 x15) 16 x16) 17 x17) 18 x18) 3 x18) 4 (Value.int .i64 0)) 5 (Value.int .i64 0)) 19 x19) 20 x20) 22 x22) 21 x22) w) (BK Tryd.prog .eql 5 (.tmp 20) (.const (Value.int .u8 3)) x20 (Value.int .u8 3) w fun x23 w => CondK x23 (sx fn_ Tryd.prog 162 tree_mayStmt_R1 (blkK 0 (seqK (sx fn_ Tryd.prog 162 tree_mayStmt_R0 (retK Tryd.prog [ResultVar.tmp 2] R)) (retK Tryd.prog [ResultVar.tmp 2] R))) (up (up (up (up (up (up (up (up (up (up (up (up (up (up (up (up (up (up (up (up (up (up (up (up (rho0 [a0]) 1 x1) 2 (Value.bool false)) 6 x6) 7 x7) 8 x8) 9 x8) 10 x10) 11 x11) 12 x12) 13 x13) 14 x13) 15 x15) 16 x16) 17 x17) 18 x18) 3 x18) 4 (Value.int .i64 0)) 5 (Value.int .i64 0)) 19 x19) 20 x20) 22 x22) 21 x22) 23 x23) 21 x23) w) (BK Tryd.prog .eql 5 (.tmp 20) (.const (Value.int .u8 4)) x20 (Value.int .u8 4) w fun x24 w => CondK x24 (sx fn_ Tryd.prog 162 tree_mayStmt_R1 (blkK 0 (seqK (sx fn_ Tryd.prog 162 tree_mayStmt_R0 (retK Tryd.prog [ResultVar.tmp 2] R)) (retK Tryd.prog [ResultVar.tmp 2] R))) (up (up (up (up (up (up (up (up (up (up (up (up (up (up (up (up (up (up (up (up (up (up (up (up (up (up (rho0 [a0]) 1 x1) 2 (Value.bool false)) 6 x6) 7 x7) 8 x8) 9 x8) 10 x10) 11 x11) 12 x12) 13 x13) 14 x13) 15 x15) 16 x16) 17 x17) 18 x18) 3 x18) 4 (Value.int .i64 0)) 5 (Value.int .i64 0)) 19 x19) 20 x20) 22 x22) 21 x22) 23 x23) 21 x23) 24 x24) 21 x24) w) (BK Tryd.prog .eql 5 (.tmp 20) (.const (Value.int .u8 6)) x20 (Value.int .u8 6) w fun x25 w => sx fn_ Tryd.prog 162 tree_mayStmt_R1 (blkK 0 (seqK (sx fn_ Tryd.prog 162 tree_mayStmt_R0 (retK Tryd.prog [ResultVar.tmp 2] R)) (retK Tryd.prog [ResultVar.tmp 2] R))) (up (up (up (up (up (up (up (up (up (up (up (up (up (up (up (up (up (up (up (up (up (up (up (up (up (up (up (up (rho0 [a0]) 1 x1) 2 (Value.bool false)) 6 x6) 7 x7) 8 x8) 9 x8) 10 x10) 11 x11) 12 x12) 13 x13) 14 x13) 15 x15) 16 x16) 17 x17) 18 x18) 3 x18) 4 (Value.int .i64 0)) 5 (Value.int .i64 0)) 19 x19) 20 x20) 22 x22) 21 x22) 23 x23) 21 x23) 24 x24) 21 x24) 25 x25) 21 x25) w)))
theorem tree_mayStmt_eq (a0 : Value) (w : World) (R : Value → World → Prop) : sx fn_ Tryd.prog 162 tree_mayStmt_b (retK Tryd.prog Tryd.f34.results.toList R) (rho0 [a0]) w = tree_mayStmt_F a0 w R := by kernel_rfl
theorem tree_mayStmt_calls {a0 : Value} {w : World} {R : Value → World → Prop} (h : tree_mayStmt_F a0 w R) : Calls Tryd.prog 34 #[a0] w fun e w' => ∃ v, e = .returned v ∧ R v w' :=
  Go.X.calls_of_sx (n := 162) (c := tree_mayStmt_b) Tryd.func34 (by kernel_rfl) (by kernel_rfl) (Nat.le_of_ble_eq_true rfl) (by kernel_rfl) (Eq.mpr (tree_mayStmt_eq a0 w R) h)
noncomputable def dispatcherref02_DeepStmts_b : Code := (Tryd.f72.body).getD .skip
noncomputable def dispatcherref02_DeepStmts_L0 : Code := cAt [1, 1, 0, 1, 0, 0] dispatcherref02_DeepStmts_b
noncomputable def dispatcherref02_DeepStmts_R1 : Code := cAt [1, 1, 1] dispatcherref02_DeepStmts_b
noncomputable def dispatcherref02_DeepStmts_R2 : Code := cAt [1, 1, 0, 1, 0, 0, 1, 0, 0, 0] dispatcherref02_DeepStmts_b
noncomputable def dispatcherref02_DeepStmts_R3 : Code := cAt [1, 1, 0, 1, 0, 0, 1, 0, 0, 1] dispatcherref02_DeepStmts_b
noncomputable def dispatcherref02_DeepStmts_R4 : Code := cAt [1, 1, 0, 1, 0, 0, 1, 1] dispatcherref02_DeepStmts_b
noncomputable def dispatcherref02_DeepStmts_L5 : Code := cAt [1, 1, 0, 1, 0, 0, 1, 0, 0, 1, 1, 0, 0] dispatcherref02_DeepStmts_b
noncomputable def dispatcherref02_DeepStmts_L0_F (z : At) (K : Exit → Sl → World → Prop) (ρ : Sl) (w : World) : Prop :=
  IK Tryd.prog .len #[23] 3 [false] [(ρ 0)] w fun x10 w => BK Tryd.prog .lss 3 (.tmp 8) (.tmp 10) (ρ 6) x10 w fun x11 w => CondK x11 (W z Tryd.prog 55 dispatcherref02_DeepStmts_R2 (seqK (sx z Tryd.prog 55 dispatcherref02_DeepStmts_R3 (blkK 1 (seqK (sx z Tryd.prog 55 dispatcherref02_DeepStmts_R4 K) K))) (blkK 1 (seqK (sx z Tryd.prog 55 dispatcherref02_DeepStmts_R4 K) K))) (up (up (up (up ρ 8 (ρ 6)) 9 (ρ 0)) 10 x10) 11 x11) w) (K (.exit 0) (up (up (up (up ρ 8 (ρ 6)) 9 (ρ 0)) 10 x10) 11 x11) w)
theorem dispatcherref02_DeepStmts_L0_eq (z : At) (K : Exit → Sl → World → Prop) (ρ : Sl) (w : World) : sx z Tryd.prog 55 dispatcherref02_DeepStmts_L0 K ρ w = dispatcherref02_DeepStmts_L0_F z K ρ w := by kernel_rfl
theorem dispatcherref02_DeepStmts_L0_ok : dstOk 55 dispatcherref02_DeepStmts_L0 = true := by kernel_rfl
noncomputable def dispatcherref02_DeepStmts_R1_F (z : At) (K : Exit → Sl → World → Prop) (ρ : Sl) (w : World) : Prop :=
  K .ret (up (up ρ 54 (ρ 5)) 4 (ρ 5)) w
theorem dispatcherref02_DeepStmts_R1_eq (z : At) (K : Exit → Sl → World → Prop) (ρ : Sl) (w : World) : sx z Tryd.prog 55 dispatcherref02_DeepStmts_R1 K ρ w = dispatcherref02_DeepStmts_R1_F z K ρ w := by kernel_rfl
noncomputable def dispatcherref02_DeepStmts_R2_ops : Array Oper := opsOf dispatcherref02_DeepStmts_R2
def dispatcherref02_DeepStmts_R2_Q (C : World → Prop) (K : Exit → Sl → World → Prop) (ρ : Sl) : Prop :=
  QK Tryd.prog C (do pure (Next.value (← Instr.indexAt 23 (ρ 0) (ρ 6)))) fun x18 => QK Tryd.prog C (do pure (Next.value (← Instr.fieldAt 25 x18 6))) fun x19 => QK Tryd.prog C (do pure (Next.value (← Instr.loadAt 23 x19))) fun x20 => QK Tryd.prog C (do pure (Next.value (← (do eqGuard BinOp.add 3 (Operand.tmp 21) (Operand.const (Value.int IntKind.i64 1)) (ρ 1) (Value.int IntKind.i64 1); binOp BinOp.add 3 (ρ 1) (Value.int IntKind.i64 1))))) fun x22 => QK Tryd.prog C (do let d ← Deferred.ofValue (Value.func (Fn.func 72) #[] #[]) [x20, x22].toArray; invoke d.target d.args) fun x23 => QK Tryd.prog C (do pure (Next.value (← Instr.indexAt 23 (ρ 0) (ρ 6)))) fun x26 => QK Tryd.prog C (do pure (Next.value (← Instr.fieldAt 25 x26 7))) fun x27 => QK Tryd.prog C (do pure (Next.value (← Instr.loadAt 23 x27))) fun x28 => QK Tryd.prog C (do pure (Next.value (← (do eqGuard BinOp.add 3 (Operand.tmp 29) (Operand.const (Value.int IntKind.i64 1)) (ρ 1) (Value.int IntKind.i64 1); binOp BinOp.add 3 (ρ 1) (Value.int IntKind.i64 1))))) fun x30 => QK Tryd.prog C (do let d ← Deferred.ofValue (Value.func (Fn.func 72) #[] #[]) [x28, x30].toArray; invoke d.target d.args) fun x31 => QK Tryd.prog C (builtin Builtin.max #[3, 3, 3, 3] 3 [false, false, false, false].toArray [(ρ 5), (ρ 1), x23, x31].toArray) fun x32 => ∀ w', C w' → K Exit.normal (up (up (up (up (up (up (up (up (up (up (up (up (up (up (up (up (up (up (up (up ρ 14 (ρ 5)) 15 (ρ 1)) 16 (ρ 0)) 17 (ρ 6)) 18 x18) 19 x19) 20 x20) 21 (ρ 1)) 22 x22) 23 x23) 24 (ρ 0)) 25 (ρ 6)) 26 x26) 27 x27) 28 x28) 29 (ρ 1)) 30 x30) 31 x31) 32 x32) 5 x32) w'
theorem dispatcherref02_DeepStmts_R2_quiet {D : List Deferred} (C : World → Prop) {K : Exit → Sl → World → Prop} {ρ : Sl} {w : World} (hC : C { w with drawn := w.drawn + 1 }) (h : dispatcherref02_DeepStmts_R2_Q C K ρ) : W ⟨none, D⟩ Tryd.prog 55 dispatcherref02_DeepStmts_R2 K ρ w := by
  have e : dispatcherref02_DeepStmts_R2 = .region (idOf dispatcherref02_DeepStmts_R2) dispatcherref02_DeepStmts_R2_ops true := by kernel_rfl
  have q : sxq Tryd.prog C dispatcherref02_DeepStmts_R2_ops (fun ρ' => ∀ w', C w' → K .normal ρ' w') dispatcherref02_DeepStmts_R2_ops.toList ρ = dispatcherref02_DeepStmts_R2_Q C K ρ := by kernel_rfl
  rw [e]
  exact W_quiet C (by kernel_rfl) (by kernel_rfl) (by kernel_rfl) hC (Eq.mpr q h)
noncomputable def dispatcherref02_DeepStmts_R3_F (z : At) (K : Exit → Sl → World → Prop) (ρ : Sl) (w : World) : Prop :=
  W z Tryd.prog 55 (Code.loop dispatcherref02_DeepStmts_L5) (blkK 2 K) (up ρ 7 (Value.int .i64 0)) w
theorem dispatcherref02_DeepStmts_R3_eq (z : At) (K : Exit → Sl → World → Prop) (ρ : Sl) (w : World) : sx z Tryd.prog 55 dispatcherref02_DeepStmts_R3 K ρ w = dispatcherref02_DeepStmts_R3_F z K ρ w := by kernel_rfl
noncomputable def dispatcherref02_DeepStmts_R4_F (z : At) (K : Exit → Sl → World → Prop) (ρ : Sl) (w : World) : Prop :=
  BK Tryd.prog .add 3 (.tmp 12) (.const (Value.int .i64 1)) (ρ 6) (Value.int .i64 1) w fun x13 w => K .normal (up (up (up ρ 12 (ρ 6)) 13 x13) 6 x13) w
theorem dispatcherref02_DeepStmts_R4_eq (z : At) (K : Exit → Sl → World → Prop) (ρ : Sl) (w : World) : sx z Tryd.prog 55 dispatcherref02_DeepStmts_R4 K ρ w = dispatcherref02_DeepStmts_R4_F z K ρ w := by kernel_rfl
noncomputable def dispatcherref02_DeepStmts_L5_F (z : At) (K : Exit → Sl → World → Prop) (ρ : Sl) (w : World) : Prop :=
  VK Tryd.prog (Instr.indexAt 23 (ρ 0) (ρ 6)) w fun x36 w => VK Tryd.prog (Instr.fieldAt 25 x36 5) w fun x37 w => VK Tryd.prog (Instr.loadAt 22 x37) w fun x38 w => IK Tryd.prog .len #[22] 3 [false] [x38] w fun x39 w => BK Tryd.prog .lss 3 (.tmp 33) (.tmp 39) (ρ 7) x39 w fun x40 w => CondK x40 (VK Tryd.prog (Instr.indexAt 23 (ρ 0) (ρ 6)) w fun x46 w => VK Tryd.prog (Instr.fieldAt 25 x46 5) w fun x47 w => VK Tryd.prog (Instr.loadAt 22 x47) w fun x48 w => VK Tryd.prog (Instr.indexAt 22 x48 (ρ 7)) w fun x50 w => VK Tryd.prog (Instr.loadAt 29 x50) w fun x51 w => CK Tryd.prog (Value.func (Fn.func 87) #[] #[]) [x51] w fun x52 w => IK Tryd.prog .max #[3, 3] 3 [false, false] [(ρ 5), x52] w fun x53 w => BK Tryd.prog .add 3 (.tmp 41) (.const (Value.int .i64 1)) (ρ 7) (Value.int .i64 1) w fun x42 w => K .normal (up (up (up (up (up (up (up (up (up (up (up (up (up (up (up (up (up (up (up (up (up (up (up ρ 33 (ρ 7)) 34 (ρ 0)) 35 (ρ 6)) 36 x36) 37 x37) 38 x38) 39 x39) 40 x40) 43 (ρ 5)) 44 (ρ 0)) 45 (ρ 6)) 46 x46) 47 x47) 48 x48) 49 (ρ 7)) 50 x50) 51 x51) 52 x52) 53 x53) 5 x53) 41 (ρ 7)) 42 x42) 7 x42) w) (K (.exit 2) (up (up (up (up (up (up (up (up ρ 33 (ρ 7)) 34 (ρ 0)) 35 (ρ 6)) 36 x36) 37 x37) 38 x38) 39 x39) 40 x40) w)
theorem dispatcherref02_DeepStmts_L5_eq (z : At) (K : Exit → Sl → World → Prop) (ρ : Sl) (w : World) : sx z Tryd.prog 55 dispatcherref02_DeepStmts_L5 K ρ w = dispatcherref02_DeepStmts_L5_F z K ρ w := by kernel_rfl
theorem dispatcherref02_DeepStmts_L5_ok : dstOk 55 dispatcherref02_DeepStmts_L5 = true := by kernel_rfl
noncomputable def dispatcherref02_DeepStmts_F (a0 a1 : Value) (w : World) (R : Value → World → Prop) : Prop :=
  W fn_ Tryd.prog 55 (Code.loop dispatcherref02_DeepStmts_L0) (blkK 0 (seqK (sx fn_ Tryd.prog 55 dispatcherref02_DeepStmts_R1 (retK Tryd.prog [ResultVar.tmp 4] R)) (retK Tryd.prog [ResultVar.tmp 4] R))) (up (up (up (rho0 [a0, a1]) 4 (Value.int .i64 0)) 5 (Value.int .i64 0)) 6 (Value.int .i64 0)) w
theorem dispatcherref02_DeepStmts_eq (a0 a1 : Value) (w : World) (R : Value → World → Prop) : sx fn_ Tryd.prog 55 dispatcherref02_DeepStmts_b (retK Tryd.prog Tryd.f72.results.toList R) (rho0 [a0, a1]) w = dispatcherref02_DeepStmts_F a0 a1 w R := by kernel_rfl
theorem dispatcherref02_DeepStmts_calls {a0 a1 : Value} {w : World} {R : Value → World → Prop} (h : dispatcherref02_DeepStmts_F a0 a1 w R) : Calls Tryd.prog 72 #[a0, a1] w fun e w' => ∃ v, e = .returned v ∧ R v w' :=
  Go.X.calls_of_sx (n := 55) (c := dispatcherref02_DeepStmts_b) Tryd.func72 (by kernel_rfl) (by kernel_rfl) (Nat.le_of_ble_eq_true rfl) (by kernel_rfl) (Eq.mpr (dispatcherref02_DeepStmts_eq a0 a1 w R) h)
noncomputable def dispatcherref02_Args_b : Code := (Tryd.f84.body).getD .skip
noncomputable def dispatcherref02_Args_R0 : Code := cAt [1, 0, 1, 0, 1] dispatcherref02_Args_b
noncomputable def dispatcherref02_Args_R1 : Code := cAt [1, 1] dispatcherref02_Args_b
noncomputable def dispatcherref02_Args_R2 : Code := cAt [1, 0, 1, 0, 1, 1, 1] dispatcherref02_Args_b
noncomputable def dispatcherref02_Args_R3 : Code := cAt [1, 0, 1, 0, 1, 1, 1, 1, 1, 1, 1] dispatcherref02_Args_b
noncomputable def dispatcherref02_Args_R4 : Code := cAt [1, 0, 1, 0, 1, 1, 1, 1, 1, 1, 1, 1, 1] dispatcherref02_Args_b
noncomputable def dispatcherref02_Args_R0_F (z : At) (K : Exit → Sl → World → Prop) (ρ : Sl) (w : World) : Prop :=
  CondK (ρ 5) (K .ret (up (up ρ 2 (Value.int .i64 5)) 3 (Value.int .i64 5)) w) (BK Tryd.prog .eql 5 (.tmp 4) (.const (Value.int .u8 6)) (ρ 4) (Value.int .u8 6) w fun x12 w => CondK x12 (sx z Tryd.prog 32 dispatcherref02_Args_R2 K (up (up ρ 12 x12) 11 x12) w) (BK Tryd.prog .eql 5 (.tmp 4) (.const (Value.int .u8 7)) (ρ 4) (Value.int .u8 7) w fun x13 w => CondK x13 (sx z Tryd.prog 32 dispatcherref02_Args_R2 K (up (up (up (up ρ 12 x12) 11 x12) 13 x13) 11 x13) w) (BK Tryd.prog .eql 5 (.tmp 4) (.const (Value.int .u8 13)) (ρ 4) (Value.int .u8 13) w fun x14 w => CondK x14 (sx z Tryd.prog 32 dispatcherref02_Args_R2 K (up (up (up (up (up (up ρ 12 x12) 11 x12) 13 x13) 11 x13) 14 x14) 11 x14) w) (BK Tryd.prog .eql 5 (.tmp 4) (.const (Value.int .u8 14)) (ρ 4) (Value.int .u8 14) w fun x15 w => CondK x15 (sx z Tryd.prog 32 dispatcherref02_Args_R2 K (up (up (up (up (up (up (up (up ρ 12 x12) 11 x12) 13 x13) 11 x13) 14 x14) 11 x14) 15 x15) 11 x15) w) (BK Tryd.prog .eql 5 (.tmp 4) (.const (Value.int .u8 16)) (ρ 4) (Value.int .u8 16) w fun x16 w => CondK x16 (sx z Tryd.prog 32 dispatcherref02_Args_R2 K (up (up (up (up (up (up (up (up (up (up ρ 12 x12) 11 x12) 13 x13) 11 x13) 14 x14) 11 x14) 15 x15) 11 x15) 16 x16) 11 x16) w) (BK Tryd.prog .eql 5 (.tmp 4) (.const (Value.int .u8 19)) (ρ 4) (Value.int .u8 19) w fun x17 w => CondK x17 (sx z Tryd.prog 32 dispatcherref02_Args_R2 K (up (up (up (up (up (up (up (up (up (up (up (up ρ 12 x12) 11 x12) 13 x13) 11 x13) 14 x14) 11 x14) 15 x15) 11 x15) 16 x16) 11 x16) 17 x17) 11 x17) w) (BK Tryd.prog .eql 5 (.tmp 4) (.const (Value.int .u8 17)) (ρ 4) (Value.int .u8 17) w fun x18 w => CondK x18 (sx z Tryd.prog 32 dispatcherref02_Args_R2 K (up (up (up (up (up (up (up (up (up (up (up (up (up (up ρ 12 x12) 11 x12) 13 x13) 11 x13) 14 x14) 11 x14) 15 x15) 11 x15) 16 x16) 11 x16) 17 x17) 11 x17) 18 x18) 11 x18) w) (BK Tryd.prog .eql 5 (.tmp 4) (.const (Value.int .u8 21)) (ρ 4) (Value.int .u8 21) w fun x19 w => sx z Tryd.prog 32 dispatcherref02_Args_R2 K (up (up (up (up (up (up (up (up (up (up (up (up (up (up (up (up ρ 12 x12) 11 x12) 13 x13) 11 x13) 14 x14) 11 x14) 15 x15) 11 x15) 16 x16) 11 x16) 17 x17) 11 x17) 18 x18) 11 x18) 19 x19) 11 x19) w))))))))
theorem dispatcherref02_Args_R0_eq (z : At) (K : Exit → Sl → World → Prop) (ρ : Sl) (w : World) : sx z Tryd.prog 32 dispatcherref02_Args_R0 K ρ w = dispatcherref02_Args_R0_F z K ρ w := by kernel_rfl
noncomputable def dispatcherref02_Args_R1_F (z : At) (K : Exit → Sl → World → Prop) (ρ : Sl) (w : World) : Prop :=
  K .ret (up (up ρ 2 (Value.int .i64 0)) 3 (Value.int .i64 0)) w
theorem dispatcherref02_Args_R1_eq (z : At) (K : Exit → Sl → World → Prop) (ρ : Sl) (w : World) : sx z Tryd.prog 32 dispatcherref02_Args_R1 K ρ w = dispatcherref02_Args_R1_F z K ρ w := by kernel_rfl
noncomputable def dispatcherref02_Args_R2_F (z : At) (K : Exit → Sl → World → Prop) (ρ : Sl) (w : World) : Prop :=
  CondK (ρ 11) (K .ret (up (up ρ 2 (Value.int .i64 3)) 3 (Value.int .i64 3)) w) (BK Tryd.prog .eql 5 (.tmp 4) (.const (Value.int .u8 18)) (ρ 4) (Value.int .u8 18) w fun x21 w => CondK x21 (K .ret (up (up (up (up ρ 21 x21) 20 x21) 2 (Value.int .i64 2)) 3 (Value.int .i64 2)) w) (BK Tryd.prog .eql 5 (.tmp 4) (.const (Value.int .u8 8)) (ρ 4) (Value.int .u8 8) w fun x23 w => CondK x23 (sx z Tryd.prog 32 dispatcherref02_Args_R3 K (up (up (up (up ρ 21 x21) 20 x21) 23 x23) 22 x23) w) (BK Tryd.prog .eql 5 (.tmp 4) (.const (Value.int .u8 11)) (ρ 4) (Value.int .u8 11) w fun x24 w => CondK x24 (sx z Tryd.prog 32 dispatcherref02_Args_R3 K (up (up (up (up (up (up ρ 21 x21) 20 x21) 23 x23) 22 x23) 24 x24) 22 x24) w) (BK Tryd.prog .eql 5 (.tmp 4) (.const (Value.int .u8 15)) (ρ 4) (Value.int .u8 15) w fun x25 w => CondK x25 (sx z Tryd.prog 32 dispatcherref02_Args_R3 K (up (up (up (up (up (up (up (up ρ 21 x21) 20 x21) 23 x23) 22 x23) 24 x24) 22 x24) 25 x25) 22 x25) w) (BK Tryd.prog .eql 5 (.tmp 4) (.const (Value.int .u8 20)) (ρ 4) (Value.int .u8 20) w fun x26 w => CondK x26 (sx z Tryd.prog 32 dispatcherref02_Args_R3 K (up (up (up (up (up (up (up (up (up (up ρ 21 x21) 20 x21) 23 x23) 22 x23) 24 x24) 22 x24) 25 x25) 22 x25) 26 x26) 22 x26) w) (BK Tryd.prog .eql 5 (.tmp 4) (.const (Value.int .u8 22)) (ρ 4) (Value.int .u8 22) w fun x27 w => sx z Tryd.prog 32 dispatcherref02_Args_R3 K (up (up (up (up (up (up (up (up (up (up (up (up ρ 21 x21) 20 x21) 23 x23) 22 x23) 24 x24) 22 x24) 25 x25) 22 x25) 26 x26) 22 x26) 27 x27) 22 x27) w))))))
theorem dispatcherref02_Args_R2_eq (z : At) (K : Exit → Sl → World → Prop) (ρ : Sl) (w : World) : sx z Tryd.prog 32 dispatcherref02_Args_R2 K ρ w = dispatcherref02_Args_R2_F z K ρ w := by kernel_rfl
noncomputable def dispatcherref02_Args_R3_F (z : At) (K : Exit → Sl → World → Prop) (ρ : Sl) (w : World) : Prop :=
  CondK (ρ 22) (K .ret (up (up ρ 2 (Value.int .i64 1)) 3 (Value.int .i64 1)) w) (BK Tryd.prog .eql 5 (.tmp 4) (.const (Value.int .u8 9)) (ρ 4) (Value.int .u8 9) w fun x29 w => CondK x29 (sx z Tryd.prog 32 dispatcherref02_Args_R4 K (up (up ρ 29 x29) 28 x29) w) (BK Tryd.prog .eql 5 (.tmp 4) (.const (Value.int .u8 10)) (ρ 4) (Value.int .u8 10) w fun x30 w => CondK x30 (sx z Tryd.prog 32 dispatcherref02_Args_R4 K (up (up (up (up ρ 29 x29) 28 x29) 30 x30) 28 x30) w) (BK Tryd.prog .eql 5 (.tmp 4) (.const (Value.int .u8 12)) (ρ 4) (Value.int .u8 12) w fun x31 w => sx z Tryd.prog 32 dispatcherref02_Args_R4 K (up (up (up (up (up (up ρ 29 x29) 28 x29) 30 x30) 28 x30) 31 x31) 28 x31) w)))
theorem dispatcherref02_Args_R3_eq (z : At) (K : Exit → Sl → World → Prop) (ρ : Sl) (w : World) : sx z Tryd.prog 32 dispatcherref02_Args_R3 K ρ w = dispatcherref02_Args_R3_F z K ρ w := by kernel_rfl
noncomputable def dispatcherref02_Args_R4_F (z : At) (K : Exit → Sl → World → Prop) (ρ : Sl) (w : World) : Prop :=
  CondK (ρ 28) (K .ret (up (up ρ 2 (Value.int .i64 1)) 3 (Value.int .i64 8)) w) (K .normal ρ w)
theorem dispatcherref02_Args_R4_eq (z : At) (K : Exit → Sl → World → Prop) (ρ : Sl) (w : World) : sx z Tryd.prog 32 dispatcherref02_Args_R4 K ρ w = dispatcherref02_Args_R4_F z K ρ w := by kernel_rfl
noncomputable def dispatcherref02_Args_F (a0 : Value) (w : World) (R : Value → World → Prop) : Prop :=
  BK Tryd.prog .eql 5 (.tmp 4) (.const (Value.int .u8 1)) a0 (Value.int .u8 1) w fun x6 w => CondK x6 (sx fn_ Tryd.prog 32 dispatcherref02_Args_R0 (blkK 0 (seqK (sx fn_ Tryd.prog 32 dispatcherref02_Args_R1 (retK Tryd.prog [ResultVar.tmp 2, ResultVar.tmp 3] R)) (retK Tryd.prog [ResultVar.tmp 2, ResultVar.tmp 3] R))) (up (up (up (up (up (rho0 [a0]) 2 (Value.int .i64 0)) 3 (Value.int .i64 0)) 4 a0) 6 x6) 5 x6) w) (BK Tryd.prog .eql 5 (.tmp 4) (.const (Value.int .u8 2)) a0 (Value.int .u8 2) w fun x7 w => CondK x7 (sx fn_ Tryd.prog 32 dispatcherref02_Args_R0 (blkK 0 (seqK (sx fn_ Tryd.prog 32 dispatcherref02_Args_R1 (retK Tryd.prog [ResultVar.tmp 2, ResultVar.tmp 3] R)) (retK Tryd.prog [ResultVar.tmp 2, ResultVar.tmp 3] R))) (up (up (up (up (up (up (up (rho0 [a0]) 2 (Value.int .i64 0)) 3 (Value.int .i64 0)) 4 a0) 6 x6) 5 x6) 7 x7) 5 x7) w) (BK Tryd.prog .eql 5 (.tmp 4) (.const (Value.int .u8 3)) a0 (Value.int .u8 3) w fun x8 w => CondK x8 (sx fn_ Tryd.prog 32 dispatcherref02_Args_R0 (blkK 0 (seqK (sx fn_ Tryd.prog 32 dispatcherref02_Args_R1 (retK Tryd.prog [ResultVar.tmp 2, ResultVar.tmp 3] R)) (retK Tryd.prog [ResultVar.tmp 2, ResultVar.tmp 3] R))) (up (up (up (up (up (up (up (up (up (rho0 [a0]) 2 (Value.int .i64 0)) 3 (Value.int .i64 0)) 4 a0) 6 x6) 5 x6) 7 x7) 5 x7) 8 x8) 5 x8) w) (BK Tryd.prog .eql 5 (.tmp 4) (.const (Value.int .u8 4)) a0 (Value.int .u8 4) w fun x9 w => CondK x9 (sx fn_ Tryd.prog 32 dispatcherref02_Args_R0 (blkK 0 (seqK (sx fn_ Tryd.prog 32 dispatcherref02_Args_R1 (retK Tryd.prog [ResultVar.tmp 2, ResultVar.tmp 3] R)) (retK Tryd.prog [ResultVar.tmp 2, ResultVar.tmp 3] R))) (up (up (up (up (up (up (up (up (up (up (up (rho0 [a0]) 2 (Value.int .i64 0)) 3 (Value.int .i64 0)) 4 a0) 6 x6) 5 x6) 7 x7) 5 x7) 8 x8) 5 x8) 9 x9) 5 x9) w) (BK Tryd.prog .eql 5 (.tmp 4) (.const (Value.int .u8 5)) a0 (Value.int .u8 5) w fun x10 w => sx fn_ Tryd.prog 32 dispatcherref02_Args_R0 (blkK 0 (seqK (sx fn_ Tryd.prog 32 dispatcherref02_Args_R1 (retK Tryd.prog [ResultVar.tmp 2, ResultVar.tmp 3] R)) (retK Tryd.prog [ResultVar.tmp 2, ResultVar.tmp 3] R))) (up (up (up (up (up (up (up (up (up (up (up (up (up (rho0 [a0]) 2 (Value.int .i64 0)) 3 (Value.int .i64 0)) 4 a0) 6 x6) 5 x6) 7 x7) 5 x7) 8 x8) 5 x8) 9 x9) 5 x9) 10 x10) 5 x10) w))))
theorem dispatcherref02_Args_eq (a0 : Value) (w : World) (R : Value → World → Prop) : sx fn_ Tryd.prog 32 dispatcherref02_Args_b (retK Tryd.prog Tryd.f84.results.toList R) (rho0 [a0]) w = dispatcherref02_Args_F a0 w R := by kernel_rfl
theorem dispatcherref02_Args_calls {a0 : Value} {w : World} {R : Value → World → Prop} (h : dispatcherref02_Args_F a0 w R) : Calls Tryd.prog 84 #[a0] w fun e w' => ∃ v, e = .returned v ∧ R v w' :=
  Go.X.calls_of_sx (n := 32) (c := dispatcherref02_Args_b) Tryd.func84 (by kernel_rfl) (by kernel_rfl) (Nat.le_of_ble_eq_true rfl) (by kernel_rfl) (Eq.mpr (dispatcherref02_Args_eq a0 w R) h)
noncomputable def scan_digit_b : Code := (Tryd.f52.body).getD .skip
noncomputable def scan_digit_F (a0 : Value) (w : World) (R : Value → World → Prop) : Prop :=
  BK Tryd.prog .geq 21 (.tmp 3) (.const (Value.int .i32 48)) a0 (Value.int .i32 48) w fun x4 w => MG Tryd.prog x4 true a0 w fun x6 w => BG Tryd.prog x4 true .leq 21 (.tmp 6) (.const (Value.int .i32 57)) x6 (Value.int .i32 57) w fun x7 w => PK Tryd.prog x4 x7 (Value.bool false) w fun x8 w => R x8 w
theorem scan_digit_eq (a0 : Value) (w : World) (R : Value → World → Prop) : sx fn_ Tryd.prog 9 scan_digit_b (retK Tryd.prog Tryd.f52.results.toList R) (rho0 [a0]) w = scan_digit_F a0 w R := by kernel_rfl
theorem scan_digit_calls {a0 : Value} {w : World} {R : Value → World → Prop} (h : scan_digit_F a0 w R) : Calls Tryd.prog 52 #[a0] w fun e w' => ∃ v, e = .returned v ∧ R v w' :=
  Go.X.calls_of_sx (n := 9) (c := scan_digit_b) Tryd.func52 (by kernel_rfl) (by kernel_rfl) (Nat.le_of_ble_eq_true rfl) (by kernel_rfl) (Eq.mpr (scan_digit_eq a0 w R) h)
noncomputable def slices_Contains_string_string_b : Code := (Tryd.f53.body).getD .skip
noncomputable def slices_Contains_string_string_F (a0 a1 : Value) (w : World) (R : Value → World → Prop) : Prop :=
  CK Tryd.prog (Value.func (Fn.func 77) #[] #[]) [a0, a1] w fun x7 w => BK Tryd.prog .geq 3 (.tmp 7) (.const (Value.int .i64 0)) x7 (Value.int .i64 0) w fun x8 w => R x8 w
theorem slices_Contains_string_string_eq (a0 a1 : Value) (w : World) (R : Value → World → Prop) : sx fn_ Tryd.prog 9 slices_Contains_string_string_b (retK Tryd.prog Tryd.f53.results.toList R) (rho0 [a0, a1]) w = slices_Contains_string_string_F a0 a1 w R := by kernel_rfl
theorem slices_Contains_string_string_calls {a0 a1 : Value} {w : World} {R : Value → World → Prop} (h : slices_Contains_string_string_F a0 a1 w R) : Calls Tryd.prog 53 #[a0, a1] w fun e w' => ∃ v, e = .returned v ∧ R v w' :=
  Go.X.calls_of_sx (n := 9) (c := slices_Contains_string_string_b) Tryd.func53 (by kernel_rfl) (by kernel_rfl) (Nat.le_of_ble_eq_true rfl) (by kernel_rfl) (Eq.mpr (slices_Contains_string_string_eq a0 a1 w R) h)
noncomputable def tree_deepExpr_b : Code := (Tryd.f54.body).getD .skip
noncomputable def tree_deepExpr_L0 : Code := cAt [1, 1, 0, 1, 0, 0] tree_deepExpr_b
noncomputable def tree_deepExpr_R1 : Code := cAt [1, 1, 1] tree_deepExpr_b
noncomputable def tree_deepExpr_L0_F (z : At) (K : Exit → Sl → World → Prop) (ρ : Sl) (w : World) : Prop :=
  BK Tryd.prog .lss 3 (.tmp 9) (.tmp 8) (ρ 9) (ρ 8) w fun x10 w => CondK x10 (VK Tryd.prog (Instr.indexAt 22 (ρ 7) (ρ 9)) w fun x11 w => VK Tryd.prog (Instr.loadAt 29 x11) w fun x12 w => VK Tryd.prog (Instr.alloc 29 true (.tuple #[])) w fun x5 w => UK Tryd.prog (Instr.storeAt 29 x5 x12) w fun _ w => VK Tryd.prog (Instr.loadAt 29 x5) w fun x14 w => CK Tryd.prog (Value.func (Fn.func 54) #[] #[]) [x14] w fun x15 w => IK Tryd.prog .max #[3, 3] 3 [false, false] [(ρ 3), x15] w fun x16 w => BK Tryd.prog .add 3 (.tmp 9) (.const (Value.int .i64 1)) (ρ 9) (Value.int .i64 1) w fun x17 w => K .normal (up (up (up (up (up (up (up (up (up (up (up ρ 10 x10) 11 x11) 12 x12) 5 x5) 13 (ρ 3)) 14 x14) 15 x15) 16 x16) 3 x16) 17 x17) 9 x17) w) (K (.exit 0) (up ρ 10 x10) w)
theorem tree_deepExpr_L0_eq (z : At) (K : Exit → Sl → World → Prop) (ρ : Sl) (w : World) : sx z Tryd.prog 20 tree_deepExpr_L0 K ρ w = tree_deepExpr_L0_F z K ρ w := by kernel_rfl
theorem tree_deepExpr_L0_ok : dstOk 20 tree_deepExpr_L0 = true := by kernel_rfl
noncomputable def tree_deepExpr_R1_F (z : At) (K : Exit → Sl → World → Prop) (ρ : Sl) (w : World) : Prop :=
  BK Tryd.prog .add 3 (.tmp 18) (.const (Value.int .i64 1)) (ρ 3) (Value.int .i64 1) w fun x19 w => K .ret (up (up (up ρ 18 (ρ 3)) 19 x19) 2 x19) w
theorem tree_deepExpr_R1_eq (z : At) (K : Exit → Sl → World → Prop) (ρ : Sl) (w : World) : sx z Tryd.prog 20 tree_deepExpr_R1 K ρ w = tree_deepExpr_R1_F z K ρ w := by kernel_rfl
noncomputable def tree_deepExpr_F (a0 : Value) (w : World) (R : Value → World → Prop) : Prop :=
  VK Tryd.prog (Instr.box 29 a0) w fun x1 w => VK Tryd.prog (Instr.fieldAt 29 x1 3) w fun x6 w => VK Tryd.prog (Instr.loadAt 22 x6) w fun x7 w => IK Tryd.prog .len #[22] 3 [false] [x7] w fun x8 w => W fn_ Tryd.prog 20 (Code.loop tree_deepExpr_L0) (blkK 0 (seqK (sx fn_ Tryd.prog 20 tree_deepExpr_R1 (retK Tryd.prog [ResultVar.tmp 2] R)) (retK Tryd.prog [ResultVar.tmp 2] R))) (up (up (up (up (up (up (up (rho0 [a0]) 1 x1) 2 (Value.int .i64 0)) 3 (Value.int .i64 0)) 6 x6) 7 x7) 8 x8) 9 (Value.int .i64 0)) w
theorem tree_deepExpr_eq (a0 : Value) (w : World) (R : Value → World → Prop) : sx fn_ Tryd.prog 20 tree_deepExpr_b (retK Tryd.prog Tryd.f54.results.toList R) (rho0 [a0]) w = tree_deepExpr_F a0 w R := by kernel_rfl
theorem tree_deepExpr_calls {a0 : Value} {w : World} {R : Value → World → Prop} (h : tree_deepExpr_F a0 w R) : Calls Tryd.prog 54 #[a0] w fun e w' => ∃ v, e = .returned v ∧ R v w' :=
  Go.X.calls_of_sx (n := 20) (c := tree_deepExpr_b) Tryd.func54 (by kernel_rfl) (by kernel_rfl) (Nat.le_of_ble_eq_true rfl) (by kernel_rfl) (Eq.mpr (tree_deepExpr_eq a0 w R) h)
noncomputable def slices_IndexFunc_tree_Stmt_tree_Stmt_b : Code := (Tryd.f55.body).getD .skip
noncomputable def slices_IndexFunc_tree_Stmt_tree_Stmt_L0 : Code := cAt [1, 0, 1, 0, 0] slices_IndexFunc_tree_Stmt_tree_Stmt_b
noncomputable def slices_IndexFunc_tree_Stmt_tree_Stmt_R1 : Code := cAt [1, 1] slices_IndexFunc_tree_Stmt_tree_Stmt_b
noncomputable def slices_IndexFunc_tree_Stmt_tree_Stmt_L0_F (z : At) (K : Exit → Sl → World → Prop) (ρ : Sl) (w : World) : Prop :=
  BK Tryd.prog .lss 3 (.tmp 8) (.tmp 7) (ρ 8) (ρ 7) w fun x9 w => CondK x9 (VK Tryd.prog (Instr.indexAt 23 (ρ 0) (ρ 8)) w fun x14 w => VK Tryd.prog (Instr.loadAt 25 x14) w fun x15 w => CK Tryd.prog (ρ 1) [x15] w fun x16 w => CondK x16 (K .ret (up (up (up (up (up (up (up (up (up (up (up ρ 9 x9) 10 (ρ 8)) 5 (ρ 8)) 11 (ρ 1)) 12 (ρ 0)) 13 (ρ 8)) 14 x14) 15 x15) 16 x16) 17 (ρ 8)) 4 (ρ 8)) w) (BK Tryd.prog .add 3 (.tmp 8) (.const (Value.int .i64 1)) (ρ 8) (Value.int .i64 1) w fun x18 w => K .normal (up (up (up (up (up (up (up (up (up (up (up ρ 9 x9) 10 (ρ 8)) 5 (ρ 8)) 11 (ρ 1)) 12 (ρ 0)) 13 (ρ 8)) 14 x14) 15 x15) 16 x16) 18 x18) 8 x18) w)) (K (.exit 0) (up ρ 9 x9) w)
theorem slices_IndexFunc_tree_Stmt_tree_Stmt_L0_eq (z : At) (K : Exit → Sl → World → Prop) (ρ : Sl) (w : World) : sx z Tryd.prog 19 slices_IndexFunc_tree_Stmt_tree_Stmt_L0 K ρ w = slices_IndexFunc_tree_Stmt_tree_Stmt_L0_F z K ρ w := by kernel_rfl
theorem slices_IndexFunc_tree_Stmt_tree_Stmt_L0_ok : dstOk 19 slices_IndexFunc_tree_Stmt_tree_Stmt_L0 = true := by kernel_rfl
noncomputable def slices_IndexFunc_tree_Stmt_tree_Stmt_R1_F (z : At) (K : Exit → Sl → World → Prop) (ρ : Sl) (w : World) : Prop :=
  K .ret (up ρ 4 (Value.int .i64 (-1))) w
theorem slices_IndexFunc_tree_Stmt_tree_Stmt_R1_eq (z : At) (K : Exit → Sl → World → Prop) (ρ : Sl) (w : World) : sx z Tryd.prog 19 slices_IndexFunc_tree_Stmt_tree_Stmt_R1 K ρ w = slices_IndexFunc_tree_Stmt_tree_Stmt_R1_F z K ρ w := by kernel_rfl
noncomputable def slices_IndexFunc_tree_Stmt_tree_Stmt_F (a0 a1 : Value) (w : World) (R : Value → World → Prop) : Prop :=
  IK Tryd.prog .len #[23] 3 [false] [a0] w fun x7 w => W fn_ Tryd.prog 19 (Code.loop slices_IndexFunc_tree_Stmt_tree_Stmt_L0) (blkK 0 (seqK (sx fn_ Tryd.prog 19 slices_IndexFunc_tree_Stmt_tree_Stmt_R1 (retK Tryd.prog [ResultVar.tmp 4] R)) (retK Tryd.prog [ResultVar.tmp 4] R))) (up (up (up (up (rho0 [a0, a1]) 4 (Value.int .i64 0)) 6 a0) 7 x7) 8 (Value.int .i64 0)) w
theorem slices_IndexFunc_tree_Stmt_tree_Stmt_eq (a0 a1 : Value) (w : World) (R : Value → World → Prop) : sx fn_ Tryd.prog 19 slices_IndexFunc_tree_Stmt_tree_Stmt_b (retK Tryd.prog Tryd.f55.results.toList R) (rho0 [a0, a1]) w = slices_IndexFunc_tree_Stmt_tree_Stmt_F a0 a1 w R := by kernel_rfl
theorem slices_IndexFunc_tree_Stmt_tree_Stmt_calls {a0 a1 : Value} {w : World} {R : Value → World → Prop} (h : slices_IndexFunc_tree_Stmt_tree_Stmt_F a0 a1 w R) : Calls Tryd.prog 55 #[a0, a1] w fun e w' => ∃ v, e = .returned v ∧ R v w' :=
  Go.X.calls_of_sx (n := 19) (c := slices_IndexFunc_tree_Stmt_tree_Stmt_b) Tryd.func55 (by kernel_rfl) (by kernel_rfl) (Nat.le_of_ble_eq_true rfl) (by kernel_rfl) (Eq.mpr (slices_IndexFunc_tree_Stmt_tree_Stmt_eq a0 a1 w R) h)
noncomputable def tree_Args_b : Code := (Tryd.f56.body).getD .skip
noncomputable def tree_Args_F (a0 : Value) (w : World) (R : Value → World → Prop) : Prop :=
  BK Tryd.prog .lss 5 (.tmp 5) (.const (Value.int .u8 1)) a0 (Value.int .u8 1) w fun x6 w => MG Tryd.prog x6 false a0 w fun x8 w => VG Tryd.prog x6 false (convert 5 3 x8) w fun x9 w => BG Tryd.prog x6 false .gtr 3 (.tmp 9) (.const (Value.int .i64 22)) x9 (Value.int .i64 22) w fun x10 w => PK Tryd.prog x6 (Value.bool true) x10 w fun x11 w => CondK x11 (R (Value.tuple #[(Value.int .i64 0), (Value.int .i64 0)]) w) (BK Tryd.prog .sub 5 (.tmp 12) (.const (Value.int .u8 1)) a0 (Value.int .u8 1) w fun x13 w => VK Tryd.prog (Instr.indexAt 113 (Value.pointer (some ⟨1, 0, none⟩)) x13) w fun x14 w => VK Tryd.prog (Instr.loadAt 3 x14) w fun x15 w => BK Tryd.prog .geq 3 (.tmp 16) (.const (Value.int .i64 0)) x15 (Value.int .i64 0) w fun x17 w => CondK x17 (R (Value.tuple #[x15, x15]) w) (R (Value.tuple #[(Value.int .i64 1), (Value.int .i64 8)]) w))
theorem tree_Args_eq (a0 : Value) (w : World) (R : Value → World → Prop) : sx fn_ Tryd.prog 20 tree_Args_b (retK Tryd.prog Tryd.f56.results.toList R) (rho0 [a0]) w = tree_Args_F a0 w R := by kernel_rfl
theorem tree_Args_calls {a0 : Value} {w : World} {R : Value → World → Prop} (h : tree_Args_F a0 w R) : Calls Tryd.prog 56 #[a0] w fun e w' => ∃ v, e = .returned v ∧ R v w' :=
  Go.X.calls_of_sx (n := 20) (c := tree_Args_b) Tryd.func56 (by kernel_rfl) (by kernel_rfl) (Nat.le_of_ble_eq_true rfl) (by kernel_rfl) (Eq.mpr (tree_Args_eq a0 w R) h)
noncomputable def slices_ContainsFunc_tree_Expr_tree_Expr_b : Code := (Tryd.f57.body).getD .skip
noncomputable def slices_ContainsFunc_tree_Expr_tree_Expr_F (a0 a1 : Value) (w : World) (R : Value → World → Prop) : Prop :=
  CK Tryd.prog (Value.func (Fn.func 78) #[] #[]) [a0, a1] w fun x7 w => BK Tryd.prog .geq 3 (.tmp 7) (.const (Value.int .i64 0)) x7 (Value.int .i64 0) w fun x8 w => R x8 w
theorem slices_ContainsFunc_tree_Expr_tree_Expr_eq (a0 a1 : Value) (w : World) (R : Value → World → Prop) : sx fn_ Tryd.prog 9 slices_ContainsFunc_tree_Expr_tree_Expr_b (retK Tryd.prog Tryd.f57.results.toList R) (rho0 [a0, a1]) w = slices_ContainsFunc_tree_Expr_tree_Expr_F a0 a1 w R := by kernel_rfl
theorem slices_ContainsFunc_tree_Expr_tree_Expr_calls {a0 a1 : Value} {w : World} {R : Value → World → Prop} (h : slices_ContainsFunc_tree_Expr_tree_Expr_F a0 a1 w R) : Calls Tryd.prog 57 #[a0, a1] w fun e w' => ∃ v, e = .returned v ∧ R v w' :=
  Go.X.calls_of_sx (n := 9) (c := slices_ContainsFunc_tree_Expr_tree_Expr_b) Tryd.func57 (by kernel_rfl) (by kernel_rfl) (Nat.le_of_ble_eq_true rfl) (by kernel_rfl) (Eq.mpr (slices_ContainsFunc_tree_Expr_tree_Expr_eq a0 a1 w R) h)
noncomputable def tree_mayStmt_1_b : Code := (Tryd.f58.body).getD .skip
noncomputable def tree_mayStmt_1_F (a0 : Value) (w : World) (R : Value → World → Prop) : Prop :=
  VK Tryd.prog (Instr.box 29 a0) w fun x1 w => VK Tryd.prog (Instr.loadAt 29 x1) w fun x3 w => CK Tryd.prog (Value.func (Fn.func 59) #[] #[]) [x3] w fun x4 w => VK Tryd.prog (Op.unary UnOp.not x4) w fun x5 w => R x5 w
theorem tree_mayStmt_1_eq (a0 : Value) (w : World) (R : Value → World → Prop) : sx fn_ Tryd.prog 6 tree_mayStmt_1_b (retK Tryd.prog Tryd.f58.results.toList R) (rho0 [a0]) w = tree_mayStmt_1_F a0 w R := by kernel_rfl
theorem tree_mayStmt_1_calls {a0 : Value} {w : World} {R : Value → World → Prop} (h : tree_mayStmt_1_F a0 w R) : Calls Tryd.prog 58 #[a0] w fun e w' => ∃ v, e = .returned v ∧ R v w' :=
  Go.X.calls_of_sx (n := 6) (c := tree_mayStmt_1_b) Tryd.func58 (by kernel_rfl) (by kernel_rfl) (Nat.le_of_ble_eq_true rfl) (by kernel_rfl) (Eq.mpr (tree_mayStmt_1_eq a0 w R) h)
noncomputable def tree_mayExpr_b : Code := (Tryd.f59.body).getD .skip
noncomputable def tree_mayExpr_R0 : Code := cAt [1, 1, 0] tree_mayExpr_b
noncomputable def tree_mayExpr_R1 : Code := cAt [1, 1, 1] tree_mayExpr_b
noncomputable def tree_mayExpr_R2 : Code := cAt [1, 1, 1, 1] tree_mayExpr_b
noncomputable def tree_mayExpr_R3 : Code := cAt [1, 1, 1, 0, 1, 0, 1, 1, 1] tree_mayExpr_b
noncomputable def tree_mayExpr_R4 : Code := cAt [1, 1, 1, 0, 1, 0, 1, 1, 1, 1, 1, 0, 1] tree_mayExpr_b
noncomputable def tree_mayExpr_R0_ops : Array Oper := opsOf tree_mayExpr_R0
def tree_mayExpr_R0_Q (C : World → Prop) (K : Exit → Sl → World → Prop) (ρ : Sl) : Prop :=
  QK Tryd.prog C (do pure (Next.value (← Instr.fieldAt 29 (ρ 1) 0))) fun x8 => QK Tryd.prog C (do pure (Next.value (← Instr.loadAt 5 x8))) fun x9 => QK Tryd.prog C (do pure (Next.value (← (do eqGuard BinOp.geq 5 (Operand.tmp 9) (Operand.const (Value.int IntKind.u8 1)) x9 (Value.int IntKind.u8 1); binOp BinOp.geq 5 x9 (Value.int IntKind.u8 1))))) fun x10 => QG Tryd.prog C x10 true  (do pure (Next.value (← Instr.fieldAt 29 (ρ 1) 0))) fun x12 => QG Tryd.prog C x10 true  (do pure (Next.value (← Instr.loadAt 5 x12))) fun x13 => QG Tryd.prog C x10 true  (do pure (Next.value (← (do eqGuard BinOp.leq 5 (Operand.tmp 13) (Operand.const (Value.int IntKind.u8 20)) x13 (Value.int IntKind.u8 20); binOp BinOp.leq 5 x13 (Value.int IntKind.u8 20))))) fun x14 => QK Tryd.prog C (do pure (Next.value (if ← asBool x10 then x14 else (Value.bool false)))) fun x15 => QG Tryd.prog C x15 true  (do pure (Next.value (← Instr.fieldAt 29 (ρ 1) 3))) fun x17 => QG Tryd.prog C x15 true  (do pure (Next.value (← Instr.loadAt 22 x17))) fun x18 => QG Tryd.prog C x15 true  (builtin Builtin.len #[22] 3 [false].toArray [x18].toArray) fun x19 => QG Tryd.prog C x15 true  (do pure (Next.value (← Instr.fieldAt 29 (ρ 1) 0))) fun x20 => QG Tryd.prog C x15 true  (do pure (Next.value (← Instr.loadAt 5 x20))) fun x21 => QG Tryd.prog C x15 true  (do let d ← Deferred.ofValue (Value.func (Fn.func 79) #[] #[]) [x21].toArray; invoke d.target d.args) fun x22 => QG Tryd.prog C x15 true  (do pure (Next.value (← (do eqGuard BinOp.eql 3 (Operand.tmp 19) (Operand.tmp 22) x19 x22; binOp BinOp.eql 3 x19 x22)))) fun x23 => QK Tryd.prog C (do pure (Next.value (if ← asBool x15 then x23 else (Value.bool false)))) fun x24 => ∀ w', C w' → K Exit.normal (up (up (up (up (up (up (up (up (up (up (up (up (up (up (up (up (up (up ρ 8 x8) 9 x9) 10 x10) 11 x10) 12 x12) 13 x13) 14 x14) 15 x15) 16 x15) 17 x17) 18 x18) 19 x19) 20 x20) 21 x21) 22 x22) 23 x23) 24 x24) 4 x24) w'
theorem tree_mayExpr_R0_quiet {D : List Deferred} (C : World → Prop) {K : Exit → Sl → World → Prop} {ρ : Sl} {w : World} (hC : C { w with drawn := w.drawn + 1 }) (h : tree_mayExpr_R0_Q C K ρ) : W ⟨none, D⟩ Tryd.prog 88 tree_mayExpr_R0 K ρ w := by
  have e : tree_mayExpr_R0 = .region (idOf tree_mayExpr_R0) tree_mayExpr_R0_ops true := by kernel_rfl
  have q : sxq Tryd.prog C tree_mayExpr_R0_ops (fun ρ' => ∀ w', C w' → K .normal ρ' w') tree_mayExpr_R0_ops.toList ρ = tree_mayExpr_R0_Q C K ρ := by kernel_rfl
  rw [e]
  exact W_quiet C (by kernel_rfl) (by kernel_rfl) (by kernel_rfl) hC (Eq.mpr q h)
noncomputable def tree_mayExpr_R1_F (z : At) (K : Exit → Sl → World → Prop) (ρ : Sl) (w : World) : Prop :=
  VK Tryd.prog (Instr.fieldAt 29 (ρ 1) 0) w fun x25 w => VK Tryd.prog (Instr.loadAt 5 x25) w fun x26 w => BK Tryd.prog .eql 5 (.tmp 26) (.const (Value.int .u8 1)) x26 (Value.int .u8 1) w fun x28 w => CondK x28 (VK Tryd.prog (Instr.fieldAt 29 (ρ 1) 1) w fun x29 w => VK Tryd.prog (Instr.loadAt 2 x29) w fun x30 w => VK Tryd.prog (Instr.fieldAt 29 (ρ 3) 1) w fun x31 w => UK Tryd.prog (Instr.storeAt 2 x31 x30) w fun _ w => VG Tryd.prog (ρ 4) true (Instr.fieldAt 29 (ρ 1) 1) w fun x34 w => VG Tryd.prog (ρ 4) true (Instr.loadAt 2 x34) w fun x35 w => BG Tryd.prog (ρ 4) true .geq 2 (.tmp 35) (.const (Value.int .i64 0)) x35 (Value.int .i64 0) w fun x36 w => PK Tryd.prog (ρ 4) x36 (Value.bool false) w fun x37 w => VG Tryd.prog x37 true (Instr.fieldAt 29 (ρ 1) 1) w fun x39 w => VG Tryd.prog x37 true (Instr.loadAt 2 x39) w fun x40 w => BG Tryd.prog x37 true .lss 2 (.tmp 40) (.const (Value.int .i64 1000000000000000000)) x40 (Value.int .i64 1000000000000000000) w fun x41 w => PK Tryd.prog x37 x41 (Value.bool false) w fun x42 w => sx z Tryd.prog 88 tree_mayExpr_R2 K (up (up (up (up (up (up (up (up (up (up (up (up (up (up (up (up (up (up (up ρ 25 x25) 26 x26) 28 x28) 27 x28) 29 x29) 30 x30) 31 x31) 32 (ρ 4)) 33 (ρ 4)) 34 x34) 35 x35) 36 x36) 37 x37) 38 x37) 39 x39) 40 x40) 41 x41) 42 x42) 4 x42) w) (BK Tryd.prog .eql 5 (.tmp 26) (.const (Value.int .u8 2)) x26 (Value.int .u8 2) w fun x44 w => CondK x44 (sx z Tryd.prog 88 tree_mayExpr_R3 (blkK 0 (seqK (sx z Tryd.prog 88 tree_mayExpr_R2 K) K)) (up (up (up (up (up (up ρ 25 x25) 26 x26) 28 x28) 27 x28) 44 x44) 43 x44) w) (BK Tryd.prog .eql 5 (.tmp 26) (.const (Value.int .u8 3)) x26 (Value.int .u8 3) w fun x45 w => sx z Tryd.prog 88 tree_mayExpr_R3 (blkK 0 (seqK (sx z Tryd.prog 88 tree_mayExpr_R2 K) K)) (up (up (up (up (up (up (up (up ρ 25 x25) 26 x26) 28 x28) 27 x28) 44 x44) 43 x44) 45 x45) 43 x45) w))
theorem tree_mayExpr_R1_eq (z : At) (K : Exit → Sl → World → Prop) (ρ : Sl) (w : World) : sx z Tryd.prog 88 tree_mayExpr_R1 K ρ w = tree_mayExpr_R1_F z K ρ w := by kernel_rfl
noncomputable def tree_mayExpr_R2_F (z : At) (K : Exit → Sl → World → Prop) (ρ : Sl) (w : World) : Prop :=
  VG Tryd.prog (ρ 4) true (Instr.fieldAt 29 (ρ 3) 1) w fun x69 w => VG Tryd.prog (ρ 4) true (Instr.loadAt 2 x69) w fun x70 w => VG Tryd.prog (ρ 4) true (Instr.fieldAt 29 (ρ 1) 1) w fun x71 w => VG Tryd.prog (ρ 4) true (Instr.loadAt 2 x71) w fun x72 w => BG Tryd.prog (ρ 4) true .eql 2 (.tmp 70) (.tmp 72) x70 x72 w fun x73 w => PK Tryd.prog (ρ 4) x73 (Value.bool false) w fun x74 w => VG Tryd.prog x74 true (Instr.fieldAt 29 (ρ 3) 2) w fun x76 w => VG Tryd.prog x74 true (Instr.loadAt 9 x76) w fun x77 w => VG Tryd.prog x74 true (Instr.fieldAt 29 (ρ 1) 2) w fun x78 w => VG Tryd.prog x74 true (Instr.loadAt 9 x78) w fun x79 w => BG Tryd.prog x74 true .eql 9 (.tmp 77) (.tmp 79) x77 x79 w fun x80 w => PK Tryd.prog x74 x80 (Value.bool false) w fun x81 w => VG Tryd.prog x81 true (Instr.fieldAt 29 (ρ 1) 3) w fun x83 w => VG Tryd.prog x81 true (Instr.loadAt 22 x83) w fun x84 w => CG Tryd.prog x81 true (Value.func (Fn.func 57) #[] #[]) [x84, (Value.func (Fn.func 80) #[] #[])] w fun x85 w => VG Tryd.prog x81 true (Op.unary UnOp.not x85) w fun x86 w => PK Tryd.prog x81 x86 (Value.bool false) w fun x87 w => K .ret (up (up (up (up (up (up (up (up (up (up (up (up (up (up (up (up (up (up (up (up (up (up ρ 67 (ρ 4)) 68 (ρ 4)) 69 x69) 70 x70) 71 x71) 72 x72) 73 x73) 74 x74) 75 x74) 76 x76) 77 x77) 78 x78) 79 x79) 80 x80) 81 x81) 82 x81) 83 x83) 84 x84) 85 x85) 86 x86) 87 x87) 2 x87) w
theorem tree_mayExpr_R2_eq (z : At) (K : Exit → Sl → World → Prop) (ρ : Sl) (w : World) : sx z Tryd.prog 88 tree_mayExpr_R2 K ρ w = tree_mayExpr_R2_F z K ρ w := by kernel_rfl
noncomputable def tree_mayExpr_R3_F (z : At) (K : Exit → Sl → World → Prop) (ρ : Sl) (w : World) : Prop :=
  CondK (ρ 43) (VK Tryd.prog (Instr.fieldAt 29 (ρ 1) 2) w fun x46 w => VK Tryd.prog (Instr.loadAt 9 x46) w fun x47 w => VK Tryd.prog (Instr.fieldAt 29 (ρ 3) 2) w fun x48 w => UK Tryd.prog (Instr.storeAt 9 x48 x47) w fun _ w => VG Tryd.prog (ρ 4) true (Instr.fieldAt 29 (ρ 1) 2) w fun x51 w => VG Tryd.prog (ρ 4) true (Instr.loadAt 9 x51) w fun x52 w => CG Tryd.prog (ρ 4) true (Value.func (Fn.func 15) #[] #[]) [x52] w fun x53 w => PK Tryd.prog (ρ 4) x53 (Value.bool false) w fun x54 w => K .normal (up (up (up (up (up (up (up (up (up (up ρ 46 x46) 47 x47) 48 x48) 49 (ρ 4)) 50 (ρ 4)) 51 x51) 52 x52) 53 x53) 54 x54) 4 x54) w) (BK Tryd.prog .eql 5 (.tmp 26) (.const (Value.int .u8 5)) (ρ 26) (Value.int .u8 5) w fun x56 w => CondK x56 (VK Tryd.prog (Instr.fieldAt 29 (ρ 1) 2) w fun x57 w => VK Tryd.prog (Instr.loadAt 9 x57) w fun x58 w => VK Tryd.prog (Instr.fieldAt 29 (ρ 3) 2) w fun x59 w => UK Tryd.prog (Instr.storeAt 9 x59 x58) w fun _ w => W z Tryd.prog 88 tree_mayExpr_R4 K (up (up (up (up (up ρ 56 x56) 55 x56) 57 x57) 58 x58) 59 x59) w) (K .normal (up (up ρ 56 x56) 55 x56) w))
theorem tree_mayExpr_R3_eq (z : At) (K : Exit → Sl → World → Prop) (ρ : Sl) (w : World) : sx z Tryd.prog 88 tree_mayExpr_R3 K ρ w = tree_mayExpr_R3_F z K ρ w := by kernel_rfl
noncomputable def tree_mayExpr_R4_ops : Array Oper := opsOf tree_mayExpr_R4
def tree_mayExpr_R4_Q (C : World → Prop) (K : Exit → Sl → World → Prop) (ρ : Sl) : Prop :=
  QG Tryd.prog C (ρ 4) true  (do pure (Next.value (← Instr.sliceAt 116 (Value.pointer (some ⟨2, 0, none⟩)) none none none))) fun x62 => QG Tryd.prog C (ρ 4) true  (do pure (Next.value (← Instr.fieldAt 29 (ρ 1) 2))) fun x63 => QG Tryd.prog C (ρ 4) true  (do pure (Next.value (← Instr.loadAt 9 x63))) fun x64 => QG Tryd.prog C (ρ 4) true  (do let d ← Deferred.ofValue (Value.func (Fn.func 53) #[] #[]) [x62, x64].toArray; invoke d.target d.args) fun x65 => QK Tryd.prog C (do pure (Next.value (if ← asBool (ρ 4) then x65 else (Value.bool false)))) fun x66 => ∀ w', C w' → K Exit.normal (up (up (up (up (up (up (up (up ρ 60 (ρ 4)) 61 (ρ 4)) 62 x62) 63 x63) 64 x64) 65 x65) 66 x66) 4 x66) w'
theorem tree_mayExpr_R4_quiet {D : List Deferred} (C : World → Prop) {K : Exit → Sl → World → Prop} {ρ : Sl} {w : World} (hC : C { w with drawn := w.drawn + 1 }) (h : tree_mayExpr_R4_Q C K ρ) : W ⟨none, D⟩ Tryd.prog 88 tree_mayExpr_R4 K ρ w := by
  have e : tree_mayExpr_R4 = .region (idOf tree_mayExpr_R4) tree_mayExpr_R4_ops true := by kernel_rfl
  have q : sxq Tryd.prog C tree_mayExpr_R4_ops (fun ρ' => ∀ w', C w' → K .normal ρ' w') tree_mayExpr_R4_ops.toList ρ = tree_mayExpr_R4_Q C K ρ := by kernel_rfl
  rw [e]
  exact W_quiet C (by kernel_rfl) (by kernel_rfl) (by kernel_rfl) hC (Eq.mpr q h)
noncomputable def tree_mayExpr_F (a0 : Value) (w : World) (R : Value → World → Prop) : Prop :=
  VK Tryd.prog (Instr.box 29 a0) w fun x1 w => VK Tryd.prog (Instr.fieldAt 29 x1 0) w fun x5 w => VK Tryd.prog (Instr.loadAt 5 x5) w fun x6 w => VK Tryd.prog (Instr.build 29 [(0, x6)].toArray) w fun x7 w => VK Tryd.prog (Instr.alloc 29 true (.tuple #[])) w fun x3 w => UK Tryd.prog (Instr.storeAt 29 x3 x7) w fun _ w => W fn_ Tryd.prog 88 tree_mayExpr_R0 (seqK (sx fn_ Tryd.prog 88 tree_mayExpr_R1 (retK Tryd.prog [ResultVar.tmp 2] R)) (retK Tryd.prog [ResultVar.tmp 2] R)) (up (up (up (up (up (up (rho0 [a0]) 1 x1) 2 (Value.bool false)) 5 x5) 6 x6) 7 x7) 3 x3) w
theorem tree_mayExpr_eq (a0 : Value) (w : World) (R : Value → World → Prop) : sx fn_ Tryd.prog 88 tree_mayExpr_b (retK Tryd.prog Tryd.f59.results.toList R) (rho0 [a0]) w = tree_mayExpr_F a0 w R := by kernel_rfl
theorem tree_mayExpr_calls {a0 : Value} {w : World} {R : Value → World → Prop} (h : tree_mayExpr_F a0 w R) : Calls Tryd.prog 59 #[a0] w fun e w' => ∃ v, e = .returned v ∧ R v w' :=
  Go.X.calls_of_sx (n := 88) (c := tree_mayExpr_b) Tryd.func59 (by kernel_rfl) (by kernel_rfl) (Nat.le_of_ble_eq_true rfl) (by kernel_rfl) (Eq.mpr (tree_mayExpr_eq a0 w R) h)
noncomputable def tree_reduces_b : Code := (Tryd.f60.body).getD .skip
noncomputable def tree_reduces_F (a0 : Value) (w : World) (R : Value → World → Prop) : Prop :=
  BK Tryd.prog .eql 5 (.tmp 3) (.const (Value.int .u8 17)) a0 (Value.int .u8 17) w fun x4 w => MG Tryd.prog x4 false a0 w fun x6 w => BG Tryd.prog x4 false .eql 5 (.tmp 6) (.const (Value.int .u8 18)) x6 (Value.int .u8 18) w fun x7 w => PK Tryd.prog x4 (Value.bool true) x7 w fun x8 w => R x8 w
theorem tree_reduces_eq (a0 : Value) (w : World) (R : Value → World → Prop) : sx fn_ Tryd.prog 9 tree_reduces_b (retK Tryd.prog Tryd.f60.results.toList R) (rho0 [a0]) w = tree_reduces_F a0 w R := by kernel_rfl
theorem tree_reduces_calls {a0 : Value} {w : World} {R : Value → World → Prop} (h : tree_reduces_F a0 w R) : Calls Tryd.prog 60 #[a0] w fun e w' => ∃ v, e = .returned v ∧ R v w' :=
  Go.X.calls_of_sx (n := 9) (c := tree_reduces_b) Tryd.func60 (by kernel_rfl) (by kernel_rfl) (Nat.le_of_ble_eq_true rfl) (by kernel_rfl) (Eq.mpr (tree_reduces_eq a0 w R) h)
noncomputable def dispatcherref02_DeepExpr_b : Code := (Tryd.f87.body).getD .skip
noncomputable def dispatcherref02_DeepExpr_L0 : Code := cAt [1, 1, 0, 1, 0, 0] dispatcherref02_DeepExpr_b
noncomputable def dispatcherref02_DeepExpr_R1 : Code := cAt [1, 1, 1] dispatcherref02_DeepExpr_b
noncomputable def dispatcherref02_DeepExpr_L0_F (z : At) (K : Exit → Sl → World → Prop) (ρ : Sl) (w : World) : Prop :=
  VK Tryd.prog (Instr.fieldAt 29 (ρ 1) 3) w fun x6 w => VK Tryd.prog (Instr.loadAt 22 x6) w fun x7 w => IK Tryd.prog .len #[22] 3 [false] [x7] w fun x8 w => BK Tryd.prog .lss 3 (.tmp 5) (.tmp 8) (ρ 4) x8 w fun x9 w => CondK x9 (VK Tryd.prog (Instr.fieldAt 29 (ρ 1) 3) w fun x13 w => VK Tryd.prog (Instr.loadAt 22 x13) w fun x14 w => VK Tryd.prog (Instr.indexAt 22 x14 (ρ 4)) w fun x16 w => VK Tryd.prog (Instr.loadAt 29 x16) w fun x17 w => CK Tryd.prog (Value.func (Fn.func 87) #[] #[]) [x17] w fun x18 w => BK Tryd.prog .add 3 (.const (Value.int .i64 1)) (.tmp 18) (Value.int .i64 1) x18 w fun x19 w => IK Tryd.prog .max #[3, 3] 3 [false, false] [(ρ 3), x19] w fun x20 w => BK Tryd.prog .add 3 (.tmp 10) (.const (Value.int .i64 1)) (ρ 4) (Value.int .i64 1) w fun x11 w => K .normal (up (up (up (up (up (up (up (up (up (up (up (up (up (up (up (up (up (up ρ 5 (ρ 4)) 6 x6) 7 x7) 8 x8) 9 x9) 12 (ρ 3)) 13 x13) 14 x14) 15 (ρ 4)) 16 x16) 17 x17) 18 x18) 19 x19) 20 x20) 3 x20) 10 (ρ 4)) 11 x11) 4 x11) w) (K (.exit 0) (up (up (up (up (up ρ 5 (ρ 4)) 6 x6) 7 x7) 8 x8) 9 x9) w)
theorem dispatcherref02_DeepExpr_L0_eq (z : At) (K : Exit → Sl → World → Prop) (ρ : Sl) (w : World) : sx z Tryd.prog 22 dispatcherref02_DeepExpr_L0 K ρ w = dispatcherref02_DeepExpr_L0_F z K ρ w := by kernel_rfl
theorem dispatcherref02_DeepExpr_L0_ok : dstOk 22 dispatcherref02_DeepExpr_L0 = true := by kernel_rfl
noncomputable def dispatcherref02_DeepExpr_R1_F (z : At) (K : Exit → Sl → World → Prop) (ρ : Sl) (w : World) : Prop :=
  K .ret (up (up ρ 21 (ρ 3)) 2 (ρ 3)) w
theorem dispatcherref02_DeepExpr_R1_eq (z : At) (K : Exit → Sl → World → Prop) (ρ : Sl) (w : World) : sx z Tryd.prog 22 dispatcherref02_DeepExpr_R1 K ρ w = dispatcherref02_DeepExpr_R1_F z K ρ w := by kernel_rfl
noncomputable def dispatcherref02_DeepExpr_F (a0 : Value) (w : World) (R : Value → World → Prop) : Prop :=
  VK Tryd.prog (Instr.box 29 a0) w fun x1 w => W fn_ Tryd.prog 22 (Code.loop dispatcherref02_DeepExpr_L0) (blkK 0 (seqK (sx fn_ Tryd.prog 22 dispatcherref02_DeepExpr_R1 (retK Tryd.prog [ResultVar.tmp 2] R)) (retK Tryd.prog [ResultVar.tmp 2] R))) (up (up (up (up (rho0 [a0]) 1 x1) 2 (Value.int .i64 0)) 3 (Value.int .i64 1)) 4 (Value.int .i64 0)) w
theorem dispatcherref02_DeepExpr_eq (a0 : Value) (w : World) (R : Value → World → Prop) : sx fn_ Tryd.prog 22 dispatcherref02_DeepExpr_b (retK Tryd.prog Tryd.f87.results.toList R) (rho0 [a0]) w = dispatcherref02_DeepExpr_F a0 w R := by kernel_rfl
theorem dispatcherref02_DeepExpr_calls {a0 : Value} {w : World} {R : Value → World → Prop} (h : dispatcherref02_DeepExpr_F a0 w R) : Calls Tryd.prog 87 #[a0] w fun e w' => ∃ v, e = .returned v ∧ R v w' :=
  Go.X.calls_of_sx (n := 22) (c := dispatcherref02_DeepExpr_b) Tryd.func87 (by kernel_rfl) (by kernel_rfl) (Nat.le_of_ble_eq_true rfl) (by kernel_rfl) (Eq.mpr (dispatcherref02_DeepExpr_eq a0 w R) h)
noncomputable def dispatcherref02_Reduces_b : Code := (Tryd.f85.body).getD .skip
noncomputable def dispatcherref02_Reduces_F (a0 : Value) (w : World) (R : Value → World → Prop) : Prop :=
  BK Tryd.prog .eql 5 (.tmp 3) (.const (Value.int .u8 17)) a0 (Value.int .u8 17) w fun x4 w => MG Tryd.prog x4 false a0 w fun x6 w => BG Tryd.prog x4 false .eql 5 (.tmp 6) (.const (Value.int .u8 18)) x6 (Value.int .u8 18) w fun x7 w => PK Tryd.prog x4 (Value.bool true) x7 w fun x8 w => R x8 w
theorem dispatcherref02_Reduces_eq (a0 : Value) (w : World) (R : Value → World → Prop) : sx fn_ Tryd.prog 9 dispatcherref02_Reduces_b (retK Tryd.prog Tryd.f85.results.toList R) (rho0 [a0]) w = dispatcherref02_Reduces_F a0 w R := by kernel_rfl
theorem dispatcherref02_Reduces_calls {a0 : Value} {w : World} {R : Value → World → Prop} (h : dispatcherref02_Reduces_F a0 w R) : Calls Tryd.prog 85 #[a0] w fun e w' => ∃ v, e = .returned v ∧ R v w' :=
  Go.X.calls_of_sx (n := 9) (c := dispatcherref02_Reduces_b) Tryd.func85 (by kernel_rfl) (by kernel_rfl) (Nat.le_of_ble_eq_true rfl) (by kernel_rfl) (Eq.mpr (dispatcherref02_Reduces_eq a0 w R) h)
noncomputable def dispatcherref02_Plain_b : Code := (Tryd.f95.body).getD .skip
noncomputable def dispatcherref02_Plain_R0 : Code := cAt [1, 0, 1, 0, 1] dispatcherref02_Plain_b
noncomputable def dispatcherref02_Plain_R1 : Code := cAt [1, 1] dispatcherref02_Plain_b
noncomputable def dispatcherref02_Plain_R0_F (z : At) (K : Exit → Sl → World → Prop) (ρ : Sl) (w : World) : Prop :=
  CondK (ρ 4) (K .ret (up ρ 2 (Value.bool true)) w) (K .normal ρ w)
theorem dispatcherref02_Plain_R0_eq (z : At) (K : Exit → Sl → World → Prop) (ρ : Sl) (w : World) : sx z Tryd.prog 15 dispatcherref02_Plain_R0 K ρ w = dispatcherref02_Plain_R0_F z K ρ w := by kernel_rfl
noncomputable def dispatcherref02_Plain_R1_F (z : At) (K : Exit → Sl → World → Prop) (ρ : Sl) (w : World) : Prop :=
  K .ret (up ρ 2 (Value.bool false)) w
theorem dispatcherref02_Plain_R1_eq (z : At) (K : Exit → Sl → World → Prop) (ρ : Sl) (w : World) : sx z Tryd.prog 15 dispatcherref02_Plain_R1 K ρ w = dispatcherref02_Plain_R1_F z K ρ w := by kernel_rfl
noncomputable def dispatcherref02_Plain_F (a0 : Value) (w : World) (R : Value → World → Prop) : Prop :=
  BK Tryd.prog .eql 9 (.tmp 3) (.const (Value.string { data := #[114, 97, 110, 107] })) a0 (Value.string { data := #[114, 97, 110, 107] }) w fun x5 w => CondK x5 (sx fn_ Tryd.prog 15 dispatcherref02_Plain_R0 (blkK 0 (seqK (sx fn_ Tryd.prog 15 dispatcherref02_Plain_R1 (retK Tryd.prog [ResultVar.tmp 2] R)) (retK Tryd.prog [ResultVar.tmp 2] R))) (up (up (up (up (rho0 [a0]) 2 (Value.bool false)) 3 a0) 5 x5) 4 x5) w) (BK Tryd.prog .eql 9 (.tmp 3) (.const (Value.string { data := #[115, 105, 122, 101] })) a0 (Value.string { data := #[115, 105, 122, 101] }) w fun x6 w => CondK x6 (sx fn_ Tryd.prog 15 dispatcherref02_Plain_R0 (blkK 0 (seqK (sx fn_ Tryd.prog 15 dispatcherref02_Plain_R1 (retK Tryd.prog [ResultVar.tmp 2] R)) (retK Tryd.prog [ResultVar.tmp 2] R))) (up (up (up (up (up (up (rho0 [a0]) 2 (Value.bool false)) 3 a0) 5 x5) 4 x5) 6 x6) 4 x6) w) (BK Tryd.prog .eql 9 (.tmp 3) (.const (Value.string { data := #[97, 110, 121] })) a0 (Value.string { data := #[97, 110, 121] }) w fun x7 w => CondK x7 (sx fn_ Tryd.prog 15 dispatcherref02_Plain_R0 (blkK 0 (seqK (sx fn_ Tryd.prog 15 dispatcherref02_Plain_R1 (retK Tryd.prog [ResultVar.tmp 2] R)) (retK Tryd.prog [ResultVar.tmp 2] R))) (up (up (up (up (up (up (up (up (rho0 [a0]) 2 (Value.bool false)) 3 a0) 5 x5) 4 x5) 6 x6) 4 x6) 7 x7) 4 x7) w) (BK Tryd.prog .eql 9 (.tmp 3) (.const (Value.string { data := #[118, 97, 108, 117, 101] })) a0 (Value.string { data := #[118, 97, 108, 117, 101] }) w fun x8 w => CondK x8 (sx fn_ Tryd.prog 15 dispatcherref02_Plain_R0 (blkK 0 (seqK (sx fn_ Tryd.prog 15 dispatcherref02_Plain_R1 (retK Tryd.prog [ResultVar.tmp 2] R)) (retK Tryd.prog [ResultVar.tmp 2] R))) (up (up (up (up (up (up (up (up (up (up (rho0 [a0]) 2 (Value.bool false)) 3 a0) 5 x5) 4 x5) 6 x6) 4 x6) 7 x7) 4 x7) 8 x8) 4 x8) w) (BK Tryd.prog .eql 9 (.tmp 3) (.const (Value.string { data := #[112, 101, 101, 114] })) a0 (Value.string { data := #[112, 101, 101, 114] }) w fun x9 w => CondK x9 (sx fn_ Tryd.prog 15 dispatcherref02_Plain_R0 (blkK 0 (seqK (sx fn_ Tryd.prog 15 dispatcherref02_Plain_R1 (retK Tryd.prog [ResultVar.tmp 2] R)) (retK Tryd.prog [ResultVar.tmp 2] R))) (up (up (up (up (up (up (up (up (up (up (up (up (rho0 [a0]) 2 (Value.bool false)) 3 a0) 5 x5) 4 x5) 6 x6) 4 x6) 7 x7) 4 x7) 8 x8) 4 x8) 9 x9) 4 x9) w) (BK Tryd.prog .eql 9 (.tmp 3) (.const (Value.string { data := #[116, 97, 103] })) a0 (Value.string { data := #[116, 97, 103] }) w fun x10 w => CondK x10 (sx fn_ Tryd.prog 15 dispatcherref02_Plain_R0 (blkK 0 (seqK (sx fn_ Tryd.prog 15 dispatcherref02_Plain_R1 (retK Tryd.prog [ResultVar.tmp 2] R)) (retK Tryd.prog [ResultVar.tmp 2] R))) (up (up (up (up (up (up (up (up (up (up (up (up (up (up (rho0 [a0]) 2 (Value.bool false)) 3 a0) 5 x5) 4 x5) 6 x6) 4 x6) 7 x7) 4 x7) 8 x8) 4 x8) 9 x9) 4 x9) 10 x10) 4 x10) w) (BK Tryd.prog .eql 9 (.tmp 3) (.const (Value.string { data := #[102, 108, 97, 103] })) a0 (Value.string { data := #[102, 108, 97, 103] }) w fun x11 w => CondK x11 (sx fn_ Tryd.prog 15 dispatcherref02_Plain_R0 (blkK 0 (seqK (sx fn_ Tryd.prog 15 dispatcherref02_Plain_R1 (retK Tryd.prog [ResultVar.tmp 2] R)) (retK Tryd.prog [ResultVar.tmp 2] R))) (up (up (up (up (up (up (up (up (up (up (up (up (up (up (up (up (rho0 [a0]) 2 (Value.bool false)) 3 a0) 5 x5) 4 x5) 6 x6) 4 x6) 7 x7) 4 x7) 8 x8) 4 x8) 9 x9) 4 x9) 10 x10) 4 x10) 11 x11) 4 x11) w) (BK Tryd.prog .eql 9 (.tmp 3) (.const (Value.string { data := #[105, 110, 100, 101, 120] })) a0 (Value.string { data := #[105, 110, 100, 101, 120] }) w fun x12 w => CondK x12 (sx fn_ Tryd.prog 15 dispatcherref02_Plain_R0 (blkK 0 (seqK (sx fn_ Tryd.prog 15 dispatcherref02_Plain_R1 (retK Tryd.prog [ResultVar.tmp 2] R)) (retK Tryd.prog [ResultVar.tmp 2] R))) (up (up (up (up (up (up (up (up (up (up (up (up (up (up (up (up (up (up (rho0 [a0]) 2 (Value.bool false)) 3 a0) 5 x5) 4 x5) 6 x6) 4 x6) 7 x7) 4 x7) 8 x8) 4 x8) 9 x9) 4 x9) 10 x10) 4 x10) 11 x11) 4 x11) 12 x12) 4 x12) w) (BK Tryd.prog .eql 9 (.tmp 3) (.const (Value.string { data := #[114, 101, 113] })) a0 (Value.string { data := #[114, 101, 113] }) w fun x13 w => CondK x13 (sx fn_ Tryd.prog 15 dispatcherref02_Plain_R0 (blkK 0 (seqK (sx fn_ Tryd.prog 15 dispatcherref02_Plain_R1 (retK Tryd.prog [ResultVar.tmp 2] R)) (retK Tryd.prog [ResultVar.tmp 2] R))) (up (up (up (up (up (up (up (up (up (up (up (up (up (up (up (up (up (up (up (up (rho0 [a0]) 2 (Value.bool false)) 3 a0) 5 x5) 4 x5) 6 x6) 4 x6) 7 x7) 4 x7) 8 x8) 4 x8) 9 x9) 4 x9) 10 x10) 4 x10) 11 x11) 4 x11) 12 x12) 4 x12) 13 x13) 4 x13) w) (BK Tryd.prog .eql 9 (.tmp 3) (.const (Value.string { data := #[99, 111, 109, 109] })) a0 (Value.string { data := #[99, 111, 109, 109] }) w fun x14 w => sx fn_ Tryd.prog 15 dispatcherref02_Plain_R0 (blkK 0 (seqK (sx fn_ Tryd.prog 15 dispatcherref02_Plain_R1 (retK Tryd.prog [ResultVar.tmp 2] R)) (retK Tryd.prog [ResultVar.tmp 2] R))) (up (up (up (up (up (up (up (up (up (up (up (up (up (up (up (up (up (up (up (up (up (up (rho0 [a0]) 2 (Value.bool false)) 3 a0) 5 x5) 4 x5) 6 x6) 4 x6) 7 x7) 4 x7) 8 x8) 4 x8) 9 x9) 4 x9) 10 x10) 4 x10) 11 x11) 4 x11) 12 x12) 4 x12) 13 x13) 4 x13) 14 x14) 4 x14) w)))))))))
theorem dispatcherref02_Plain_eq (a0 : Value) (w : World) (R : Value → World → Prop) : sx fn_ Tryd.prog 15 dispatcherref02_Plain_b (retK Tryd.prog Tryd.f95.results.toList R) (rho0 [a0]) w = dispatcherref02_Plain_F a0 w R := by kernel_rfl
theorem dispatcherref02_Plain_calls {a0 : Value} {w : World} {R : Value → World → Prop} (h : dispatcherref02_Plain_F a0 w R) : Calls Tryd.prog 95 #[a0] w fun e w' => ∃ v, e = .returned v ∧ R v w' :=
  Go.X.calls_of_sx (n := 15) (c := dispatcherref02_Plain_b) Tryd.func95 (by kernel_rfl) (by kernel_rfl) (Nat.le_of_ble_eq_true rfl) (by kernel_rfl) (Eq.mpr (dispatcherref02_Plain_eq a0 w R) h)
noncomputable def slices_Index_string_string_b : Code := (Tryd.f77.body).getD .skip
noncomputable def slices_Index_string_string_L0 : Code := cAt [1, 0, 1, 0, 0] slices_Index_string_string_b
noncomputable def slices_Index_string_string_R1 : Code := cAt [1, 1] slices_Index_string_string_b
noncomputable def slices_Index_string_string_L0_F (z : At) (K : Exit → Sl → World → Prop) (ρ : Sl) (w : World) : Prop :=
  BK Tryd.prog .lss 3 (.tmp 8) (.tmp 7) (ρ 8) (ρ 7) w fun x9 w => CondK x9 (VK Tryd.prog (Instr.indexAt 91 (ρ 0) (ρ 8)) w fun x14 w => VK Tryd.prog (Instr.loadAt 9 x14) w fun x15 w => BK Tryd.prog .eql 9 (.tmp 11) (.tmp 15) (ρ 1) x15 w fun x16 w => CondK x16 (K .ret (up (up (up (up (up (up (up (up (up (up (up ρ 9 x9) 10 (ρ 8)) 5 (ρ 8)) 11 (ρ 1)) 12 (ρ 0)) 13 (ρ 8)) 14 x14) 15 x15) 16 x16) 17 (ρ 8)) 4 (ρ 8)) w) (BK Tryd.prog .add 3 (.tmp 8) (.const (Value.int .i64 1)) (ρ 8) (Value.int .i64 1) w fun x18 w => K .normal (up (up (up (up (up (up (up (up (up (up (up ρ 9 x9) 10 (ρ 8)) 5 (ρ 8)) 11 (ρ 1)) 12 (ρ 0)) 13 (ρ 8)) 14 x14) 15 x15) 16 x16) 18 x18) 8 x18) w)) (K (.exit 0) (up ρ 9 x9) w)
theorem slices_Index_string_string_L0_eq (z : At) (K : Exit → Sl → World → Prop) (ρ : Sl) (w : World) : sx z Tryd.prog 19 slices_Index_string_string_L0 K ρ w = slices_Index_string_string_L0_F z K ρ w := by kernel_rfl
theorem slices_Index_string_string_L0_ok : dstOk 19 slices_Index_string_string_L0 = true := by kernel_rfl
noncomputable def slices_Index_string_string_R1_F (z : At) (K : Exit → Sl → World → Prop) (ρ : Sl) (w : World) : Prop :=
  K .ret (up ρ 4 (Value.int .i64 (-1))) w
theorem slices_Index_string_string_R1_eq (z : At) (K : Exit → Sl → World → Prop) (ρ : Sl) (w : World) : sx z Tryd.prog 19 slices_Index_string_string_R1 K ρ w = slices_Index_string_string_R1_F z K ρ w := by kernel_rfl
noncomputable def slices_Index_string_string_F (a0 a1 : Value) (w : World) (R : Value → World → Prop) : Prop :=
  IK Tryd.prog .len #[91] 3 [false] [a0] w fun x7 w => W fn_ Tryd.prog 19 (Code.loop slices_Index_string_string_L0) (blkK 0 (seqK (sx fn_ Tryd.prog 19 slices_Index_string_string_R1 (retK Tryd.prog [ResultVar.tmp 4] R)) (retK Tryd.prog [ResultVar.tmp 4] R))) (up (up (up (up (rho0 [a0, a1]) 4 (Value.int .i64 0)) 6 a0) 7 x7) 8 (Value.int .i64 0)) w
theorem slices_Index_string_string_eq (a0 a1 : Value) (w : World) (R : Value → World → Prop) : sx fn_ Tryd.prog 19 slices_Index_string_string_b (retK Tryd.prog Tryd.f77.results.toList R) (rho0 [a0, a1]) w = slices_Index_string_string_F a0 a1 w R := by kernel_rfl
theorem slices_Index_string_string_calls {a0 a1 : Value} {w : World} {R : Value → World → Prop} (h : slices_Index_string_string_F a0 a1 w R) : Calls Tryd.prog 77 #[a0, a1] w fun e w' => ∃ v, e = .returned v ∧ R v w' :=
  Go.X.calls_of_sx (n := 19) (c := slices_Index_string_string_b) Tryd.func77 (by kernel_rfl) (by kernel_rfl) (Nat.le_of_ble_eq_true rfl) (by kernel_rfl) (Eq.mpr (slices_Index_string_string_eq a0 a1 w R) h)
noncomputable def slices_IndexFunc_tree_Expr_tree_Expr_b : Code := (Tryd.f78.body).getD .skip
noncomputable def slices_IndexFunc_tree_Expr_tree_Expr_L0 : Code := cAt [1, 0, 1, 0, 0] slices_IndexFunc_tree_Expr_tree_Expr_b
noncomputable def slices_IndexFunc_tree_Expr_tree_Expr_R1 : Code := cAt [1, 1] slices_IndexFunc_tree_Expr_tree_Expr_b
noncomputable def slices_IndexFunc_tree_Expr_tree_Expr_L0_F (z : At) (K : Exit → Sl → World → Prop) (ρ : Sl) (w : World) : Prop :=
  BK Tryd.prog .lss 3 (.tmp 8) (.tmp 7) (ρ 8) (ρ 7) w fun x9 w => CondK x9 (VK Tryd.prog (Instr.indexAt 22 (ρ 0) (ρ 8)) w fun x14 w => VK Tryd.prog (Instr.loadAt 29 x14) w fun x15 w => CK Tryd.prog (ρ 1) [x15] w fun x16 w => CondK x16 (K .ret (up (up (up (up (up (up (up (up (up (up (up ρ 9 x9) 10 (ρ 8)) 5 (ρ 8)) 11 (ρ 1)) 12 (ρ 0)) 13 (ρ 8)) 14 x14) 15 x15) 16 x16) 17 (ρ 8)) 4 (ρ 8)) w) (BK Tryd.prog .add 3 (.tmp 8) (.const (Value.int .i64 1)) (ρ 8) (Value.int .i64 1) w fun x18 w => K .normal (up (up (up (up (up (up (up (up (up (up (up ρ 9 x9) 10 (ρ 8)) 5 (ρ 8)) 11 (ρ 1)) 12 (ρ 0)) 13 (ρ 8)) 14 x14) 15 x15) 16 x16) 18 x18) 8 x18) w)) (K (.exit 0) (up ρ 9 x9) w)
theorem slices_IndexFunc_tree_Expr_tree_Expr_L0_eq (z : At) (K : Exit → Sl → World → Prop) (ρ : Sl) (w : World) : sx z Tryd.prog 19 slices_IndexFunc_tree_Expr_tree_Expr_L0 K ρ w = slices_IndexFunc_tree_Expr_tree_Expr_L0_F z K ρ w := by kernel_rfl
theorem slices_IndexFunc_tree_Expr_tree_Expr_L0_ok : dstOk 19 slices_IndexFunc_tree_Expr_tree_Expr_L0 = true := by kernel_rfl
noncomputable def slices_IndexFunc_tree_Expr_tree_Expr_R1_F (z : At) (K : Exit → Sl → World → Prop) (ρ : Sl) (w : World) : Prop :=
  K .ret (up ρ 4 (Value.int .i64 (-1))) w
theorem slices_IndexFunc_tree_Expr_tree_Expr_R1_eq (z : At) (K : Exit → Sl → World → Prop) (ρ : Sl) (w : World) : sx z Tryd.prog 19 slices_IndexFunc_tree_Expr_tree_Expr_R1 K ρ w = slices_IndexFunc_tree_Expr_tree_Expr_R1_F z K ρ w := by kernel_rfl
noncomputable def slices_IndexFunc_tree_Expr_tree_Expr_F (a0 a1 : Value) (w : World) (R : Value → World → Prop) : Prop :=
  IK Tryd.prog .len #[22] 3 [false] [a0] w fun x7 w => W fn_ Tryd.prog 19 (Code.loop slices_IndexFunc_tree_Expr_tree_Expr_L0) (blkK 0 (seqK (sx fn_ Tryd.prog 19 slices_IndexFunc_tree_Expr_tree_Expr_R1 (retK Tryd.prog [ResultVar.tmp 4] R)) (retK Tryd.prog [ResultVar.tmp 4] R))) (up (up (up (up (rho0 [a0, a1]) 4 (Value.int .i64 0)) 6 a0) 7 x7) 8 (Value.int .i64 0)) w
theorem slices_IndexFunc_tree_Expr_tree_Expr_eq (a0 a1 : Value) (w : World) (R : Value → World → Prop) : sx fn_ Tryd.prog 19 slices_IndexFunc_tree_Expr_tree_Expr_b (retK Tryd.prog Tryd.f78.results.toList R) (rho0 [a0, a1]) w = slices_IndexFunc_tree_Expr_tree_Expr_F a0 a1 w R := by kernel_rfl
theorem slices_IndexFunc_tree_Expr_tree_Expr_calls {a0 a1 : Value} {w : World} {R : Value → World → Prop} (h : slices_IndexFunc_tree_Expr_tree_Expr_F a0 a1 w R) : Calls Tryd.prog 78 #[a0, a1] w fun e w' => ∃ v, e = .returned v ∧ R v w' :=
  Go.X.calls_of_sx (n := 19) (c := slices_IndexFunc_tree_Expr_tree_Expr_b) Tryd.func78 (by kernel_rfl) (by kernel_rfl) (Nat.le_of_ble_eq_true rfl) (by kernel_rfl) (Eq.mpr (slices_IndexFunc_tree_Expr_tree_Expr_eq a0 a1 w R) h)
noncomputable def tree_sides_b : Code := (Tryd.f79.body).getD .skip
noncomputable def tree_sides_F (a0 : Value) (w : World) (R : Value → World → Prop) : Prop :=
  BK Tryd.prog .geq 5 (.tmp 4) (.const (Value.int .u8 8)) a0 (Value.int .u8 8) w fun x5 w => MG Tryd.prog x5 true a0 w fun x7 w => BG Tryd.prog x5 true .leq 5 (.tmp 7) (.const (Value.int .u8 20)) x7 (Value.int .u8 20) w fun x8 w => PK Tryd.prog x5 x8 (Value.bool false) w fun x9 w => CondK x9 (R (Value.int .i64 2) w) (BK Tryd.prog .eql 5 (.tmp 11) (.const (Value.int .u8 3)) a0 (Value.int .u8 3) w fun x12 w => MG Tryd.prog x12 false a0 w fun x14 w => BG Tryd.prog x12 false .eql 5 (.tmp 14) (.const (Value.int .u8 4)) x14 (Value.int .u8 4) w fun x15 w => PK Tryd.prog x12 (Value.bool true) x15 w fun x16 w => MG Tryd.prog x16 false a0 w fun x18 w => BG Tryd.prog x16 false .eql 5 (.tmp 18) (.const (Value.int .u8 6)) x18 (Value.int .u8 6) w fun x19 w => PK Tryd.prog x16 (Value.bool true) x19 w fun x20 w => MG Tryd.prog x20 false a0 w fun x22 w => BG Tryd.prog x20 false .eql 5 (.tmp 22) (.const (Value.int .u8 7)) x22 (Value.int .u8 7) w fun x23 w => PK Tryd.prog x20 (Value.bool true) x23 w fun x24 w => CondK x24 (R (Value.int .i64 1) w) (R (Value.int .i64 0) w))
theorem tree_sides_eq (a0 : Value) (w : World) (R : Value → World → Prop) : sx fn_ Tryd.prog 25 tree_sides_b (retK Tryd.prog Tryd.f79.results.toList R) (rho0 [a0]) w = tree_sides_F a0 w R := by kernel_rfl
theorem tree_sides_calls {a0 : Value} {w : World} {R : Value → World → Prop} (h : tree_sides_F a0 w R) : Calls Tryd.prog 79 #[a0] w fun e w' => ∃ v, e = .returned v ∧ R v w' :=
  Go.X.calls_of_sx (n := 25) (c := tree_sides_b) Tryd.func79 (by kernel_rfl) (by kernel_rfl) (Nat.le_of_ble_eq_true rfl) (by kernel_rfl) (Eq.mpr (tree_sides_eq a0 w R) h)
noncomputable def tree_mayExpr_1_b : Code := (Tryd.f80.body).getD .skip
noncomputable def tree_mayExpr_1_F (a0 : Value) (w : World) (R : Value → World → Prop) : Prop :=
  VK Tryd.prog (Instr.box 29 a0) w fun x1 w => VK Tryd.prog (Instr.loadAt 29 x1) w fun x3 w => CK Tryd.prog (Value.func (Fn.func 59) #[] #[]) [x3] w fun x4 w => VK Tryd.prog (Op.unary UnOp.not x4) w fun x5 w => R x5 w
theorem tree_mayExpr_1_eq (a0 : Value) (w : World) (R : Value → World → Prop) : sx fn_ Tryd.prog 6 tree_mayExpr_1_b (retK Tryd.prog Tryd.f80.results.toList R) (rho0 [a0]) w = tree_mayExpr_1_F a0 w R := by kernel_rfl
theorem tree_mayExpr_1_calls {a0 : Value} {w : World} {R : Value → World → Prop} (h : tree_mayExpr_1_F a0 w R) : Calls Tryd.prog 80 #[a0] w fun e w' => ∃ v, e = .returned v ∧ R v w' :=
  Go.X.calls_of_sx (n := 6) (c := tree_mayExpr_1_b) Tryd.func80 (by kernel_rfl) (by kernel_rfl) (Nat.le_of_ble_eq_true rfl) (by kernel_rfl) (Eq.mpr (tree_mayExpr_1_eq a0 w R) h)
noncomputable def bound_expr_b : Code := (Tryd.f91.body).getD .skip
noncomputable def bound_expr_R0 : Code := cAt [1, 1, 1] bound_expr_b
noncomputable def bound_expr_L1 : Code := cAt [1, 1, 1, 0, 1, 0, 0] bound_expr_b
noncomputable def bound_expr_R2 : Code := cAt [1, 1, 1, 1] bound_expr_b
noncomputable def bound_expr_R0_F (z : At) (K : Exit → Sl → World → Prop) (ρ : Sl) (w : World) : Prop :=
  VK Tryd.prog (Instr.fieldAt 29 (ρ 1) 3) w fun x14 w => VK Tryd.prog (Instr.loadAt 22 x14) w fun x15 w => IK Tryd.prog .len #[22] 3 [false] [x15] w fun x16 w => W z Tryd.prog 27 (Code.loop bound_expr_L1) (blkK 0 (seqK (sx z Tryd.prog 27 bound_expr_R2 K) K)) (up (up (up (up ρ 14 x14) 15 x15) 16 x16) 17 (Value.int .i64 0)) w
theorem bound_expr_R0_eq (z : At) (K : Exit → Sl → World → Prop) (ρ : Sl) (w : World) : sx z Tryd.prog 27 bound_expr_R0 K ρ w = bound_expr_R0_F z K ρ w := by kernel_rfl
noncomputable def bound_expr_L1_F (z : At) (K : Exit → Sl → World → Prop) (ρ : Sl) (w : World) : Prop :=
  BK Tryd.prog .lss 3 (.tmp 17) (.tmp 16) (ρ 17) (ρ 16) w fun x18 w => CondK x18 (VK Tryd.prog (Instr.indexAt 22 (ρ 15) (ρ 17)) w fun x19 w => VK Tryd.prog (Instr.loadAt 29 x19) w fun x20 w => VK Tryd.prog (Instr.alloc 29 true (.tuple #[])) w fun x5 w => UK Tryd.prog (Instr.storeAt 29 x5 x20) w fun _ w => VK Tryd.prog (Instr.loadAt 29 x5) w fun x22 w => CK Tryd.prog (Value.func (Fn.func 91) #[] #[]) [x22] w fun x23 w => BK Tryd.prog .add 3 (.tmp 21) (.tmp 23) (ρ 3) x23 w fun x24 w => BK Tryd.prog .add 3 (.tmp 17) (.const (Value.int .i64 1)) (ρ 17) (Value.int .i64 1) w fun x25 w => K .normal (up (up (up (up (up (up (up (up (up (up (up ρ 18 x18) 19 x19) 20 x20) 5 x5) 21 (ρ 3)) 22 x22) 23 x23) 24 x24) 3 x24) 25 x25) 17 x25) w) (K (.exit 0) (up ρ 18 x18) w)
theorem bound_expr_L1_eq (z : At) (K : Exit → Sl → World → Prop) (ρ : Sl) (w : World) : sx z Tryd.prog 27 bound_expr_L1 K ρ w = bound_expr_L1_F z K ρ w := by kernel_rfl
theorem bound_expr_L1_ok : dstOk 27 bound_expr_L1 = true := by kernel_rfl
noncomputable def bound_expr_R2_F (z : At) (K : Exit → Sl → World → Prop) (ρ : Sl) (w : World) : Prop :=
  K .ret (up (up ρ 26 (ρ 3)) 2 (ρ 3)) w
theorem bound_expr_R2_eq (z : At) (K : Exit → Sl → World → Prop) (ρ : Sl) (w : World) : sx z Tryd.prog 27 bound_expr_R2 K ρ w = bound_expr_R2_F z K ρ w := by kernel_rfl
noncomputable def bound_expr_F (a0 : Value) (w : World) (R : Value → World → Prop) : Prop :=
  VK Tryd.prog (Instr.box 29 a0) w fun x1 w => VK Tryd.prog (Instr.fieldAt 29 x1 0) w fun x6 w => VK Tryd.prog (Instr.loadAt 5 x6) w fun x7 w => BK Tryd.prog .eql 5 (.tmp 7) (.const (Value.int .u8 19)) x7 (Value.int .u8 19) w fun x8 w => VG Tryd.prog x8 false (Instr.fieldAt 29 x1 0) w fun x10 w => VG Tryd.prog x8 false (Instr.loadAt 5 x10) w fun x11 w => BG Tryd.prog x8 false .eql 5 (.tmp 11) (.const (Value.int .u8 20)) x11 (Value.int .u8 20) w fun x12 w => PK Tryd.prog x8 (Value.bool true) x12 w fun x13 w => CondK x13 (sx fn_ Tryd.prog 27 bound_expr_R0 (retK Tryd.prog [ResultVar.tmp 2] R) (up (up (up (up (up (up (up (up (up (up (up (up (rho0 [a0]) 1 x1) 2 (Value.int .i64 0)) 3 (Value.int .i64 1)) 6 x6) 7 x7) 8 x8) 9 x8) 10 x10) 11 x11) 12 x12) 13 x13) 3 (Value.int .i64 3)) w) (sx fn_ Tryd.prog 27 bound_expr_R0 (retK Tryd.prog [ResultVar.tmp 2] R) (up (up (up (up (up (up (up (up (up (up (up (rho0 [a0]) 1 x1) 2 (Value.int .i64 0)) 3 (Value.int .i64 1)) 6 x6) 7 x7) 8 x8) 9 x8) 10 x10) 11 x11) 12 x12) 13 x13) w)
theorem bound_expr_eq (a0 : Value) (w : World) (R : Value → World → Prop) : sx fn_ Tryd.prog 27 bound_expr_b (retK Tryd.prog Tryd.f91.results.toList R) (rho0 [a0]) w = bound_expr_F a0 w R := by kernel_rfl
theorem bound_expr_calls {a0 : Value} {w : World} {R : Value → World → Prop} (h : bound_expr_F a0 w R) : Calls Tryd.prog 91 #[a0] w fun e w' => ∃ v, e = .returned v ∧ R v w' :=
  Go.X.calls_of_sx (n := 27) (c := bound_expr_b) Tryd.func91 (by kernel_rfl) (by kernel_rfl) (Nat.le_of_ble_eq_true rfl) (by kernel_rfl) (Eq.mpr (bound_expr_eq a0 w R) h)
end Go.Proofs.YtpkfbaagpjdifaaDoor.XF
set_option linter.unusedVariables false
namespace Go.Proofs.YtpkfbaagpjdifaaDoor.XK
open Go Go.X
theorem fo25_0 {w : World} {K : Value → World → Prop} (a : Addr) : VK Tryd.prog (Instr.fieldAt 25 (.pointer (some a)) 0) w K = K (.pointer (some (a.add 0))) w := fo (by kernel_rfl) a
theorem fo25_1 {w : World} {K : Value → World → Prop} (a : Addr) : VK Tryd.prog (Instr.fieldAt 25 (.pointer (some a)) 1) w K = K (.pointer (some (a.add 1))) w := fo (by kernel_rfl) a
theorem fo25_2 {w : World} {K : Value → World → Prop} (a : Addr) : VK Tryd.prog (Instr.fieldAt 25 (.pointer (some a)) 2) w K = K (.pointer (some (a.add 2))) w := fo (by kernel_rfl) a
theorem fo25_3 {w : World} {K : Value → World → Prop} (a : Addr) : VK Tryd.prog (Instr.fieldAt 25 (.pointer (some a)) 3) w K = K (.pointer (some (a.add 3))) w := fo (by kernel_rfl) a
theorem fo25_4 {w : World} {K : Value → World → Prop} (a : Addr) : VK Tryd.prog (Instr.fieldAt 25 (.pointer (some a)) 4) w K = K (.pointer (some (a.add 4))) w := fo (by kernel_rfl) a
theorem fo25_5 {w : World} {K : Value → World → Prop} (a : Addr) : VK Tryd.prog (Instr.fieldAt 25 (.pointer (some a)) 5) w K = K (.pointer (some (a.add 5))) w := fo (by kernel_rfl) a
theorem fo25_6 {w : World} {K : Value → World → Prop} (a : Addr) : VK Tryd.prog (Instr.fieldAt 25 (.pointer (some a)) 6) w K = K (.pointer (some (a.add 6))) w := fo (by kernel_rfl) a
theorem fo25_7 {w : World} {K : Value → World → Prop} (a : Addr) : VK Tryd.prog (Instr.fieldAt 25 (.pointer (some a)) 7) w K = K (.pointer (some (a.add 7))) w := fo (by kernel_rfl) a
theorem fo29_0 {w : World} {K : Value → World → Prop} (a : Addr) : VK Tryd.prog (Instr.fieldAt 29 (.pointer (some a)) 0) w K = K (.pointer (some (a.add 0))) w := fo (by kernel_rfl) a
theorem fo29_1 {w : World} {K : Value → World → Prop} (a : Addr) : VK Tryd.prog (Instr.fieldAt 29 (.pointer (some a)) 1) w K = K (.pointer (some (a.add 1))) w := fo (by kernel_rfl) a
theorem fo29_2 {w : World} {K : Value → World → Prop} (a : Addr) : VK Tryd.prog (Instr.fieldAt 29 (.pointer (some a)) 2) w K = K (.pointer (some (a.add 2))) w := fo (by kernel_rfl) a
theorem fo29_3 {w : World} {K : Value → World → Prop} (a : Addr) : VK Tryd.prog (Instr.fieldAt 29 (.pointer (some a)) 3) w K = K (.pointer (some (a.add 3))) w := fo (by kernel_rfl) a
theorem fo34_0 {w : World} {K : Value → World → Prop} (a : Addr) : VK Tryd.prog (Instr.fieldAt 34 (.pointer (some a)) 0) w K = K (.pointer (some (a.add 0))) w := fo (by kernel_rfl) a
theorem fo34_1 {w : World} {K : Value → World → Prop} (a : Addr) : VK Tryd.prog (Instr.fieldAt 34 (.pointer (some a)) 1) w K = K (.pointer (some (a.add 1))) w := fo (by kernel_rfl) a
theorem fo43_0 {w : World} {K : Value → World → Prop} (a : Addr) : VK Tryd.prog (Instr.fieldAt 43 (.pointer (some a)) 0) w K = K (.pointer (some (a.add 0))) w := fo (by kernel_rfl) a
theorem fo43_1 {w : World} {K : Value → World → Prop} (a : Addr) : VK Tryd.prog (Instr.fieldAt 43 (.pointer (some a)) 1) w K = K (.pointer (some (a.add 1))) w := fo (by kernel_rfl) a
theorem ld2 {w : World} {K : Value → World → Prop} (a : Addr) : VK Tryd.prog (Instr.loadAt 2 (.pointer (some a))) w K = ldK (w.cell? a) (ldStuck Tryd.prog 2 a K w) K w := ldE Tryd.underlying2 rfl a
theorem ld3 {w : World} {K : Value → World → Prop} (a : Addr) : VK Tryd.prog (Instr.loadAt 3 (.pointer (some a))) w K = ldK (w.cell? a) (ldStuck Tryd.prog 3 a K w) K w := ldE Tryd.underlying3 rfl a
theorem ld5 {w : World} {K : Value → World → Prop} (a : Addr) : VK Tryd.prog (Instr.loadAt 5 (.pointer (some a))) w K = ldK (w.cell? a) (ldStuck Tryd.prog 5 a K w) K w := ldE Tryd.underlying5 rfl a
theorem ld9 {w : World} {K : Value → World → Prop} (a : Addr) : VK Tryd.prog (Instr.loadAt 9 (.pointer (some a))) w K = ldK (w.cell? a) (ldStuck Tryd.prog 9 a K w) K w := ldE Tryd.underlying9 rfl a
theorem ld22 {w : World} {K : Value → World → Prop} (a : Addr) : VK Tryd.prog (Instr.loadAt 22 (.pointer (some a))) w K = ldK (w.cell? a) (ldStuck Tryd.prog 22 a K w) K w := ldE Tryd.underlying22 rfl a
theorem ld23 {w : World} {K : Value → World → Prop} (a : Addr) : VK Tryd.prog (Instr.loadAt 23 (.pointer (some a))) w K = ldK (w.cell? a) (ldStuck Tryd.prog 23 a K w) K w := ldE Tryd.underlying23 rfl a
theorem ld32 {w : World} {K : Value → World → Prop} (a : Addr) : VK Tryd.prog (Instr.loadAt 32 (.pointer (some a))) w K = ldK (w.cell? a) (ldStuck Tryd.prog 32 a K w) K w := ldE Tryd.underlying32 rfl a
theorem len9 {w : World} {K : Value → World → Prop} (ty : TypeId) (cs : List Bool) (s : ByteArray) : IK Tryd.prog .len #[9] ty cs [.string s] w K = K (.int .i64 s.size) w := len_str Tryd.underlying9 cs s
theorem len22 {w : World} {K : Value → World → Prop} (ty : TypeId) (cs : List Bool) (A : Option Addr) (n c : Nat) : IK Tryd.prog .len #[22] ty cs [.slice A n c] w K = K (.int .i64 n) w := len_sl Tryd.underlying22 cs A n c
theorem len23 {w : World} {K : Value → World → Prop} (ty : TypeId) (cs : List Bool) (A : Option Addr) (n c : Nat) : IK Tryd.prog .len #[23] ty cs [.slice A n c] w K = K (.int .i64 n) w := len_sl Tryd.underlying23 cs A n c
theorem len32 {w : World} {K : Value → World → Prop} (ty : TypeId) (cs : List Bool) (A : Option Addr) (n c : Nat) : IK Tryd.prog .len #[32] ty cs [.slice A n c] w K = K (.int .i64 n) w := len_sl Tryd.underlying32 cs A n c
theorem len91 {w : World} {K : Value → World → Prop} (ty : TypeId) (cs : List Bool) (A : Option Addr) (n c : Nat) : IK Tryd.prog .len #[91] ty cs [.slice A n c] w K = K (.int .i64 n) w := len_sl Tryd.underlying91 cs A n c
end Go.Proofs.YtpkfbaagpjdifaaDoor.XK
set_option linter.unusedVariables false
namespace Go.X
open Go Go.RowKit
structure Bulk where
  B : {H : Type} → DataW H → Nat
  one : ∀ {H : Type} (d : DataW H), 1 ≤ B d
  str : ∀ {H : Type} (b : List UInt8), b.length + 1 ≤ B (.lit (.string b) : DataW H)
  slice : ∀ {H : Type} (es sp : List (DataW H)), (es.map B).sum + 1 ≤ B (.slice es sp)
  agg : ∀ {H : Type} (es : List (DataW H)), (es.map B).sum + 1 ≤ B (.agg es)
structure ShM (α : Type) extends Sh α where
  m : α → Nat
structure OpensM (U : Bulk) (P : Program) (n : Nat) {α : Type} (k : ShM α) (t : TypeId) : Prop where
  go : ∀ {H : Type} {enc : TypeId × Value → H} {w : World} {base : Nat} {sp : Nat → Bool} {hd : Bool} {cs : List Value} {x : DataW H × List MemPlace}, DataW.trod enc P w base sp hd n t cs = some x → ∃ v : α, k.K w v cs ∧ k.m v ≤ U.B x.1
def ShM.int (k : IntKind) : ShM Int := { Sh.int k with m := fun _ => 1 }
def ShM.bool : ShM Bool := { Sh.bool with m := fun _ => 1 }
def ShM.string : ShM ByteArray := { Sh.string with m := fun s => s.size + 1 }
def ShM.slice {α : Type} (k : ShM α) : ShM (Value × List α) := { Sh.slice k.toSh with m := fun x => (x.2.map k.m).sum + 1 }
def ShM.pair {α β : Type} (a : ShM α) (b : ShM β) : ShM (α × β) := { Sh.pair a.toSh b.toSh with m := fun x => a.m x.1 + b.m x.2 }
section
variable {U : Bulk} {P : Program} {n : Nat}
theorem opensM_int {k : IntKind} {t : TypeId} (h : P.underlying t = some (.int k)) : OpensM U P n (ShM.int k) t :=
  ⟨fun hx => (opens_int h).go hx |>.imp fun v hv => ⟨hv, U.one _⟩⟩
theorem opensM_string {t : TypeId} (h : P.underlying t = some .string) : OpensM U P n ShM.string t := by
  constructor
  intro H enc w base sp hd cs x hx
  obtain ⟨v, rfl, hv⟩ := (opens_string h).go hx
  refine ⟨v, ⟨rfl, hv⟩, ?_⟩
  cases n with
  | zero => simp [DataW.trod] at hx
  | succ n =>
    unfold DataW.trod at hx
    rw [h] at hx
    simp only at hx
    split at hx
    · cases hx
      have := U.str (H := H) v.data.toList
      show v.size + 1 ≤ U.B (.lit (.string v.data.toList))
      rw [Array.length_toList] at this
      exact this
    · rename_i q
      exact absurd hv q
theorem sum_le {α β : Type} {f : α → Nat} {g : β → Nat} : ∀ {l : List α} {r : List β}, l.length = r.length → (∀ (i : Nat) a b, l[i]? = some a → r[i]? = some b → f a ≤ g b) → (l.map f).sum ≤ (r.map g).sum
  | [], [], _, _ => Nat.le_refl _
  | a :: l, b :: r, hl, h => by
    have h0 := h 0 a b rfl rfl
    have := sum_le (l := l) (r := r) (by simpa using hl) (fun i x y hx hy => h (i + 1) x y (by simpa using hx) (by simpa using hy))
    simp only [List.map_cons, List.sum_cons]
    omega
  | [], _ :: _, hl, _ => by simp at hl
  | _ :: _, [], hl, _ => by simp at hl
theorem opensM_slice {α : Type} {k : ShM α} {t e : TypeId} (h : P.underlying t = some (.slice e)) (hs : P.cellsOf e = k.sz) (he : ∀ m, m < n → OpensM U P m k e) : OpensM U P n (ShM.slice k) t := by
  constructor
  intro H enc w base sp hd cs x hx
  rcases DataW.trod_slice h hx with ⟨rfl, rfl⟩ | ⟨a, len, cap, elems, rest, m, hn, rfl, rfl, hb, hl, hm, hlen, hel, _, _⟩
  · exact ⟨(.slice none 0 0, []), ⟨rfl, by simp, none, 0, rfl, Nat.le_refl _, by simp⟩, U.one _⟩
  · have key : ∀ i, i < len → ∃ v : α, (∃ c, c.length = k.sz ∧ k.K w v c ∧ ∀ j u, c[j]? = some u → w.cell? (a.add (i * k.sz + j)) = some u) ∧ ∀ d, elems[i]? = some d → k.m v ≤ U.B d.1 := by
      intro i hi
      have h1 := hel i hi
      rw [List.getElem?_eq_getElem (show i < elems.length by omega)] at h1
      obtain ⟨c, hc, ht⟩ := Option.bind_eq_some_iff.1 h1
      obtain ⟨_, hcl, hcell⟩ := World.cells?_some hc
      obtain ⟨v, hv, hvm⟩ := (he m (by omega)).go ht
      refine ⟨v, ⟨c, by rw [hcl, hs], hv, fun j u hu => ?_⟩, fun d hd => ?_⟩
      · have hj : j < P.cellsOf e := by
          rcases Nat.lt_or_ge j c.length with q | q
          · omega
          · rw [List.getElem?_eq_none q] at hu; cases hu
        have := hcell j hj
        rw [hu] at this
        rw [← this, ← hs, add_add]
      · rw [List.getElem?_eq_getElem (show i < elems.length by omega)] at hd
        cases hd
        exact hvm
    obtain ⟨l, hll, hq⟩ := choose_list len key
    refine ⟨(.slice (some a) len cap, l), ⟨rfl, ?_, some a, cap, by rw [hll], by show l.length ≤ cap; omega, fun i y hy => ?_⟩, ?_⟩
    · show l.length ≤ maxLen; omega
    · obtain ⟨⟨d, h1, h2, h3⟩, _⟩ := hq i y hy
      exact ⟨a, d, rfl, h1, h2, h3⟩
    · show (l.map k.m).sum + 1 ≤ _
      refine Nat.le_trans (Nat.add_le_add_right (sum_le (r := elems) (g := fun d => U.B d.1) (by omega) (fun i u d hu hd => (hq i u hu).2 d hd)) 1) ?_
      have := U.slice (elems.map (·.1)) (rest.map (·.1))
      rw [List.map_map] at this
      exact this
structure FieldsM (U : Bulk) (P : Program) (n : Nat) {α : Type} (k : ShM α) (fs : List Field) (off : Nat) : Prop where
  go : ∀ {H : Type} {enc : TypeId × Value → H} {w : World} {base : Nat} {sp : Nat → Bool} {hd : Bool} {cs : List Value} {xs : List (DataW H × List MemPlace)}, cs.length = off + k.sz → xs.length = fs.length →
    (∀ (i : Nat) f x, fs[i]? = some f → xs[i]? = some x → DataW.trod enc P w base sp hd n f.type ((cs.drop f.offset).take (P.cellsOf f.type)) = some x) → ∃ v : α, k.K w v (cs.drop off) ∧ k.m v ≤ (xs.map fun x => U.B x.1).sum
theorem fieldsM_one {α : Type} {k : ShM α} {f : Field} {off : Nat} (ho : f.offset = off) (hs : P.cellsOf f.type = k.sz) (h : OpensM U P n k f.type) : FieldsM U P n k [f] off := by
  constructor
  intro H enc w base sp hd cs xs hl hxl hx
  match xs, hxl with
  | [x], _ =>
    have hx := hx 0 f x rfl rfl
    rw [ho, List.take_of_length_le (by simp [hs]; omega)] at hx
    obtain ⟨v, hv, hm⟩ := h.go hx
    exact ⟨v, hv, by simpa using hm⟩
theorem fieldsM_cons {α β : Type} {a : ShM α} {b : ShM β} {f : Field} {fs : List Field} {off : Nat} (ho : f.offset = off) (hs : P.cellsOf f.type = a.sz) (h : OpensM U P n a f.type) (hr : FieldsM U P n b fs (off + a.sz)) : FieldsM U P n (ShM.pair a b) (f :: fs) off := by
  constructor
  intro H enc w base sp hd cs xs hl hxl hx
  match xs, hxl with
  | x :: r, hxl =>
    have hx0 := hx 0 f x rfl rfl
    rw [ho, hs] at hx0
    have hl' : cs.length = off + (a.sz + b.sz) := hl
    obtain ⟨u, hu, hum⟩ := h.go hx0
    obtain ⟨v, hv, hvm⟩ := hr.go (cs := cs) (xs := r) (by omega) (by simpa using hxl) (fun i g y hg hy => hx (i + 1) g y (by simpa using hg) (by simpa using hy))
    refine ⟨(u, v), ⟨(cs.drop off).take a.sz, cs.drop (off + a.sz), ?_, ?_, hu, hv⟩, ?_⟩
    · rw [← List.drop_drop, List.take_append_drop]
    · rw [List.length_take, List.length_drop]; omega
    · show a.m u + b.m v ≤ _
      simp only [List.map_cons, List.sum_cons]
      omega
theorem opensM_struct {α : Type} {k : ShM α} {t : TypeId} {fs : Array Field} (h : P.underlying t = some (.struct fs)) (hs : P.cellsOf t = k.sz) (hf : ∀ m, m < n → FieldsM U P m k fs.toList 0) : OpensM U P n ({ k with m := fun v => k.m v + 1 } : ShM α) t := by
  constructor
  intro H enc w base sp hd cs x hx
  obtain ⟨xs, m, hn, rfl, hl, hxl, hfs⟩ := DataW.trod_struct h hx
  obtain ⟨v, hv, hm⟩ := (hf m (by omega)).go (cs := cs) (H := H) (enc := enc) (w := w) (base := base) (sp := sp) (hd := hd) (xs := xs) (by rw [hl, hs]; omega) (by simpa using hxl) (fun i f x hi hx => by
    have h1 := hfs i f (by rw [← Array.getElem?_toList]; exact hi)
    rw [hx] at h1
    exact h1)
  refine ⟨v, by simpa using hv, ?_⟩
  have := U.agg (xs.map (·.1))
  rw [List.map_map] at this
  exact Nat.le_trans (Nat.add_le_add_right hm 1) this
theorem opensM_as {α β : Type} {k : ShM α} {k' : ShM β} {t : TypeId} (h : OpensM U P n k t) (f : α → β) (hf : ∀ w v cs, k.K w v cs → k'.K w (f v) cs) (hm : ∀ v, k'.m (f v) ≤ k.m v) : OpensM U P n k' t := by
  constructor
  intro H enc w base sp hd cs x hx
  obtain ⟨v, hv, hvm⟩ := h.go hx
  exact ⟨f v, hf _ _ _ hv, Nat.le_trans (hm v) hvm⟩
end
end Go.X
