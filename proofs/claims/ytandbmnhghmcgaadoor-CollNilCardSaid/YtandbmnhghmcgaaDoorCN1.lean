/- Several texts of this repo, one behind the other, without what is not used here. -/
import Derived.WalkKit
import Derived.ProofKit
import Derived.OpenShut
import Derived.ShutString
import Derived.ChangeOld
import Derived.Below
import Derived.Carry
import Derived.SizedLaws
import Derived.KernelRfl
import Derived.Deep.Quiet
import Derived.StillTail
import Derived.RangeFuncIn
import Derived.RangeFuncRecord
import Derived.Maps.AppendAt
import Derived.Great.BuildSlice
import Derived.ChangeArms
import Derived.DataReads
import Derived.Deep.DeepHandedRow
import Derived.Handy
import Derived.Lay
import Derived.LaidMore
import Derived.Stop.Joined
import Derived.MapKept
import Derived.Laws.StructEq
import Derived.Lib.SliceRun
import Derived.Laws.OwnMore
import Derived.Laws.IdiomStrings
import Derived.Laws.BytesArg
import Derived.OrdersHeld
import Derived.Test.YtandbmnhghmcgaaDoorProg
import Derived.Lib.ItoaNum
import Derived.Shelf.SlIter.Nil
import Derived.Shelf.SortM.Plain
import Derived.Shelf.SortM.SortNone
import Derived.Shelf.Strconv.Itoa3
import Derived.Sort.Walk0
import Derived.Lib.ItoaLen
import Derived.Lib.AppendIntMem
import Derived.Laws.MakeOwn
import Derived.Maps.RangeRun
import Derived.Test.YtandbmnhghmcgaaDoorRows
import Derived.Lib.LaidTab
set_option linter.unusedVariables false
namespace Go.X
open Go Go.ChangeShapes Go.WideShapes Go.ChangeAt Go.RowKit
theorem trodAll_lt {H : Type} {enc : TypeId × Value → H} {P : Program} {w : World} {base : Nat} {sp : Nat → Bool} {hd : Bool} : ∀ {ts : List TypeId} {vs : List Value} {ds : List (DataW H)} {p : List MemPlace},
    DataW.TrodAll enc P w base sp hd ts vs ds p → ∀ x ∈ p, x.block < w.heap.size
  | [], [], [], p, h => by
    have : p = [] := h
    subst this
    simp
  | t :: ts, v :: vs, d :: ds, p, h => by
    obtain ⟨p1, q1, h1, h2, rfl⟩ := h
    intro x hx
    rcases List.mem_append.1 hx with hx | hx
    · obtain ⟨m, hm⟩ := h1
      exact DataW.trod_lt m _ _ _ hm x hx
    · exact trodAll_lt h2 x hx
  | [], [], _ :: _, _, h => h.elim
  | [], _ :: _, _, _, h => h.elim
  | _ :: _, [], _, _, h => h.elim
  | _ :: _, _ :: _, [], _, h => h.elim
theorem trodAll_length {H : Type} {enc : TypeId × Value → H} {P : Program} {w : World} {base : Nat} {sp : Nat → Bool} {hd : Bool} : ∀ {ts : List TypeId} {vs : List Value} {ds : List (DataW H)} {p : List MemPlace},
    DataW.TrodAll enc P w base sp hd ts vs ds p → ds.length = ts.length
  | [], [], [], p, h => rfl
  | t :: ts, v :: vs, d :: ds, p, h => by
    obtain ⟨p1, q1, h1, h2, rfl⟩ := h
    simp [trodAll_length h2]
  | [], [], _ :: _, _, h => h.elim
  | [], _ :: _, _, _, h => h.elim
  | _ :: _, [], _, _, h => h.elim
  | _ :: _, _ :: _, [], _, h => h.elim
theorem below_trodAll {H : Type} {enc : TypeId × Value → H} {P : Program} {W W' : World} (hl : laidOutB P = true) (hb : Below W.heap.size W W') : ∀ {ts : List TypeId} {vs : List Value} {ds : List (DataW H)} {p : List MemPlace},
    (ts.all fun t => P.readableRec t && decide (t < P.types.size)) = true → DataW.TrodAll enc P W 0 (fun _ => true) true ts vs ds p → DataW.TrodAll enc P W' 0 (fun b => decide (b < W.heap.size)) true ts vs ds p
  | [], [], [], p, _, h => h
  | t :: ts, v :: vs, d :: ds, p, hr, h => by
    have hlt := trodAll_lt h
    obtain ⟨p1, q1, h1, h2, rfl⟩ := h
    simp only [List.all_cons, Bool.and_eq_true, decide_eq_true_eq] at hr
    exact ⟨p1, q1, Below.trod hl hr.1.1 hr.1.2 h1 hb (fun x hx => hlt x (List.mem_append_left _ hx)), below_trodAll hl hb (by simpa using hr.2) h2, rfl⟩
  | [], [], _ :: _, _, _, h => h.elim
  | [], _ :: _, _, _, _, h => h.elim
  | _ :: _, [], _, _, _, h => h.elim
  | _ :: _, _ :: _, [], _, _, h => h.elim
end Go.X
set_option linter.unusedVariables false
set_option linter.unusedSimpArgs false
namespace Go.X
open Go
abbrev Sl := Nat → Value
def ev (ρ : Sl) : Operand → Value
  | .tmp t => ρ t
  | .const v => v
  | .global g => .pointer (some ⟨g, 0, none⟩)
  | .func f => .func (.func f) #[] #[]
def up (ρ : Sl) (d : Nat) (v : Value) : Sl := fun i => cond (Nat.beq i d) v (ρ i)
def upo (ρ : Sl) (d : Option Nat) (v : Value) : Sl :=
  match d with
  | some d => up ρ d v
  | none => ρ
structure At where
  r : Option Nat := none
  D : List Deferred := []
def fn_ : At := {}
def FF (c : At) : Fence := { Fence.wide with round := c.r }
structure Lk (z : At) (n : Nat) (a : Act) (ρ : Sl) : Prop where
  size : a.tmps.size = n
  defers : a.defers = z.D
  val : ∀ i, a.tmps.getD i undef = ρ i
theorem Lk.ev {z : At} {n : Nat} {a : Act} {ρ : Sl} (h : Lk z n a ρ) (x : Operand) : a.eval x = ev ρ x := by
  cases x with
  | tmp t => exact h.val t
  | const v => rfl
  | global g => rfl
  | func f => rfl
theorem Lk.put {z : At} {n : Nat} {a : Act} {ρ : Sl} (h : Lk z n a ρ) (d : Option Nat) (v : Value) (hd : ∀ k, d = some k → k < n) : Lk z n (a.put d v) (upo ρ d v) := by
  cases d with
  | none => exact h
  | some k =>
    have hk := hd k rfl
    refine ⟨?_, h.defers, fun i => ?_⟩
    · simp only [Act.put]
      rw [Array.size_setIfInBounds]; exact h.size
    · have hv := h.val i
      simp only [Act.put, upo, up]
      by_cases e : i = k
      · subst e
        have hlt : i < a.tmps.size := by rw [h.size]; exact hk
        simp [Array.getD_eq_getD_getElem?, hlt, Nat.beq_refl]
      · have hb : Nat.beq i k = false := by
          cases hq : Nat.beq i k with
          | false => rfl
          | true => exact absurd (Nat.eq_of_beq_eq_true hq) e
        rw [hb]
        simp only [cond_false]
        simp only [Array.getD_eq_getD_getElem?] at hv ⊢
        rw [Array.getElem?_setIfInBounds]
        rw [if_neg (fun q => e q.symm)]
        simpa using hv
def OpK (P : Program) (s : Sem Next) (w : World) (K : Value → World → Prop) : Prop :=
  match s.run P w with
  | .ok (.value v) w' => K v w'
  | .ok .skip w' => K undef w'
  | .ok (.enter f args) w' => Calls P f args w' fun e w'' => ∃ v, e = .returned v ∧ K v w''
  | .ok (.round l f tmps assign body) w' => RoundIn Fence.wide 0 P l f tmps assign body w' fun e w'' => ∃ v, e = .returned v ∧ K v w''
  | _ => False
def wantB (v : Value) (b : Bool) : Bool := match v with | .bool t => t == b | _ => false
def GuardK (v : Value) (b : Bool) (A B : Prop) : Prop := (wantB v b = true → A) ∧ (wantB v b = false → B)
def CondK (v : Value) (A B : Prop) : Prop := ∃ t, v = .bool t ∧ (t = true → A) ∧ (t = false → B)
def GOp (P : Program) (g : Value) (b : Bool) (s : Sem Next) (w : World) (K : Value → World → Prop) : Prop := GuardK g b (OpK P s w K) (K undef w)
def nilCk (v : Value) : Sem Next := execOp (fun _ => v) { dst := none, op := .nilCheck (.tmp 0), type := 0, pos := "", after := #[], guard := none }
def exo (ρ : Operand → Value) (op : Op) (ty : TypeId) : Sem Next :=
  match op with
  | .build t parts => do pure (.value (← Instr.build t (parts.toList.map fun p => (p.1, ρ p.2)).toArray))
  | .buildSlice t len parts => do pure (.value (← Instr.buildSlice t len (parts.toList.map fun p => (p.1, ρ p.2)).toArray))
  | .makeFunc fn first captured => do pure (.value (← Instr.makeFunc fn (first.toList.map ρ).toArray (captured.toList.map ρ).toArray))
  | .nilCheck x => nilCk (ρ x)
  | .call { callee := .builtin b, args, argTypes } => builtin b argTypes ty ((args.toList.map fun | .const _ => true | _ => false).toArray) (args.toList.map ρ).toArray
  | .call { callee := .value f, args, .. } => do let d ← Deferred.ofValue (ρ f) (args.toList.map ρ).toArray; invoke d.target d.args
  | op => execOp ρ { dst := none, op, type := ty, pos := "", after := #[], guard := none }
theorem arr_map {α β : Type} (f : α → β) (a : Array α) : a.map f = (a.toList.map f).toArray := by
  rw [← Array.toList_map]
theorem exo_eq (ρ : Operand → Value) (o : Oper) : exo ρ o.op o.type = execOp ρ o := by
  obtain ⟨dst, op, ty, pos, after, guard⟩ := o
  cases op with
  | build t parts => simp only [exo, execOp, arr_map]
  | buildSlice t len parts => simp only [exo, execOp, arr_map]
  | makeFunc fn first captured => simp only [exo, execOp, arr_map]
  | nilCheck x => rfl
  | call c =>
    obtain ⟨callee, args, argTypes⟩ := c
    cases callee with
    | value f => simp only [exo, execOp, resolve, arr_map]
    | invoke r m => rfl
    | builtin b =>
      simp only [exo, execOp, resolve, arr_map]
      rfl
  | _ => rfl
def gv (ops : Array Oper) (ρ : Sl) (j : Nat) : Value :=
  match (ops[j]?).bind (·.dst) with
  | some d => ρ d
  | none => undef
def mvOf : Op → Option Operand
  | .move x => some x
  | .assign x => some x
  | _ => none
def sx1 (P : Program) (ops : Array Oper) (o : Oper) (N : Sl → World → Prop) (ρ : Sl) (w : World) : Prop :=
  match o with
  | ⟨dst, op, ty, _, _, g⟩ =>
    match g, dst with
    | none, some d => match mvOf op with
      | some x => N (up ρ d (ev ρ x)) w
      | none => OpK P (exo (ev ρ) op ty) w fun v w' => N (up ρ d v) w'
    | none, none => OpK P (exo (ev ρ) op ty) w fun _ w' => N ρ w'
    | some (j, b), some d => GOp P (gv ops ρ j) b (exo (ev ρ) op ty) w fun v w' => N (up ρ d v) w'
    | some (j, b), none => GOp P (gv ops ρ j) b (exo (ev ρ) op ty) w fun _ w' => N ρ w'
def sxL (P : Program) (ops : Array Oper) (K : Sl → World → Prop) : List Oper → Sl → World → Prop
  | [], ρ, w => K ρ w
  | o :: r, ρ, w => sx1 P ops o (sxL P ops K r) ρ w
def lift (z : At) (n : Nat) (K : Exit → Sl → World → Prop) : Exit → Act → World → Prop := fun e a w => ∃ ρ, Lk z n a ρ ∧ K e ρ w
def W (z : At) (P : Program) (n : Nat) (c : Code) (K : Exit → Sl → World → Prop) (ρ : Sl) (w : World) : Prop :=
  ∀ a, Lk z n a ρ → c.wpIn (FF z) 0 P (lift z n K) a w
def seqK (N : Sl → World → Prop) (K : Exit → Sl → World → Prop) : Exit → Sl → World → Prop
  | .normal => N
  | e => K e
def blkK (id : Nat) (K : Exit → Sl → World → Prop) : Exit → Sl → World → Prop
  | .exit i => if Nat.beq i id then K .normal else K (.exit i)
  | e => K e
def sx (z : At) (P : Program) (n : Nat) : Code → (Exit → Sl → World → Prop) → Sl → World → Prop
  | .skip, K, ρ, w => K .normal ρ w
  | .region id ops false, K, ρ, w => sxL P ops (K .normal) ops.toList ρ w
  | .seq a b, K, ρ, w => sx z P n a (seqK (sx z P n b K) K) ρ w
  | .cond c x y, K, ρ, w => CondK (ev ρ c) (sx z P n x K ρ w) (sx z P n y K ρ w)
  | .block id c, K, ρ, w => sx z P n c (blkK id K) ρ w
  | .exit id, K, ρ, w => K (.exit id) ρ w
  | .ret, K, ρ, w => K .ret ρ w
  | .label _, K, ρ, w => K .normal ρ w
  | c, K, ρ, w => W z P n c K ρ w
def isDefer : Op → Bool
  | .defer _ => true
  | _ => false
def oOk (n : Nat) (o : Oper) : Bool := (match o.dst with | some d => Nat.blt d n | none => true) && !isDefer o.op
def dstOk (n : Nat) : Code → Bool
  | .region _ ops _ => ops.toList.all (oOk n)
  | .seq a b => dstOk n a && dstOk n b
  | .cond _ a b => dstOk n a && dstOk n b
  | .block _ c => dstOk n c
  | .scope c => dstOk n c
  | .loop c => dstOk n c
  | _ => true
theorem yielded_gv {z : At} {n : Nat} {a : Act} {ρ : Sl} (h : Lk z n a ρ) (ops : Array Oper) (j : Nat) : yielded ops a.tmps j = (match gv ops ρ j with | .bool t => some t | _ => none) := by
  unfold gv yielded
  cases hq : (ops[j]?).bind (·.dst) with
  | none => simp [undef]
  | some d =>
    have hd := h.val d
    simp only [Option.bind_some]
    cases hz : a.tmps[d]? with
    | none =>
      rw [Array.getD_eq_getD_getElem?, hz] at hd
      simp only [Option.getD_none] at hd
      rw [← hd]
      simp [undef]
    | some v =>
      rw [Array.getD_eq_getD_getElem?, hz] at hd
      simp only [Option.getD_some] at hd
      rw [← hd]
      cases v <;> simp
theorem wanted_gv {z : At} {n : Nat} {a : Act} {ρ : Sl} (h : Lk z n a ρ) (ops : Array Oper) {o : Oper} {j : Nat} {b : Bool} (hg : o.guard = some (j, b)) : Region.wanted o (yielded ops a.tmps) = wantB (gv ops ρ j) b := by
  unfold Region.wanted
  rw [hg]
  dsimp only
  rw [yielded_gv h ops j]
  unfold wantB
  cases gv ops ρ j <;> simp
theorem opK_wp {P : Program} {z : At} {n : Nat} {a : Act} {ρ : Sl} {o : Oper} {w : World} {K : Value → World → Prop} {next : Act → World → Prop} {Q : Exit → Act → World → Prop}
    (hdf : isDefer o.op = false) (h : Lk z n a ρ) (hk : OpK P (exo (ev ρ) o.op o.type) w K) (hn : ∀ v w', K v w' → next (a.put o.dst v) w') : o.wpIn (FF z) 0 P a w next Q := by
  have he : a.eval = ev ρ := funext (fun x => h.ev x)
  refine ⟨fun _ _ => trivial, ?_⟩
  rw [Oper.semAt_eq _ _ _ (fun c hc => by rw [hc] at hdf; cases hdf), he]
  rw [exo_eq] at hk
  unfold OpK at hk
  unfold Oper.uponIn
  split at hk
  · rename_i v w' hr; rw [hr]; exact hn _ _ hk
  · rename_i w' hr; rw [hr]; exact hn _ _ hk
  · rename_i f args w' hr
    rw [hr]
    refine ⟨fun q => by simp [FF, Fence.wide] at q, ?_⟩
    have hk' : CallsIn Fence.wide 0 P f args w' fun e w'' => ∃ v, e = .returned v ∧ K v w'' := callsIn_wide.2 hk
    refine CallsIn.mono (F := FF z) (n := 0) hk' ?_
    rintro e w'' ⟨v, rfl, hv⟩
    exact hn _ _ hv
  · rename_i l f tmps assign body w' hr
    rw [hr]
    refine ⟨fun q => by simp [FF, Fence.wide] at q, ?_⟩
    refine RoundIn.mono (F := FF z) (n := 0) hk ?_
    rintro e w'' ⟨v, rfl, hv⟩
    exact hn _ _ hv
  · exact hk.elim
theorem sx1_eq (P : Program) (ops : Array Oper) (o : Oper) (N : Sl → World → Prop) (ρ : Sl) (w : World) :
    sx1 P ops o N ρ w = match o.guard with
      | none => OpK P (exo (ev ρ) o.op o.type) w fun v w' => N (upo ρ o.dst v) w'
      | some (j, b) => GOp P (gv ops ρ j) b (exo (ev ρ) o.op o.type) w fun v w' => N (upo ρ o.dst v) w' := by
  obtain ⟨dst, op, ty, pos, after, guard⟩ := o
  cases guard with
  | none =>
    cases dst with
    | none => rfl
    | some d => cases op <;> rfl
  | some jb => cases dst <;> rfl
theorem oOk_dst {n : Nat} {o : Oper} (h : oOk n o = true) : ∀ k, o.dst = some k → k < n := by
  intro k hk
  simp only [oOk, Bool.and_eq_true] at h
  have := h.1
  rw [hk] at this
  exact Nat.lt_of_lt_of_le (Nat.lt_succ_self _) (Nat.le_of_ble_eq_true this)
theorem oOk_df {n : Nat} {o : Oper} (h : oOk n o = true) : isDefer o.op = false := by
  simp only [oOk, Bool.and_eq_true, Bool.not_eq_true'] at h
  exact h.2
theorem sx1_wp {P : Program} {z : At} {n : Nat} {ops : Array Oper} {Q : Exit → Act → World → Prop} {o : Oper} {N : Sl → World → Prop} {next : Act → World → Prop} {a : Act} {ρ : Sl} {w : World}
    (ho : oOk n o = true) (hl : Lk z n a ρ) (h : sx1 P ops o N ρ w) (hn : ∀ a ρ w, Lk z n a ρ → N ρ w → next a w) :
    if Region.wanted o (yielded ops a.tmps) then o.wpIn (FF z) 0 P a w next Q else next (a.put o.dst undef) w := by
  have hd := oOk_dst ho
  rw [sx1_eq] at h
  cases hg : o.guard with
  | none =>
    rw [hg] at h
    have hw : Region.wanted o (yielded ops a.tmps) = true := by unfold Region.wanted; rw [hg]
    rw [hw]
    simp only [if_true]
    exact opK_wp (oOk_df ho) hl h fun v w' hv => hn _ _ _ (hl.put _ _ hd) hv
  | some jb =>
    obtain ⟨j, b⟩ := jb
    rw [hg] at h
    obtain ⟨h1, h2⟩ := h
    have hy := wanted_gv hl ops hg
    by_cases htb : wantB (gv ops ρ j) b = true
    · have hw : Region.wanted o (yielded ops a.tmps) = true := hy.trans htb
      rw [hw]
      simp only [if_true]
      exact opK_wp (oOk_df ho) hl (h1 htb) fun v w' hv => hn _ _ _ (hl.put _ _ hd) hv
    · have htb : wantB (gv ops ρ j) b = false := Bool.eq_false_iff.2 htb
      have hw : Region.wanted o (yielded ops a.tmps) = false := hy.trans htb
      rw [hw]
      simp only [Bool.false_eq_true, if_false]
      exact hn _ _ _ (hl.put _ _ hd) (h2 htb)
theorem oOk_at {n : Nat} {ops : Array Oper} (hd : (ops.toList.all (oOk n)) = true) {i : Nat} {o : Oper} (ho : ops[i]? = some o) : oOk n o = true := by
  have hm : o ∈ ops.toList := by
    obtain ⟨hi, hv⟩ := Array.getElem?_eq_some_iff.1 ho
    rw [← hv]; exact Array.getElem_mem_toList hi
  exact List.all_eq_true.1 hd o hm
theorem sxL_wp {P : Program} {z : At} {n : Nat} {ops : Array Oper} {K : Sl → World → Prop} {Q : Exit → Act → World → Prop}
    (hd : (ops.toList.all (oOk n)) = true)
    (hQ : ∀ a ρ w, Lk z n a ρ → K ρ w → Q .normal a w) (m : Nat) : ∀ k a ρ w, k + m = ops.size → Lk z n a ρ → sxL P ops K (ops.toList.drop k) ρ w → wpOpsIn (FF z) 0 P ops Q (List.range' k m) a w := by
  induction m with
  | zero =>
    intro k a ρ w hk hl h
    rw [List.drop_of_length_le (by simp; omega)] at h
    exact hQ a ρ w hl h
  | succ m ih =>
    intro k a ρ w hk hl h
    have hlt : k < ops.toList.length := by simp; omega
    rw [List.drop_eq_getElem_cons hlt] at h
    have ho : ops[k]? = some ops.toList[k] := by
      rw [← Array.getElem?_toList]
      exact List.getElem?_eq_getElem hlt
    show wpOpsIn (FF z) 0 P ops Q (k :: List.range' (k + 1) m) a w
    unfold wpOpsIn
    rw [ho]
    have := sx1_wp (Q := Q) (oOk_at hd ho) hl h (fun a ρ w hl hq => ih (k + 1) a ρ w (by omega) hl hq)
    dsimp only
    split at this
    · rename_i hw; rw [if_pos hw]; exact this
    · rename_i hw; rw [if_neg hw]; exact ⟨fun _ _ => trivial, this⟩
theorem sx_W {P : Program} {z : At} {n : Nat} : ∀ (c : Code) (K : Exit → Sl → World → Prop) (ρ : Sl) (w : World), dstOk n c = true → sx z P n c K ρ w → W z P n c K ρ w
  | .skip, K, ρ, w, _, h => fun a hl => wpIn_skip ⟨ρ, hl, h⟩
  | .region id ops false, K, ρ, w, hd, h => fun a hl => wpIn_region (by rw [List.range_eq_range']; exact sxL_wp hd (fun a ρ w hl hk => ⟨ρ, hl, hk⟩) ops.size 0 a ρ w (by omega) hl h)
  | .region id ops true, K, ρ, w, hd, h => h
  | .seq x y, K, ρ, w, hd, h => by
    intro a hl
    simp only [dstOk, Bool.and_eq_true] at hd
    refine wpIn_seq (wpIn_mono (sx_W x _ ρ w hd.1 h a hl) ?_)
    rintro e a' w' ⟨ρ', hl', hk⟩
    cases e with
    | normal => exact sx_W y K ρ' w' hd.2 hk a' hl'
    | exit id => exact ⟨ρ', hl', hk⟩
    | goto l => exact ⟨ρ', hl', hk⟩
    | ret => exact ⟨ρ', hl', hk⟩
    | panic c => exact ⟨ρ', hl', hk⟩
    | outgrown => exact ⟨ρ', hl', hk⟩
  | .cond c x y, K, ρ, w, hd, h => by
    intro a hl
    simp only [dstOk, Bool.and_eq_true] at hd
    obtain ⟨t, hv, h1, h2⟩ := h
    exact wpIn_cond_split ((hl.ev c).trans hv) (fun ht => sx_W x K ρ w hd.1 (h1 ht) a hl) (fun ht => sx_W y K ρ w hd.2 (h2 ht) a hl)
  | .block id c, K, ρ, w, hd, h => by
    intro a hl
    refine wpIn_block (wpIn_mono (sx_W c _ ρ w hd h a hl) ?_)
    rintro e a' w' ⟨ρ', hl', hk⟩
    cases e with
    | exit i =>
      simp only [Exit.inBlock]
      unfold blkK at hk
      dsimp only at hk
      by_cases e : i = id
      · subst e
        rw [if_pos rfl]
        rw [if_pos (Nat.beq_refl i)] at hk
        exact ⟨ρ', hl', hk⟩
      · rw [if_neg e]
        rw [if_neg (fun q => e (Nat.eq_of_beq_eq_true q))] at hk
        exact ⟨ρ', hl', hk⟩
    | normal => exact ⟨ρ', hl', hk⟩
    | goto l => exact ⟨ρ', hl', hk⟩
    | ret => exact ⟨ρ', hl', hk⟩
    | panic c => exact ⟨ρ', hl', hk⟩
    | outgrown => exact ⟨ρ', hl', hk⟩
  | .exit id, K, ρ, w, hd, h => fun a hl => wpIn_exit ⟨ρ, hl, h⟩
  | .ret, K, ρ, w, hd, h => fun a hl => wpIn_ret ⟨ρ, hl, h⟩
  | .label _, K, ρ, w, hd, h => fun a hl => wpIn_label ⟨ρ, hl, h⟩
  | .loop c, K, ρ, w, hd, h => h
  | .rangeFunc .., K, ρ, w, hd, h => h
  | .scope _, K, ρ, w, hd, h => h
  | .goto _, K, ρ, w, hd, h => h
  | .refuse _, K, ρ, w, hd, h => h
theorem W_loop {P : Program} {z : At} {n : Nat} {c : Code} {K : Exit → Sl → World → Prop} {ρ : Sl} {w : World} (hd : dstOk n c = true) (I : Sl → World → Prop) (μ : Sl → World → Nat) (h0 : I ρ w)
    (round : ∀ ρ w, I ρ w → sx z P n c (seqK (fun ρ' w' => I ρ' w' ∧ μ ρ' w' < μ ρ w) K) ρ w) : W z P n (.loop c) K ρ w := by
  intro a hl
  let M : Act → World → Nat := fun a w => μ (fun i => a.tmps.getD i undef) w
  have hM : ∀ a ρ w, Lk z n a ρ → M a w = μ ρ w := by
    intro a ρ w hl
    have : (fun i => a.tmps.getD i undef) = ρ := funext hl.val
    show μ (fun i => a.tmps.getD i undef) w = μ ρ w
    rw [this]
  refine wpIn_loop (fun a w => ∃ ρ, Lk z n a ρ ∧ I ρ w) M ⟨ρ, hl, h0⟩ ?_
  rintro a w ⟨ρ, hl, hI⟩
  refine wpIn_mono (sx_W c _ ρ w hd (round ρ w hI) a hl) ?_
  rintro e a' w' ⟨ρ', hl', hk⟩
  cases e with
  | normal => exact ⟨⟨ρ', hl', hk.1⟩, by rw [hM a' ρ' w' hl', hM a ρ w hl]; exact hk.2⟩
  | exit id => exact ⟨ρ', hl', hk⟩
  | goto l => exact ⟨ρ', hl', hk⟩
  | ret => exact ⟨ρ', hl', hk⟩
  | panic c => exact ⟨ρ', hl', hk⟩
  | outgrown => exact ⟨ρ', hl', hk⟩
def noRound (P : Program) : Op → Bool
  | .call { callee := .value (.func f), .. } => (P.funcs[f]?).any fun fn => fn.body.isSome && !(fn.name == "runtime.NumGoroutine")
  | .call { callee := .builtin .append, .. } => true
  | .call { callee := .builtin .len, .. } => true
  | .call { callee := .builtin .max, .. } => true
  | .call { callee := .builtin .min, .. } => true
  | .call { callee := .builtin .copy, .. } => true
  | .move _ | .assign _ | .pick .. | .alloc _ | .box .. | .build .. | .buildSlice .. | .load .. | .store .. | .binOp .. | .unOp .. | .convert .. | .makeFunc .. | .makeMap .. | .makeSlice .. | .slice .. | .fieldAddr .. | .indexAddr .. | .lookup .. | .mapUpdate .. | .mapEntry .. | .entryStore .. | .field .. | .index .. | .makeInterface .. | .extract .. => true
  | _ => false
def dstsIn (n : Nat) (ops : Array Oper) : Bool := ops.toList.all (oOk n)
def QK (P : Program) (C : World → Prop) (s : Sem Next) (K : Value → Prop) : Prop := ∃ v, (∀ w, C w → Oper.quietUpon P C w v (s.run P w)) ∧ K v
def QG (P : Program) (C : World → Prop) (g : Value) (b : Bool) (s : Sem Next) (K : Value → Prop) : Prop := GuardK g b (QK P C s K) (K undef)
def sxq1 (P : Program) (C : World → Prop) (ops : Array Oper) (o : Oper) (N : Sl → Prop) (ρ : Sl) : Prop :=
  match o with
  | ⟨dst, op, ty, _, _, g⟩ =>
    match g, dst with
    | none, some d => match mvOf op with
      | some x => N (up ρ d (ev ρ x))
      | none => QK P C (exo (ev ρ) op ty) fun v => N (up ρ d v)
    | none, none => QK P C (exo (ev ρ) op ty) fun _ => N ρ
    | some (j, b), some d => QG P C (gv ops ρ j) b (exo (ev ρ) op ty) fun v => N (up ρ d v)
    | some (j, b), none => QG P C (gv ops ρ j) b (exo (ev ρ) op ty) fun _ => N ρ
def sxq (P : Program) (C : World → Prop) (ops : Array Oper) (K : Sl → Prop) : List Oper → Sl → Prop
  | [], ρ => K ρ
  | o :: r, ρ => sxq1 P C ops o (sxq P C ops K r) ρ
theorem sxq1_eq (P : Program) (C : World → Prop) (ops : Array Oper) (o : Oper) (N : Sl → Prop) (ρ : Sl) (h : sxq1 P C ops o N ρ) :
    match o.guard with
      | none => QK P C (exo (ev ρ) o.op o.type) fun v => N (upo ρ o.dst v)
      | some (j, b) => QG P C (gv ops ρ j) b (exo (ev ρ) o.op o.type) fun v => N (upo ρ o.dst v) := by
  obtain ⟨dst, op, ty, pos, after, guard⟩ := o
  cases guard with
  | none =>
    cases dst with
    | none => exact h
    | some d =>
      cases op <;> first | exact h | exact ⟨_, fun w _ => ⟨rfl, rfl⟩, h⟩
  | some jb => cases dst <;> exact h
theorem sxq1_wp {P : Program} {z : At} {n : Nat} {C : World → Prop} {ops : Array Oper} {o : Oper} {N : Sl → Prop} {next : Act → Prop} {a : Act} {ρ : Sl}
    (hd : ∀ k, o.dst = some k → k < n) (hl : Lk z n a ρ) (h : sxq1 P C ops o N ρ) (hn : ∀ a ρ, Lk z n a ρ → N ρ → next a) :
    if Region.wanted o (yielded ops a.tmps) then o.quiet P a C next else next (a.put o.dst undef) := by
  have he : a.eval = ev ρ := funext (fun x => hl.ev x)
  have h := sxq1_eq P C ops o N ρ h
  have key : ∀ (hk : QK P C (exo (ev ρ) o.op o.type) fun v => N (upo ρ o.dst v)), o.quiet P a C next := by
    rintro ⟨v, h1, h2⟩
    refine ⟨v, fun w hw => ?_, hn _ _ (hl.put _ _ hd) h2⟩
    unfold Oper.quietAt
    rw [he, ← exo_eq]
    exact h1 w hw
  cases hg : o.guard with
  | none =>
    rw [hg] at h
    have hw : Region.wanted o (yielded ops a.tmps) = true := by unfold Region.wanted; rw [hg]
    rw [hw]
    simp only [if_true]
    exact key h
  | some jb =>
    obtain ⟨j, b⟩ := jb
    rw [hg] at h
    obtain ⟨h1, h2⟩ := h
    have hy := wanted_gv hl ops hg
    by_cases htb : wantB (gv ops ρ j) b = true
    · have hw : Region.wanted o (yielded ops a.tmps) = true := hy.trans htb
      rw [hw]
      simp only [if_true]
      exact key (h1 htb)
    · have htb : wantB (gv ops ρ j) b = false := Bool.eq_false_iff.2 htb
      have hw : Region.wanted o (yielded ops a.tmps) = false := hy.trans htb
      rw [hw]
      simp only [Bool.false_eq_true, if_false]
      exact hn _ _ (hl.put _ _ hd) (h2 htb)
theorem sxq_quiet {P : Program} {z : At} {n : Nat} {C : World → Prop} {ops : Array Oper} {K : Sl → Prop} {Q : Act → Prop} (hQ : ∀ a ρ, Lk z n a ρ → K ρ → Q a) : ∀ (l : List Oper) a ρ,
    (l.all (oOk n)) = true → Lk z n a ρ → sxq P C ops K l ρ → wpQuiet P ops C Q l a
  | [], a, ρ, _, hl, h => hQ a ρ hl h
  | o :: r, a, ρ, hd, hl, h => by
    simp only [List.all_cons, Bool.and_eq_true] at hd
    exact sxq1_wp (n := n) (oOk_dst hd.1) hl h (fun a ρ hl hq => sxq_quiet hQ r a ρ hd.2 hl hq)
theorem W_quiet {P : Program} {n : Nat} {D : List Deferred} {id : Nat} {ops : Array Oper} {K : Exit → Sl → World → Prop} {ρ : Sl} {w : World} (C : World → Prop) (hd : dstsIn n ops = true)
    (hm : P.follows .mixedOrders = true) (hB : Region.lexB .any ops = true) (hC : C { w with drawn := w.drawn + 1 })
    (h : sxq P C ops (fun ρ' => ∀ w', C w' → K .normal ρ' w') ops.toList ρ) : W ⟨none, D⟩ P n (.region id ops true) K ρ w := by
  intro a hl
  refine wpIn_wide.2 (wp_region_quiet (C := C) hm hB hC ?_)
  exact sxq_quiet (n := n) (fun a ρ hl hq w' hw' => ⟨ρ, hl, hq w' hw'⟩) _ a ρ hd hl h
def rho0 (args : List Value) : Sl := fun i => args.getD i undef
def resK (P : Program) (ρ : Sl) (k : List Value → World → Prop) : List ResultVar → World → Prop
  | [], w => k [] w
  | .tmp t :: r, w => resK P ρ (fun vs w => k (ρ t :: vs) w) r w
  | .cell x t :: r, w => ∃ v, (do loadVar t (← asAddr (ρ x)) : Sem Value).run P w = .ok v w ∧ resK P ρ (fun vs w => k (v :: vs) w) r w
def packV : List Value → Value
  | [v] => v
  | vs => .tuple vs.toArray
def retK (P : Program) (rs : List ResultVar) (R : Value → World → Prop) : Exit → Sl → World → Prop
  | .normal, ρ, w | .ret, ρ, w => resK P ρ (fun vs w => R (packV vs) w) rs w
  | _, _, _ => False
theorem resK_run {P : Program} {ρ : Sl} {w : World} (g : ResultVar → Sem Value) (hg : ∀ t, g (.tmp t) = Sem.pure (ρ t)) (hc : ∀ x t, g (.cell x t) = (do loadVar t (← asAddr (ρ x)))) (l : List ResultVar) :
    ∀ (k : List Value → World → Prop), resK P ρ k l w → ∃ vs, (l.mapM g).run P w = .ok vs w ∧ k vs w := by
  induction l with
  | nil => intro k h; exact ⟨[], rfl, h⟩
  | cons x r ih =>
    intro k h
    cases x with
    | tmp t =>
      obtain ⟨vs, hr, hk⟩ := ih _ h
      refine ⟨ρ t :: vs, ?_, hk⟩
      rw [List.mapM_cons, hg, Sem.run_bind]
      show ((List.mapM g r >>= fun us => pure (ρ t :: us)) : Sem (List Value)).run P w = _
      rw [Sem.run_bind, hr]
      rfl
    | cell x t =>
      obtain ⟨v, hv, h⟩ := h
      obtain ⟨vs, hr, hk⟩ := ih _ h
      refine ⟨v :: vs, ?_, hk⟩
      rw [List.mapM_cons, hc, Sem.run_bind, hv]
      simp only [Result.andThen_ok, Sem.run_bind, hr]
      rfl
theorem results_of_resK {P : Program} {z : At} {n : Nat} {fn : Func} {a : Act} {ρ : Sl} {w : World} {R : Value → World → Prop} (hl : Lk z n a ρ) (h : resK P ρ (fun vs w => R (packV vs) w) fn.results.toList w) :
    ∃ v, (results fn a.tmps).run P w = .ok v w ∧ R v w := by
  have key : ∀ g : ResultVar → Sem Value, (∀ t, g (.tmp t) = Sem.pure (ρ t)) → (∀ x t, g (.cell x t) = (do loadVar t (← asAddr (ρ x)))) →
      ∃ v, (do let vs ← List.toArray <$> fn.results.toList.mapM g; pure (if h : vs.size = 1 then vs[0] else .tuple vs) : Sem Value).run P w = .ok v w ∧ R v w := by
    intro g hg hc
    obtain ⟨vs, hr, hk⟩ := resK_run (P := P) (ρ := ρ) (w := w) g hg hc fn.results.toList _ h
    refine ⟨packV vs, ?_, hk⟩
    rw [Sem.run_bind, Sem.run_map, hr]
    simp only [Result.andThen_ok]
    match vs with
    | [] => rfl
    | [v] => rfl
    | v :: u :: r => rfl
  unfold results
  rw [Array.mapM_eq_mapM_toList]
  refine key _ ?_ ?_
  · intro t; rw [← hl.val t]; rfl
  · intro x t; rw [← hl.val x]
theorem calls_of_sx {P : Program} {f : FuncId} {fn : Func} {c : Code} {args : Array Value} {w : World} {R : Value → World → Prop} {n : Nat}
    (hf : P.funcs[f]? = some fn) (hb : fn.body = some c) (hn : fn.ntmps = n) (hsz : args.size ≤ n) (hd : dstOk n c = true)
    (h : sx fn_ P n c (retK P fn.results.toList R) (rho0 args.toList) w) : Calls P f args w fun e w' => ∃ v, e = .returned v ∧ R v w' := by
  refine callsIn_wide.1 (callsIn_of_wp (F := Fence.wide) (n := 0) hf hb trivial (wpIn_mono (sx_W c _ _ w hd h { tmps := args ++ Array.replicate (fn.ntmps - args.size) undef, defers := [] } ⟨?_, rfl, fun i => ?_⟩) ?_))
  · simp [hn]; omega
  · simp only [rho0, Array.getD_eq_getD_getElem?, List.getD_eq_getElem?_getD, Array.getElem?_append, Array.getElem?_toList]
    by_cases hi : i < args.size
    · rw [if_pos hi]
    · rw [if_neg hi, Array.getElem?_replicate, Array.getElem?_eq_none (xs := args) (by omega)]
      split <;> rfl
  · rintro e a' w' ⟨ρ', hl', hk⟩
    have key : ∀ (hq : resK P ρ' (fun vs w => R (packV vs) w) fn.results.toList w'), a'.defers = [] ∧ ∃ v, (results fn a'.tmps).run P w' = .ok v w' ∧ ∃ u, Ending.returned v = .returned u ∧ R u w' := by
      intro hq
      obtain ⟨v, hr, hk⟩ := results_of_resK hl' hq
      exact ⟨hl'.defers, v, hr, v, rfl, hk⟩
    cases e with
    | normal => exact key hk
    | ret => exact key hk
    | exit id => exact hk.elim
    | goto l => exact hk.elim
    | panic c => exact hk.elim
    | outgrown => exact hk.elim
def VK (P : Program) (s : Sem Value) (w : World) (K : Value → World → Prop) : Prop := OpK P (do pure (Next.value (← s))) w K
def UK (P : Program) (s : Sem Unit) (w : World) (K : Value → World → Prop) : Prop := OpK P (do s; pure Next.skip) w K
def NK (P : Program) (v : Value) (w : World) (K : Value → World → Prop) : Prop := OpK P (nilCk v) w K
def PK (P : Program) (c a b : Value) (w : World) (K : Value → World → Prop) : Prop := OpK P (do pure (Next.value (if ← asBool c then a else b))) w K
def BK (P : Program) (op : BinOp) (t : TypeId) (x y : Operand) (a b : Value) (w : World) (K : Value → World → Prop) : Prop := OpK P (do pure (Next.value (← (do eqGuard op t x y a b; binOp op t a b)))) w K
def CK (P : Program) (f : Value) (args : List Value) (w : World) (K : Value → World → Prop) : Prop := OpK P (do let d ← Deferred.ofValue f args.toArray; invoke d.target d.args) w K
def IK (P : Program) (b : Builtin) (ts : Array TypeId) (t : TypeId) (cs : List Bool) (args : List Value) (w : World) (K : Value → World → Prop) : Prop := OpK P (builtin b ts t cs.toArray args.toArray) w K
def VG (P : Program) (g : Value) (b : Bool) (s : Sem Value) (w : World) (K : Value → World → Prop) : Prop := GOp P g b (do pure (Next.value (← s))) w K
def UG (P : Program) (g : Value) (b : Bool) (s : Sem Unit) (w : World) (K : Value → World → Prop) : Prop := GOp P g b (do s; pure Next.skip) w K
def MG (P : Program) (g : Value) (b : Bool) (v : Value) (w : World) (K : Value → World → Prop) : Prop := GOp P g b (pure (Next.value v)) w K
def NG (P : Program) (g : Value) (b : Bool) (v : Value) (w : World) (K : Value → World → Prop) : Prop := GOp P g b (nilCk v) w K
def PG (P : Program) (g : Value) (gb : Bool) (c a b : Value) (w : World) (K : Value → World → Prop) : Prop := GOp P g gb (do pure (Next.value (if ← asBool c then a else b))) w K
def BG (P : Program) (g : Value) (gb : Bool) (op : BinOp) (t : TypeId) (x y : Operand) (a b : Value) (w : World) (K : Value → World → Prop) : Prop := GOp P g gb (do pure (Next.value (← (do eqGuard op t x y a b; binOp op t a b)))) w K
def CG (P : Program) (g : Value) (gb : Bool) (f : Value) (args : List Value) (w : World) (K : Value → World → Prop) : Prop := GOp P g gb (do let d ← Deferred.ofValue f args.toArray; invoke d.target d.args) w K
def IG (P : Program) (g : Value) (gb : Bool) (b : Builtin) (ts : Array TypeId) (t : TypeId) (cs : List Bool) (args : List Value) (w : World) (K : Value → World → Prop) : Prop := GOp P g gb (builtin b ts t cs.toArray args.toArray) w K
def cAt : List Nat → Code → Code
  | [], c => c
  | 0 :: p, .seq a _ => cAt p a
  | _ :: p, .seq _ b => cAt p b
  | 0 :: p, .cond _ a _ => cAt p a
  | _ :: p, .cond _ _ b => cAt p b
  | _ :: p, .block _ c => cAt p c
  | _ :: p, .loop c => cAt p c
  | _ :: p, .scope c => cAt p c
  | 0 :: p, .rangeFunc _ _ a _ => cAt p a
  | _ :: p, .rangeFunc _ _ _ b => cAt p b
  | _, c => c
def opsOf : Code → Array Oper
  | .region _ ops _ => ops
  | _ => #[]
def idOf : Code → Nat
  | .region id _ _ => id
  | _ => 0
end Go.X
set_option linter.unusedVariables false
set_option linter.unusedSimpArgs false
namespace Go.X
open Go Go.RowKit
section
variable {P : Program} {w w' : World} {K : Value → World → Prop}
theorem VK_of {s : Sem Value} {v : Value} (h : s.run P w = .ok v w') (hk : K v w') : VK P s w K := by
  unfold VK OpK
  simp only [Sem.run_bind, h, Result.andThen_ok]
  exact hk
theorem VK_eq_of {s : Sem Value} {v : Value} (h : s.run P w = .ok v w') : VK P s w K = K v w' := by
  unfold VK OpK
  simp only [Sem.run_bind, h, Result.andThen_ok]
  rfl
theorem UK_of {s : Sem Unit} (h : s.run P w = .ok () w') (hk : K undef w') : UK P s w K := by
  unfold UK OpK
  simp only [Sem.run_bind, h, Result.andThen_ok]
  exact hk
theorem CK_fn {f : FuncId} {fn : Func} {first cap : Array Value} {args : List Value} {R : Value → World → Prop} (hf : P.funcs[f]? = some fn) (hb : fn.body.isNone = false) (hn : (fn.name == "runtime.NumGoroutine") = false)
    (h : Calls P f (first ++ args.toArray ++ cap) w fun e w' => ∃ v, e = .returned v ∧ R v w') (hk : ∀ v w', R v w' → K v w') : CK P (.func (.func f) first cap) args w K := by
  unfold CK OpK
  have hr : (do let d ← Deferred.ofValue (.func (.func f) first cap) args.toArray; invoke d.target d.args : Sem Next).run P w = .ok (.enter f (first ++ args.toArray ++ cap)) w := by
    have hb' : fn.body ≠ none := by intro q; rw [q] at hb; cases hb
    have hn' : fn.name ≠ "runtime.NumGoroutine" := by intro q; rw [q] at hn; simp at hn
    simp [Deferred.ofValue, invoke, callFunc, program, Sem.run, hf, hb', hn', Sem.run_bind, pure, bind, Sem.bind]
  rw [hr]
  exact h.mono fun e w' ⟨v, he, hv⟩ => ⟨v, he, hk _ _ hv⟩
theorem CK_st {f : FuncId} {fn : Func} {args : List Value} {R : Value → World → Prop} (hf : P.funcs[f]? = some fn) (hb : fn.body.isNone = false) (hn : (fn.name == "runtime.NumGoroutine") = false)
    (h : Calls P f args.toArray w fun e w' => ∃ v, e = .returned v ∧ R v w') (hk : ∀ v w', R v w' → K v w') : CK P (.func (.func f) #[] #[]) args w K :=
  CK_fn hf hb hn (by simpa using h) hk
theorem PK_bool (t : Bool) (a b : Value) : PK P (.bool t) a b w K = K (if t then a else b) w := by
  unfold PK OpK; cases t <;> rfl
theorem NK_ptr (a : Addr) : NK P (.pointer (some a)) w K = K (.pointer (some a)) w := by
  unfold NK OpK; rfl
theorem extract_ok {vs : Array Value} {i : Nat} {v : Value} (h : vs[i]? = some v) : VK P (Instr.extract (.tuple vs) i) w K = K v w := by
  unfold VK OpK; simp [Instr.extract, h]
theorem not_ok (t : Bool) : VK P (Op.unary .not (.bool t)) w K = K (.bool (!t)) w := by
  unfold VK OpK; rfl
section
variable (t : TypeId) (x y : Operand) (k : IntKind) (a b : Int)
theorem BK_lss : BK P .lss t x y (.int k a) (.int k b) w K = K (.bool (decide (a < b))) w := by unfold BK OpK; go_simp
theorem BK_gtr : BK P .gtr t x y (.int k a) (.int k b) w K = K (.bool (decide (b < a))) w := by unfold BK OpK; go_simp
theorem BK_neq : BK P .neq t x y (.int k a) (.int k b) w K = K (.bool (a != b)) w := by unfold BK OpK; go_simp
theorem BK_add : BK P .add t x y (.int k a) (.int k b) w K = K (.int k (k.wrap (a + b))) w := by unfold BK OpK; go_simp
end
theorem BK_of {op : BinOp} {t : TypeId} {x y : Operand} {a b v : Value} (hg : (eqGuard op t x y a b).run P w = .ok () w) (h : (binOp op t a b).run P w = .ok v w) : BK P op t x y a b w K = K v w := by
  unfold BK OpK
  simp only [Sem.run_bind, hg, h, Result.andThen_ok]
  rfl
theorem BK_neqB {t : TypeId} (h : P.underlying t = some .bool) (x y : Operand) (a b : Bool) : BK P .neq t x y (.bool a) (.bool b) w K = K (.bool (!(a == b))) w := BK_of rfl (run_neq_bool w t a b h)
theorem BK_eqlS (t : TypeId) (x y : Operand) (a b : ByteArray) : BK P .eql t x y (.string a) (.string b) w K = K (.bool (a.toList == b.toList)) w := BK_of rfl (by rw [binOp_string_eql]; rfl)
theorem BK_eqlP {t e : TypeId} (h : P.underlying t = some (.pointer e)) (x y : Operand) (p : Option Addr) : BK P .eql t x y (.pointer p) (.pointer none) w K = K (.bool p.isNone) w :=
  BK_of rfl (run_eql_pointer_nil w t p (by simp [Program.pointee, h]))
theorem GOp_bool (t b : Bool) (s : Sem Next) : GOp P (.bool t) b s w K = if t = b then OpK P s w K else K undef w := by
  unfold GOp GuardK wantB
  by_cases h : t = b <;> simp [h]
theorem GOp_u (b : Bool) (s : Sem Next) : GOp P undef b s w K = K undef w := by
  unfold GOp GuardK wantB undef
  simp
theorem VG_u (b : Bool) (s : Sem Value) : VG P undef b s w K = K undef w := GOp_u b _
theorem UG_u (b : Bool) (s : Sem Unit) : UG P undef b s w K = K undef w := GOp_u b _
theorem MG_u (b : Bool) (v : Value) : MG P undef b v w K = K undef w := by unfold MG; rw [GOp_u]
theorem NG_u (b : Bool) (v : Value) : NG P undef b v w K = K undef w := GOp_u b _
theorem PG_u (gb : Bool) (c a b : Value) : PG P undef gb c a b w K = K undef w := GOp_u gb _
theorem BG_u (gb : Bool) (op : BinOp) (ty : TypeId) (x y : Operand) (a b : Value) : BG P undef gb op ty x y a b w K = K undef w := GOp_u gb _
theorem CG_u (gb : Bool) (f : Value) (args : List Value) : CG P undef gb f args w K = K undef w := GOp_u gb _
theorem IG_u (gb : Bool) (b : Builtin) (ts : Array TypeId) (ty : TypeId) (cs : List Bool) (args : List Value) : IG P undef gb b ts ty cs args w K = K undef w := GOp_u gb _
theorem VG_b (t b : Bool) (s : Sem Value) : VG P (.bool t) b s w K = if t = b then VK P s w K else K undef w := GOp_bool t b _
theorem UG_b (t b : Bool) (s : Sem Unit) : UG P (.bool t) b s w K = if t = b then UK P s w K else K undef w := GOp_bool t b _
theorem MG_b (t b : Bool) (v : Value) : MG P (.bool t) b v w K = K (if t = b then v else undef) w := by
  unfold MG; rw [GOp_bool]; by_cases h : t = b <;> simp [h]; rfl
theorem NG_b (t b : Bool) (v : Value) : NG P (.bool t) b v w K = if t = b then NK P v w K else K undef w := GOp_bool t b _
theorem PG_b (t gb : Bool) (c a b : Value) : PG P (.bool t) gb c a b w K = if t = gb then PK P c a b w K else K undef w := GOp_bool t gb _
theorem BG_b (t gb : Bool) (op : BinOp) (ty : TypeId) (x y : Operand) (a b : Value) : BG P (.bool t) gb op ty x y a b w K = if t = gb then BK P op ty x y a b w K else K undef w := GOp_bool t gb _
theorem CG_b (t gb : Bool) (f : Value) (args : List Value) : CG P (.bool t) gb f args w K = if t = gb then CK P f args w K else K undef w := GOp_bool t gb _
theorem IG_b (t gb : Bool) (b : Builtin) (ts : Array TypeId) (ty : TypeId) (cs : List Bool) (args : List Value) : IG P (.bool t) gb b ts ty cs args w K = if t = gb then IK P b ts ty cs args w K else K undef w := GOp_bool t gb _
theorem elem_of {t e : TypeId} (h : P.underlying t = some (.slice e)) : P.underlying t = some (.slice (P.elem t)) := by simp [Program.elem, h]
theorem len_sl {t e ty : TypeId} (h : P.underlying t = some (.slice e)) (cs : List Bool) (A : Option Addr) (n c : Nat) : IK P .len #[t] ty cs [.slice A n c] w K = K (.int .i64 n) w := by
  unfold IK OpK
  simp [builtin, run_len_slice w t ty A n c (elem_of h), goInt]
theorem len_str {t ty : TypeId} (h : P.underlying t = some .string) (cs : List Bool) (s : ByteArray) : IK P .len #[t] ty cs [.string s] w K = K (.int .i64 s.size) w := by
  unfold IK OpK
  simp [builtin, run_len_string w t ty s h, goInt]
theorem CondK_bool (t : Bool) (A B : Prop) : CondK (.bool t) A B = if t then A else B := by
  unfold CondK; cases t <;> simp
end
theorem up_at (ρ : Sl) (d : Nat) (v : Value) (i : Nat) : up ρ d v i = if i = d then v else ρ i := by
  unfold up
  by_cases h : i = d
  · subst h; simp [Nat.beq_refl]
  · have : Nat.beq i d = false := by
      cases hq : Nat.beq i d with
      | false => rfl
      | true => exact absurd (Nat.eq_of_beq_eq_true hq) h
    simp [this, h]
def setB (w : World) (b : Nat) (o : Obj) : World := { w with heap := w.heap.setIfInBounds b o }
theorem setB_size (w : World) (b : Nat) (o : Obj) : (setB w b o).heap.size = w.heap.size := by simp [setB]
theorem setB_new (w : World) (b : Nat) (o : Obj) (h : b < w.heap.size) : (setB w b o).heap[b]? = some o := by simp [setB, h]
theorem setB_old (w : World) (b i : Nat) (o : Obj) (h : i ≠ b) : (setB w b o).heap[i]? = w.heap[i]? := by
  simp only [setB]; rw [Array.getElem?_setIfInBounds_ne (Ne.symm h)]
theorem alloc_size (w : World) (o : Obj) : (w.alloc o).heap.size = w.heap.size + 1 := by simp
theorem alloc_new (w : World) (o : Obj) : (w.alloc o).heap[w.heap.size]? = some o := heap_alloc_new w o
theorem alloc_old (w : World) (o : Obj) (i : Nat) (h : i < w.heap.size) : (w.alloc o).heap[i]? = w.heap[i]? := by
  show (w.heap.push o)[i]? = _
  rw [Array.getElem?_push, if_neg (Nat.ne_of_lt h)]
theorem cell_blk {w : World} {b j : Nat} {cs : Array Value} {t : TypeId} {fr : Nat × Nat} (h : w.heap[b]? = some (.cells cs t fr)) : w.cell? ⟨b, j, none⟩ = cs[j]? := by simp [World.cell?, h]
theorem blk_lt {w : World} {b : Nat} {o : Obj} (h : w.heap[b]? = some o) : b < w.heap.size := (Array.getElem?_eq_some_iff.1 h).1
theorem add_pl (b o j : Nat) : (⟨b, o, none⟩ : Addr).add j = ⟨b, o + j, none⟩ := by unfold Addr.add; split <;> simp_all
structure Mod (S : Nat → Prop) (w w' : World) : Prop where
  os : w'.os = w.os
  tape : w'.tape = w.tape
  output : w'.output = w.output
  size : w.heap.size ≤ w'.heap.size
  block : ∀ k, k < w.heap.size → ¬ S k → w'.heap[k]? = w.heap[k]?
def none_ : Nat → Prop := fun _ => False
theorem Mod.refl (S : Nat → Prop) (w : World) : Mod S w w := ⟨rfl, rfl, rfl, Nat.le_refl _, fun _ _ _ => rfl⟩
theorem Mod.trans {S : Nat → Prop} {a b c : World} (h : Mod S a b) (k : Mod S b c) : Mod S a c :=
  ⟨k.os.trans h.os, k.tape.trans h.tape, k.output.trans h.output, Nat.le_trans h.size k.size, fun i hi hs => (k.block i (Nat.lt_of_lt_of_le hi h.size) hs).trans (h.block i hi hs)⟩
theorem Mod.mono {S S' : Nat → Prop} {a b : World} (h : Mod S a b) (hs : ∀ k, k < a.heap.size → S k → S' k) : Mod S' a b :=
  ⟨h.os, h.tape, h.output, h.size, fun i hi hn => h.block i hi (fun q => hn (hs i hi q))⟩
theorem Mod.then {S T : Nat → Prop} {a b c : World} (h : Mod S a b) (k : Mod T b c) (hT : ∀ i, i < a.heap.size → T i → S i) : Mod S a c :=
  ⟨k.os.trans h.os, k.tape.trans h.tape, k.output.trans h.output, Nat.le_trans h.size k.size, fun i hi hs => (k.block i (Nat.lt_of_lt_of_le hi h.size) (fun q => hs (hT i hi q))).trans (h.block i hi hs)⟩
theorem Mod.alloc {S : Nat → Prop} {a b : World} (h : Mod S a b) (o : Obj) : Mod S a (b.alloc o) :=
  h.trans ⟨rfl, rfl, rfl, by simp, fun k hk _ => alloc_old b o k hk⟩
theorem Mod.set {S : Nat → Prop} {a b : World} (h : Mod S a b) {i : Nat} (o : Obj) (hi : i < a.heap.size → S i) : Mod S a (setB b i o) :=
  h.then (T := fun k => k = i) ⟨rfl, rfl, rfl, Nat.le_of_eq (setB_size b i o).symm, fun k _ hk => setB_old b i k o hk⟩ (fun k hk e => e ▸ hi (e ▸ hk))
theorem Mod.drawn {S : Nat → Prop} {a b : World} (h : Mod S a b) (n : Nat) : Mod S a { b with drawn := n } := ⟨h.os, h.tape, h.output, h.size, h.block⟩
theorem Mod.toBelow {a b : World} (h : Mod none_ a b) : Below a.heap.size a b := ⟨h.os, h.tape, h.output, h.size, fun k hk => h.block k hk id⟩
theorem Mod.blk {S : Nat → Prop} {a b : World} (h : Mod S a b) {i : Nat} {o : Obj} (hi : a.heap[i]? = some o) (hn : ¬ S i) : b.heap[i]? = some o := (h.block i (blk_lt hi) hn).trans hi
section
variable {P : Program} {w w' : World} {K : Value → World → Prop}
theorem info_of {t : TypeId} {n : Nat} (h : P.cellsOf t = n + 1) : ∃ z, P.info? t = some z ∧ z.size = n + 1 := by
  unfold Program.cellsOf at h
  cases hz : P.info? t with
  | none => rw [hz] at h; simp at h
  | some z => rw [hz] at h; exact ⟨z, rfl, by simpa using h⟩
theorem alloc_ok {t : TypeId} {z : Value} (hz0 : (P.info? t).bind (·.zero) = some z) (v : Value) : VK P (Instr.alloc t true v) w K = K (.pointer (some ⟨w.heap.size, 0, none⟩)) (w.alloc (.cells z.cells t)) := by
  obtain ⟨i, hi, hz⟩ := Option.bind_eq_some_iff.1 hz0
  have h : (Instr.alloc t true v).run P w = .ok (.pointer (some ⟨w.heap.size, 0, none⟩)) (w.alloc (.cells z.cells t)) := by
    simp only [Instr.alloc, zeroValue, typeInfo, program, Sem.run_bind, Sem.run, hi, hz, newVar, newRow, newObj, Result.andThen_ok, Sem.run_pure]
    rfl
  unfold VK OpK
  simp only [Sem.run_bind, h, Result.andThen_ok]
  rfl
theorem box_ok (t : TypeId) (v : Value) : VK P (Instr.box t v) w K = K (.pointer (some ⟨w.heap.size, 0, none⟩)) (w.alloc (.cells v.cells t)) := rfl
theorem run_ld1 {t : TypeId} {d : TypeDesc} {a : Addr} {v : Value} (hu : P.underlying t = some d) (hd : (match d with | .struct _ | .array _ _ => true | _ => false) = false) (hc : w.cell? a = some v) : (Instr.loadAt t (.pointer (some a))).run P w = .ok v w := by
  have hagg : (isAgg t).run P w = .ok false w := by
    unfold isAgg
    rw [Sem.run_bind, run_underlying hu w]
    cases d <;> simp_all
  simp [Instr.loadAt, Instr.sureAddr, loadVar, Sem.run_bind, hagg, load, Sem.run, hc]
theorem ld1 {t : TypeId} {d : TypeDesc} {a : Addr} {v : Value} (hu : P.underlying t = some d) (hd : (match d with | .struct _ | .array _ _ => true | _ => false) = false) (hc : w.cell? a = some v) (hk : K v w) : VK P (Instr.loadAt t (.pointer (some a))) w K :=
  VK_of (run_ld1 hu hd hc) hk
theorem run_ldA {t : TypeId} {d : TypeDesc} {a : Addr} {cs : List Value} (hu : P.underlying t = some d) (hd : (match d with | .struct _ | .array _ _ => true | _ => false) = true) (hi : (P.info? t).map (·.size) = some cs.length)
    (hc : ∀ j v, cs[j]? = some v → w.cell? (a.add j) = some v) : (Instr.loadAt t (.pointer (some a))).run P w = .ok (.agg cs.toArray) w := by
  have hl := run_loadCells_list (P := P) w a cs hc
  cases hq : P.info? t with
  | none => simp [hq] at hi
  | some i =>
    have hs : i.size = cs.length := by simpa [hq] using hi
    have hagg : (isAgg t).run P w = .ok true w := by
      unfold isAgg
      rw [Sem.run_bind, run_underlying hu w]
      cases d <;> simp_all
    simp [Instr.loadAt, Instr.sureAddr, loadVar, Sem.run_bind, hagg, sizeOf, typeInfo, hq, hs, hl]
theorem run_ldB {t ty : TypeId} {d : TypeDesc} {b : Nat} {cs : Array Value} {fr : Nat × Nat} (hu : P.underlying t = some d) (hd : (match d with | .struct _ | .array _ _ => true | _ => false) = true) (hi : (P.info? t).map (·.size) = some cs.size)
    (hc : w.heap[b]? = some (.cells cs ty fr)) : (Instr.loadAt t (.pointer (some ⟨b, 0, none⟩))).run P w = .ok (.agg cs) w := by
  have := run_ldA (P := P) (w := w) (a := ⟨b, 0, none⟩) (cs := cs.toList) hu hd (by simpa using hi) (fun j v hv => by
    rw [add_pl, cell_blk hc]
    simpa using hv)
  simpa using this
theorem ldB {t ty : TypeId} {d : TypeDesc} {b : Nat} {cs : Array Value} {fr : Nat × Nat} (hu : P.underlying t = some d) (hd : (match d with | .struct _ | .array _ _ => true | _ => false) = true) (hi : (P.info? t).map (·.size) = some cs.size)
    (hc : w.heap[b]? = some (.cells cs ty fr)) (hk : K (.agg cs) w) : VK P (Instr.loadAt t (.pointer (some ⟨b, 0, none⟩))) w K := VK_of (run_ldB hu hd hi hc) hk
theorem fld {s : TypeId} {fs : Array Field} {i n : Nat} {f : Field} (hu : P.underlying s = some (.struct fs)) (hf : fs[i]? = some f) (hc : P.cellsOf f.type = n + 1) (a : Addr) :
    VK P (Instr.fieldAt s (.pointer (some a)) i) w K = K (.pointer (some (a.add f.offset))) w := by
  obtain ⟨z, hz, hzs⟩ := info_of hc
  have h0 : z.size ≠ 0 := by omega
  have h : (Instr.fieldAt s (.pointer (some a)) i).run P w = .ok (.pointer (some (a.add f.offset))) w := by
    simp [Instr.fieldAt, run_underlying hu, Sem.run_bind, hf, Instr.sureAddr, fieldPlace, sizeOf, typeInfo, hz, h0]
  unfold VK OpK
  simp only [Sem.run_bind, h, Result.andThen_ok]
  rfl
def fieldOff (P : Program) (s : TypeId) (i : Nat) : Option Nat :=
  match P.underlying s with
  | some (.struct fs) =>
    match fs[i]? with
    | some f => match P.cellsOf f.type with | 0 => none | _ + 1 => some f.offset
    | none => none
  | _ => none
theorem fo {s : TypeId} {i off : Nat} (h : fieldOff P s i = some off) (a : Addr) : VK P (Instr.fieldAt s (.pointer (some a)) i) w K = K (.pointer (some (a.add off))) w := by
  unfold fieldOff at h
  split at h
  · rename_i fs hu
    split at h
    · rename_i f hf
      split at h
      · cases h
      · rename_i n hc
        cases h
        exact fld hu hf hc a
    · cases h
  · cases h
theorem ixa {t e : TypeId} {sz : Nat} (hu : P.underlying t = some (.slice e)) (hc : P.cellsOf e = sz + 1) {a : Addr} {n c : Nat} {k : IntKind} {i : Int} (h0 : 0 ≤ i) (h1 : i < n) :
    VK P (Instr.indexAt t (.slice (some a) n c) (.int k i)) w K = K (.pointer (some (a.add (i.toNat * (sz + 1))))) w := by
  obtain ⟨z, hz, hzs⟩ := info_of hc
  have h : (Instr.indexAt t (.slice (some a) n c) (.int k i)).run P w = .ok (.pointer (some (a.add (i.toNat * (sz + 1))))) w := by
    simp [Instr.indexAt, run_underlying hu, Sem.run_bind, asIntOf, h0, h1, sizeOf, typeInfo, hz, hzs]
  unfold VK OpK
  simp only [Sem.run_bind, h, Result.andThen_ok]
  rfl
end
section
variable {P : Program} {w w' : World} {K : Value → World → Prop}
theorem setRow_setB (w : World) (g : Nat) (cs cs' : Array Value) (t : TypeId) (h : w.heap[g]? = some (.cells cs t (0, 0))) : w.setRow g cs' = setB w g (.cells cs' t (0, 0)) := by
  obtain ⟨hlt, hg⟩ := Array.getElem?_eq_some_iff.1 h
  unfold World.setRow setB
  congr 1
  apply Array.ext_getElem?
  intro i
  rw [Array.getElem?_modify, Array.getElem?_setIfInBounds]
  by_cases e : g = i
  · subst e
    simp [hlt, hg]
  · rw [if_neg e, if_neg e]
theorem stB {t ty : TypeId} {b : Nat} {old cs : Array Value} (hi : (P.info? t).map (·.size) = some cs.size) (ho : old.size = cs.size) (h1 : cs.all (·.oneCell') = true) (hb : w.heap[b]? = some (.cells old ty (0, 0)))
    (hk : K undef (setB w b (.cells cs ty (0, 0)))) : UK P (Instr.storeAt t (.pointer (some ⟨b, 0, none⟩)) (.agg cs)) w K := by
  rw [← setRow_setB w b old cs ty hb] at hk
  refine UK_of ?_ hk
  simp only [Instr.storeAt, Instr.sureAddr, Sem.run_bind, Sem.run_pure, Result.andThen_ok]
  exact run_storeVar_row w b ty t old cs hb hi ho h1
theorem build_ok {t : TypeId} {parts : List (Nat × Value)} {cs : Array Value} (h : P.built t parts = some cs) : VK P (Instr.build t parts.toArray) w K = K (.agg cs) w := by
  have := run_build (P := P) w t parts.toArray cs (by simpa using h)
  unfold VK OpK
  simp only [Sem.run_bind, this, Result.andThen_ok]
  rfl
end
section
variable {P : Program} {C : World → Prop} {K : Value → Prop}
theorem QV_of {s : Sem Value} {v : Value} (h : ∀ w, C w → s.run P w = .ok v w) (hk : K v) : QK P C (do pure (Next.value (← s))) K := by
  refine ⟨v, fun w hw => ?_, hk⟩
  simp only [Sem.run_bind, h w hw, Result.andThen_ok]
  exact ⟨rfl, rfl⟩
theorem QB_of {op : BinOp} {t : TypeId} {x y : Operand} {a b v : Value} (hg : ∀ w, (eqGuard op t x y a b).run P w = .ok () w) (h : ∀ w, (binOp op t a b).run P w = .ok v w) (hk : K v) : QK P C (do pure (Next.value (← (do eqGuard op t x y a b; binOp op t a b)))) K := by
  refine QV_of (fun w _ => ?_) hk
  simp only [Sem.run_bind, hg, h, Result.andThen_ok]
end
end Go.X
set_option linter.unusedVariables false
set_option linter.unusedSimpArgs false
namespace Go.X
open Go Go.RowKit
def reads (w : World) (size : Nat) (v : Value) (n : Nat) (xs : List Value) : Prop :=
  xs.length = n * size ∧ ∃ A c, v = .slice A n c ∧ n ≤ c ∧ ∀ j u, xs[j]? = some u → ∃ a, A = some a ∧ w.cell? (a.add j) = some u
theorem add_block (a : Addr) (j : Nat) : (a.add j).block = a.block := by unfold Addr.add; split <;> rfl
theorem reads_mod {S : Nat → Prop} {w w' : World} {size : Nat} {v : Value} {n : Nat} {xs : List Value} (h : reads w size v n xs) (hm : Mod S w w') (hS : ∀ k, k < w.heap.size → v.ownBlock = some k → ¬ S k) : reads w' size v n xs := by
  obtain ⟨hl, A, c, rfl, hc, hr⟩ := h
  refine ⟨hl, A, c, rfl, hc, fun j u hu => ?_⟩
  obtain ⟨a, rfl, hcell⟩ := hr j u hu
  have hlt := World.block_lt_of_cell? _ _ hcell
  rw [add_block] at hlt
  refine ⟨a, rfl, (World.cell?_of_block ?_).trans hcell⟩
  rw [add_block]
  exact hm.block _ hlt (hS _ hlt rfl)
theorem reads_of_owns {w : World} {base : Nat} {e : TypeId} {size : Nat} {v : Value} {n : Nat} {xs : List Value} (h : w.ownsRow base e size v n xs) : reads w size v n xs := by
  refine ⟨h.1, ?_⟩
  have hc := fun g hg => h.cells (g := g) hg
  rcases h.2 with ⟨rfl, rfl⟩ | ⟨g, cap, cur, rfl, _, _, hn, _⟩
  · have : xs = [] := List.length_eq_zero_iff.1 (by simpa using h.1)
    subst this
    exact ⟨none, 0, rfl, Nat.le_refl _, by simp⟩
  · exact ⟨_, cap, rfl, hn, fun j u hu => ⟨_, rfl, hc g rfl j u hu⟩⟩
theorem owns_mod {S : Nat → Prop} {w w' : World} {base : Nat} {e : TypeId} {size : Nat} {v : Value} {n : Nat} {xs : List Value} (h : w.ownsRow base e size v n xs) (hm : Mod S w w') (hS : ∀ k, v.ownBlock = some k → ¬ S k) : w'.ownsRow base e size v n xs := by
  refine ⟨h.1, ?_⟩
  rcases h.2 with hn | ⟨g, cap, cur, rfl, hb, hgg, rest⟩
  · exact .inl hn
  · exact .inr ⟨g, cap, cur, rfl, hb, hm.blk hgg (hS g rfl), rest⟩
theorem add_add (a : Addr) (i j : Nat) : (a.add i).add j = a.add (i + j) := by
  unfold Addr.add
  by_cases e1 : i = 0
  · by_cases e2 : j = 0
    · simp [e1, e2]
    · simp [e1, e2]
  · by_cases e2 : j = 0
    · simp [e1, e2]
    · rw [if_neg e2, if_neg e1, if_neg (by omega)]
      simp [Nat.add_assoc]
section
variable {P : Program} {w w' : World} {K : Value → World → Prop}
theorem ixld {t e : TypeId} {d : TypeDesc} (hu : P.underlying t = some (.slice e)) (hc : P.cellsOf e = 1) (hue : P.underlying e = some d) (hd : (match d with | .struct _ | .array _ _ => true | _ => false) = false) {v : Value} {n : Nat} {xs : List Value} (h : reads w 1 v n xs) {k : IntKind} {i : Int}
    (h0 : 0 ≤ i) {u : Value} (hi : xs[i.toNat]? = some u) {K : Value → Value → World → Prop} (hk : ∀ x, K x u w) : VK P (Instr.indexAt t v (.int k i)) w fun x w => VK P (Instr.loadAt e x) w (K x) := by
  obtain ⟨hl, A, c, rfl, _, hr⟩ := h
  obtain ⟨a, rfl, hcell⟩ := hr _ _ hi
  have hlt : i.toNat < xs.length := by
    rcases Nat.lt_or_ge i.toNat xs.length with q | q
    · exact q
    · rw [List.getElem?_eq_none q] at hi; cases hi
  rw [ixa (sz := 0) hu hc h0 (by omega)]
  exact ld1 hue hd (by simpa using hcell) (hk _)
def builtRow (P : Program) (t : TypeId) (len : Nat) (parts : List (Nat × Value)) : Option (Array Value) :=
  match P.underlying t with
  | some (.slice e) =>
    match P.info? e with
    | some ie =>
      match ie.zero with
      | some z => if decide (len * ie.size > 2 ^ 24) || decide (len * ie.size = 0) then none else Instr.fill (fun i => some (i * ie.size, ie.size)) ((Array.range (len * ie.size)).map (z.cells[· % z.cells.size]!)) parts
      | none => none
    | none => none
  | _ => none
theorem bs_ok {t : TypeId} {len : Nat} {parts : List (Nat × Value)} {cs : Array Value} (h : builtRow P t len parts = some cs) : VK P (Instr.buildSlice t len parts.toArray) w K = K (.slice (some ⟨w.heap.size, 0, none⟩) len len) (w.alloc (.cells cs (P.elem t))) := by
  unfold builtRow at h
  split at h
  · rename_i e hu
    split at h
    · rename_i ie hie
      split at h
      · rename_i z hz
        split at h
        · cases h
        · rename_i hn
          simp only [Bool.or_eq_true, decide_eq_true_eq, not_or] at hn
          have := run_buildSlice (P := P) w t e len parts.toArray cs ie z hu hie hz hn.1 hn.2 h
          unfold VK OpK
          simp only [Sem.run_bind, this, Result.andThen_ok]
          have he : P.elem t = e := by simp [Program.elem, hu]
          rw [he]
          rfl
      · cases h
    · cases h
  · cases h
end
theorem wrap_i {n : Int} (h0 : -9223372036854775808 ≤ n) (h1 : n < 9223372036854775808) : IntKind.i64.wrap n = n := by rw [IntKind.wrap_i64]; omega
theorem res_ld {P : Program} {t : TypeId} {a : Addr} {v : Value} {w : World} (h : (Instr.loadAt t (.pointer (some a))).run P w = .ok v w) : (do loadVar t (← asAddr (.pointer (some a))) : Sem Value).run P w = .ok v w := h
def Rt (P : Program) (f : FuncId) (args : Array Value) (w : World) (R : Value → World → Prop) : Prop := Calls P f args w fun e w' => ∃ v, e = .returned v ∧ R v w'
theorem Rt.mono {P : Program} {f : FuncId} {args : Array Value} {w : World} {R R' : Value → World → Prop} (h : Rt P f args w R) (hk : ∀ v w', R v w' → R' v w') : Rt P f args w R' := Calls.mono h fun e w' ⟨v, he, hv⟩ => ⟨v, he, hk v w' hv⟩
section
variable {P : Program} {N : Sl → World → Prop} {K : Exit → Sl → World → Prop} {ρ : Sl} {w : World} {rs : List ResultVar} {R : Value → World → Prop}
theorem sq_n : seqK N K .normal = N := rfl
theorem sq_x (i : Nat) : seqK N K (.exit i) = K (.exit i) := rfl
theorem sq_r : seqK N K .ret = K .ret := rfl
theorem bk_n (i : Nat) : blkK i K .normal = K .normal := rfl
theorem bk_r (i : Nat) : blkK i K .ret = K .ret := rfl
theorem bk_x (i : Nat) : blkK i K (.exit i) = K .normal := by
  show (if Nat.beq i i then K .normal else K (.exit i)) = _
  rw [if_pos (Nat.beq_refl i)]
theorem rt_r : retK P rs R .ret ρ w = resK P ρ (fun vs w => R (packV vs) w) rs w := rfl
theorem rt_n : retK P rs R .normal ρ w = resK P ρ (fun vs w => R (packV vs) w) rs w := rfl
theorem rs_0 {k : List Value → World → Prop} : resK P ρ k [] w = k [] w := rfl
theorem rs_t {k : List Value → World → Prop} (t : Nat) : resK P ρ k (.tmp t :: rs) w = resK P ρ (fun vs w => k (ρ t :: vs) w) rs w := rfl
theorem pk_1 (v : Value) : packV [v] = v := rfl
theorem pk_2 (v u : Value) : packV [v, u] = .tuple #[v, u] := rfl
end
theorem Mod.put {S : Nat → Prop} {a b : World} (h : Mod S a b) {i : Nat} (o : Obj) (hi : i < a.heap.size → S i) : Mod S a (b.putObj i o) := Mod.set h o hi
section
variable {α : Type} {enc : α → List Value} {k : Nat} (hk : ∀ a, (enc a).length = k)
include hk
theorem fl_len (xs : List α) : (xs.flatMap enc).length = xs.length * k := by
  induction xs with
  | nil => simp
  | cons r xs ih => simp only [List.flatMap_cons, List.length_append, List.length_cons, hk, ih, Nat.add_mul]; omega
theorem fl_drop {xs : List α} {n : Nat} {r : α} (h : xs[n]? = some r) : ((xs.flatMap enc).drop (n * k)).take k = enc r := by
  induction xs generalizing n with
  | nil => simp at h
  | cons q xs ih =>
    cases n with
    | zero =>
      simp at h
      subst h
      rw [List.flatMap_cons, Nat.zero_mul, List.drop_zero, List.take_append_of_le_length (by rw [hk]; exact Nat.le_refl _), List.take_of_length_le (by rw [hk]; exact Nat.le_refl _)]
    | succ n =>
      have := ih (n := n) (by simpa using h)
      rw [List.flatMap_cons, List.drop_append, List.drop_of_length_le (by rw [hk, Nat.add_mul]; omega), List.nil_append, hk, show (n + 1) * k - k = n * k by rw [Nat.add_mul]; omega]
      exact this
theorem fl_get {xs : List α} {n j : Nat} {r : α} (h : xs[n]? = some r) (hj : j < k) : (xs.flatMap enc)[n * k + j]? = (enc r)[j]? := by
  have := fl_drop hk h
  rw [← this, List.getElem?_take, if_pos hj, List.getElem?_drop]
end
section
variable {P : Program} {w : World} {K : Value → World → Prop}
theorem new_k (w : World) (o : Obj) {M : World → Prop} (hk : ∀ w', w'.heap[w.heap.size]? = some o → Mod none_ w w' → w'.heap.size = w.heap.size + 1 → M w') : M (w.alloc o) := hk _ (alloc_new w o) ((Mod.refl _ w).alloc _) (alloc_size w o)
theorem bs_k {t : TypeId} {len : Nat} {parts : List (Nat × Value)} {cs : Array Value} (h : builtRow P t len parts = some cs)
    (hk : ∀ w', w'.heap[w.heap.size]? = some (.cells cs (P.elem t) (0, 0)) → Mod none_ w w' → w'.heap.size = w.heap.size + 1 → K (.slice (some ⟨w.heap.size, 0, none⟩) len len) w') : VK P (Instr.buildSlice t len parts.toArray) w K := by
  rw [bs_ok h]
  exact new_k w _ hk
theorem box_k {t : TypeId} {v : Value} {cs : Array Value} (hc : v.cells = cs) (hk : ∀ w', w'.heap[w.heap.size]? = some (.cells cs t (0, 0)) → Mod none_ w w' → w'.heap.size = w.heap.size + 1 → K (.pointer (some ⟨w.heap.size, 0, none⟩)) w') : VK P (Instr.box t v) w K := by
  rw [box_ok, hc]
  exact new_k w _ hk
theorem al_k {t : TypeId} {z : Value} {cs : Array Value} (hz0 : (P.info? t).bind (·.zero) = some z) (hc : z.cells = cs) (v : Value) (hk : ∀ w', w'.heap[w.heap.size]? = some (.cells cs t (0, 0)) → Mod none_ w w' → w'.heap.size = w.heap.size + 1 → K (.pointer (some ⟨w.heap.size, 0, none⟩)) w') : VK P (Instr.alloc t true v) w K := by
  rw [alloc_ok hz0, hc]
  exact new_k w _ hk
theorem lcl_k {t : TypeId} {z : Value} {cs : Array Value} (hz0 : (P.info? t).bind (·.zero) = some z) (v : Value) (hi : (P.info? t).map (·.size) = some cs.size) (hsz : z.cells.size = cs.size) (h1 : cs.all (·.oneCell') = true) {K : Value → Value → World → Prop}
    (hk : ∀ w', w'.heap[w.heap.size]? = some (.cells cs t (0, 0)) → Mod none_ w w' → w'.heap.size = w.heap.size + 1 → K (.pointer (some ⟨w.heap.size, 0, none⟩)) undef w') : VK P (Instr.alloc t true v) w fun x w => UK P (Instr.storeAt t x (.agg cs)) w (K x) := by
  rw [alloc_ok hz0]
  refine stB hi hsz h1 (alloc_new w _) (hk _ (setB_new _ _ _ (by simp)) (((Mod.refl _ w).alloc _).set _ (fun q => absurd q (by omega))) (by rw [setB_size, alloc_size]))
theorem reads_blk {w : World} {b : Nat} {cs : Array Value} {e : TypeId} {fr : Nat × Nat} {size n : Nat} (h : w.heap[b]? = some (.cells cs e fr)) (hs : cs.size = n * size) : reads w size (.slice (some ⟨b, 0, none⟩) n n) n cs.toList :=
  ⟨by simpa using hs, _, _, rfl, Nat.le_refl _, fun j u hu => ⟨_, rfl, by rw [add_pl, cell_blk h]; simpa using hu⟩⟩
end
theorem run_fo {P : Program} {s : TypeId} {i off : Nat} (h : fieldOff P s i = some off) (a : Addr) (w : World) : (Instr.fieldAt s (.pointer (some a)) i).run P w = .ok (.pointer (some (a.add off))) w := by
  unfold fieldOff at h
  split at h
  · rename_i fs hu
    split at h
    · rename_i f hf
      split at h
      · cases h
      · rename_i n hc
        cases h
        obtain ⟨z, hz, hzs⟩ := info_of hc
        have h0 : z.size ≠ 0 := by omega
        simp [Instr.fieldAt, run_underlying hu, Sem.run_bind, hf, Instr.sureAddr, fieldPlace, sizeOf, typeInfo, hz, h0]
    · cases h
  · cases h
theorem run_ixa {P : Program} {t e : TypeId} {sz : Nat} (hu : P.underlying t = some (.slice e)) (hc : P.cellsOf e = sz + 1) {a : Addr} {n c : Nat} {k : IntKind} {i : Int} (h0 : 0 ≤ i) (h1 : i < n) (w : World) :
    (Instr.indexAt t (.slice (some a) n c) (.int k i)).run P w = .ok (.pointer (some (a.add (i.toNat * (sz + 1))))) w := by
  obtain ⟨z, hz, hzs⟩ := info_of hc
  simp [Instr.indexAt, run_underlying hu, Sem.run_bind, asIntOf, h0, h1, sizeOf, typeInfo, hz, hzs]
theorem owns_blk {w : World} {base : Nat} {e : TypeId} {size : Nat} {v : Value} {n : Nat} {xs : List Value} (h : w.ownsRow base e size v n xs) {g : Nat} (hg : v.ownBlock = some g) : ∃ cur, w.heap[g]? = some (.cells cur e (0, 0)) := by
  rcases h.2 with ⟨rfl, rfl⟩ | ⟨g', cap, cur, rfl, _, hg', _⟩
  · simp [Value.ownBlock] at hg
  · simp [Value.ownBlock] at hg
    subst hg
    exact ⟨cur, hg'⟩
theorem owns_base {w : World} {b b' : Nat} {e : TypeId} {s : Nat} {v : Value} {n : Nat} {xs : List Value} (h : w.ownsRow b e s v n xs) (hb : b' ≤ b) : w.ownsRow b' e s v n xs :=
  ⟨h.1, h.2.imp id fun ⟨g, cap, cur, e1, e2, e3⟩ => ⟨g, cap, cur, e1, by omega, e3⟩⟩
theorem reads_cap {w : World} {size : Nat} {v : Value} {n : Nat} {xs : List Value} (h : reads w size v n xs) : ∃ A c, v = .slice A n c ∧ n ≤ c := by
  obtain ⟨_, A, c, rfl, hnc, _⟩ := h
  exact ⟨A, c, rfl, hnc⟩
section
variable {P : Program} {C : World → Prop}
end
theorem caseC {A B : Prop} {b : Bool} (h1 : b = true → A) (h2 : b = false → B) : CondK (.bool b) A B := ⟨b, rfl, h1, h2⟩
theorem condT {A B : Prop} (h : A) : CondK (.bool true) A B := ⟨true, rfl, fun _ => h, fun q => by cases q⟩
theorem condF {A B : Prop} (h : B) : CondK (.bool false) A B := ⟨false, rfl, (fun q => by cases q), fun _ => h⟩
section
variable {P : Program} {C : World → Prop} {K : Value → Prop}
section
variable (t : TypeId) (x y : Operand) (k : IntKind) (a b : Int)
theorem Qneq {t : TypeId} {x y : Operand} {k : IntKind} {a b : Int} (hk : K (.bool (a != b))) : QK P C (do pure (Next.value (← (do eqGuard .neq t x y (.int k a) (.int k b); binOp .neq t (.int k a) (.int k b))))) K := QB_of (fun _ => rfl) (fun w => by simp [go_sem]) hk
end
end
end Go.X
set_option linter.unusedVariables false
namespace Go.X
open Go Go.RowKit
structure Sh (α : Type) where
  sz : Nat
  K : World → α → List Value → Prop
structure OpensAt (P : Program) (n : Nat) {α : Type} (k : Sh α) (t : TypeId) : Prop where
  go : ∀ {H : Type} {enc : TypeId × Value → H} {w : World} {base : Nat} {sp : Nat → Bool} {hd : Bool} {cs : List Value} {x : DataW H × List MemPlace}, DataW.trod enc P w base sp hd n t cs = some x → ∃ v : α, k.K w v cs
def Sh.int (k : IntKind) : Sh Int := ⟨1, fun _ v cs => cs = [.int k v] ∧ (Lit.int k v).wf = true⟩
def Sh.bool : Sh Bool := ⟨1, fun _ v cs => cs = [.bool v]⟩
def Sh.string : Sh ByteArray := ⟨1, fun _ v cs => cs = [.string v] ∧ v.size ≤ maxLen⟩
def Sh.slice {α : Type} (k : Sh α) : Sh (Value × List α) := ⟨1, fun w x cs => cs = [x.1] ∧ x.2.length ≤ maxLen ∧ ∃ A c, x.1 = .slice A x.2.length c ∧ x.2.length ≤ c ∧ ∀ (i : Nat) y, x.2[i]? = some y → ∃ a d, A = some a ∧ d.length = k.sz ∧ k.K w y d ∧ ∀ (j : Nat) u, d[j]? = some u → w.cell? (a.add (i * k.sz + j)) = some u⟩
def Sh.pair {α β : Type} (a : Sh α) (b : Sh β) : Sh (α × β) := ⟨a.sz + b.sz, fun w x cs => ∃ c d, cs = c ++ d ∧ c.length = a.sz ∧ a.K w x.1 c ∧ b.K w x.2 d⟩
section
variable {P : Program} {n : Nat}
theorem opens_int {k : IntKind} {t : TypeId} (h : P.underlying t = some (.int k)) : OpensAt P n (Sh.int k) t := by
  constructor
  intro H enc w base sp hd cs x hx
  cases n with
  | zero => simp [DataW.trod] at hx
  | succ n =>
    unfold DataW.trod at hx
    rw [h] at hx
    match cs with
    | [.int k' m] =>
      simp only at hx
      split at hx
      · rename_i hk
        obtain ⟨rfl, hw⟩ := hk
        exact ⟨m, rfl, hw⟩
      · cases hx
    | [] => simp at hx
    | [.bool _] => simp at hx
    | [.float ..] => simp at hx
    | [.complex ..] => simp at hx
    | [.string _] => simp at hx
    | [.pointer _] => simp at hx
    | [.slice ..] => simp at hx
    | [.map _] => simp at hx
    | [.chan _] => simp at hx
    | [.func ..] => simp at hx
    | [.nilFunc] => simp at hx
    | [.iface ..] => simp at hx
    | [.nilIface] => simp at hx
    | [.agg _] => simp at hx
    | [.tuple _] => simp at hx
    | _ :: _ :: _ => simp at hx
theorem opens_bool {t : TypeId} (h : P.underlying t = some .bool) : OpensAt P n Sh.bool t := by
  constructor
  intro H enc w base sp hd cs x hx
  cases n with
  | zero => simp [DataW.trod] at hx
  | succ n =>
    unfold DataW.trod at hx
    rw [h] at hx
    match cs with
    | [.bool b] => exact ⟨b, rfl⟩
    | [] => simp at hx
    | [.int ..] => simp at hx
    | [.float ..] => simp at hx
    | [.complex ..] => simp at hx
    | [.string _] => simp at hx
    | [.pointer _] => simp at hx
    | [.slice ..] => simp at hx
    | [.map _] => simp at hx
    | [.chan _] => simp at hx
    | [.func ..] => simp at hx
    | [.nilFunc] => simp at hx
    | [.iface ..] => simp at hx
    | [.nilIface] => simp at hx
    | [.agg _] => simp at hx
    | [.tuple _] => simp at hx
    | _ :: _ :: _ => simp at hx
theorem opens_string {t : TypeId} (h : P.underlying t = some .string) : OpensAt P n Sh.string t := by
  constructor
  intro H enc w base sp hd cs x hx
  cases n with
  | zero => simp [DataW.trod] at hx
  | succ n =>
    unfold DataW.trod at hx
    rw [h] at hx
    match cs with
    | [.string s] =>
      simp only at hx
      split at hx
      · rename_i hk; exact ⟨s, rfl, hk⟩
      · cases hx
    | [] => simp at hx
    | [.int ..] => simp at hx
    | [.float ..] => simp at hx
    | [.complex ..] => simp at hx
    | [.bool _] => simp at hx
    | [.pointer _] => simp at hx
    | [.slice ..] => simp at hx
    | [.map _] => simp at hx
    | [.chan _] => simp at hx
    | [.func ..] => simp at hx
    | [.nilFunc] => simp at hx
    | [.iface ..] => simp at hx
    | [.nilIface] => simp at hx
    | [.agg _] => simp at hx
    | [.tuple _] => simp at hx
    | _ :: _ :: _ => simp at hx
theorem choose_list {α : Type} {Q : Nat → α → Prop} : ∀ n : Nat, (∀ i, i < n → ∃ v, Q i v) → ∃ l : List α, l.length = n ∧ ∀ i v, l[i]? = some v → Q i v
  | 0, _ => ⟨[], rfl, fun i v h => by simp at h⟩
  | n + 1, h => by
    obtain ⟨l, hl, hq⟩ := choose_list n (fun i hi => h i (by omega))
    obtain ⟨v, hv⟩ := h n (by omega)
    refine ⟨l ++ [v], by simp [hl], fun i u hu => ?_⟩
    rcases Nat.lt_trichotomy i n with hi | hi | hi
    · rw [List.getElem?_append_left (by omega)] at hu; exact hq i u hu
    · subst hi
      rw [List.getElem?_append_right (by omega), hl] at hu
      simp at hu
      exact hu ▸ hv
    · rw [List.getElem?_eq_none (by simp [hl]; omega)] at hu; cases hu
theorem opens_slice {α : Type} {k : Sh α} {t e : TypeId} (h : P.underlying t = some (.slice e)) (hs : P.cellsOf e = k.sz) (he : ∀ m, m < n → OpensAt P m k e) : OpensAt P n (Sh.slice k) t := by
  constructor
  intro H enc w base sp hd cs x hx
  rcases DataW.trod_slice h hx with ⟨rfl, rfl⟩ | ⟨a, len, cap, elems, rest, m, hn, rfl, rfl, hb, hl, hm, hlen, hel, _, _⟩
  · exact ⟨(.slice none 0 0, []), rfl, by simp, none, 0, rfl, Nat.le_refl _, by simp⟩
  · have key : ∀ i, i < len → ∃ v : α, ∃ c, c.length = k.sz ∧ k.K w v c ∧ ∀ j u, c[j]? = some u → w.cell? (a.add (i * k.sz + j)) = some u := by
      intro i hi
      have h1 := hel i hi
      rw [List.getElem?_eq_getElem (show i < elems.length by omega)] at h1
      obtain ⟨c, hc, ht⟩ := Option.bind_eq_some_iff.1 h1
      obtain ⟨_, hcl, hcell⟩ := World.cells?_some hc
      obtain ⟨v, hv⟩ := (he m (by omega)).go ht
      refine ⟨v, c, by rw [hcl, hs], hv, fun j u hu => ?_⟩
      have hj : j < P.cellsOf e := by
        rcases Nat.lt_or_ge j c.length with q | q
        · omega
        · rw [List.getElem?_eq_none q] at hu; cases hu
      have := hcell j hj
      rw [hu] at this
      rw [← this, ← hs, add_add]
    obtain ⟨l, hll, hq⟩ := choose_list len key
    refine ⟨(.slice (some a) len cap, l), rfl, ?_, some a, cap, by rw [hll], by show l.length ≤ cap; omega, fun i y hy => ?_⟩
    · show l.length ≤ maxLen; omega
    · obtain ⟨d, h1, h2, h3⟩ := hq i y hy
      exact ⟨a, d, rfl, h1, h2, h3⟩
structure FieldsAt (P : Program) (n : Nat) {α : Type} (k : Sh α) (fs : List Field) (off : Nat) : Prop where
  go : ∀ {H : Type} {enc : TypeId × Value → H} {w : World} {base : Nat} {sp : Nat → Bool} {hd : Bool} {cs : List Value}, cs.length = off + k.sz →
    (∀ f ∈ fs, ∃ x, DataW.trod enc P w base sp hd n f.type ((cs.drop f.offset).take (P.cellsOf f.type)) = some x) → ∃ v : α, k.K w v (cs.drop off)
theorem fields_one {α : Type} {k : Sh α} {f : Field} {off : Nat} (ho : f.offset = off) (hs : P.cellsOf f.type = k.sz) (h : OpensAt P n k f.type) : FieldsAt P n k [f] off := by
  constructor
  intro H enc w base sp hd cs hl hx
  obtain ⟨x, hx⟩ := hx f (List.mem_singleton.2 rfl)
  rw [ho, List.take_of_length_le (by simp [hs]; omega)] at hx
  exact h.go hx
theorem fields_cons {α β : Type} {a : Sh α} {b : Sh β} {f : Field} {fs : List Field} {off : Nat} (ho : f.offset = off) (hs : P.cellsOf f.type = a.sz) (h : OpensAt P n a f.type) (hr : FieldsAt P n b fs (off + a.sz)) : FieldsAt P n (Sh.pair a b) (f :: fs) off := by
  constructor
  intro H enc w base sp hd cs hl hx
  obtain ⟨x, hx0⟩ := hx f List.mem_cons_self
  rw [ho, hs] at hx0
  have hl' : cs.length = off + (a.sz + b.sz) := hl
  obtain ⟨u, hu⟩ := h.go hx0
  obtain ⟨v, hv⟩ := hr.go (cs := cs) (by omega) (fun g hg => hx g (List.mem_cons_of_mem _ hg))
  refine ⟨(u, v), (cs.drop off).take a.sz, cs.drop (off + a.sz), ?_, ?_, hu, hv⟩
  · rw [← List.drop_drop, List.take_append_drop]
  · rw [List.length_take, List.length_drop]; omega
theorem opens_struct {α : Type} {k : Sh α} {t : TypeId} {fs : Array Field} (h : P.underlying t = some (.struct fs)) (hs : P.cellsOf t = k.sz) (hf : ∀ m, m < n → FieldsAt P m k fs.toList 0) : OpensAt P n k t := by
  constructor
  intro H enc w base sp hd cs x hx
  obtain ⟨xs, m, hn, _, hl, hxl, hfs⟩ := DataW.trod_struct h hx
  obtain ⟨v, hv⟩ := (hf m (by omega)).go (cs := cs) (H := H) (enc := enc) (w := w) (base := base) (sp := sp) (hd := hd) (by rw [hl, hs]; omega) (fun f hm => by
    obtain ⟨i, hi, rfl⟩ := List.mem_iff_getElem.1 hm
    have hi' : i < fs.size := by simpa using hi
    have h1 := hfs i fs.toList[i] (by rw [← Array.getElem?_toList]; exact List.getElem?_eq_getElem hi)
    rw [List.getElem?_eq_getElem (by omega)] at h1
    exact ⟨_, h1⟩)
  exact ⟨v, by simpa using hv⟩
theorem opens_as {α β : Type} {k : Sh α} {k' : Sh β} {t : TypeId} (h : OpensAt P n k t) (f : α → β) (hf : ∀ w v cs, k.K w v cs → k'.K w (f v) cs) : OpensAt P n k' t := by
  constructor
  intro H enc w base sp hd cs x hx
  obtain ⟨v, hv⟩ := h.go hx
  exact ⟨f v, hf _ _ _ hv⟩
end
theorem reads_sh {α : Type} {k : Sh α} {w : World} {x : Value × List α} {cs : List Value} (h : (Sh.slice k).K w x cs) (enc : α → List Value) (hk : ∀ a, (enc a).length = k.sz) (he : ∀ a d, k.K w a d → d = enc a) : reads w k.sz x.1 x.2.length (x.2.flatMap enc) := by
  obtain ⟨_, _, A, c, hv, hc, hr⟩ := h
  refine ⟨fl_len hk _, A, c, hv, hc, fun j u hu => ?_⟩
  have hlen := fl_len hk x.2
  have hj : j < x.2.length * k.sz := by
    rcases Nat.lt_or_ge j (x.2.flatMap enc).length with q | q
    · omega
    · rw [List.getElem?_eq_none q] at hu; cases hu
  have hs : 0 < k.sz := by
    rcases Nat.eq_zero_or_pos k.sz with q | q
    · rw [q] at hj; omega
    · exact q
  have hi : j / k.sz < x.2.length := by rw [Nat.div_lt_iff_lt_mul hs]; exact hj
  obtain ⟨a, d, rfl, hdl, hkd, hcell⟩ := hr _ _ (List.getElem?_eq_getElem hi)
  have hjd : j / k.sz * k.sz + j % k.sz = j := by rw [Nat.mul_comm]; exact Nat.div_add_mod j k.sz
  refine ⟨a, rfl, ?_⟩
  have h1 := hcell (j % k.sz) u (by
    rw [he _ _ hkd, ← fl_get hk (List.getElem?_eq_getElem hi) (Nat.mod_lt _ hs), hjd]
    exact hu)
  rwa [hjd] at h1
end Go.X
set_option linter.unusedVariables false
namespace Go.X
open Go Go.ChangeShapes Go.WideShapes Go.ChangeAt Go.RowKit
theorem law_row {H : Type} {enc : TypeId × Value → H} {C : Checked} {os : Os} {f : FuncId} {fn : Func} {s : ChangeSpec} {cond : Option ((H : Type) → List (DataW H) → Bool)} {tb : TypeId} {laid : List (String × DataW Unit)} {dom : List PathCond} {F : Stop.Interp}
    (own : ownKnob C.prog.godebug = none) (started : os.Started) (noInit : C.prog.inits.idxOf? f = none) (hfn : C.prog.funcs[f]? = some fn) (hvars : s.vars = []) (hlaid : laidOutB C.prog = true)
    (hr : (fn.params.toList.all fun t => C.prog.readableRec t && decide (t < C.prog.types.size)) = true) (hres : fn.resultTypes = #[tb]) (hb : C.prog.underlying tb = some .bool)
    (hspec : ∀ ds : List (DataW H), ds.length = fn.params.toList.length → s.fn H ds = { results := [.lit (.bool true)], args := ds })
    (witness : ∃ (w : World) (tape : Tape) (i : Input), w.os = os ∧ (w.forCall tape i).Shaped C.prog ∧ i.vars = [] ∧ Input.okWide C.prog (w.forCall tape i) .any w.heap.size f i ∧
      ({ OpenSpec.ofChange s with cond := cond } : OpenSpec).preRow enc C.prog fn dom false laid (w.forCall tape i).memory i.args ∧ ({} : Assume).holds C.prog (lone (Frame.enter C.prog f i.args .normal) [] (w.forCall tape i)))
    (contract : ∀ (W : World) (base : Nat) (args : Array Value) (ds : List (DataW H)) (p : List MemPlace),
      (∀ (j : Nat) t v, fn.params[j]? = some t → args[j]? = some v → Value.okWide C.prog W .any base t v) →
      DataW.TrodAll enc C.prog W 0 (fun _ => true) true fn.params.toList args.toList ds p →
      (DataW.weightsEach C.prog fn.params.toList ds).all (· ≤ reachBytes) = true → (∀ k, cond = some k → k H ds = true) → laidMetH C.prog laid W →
      Calls C.prog f args W fun e W' => e = .returned (.bool true) ∧ Below W.heap.size W W') :
    ReturnsInHanded {} C os f .any (({ OpenSpec.ofChange s with cond := cond } : OpenSpec).preRow enc C.prog fn dom false laid) ((({ OpenSpec.ofChange s with cond := cond } : OpenSpec).at F).post enc C.prog fn false true false false) := by
  refine returnsInHanded_of_row (C := C) (s := { OpenSpec.ofChange s with cond := cond }) own started noInit hfn witness ?_
  intro W base args ds gs before hval hW hcnd hcond hsz hX _ _
  have hW' := hW
  obtain ⟨p, q, hA, hV, rfl, hfz, hnd⟩ := hW
  have hV : DataW.TrodVars enc C.prog W (fun _ => true) s.vars gs q := hV
  have hpv : ({ OpenSpec.ofChange s with cond := cond } : OpenSpec).bare.plain.varTypes C.prog = [] := by
    show s.plain.varTypes C.prog = []
    simp [ChangeSpec.plain, DataSpec.varTypes, hvars]
  rw [hvars] at hV
  obtain ⟨rfl, rfl⟩ := trodVars_none hV
  rw [hpv] at hsz
  simp only [List.append_nil] at hsz hcond
  refine (contract W base args ds p hval hA hsz hcond hX).mono fun e W' ⟨he, bel⟩ => ?_
  subst he
  have hlen := trodAll_length hA
  have hs := hspec ds hlen
  refine ⟨_, rfl, ds, [], _, [], p, [], hW', ?_, ?_, ?_, bel.frame _, fun h => by cases h⟩
  · show DataW.TrodAll enc C.prog W' _ _ _ _ _ (s.fn H (ds ++ [])).results _
    simp only [List.append_nil, hs, hres]
    exact trodAll_mk1 (shut_bool hb _)
  · show DataW.TrodAll enc C.prog W' _ _ _ _ _ (s.fn H (ds ++ [])).args _
    simp only [List.append_nil, hs]
    exact below_trodAll hlaid bel hr hA
  · show DataW.TrodVars enc C.prog W' _ s.vars (s.fn H (ds ++ [])).vars _
    simp only [List.append_nil, hs, hvars]
    exact rfl
theorem witness_row_shaped {H : Type} {enc : TypeId × Value → H} {C : Checked} {os : Os} {f : FuncId} {fn : Func} {s : OpenSpec} {conds : List PathCond} {apart : Bool} {laid : List (String × DataW Unit)} (w0 : World) (args : Array Value) (hos : w0.os = os)
    (hsh : (w0.forCall (fun _ _ => 0) ⟨#[], args, []⟩).Shaped C.prog)
    (hok : Input.okWideB C.prog (w0.forCall (fun _ _ => 0) ⟨#[], args, []⟩) f ⟨#[], args, []⟩ = true)
    (hrow : s.preRow enc C.prog fn conds apart laid (w0.forCall (fun _ _ => 0) ⟨#[], args, []⟩).memory args) :
    ∃ (w : World) (tape : Tape) (i : Input), w.os = os ∧ (w.forCall tape i).Shaped C.prog ∧ i.vars = [] ∧ Input.okWide C.prog (w.forCall tape i) .any w.heap.size f i ∧
      s.preRow enc C.prog fn conds apart laid (w.forCall tape i).memory i.args ∧ ({} : Assume).holds C.prog (lone (Frame.enter C.prog f i.args .normal) [] (w.forCall tape i)) :=
  ⟨w0, fun _ _ => 0, ⟨#[], args, []⟩, hos, hsh, (Input.okWide_of_okWideB (base := 0) hok).1, (Input.okWide_of_okWideB hok).2, hrow, by
    simp only [Assume.holds]
    exact ⟨by simp, by simp, by simp, by simp, by simp⟩⟩
end Go.X
set_option linter.unusedVariables false
set_option linter.unusedSimpArgs false
namespace Go.X
open Go Go.RowKit
structure Ent (κ : Type) where
  k : κ
  v : Value
  b : Nat
section
variable {κ : Type} [DecidableEq κ]
def Ent.enc (enc : κ → Value) (e : Ent κ) : MapEntry := { key := enc e.k, val := e.v, born := e.b }
def findE (k : κ) : List (Ent κ) → Nat → Option (Nat × Value)
  | [], _ => none
  | e :: r, i => if k = e.k then some (i, e.v) else findE k r (i + 1)
structure KeyT (P : Program) (kt : TypeId) (enc : κ → Value) : Prop where
  find : ∀ (k : κ) (l : List (Ent κ)) (w : World), (Instr.findKey kt (enc k) (l.map (Ent.enc enc))).run P w = .ok (findE k l 0) w
  check : ∀ (e : Bool) (k : κ) (w : World), (Instr.checkKey e 10000 kt (enc k)).run P w = .ok () w
  bits : ∀ k : κ, Instr.sameBits 10000 (enc k) (enc k) = true
  inj : ∀ a b : κ, enc a = enc b → a = b
variable {P : Program} {kt : TypeId} {enc : κ → Value}
def IsMap (enc : κ → Value) (w : World) (b : Nat) (l : List (Ent κ)) (clock : Nat) : Prop := w.heap[b]? = some (.map (l.map (Ent.enc enc)).toArray clock)
omit [DecidableEq κ] in
theorem IsMap.mod {S : Nat → Prop} {w w' : World} {b : Nat} {l : List (Ent κ)} {c : Nat} (h : IsMap enc w b l c) (hm : Mod S w w') (hS : ¬ S b) : IsMap enc w' b l c := hm.blk h hS
variable (T : KeyT P kt enc) {t e : TypeId} (ht : P.underlying t = some (.map kt e))
include T ht
omit [DecidableEq κ] T ht in
omit T ht in
omit T ht in
omit [DecidableEq κ] T ht in
omit [DecidableEq κ] T ht in
end
end Go.X
set_option linter.unusedVariables false
set_option linter.unusedSimpArgs false
namespace Go.X
open Go Go.RowKit
structure FAt (P : Program) (w : World) (t : TypeId) (i : Nat) (a : Addr) (t' : TypeId) (v : Value) : Prop where
  go : ∃ off, fieldOff P t i = some off ∧ ∀ K : Value → World → Prop, VK P (Instr.loadAt t' (.pointer (some (a.add off)))) w K = K v w
theorem FAt.mk' {P : Program} {w : World} {t : TypeId} {i : Nat} {a : Addr} {t' : TypeId} {v : Value} {off : Nat} {d : TypeDesc} (h1 : fieldOff P t i = some off) (h2 : P.underlying t' = some d) (h3 : (match d with | .struct _ | .array _ _ => true | _ => false) = false) (h4 : w.cell? (a.add off) = some v) : FAt P w t i a t' v :=
  ⟨_, h1, fun K => VK_eq_of (run_ld1 h2 h3 h4)⟩
section
variable {P : Program} {w : World} {K : Value → World → Prop} {t t' ty ty' : TypeId} {i : Nat} {a : Addr} {v : Value} {b : Bool}
theorem FAt.eq (h : FAt P w t i a t' v) (K : Value → World → Prop) : (VK P (Instr.fieldAt t (.pointer (some a)) i) w fun x w => VK P (Instr.loadAt t' x) w K) = K v w := by
  obtain ⟨off, h1, h2⟩ := h.go
  rw [fo h1, h2]
variable {t2 t2' : TypeId} {i2 : Nat} {v2 : Value}
theorem FAt.vk' {K : Value → Value → World → Prop} (h : FAt P w t i a t' v) (hk : ∀ x, K x v w) : VK P (Instr.fieldAt t (.pointer (some a)) i) w fun x w => VK P (Instr.loadAt t' x) w (K x) := by
  obtain ⟨off, h1, h2⟩ := h.go
  rw [fo h1, h2]
  exact hk _
end
end Go.X
set_option linter.unusedVariables false
namespace Go.X
open Go Go.RowKit
section
variable {P : Program} {w : World} {K : Value → World → Prop}
theorem stS {t ty : TypeId} {b : Nat} {old cs : Array Value} {x v : Value} (hx : x = .pointer (some ⟨b, 0, none⟩)) (hv : v = .agg cs) (hi : (P.info? t).map (·.size) = some cs.size) (ho : old.size = cs.size) (h1 : cs.all (·.oneCell') = true) (hb : w.heap[b]? = some (.cells old ty (0, 0)))
    (hk : ∀ w', w'.heap[b]? = some (.cells cs ty (0, 0)) → Mod (fun i => i = b) w w' → w'.heap.size = w.heap.size → K undef w') : UK P (Instr.storeAt t x v) w K := by
  rw [hx, hv]
  exact stB hi ho h1 hb (hk _ (setB_new _ _ _ (blk_lt hb)) ((Mod.refl _ w).set _ (fun _ => rfl)) (by rw [setB_size]))
theorem ldS {t ty : TypeId} {d : TypeDesc} {b : Nat} {cs : Array Value} {x : Value} (hx : x = .pointer (some ⟨b, 0, none⟩)) (hu : P.underlying t = some d) (hd : (match d with | .struct _ | .array _ _ => true | _ => false) = true) (hi : (P.info? t).map (·.size) = some cs.size) (hb : w.heap[b]? = some (.cells cs ty (0, 0))) (hk : K (.agg cs) w) : VK P (Instr.loadAt t x) w K := by
  rw [hx]
  exact ldB hu hd hi hb hk
theorem FAt.vs {t t' : TypeId} {i : Nat} {a : Addr} {v x : Value} {K : Value → Value → World → Prop} (h : FAt P w t i a t' v) (hx : x = .pointer (some a)) (hk : ∀ y, K y v w) : VK P (Instr.fieldAt t x i) w fun y w => VK P (Instr.loadAt t' y) w (K y) := by
  rw [hx]; exact h.vk' hk
theorem rsCell {t ty : TypeId} {d : TypeDesc} {b : Nat} {cs : Array Value} {R : Value → World → Prop} {x : Value} (hx : x = .pointer (some ⟨b, 0, none⟩)) (hu : P.underlying t = some d) (hd : (match d with | .struct _ | .array _ _ => true | _ => false) = true) (hi : (P.info? t).map (·.size) = some cs.size) (hb : w.heap[b]? = some (.cells cs ty (0, 0))) (hk : R (.agg cs) w) :
    ∃ v, (do loadVar t (← asAddr x) : Sem Value).run P w = .ok v w ∧ R v w := by
  rw [hx]
  exact ⟨_, res_ld (run_ldB hu hd hi hb), hk⟩
end
end Go.X
set_option linter.unusedVariables false
set_option linter.unusedSimpArgs false
set_option maxRecDepth 4000
namespace Go.X
open Go Go.RowKit
end Go.X
set_option linter.unusedVariables false
set_option linter.unusedSimpArgs false
namespace Go.X
open Go Go.RowKit
theorem bytes_inj {a b : ByteArray} (h : a.data.toList = b.data.toList) : a = b := by
  cases a; cases b
  simp only [Array.toList_inj] at h
  rw [h]
section
variable {P : Program} {w : World} {K : Value → World → Prop}
theorem VGtt (s : Sem Value) : VG P (.bool true) true s w K = VK P s w K := by rw [VG_b]; rfl
theorem VGtf (s : Sem Value) : VG P (.bool true) false s w K = K undef w := by rw [VG_b]; rfl
theorem VGft (s : Sem Value) : VG P (.bool false) true s w K = K undef w := by rw [VG_b]; rfl
theorem VGff (s : Sem Value) : VG P (.bool false) false s w K = VK P s w K := by rw [VG_b]; rfl
theorem UGtt (s : Sem Unit) : UG P (.bool true) true s w K = UK P s w K := by rw [UG_b]; rfl
theorem UGtf (s : Sem Unit) : UG P (.bool true) false s w K = K undef w := by rw [UG_b]; rfl
theorem UGft (s : Sem Unit) : UG P (.bool false) true s w K = K undef w := by rw [UG_b]; rfl
theorem UGff (s : Sem Unit) : UG P (.bool false) false s w K = UK P s w K := by rw [UG_b]; rfl
theorem MGtt (v : Value) : MG P (.bool true) true v w K = K v w := by rw [MG_b]; rfl
theorem MGtf (v : Value) : MG P (.bool true) false v w K = K undef w := by rw [MG_b]; rfl
theorem MGft (v : Value) : MG P (.bool false) true v w K = K undef w := by rw [MG_b]; rfl
theorem MGff (v : Value) : MG P (.bool false) false v w K = K v w := by rw [MG_b]; rfl
theorem NGtt (v : Value) : NG P (.bool true) true v w K = NK P v w K := by rw [NG_b]; rfl
theorem NGtf (v : Value) : NG P (.bool true) false v w K = K undef w := by rw [NG_b]; rfl
theorem NGft (v : Value) : NG P (.bool false) true v w K = K undef w := by rw [NG_b]; rfl
theorem NGff (v : Value) : NG P (.bool false) false v w K = NK P v w K := by rw [NG_b]; rfl
theorem PGtt (c a b : Value) : PG P (.bool true) true c a b w K = PK P c a b w K := by rw [PG_b]; rfl
theorem PGtf (c a b : Value) : PG P (.bool true) false c a b w K = K undef w := by rw [PG_b]; rfl
theorem PGft (c a b : Value) : PG P (.bool false) true c a b w K = K undef w := by rw [PG_b]; rfl
theorem PGff (c a b : Value) : PG P (.bool false) false c a b w K = PK P c a b w K := by rw [PG_b]; rfl
theorem BGtt (op : BinOp) (ty : TypeId) (x y : Operand) (a b : Value) : BG P (.bool true) true op ty x y a b w K = BK P op ty x y a b w K := by rw [BG_b]; rfl
theorem BGtf (op : BinOp) (ty : TypeId) (x y : Operand) (a b : Value) : BG P (.bool true) false op ty x y a b w K = K undef w := by rw [BG_b]; rfl
theorem BGft (op : BinOp) (ty : TypeId) (x y : Operand) (a b : Value) : BG P (.bool false) true op ty x y a b w K = K undef w := by rw [BG_b]; rfl
theorem BGff (op : BinOp) (ty : TypeId) (x y : Operand) (a b : Value) : BG P (.bool false) false op ty x y a b w K = BK P op ty x y a b w K := by rw [BG_b]; rfl
theorem CGtt (f : Value) (args : List Value) : CG P (.bool true) true f args w K = CK P f args w K := by rw [CG_b]; rfl
theorem CGtf (f : Value) (args : List Value) : CG P (.bool true) false f args w K = K undef w := by rw [CG_b]; rfl
theorem CGft (f : Value) (args : List Value) : CG P (.bool false) true f args w K = K undef w := by rw [CG_b]; rfl
theorem CGff (f : Value) (args : List Value) : CG P (.bool false) false f args w K = CK P f args w K := by rw [CG_b]; rfl
theorem IGtt (b : Builtin) (ts : Array TypeId) (ty : TypeId) (cs : List Bool) (args : List Value) : IG P (.bool true) true b ts ty cs args w K = IK P b ts ty cs args w K := by rw [IG_b]; rfl
theorem IGtf (b : Builtin) (ts : Array TypeId) (ty : TypeId) (cs : List Bool) (args : List Value) : IG P (.bool true) false b ts ty cs args w K = K undef w := by rw [IG_b]; rfl
theorem IGft (b : Builtin) (ts : Array TypeId) (ty : TypeId) (cs : List Bool) (args : List Value) : IG P (.bool false) true b ts ty cs args w K = K undef w := by rw [IG_b]; rfl
theorem IGff (b : Builtin) (ts : Array TypeId) (ty : TypeId) (cs : List Bool) (args : List Value) : IG P (.bool false) false b ts ty cs args w K = IK P b ts ty cs args w K := by rw [IG_b]; rfl
theorem PKt (a b : Value) : PK P (.bool true) a b w K = K a w := by rw [PK_bool]; rfl
theorem PKf (a b : Value) : PK P (.bool false) a b w K = K b w := by rw [PK_bool]; rfl
theorem CDt (A B : Prop) : CondK (.bool true) A B = A := by rw [CondK_bool]; rfl
theorem CDf (A B : Prop) : CondK (.bool false) A B = B := by rw [CondK_bool]; rfl
theorem NOTt : VK P (Op.unary .not (.bool true)) w K = K (.bool false) w := not_ok true
theorem NOTf : VK P (Op.unary .not (.bool false)) w K = K (.bool true) w := not_ok false
section
variable {k : IntKind} {a b : Int}
theorem NEt (h : a ≠ b) (t : TypeId) (x y : Operand) (K : Value → World → Prop) : BK P .neq t x y (.int k a) (.int k b) w K = K (.bool true) w := by rw [BK_neq, bne_iff_ne.2 h]
theorem NEf (h : a = b) (t : TypeId) (x y : Operand) (K : Value → World → Prop) : BK P .neq t x y (.int k a) (.int k b) w K = K (.bool false) w := by rw [BK_neq, h]; simp
theorem GTt (h : b < a) (t : TypeId) (x y : Operand) (K : Value → World → Prop) : BK P .gtr t x y (.int k a) (.int k b) w K = K (.bool true) w := by rw [BK_gtr, decide_eq_true h]
theorem GTf (h : a ≤ b) (t : TypeId) (x y : Operand) (K : Value → World → Prop) : BK P .gtr t x y (.int k a) (.int k b) w K = K (.bool false) w := by rw [BK_gtr, decide_eq_false (by omega)]
end
section
variable {a b : ByteArray}
theorem SEQt (h : a = b) (t : TypeId) (x y : Operand) (K : Value → World → Prop) : BK P .eql t x y (.string a) (.string b) w K = K (.bool true) w := by rw [BK_eqlS, h]; simp
theorem SEQf (h : a ≠ b) (t : TypeId) (x y : Operand) (K : Value → World → Prop) : BK P .eql t x y (.string a) (.string b) w K = K (.bool false) w := by
  rw [BK_eqlS, beq_eq_false_iff_ne.2]
  exact fun q => h (bytes_inj (by rw [← ByteArray.toList_eq, ← ByteArray.toList_eq]; exact q))
end
structure FO (P : Program) (w : World) (t : TypeId) (i off : Nat) (a : Addr) (t' : TypeId) (v : Value) : Prop where
  h1 : fieldOff P t i = some off
  h2 : ∀ K : Value → World → Prop, VK P (Instr.loadAt t' (.pointer (some (a.add off)))) w K = K v w
theorem FO.mk' {t t' : TypeId} {i off : Nat} {a : Addr} {v : Value} {d : TypeDesc} (h1 : fieldOff P t i = some off) (h2 : P.underlying t' = some d) (h3 : (match d with | .struct _ | .array _ _ => true | _ => false) = false) (h4 : w.cell? (a.add off) = some v) : FO P w t i off a t' v :=
  ⟨h1, fun K => VK_eq_of (run_ld1 h2 h3 h4)⟩
theorem FO.blk {t t' ty : TypeId} {i off b : Nat} {fr : Nat × Nat} {cs : Array Value} {v : Value} {d : TypeDesc} (hb : w.heap[b]? = some (.cells cs ty fr)) (h1 : fieldOff P t i = some off) (h2 : P.underlying t' = some d) (h3 : (match d with | .struct _ | .array _ _ => true | _ => false) = false) (h4 : cs[off]? = some v) : FO P w t i off ⟨b, 0, none⟩ t' v :=
  FO.mk' h1 h2 h3 (by rw [add_pl, Nat.zero_add, cell_blk hb]; exact h4)
theorem FO.e {t t' : TypeId} {i off : Nat} {a : Addr} {v : Value} (h : FO P w t i off a t' v) (K : Value → Value → World → Prop) :
    (VK P (Instr.fieldAt t (.pointer (some a)) i) w fun x w => VK P (Instr.loadAt t' x) w (K x)) = K (.pointer (some (a.add off))) v w := by
  rw [fo h.h1, h.h2]
end
end Go.X
set_option linter.unusedVariables false
set_option linter.unusedSimpArgs false
namespace Go.X
open Go
section
variable {P : Program} {S : World → Prop} {K : Value → Prop}
end
end Go.X
set_option linter.unusedVariables false
set_option linter.unusedSimpArgs false
namespace Go.X
open Go
inductive Pd where
  | done
  | take (i : Nat) (r : Pd)
  | only (d : Bool) (i : Nat) (r : Pd)
  | two (d e : Bool) (i j : Nat) (a b : Pd)
def Pd.len : Pd → Nat
  | .done => 0
  | .take _ r => r.len + 1
  | .only _ _ r => r.len + 1
  | .two _ _ _ _ a _ => a.len + 1
def opOkD (P : Program) (n : Nat) (ops : Array Oper) (d : Bool) (i : Nat) : Bool := match ops[i]? with | none => false | some o => oOk n o && (d || noRound P o.op)
def Pd.ok (P : Program) (n : Nat) (ops : Array Oper) : Pd → Array Bool → Bool
  | .done, listed => (Region.ready .any ops listed).isEmpty
  | .take i r, listed => (match ops[i]? with | none => false | some o => oOk n o && (Region.free .any ops listed i && (Region.ready .any ops listed).contains i)) && Pd.ok P n ops r (listed.setIfInBounds i true)
  | .only d i r, listed => opOkD P n ops d i && (Region.ready .any ops listed == [i]) && Pd.ok P n ops r (listed.setIfInBounds i true)
  | .two d e i j a b, listed => opOkD P n ops d i && opOkD P n ops e j && (Region.ready .any ops listed == [i, j]) && (a.len == b.len) && Pd.ok P n ops a (listed.setIfInBounds i true) && Pd.ok P n ops b (listed.setIfInBounds j true)
end Go.X
set_option linter.unusedVariables false
namespace Go.X
open Go
end Go.X
set_option linter.unusedVariables false
set_option maxRecDepth 100000
namespace Go.Proofs.YtandbmnhghmcgaaDoor.XF
open Go Go.X
noncomputable def coll_Coll_Copy_b : Code := (Tryd.f15.body).getD .skip
noncomputable def coll_Coll_Copy_L0 : Code := cAt [1, 1, 1, 1, 0, 1, 0, 0] coll_Coll_Copy_b
noncomputable def coll_Coll_Copy_R1 : Code := cAt [1, 1, 1, 1, 1] coll_Coll_Copy_b
noncomputable def coll_Coll_Copy_F (a0 : Value) (w : World) (R : Value → World → Prop) : Prop :=
  BK Tryd.prog .eql 24 (.tmp 9) (.const (Value.pointer none)) a0 (Value.pointer none) w fun x10 w => CondK x10 (R (Value.pointer none) w) (CK Tryd.prog (Value.func (Fn.func 34) #[] #[]) [a0] w fun x12 w => CondK x12 (VK Tryd.prog (Instr.build 72 [].toArray) w fun x13 w => VK Tryd.prog (Instr.box 72 x13) w fun x14 w => R x14 w) (NK Tryd.prog a0 w fun x16 w => VK Tryd.prog (Instr.fieldAt 72 x16 0) w fun x17 w => VK Tryd.prog (Instr.loadAt 4 x17) w fun x18 w => CK Tryd.prog (Value.func (Fn.func 11) #[] #[]) [x18] w fun x19 w => NK Tryd.prog a0 w fun x21 w => VK Tryd.prog (Instr.fieldAt 72 x21 1) w fun x22 w => VK Tryd.prog (Instr.loadAt 70 x22) w fun x23 w => VK Tryd.prog (Instr.range 70 x23) w fun x24 w => W fn_ Tryd.prog 68 (Code.loop coll_Coll_Copy_L0) (blkK 0 (seqK (sx fn_ Tryd.prog 68 coll_Coll_Copy_R1 (retK Tryd.prog [ResultVar.tmp 2] R)) (retK Tryd.prog [ResultVar.tmp 2] R))) (up (up (up (up (up (up (up (up (up (up (up (up (up (up (up (up (rho0 [a0]) 2 (Value.pointer none)) 9 a0) 10 x10) 11 a0) 12 x12) 15 a0) 16 x16) 17 x17) 18 x18) 19 x19) 3 x19) 20 a0) 21 x21) 22 x22) 23 x23) 24 x24) w))
theorem coll_Coll_Copy_eq (a0 : Value) (w : World) (R : Value → World → Prop) : sx fn_ Tryd.prog 68 coll_Coll_Copy_b (retK Tryd.prog Tryd.f15.results.toList R) (rho0 [a0]) w = coll_Coll_Copy_F a0 w R := by kernel_rfl
theorem coll_Coll_Copy_calls {a0 : Value} {w : World} {R : Value → World → Prop} (h : coll_Coll_Copy_F a0 w R) : Calls Tryd.prog 15 #[a0] w fun e w' => ∃ v, e = .returned v ∧ R v w' :=
  Go.X.calls_of_sx (n := 68) (c := coll_Coll_Copy_b) Tryd.func15 (by kernel_rfl) (by kernel_rfl) (Nat.le_of_ble_eq_true rfl) (by kernel_rfl) (Eq.mpr (coll_Coll_Copy_eq a0 w R) h)
noncomputable def coll_Coll_Many_b : Code := (Tryd.f17.body).getD .skip
noncomputable def coll_Coll_Many_F (a0 a1 a2 : Value) (w : World) (R : Value → World → Prop) : Prop :=
  CK Tryd.prog (Value.func (Fn.func 47) #[] #[]) [a0, a1, a2] w fun x14 w => VK Tryd.prog (Instr.extract x14 0) w fun x15 w => VK Tryd.prog (Instr.extract x14 1) w fun x16 w => VK Tryd.prog (Instr.extract x14 2) w fun x17 w => VK Tryd.prog (Op.unary UnOp.not x17) w fun x19 w => CondK x19 (R (Value.int .i64 0) w) (NK Tryd.prog x15 w fun x21 w => VK Tryd.prog (Instr.fieldAt 82 x21 1) w fun x22 w => VK Tryd.prog (Instr.loadAt 80 x22) w fun x23 w => VK Tryd.prog (Instr.indexAt 80 x23 x16) w fun x25 w => VK Tryd.prog (Instr.loadAt 61 x25) w fun x26 w => IK Tryd.prog .len #[61] 3 [false] [x26] w fun x27 w => R x27 w)
theorem coll_Coll_Many_eq (a0 a1 a2 : Value) (w : World) (R : Value → World → Prop) : sx fn_ Tryd.prog 28 coll_Coll_Many_b (retK Tryd.prog Tryd.f17.results.toList R) (rho0 [a0, a1, a2]) w = coll_Coll_Many_F a0 a1 a2 w R := by kernel_rfl
theorem coll_Coll_Many_calls {a0 a1 a2 : Value} {w : World} {R : Value → World → Prop} (h : coll_Coll_Many_F a0 a1 a2 w R) : Calls Tryd.prog 17 #[a0, a1, a2] w fun e w' => ∃ v, e = .returned v ∧ R v w' :=
  Go.X.calls_of_sx (n := 28) (c := coll_Coll_Many_b) Tryd.func17 (by kernel_rfl) (by kernel_rfl) (Nat.le_of_ble_eq_true rfl) (by kernel_rfl) (Eq.mpr (coll_Coll_Many_eq a0 a1 a2 w R) h)
noncomputable def coll_Coll_Odd_b : Code := (Tryd.f24.body).getD .skip
noncomputable def coll_Coll_Odd_L0 : Code := cAt [1, 1, 1, 0, 1, 0, 0] coll_Coll_Odd_b
noncomputable def coll_Coll_Odd_R1 : Code := cAt [1, 1, 1, 1] coll_Coll_Odd_b
noncomputable def coll_Coll_Odd_F (a0 : Value) (w : World) (R : Value → World → Prop) : Prop :=
  CK Tryd.prog (Value.func (Fn.func 34) #[] #[]) [a0] w fun x12 w => CondK x12 (R (Value.slice none 0 0) w) (NK Tryd.prog a0 w fun x14 w => VK Tryd.prog (Instr.fieldAt 72 x14 1) w fun x15 w => VK Tryd.prog (Instr.loadAt 70 x15) w fun x16 w => CK Tryd.prog (Value.func (Fn.func 51) #[] #[]) [x16] w fun x17 w => CK Tryd.prog (Value.func (Fn.func 50) #[] #[]) [x17] w fun x18 w => IK Tryd.prog .len #[50] 3 [false] [x18] w fun x19 w => W fn_ Tryd.prog 62 (Code.loop coll_Coll_Odd_L0) (blkK 0 (seqK (sx fn_ Tryd.prog 62 coll_Coll_Odd_R1 (retK Tryd.prog [ResultVar.tmp 2] R)) (retK Tryd.prog [ResultVar.tmp 2] R))) (up (up (up (up (up (up (up (up (up (up (up (up (rho0 [a0]) 2 (Value.slice none 0 0)) 3 (Value.slice none 0 0)) 11 a0) 12 x12) 13 a0) 14 x14) 15 x15) 16 x16) 17 x17) 18 x18) 19 x19) 20 (Value.int .i64 0)) w)
theorem coll_Coll_Odd_eq (a0 : Value) (w : World) (R : Value → World → Prop) : sx fn_ Tryd.prog 62 coll_Coll_Odd_b (retK Tryd.prog Tryd.f24.results.toList R) (rho0 [a0]) w = coll_Coll_Odd_F a0 w R := by kernel_rfl
theorem coll_Coll_Odd_calls {a0 : Value} {w : World} {R : Value → World → Prop} (h : coll_Coll_Odd_F a0 w R) : Calls Tryd.prog 24 #[a0] w fun e w' => ∃ v, e = .returned v ∧ R v w' :=
  Go.X.calls_of_sx (n := 62) (c := coll_Coll_Odd_b) Tryd.func24 (by kernel_rfl) (by kernel_rfl) (Nat.le_of_ble_eq_true rfl) (by kernel_rfl) (Eq.mpr (coll_Coll_Odd_eq a0 w R) h)
noncomputable def coll_Coll_Told_b : Code := (Tryd.f27.body).getD .skip
noncomputable def coll_Coll_Told_R0 : Code := cAt [1, 1, 1, 1] coll_Coll_Told_b
noncomputable def coll_Coll_Told_F (a0 a1 a2 a3 : Value) (w : World) (R : Value → World → Prop) : Prop :=
  VK Tryd.prog (Instr.alloc 57 true (.tuple #[])) w fun x8 w => CK Tryd.prog (Value.func (Fn.func 47) #[] #[]) [a0, a1, a2] w fun x19 w => VK Tryd.prog (Instr.extract x19 0) w fun x20 w => VK Tryd.prog (Instr.extract x19 1) w fun x21 w => VK Tryd.prog (Instr.extract x19 2) w fun x22 w => VK Tryd.prog (Op.unary UnOp.not x22) w fun x24 w => MG Tryd.prog x24 false a0 w fun x26 w => MG Tryd.prog x24 false x20 w fun x27 w => MG Tryd.prog x24 false x21 w fun x28 w => MG Tryd.prog x24 false a3 w fun x29 w => CG Tryd.prog x24 false (Value.func (Fn.func 57) #[] #[]) [x26, x27, x28, x29] w fun x30 w => VG Tryd.prog x24 false (Op.unary UnOp.not x30) w fun x31 w => PK Tryd.prog x24 (Value.bool true) x31 w fun x32 w => CondK x32 (VK Tryd.prog (Instr.build 57 [].toArray) w fun x33 w => UK Tryd.prog (Instr.storeAt 57 x8 x33) w fun _ w => ∃ x8_1, (do loadVar 57 (← asAddr x8) : Sem Value).run Tryd.prog w = .ok x8_1 w ∧ R (Value.tuple #[x8_1, (Value.bool false)]) w) (CK Tryd.prog (Value.func (Fn.func 58) #[] #[]) [x20, x21, a3] w fun x38 w => VK Tryd.prog (Instr.extract x38 0) w fun x39 w => VK Tryd.prog (Instr.extract x38 1) w fun x40 w => VK Tryd.prog (Instr.alloc 34 true (.tuple #[])) w fun x13 w => UK Tryd.prog (Instr.storeAt 34 x13 x39) w fun _ w => sx fn_ Tryd.prog 54 coll_Coll_Told_R0 (retK Tryd.prog [ResultVar.cell 8 57, ResultVar.tmp 9] R) (up (up (up (up (up (up (up (up (up (up (up (up (up (up (up (up (up (up (up (up (up (up (up (up (up (up (up (up (up (up (up (up (rho0 [a0, a1, a2, a3]) 8 x8) 9 (Value.bool false)) 16 a0) 17 a1) 18 a2) 19 x19) 15 x19) 20 x20) 21 x21) 22 x22) 10 x20) 11 x21) 12 x22) 23 x22) 24 x24) 25 x24) 26 x26) 27 x27) 28 x28) 29 x29) 30 x30) 31 x31) 32 x32) 35 x20) 36 x21) 37 a3) 38 x38) 34 x38) 39 x39) 40 x40) 13 x13) 14 x40) w)
theorem coll_Coll_Told_eq (a0 a1 a2 a3 : Value) (w : World) (R : Value → World → Prop) : sx fn_ Tryd.prog 54 coll_Coll_Told_b (retK Tryd.prog Tryd.f27.results.toList R) (rho0 [a0, a1, a2, a3]) w = coll_Coll_Told_F a0 a1 a2 a3 w R := by kernel_rfl
theorem coll_Coll_Told_calls {a0 a1 a2 a3 : Value} {w : World} {R : Value → World → Prop} (h : coll_Coll_Told_F a0 a1 a2 a3 w R) : Calls Tryd.prog 27 #[a0, a1, a2, a3] w fun e w' => ∃ v, e = .returned v ∧ R v w' :=
  Go.X.calls_of_sx (n := 54) (c := coll_Coll_Told_b) Tryd.func27 (by kernel_rfl) (by kernel_rfl) (Nat.le_of_ble_eq_true rfl) (by kernel_rfl) (Eq.mpr (coll_Coll_Told_eq a0 a1 a2 a3 w R) h)
noncomputable def coll_Coll_Over_b : Code := (Tryd.f31.body).getD .skip
noncomputable def coll_Coll_Over_F (a0 a1 a2 a3 : Value) (w : World) (R : Value → World → Prop) : Prop :=
  CK Tryd.prog (Value.func (Fn.func 47) #[] #[]) [a0, a1, a2] w fun x16 w => VK Tryd.prog (Instr.extract x16 0) w fun x17 w => VK Tryd.prog (Instr.extract x16 1) w fun x18 w => VK Tryd.prog (Instr.extract x16 2) w fun x19 w => MG Tryd.prog x19 true a0 w fun x22 w => MG Tryd.prog x19 true x17 w fun x23 w => MG Tryd.prog x19 true x18 w fun x24 w => MG Tryd.prog x19 true a3 w fun x25 w => CG Tryd.prog x19 true (Value.func (Fn.func 57) #[] #[]) [x22, x23, x24, x25] w fun x26 w => PK Tryd.prog x19 x26 (Value.bool false) w fun x27 w => R x27 w
theorem coll_Coll_Over_eq (a0 a1 a2 a3 : Value) (w : World) (R : Value → World → Prop) : sx fn_ Tryd.prog 28 coll_Coll_Over_b (retK Tryd.prog Tryd.f31.results.toList R) (rho0 [a0, a1, a2, a3]) w = coll_Coll_Over_F a0 a1 a2 a3 w R := by kernel_rfl
theorem coll_Coll_Over_calls {a0 a1 a2 a3 : Value} {w : World} {R : Value → World → Prop} (h : coll_Coll_Over_F a0 a1 a2 a3 w R) : Calls Tryd.prog 31 #[a0, a1, a2, a3] w fun e w' => ∃ v, e = .returned v ∧ R v w' :=
  Go.X.calls_of_sx (n := 28) (c := coll_Coll_Over_b) Tryd.func31 (by kernel_rfl) (by kernel_rfl) (Nat.le_of_ble_eq_true rfl) (by kernel_rfl) (Eq.mpr (coll_Coll_Over_eq a0 a1 a2 a3 w R) h)
noncomputable def coll_Coll_none_b : Code := (Tryd.f34.body).getD .skip
noncomputable def coll_Coll_none_F (a0 : Value) (w : World) (R : Value → World → Prop) : Prop :=
  BK Tryd.prog .eql 24 (.tmp 3) (.const (Value.pointer none)) a0 (Value.pointer none) w fun x4 w => MG Tryd.prog x4 false a0 w fun x6 w => NG Tryd.prog x4 false x6 w fun x7 w => VG Tryd.prog x4 false (Instr.fieldAt 72 x7 1) w fun x8 w => VG Tryd.prog x4 false (Instr.loadAt 70 x8) w fun x9 w => BG Tryd.prog x4 false .eql 70 (.tmp 9) (.const (Value.map none)) x9 (Value.map none) w fun x10 w => PK Tryd.prog x4 (Value.bool true) x10 w fun x11 w => R x11 w
theorem coll_Coll_none_eq (a0 : Value) (w : World) (R : Value → World → Prop) : sx fn_ Tryd.prog 12 coll_Coll_none_b (retK Tryd.prog Tryd.f34.results.toList R) (rho0 [a0]) w = coll_Coll_none_F a0 w R := by kernel_rfl
theorem coll_Coll_none_calls {a0 : Value} {w : World} {R : Value → World → Prop} (h : coll_Coll_none_F a0 w R) : Calls Tryd.prog 34 #[a0] w fun e w' => ∃ v, e = .returned v ∧ R v w' :=
  Go.X.calls_of_sx (n := 12) (c := coll_Coll_none_b) Tryd.func34 (by kernel_rfl) (by kernel_rfl) (Nat.le_of_ble_eq_true rfl) (by kernel_rfl) (Eq.mpr (coll_Coll_none_eq a0 w R) h)
noncomputable def coll_Coll_of_b : Code := (Tryd.f47.body).getD .skip
noncomputable def coll_Coll_of_R0 : Code := cAt [1, 1, 1, 1] coll_Coll_of_b
noncomputable def coll_Coll_of_F (a0 a1 a2 : Value) (w : World) (R : Value → World → Prop) : Prop :=
  CK Tryd.prog (Value.func (Fn.func 34) #[] #[]) [a0] w fun x13 w => MG Tryd.prog x13 false a0 w fun x15 w => NG Tryd.prog x13 false x15 w fun x16 w => VG Tryd.prog x13 false (Instr.fieldAt 72 x16 1) w fun x17 w => VG Tryd.prog x13 false (Instr.loadAt 70 x17) w fun x18 w => MG Tryd.prog x13 false a1 w fun x19 w => VG Tryd.prog x13 false (Instr.lookup 70 x18 x19 false) w fun x20 w => BG Tryd.prog x13 false .eql 76 (.tmp 20) (.const (Value.pointer none)) x20 (Value.pointer none) w fun x21 w => PK Tryd.prog x13 (Value.bool true) x21 w fun x22 w => CondK x22 (R (Value.tuple #[(Value.pointer none), (Value.int .i64 0), (Value.bool false)]) w) (NK Tryd.prog a0 w fun x24 w => VK Tryd.prog (Instr.fieldAt 72 x24 1) w fun x25 w => VK Tryd.prog (Instr.loadAt 70 x25) w fun x26 w => VK Tryd.prog (Instr.lookup 70 x26 a1 false) w fun x28 w => NK Tryd.prog x28 w fun x31 w => VK Tryd.prog (Instr.fieldAt 82 x31 0) w fun x32 w => VK Tryd.prog (Instr.loadAt 32 x32) w fun x33 w => CK Tryd.prog (Value.func (Fn.func 35) #[] #[]) [x33, a2] w fun x35 w => VK Tryd.prog (Instr.extract x35 0) w fun x36 w => VK Tryd.prog (Instr.extract x35 1) w fun x37 w => sx fn_ Tryd.prog 41 coll_Coll_of_R0 (retK Tryd.prog [ResultVar.tmp 6, ResultVar.tmp 7, ResultVar.tmp 8] R) (up (up (up (up (up (up (up (up (up (up (up (up (up (up (up (up (up (up (up (up (up (up (up (up (up (up (up (up (up (up (up (up (rho0 [a0, a1, a2]) 6 (Value.pointer none)) 7 (Value.int .i64 0)) 8 (Value.bool false)) 12 a0) 13 x13) 14 x13) 15 x15) 16 x16) 17 x17) 18 x18) 19 x19) 20 x20) 21 x21) 22 x22) 23 a0) 24 x24) 25 x25) 26 x26) 27 a1) 28 x28) 9 x28) 30 x28) 31 x31) 32 x32) 33 x33) 34 a2) 35 x35) 29 x35) 36 x36) 37 x37) 10 x36) 11 x37) w)
theorem coll_Coll_of_eq (a0 a1 a2 : Value) (w : World) (R : Value → World → Prop) : sx fn_ Tryd.prog 41 coll_Coll_of_b (retK Tryd.prog Tryd.f47.results.toList R) (rho0 [a0, a1, a2]) w = coll_Coll_of_F a0 a1 a2 w R := by kernel_rfl
theorem coll_Coll_of_calls {a0 a1 a2 : Value} {w : World} {R : Value → World → Prop} (h : coll_Coll_of_F a0 a1 a2 w R) : Calls Tryd.prog 47 #[a0, a1, a2] w fun e w' => ∃ v, e = .returned v ∧ R v w' :=
  Go.X.calls_of_sx (n := 41) (c := coll_Coll_of_b) Tryd.func47 (by kernel_rfl) (by kernel_rfl) (Nat.le_of_ble_eq_true rfl) (by kernel_rfl) (Eq.mpr (coll_Coll_of_eq a0 a1 a2 w R) h)
end Go.Proofs.YtandbmnhghmcgaaDoor.XF
set_option linter.unusedVariables false
namespace Go.Proofs.YtandbmnhghmcgaaDoor.XK
open Go Go.X
end Go.Proofs.YtandbmnhghmcgaaDoor.XK
set_option linter.unusedVariables false
set_option linter.unusedSimpArgs false
set_option maxRecDepth 4000
namespace Go.X
open Go Go.RowKit
def strV (k : List UInt8) : Value := .string ⟨k.toArray⟩
def sb (v : Value) (b : Nat) : Prop := v.ownBlock = some b
def ints (l : List Int) : List Value := l.map (Value.int .i64)
theorem ints_get {l : List Int} {i : Nat} {x : Int} (h : l[i]? = some x) : (ints l)[i]? = some (.int .i64 x) := by unfold ints; simp [h]
theorem findE_map {κ : Type} [DecidableEq κ] {k : κ} : ∀ {l : List (Ent κ)} {n : Nat}, (findE k l n).map (·.2) = (l.find? fun e => decide (e.k = k)).map (·.v)
  | [], n => rfl
  | e :: r, n => by
    unfold findE
    by_cases h : k = e.k
    · rw [if_pos h, List.find?_cons_of_pos (by simp [h])]; rfl
    · rw [if_neg h, List.find?_cons_of_neg (by simpa using fun q : e.k = k => h q.symm)]
      exact findE_map
end Go.X
namespace Go.Proofs.YtandbmnhghmcgaaDoor.Col
open Go Go.X Go.RowKit Go.Proofs.YtandbmnhghmcgaaDoor.XF Go.Proofs.YtandbmnhghmcgaaDoor.XK
theorem vI : Tryd.prog.underlying 3 = some (.int .i64) := by kernel_rfl
theorem vB : Tryd.prog.underlying 4 = some .bool := by kernel_rfl
theorem vS : Tryd.prog.underlying 9 = some .string := by kernel_rfl
theorem vIs : Tryd.prog.underlying 30 = some (.slice 3) := by kernel_rfl
end Go.Proofs.YtandbmnhghmcgaaDoor.Col
set_option linter.unusedVariables false
set_option linter.unusedSimpArgs false
namespace Go.X
open Go
abbrev Ky := List UInt8
structure Pt where
  kind : Int
  root : Int
  op : Int
  val : Int
  color : Int
  key : Int
  deriving DecidableEq
def zPt : Pt := ⟨0, 0, 0, 0, 0, 0⟩
structure Br where
  key : Ky
  ranks : List Int
  rank : Int
  p : Pt
def atK (key : Ky) (rank : Int) (b : Br) : Bool := decide (b.key = key) && decide (b.rank = rank)
def grpC (L : List Br) (key : Ky) : Option (List Int) := (L.find? fun b => decide (b.key = key)).map (·.ranks)
def partsC (L : List Br) (key : Ky) (rank : Int) : List Pt := (L.filter (atK key rank)).map (·.p)
def nthC (l : List Pt) (k : Int) : Option Pt := if 0 ≤ k then l[k.toNat]? else none
def partC (L : List Br) (key : Ky) (rank : Int) (k : Int) : Option Pt := nthC (partsC L key rank) k
def mayG (r : List Int) : Bool := decide (0 < r.length) && (r.all (fun x => decide (0 ≤ x) && decide (x ≤ 63)) && decide r.Nodup)
def rootedK (k : Int) : Bool := decide (k = 16) || (decide (k = 17) || decide (k = 19))
def reducesK (k : Int) : Bool := decide (k = 17) || decide (k = 18)
def mayPt (n : Nat) (p : Pt) : Bool := decide (15 ≤ p.kind) && decide (p.kind ≤ 21) && (decide (0 ≤ p.root) && decide (p.root < n)) && (decide (p.root = 0) || rootedK p.kind) && (decide (p.op ≤ 2) && (decide (p.op = 0) || reducesK p.kind))
def fitPt (a b : Pt) : Bool := decide (a.kind = b.kind) && (decide (a.root = b.root) && decide (a.op = b.op))
def sameG (L : List Br) (key : Ky) (ranks : List Int) : Bool := match grpC L key with | none => true | some r => decide (r = ranks)
def okC (L : List Br) (b : Br) : Bool := mayG b.ranks && (decide (b.rank ∈ b.ranks) && (sameG L b.key b.ranks && mayPt b.ranks.length b.p))
structure CInv (L : List Br) : Prop where
  ok : ∀ b ∈ L, mayG b.ranks = true ∧ b.rank ∈ b.ranks ∧ mayPt b.ranks.length b.p = true ∧ grpC L b.key = some b.ranks
theorem CInv.nil : CInv [] := ⟨fun b hb => by cases hb⟩
theorem partsC_mem {L : List Br} {k : Ky} {r : Int} {p : Pt} (h : p ∈ partsC L k r) : ∃ b ∈ L, b.key = k ∧ b.rank = r ∧ b.p = p := by
  unfold partsC at h
  obtain ⟨b, hb, rfl⟩ := List.mem_map.1 h
  obtain ⟨h1, h2⟩ := List.mem_filter.1 hb
  simp only [atK, Bool.and_eq_true, decide_eq_true_eq] at h2
  exact ⟨b, h1, h2.1, h2.2, rfl⟩
theorem grpC_some {L : List Br} {k : Ky} {r : List Int} (h : grpC L k = some r) : ∃ b ∈ L, b.key = k ∧ b.ranks = r := by
  unfold grpC at h
  obtain ⟨b, hb, rfl⟩ := Option.map_eq_some_iff.1 h
  exact ⟨b, List.mem_of_find?_eq_some hb, by simpa using List.find?_some hb, rfl⟩
theorem grpC_isSome {L : List Br} {k : Ky} : (grpC L k).isSome = true ↔ ∃ b ∈ L, b.key = k := by
  unfold grpC
  simp [Option.isSome_map, List.find?_isSome]
theorem CInv.part {L : List Br} (h : CInv L) {k : Ky} {r : Int} {p : Pt} (hp : p ∈ partsC L k r) : ∃ g, grpC L k = some g ∧ r ∈ g ∧ mayPt g.length p = true := by
  obtain ⟨b, hb, rfl, rfl, rfl⟩ := partsC_mem hp
  obtain ⟨_, h2, h3, h4⟩ := h.ok b hb
  exact ⟨b.ranks, h4, h2, h3⟩
theorem CInv.grp {L : List Br} (h : CInv L) {k : Ky} {g : List Int} (hg : grpC L k = some g) : mayG g = true := by
  obtain ⟨b, hb, rfl, rfl⟩ := grpC_some hg
  exact (h.ok b hb).1
theorem CInv.none {L : List Br} (h : CInv L) {k : Ky} (hg : grpC L k = .none) (r : Int) : partsC L k r = [] := by
  cases hp : partsC L k r with
  | nil => rfl
  | cons p l =>
    obtain ⟨g, h1, _⟩ := h.part (k := k) (r := r) (p := p) (by rw [hp]; simp)
    rw [hg] at h1; cases h1
theorem CInv.other {L : List Br} (h : CInv L) {k : Ky} {g : List Int} (hg : grpC L k = some g) {r : Int} (hr : r ∉ g) : partsC L k r = [] := by
  cases hp : partsC L k r with
  | nil => rfl
  | cons p l =>
    obtain ⟨g', h1, h2, _⟩ := h.part (k := k) (r := r) (p := p) (by rw [hp]; simp)
    rw [hg] at h1; cases h1; exact absurd h2 hr
theorem mayG_iff {r : List Int} : mayG r = true ↔ 0 < r.length ∧ (∀ x ∈ r, 0 ≤ x ∧ x ≤ 63) ∧ r.Nodup := by
  simp [mayG, List.all_eq_true]
def fitO (L : List Br) (key : Ky) (k : Int) (own : Pt) (r : Int) : Bool := match partC L key r k with | some p => fitPt p own | none => false
def overC (loose : Bool) (L : List Br) (key : Ky) (rank k : Int) : Bool :=
  match partC L key rank k with
  | none => false
  | some own =>
    let g := (grpC L key).getD []
    if loose && decide (own.kind = 16) then fitO L key k own (g.getD own.root.toNat 0)
    else if loose && (rootedK own.kind && decide (g.getD own.root.toNat 0 ≠ rank)) then true
    else g.all (fitO L key k own)
structure Td where
  val : Int
  row : List Int
  gkey : Ky
  ranks : List Int
  has : Bool
def zTd : Td := ⟨0, [], [], [], false⟩
def valsC (L : List Br) (key : Ky) (g : List Int) (k : Int) : List Int := g.map fun r => ((partC L key r k).getD zPt).val
def redC (op : Int) : List Int → Int
  | [] => 0
  | v :: l => l.foldl (fun s v => if op = 0 then IntKind.i64.wrap (s + v) else if op = 1 then (if s < v then v else s) else if v < s then v else s) v
def askC (L : List Br) (key : Ky) (g : List Int) (k : Int) : List (Int × Int) := g.map fun r => let p := (partC L key r k).getD zPt; (p.color, p.key)
structure Ak where
  color : Int
  key : Int
  rank : Int
  deriving DecidableEq
def ltA (a b : Ak) : Bool := decide (a.color < b.color) || (decide (a.color = b.color) && decide (a.key < b.key))
def insA (x : Ak) : List Ak → List Ak
  | [] => [x]
  | y :: l => if ltA x y then x :: y :: l else y :: insA x l
def sortA (l : List Ak) : List Ak := l.foldl (fun s x => insA x s) []
def asksC (g : List Int) (asks : List (Int × Int)) : List Ak := ((g.zip asks).map fun x => ⟨x.2.1, x.2.2, x.1⟩).filter fun a => decide (0 ≤ a.color)
def grpA : List (Int × List Int) → List Ak → List (Int × List Int)
  | out, [] => out
  | out, a :: l => match out.getLast? with
    | some (c, r) => if c = a.color then grpA (out.dropLast ++ [(c, r ++ [a.rank])]) l else grpA (out ++ [(a.color, [a.rank])]) l
    | none => grpA [(a.color, [a.rank])] l
def splitC (g : List Int) (asks : List (Int × Int)) : List (Int × List Int) := grpA [] (sortA (asksC g asks))
end Go.X
set_option linter.unusedVariables false
set_option linter.unusedSimpArgs false
namespace Go.X
structure WO {α : Type} (lt : α → α → Bool) : Prop where
  irr : ∀ a, lt a a = false
  asym : ∀ a b, lt a b = true → lt b a = false
  tr : ∀ a b c, lt b a = false → lt c b = false → lt c a = false
section
variable {α : Type} {lt : α → α → Bool}
def eqv (lt : α → α → Bool) (a b : α) : Bool := !lt a b && !lt b a
def SortedL (lt : α → α → Bool) (l : List α) : Prop := l.Pairwise fun a b => lt b a = false
structure Stab (lt : α → α → Bool) (l s : List α) : Prop where
  so : SortedL lt s
  eq : ∀ x, s.filter (eqv lt x) = l.filter (eqv lt x)
theorem eqv_refl (W : WO lt) (a : α) : eqv lt a a = true := by simp [eqv, W.irr]
theorem Stab.len (W : WO lt) : ∀ {l s : List α}, (∀ x, s.filter (eqv lt x) = l.filter (eqv lt x)) → s.length = l.length := by
  intro l
  induction hn : l.length using Nat.strongRecOn generalizing l with
  | ind n ih =>
    intro s h
    cases l with
    | nil =>
      cases s with
      | nil => simpa using hn
      | cons b s => have := h b; simp [eqv_refl W] at this
    | cons a l =>
      have c1 : ∀ (m : List α), m.length = (m.filter (eqv lt a)).length + (m.filter fun x => !eqv lt a x).length := fun m => by
        induction m with
        | nil => rfl
        | cons b m ih => by_cases c : eqv lt a b = true <;> simp [c, ih] <;> omega
      have c2 := c1 s
      have c3 := c1 (a :: l)
      rw [h a] at c2
      have key : (s.filter fun x => !eqv lt a x).length = ((a :: l).filter fun x => !eqv lt a x).length := by
        refine ih _ ?_ rfl (fun x => ?_)
        · rw [← hn]
          rw [List.filter_cons_of_neg (by simp [eqv_refl W])]
          exact Nat.lt_of_le_of_lt (List.length_filter_le _ _) (by simp)
        · rw [List.filter_filter, List.filter_filter]
          have e1 : ∀ m : List α, m.filter (fun y => eqv lt x y && !eqv lt a y) = (m.filter (eqv lt x)).filter fun y => !eqv lt a y := fun m => by
            rw [List.filter_filter]
            congr 1; funext y; rw [Bool.and_comm]
          rw [e1, e1, h x]
      omega
theorem Stab.refl {l : List α} (h : SortedL lt l) : Stab lt l l := ⟨h, fun _ => rfl⟩
theorem Stab.trans {l m s : List α} (h : ∀ x, m.filter (eqv lt x) = l.filter (eqv lt x)) (k : Stab lt m s) : Stab lt l s := ⟨k.so, fun x => (k.eq x).trans (h x)⟩
end
end Go.X
set_option linter.unusedVariables false
set_option linter.unusedSimpArgs false
namespace Go.X
open Go
theorem ltA_iff {a b : Ak} : ltA a b = true ↔ a.color < b.color ∨ a.color = b.color ∧ a.key < b.key := by simp [ltA]
theorem ltA_wo : WO ltA where
  irr a := by rw [Bool.eq_false_iff]; intro h; have := ltA_iff.1 h; omega
  asym a b h := by rw [Bool.eq_false_iff]; intro k; have := ltA_iff.1 h; have := ltA_iff.1 k; omega
  tr a b c h k := by
    rw [Bool.eq_false_iff] at h k ⊢
    intro z
    have z := ltA_iff.1 z
    have h : ¬ (b.color < a.color ∨ b.color = a.color ∧ b.key < a.key) := fun q => h (ltA_iff.2 q)
    have k : ¬ (c.color < b.color ∨ c.color = b.color ∧ c.key < b.key) := fun q => k (ltA_iff.2 q)
    omega
def childK (key : Ky) (k : Int) : Ky := key ++ 46 :: Lib.itoa k
def subK (key : Ky) (k c : Int) : Ky := childK key k ++ 58 :: Lib.itoa c
def tellC (L : List Br) (key : Ky) (rank k : Int) (own : Pt) : Td :=
  let g := (grpC L key).getD []
  let mine := decide (g.getD own.root.toNat 0 = rank)
  if own.kind = 16 then { zTd with val := ((partC L key (g.getD own.root.toNat 0) k).getD zPt).val }
  else if own.kind = 17 then (if mine then { zTd with val := redC own.op (valsC L key g k) } else zTd)
  else if own.kind = 18 then { zTd with val := redC own.op (valsC L key g k) }
  else if own.kind = 19 then (if mine then { zTd with row := valsC L key g k } else zTd)
  else if own.kind = 20 then { zTd with gkey := childK key k, ranks := g, has := true }
  else if own.kind = 21 then (match (splitC g (askC L key g k)).find? (fun x => decide (rank ∈ x.2)) with | some (c, r) => { zTd with gkey := subK key k c, ranks := r, has := true } | none => zTd)
  else zTd
def toldC (loose : Bool) (L : List Br) (key : Ky) (rank k : Int) : Td × Bool :=
  if overC loose L key rank k then (match partC L key rank k with | some own => (tellC L key rank k own, true) | none => (zTd, false)) else (zTd, false)
end Go.X
set_option linter.unusedVariables false
set_option linter.unusedSimpArgs false
namespace Go.X
open Go
section
variable {L : List Br} {key : Ky} {k : Int}
theorem partC_mem {r : Int} {p : Pt} (h : partC L key r k = some p) : p ∈ partsC L key r ∧ 0 ≤ k := by
  unfold partC nthC at h
  split at h
  · exact ⟨List.mem_of_getElem? h, by assumption⟩
  · cases h
theorem CInv.own (hI : CInv L) {rank : Int} {p : Pt} (h : partC L key rank k = some p) : ∃ g, grpC L key = some g ∧ rank ∈ g ∧ mayPt g.length p = true := hI.part (partC_mem h).1
end
end Go.X
set_option linter.unusedVariables false
set_option linter.unusedSimpArgs false
namespace Go.X
open Go
def fitAll : List Pt → Bool
  | [] => true
  | f :: r => r.all (fitPt f)
def keysOf (L : List Br) : List Ky := L.foldl (fun s b => if b.key ∈ s then s else s ++ [b.key]) []
def leK (x y : Ky) : Bool := decide (x ≤ y)
def keysC (L : List Br) : List Ky := (keysOf L).mergeSort leK
theorem snoc_of {α : Type} {L : List α} (h : L ≠ []) : ∃ l b, L = l ++ [b] := ⟨L.dropLast, L.getLast h, (List.dropLast_concat_getLast h).symm⟩
theorem keysOf_snoc (L : List Br) (b : Br) : keysOf (L ++ [b]) = if b.key ∈ keysOf L then keysOf L else keysOf L ++ [b.key] := by
  unfold keysOf
  rw [List.foldl_append]
  rfl
theorem keysOf_mem : ∀ {L : List Br} {k : Ky}, k ∈ keysOf L ↔ ∃ b ∈ L, b.key = k := by
  intro L
  induction hn : L.length generalizing L with
  | zero => intro k; have : L = [] := List.eq_nil_of_length_eq_zero hn; subst this; simp [keysOf]
  | succ n ih =>
    intro k
    obtain ⟨l, b, rfl⟩ := snoc_of (L := L) (by intro q; rw [q] at hn; simp at hn)
    have ih := @ih l (by simpa using hn)
    rw [keysOf_snoc]
    by_cases h : b.key ∈ keysOf l
    · rw [if_pos h, ih]
      constructor
      · rintro ⟨x, hx, rfl⟩; exact ⟨x, by simp [hx], rfl⟩
      · rintro ⟨x, hx, rfl⟩
        rcases List.mem_append.1 hx with z | z
        · exact ⟨x, z, rfl⟩
        · rw [List.mem_singleton.1 z]; exact ih.1 h
    · rw [if_neg h]
      simp only [List.mem_append, List.mem_singleton, ih]
      constructor
      · rintro (⟨x, hx, rfl⟩ | rfl)
        · exact ⟨x, .inl hx, rfl⟩
        · exact ⟨b, .inr rfl, rfl⟩
      · rintro ⟨x, hx | rfl, rfl⟩
        · exact .inl ⟨x, hx, rfl⟩
        · exact .inr rfl
theorem keysOf_nodup (L : List Br) : (keysOf L).Nodup := by
  induction hn : L.length generalizing L with
  | zero => have : L = [] := List.eq_nil_of_length_eq_zero hn; subst this; simp [keysOf]
  | succ n ih =>
    obtain ⟨l, b, rfl⟩ := snoc_of (L := L) (by intro q; rw [q] at hn; simp at hn)
    have ih := @ih l (by simpa using hn)
    rw [keysOf_snoc]
    split
    · exact ih
    · rename_i h
      rw [List.nodup_append]
      refine ⟨ih, by simp, fun a ha b' hb q => ?_⟩
      rw [List.mem_singleton.1 hb] at q
      exact h (q ▸ ha)
def worldL (n : Nat) : List Int := (List.range n).map fun i : Nat => (i : Int)
theorem worldL_len (n : Nat) : (worldL n).length = n := by simp [worldL]
theorem worldL_mem {n : Nat} {x : Int} : x ∈ worldL n ↔ 0 ≤ x ∧ x < n := by
  simp only [worldL, List.mem_map, List.mem_range]
  constructor
  · rintro ⟨i, hi, rfl⟩; omega
  · rintro ⟨h0, h1⟩; exact ⟨x.toNat, by omega, by omega⟩
theorem worldL_nodup (n : Nat) : (worldL n).Nodup := by
  unfold worldL
  rw [List.nodup_iff_pairwise_ne, List.pairwise_map]
  exact (List.nodup_range (n := n)).imp fun h q => h (by omega)
theorem worldL_may {n : Nat} (h : 1 ≤ n) (h2 : n ≤ 64) : mayG (worldL n) = true := by
  refine mayG_iff.2 ⟨by rw [worldL_len]; omega, fun x hx => ?_, worldL_nodup n⟩
  have := worldL_mem.1 hx
  omega
structure Wd (n : Nat) (L : List Br) : Prop where
  all : ∀ b ∈ L, b.key = [] ∧ b.ranks = worldL n
theorem Wd.nil (n : Nat) : Wd n [] := ⟨fun b hb => by cases hb⟩
theorem Wd.grp {n : Nat} {L : List Br} (h : Wd n L) (hn : L ≠ []) : grpC L [] = some (worldL n) := by
  cases L with
  | nil => exact absurd rfl hn
  | cons b l =>
    obtain ⟨h1, h2⟩ := h.all b (by simp)
    unfold grpC
    rw [List.find?_cons_of_pos (by simp [h1])]
    simp [h2]
theorem Wd.same {n : Nat} {L : List Br} (h : Wd n L) : sameG L [] (worldL n) = true := by
  unfold sameG
  by_cases hn : L = []
  · subst hn; rfl
  · rw [h.grp hn]; simp
theorem Wd.ok {n : Nat} {L : List Br} (h : Wd n L) (h1 : 1 ≤ n) (h2 : n ≤ 64) {r : Int} (hr : r ∈ worldL n) {p : Pt} (hp : mayPt n p = true) : okC L ⟨[], worldL n, r, p⟩ = true := by
  unfold okC
  simp only [worldL_may h1 h2, hr, decide_true, h.same, worldL_len, hp, Bool.and_self]
theorem Wd.keys {n : Nat} {L : List Br} (h : Wd n L) : keysC L = if L = [] then [] else [[]] := by
  by_cases hn : L = []
  · subst hn; simp [keysC, keysOf]
  · rw [if_neg hn]
    have hk : keysOf L = [[]] := by
      have hnd := keysOf_nodup L
      have hm : ∀ x ∈ keysOf L, x = [] := fun x hx => by
        obtain ⟨b, hb, rfl⟩ := keysOf_mem.1 hx
        exact (h.all b hb).1
      have h0 : ([] : Ky) ∈ keysOf L := by
        cases L with
        | nil => exact absurd rfl hn
        | cons b l => exact keysOf_mem.2 ⟨b, by simp, (h.all b (by simp)).1⟩
      generalize keysOf L = ks at *
      match ks with
      | [] => simp at h0
      | [x] => rw [hm x (by simp)]
      | x :: y :: r =>
        have e1 := hm x (by simp)
        have e2 := hm y (by simp)
        subst e1 e2
        simp at hnd
    unfold keysC
    rw [hk]
    simp
end Go.X
set_option linter.unusedVariables false
set_option linter.unusedSimpArgs false
namespace Go.X
open Go
section
variable {parts : List Pt} {lacks : Int}
end
structure FullL (parts : List Pt) (L : List Br) : Prop where
  wd : Wd parts.length L
  len : L.length = parts.length
  inv : CInv L
  pt : ∀ i : Nat, i < parts.length → partsC L [] (i : Int) = [parts.getD i zPt]
theorem FullL.alike {parts : List Pt} {A B : List Br} (hn : 1 ≤ parts.length) (hA : FullL parts A) (hB : FullL parts B) : grpC A [] = grpC B [] ∧ ∀ x : Int, partsC A [] x = partsC B [] x := by
  have nA : A ≠ [] := fun q => by have := hA.len; rw [q] at this; simp at this; omega
  have nB : B ≠ [] := fun q => by have := hB.len; rw [q] at this; simp at this; omega
  refine ⟨by rw [hA.wd.grp nA, hB.wd.grp nB], fun x => ?_⟩
  by_cases hx : x ∈ worldL parts.length
  · obtain ⟨q1, q2⟩ := worldL_mem.1 hx
    have a := hA.pt x.toNat (by omega)
    have b := hB.pt x.toNat (by omega)
    rw [show ((x.toNat : Nat) : Int) = x by omega] at a b
    rw [a, b]
  · rw [hA.inv.other (hA.wd.grp nA) hx, hB.inv.other (hB.wd.grp nB) hx]
theorem FullL.same {parts : List Pt} {A B : List Br} (hn : 1 ≤ parts.length) (hA : FullL parts A) (hB : FullL parts B) (loose : Bool) (r k : Int) : toldC loose A [] r k = toldC loose B [] r k := by
  obtain ⟨h1, h2⟩ := hA.alike hn hB
  have hp : ∀ x, partC A [] x k = partC B [] x k := fun x => by unfold partC; rw [h2]
  have hv : ∀ g, valsC A [] g k = valsC B [] g k := fun g => by unfold valsC; simp only [hp]
  have ha : ∀ g, askC A [] g k = askC B [] g k := fun g => by unfold askC; simp only [hp]
  have hf : ∀ own, fitO A [] k own = fitO B [] k own := fun own => funext fun r => by unfold fitO; rw [hp]
  have ho : overC loose A [] r k = overC loose B [] r k := by unfold overC; simp only [hp, hf, h1]
  have ht : ∀ own, tellC A [] r k own = tellC B [] r k own := fun own => by unfold tellC; simp only [hp, hv, ha, h1]
  unfold toldC
  simp only [ho, hp, ht]
end Go.X
set_option linter.unusedVariables false
set_option linter.unusedSimpArgs false
set_option maxRecDepth 4000
namespace Go.X
open Go Go.RowKit
def grpV (key : Ky) (rv : Value) : Value := .agg #[strV key, rv]
def RR (w : World) (v : Value) (r : List Int) : Prop := reads w 1 v r.length (ints r)
theorem RR.mod {S : Nat → Prop} {w w' : World} {v : Value} {r : List Int} (h : RR w v r) (hm : Mod S w w') (hS : ∀ k, k < w.heap.size → sb v k → ¬ S k) : RR w' v r := reads_mod h hm fun k hk z => hS k hk z
theorem RR.calm {w w' : World} {v : Value} {r : List Int} (h : RR w v r) (hm : Mod none_ w w') : RR w' v r := h.mod hm fun _ _ _ => id
end Go.X
namespace Go.Proofs.YtandbmnhghmcgaaDoor.Col
open Go Go.X Go.RowKit Go.Proofs.YtandbmnhghmcgaaDoor.XF Go.Proofs.YtandbmnhghmcgaaDoor.XK
abbrev tI : TypeId := 3
abbrev tIs : TypeId := 30
abbrev tG : TypeId := 32
theorem ixR {w : World} {v : Value} {l : List Int} {i : Nat} {m : Int} (h : RR w v l) (hi : l[i]? = some m) : ∃ a, (∀ w', (Instr.indexAt tIs v (.int .i64 (i : Int))).run Tryd.prog w' = .ok (.pointer (some a)) w') ∧ ∀ w', Mod none_ w w' → (Instr.loadAt tI (.pointer (some a))).run Tryd.prog w' = .ok (.int .i64 m) w' := by
  have hil := (List.getElem?_eq_some_iff.1 hi).1
  obtain ⟨_, A, c, es, hnc, hr⟩ := id h
  obtain ⟨a, ha, _⟩ := hr i _ (ints_get hi)
  subst es ha
  refine ⟨a.add i, fun w' => ?_, fun w' hw => ?_⟩
  · rw [run_ixa (sz := 0) vIs (by kernel_rfl) (by omega) (by omega) w']
    congr 4
    omega
  · obtain ⟨_, A, c, es, _, hc⟩ := h.calm hw
    cases es
    obtain ⟨b, hb, hcell⟩ := hc i _ (ints_get hi)
    cases hb
    exact run_ld1 vI rfl hcell
theorem fG0 {w : World} {b : Nat} {key : Ky} {rv : Value} (h : w.heap[b]? = some (.cells #[strV key, rv] tG (0, 0))) : FO Tryd.prog w tG 0 0 ⟨b, 0, none⟩ 9 (strV key) := FO.blk h (by kernel_rfl) vS rfl rfl
theorem fG1 {w : World} {b : Nat} {key : Ky} {rv : Value} (h : w.heap[b]? = some (.cells #[strV key, rv] tG (0, 0))) : FO Tryd.prog w tG 1 1 ⟨b, 0, none⟩ tIs rv := FO.blk h (by kernel_rfl) vIs rfl rfl
end Go.Proofs.YtandbmnhghmcgaaDoor.Col
set_option linter.unusedVariables false
set_option linter.unusedSimpArgs false
set_option maxRecDepth 8000
namespace Go.Proofs.YtandbmnhghmcgaaDoor.Col
open Go Go.X Go.RowKit Go.Proofs.YtandbmnhghmcgaaDoor.XF Go.Proofs.YtandbmnhghmcgaaDoor.XK
end Go.Proofs.YtandbmnhghmcgaaDoor.Col
set_option linter.unusedVariables false
set_option linter.unusedSimpArgs false
set_option maxRecDepth 8000
namespace Go.X
open Go Go.RowKit
def Pt.enc (p : Pt) : List Value := [.int .u8 p.kind, .int .i64 p.root, .int .u8 p.op, .int .i64 p.val, .int .i64 p.color, .int .i64 p.key]
theorem Pt.enc_len (p : Pt) : p.enc.length = 5 + 1 := rfl
def Pt.v (p : Pt) : Value := .agg p.enc.toArray
end Go.X
namespace Go.Proofs.YtandbmnhghmcgaaDoor.Col
open Go Go.X Go.RowKit Go.Proofs.YtandbmnhghmcgaaDoor.XF Go.Proofs.YtandbmnhghmcgaaDoor.XK
abbrev tPt : TypeId := 34
abbrev tPts : TypeId := 61
theorem vL : Tryd.prog.underlying 2 = some (.int .i64) := by kernel_rfl
section
variable {w : World} {b : Nat} {p : Pt}
end
section
variable {w : World} {ρ : Sl}
end
end Go.Proofs.YtandbmnhghmcgaaDoor.Col
set_option linter.unusedVariables false
set_option linter.unusedSimpArgs false
set_option maxRecDepth 8000
namespace Go.X
open Go Go.RowKit
structure Re where
  key : Ky
  b : Nat
  ro : Nat
  rv : Value
  pv : Value
  vs : List Value
  g : List Int
def Re.ent (e : Re) : Ent Ky := ⟨e.key, .pointer (some ⟨e.ro, 0, none⟩), e.b⟩
structure CV where
  mb : Nat
  clk : Nat
  es : List Re
def CF (p : Nat) (V : CV) (b : Nat) : Prop := b = p ∨ b = V.mb ∨ ∃ e ∈ V.es, b = e.ro ∨ sb e.pv b ∨ ∃ v ∈ e.vs, sb v b
theorem ent_find {es : List Re} {k : Ky} : (findE k (es.map Re.ent) 0).map (·.2) = (es.find? fun e => decide (e.key = k)).map fun e => .pointer (some ⟨e.ro, 0, none⟩) := by
  rw [findE_map, List.find?_map]
  simp only [Option.map_map]
  rfl
def isT (t : TypeId) (w : World) (b : Nat) : Prop := ∃ cs fr, w.heap[b]? = some (.cells cs t fr)
theorem isT_own {w : World} {base : Nat} {e : TypeId} {s : Nat} {v : Value} {n : Nat} {xs : List Value} (h : w.ownsRow base e s v n xs) {b : Nat} (hb : sb v b) : isT e w b := by
  obtain ⟨cur, hc⟩ := owns_blk h hb
  exact ⟨cur, _, hc⟩
theorem isT_lt {t : TypeId} {w : World} {b : Nat} (h : isT t w b) : b < w.heap.size := by
  obtain ⟨_, _, h⟩ := h
  exact blk_lt h
end Go.X
namespace Go.Proofs.YtandbmnhghmcgaaDoor.Col
open Go Go.X Go.RowKit Go.Proofs.YtandbmnhghmcgaaDoor.XF Go.Proofs.YtandbmnhghmcgaaDoor.XK
abbrev tC : TypeId := 72
abbrev tRo : TypeId := 82
abbrev tMp : TypeId := 70
theorem uC : Tryd.prog.underlying 24 = some (.pointer tC) := by kernel_rfl
theorem uMp : Tryd.prog.underlying tMp = some (.map 9 76) := by kernel_rfl
structure RoAt (w : World) (L : List Br) (e : Re) : Prop where
  grp : grpC L e.key = some e.g
  blk : w.heap[e.ro]? = some (.cells #[strV e.key, e.rv, e.pv] tRo (0, 0))
  rk : w.ownsRow 0 tI 1 e.rv e.g.length (ints e.g)
  len : e.vs.length = e.g.length
  row : w.ownsRow 0 tPts 1 e.pv e.g.length e.vs
  pt : ∀ (i : Nat) x v, e.g[i]? = some x → e.vs[i]? = some v → w.ownsRow 0 tPt 6 v (partsC L e.key x).length ((partsC L e.key x).flatMap Pt.enc)
  ne : ∀ (i j : Nat) v u, e.vs[i]? = some v → e.vs[j]? = some u → i ≠ j → ∀ b, sb v b → ¬ sb u b
structure CAt (w : World) (p : Nat) (loose : Bool) (L : List Br) (V : CV) : Prop where
  blk : w.heap[p]? = some (.cells #[.bool loose, .map (some V.mb)] tC (0, 0))
  map : IsMap strV w V.mb (V.es.map Re.ent) V.clk
  kd : ∀ (i j : Nat) a b, V.es[i]? = some a → V.es[j]? = some b → a.key = b.key → i = j
  bd : ∀ (i j : Nat) a b, V.es[i]? = some a → V.es[j]? = some b → a.b = b.b → i = j
  bc : ∀ e ∈ V.es, e.b < V.clk
  cov : ∀ k g, grpC L k = some g → ∃ e ∈ V.es, e.key = k
  ro : ∀ e ∈ V.es, RoAt w L e
  dist : ∀ (i j : Nat) a b, V.es[i]? = some a → V.es[j]? = some b → i ≠ j → a.ro ≠ b.ro ∧ (∀ g, sb a.pv g → ¬ sb b.pv g) ∧ ∀ v ∈ a.vs, ∀ u ∈ b.vs, ∀ g, sb v g → ¬ sb u g
  inv : CInv L
structure CFr (p : Nat) (w : World) (V : CV) (w' : World) (V' : CV) : Prop where
  mod : Mod (CF p V) w w'
  f : ∀ b, CF p V' b → CF p V b ∨ w.heap.size ≤ b
theorem CFr.calm {p : Nat} {w w' : World} {V : CV} (h : Mod none_ w w') : CFr p w V w' V := ⟨h.mono fun _ _ q => q.elim, fun _ q => .inl q⟩
theorem CFr.trans {p : Nat} {w w1 w2 : World} {V V1 V2 : CV} (h : CFr p w V w1 V1) (k : CFr p w1 V1 w2 V2) : CFr p w V w2 V2 := by
  have hs := h.mod.size
  refine ⟨h.mod.then k.mod fun i hi q => ?_, fun b q => ?_⟩
  · rcases h.f i q with z | z
    · exact z
    · omega
  · rcases k.f b q with z | z
    · exact h.f b z
    · right; omega
section
variable {w : World} {p : Nat} {loose : Bool} {L : List Br} {V : CV}
theorem RoAt.blks {e : Re} (h : RoAt w L e) {b : Nat} (hb : b = e.ro ∨ sb e.pv b ∨ ∃ v ∈ e.vs, sb v b) : isT tRo w b ∨ isT tPts w b ∨ isT tPt w b := by
  rcases hb with rfl | hb | ⟨v, hv, hb⟩
  · exact .inl ⟨_, _, h.blk⟩
  · exact .inr (.inl (isT_own h.row hb))
  · obtain ⟨i, hi, rfl⟩ := List.mem_iff_getElem.1 hv
    have hg : e.g[i]? = some (e.g[i]'(by have := h.len; omega)) := List.getElem?_eq_getElem _
    exact .inr (.inr (isT_own (h.pt i _ _ hg (List.getElem?_eq_getElem hi)) hb))
theorem RoAt.mod {S : Nat → Prop} {w' : World} {e : Re} (h : RoAt w L e) (hm : Mod S w w') (hS : ∀ b, (b = e.ro ∨ sb e.pv b ∨ ∃ v ∈ e.vs, sb v b) → ¬ S b) (hI : ∀ b, isT tI w b → ¬ S b) : RoAt w' L e :=
  ⟨h.grp, hm.blk h.blk (hS _ (.inl rfl)), owns_mod h.rk hm fun k hk => hI k (isT_own h.rk hk), h.len, owns_mod h.row hm fun k hk => hS k (.inr (.inl hk)),
    fun i x v hx hv => owns_mod (h.pt i x v hx hv) hm fun k hk => hS k (.inr (.inr ⟨v, List.mem_of_getElem? hv, hk⟩)), h.ne⟩
theorem CAt.mod {S : Nat → Prop} {w' : World} (h : CAt w p loose L V) (hm : Mod S w w') (hS : ∀ b, CF p V b → ¬ S b) (hI : ∀ b, isT tI w b → ¬ S b) : CAt w' p loose L V :=
  ⟨hm.blk h.blk (hS _ (.inl rfl)), h.map.mod hm (hS _ (.inr (.inl rfl))), h.kd, h.bd, h.bc, h.cov, fun e he => (h.ro e he).mod hm (fun b hb => hS b (.inr (.inr ⟨e, he, hb⟩))) hI, h.dist, h.inv⟩
theorem CAt.calm {w' : World} (h : CAt w p loose L V) (hm : Mod none_ w w') : CAt w' p loose L V := h.mod hm (fun _ _ q => q) fun _ _ q => q
theorem CAt.old (h : CAt w p loose L V) {b : Nat} (hb : CF p V b) : b < w.heap.size := by
  rcases hb with rfl | rfl | ⟨e, he, hb⟩
  · exact X.blk_lt h.blk
  · exact X.blk_lt h.map
  · rcases (h.ro e he).blks hb with z | z | z <;> exact isT_lt z
theorem CAt.find (h : CAt w p loose L V) (k : Ky) : (grpC L k = none ∧ findE k (V.es.map Re.ent) 0 = none) ∨ ∃ e ∈ V.es, e.key = k ∧ ∃ i, findE k (V.es.map Re.ent) 0 = some (i, .pointer (some ⟨e.ro, 0, none⟩)) := by
  have hf := ent_find (es := V.es) (k := k)
  cases hq : V.es.find? (fun e => decide (e.key = k)) with
  | none =>
    rw [hq] at hf
    left
    refine ⟨?_, by simpa using hf⟩
    cases hg : grpC L k with
    | none => rfl
    | some g =>
      obtain ⟨e, he, hk⟩ := h.cov k g hg
      exact absurd (List.find?_eq_none.1 hq e he) (by simp [hk])
  | some e =>
    rw [hq] at hf
    right
    refine ⟨e, List.mem_of_find?_eq_some hq, by simpa using List.find?_some hq, ?_⟩
    cases hz : findE k (V.es.map Re.ent) 0 with
    | none => rw [hz] at hf; cases hf
    | some x =>
      rw [hz] at hf
      obtain ⟨i, u⟩ := x
      simp only [Option.map_some, Option.some.injEq] at hf
      exact ⟨i, by rw [hf]⟩
end
end Go.Proofs.YtandbmnhghmcgaaDoor.Col
set_option linter.unusedVariables false
set_option linter.unusedSimpArgs false
set_option maxRecDepth 8000
namespace Go.X
open Go Go.RowKit
end Go.X
namespace Go.Proofs.YtandbmnhghmcgaaDoor.Col
open Go Go.X Go.RowKit Go.Proofs.YtandbmnhghmcgaaDoor.XF Go.Proofs.YtandbmnhghmcgaaDoor.XK
section
variable {w : World} {p : Nat} {loose : Bool} {L : List Br} {V : CV} {e : Re}
theorem RoAt.calm {w' : World} (h : RoAt w L e) (hm : Mod none_ w w') : RoAt w' L e := h.mod hm (fun _ _ q => q) fun _ _ q => q
end
end Go.Proofs.YtandbmnhghmcgaaDoor.Col
set_option linter.unusedVariables false
set_option linter.unusedSimpArgs false
set_option maxRecDepth 8000
namespace Go.Proofs.YtandbmnhghmcgaaDoor.Col
open Go Go.X Go.RowKit Go.Proofs.YtandbmnhghmcgaaDoor.XF Go.Proofs.YtandbmnhghmcgaaDoor.XK
section
variable {w : World} {p : Nat} {loose : Bool} {L : List Br} {V : CV} {e : Re}
end
end Go.Proofs.YtandbmnhghmcgaaDoor.Col
set_option linter.unusedVariables false
set_option linter.unusedSimpArgs false
set_option maxRecDepth 8000
namespace Go.X
open Go Go.RowKit
section
variable {P : Program} {C : World → Prop} {K : Value → Prop}
end
end Go.X
namespace Go.Proofs.YtandbmnhghmcgaaDoor.Col
open Go Go.X Go.RowKit Go.Proofs.YtandbmnhghmcgaaDoor.XF Go.Proofs.YtandbmnhghmcgaaDoor.XK
section
variable {w : World} {p : Nat} {loose : Bool} {L : List Br} {V : CV} {e : Re}
def FirstP (w0 w : World) (l : List Pt) (v : Value) : Prop := (l = [] ∧ v = .pointer none) ∨ ∃ f r b, l = f :: r ∧ v = .pointer (some ⟨b, 0, none⟩) ∧ w.heap[b]? = some (.cells f.enc.toArray tPt (0, 0)) ∧ fitAll (f :: r) = true
theorem FirstP.mod {w0 w w' : World} {l : List Pt} {v : Value} (h : FirstP w0 w l v) (hm : Mod none_ w w') : FirstP w0 w' l v := by
  rcases h with ⟨h1, h2⟩ | ⟨f, r, b, h1, h2, h3, h4⟩
  · exact .inl ⟨h1, h2⟩
  · exact .inr ⟨f, r, b, h1, h2, hm.blk h3 id, h4⟩
end
end Go.Proofs.YtandbmnhghmcgaaDoor.Col
namespace Go.Proofs
open Go.Shelf
def Tryd.sortA_ren : Go.Shelf.Ren := ⟨fun | 6 => 69 | 8 => 85 | 9 => 84 | 19 => 98 | 20 => 99 | 21 => 89 | 22 => 90 | 23 => 91 | 24 => 92 | 25 => 93 | 26 => 94 | 27 => 95 | 28 => 96 | 29 => 97 | 36 => 108 | 31 => 109 | 32 => 110 | 37 => 111 | 38 => 112 | 39 => 113 | 41 => 120 | n => n, fun | 27 => 50 | 29 => 9 | 3 => 3 | 32 => 138 | 26 => 50 | 0 => 0 | 44 => 152 | 46 => 154 | 4 => 4 | 36 => 145 | 35 => 144 | 41 => 77 | 5 => 5 | 9 => 9 | 53 => 167 | 57 => 171 | 63 => 178 | 64 => 40 | n => n, fun | n => n⟩
theorem Tryd.sortA : Go.Proofs.SlLaysM.n6 Tryd.prog Tryd.sortA_ren := {
  mixed := by kernel_rfl
  f6 := ⟨Tryd.f69.name, by decide, Tryd.func69.trans (congrArg some (by kernel_rfl))⟩
  f8 := Tryd.func85.trans (congrArg some (by kernel_rfl))
  f9 := ⟨Tryd.f84.name, by decide, Tryd.func84.trans (congrArg some (by kernel_rfl))⟩
  f19 := Tryd.func98.trans (congrArg some (by kernel_rfl))
  f20 := Tryd.func99.trans (congrArg some (by kernel_rfl))
  f21 := ⟨Tryd.f89.name, by decide, Tryd.func89.trans (congrArg some (by kernel_rfl))⟩
  f22 := ⟨Tryd.f90.name, by decide, Tryd.func90.trans (congrArg some (by kernel_rfl))⟩
  f23 := ⟨Tryd.f91.name, by decide, Tryd.func91.trans (congrArg some (by kernel_rfl))⟩
  f24 := ⟨Tryd.f92.name, by decide, Tryd.func92.trans (congrArg some (by kernel_rfl))⟩
  f25 := ⟨Tryd.f93.name, by decide, Tryd.func93.trans (congrArg some (by kernel_rfl))⟩
  f26 := ⟨Tryd.f94.name, by decide, Tryd.func94.trans (congrArg some (by kernel_rfl))⟩
  f27 := ⟨Tryd.f95.name, by decide, Tryd.func95.trans (congrArg some (by kernel_rfl))⟩
  f28 := ⟨Tryd.f96.name, by decide, Tryd.func96.trans (congrArg some (by kernel_rfl))⟩
  f29 := ⟨Tryd.f97.name, by decide, Tryd.func97.trans (congrArg some (by kernel_rfl))⟩
  f31 := Tryd.func109.trans (congrArg some (by kernel_rfl))
  f32 := Tryd.func110.trans (congrArg some (by kernel_rfl))
  f36 := ⟨Tryd.f108.name, by decide, Tryd.func108.trans (congrArg some (by kernel_rfl))⟩
  f37 := ⟨Tryd.f111.name, by decide, Tryd.func111.trans (congrArg some (by kernel_rfl))⟩
  f38 := ⟨Tryd.f112.name, by decide, Tryd.func112.trans (congrArg some (by kernel_rfl))⟩
  f39 := ⟨Tryd.f113.name, by decide, Tryd.func113.trans (congrArg some (by kernel_rfl))⟩
  f41 := ⟨Tryd.f120.name, by decide, Tryd.func120.trans (congrArg some (by kernel_rfl))⟩
  t0 := Tryd.underlying0
  a0 := Tryd.isAgg0
  z0 := Tryd.sizeOf0
  v0 := Tryd.zeroValue0
  t3 := Tryd.underlying3
  a3 := Tryd.isAgg3
  z3 := Tryd.sizeOf3
  v3 := Tryd.zeroValue3
  t4 := Tryd.underlying4
  a4 := Tryd.isAgg4
  z4 := Tryd.sizeOf4
  v4 := Tryd.zeroValue4
  t5 := Tryd.underlying5
  a5 := Tryd.isAgg5
  z5 := Tryd.sizeOf5
  v5 := Tryd.zeroValue5
  t9 := Tryd.underlying9
  a9 := Tryd.isAgg9
  z9 := Tryd.sizeOf9
  v9 := Tryd.zeroValue9
  t26 := Tryd.underlying50
  a26 := Tryd.isAgg50
  z26 := Tryd.sizeOf50
  v26 := Tryd.zeroValue50
  t27 := Tryd.underlying50
  a27 := Tryd.isAgg50
  z27 := Tryd.sizeOf50
  v27 := Tryd.zeroValue50
  t29 := Tryd.underlying9
  a29 := Tryd.isAgg9
  z29 := Tryd.sizeOf9
  v29 := Tryd.zeroValue9
  t32 := Tryd.underlying138
  a32 := Tryd.isAgg138
  z32 := Tryd.sizeOf138
  v32 := Tryd.zeroValue138
  t35 := Tryd.underlying144
  a35 := Tryd.isAgg144
  z35 := Tryd.sizeOf144
  v35 := Tryd.zeroValue144
  t36 := Tryd.underlying145
  a36 := Tryd.isAgg145
  z36 := Tryd.sizeOf145
  v36 := Tryd.zeroValue145
  t41 := Tryd.underlying77
  a41 := Tryd.isAgg77
  z41 := Tryd.sizeOf77
  v41 := Tryd.zeroValue77
  t44 := Tryd.underlying152
  a44 := Tryd.isAgg152
  z44 := Tryd.sizeOf152
  v44 := Tryd.zeroValue152
  t46 := Tryd.underlying154
  a46 := Tryd.isAgg154
  z46 := Tryd.sizeOf154
  v46 := Tryd.zeroValue154
  t53 := Tryd.underlying167
  a53 := Tryd.isAgg167
  z53 := Tryd.sizeOf167
  v53 := Tryd.zeroValue167
  t57 := Tryd.underlying171
  a57 := Tryd.isAgg171
  z57 := Tryd.sizeOf171
  v57 := Tryd.zeroValue171
  t63 := Tryd.underlying178
  a63 := Tryd.isAgg178
  z63 := Tryd.sizeOf178
  v63 := Tryd.zeroValue178
  t64 := Tryd.underlying40
  a64 := Tryd.isAgg40
  z64 := Tryd.sizeOf40
  v64 := Tryd.zeroValue40 }
end Go.Proofs
set_option linter.unusedVariables false
set_option linter.unusedSimpArgs false
set_option maxRecDepth 8000
namespace Go.X
open Go Go.RowKit
end Go.X
namespace Go.Proofs.YtandbmnhghmcgaaDoor.Col
open Go Go.X Go.RowKit Go.Proofs.YtandbmnhghmcgaaDoor.XF Go.Proofs.YtandbmnhghmcgaaDoor.XK
def Gl (w : World) : Prop := Lib.TabIs Tryd.prog w "internal/strconv.uint64pow10" .u64 Lib.pow10Tab
theorem Gl.calm {w w' : World} (h : Gl w) (hm : Mod none_ w w') : Gl w' := Lib.tabBelow_of_tabIs h w' hm.toBelow
abbrev tS : TypeId := 9
abbrev tSs : TypeId := 50
theorem vSs : Tryd.prog.underlying tSs = some (.slice tS) := by kernel_rfl
section
variable {w : World} {p : Nat} {loose : Bool} {L : List Br} {V : CV} {e : Re}
theorem CAt.keys (h : CAt w p loose L V) : (V.es.map (·.key)).Perm (keysOf L) := by
  have hnd : (V.es.map (·.key)).Nodup := by
    rw [List.nodup_iff_pairwise_ne, List.pairwise_map]
    refine List.pairwise_iff_getElem.2 fun i j hi hj hij q => ?_
    have := h.kd i j _ _ (List.getElem?_eq_getElem hi) (List.getElem?_eq_getElem hj) q
    omega
  refine (List.perm_ext_iff_of_nodup hnd (keysOf_nodup L)).2 fun x => ?_
  rw [keysOf_mem, ← grpC_isSome]
  constructor
  · intro hx
    obtain ⟨e, he, rfl⟩ := List.mem_map.1 hx
    rw [(h.ro e he).grp]; rfl
  · intro hx
    obtain ⟨g, hg⟩ := Option.isSome_iff_exists.1 hx
    obtain ⟨e, he, hk⟩ := h.cov x g hg
    exact List.mem_map.2 ⟨e, he, hk⟩
end
end Go.Proofs.YtandbmnhghmcgaaDoor.Col
set_option linter.unusedVariables false
set_option linter.unusedSimpArgs false
set_option maxRecDepth 8000
namespace Go.X
open Go Go.RowKit
end Go.X
namespace Go.Proofs.YtandbmnhghmcgaaDoor.Col
open Go Go.X Go.RowKit Go.Proofs.YtandbmnhghmcgaaDoor.XF Go.Proofs.YtandbmnhghmcgaaDoor.XK
section
variable {w : World} {p : Nat} {loose : Bool} {L : List Br} {V : CV} {e : Re}
end
end Go.Proofs.YtandbmnhghmcgaaDoor.Col
set_option linter.unusedVariables false
set_option maxRecDepth 100000
namespace Go.Proofs.YtandbmnhghmcgaaDoor.XI
open Go Go.X
noncomputable def coll_Coll_Bring_b : Code := (Tryd.f12.body).getD .skip
noncomputable def coll_Coll_Bring_R0 : Code := cAt [1, 1, 0] coll_Coll_Bring_b
noncomputable def coll_Coll_Bring_R1 : Code := cAt [1, 1, 1] coll_Coll_Bring_b
noncomputable def coll_Coll_Bring_F (a0 a1 a2 a3 : Value) (w : World) (R : Value → World → Prop) : Prop :=
  VK Tryd.prog (Instr.box 32 a1) w fun x5 w => VK Tryd.prog (Instr.box 34 a3) w fun x7 w => CK Tryd.prog (Value.func (Fn.func 34) #[] #[]) [a0] w fun x14 w => CondK x14 (R (Value.tuple #[(Value.int .i64 0), (Value.int .i64 1)]) w) (W fn_ Tryd.prog 100 coll_Coll_Bring_R0 (seqK (sx fn_ Tryd.prog 100 coll_Coll_Bring_R1 (retK Tryd.prog [ResultVar.tmp 8, ResultVar.tmp 9] R)) (retK Tryd.prog [ResultVar.tmp 8, ResultVar.tmp 9] R)) (up (up (up (up (up (up (rho0 [a0, a1, a2, a3]) 5 x5) 7 x7) 8 (Value.int .i64 0)) 9 (Value.int .i64 0)) 13 a0) 14 x14) w)
theorem coll_Coll_Bring_eq (a0 a1 a2 a3 : Value) (w : World) (R : Value → World → Prop) : sx fn_ Tryd.prog 100 coll_Coll_Bring_b (retK Tryd.prog Tryd.f12.results.toList R) (rho0 [a0, a1, a2, a3]) w = coll_Coll_Bring_F a0 a1 a2 a3 w R := by kernel_rfl
theorem coll_Coll_Bring_calls {a0 a1 a2 a3 : Value} {w : World} {R : Value → World → Prop} (h : coll_Coll_Bring_F a0 a1 a2 a3 w R) : Calls Tryd.prog 12 #[a0, a1, a2, a3] w fun e w' => ∃ v, e = .returned v ∧ R v w' :=
  Go.X.calls_of_sx (n := 100) (c := coll_Coll_Bring_b) Tryd.func12 (by kernel_rfl) (by kernel_rfl) (Nat.le_of_ble_eq_true rfl) (by kernel_rfl) (Eq.mpr (coll_Coll_Bring_eq a0 a1 a2 a3 w R) h)
end Go.Proofs.YtandbmnhghmcgaaDoor.XI
set_option linter.unusedVariables false
set_option linter.unusedSimpArgs false
set_option maxRecDepth 8000
namespace Go.X
open Go Go.RowKit
section
variable {P : Program} {w : World} {K : Value → World → Prop}
end
end Go.X
namespace Go.Proofs.YtandbmnhghmcgaaDoor.Col
open Go Go.X Go.RowKit Go.Proofs.YtandbmnhghmcgaaDoor.XF Go.Proofs.YtandbmnhghmcgaaDoor.XI Go.Proofs.YtandbmnhghmcgaaDoor.XK
section
variable {w : World}
end
end Go.Proofs.YtandbmnhghmcgaaDoor.Col
set_option linter.unusedVariables false
set_option linter.unusedSimpArgs false
set_option maxRecDepth 8000
namespace Go.X
open Go Go.RowKit
end Go.X
namespace Go.Proofs.YtandbmnhghmcgaaDoor.Col
open Go Go.X Go.RowKit Go.Proofs.YtandbmnhghmcgaaDoor.XF Go.Proofs.YtandbmnhghmcgaaDoor.XI Go.Proofs.YtandbmnhghmcgaaDoor.XK
section
variable {w w' : World} {p : Nat} {loose : Bool} {L : List Br} {V : CV} {b : Br}
end
end Go.Proofs.YtandbmnhghmcgaaDoor.Col
set_option linter.unusedVariables false
set_option linter.unusedSimpArgs false
set_option maxRecDepth 8000
namespace Go.X
open Go Go.RowKit
section
variable {P : Program} {C : World → Prop} {K : Value → Prop}
end
end Go.X
namespace Go.Proofs.YtandbmnhghmcgaaDoor.Col
open Go Go.X Go.RowKit Go.Proofs.YtandbmnhghmcgaaDoor.XF Go.Proofs.YtandbmnhghmcgaaDoor.XI Go.Proofs.YtandbmnhghmcgaaDoor.XK
section
variable {w : World} {p : Nat} {loose : Bool} {L : List Br} {V : CV} {b : Br}
end
end Go.Proofs.YtandbmnhghmcgaaDoor.Col
set_option linter.unusedVariables false
set_option linter.unusedSimpArgs false
set_option maxRecDepth 8000
namespace Go.Proofs.YtandbmnhghmcgaaDoor.Col
open Go Go.X Go.RowKit Go.Proofs.YtandbmnhghmcgaaDoor.XF Go.Proofs.YtandbmnhghmcgaaDoor.XI Go.Proofs.YtandbmnhghmcgaaDoor.XK
section
variable {w : World} {p : Nat} {loose : Bool} {L : List Br} {V : CV} {b : Br}
end
end Go.Proofs.YtandbmnhghmcgaaDoor.Col
set_option linter.unusedVariables false
set_option linter.unusedSimpArgs false
namespace Go.X
open Go Go.RowKit
section
variable {κ : Type} [DecidableEq κ] {P : Program} {enc : κ → Value}
def IterAt (w : World) (r bm since : Nat) (seen : List Nat) (c : Nat) : Prop := w.heap[r]? = some (.mapIter (some bm) since seen.toArray c)
omit [DecidableEq κ] in
theorem IterAt.mod {S : Nat → Prop} {w w' : World} {r bm since c : Nat} {seen : List Nat} (h : IterAt w r bm since seen c) (hm : Mod S w w') (hS : ¬ S r) : IterAt w' r bm since seen c := hm.blk h hS
omit [DecidableEq κ] in
omit [DecidableEq κ] in
omit [DecidableEq κ] in
omit [DecidableEq κ] in
end
end Go.X
set_option linter.unusedVariables false
set_option linter.unusedSimpArgs false
set_option maxRecDepth 8000
namespace Go.Proofs.YtandbmnhghmcgaaDoor.Col
open Go Go.X Go.RowKit Go.Proofs.YtandbmnhghmcgaaDoor.XF Go.Proofs.YtandbmnhghmcgaaDoor.XK
section
variable {w : World} {p : Nat} {loose : Bool} {L : List Br} {V : CV}
abbrev nilS : Value := .slice none 0 0
end
end Go.Proofs.YtandbmnhghmcgaaDoor.Col
set_option linter.unusedVariables false
set_option linter.unusedSimpArgs false
set_option maxRecDepth 8000
namespace Go.Proofs.YtandbmnhghmcgaaDoor.Col
open Go Go.X Go.RowKit Go.Proofs.YtandbmnhghmcgaaDoor.XF Go.Proofs.YtandbmnhghmcgaaDoor.XK
section
variable {w : World} {p : Nat} {loose : Bool} {L : List Br} {V : CV}
structure CpS (w' : World) (B mb : Nat) (L : List Br) (ve us : List Re) : Prop where
  map : IsMap strV w' mb (us.map Re.ent) us.length
  keys : us.map (·.key) = ve.map (·.key)
  born : ∀ (i : Nat) e, us[i]? = some e → e.b = i
  ro : ∀ e ∈ us, RoAt w' L e
  new : ∀ e ∈ us, ∀ b, (b = e.ro ∨ sb e.pv b ∨ ∃ v ∈ e.vs, sb v b) → B ≤ b
  dist : ∀ (i j : Nat) a b, us[i]? = some a → us[j]? = some b → i ≠ j → a.ro ≠ b.ro ∧ (∀ g, sb a.pv g → ¬ sb b.pv g) ∧ ∀ v ∈ a.vs, ∀ u ∈ b.vs, ∀ g, sb v g → ¬ sb u g
def notC (w : World) (b : Nat) : Prop := ∀ t, ¬ isT t w b
theorem RoAt.notC {w' : World} {S : Nat → Prop} {e : Re} (h : RoAt w L e) (hm : Mod S w w') (hS : ∀ b, S b → notC w b) : RoAt w' L e :=
  h.mod hm (fun b hb z => by rcases h.blks hb with q | q | q <;> exact hS b z _ q) fun b hb z => hS b z _ hb
theorem CpS.mod {w' : World} {S : Nat → Prop} {B mb : Nat} {ve us : List Re} (h : CpS w B mb L ve us) (hm : Mod S w w') (h1 : ¬ S mb) (hS : ∀ b, b < w.heap.size → S b → notC w b) : CpS w' B mb L ve us := by
  have hm' : Mod (fun b => S b ∧ b < w.heap.size) w w' := hm.mono fun b hb z => ⟨z, hb⟩
  exact ⟨h.map.mod hm h1, h.keys, h.born, fun e he => (h.ro e he).notC hm' fun b hb => hS b hb.2 hb.1, h.new, h.dist⟩
end
end Go.Proofs.YtandbmnhghmcgaaDoor.Col
set_option linter.unusedVariables false
set_option linter.unusedSimpArgs false
set_option maxRecDepth 8000
namespace Go.X
open Go Go.RowKit
def Ak.enc (a : Ak) : List Value := [.int .i64 a.color, .int .i64 a.key, .int .i64 a.rank]
theorem Ak.enc_len (m : Ak) : m.enc.length = 3 := rfl
end Go.X
namespace Go.Proofs.YtandbmnhghmcgaaDoor.Col
open Go Go.X Go.RowKit Go.Proofs.YtandbmnhghmcgaaDoor.XF Go.Proofs.YtandbmnhghmcgaaDoor.XK
abbrev tAk : TypeId := 161
end Go.Proofs.YtandbmnhghmcgaaDoor.Col
set_option linter.unusedVariables false
set_option linter.unusedSimpArgs false
set_option maxRecDepth 4000
namespace Go.X
open Go Go.RowKit
def dv (g cap n : Nat) : Value := .slice (some ⟨g, 0, none⟩) n cap
end Go.X
namespace Go.Proofs.YtandbmnhghmcgaaDoor.Col
open Go Go.X Go.RowKit Go.Proofs.YtandbmnhghmcgaaDoor.XF Go.Proofs.YtandbmnhghmcgaaDoor.XK
def Dat (w : World) (g cap : Nat) (l : List Ak) : Prop := w.ownsRow 0 tAk 3 (dv g cap l.length) l.length (l.flatMap Ak.enc)
section
variable {w : World} {g cap : Nat} {l : List Ak}
theorem Dat.mod {S : Nat → Prop} {w' : World} (h : Dat w g cap l) (hm : Mod S w w') (hS : ¬ S g) : Dat w' g cap l := owns_mod h hm fun k z y => by
  have : k = g := by unfold dv at z; exact (Option.some.inj z).symm
  subst this; exact hS y
theorem Dat.calm {w' : World} (h : Dat w g cap l) (hm : Mod none_ w w') : Dat w' g cap l := h.mod hm id
theorem Dat.lt (h : Dat w g cap l) : g < w.heap.size := by
  obtain ⟨c, hc⟩ := owns_blk h (g := g) rfl
  exact X.blk_lt hc
end
end Go.Proofs.YtandbmnhghmcgaaDoor.Col
set_option linter.unusedVariables false
set_option linter.unusedSimpArgs false
set_option maxRecDepth 4000
namespace Go.Proofs.YtandbmnhghmcgaaDoor.Col
open Go Go.X Go.RowKit Go.Proofs.YtandbmnhghmcgaaDoor.XF Go.Proofs.YtandbmnhghmcgaaDoor.XK
section
variable {w : World} {g cap : Nat} {K : Exit → Sl → World → Prop} {ρ : Sl}
end
end Go.Proofs.YtandbmnhghmcgaaDoor.Col
set_option linter.unusedVariables false
set_option linter.unusedSimpArgs false
set_option maxRecDepth 4000
namespace Go.Proofs.YtandbmnhghmcgaaDoor.Col
open Go Go.X Go.RowKit Go.Proofs.YtandbmnhghmcgaaDoor.XF Go.Proofs.YtandbmnhghmcgaaDoor.XK
section
variable {w : World} {g cap : Nat} {K : Exit → Sl → World → Prop} {ρ : Sl}
end
end Go.Proofs.YtandbmnhghmcgaaDoor.Col
set_option linter.unusedVariables false
set_option linter.unusedSimpArgs false
set_option maxRecDepth 4000
namespace Go.X
end Go.X
namespace Go.Proofs.YtandbmnhghmcgaaDoor.Col
open Go Go.X Go.RowKit Go.Proofs.YtandbmnhghmcgaaDoor.XF Go.Proofs.YtandbmnhghmcgaaDoor.XK
section
variable {w : World} {g cap : Nat} {K : Exit → Sl → World → Prop} {ρ : Sl}
end
end Go.Proofs.YtandbmnhghmcgaaDoor.Col
set_option linter.unusedVariables false
set_option linter.unusedSimpArgs false
set_option maxRecDepth 4000
namespace Go.X
end Go.X
namespace Go.Proofs.YtandbmnhghmcgaaDoor.Col
open Go Go.X Go.RowKit Go.Proofs.YtandbmnhghmcgaaDoor.XF Go.Proofs.YtandbmnhghmcgaaDoor.XK
structure SG (ρ ρ' : Sl) : Prop where
  e0 : ρ' 0 = ρ 0
  e1 : ρ' 1 = ρ 1
  e2 : ρ' 2 = ρ 2
  e3 : ρ' 3 = ρ 3
  e4 : ρ' 4 = ρ 4
theorem SG.trans {a b c : Sl} (h : SG a b) (k : SG b c) : SG a c := ⟨k.e0.trans h.e0, k.e1.trans h.e1, k.e2.trans h.e2, k.e3.trans h.e3, k.e4.trans h.e4⟩
section
variable {w : World} {g cap n : Nat} {K : Exit → Sl → World → Prop} {ρ : Sl} {P X Y R : List Ak} {x y : Ak}
end
end Go.Proofs.YtandbmnhghmcgaaDoor.Col
set_option linter.unusedVariables false
set_option linter.unusedSimpArgs false
set_option maxRecDepth 4000
namespace Go.Proofs.YtandbmnhghmcgaaDoor.Col
open Go Go.X Go.RowKit Go.Proofs.YtandbmnhghmcgaaDoor.XF Go.Proofs.YtandbmnhghmcgaaDoor.XK
section
variable {w : World} {g cap n : Nat} {K : Exit → Sl → World → Prop} {ρ : Sl} {P X Y R : List Ak} {x y : Ak}
end
end Go.Proofs.YtandbmnhghmcgaaDoor.Col
set_option linter.unusedVariables false
set_option linter.unusedSimpArgs false
set_option maxRecDepth 4000
namespace Go.Proofs.YtandbmnhghmcgaaDoor.Col
open Go Go.X Go.RowKit Go.Proofs.YtandbmnhghmcgaaDoor.XF Go.Proofs.YtandbmnhghmcgaaDoor.XK
section
variable {w : World} {g cap n N : Nat} {K : Exit → Sl → World → Prop} {ρ : Sl} {P X Y R : List Ak}
end
end Go.Proofs.YtandbmnhghmcgaaDoor.Col
set_option linter.unusedVariables false
set_option linter.unusedSimpArgs false
set_option maxRecDepth 4000
namespace Go.Proofs.YtandbmnhghmcgaaDoor.Col
open Go Go.X Go.RowKit Go.Proofs.YtandbmnhghmcgaaDoor.XF Go.Proofs.YtandbmnhghmcgaaDoor.XK
section
variable {w : World} {g cap n N : Nat} {ρ : Sl} {P X Y R : List Ak}
end
end Go.Proofs.YtandbmnhghmcgaaDoor.Col
set_option linter.unusedVariables false
set_option linter.unusedSimpArgs false
set_option maxRecDepth 4000
namespace Go.Proofs.YtandbmnhghmcgaaDoor.Col
open Go Go.X Go.RowKit Go.Proofs.YtandbmnhghmcgaaDoor.XF Go.Proofs.YtandbmnhghmcgaaDoor.XK
def Fq (l l' : List Ak) : Prop := ∀ x, l'.filter (eqv ltA x) = l.filter (eqv ltA x)
theorem Fq.len {l l' : List Ak} (h : Fq l l') : l'.length = l.length := Stab.len ltA_wo h
section
variable {w : World} {g cap n : Nat} {l : List Ak}
structure Bl (bs : Nat) (Bs : List (List Ak)) (C : List Ak) : Prop where
  so : ∀ B ∈ Bs, SortedL ltA B ∧ B.length = bs
  last : SortedL ltA C
theorem Bl.len {bs : Nat} {Bs : List (List Ak)} (h : ∀ B ∈ Bs, SortedL ltA B ∧ B.length = bs) : Bs.flatten.length = Bs.length * bs := by
  induction Bs with
  | nil => simp
  | cons B Bs ih =>
    rw [List.flatten_cons, List.length_append, ih fun x hx => h x (List.mem_cons_of_mem _ hx), (h B List.mem_cons_self).2, List.length_cons, Nat.succ_mul]
    omega
end
end Go.Proofs.YtandbmnhghmcgaaDoor.Col
set_option linter.unusedVariables false
set_option linter.unusedSimpArgs false
set_option maxRecDepth 8000
namespace Go.X
open Go Go.RowKit
end Go.X
namespace Go.Proofs.YtandbmnhghmcgaaDoor.Col
open Go Go.X Go.RowKit Go.Proofs.YtandbmnhghmcgaaDoor.XF Go.Proofs.YtandbmnhghmcgaaDoor.XK
section
variable {w : World}
end
end Go.Proofs.YtandbmnhghmcgaaDoor.Col
set_option linter.unusedVariables false
set_option linter.unusedSimpArgs false
set_option maxRecDepth 8000
namespace Go.X
open Go Go.RowKit
end Go.X
namespace Go.Proofs.YtandbmnhghmcgaaDoor.Col
open Go Go.X Go.RowKit Go.Proofs.YtandbmnhghmcgaaDoor.XF Go.Proofs.YtandbmnhghmcgaaDoor.XK
section
variable {w : World}
end
end Go.Proofs.YtandbmnhghmcgaaDoor.Col
set_option linter.unusedVariables false
set_option linter.unusedSimpArgs false
set_option maxRecDepth 8000
namespace Go.X
open Go Go.RowKit
abbrev GrE := (Int × List Int) × Value
def encG (key : Ky) (k : Int) (x : GrE) : List Value := [strV (subK key k x.1.1), x.2]
end Go.X
namespace Go.Proofs.YtandbmnhghmcgaaDoor.Col
open Go Go.X Go.RowKit Go.Proofs.YtandbmnhghmcgaaDoor.XF Go.Proofs.YtandbmnhghmcgaaDoor.XK
structure GrpsAt (w : World) (B : Nat) (v : Value) (key : Ky) (k : Int) (l : List (Int × List Int)) (rvs : List Value) : Prop where
  len : rvs.length = l.length
  row : w.ownsRow B tG 2 v l.length ((l.zip rvs).flatMap (encG key k))
  own : ∀ (i : Nat) x u, l[i]? = some x → rvs[i]? = some u → w.ownsRow B tI 1 u x.2.length (ints x.2)
  ne : ∀ (i j : Nat) u t, rvs[i]? = some u → rvs[j]? = some t → i ≠ j → ∀ b, sb u b → ¬ sb t b
section
variable {w : World} {B : Nat} {v : Value} {key : Ky} {k : Int} {l : List (Int × List Int)} {rvs : List Value}
theorem GrpsAt.nil (w : World) (B : Nat) (key : Ky) (k : Int) : GrpsAt w B nilS key k [] [] := ⟨rfl, World.ownsRow_nil _ _ _ _, fun i x u h => by simp at h, fun i j u t h => by simp at h⟩
theorem GrpsAt.calm {w' : World} (h : GrpsAt w B v key k l rvs) (hm : Mod none_ w w') : GrpsAt w' B v key k l rvs := ⟨h.len, owns_mod h.row hm fun _ _ => id, fun i x u hx hu => owns_mod (h.own i x u hx hu) hm fun _ _ => id, h.ne⟩
end
end Go.Proofs.YtandbmnhghmcgaaDoor.Col
set_option linter.unusedVariables false
set_option linter.unusedSimpArgs false
set_option maxRecDepth 8000
namespace Go.Proofs.YtandbmnhghmcgaaDoor.Col
open Go Go.X Go.RowKit Go.Proofs.YtandbmnhghmcgaaDoor.XF Go.Proofs.YtandbmnhghmcgaaDoor.XK
section
variable {w : World} {B : Nat} {v : Value} {key : Ky} {k : Int}
end
end Go.Proofs.YtandbmnhghmcgaaDoor.Col
set_option linter.unusedVariables false
set_option linter.unusedSimpArgs false
set_option maxRecDepth 8000
namespace Go.X
open Go Go.RowKit
end Go.X
namespace Go.Proofs.YtandbmnhghmcgaaDoor.Col
open Go Go.X Go.RowKit Go.Proofs.YtandbmnhghmcgaaDoor.XF Go.Proofs.YtandbmnhghmcgaaDoor.XK
section
variable {w : World} {key : Ky} {k : Int}
end
end Go.Proofs.YtandbmnhghmcgaaDoor.Col
set_option linter.unusedVariables false
set_option linter.unusedSimpArgs false
set_option maxRecDepth 8000
namespace Go.Proofs.YtandbmnhghmcgaaDoor.Col
open Go Go.X Go.RowKit Go.Proofs.YtandbmnhghmcgaaDoor.XF Go.Proofs.YtandbmnhghmcgaaDoor.XK
section
variable {w : World} {key : Ky} {k : Int}
theorem GrpsAt.base {B B' : Nat} {v : Value} {l : List (Int × List Int)} {rvs : List Value} (h : GrpsAt w B v key k l rvs) (hB : B' ≤ B) : GrpsAt w B' v key k l rvs :=
  ⟨h.len, owns_base h.row hB, fun i x u hx hu => owns_base (h.own i x u hx hu) hB, h.ne⟩
end
end Go.Proofs.YtandbmnhghmcgaaDoor.Col
set_option linter.unusedVariables false
set_option linter.unusedSimpArgs false
set_option maxRecDepth 8000
namespace Go.X
open Go Go.RowKit
structure Aq where
  ro : Nat
  n : Int
  k : Int
  own : Pt
  rank : Int
def Aq.enc (a : Aq) : List Value := [.pointer (some ⟨a.ro, 0, none⟩), .int .i64 a.n, .int .i64 a.k] ++ a.own.enc ++ [.int .i64 a.rank]
def Aq.v (a : Aq) : Value := .agg a.enc.toArray
end Go.X
namespace Go.Proofs.YtandbmnhghmcgaaDoor.Col
open Go Go.X Go.RowKit Go.Proofs.YtandbmnhghmcgaaDoor.XF Go.Proofs.YtandbmnhghmcgaaDoor.XK
abbrev tL : TypeId := 2
abbrev tLs : TypeId := 55
theorem vLs : Tryd.prog.underlying tLs = some (.slice tL) := by kernel_rfl
section
variable {w : World} {L : List Br} {e : Re} {a : Aq} {b : Nat}
end
end Go.Proofs.YtandbmnhghmcgaaDoor.Col
set_option linter.unusedVariables false
set_option linter.unusedSimpArgs false
set_option maxRecDepth 8000
namespace Go.X
open Go Go.RowKit
def tdCells (t : Td) (row rks : Value) : Array Value := #[.int .i64 t.val, row, strV t.gkey, rks, .bool t.has]
end Go.X
namespace Go.Proofs.YtandbmnhghmcgaaDoor.Col
open Go Go.X Go.RowKit Go.Proofs.YtandbmnhghmcgaaDoor.XF Go.Proofs.YtandbmnhghmcgaaDoor.XK
abbrev tTd : TypeId := 57
theorem iTd : (Tryd.prog.info? tTd).map (·.size) = some 5 := by kernel_rfl
theorem zTd_z : (Tryd.prog.info? tTd).bind (·.zero) = some (.agg (tdCells zTd nilS nilS)) := by kernel_rfl
theorem zTd_b : Tryd.prog.built tTd [] = some (tdCells zTd nilS nilS) := by kernel_rfl
theorem td_one (t : Td) (A A2 : Option Addr) (n c n2 c2 : Nat) : (tdCells t (.slice A n c) (.slice A2 n2 c2)).all (·.oneCell') = true := by simp [tdCells, Value.oneCell', strV]
def TdAt (w : World) (B : Nat) (v : Value) (t : Td) : Prop := ∃ row rks, v = .agg (tdCells t row rks) ∧ w.ownsRow B tL 1 row t.row.length (ints t.row) ∧ w.ownsRow B tI 1 rks t.ranks.length (ints t.ranks)
theorem TdAt.mod {S : Nat → Prop} {w w' : World} {B : Nat} {v : Value} {t : Td} (h : TdAt w B v t) (hm : Mod S w w') (h1 : ∀ b, isT tL w b → ¬ S b) (h2 : ∀ b, isT tI w b → ¬ S b) : TdAt w' B v t := by
  obtain ⟨row, rks, e, a1, a2⟩ := h
  exact ⟨row, rks, e, owns_mod a1 hm fun k hk => h1 k (isT_own a1 hk), owns_mod a2 hm fun k hk => h2 k (isT_own a2 hk)⟩
theorem TdAt.calm {w w' : World} {B : Nat} {v : Value} {t : Td} (h : TdAt w B v t) (hm : Mod none_ w w') : TdAt w' B v t := h.mod hm (fun _ _ => id) fun _ _ => id
theorem TdAt.base {w : World} {B B' : Nat} {v : Value} {t : Td} (h : TdAt w B v t) (hB : B' ≤ B) : TdAt w B' v t := by
  obtain ⟨row, rks, e, a1, a2⟩ := h
  exact ⟨row, rks, e, owns_base a1 hB, owns_base a2 hB⟩
theorem TdAt.z (w : World) (B : Nat) : TdAt w B (.agg (tdCells zTd nilS nilS)) zTd := ⟨nilS, nilS, rfl, World.ownsRow_nil _ _ _ _, World.ownsRow_nil _ _ _ _⟩
section
variable {w : World} {L : List Br} {e : Re} {a : Aq} {b : Nat}
end
end Go.Proofs.YtandbmnhghmcgaaDoor.Col
set_option linter.unusedVariables false
set_option linter.unusedSimpArgs false
set_option maxRecDepth 8000
namespace Go.Proofs.YtandbmnhghmcgaaDoor.Col
open Go Go.X Go.RowKit Go.Proofs.YtandbmnhghmcgaaDoor.XF Go.Proofs.YtandbmnhghmcgaaDoor.XK
end Go.Proofs.YtandbmnhghmcgaaDoor.Col
set_option linter.unusedVariables false
set_option linter.unusedSimpArgs false
set_option maxRecDepth 8000
namespace Go.Proofs.YtandbmnhghmcgaaDoor.Col
open Go Go.X Go.RowKit Go.Proofs.YtandbmnhghmcgaaDoor.XF Go.Proofs.YtandbmnhghmcgaaDoor.XK
section
variable {w : World} {L : List Br} {e : Re} {a : Aq} {b : Nat}
end
end Go.Proofs.YtandbmnhghmcgaaDoor.Col
set_option linter.unusedVariables false
set_option linter.unusedSimpArgs false
set_option maxRecDepth 8000
namespace Go.X
open Go Go.RowKit
end Go.X
namespace Go.Proofs.YtandbmnhghmcgaaDoor.Col
open Go Go.X Go.RowKit Go.Proofs.YtandbmnhghmcgaaDoor.XF Go.Proofs.YtandbmnhghmcgaaDoor.XK
section
variable {w : World} {p : Nat} {loose : Bool} {L : List Br} {V : CV} {e : Re}
abbrev ToP (w0 : World) (t : Td) (h : Bool) : Value → World → Prop := fun v w' => ∃ u, v = .tuple #[u, .bool h] ∧ TdAt w' w0.heap.size u t ∧ Mod none_ w0 w'
end
end Go.Proofs.YtandbmnhghmcgaaDoor.Col
set_option linter.unusedVariables false
set_option maxRecDepth 100000
namespace Go.Proofs.YtandbmnhghmcgaaDoor.XG
open Go Go.X
noncomputable def dispatcherlaw15_CollNil_b : Code := (Tryd.f9.body).getD .skip
noncomputable def dispatcherlaw15_CollNil_L0 : Code := cAt [1, 1, 1, 1, 0, 1, 0, 0] dispatcherlaw15_CollNil_b
noncomputable def dispatcherlaw15_CollNil_R1 : Code := cAt [1, 1, 1, 1, 1] dispatcherlaw15_CollNil_b
noncomputable def dispatcherlaw15_CollNil_R2 : Code := cAt [1, 1, 1, 1, 0, 1, 0, 0, 1, 0, 0, 1, 1, 1] dispatcherlaw15_CollNil_b
noncomputable def dispatcherlaw15_CollNil_R3 : Code := cAt [1, 1, 1, 1, 0, 1, 0, 0, 1, 1] dispatcherlaw15_CollNil_b
noncomputable def dispatcherlaw15_CollNil_R4 : Code := cAt [1, 1, 1, 1, 0, 1, 0, 0, 1, 0, 0, 1, 1, 1, 1] dispatcherlaw15_CollNil_b
noncomputable def dispatcherlaw15_CollNil_L0_F (z : At) (K : Exit → Sl → World → Prop) (ρ : Sl) (w : World) : Prop :=
  IK Tryd.prog .len #[73] 3 [false] [(ρ 4)] w fun x20 w => BK Tryd.prog .lss 3 (.tmp 18) (.tmp 20) (ρ 5) x20 w fun x21 w => CondK x21 (VK Tryd.prog (Instr.indexAt 73 (ρ 4) (ρ 5)) w fun x26 w => VK Tryd.prog (Instr.loadAt 24 x26) w fun x27 w => VK Tryd.prog (Instr.fieldAt 36 (ρ 1) 0) w fun x30 w => VK Tryd.prog (Instr.loadAt 32 x30) w fun x31 w => VK Tryd.prog (Instr.fieldAt 36 (ρ 1) 1) w fun x32 w => VK Tryd.prog (Instr.loadAt 3 x32) w fun x33 w => VK Tryd.prog (Instr.fieldAt 36 (ρ 1) 2) w fun x34 w => VK Tryd.prog (Instr.loadAt 34 x34) w fun x35 w => CK Tryd.prog (Value.func (Fn.func 12) #[] #[]) [x27, x31, x33, x35] w fun x36 w => VK Tryd.prog (Instr.extract x36 0) w fun x37 w => VK Tryd.prog (Instr.extract x36 1) w fun x38 w => VK Tryd.prog (Instr.fieldAt 36 (ρ 1) 0) w fun x41 w => VK Tryd.prog (Instr.fieldAt 32 x41 0) w fun x42 w => VK Tryd.prog (Instr.loadAt 9 x42) w fun x43 w => VK Tryd.prog (Instr.fieldAt 36 (ρ 1) 1) w fun x44 w => VK Tryd.prog (Instr.loadAt 3 x44) w fun x45 w => CK Tryd.prog (Value.func (Fn.func 27) #[] #[]) [x27, x43, x45, (Value.int .i64 0)] w fun x46 w => VK Tryd.prog (Instr.extract x46 0) w fun x47 w => VK Tryd.prog (Instr.extract x46 1) w fun x48 w => VK Tryd.prog (Instr.alloc 57 true (.tuple #[])) w fun x9 w => UK Tryd.prog (Instr.storeAt 57 x9 x47) w fun _ w => sx z Tryd.prog 88 dispatcherlaw15_CollNil_R2 (blkK 1 (seqK (sx z Tryd.prog 88 dispatcherlaw15_CollNil_R3 K) K)) (up (up (up (up (up (up (up (up (up (up (up (up (up (up (up (up (up (up (up (up (up (up (up (up (up (up (up (up (up (up (up (up (up (up ρ 18 (ρ 5)) 19 (ρ 4)) 20 x20) 21 x21) 24 (ρ 4)) 25 (ρ 5)) 26 x26) 27 x27) 6 x27) 29 x27) 30 x30) 31 x31) 32 x32) 33 x33) 34 x34) 35 x35) 36 x36) 28 x36) 37 x37) 38 x38) 7 x37) 8 x38) 40 x27) 41 x41) 42 x42) 43 x43) 44 x44) 45 x45) 46 x46) 39 x46) 47 x47) 48 x48) 9 x9) 10 x48) w) (K (.exit 0) (up (up (up (up ρ 18 (ρ 5)) 19 (ρ 4)) 20 x20) 21 x21) w)
theorem dispatcherlaw15_CollNil_L0_eq (z : At) (K : Exit → Sl → World → Prop) (ρ : Sl) (w : World) : sx z Tryd.prog 88 dispatcherlaw15_CollNil_L0 K ρ w = dispatcherlaw15_CollNil_L0_F z K ρ w := by kernel_rfl
theorem dispatcherlaw15_CollNil_L0_ok : dstOk 88 dispatcherlaw15_CollNil_L0 = true := by kernel_rfl
noncomputable def dispatcherlaw15_CollNil_R1_F (z : At) (K : Exit → Sl → World → Prop) (ρ : Sl) (w : World) : Prop :=
  CK Tryd.prog (Value.func (Fn.func 15) #[] #[]) [(ρ 3)] w fun x86 w => BK Tryd.prog .eql 24 (.tmp 86) (.const (Value.pointer none)) x86 (Value.pointer none) w fun x87 w => K .ret (up (up (up (up ρ 85 (ρ 3)) 86 x86) 87 x87) 2 x87) w
theorem dispatcherlaw15_CollNil_R1_eq (z : At) (K : Exit → Sl → World → Prop) (ρ : Sl) (w : World) : sx z Tryd.prog 88 dispatcherlaw15_CollNil_R1 K ρ w = dispatcherlaw15_CollNil_R1_F z K ρ w := by kernel_rfl
noncomputable def dispatcherlaw15_CollNil_R2_F (z : At) (K : Exit → Sl → World → Prop) (ρ : Sl) (w : World) : Prop :=
  BK Tryd.prog .neq 37 (.tmp 49) (.const (Value.int .i64 1)) (ρ 8) (Value.int .i64 1) w fun x50 w => MG Tryd.prog x50 false (ρ 10) w fun x52 w => PK Tryd.prog x50 (Value.bool true) x52 w fun x53 w => VG Tryd.prog x53 false (Instr.loadAt 57 (ρ 9)) w fun x55 w => VG Tryd.prog x53 false (Instr.build 57 [].toArray) w fun x56 w => CG Tryd.prog x53 false (Value.func (Fn.func 28) #[] #[]) [x55, x56] w fun x57 w => VG Tryd.prog x53 false (Op.unary UnOp.not x57) w fun x58 w => PK Tryd.prog x53 (Value.bool true) x58 w fun x59 w => MG Tryd.prog x59 false (ρ 6) w fun x61 w => VG Tryd.prog x59 false (Instr.fieldAt 36 (ρ 1) 0) w fun x62 w => VG Tryd.prog x59 false (Instr.fieldAt 32 x62 0) w fun x63 w => VG Tryd.prog x59 false (Instr.loadAt 9 x63) w fun x64 w => VG Tryd.prog x59 false (Instr.fieldAt 36 (ρ 1) 1) w fun x65 w => VG Tryd.prog x59 false (Instr.loadAt 3 x65) w fun x66 w => CG Tryd.prog x59 false (Value.func (Fn.func 31) #[] #[]) [x61, x64, x66, (Value.int .i64 0)] w fun x67 w => PK Tryd.prog x59 (Value.bool true) x67 w fun x68 w => MG Tryd.prog x68 false (ρ 6) w fun x70 w => VG Tryd.prog x68 false (Instr.fieldAt 36 (ρ 1) 0) w fun x71 w => VG Tryd.prog x68 false (Instr.fieldAt 32 x71 0) w fun x72 w => VG Tryd.prog x68 false (Instr.loadAt 9 x72) w fun x73 w => VG Tryd.prog x68 false (Instr.fieldAt 36 (ρ 1) 1) w fun x74 w => VG Tryd.prog x68 false (Instr.loadAt 3 x74) w fun x75 w => CG Tryd.prog x68 false (Value.func (Fn.func 17) #[] #[]) [x70, x73, x75] w fun x76 w => BG Tryd.prog x68 false .neq 3 (.tmp 76) (.const (Value.int .i64 0)) x76 (Value.int .i64 0) w fun x77 w => PK Tryd.prog x68 (Value.bool true) x77 w fun x78 w => MG Tryd.prog x78 false (ρ 6) w fun x80 w => CG Tryd.prog x78 false (Value.func (Fn.func 24) #[] #[]) [x80] w fun x81 w => IG Tryd.prog x78 false .len #[50] 3 [false] [x81] w fun x82 w => BG Tryd.prog x78 false .neq 3 (.tmp 82) (.const (Value.int .i64 0)) x82 (Value.int .i64 0) w fun x83 w => PK Tryd.prog x78 (Value.bool true) x83 w fun x84 w => sx z Tryd.prog 88 dispatcherlaw15_CollNil_R4 K (up (up (up (up (up (up (up (up (up (up (up (up (up (up (up (up (up (up (up (up (up (up (up (up (up (up (up (up (up (up (up (up (up (up (up (up ρ 49 (ρ 8)) 50 x50) 51 x50) 52 x52) 53 x53) 54 x53) 55 x55) 56 x56) 57 x57) 58 x58) 59 x59) 60 x59) 61 x61) 62 x62) 63 x63) 64 x64) 65 x65) 66 x66) 67 x67) 68 x68) 69 x68) 70 x70) 71 x71) 72 x72) 73 x73) 74 x74) 75 x75) 76 x76) 77 x77) 78 x78) 79 x78) 80 x80) 81 x81) 82 x82) 83 x83) 84 x84) w
theorem dispatcherlaw15_CollNil_R2_eq (z : At) (K : Exit → Sl → World → Prop) (ρ : Sl) (w : World) : sx z Tryd.prog 88 dispatcherlaw15_CollNil_R2 K ρ w = dispatcherlaw15_CollNil_R2_F z K ρ w := by kernel_rfl
noncomputable def dispatcherlaw15_CollNil_R3_F (z : At) (K : Exit → Sl → World → Prop) (ρ : Sl) (w : World) : Prop :=
  BK Tryd.prog .add 3 (.tmp 22) (.const (Value.int .i64 1)) (ρ 5) (Value.int .i64 1) w fun x23 w => K .normal (up (up (up ρ 22 (ρ 5)) 23 x23) 5 x23) w
theorem dispatcherlaw15_CollNil_R3_eq (z : At) (K : Exit → Sl → World → Prop) (ρ : Sl) (w : World) : sx z Tryd.prog 88 dispatcherlaw15_CollNil_R3 K ρ w = dispatcherlaw15_CollNil_R3_F z K ρ w := by kernel_rfl
noncomputable def dispatcherlaw15_CollNil_R4_F (z : At) (K : Exit → Sl → World → Prop) (ρ : Sl) (w : World) : Prop :=
  CondK (ρ 84) (K .ret (up ρ 2 (Value.bool false)) w) (K .normal ρ w)
theorem dispatcherlaw15_CollNil_R4_eq (z : At) (K : Exit → Sl → World → Prop) (ρ : Sl) (w : World) : sx z Tryd.prog 88 dispatcherlaw15_CollNil_R4 K ρ w = dispatcherlaw15_CollNil_R4_F z K ρ w := by kernel_rfl
noncomputable def dispatcherlaw15_CollNil_F (a0 : Value) (w : World) (R : Value → World → Prop) : Prop :=
  VK Tryd.prog (Instr.box 36 a0) w fun x1 w => VK Tryd.prog (Instr.loadAt 36 x1) w fun x11 w => VK Tryd.prog (Instr.buildSlice 22 1 [(0, x11)].toArray) w fun x12 w => CK Tryd.prog (Value.func (Fn.func 10) #[] #[]) [x12] w fun x13 w => CondK x13 (R (Value.bool true) w) (VK Tryd.prog (Instr.build 72 [].toArray) w fun x15 w => VK Tryd.prog (Instr.box 72 x15) w fun x16 w => VK Tryd.prog (Instr.buildSlice 73 2 [(0, (Value.pointer none)), (1, x16)].toArray) w fun x17 w => W fn_ Tryd.prog 88 (Code.loop dispatcherlaw15_CollNil_L0) (blkK 0 (seqK (sx fn_ Tryd.prog 88 dispatcherlaw15_CollNil_R1 (retK Tryd.prog [ResultVar.tmp 2] R)) (retK Tryd.prog [ResultVar.tmp 2] R))) (up (up (up (up (up (up (up (up (up (up (up (up (rho0 [a0]) 1 x1) 2 (Value.bool false)) 11 x11) 12 x12) 13 x13) 3 (Value.pointer none)) 14 (Value.pointer none)) 15 x15) 16 x16) 17 x17) 4 x17) 5 (Value.int .i64 0)) w)
theorem dispatcherlaw15_CollNil_eq (a0 : Value) (w : World) (R : Value → World → Prop) : sx fn_ Tryd.prog 88 dispatcherlaw15_CollNil_b (retK Tryd.prog Tryd.f9.results.toList R) (rho0 [a0]) w = dispatcherlaw15_CollNil_F a0 w R := by kernel_rfl
theorem dispatcherlaw15_CollNil_calls {a0 : Value} {w : World} {R : Value → World → Prop} (h : dispatcherlaw15_CollNil_F a0 w R) : Calls Tryd.prog 9 #[a0] w fun e w' => ∃ v, e = .returned v ∧ R v w' :=
  Go.X.calls_of_sx (n := 88) (c := dispatcherlaw15_CollNil_b) Tryd.func9 (by kernel_rfl) (by kernel_rfl) (Nat.le_of_ble_eq_true rfl) (by kernel_rfl) (Eq.mpr (dispatcherlaw15_CollNil_eq a0 w R) h)
noncomputable def dispatcherlaw15_Great_b : Code := (Tryd.f10.body).getD .skip
noncomputable def dispatcherlaw15_Great_L0 : Code := cAt [1, 1, 0, 1, 0, 0] dispatcherlaw15_Great_b
noncomputable def dispatcherlaw15_Great_R1 : Code := cAt [1, 1, 1] dispatcherlaw15_Great_b
noncomputable def dispatcherlaw15_Great_L0_F (z : At) (K : Exit → Sl → World → Prop) (ρ : Sl) (w : World) : Prop :=
  IK Tryd.prog .len #[22] 3 [false] [(ρ 0)] w fun x9 w => BK Tryd.prog .lss 3 (.tmp 7) (.tmp 9) (ρ 3) x9 w fun x10 w => CondK x10 (VK Tryd.prog (Instr.indexAt 22 (ρ 0) (ρ 3)) w fun x15 w => VK Tryd.prog (Instr.fieldAt 36 x15 0) w fun x16 w => VK Tryd.prog (Instr.loadAt 32 x16) w fun x17 w => CK Tryd.prog (Value.func (Fn.func 33) #[] #[]) [x17] w fun x18 w => MG Tryd.prog x18 false (ρ 0) w fun x20 w => MG Tryd.prog x18 false (ρ 3) w fun x21 w => VG Tryd.prog x18 false (Instr.indexAt 22 x20 x21) w fun x22 w => VG Tryd.prog x18 false (Instr.fieldAt 36 x22 0) w fun x23 w => VG Tryd.prog x18 false (Instr.fieldAt 32 x23 1) w fun x24 w => VG Tryd.prog x18 false (Instr.loadAt 30 x24) w fun x25 w => IG Tryd.prog x18 false .len #[30] 3 [false] [x25] w fun x26 w => BG Tryd.prog x18 false .gtr 3 (.tmp 26) (.const (Value.int .i64 8)) x26 (Value.int .i64 8) w fun x27 w => PK Tryd.prog x18 (Value.bool true) x27 w fun x28 w => CondK x28 (K .ret (up (up (up (up (up (up (up (up (up (up (up (up (up (up (up (up (up (up (up (up (up ρ 7 (ρ 3)) 8 (ρ 0)) 9 x9) 10 x10) 13 (ρ 0)) 14 (ρ 3)) 15 x15) 16 x16) 17 x17) 18 x18) 19 x18) 20 x20) 21 x21) 22 x22) 23 x23) 24 x24) 25 x25) 26 x26) 27 x27) 28 x28) 2 (Value.bool true)) w) (BK Tryd.prog .add 3 (.tmp 11) (.const (Value.int .i64 1)) (ρ 3) (Value.int .i64 1) w fun x12 w => K .normal (up (up (up (up (up (up (up (up (up (up (up (up (up (up (up (up (up (up (up (up (up (up (up ρ 7 (ρ 3)) 8 (ρ 0)) 9 x9) 10 x10) 13 (ρ 0)) 14 (ρ 3)) 15 x15) 16 x16) 17 x17) 18 x18) 19 x18) 20 x20) 21 x21) 22 x22) 23 x23) 24 x24) 25 x25) 26 x26) 27 x27) 28 x28) 11 (ρ 3)) 12 x12) 3 x12) w)) (K (.exit 0) (up (up (up (up ρ 7 (ρ 3)) 8 (ρ 0)) 9 x9) 10 x10) w)
theorem dispatcherlaw15_Great_L0_eq (z : At) (K : Exit → Sl → World → Prop) (ρ : Sl) (w : World) : sx z Tryd.prog 29 dispatcherlaw15_Great_L0 K ρ w = dispatcherlaw15_Great_L0_F z K ρ w := by kernel_rfl
theorem dispatcherlaw15_Great_L0_ok : dstOk 29 dispatcherlaw15_Great_L0 = true := by kernel_rfl
noncomputable def dispatcherlaw15_Great_R1_F (z : At) (K : Exit → Sl → World → Prop) (ρ : Sl) (w : World) : Prop :=
  K .ret (up ρ 2 (Value.bool false)) w
theorem dispatcherlaw15_Great_R1_eq (z : At) (K : Exit → Sl → World → Prop) (ρ : Sl) (w : World) : sx z Tryd.prog 29 dispatcherlaw15_Great_R1 K ρ w = dispatcherlaw15_Great_R1_F z K ρ w := by kernel_rfl
noncomputable def dispatcherlaw15_Great_F (a0 : Value) (w : World) (R : Value → World → Prop) : Prop :=
  IK Tryd.prog .len #[22] 3 [false] [a0] w fun x5 w => BK Tryd.prog .gtr 3 (.tmp 5) (.const (Value.int .i64 80)) x5 (Value.int .i64 80) w fun x6 w => CondK x6 (R (Value.bool true) w) (W fn_ Tryd.prog 29 (Code.loop dispatcherlaw15_Great_L0) (blkK 0 (seqK (sx fn_ Tryd.prog 29 dispatcherlaw15_Great_R1 (retK Tryd.prog [ResultVar.tmp 2] R)) (retK Tryd.prog [ResultVar.tmp 2] R))) (up (up (up (up (up (rho0 [a0]) 2 (Value.bool false)) 4 a0) 5 x5) 6 x6) 3 (Value.int .i64 0)) w)
theorem dispatcherlaw15_Great_eq (a0 : Value) (w : World) (R : Value → World → Prop) : sx fn_ Tryd.prog 29 dispatcherlaw15_Great_b (retK Tryd.prog Tryd.f10.results.toList R) (rho0 [a0]) w = dispatcherlaw15_Great_F a0 w R := by kernel_rfl
theorem dispatcherlaw15_Great_calls {a0 : Value} {w : World} {R : Value → World → Prop} (h : dispatcherlaw15_Great_F a0 w R) : Calls Tryd.prog 10 #[a0] w fun e w' => ∃ v, e = .returned v ∧ R v w' :=
  Go.X.calls_of_sx (n := 29) (c := dispatcherlaw15_Great_b) Tryd.func10 (by kernel_rfl) (by kernel_rfl) (Nat.le_of_ble_eq_true rfl) (by kernel_rfl) (Eq.mpr (dispatcherlaw15_Great_eq a0 w R) h)
noncomputable def dispatcherref15_Same_b : Code := (Tryd.f28.body).getD .skip
noncomputable def dispatcherref15_Same_R0 : Code := cAt [1, 0, 1] dispatcherref15_Same_b
noncomputable def dispatcherref15_Same_R1 : Code := cAt [1, 1] dispatcherref15_Same_b
noncomputable def dispatcherref15_Same_L2 : Code := cAt [1, 1, 0, 1, 0, 0] dispatcherref15_Same_b
noncomputable def dispatcherref15_Same_R3 : Code := cAt [1, 1, 1] dispatcherref15_Same_b
noncomputable def dispatcherref15_Same_R4 : Code := cAt [1, 1, 0, 1, 0, 0, 1, 0, 0, 0] dispatcherref15_Same_b
noncomputable def dispatcherref15_Same_R5 : Code := cAt [1, 1, 0, 1, 0, 0, 1, 0, 0, 1] dispatcherref15_Same_b
noncomputable def dispatcherref15_Same_R6 : Code := cAt [1, 1, 0, 1, 0, 0, 1, 1] dispatcherref15_Same_b
noncomputable def dispatcherref15_Same_R0_F (z : At) (K : Exit → Sl → World → Prop) (ρ : Sl) (w : World) : Prop :=
  CondK (ρ 34) (K .ret (up ρ 4 (Value.bool false)) w) (K .normal ρ w)
theorem dispatcherref15_Same_R0_eq (z : At) (K : Exit → Sl → World → Prop) (ρ : Sl) (w : World) : sx z Tryd.prog 53 dispatcherref15_Same_R0 K ρ w = dispatcherref15_Same_R0_F z K ρ w := by kernel_rfl
noncomputable def dispatcherref15_Same_R1_F (z : At) (K : Exit → Sl → World → Prop) (ρ : Sl) (w : World) : Prop :=
  W z Tryd.prog 53 (Code.loop dispatcherref15_Same_L2) (blkK 0 (seqK (sx z Tryd.prog 53 dispatcherref15_Same_R3 K) K)) (up ρ 5 (Value.int .i64 0)) w
theorem dispatcherref15_Same_R1_eq (z : At) (K : Exit → Sl → World → Prop) (ρ : Sl) (w : World) : sx z Tryd.prog 53 dispatcherref15_Same_R1 K ρ w = dispatcherref15_Same_R1_F z K ρ w := by kernel_rfl
noncomputable def dispatcherref15_Same_L2_F (z : At) (K : Exit → Sl → World → Prop) (ρ : Sl) (w : World) : Prop :=
  VK Tryd.prog (Instr.fieldAt 57 (ρ 2) 1) w fun x36 w => VK Tryd.prog (Instr.loadAt 55 x36) w fun x37 w => IK Tryd.prog .len #[55] 3 [false] [x37] w fun x38 w => BK Tryd.prog .lss 3 (.tmp 35) (.tmp 38) (ρ 5) x38 w fun x39 w => CondK x39 (W z Tryd.prog 53 dispatcherref15_Same_R4 (seqK (sx z Tryd.prog 53 dispatcherref15_Same_R5 (blkK 1 (seqK (sx z Tryd.prog 53 dispatcherref15_Same_R6 K) K))) (blkK 1 (seqK (sx z Tryd.prog 53 dispatcherref15_Same_R6 K) K))) (up (up (up (up (up ρ 35 (ρ 5)) 36 x36) 37 x37) 38 x38) 39 x39) w) (K (.exit 0) (up (up (up (up (up ρ 35 (ρ 5)) 36 x36) 37 x37) 38 x38) 39 x39) w)
theorem dispatcherref15_Same_L2_eq (z : At) (K : Exit → Sl → World → Prop) (ρ : Sl) (w : World) : sx z Tryd.prog 53 dispatcherref15_Same_L2 K ρ w = dispatcherref15_Same_L2_F z K ρ w := by kernel_rfl
theorem dispatcherref15_Same_L2_ok : dstOk 53 dispatcherref15_Same_L2 = true := by kernel_rfl
noncomputable def dispatcherref15_Same_R3_F (z : At) (K : Exit → Sl → World → Prop) (ρ : Sl) (w : World) : Prop :=
  K .ret (up ρ 4 (Value.bool true)) w
theorem dispatcherref15_Same_R3_eq (z : At) (K : Exit → Sl → World → Prop) (ρ : Sl) (w : World) : sx z Tryd.prog 53 dispatcherref15_Same_R3 K ρ w = dispatcherref15_Same_R3_F z K ρ w := by kernel_rfl
noncomputable def dispatcherref15_Same_R4_ops : Array Oper := opsOf dispatcherref15_Same_R4
def dispatcherref15_Same_R4_Q (C : World → Prop) (K : Exit → Sl → World → Prop) (ρ : Sl) : Prop :=
  QK Tryd.prog C (do pure (Next.value (← Instr.fieldAt 57 (ρ 2) 1))) fun x42 => QK Tryd.prog C (do pure (Next.value (← Instr.loadAt 55 x42))) fun x43 => QK Tryd.prog C (do pure (Next.value (← Instr.indexAt 55 x43 (ρ 5)))) fun x45 => QK Tryd.prog C (do pure (Next.value (← Instr.loadAt 2 x45))) fun x46 => QK Tryd.prog C (do pure (Next.value (← Instr.fieldAt 57 (ρ 3) 1))) fun x47 => QK Tryd.prog C (do pure (Next.value (← Instr.loadAt 55 x47))) fun x48 => QK Tryd.prog C (do pure (Next.value (← Instr.indexAt 55 x48 (ρ 5)))) fun x50 => QK Tryd.prog C (do pure (Next.value (← Instr.loadAt 2 x50))) fun x51 => QK Tryd.prog C (do pure (Next.value (← (do eqGuard BinOp.neq 2 (Operand.tmp 46) (Operand.tmp 51) x46 x51; binOp BinOp.neq 2 x46 x51)))) fun x52 => ∀ w', C w' → K Exit.normal (up (up (up (up (up (up (up (up (up (up (up ρ 42 x42) 43 x43) 44 (ρ 5)) 45 x45) 46 x46) 47 x47) 48 x48) 49 (ρ 5)) 50 x50) 51 x51) 52 x52) w'
theorem dispatcherref15_Same_R4_quiet {D : List Deferred} (C : World → Prop) {K : Exit → Sl → World → Prop} {ρ : Sl} {w : World} (hC : C { w with drawn := w.drawn + 1 }) (h : dispatcherref15_Same_R4_Q C K ρ) : W ⟨none, D⟩ Tryd.prog 53 dispatcherref15_Same_R4 K ρ w := by
  have e : dispatcherref15_Same_R4 = .region (idOf dispatcherref15_Same_R4) dispatcherref15_Same_R4_ops true := by kernel_rfl
  have q : sxq Tryd.prog C dispatcherref15_Same_R4_ops (fun ρ' => ∀ w', C w' → K .normal ρ' w') dispatcherref15_Same_R4_ops.toList ρ = dispatcherref15_Same_R4_Q C K ρ := by kernel_rfl
  rw [e]
  exact W_quiet C (by kernel_rfl) (by kernel_rfl) (by kernel_rfl) hC (Eq.mpr q h)
noncomputable def dispatcherref15_Same_R5_F (z : At) (K : Exit → Sl → World → Prop) (ρ : Sl) (w : World) : Prop :=
  CondK (ρ 52) (K .ret (up ρ 4 (Value.bool false)) w) (K .normal ρ w)
theorem dispatcherref15_Same_R5_eq (z : At) (K : Exit → Sl → World → Prop) (ρ : Sl) (w : World) : sx z Tryd.prog 53 dispatcherref15_Same_R5 K ρ w = dispatcherref15_Same_R5_F z K ρ w := by kernel_rfl
noncomputable def dispatcherref15_Same_R6_F (z : At) (K : Exit → Sl → World → Prop) (ρ : Sl) (w : World) : Prop :=
  BK Tryd.prog .add 3 (.tmp 40) (.const (Value.int .i64 1)) (ρ 5) (Value.int .i64 1) w fun x41 w => K .normal (up (up (up ρ 40 (ρ 5)) 41 x41) 5 x41) w
theorem dispatcherref15_Same_R6_eq (z : At) (K : Exit → Sl → World → Prop) (ρ : Sl) (w : World) : sx z Tryd.prog 53 dispatcherref15_Same_R6 K ρ w = dispatcherref15_Same_R6_F z K ρ w := by kernel_rfl
noncomputable def dispatcherref15_Same_F (a0 a1 : Value) (w : World) (R : Value → World → Prop) : Prop :=
  VK Tryd.prog (Instr.box 57 a0) w fun x2 w => VK Tryd.prog (Instr.box 57 a1) w fun x3 w => VK Tryd.prog (Instr.fieldAt 57 x2 0) w fun x6 w => VK Tryd.prog (Instr.loadAt 2 x6) w fun x7 w => VK Tryd.prog (Instr.fieldAt 57 x3 0) w fun x8 w => VK Tryd.prog (Instr.loadAt 2 x8) w fun x9 w => BK Tryd.prog .neq 2 (.tmp 7) (.tmp 9) x7 x9 w fun x10 w => VG Tryd.prog x10 false (Instr.fieldAt 57 x2 3) w fun x12 w => VG Tryd.prog x10 false (Instr.loadAt 4 x12) w fun x13 w => VG Tryd.prog x10 false (Instr.fieldAt 57 x3 3) w fun x14 w => VG Tryd.prog x10 false (Instr.loadAt 4 x14) w fun x15 w => BG Tryd.prog x10 false .neq 4 (.tmp 13) (.tmp 15) x13 x15 w fun x16 w => PK Tryd.prog x10 (Value.bool true) x16 w fun x17 w => VG Tryd.prog x17 false (Instr.fieldAt 57 x2 2) w fun x19 w => VG Tryd.prog x17 false (Instr.loadAt 32 x19) w fun x20 w => VG Tryd.prog x17 false (Instr.fieldAt 57 x3 2) w fun x21 w => VG Tryd.prog x17 false (Instr.loadAt 32 x21) w fun x22 w => CG Tryd.prog x17 false (Value.func (Fn.func 42) #[] #[]) [x20, x22] w fun x23 w => VG Tryd.prog x17 false (Op.unary UnOp.not x23) w fun x24 w => PK Tryd.prog x17 (Value.bool true) x24 w fun x25 w => VG Tryd.prog x25 false (Instr.fieldAt 57 x2 1) w fun x27 w => VG Tryd.prog x25 false (Instr.loadAt 55 x27) w fun x28 w => IG Tryd.prog x25 false .len #[55] 3 [false] [x28] w fun x29 w => VG Tryd.prog x25 false (Instr.fieldAt 57 x3 1) w fun x30 w => VG Tryd.prog x25 false (Instr.loadAt 55 x30) w fun x31 w => IG Tryd.prog x25 false .len #[55] 3 [false] [x31] w fun x32 w => BG Tryd.prog x25 false .neq 3 (.tmp 29) (.tmp 32) x29 x32 w fun x33 w => PK Tryd.prog x25 (Value.bool true) x33 w fun x34 w => sx fn_ Tryd.prog 53 dispatcherref15_Same_R0 (seqK (sx fn_ Tryd.prog 53 dispatcherref15_Same_R1 (retK Tryd.prog [ResultVar.tmp 4] R)) (retK Tryd.prog [ResultVar.tmp 4] R)) (up (up (up (up (up (up (up (up (up (up (up (up (up (up (up (up (up (up (up (up (up (up (up (up (up (up (up (up (up (up (up (up (rho0 [a0, a1]) 2 x2) 3 x3) 4 (Value.bool false)) 6 x6) 7 x7) 8 x8) 9 x9) 10 x10) 11 x10) 12 x12) 13 x13) 14 x14) 15 x15) 16 x16) 17 x17) 18 x17) 19 x19) 20 x20) 21 x21) 22 x22) 23 x23) 24 x24) 25 x25) 26 x25) 27 x27) 28 x28) 29 x29) 30 x30) 31 x31) 32 x32) 33 x33) 34 x34) w
theorem dispatcherref15_Same_eq (a0 a1 : Value) (w : World) (R : Value → World → Prop) : sx fn_ Tryd.prog 53 dispatcherref15_Same_b (retK Tryd.prog Tryd.f28.results.toList R) (rho0 [a0, a1]) w = dispatcherref15_Same_F a0 a1 w R := by kernel_rfl
theorem dispatcherref15_Same_calls {a0 a1 : Value} {w : World} {R : Value → World → Prop} (h : dispatcherref15_Same_F a0 a1 w R) : Calls Tryd.prog 28 #[a0, a1] w fun e w' => ∃ v, e = .returned v ∧ R v w' :=
  Go.X.calls_of_sx (n := 53) (c := dispatcherref15_Same_b) Tryd.func28 (by kernel_rfl) (by kernel_rfl) (Nat.le_of_ble_eq_true rfl) (by kernel_rfl) (Eq.mpr (dispatcherref15_Same_eq a0 a1 w R) h)
noncomputable def dispatcherlaw11_Great_b : Code := (Tryd.f33.body).getD .skip
noncomputable def dispatcherlaw11_Great_F (a0 : Value) (w : World) (R : Value → World → Prop) : Prop :=
  VK Tryd.prog (Instr.box 32 a0) w fun x1 w => VK Tryd.prog (Instr.fieldAt 32 x1 1) w fun x3 w => VK Tryd.prog (Instr.loadAt 30 x3) w fun x4 w => IK Tryd.prog .len #[30] 3 [false] [x4] w fun x5 w => BK Tryd.prog .gtr 3 (.tmp 5) (.const (Value.int .i64 80)) x5 (Value.int .i64 80) w fun x6 w => VG Tryd.prog x6 false (Instr.fieldAt 32 x1 0) w fun x8 w => VG Tryd.prog x6 false (Instr.loadAt 9 x8) w fun x9 w => IG Tryd.prog x6 false .len #[9] 3 [false] [x9] w fun x10 w => BG Tryd.prog x6 false .gtr 3 (.tmp 10) (.const (Value.int .i64 200)) x10 (Value.int .i64 200) w fun x11 w => PK Tryd.prog x6 (Value.bool true) x11 w fun x12 w => R x12 w
theorem dispatcherlaw11_Great_eq (a0 : Value) (w : World) (R : Value → World → Prop) : sx fn_ Tryd.prog 13 dispatcherlaw11_Great_b (retK Tryd.prog Tryd.f33.results.toList R) (rho0 [a0]) w = dispatcherlaw11_Great_F a0 w R := by kernel_rfl
theorem dispatcherlaw11_Great_calls {a0 : Value} {w : World} {R : Value → World → Prop} (h : dispatcherlaw11_Great_F a0 w R) : Calls Tryd.prog 33 #[a0] w fun e w' => ∃ v, e = .returned v ∧ R v w' :=
  Go.X.calls_of_sx (n := 13) (c := dispatcherlaw11_Great_b) Tryd.func33 (by kernel_rfl) (by kernel_rfl) (Nat.le_of_ble_eq_true rfl) (by kernel_rfl) (Eq.mpr (dispatcherlaw11_Great_eq a0 w R) h)
noncomputable def dispatcherref11_Same_b : Code := (Tryd.f42.body).getD .skip
noncomputable def dispatcherref11_Same_F (a0 a1 : Value) (w : World) (R : Value → World → Prop) : Prop :=
  VK Tryd.prog (Instr.box 32 a0) w fun x2 w => VK Tryd.prog (Instr.box 32 a1) w fun x3 w => VK Tryd.prog (Instr.fieldAt 32 x2 0) w fun x5 w => VK Tryd.prog (Instr.loadAt 9 x5) w fun x6 w => VK Tryd.prog (Instr.fieldAt 32 x3 0) w fun x7 w => VK Tryd.prog (Instr.loadAt 9 x7) w fun x8 w => BK Tryd.prog .eql 9 (.tmp 6) (.tmp 8) x6 x8 w fun x9 w => VG Tryd.prog x9 true (Instr.fieldAt 32 x2 1) w fun x11 w => VG Tryd.prog x9 true (Instr.loadAt 30 x11) w fun x12 w => VG Tryd.prog x9 true (Instr.fieldAt 32 x3 1) w fun x13 w => VG Tryd.prog x9 true (Instr.loadAt 30 x13) w fun x14 w => CG Tryd.prog x9 true (Value.func (Fn.func 63) #[] #[]) [x12, x14] w fun x15 w => PK Tryd.prog x9 x15 (Value.bool false) w fun x16 w => R x16 w
theorem dispatcherref11_Same_eq (a0 a1 : Value) (w : World) (R : Value → World → Prop) : sx fn_ Tryd.prog 17 dispatcherref11_Same_b (retK Tryd.prog Tryd.f42.results.toList R) (rho0 [a0, a1]) w = dispatcherref11_Same_F a0 a1 w R := by kernel_rfl
theorem dispatcherref11_Same_calls {a0 a1 : Value} {w : World} {R : Value → World → Prop} (h : dispatcherref11_Same_F a0 a1 w R) : Calls Tryd.prog 42 #[a0, a1] w fun e w' => ∃ v, e = .returned v ∧ R v w' :=
  Go.X.calls_of_sx (n := 17) (c := dispatcherref11_Same_b) Tryd.func42 (by kernel_rfl) (by kernel_rfl) (Nat.le_of_ble_eq_true rfl) (by kernel_rfl) (Eq.mpr (dispatcherref11_Same_eq a0 a1 w R) h)
noncomputable def dispatcherref11_Ints_b : Code := (Tryd.f63.body).getD .skip
noncomputable def dispatcherref11_Ints_L0 : Code := cAt [1, 1, 0, 1, 0, 0] dispatcherref11_Ints_b
noncomputable def dispatcherref11_Ints_R1 : Code := cAt [1, 1, 1] dispatcherref11_Ints_b
noncomputable def dispatcherref11_Ints_R2 : Code := cAt [1, 1, 0, 1, 0, 0, 1, 0, 0, 0] dispatcherref11_Ints_b
noncomputable def dispatcherref11_Ints_R3 : Code := cAt [1, 1, 0, 1, 0, 0, 1, 0, 0, 1] dispatcherref11_Ints_b
noncomputable def dispatcherref11_Ints_R4 : Code := cAt [1, 1, 0, 1, 0, 0, 1, 1] dispatcherref11_Ints_b
noncomputable def dispatcherref11_Ints_L0_F (z : At) (K : Exit → Sl → World → Prop) (ρ : Sl) (w : World) : Prop :=
  IK Tryd.prog .len #[30] 3 [false] [(ρ 0)] w fun x13 w => BK Tryd.prog .lss 3 (.tmp 11) (.tmp 13) (ρ 5) x13 w fun x14 w => CondK x14 (W z Tryd.prog 26 dispatcherref11_Ints_R2 (seqK (sx z Tryd.prog 26 dispatcherref11_Ints_R3 (blkK 1 (seqK (sx z Tryd.prog 26 dispatcherref11_Ints_R4 K) K))) (blkK 1 (seqK (sx z Tryd.prog 26 dispatcherref11_Ints_R4 K) K))) (up (up (up (up ρ 11 (ρ 5)) 12 (ρ 0)) 13 x13) 14 x14) w) (K (.exit 0) (up (up (up (up ρ 11 (ρ 5)) 12 (ρ 0)) 13 x13) 14 x14) w)
theorem dispatcherref11_Ints_L0_eq (z : At) (K : Exit → Sl → World → Prop) (ρ : Sl) (w : World) : sx z Tryd.prog 26 dispatcherref11_Ints_L0 K ρ w = dispatcherref11_Ints_L0_F z K ρ w := by kernel_rfl
theorem dispatcherref11_Ints_L0_ok : dstOk 26 dispatcherref11_Ints_L0 = true := by kernel_rfl
noncomputable def dispatcherref11_Ints_R1_F (z : At) (K : Exit → Sl → World → Prop) (ρ : Sl) (w : World) : Prop :=
  K .ret (up ρ 4 (Value.bool true)) w
theorem dispatcherref11_Ints_R1_eq (z : At) (K : Exit → Sl → World → Prop) (ρ : Sl) (w : World) : sx z Tryd.prog 26 dispatcherref11_Ints_R1 K ρ w = dispatcherref11_Ints_R1_F z K ρ w := by kernel_rfl
noncomputable def dispatcherref11_Ints_R2_ops : Array Oper := opsOf dispatcherref11_Ints_R2
def dispatcherref11_Ints_R2_Q (C : World → Prop) (K : Exit → Sl → World → Prop) (ρ : Sl) : Prop :=
  QK Tryd.prog C (do pure (Next.value (← Instr.indexAt 30 (ρ 0) (ρ 5)))) fun x19 => QK Tryd.prog C (do pure (Next.value (← Instr.loadAt 3 x19))) fun x20 => QK Tryd.prog C (do pure (Next.value (← Instr.indexAt 30 (ρ 1) (ρ 5)))) fun x23 => QK Tryd.prog C (do pure (Next.value (← Instr.loadAt 3 x23))) fun x24 => QK Tryd.prog C (do pure (Next.value (← (do eqGuard BinOp.neq 3 (Operand.tmp 20) (Operand.tmp 24) x20 x24; binOp BinOp.neq 3 x20 x24)))) fun x25 => ∀ w', C w' → K Exit.normal (up (up (up (up (up (up (up (up (up ρ 17 (ρ 0)) 18 (ρ 5)) 19 x19) 20 x20) 21 (ρ 1)) 22 (ρ 5)) 23 x23) 24 x24) 25 x25) w'
theorem dispatcherref11_Ints_R2_quiet {D : List Deferred} (C : World → Prop) {K : Exit → Sl → World → Prop} {ρ : Sl} {w : World} (hC : C { w with drawn := w.drawn + 1 }) (h : dispatcherref11_Ints_R2_Q C K ρ) : W ⟨none, D⟩ Tryd.prog 26 dispatcherref11_Ints_R2 K ρ w := by
  have e : dispatcherref11_Ints_R2 = .region (idOf dispatcherref11_Ints_R2) dispatcherref11_Ints_R2_ops true := by kernel_rfl
  have q : sxq Tryd.prog C dispatcherref11_Ints_R2_ops (fun ρ' => ∀ w', C w' → K .normal ρ' w') dispatcherref11_Ints_R2_ops.toList ρ = dispatcherref11_Ints_R2_Q C K ρ := by kernel_rfl
  rw [e]
  exact W_quiet C (by kernel_rfl) (by kernel_rfl) (by kernel_rfl) hC (Eq.mpr q h)
noncomputable def dispatcherref11_Ints_R3_F (z : At) (K : Exit → Sl → World → Prop) (ρ : Sl) (w : World) : Prop :=
  CondK (ρ 25) (K .ret (up ρ 4 (Value.bool false)) w) (K .normal ρ w)
theorem dispatcherref11_Ints_R3_eq (z : At) (K : Exit → Sl → World → Prop) (ρ : Sl) (w : World) : sx z Tryd.prog 26 dispatcherref11_Ints_R3 K ρ w = dispatcherref11_Ints_R3_F z K ρ w := by kernel_rfl
noncomputable def dispatcherref11_Ints_R4_F (z : At) (K : Exit → Sl → World → Prop) (ρ : Sl) (w : World) : Prop :=
  BK Tryd.prog .add 3 (.tmp 15) (.const (Value.int .i64 1)) (ρ 5) (Value.int .i64 1) w fun x16 w => K .normal (up (up (up ρ 15 (ρ 5)) 16 x16) 5 x16) w
theorem dispatcherref11_Ints_R4_eq (z : At) (K : Exit → Sl → World → Prop) (ρ : Sl) (w : World) : sx z Tryd.prog 26 dispatcherref11_Ints_R4 K ρ w = dispatcherref11_Ints_R4_F z K ρ w := by kernel_rfl
noncomputable def dispatcherref11_Ints_F (a0 a1 : Value) (w : World) (R : Value → World → Prop) : Prop :=
  IK Tryd.prog .len #[30] 3 [false] [a0] w fun x7 w => IK Tryd.prog .len #[30] 3 [false] [a1] w fun x9 w => BK Tryd.prog .neq 3 (.tmp 7) (.tmp 9) x7 x9 w fun x10 w => CondK x10 (R (Value.bool false) w) (W fn_ Tryd.prog 26 (Code.loop dispatcherref11_Ints_L0) (blkK 0 (seqK (sx fn_ Tryd.prog 26 dispatcherref11_Ints_R1 (retK Tryd.prog [ResultVar.tmp 4] R)) (retK Tryd.prog [ResultVar.tmp 4] R))) (up (up (up (up (up (up (up (rho0 [a0, a1]) 4 (Value.bool false)) 6 a0) 7 x7) 8 a1) 9 x9) 10 x10) 5 (Value.int .i64 0)) w)
theorem dispatcherref11_Ints_eq (a0 a1 : Value) (w : World) (R : Value → World → Prop) : sx fn_ Tryd.prog 26 dispatcherref11_Ints_b (retK Tryd.prog Tryd.f63.results.toList R) (rho0 [a0, a1]) w = dispatcherref11_Ints_F a0 a1 w R := by kernel_rfl
theorem dispatcherref11_Ints_calls {a0 a1 : Value} {w : World} {R : Value → World → Prop} (h : dispatcherref11_Ints_F a0 a1 w R) : Calls Tryd.prog 63 #[a0, a1] w fun e w' => ∃ v, e = .returned v ∧ R v w' :=
  Go.X.calls_of_sx (n := 26) (c := dispatcherref11_Ints_b) Tryd.func63 (by kernel_rfl) (by kernel_rfl) (Nat.le_of_ble_eq_true rfl) (by kernel_rfl) (Eq.mpr (dispatcherref11_Ints_eq a0 a1 w R) h)
end Go.Proofs.YtandbmnhghmcgaaDoor.XG
set_option linter.unusedVariables false
set_option linter.unusedSimpArgs false
set_option maxRecDepth 8000
namespace Go.Proofs.YtandbmnhghmcgaaDoor.Col
open Go Go.X Go.RowKit Go.Proofs.YtandbmnhghmcgaaDoor.XF Go.Proofs.YtandbmnhghmcgaaDoor.XG Go.Proofs.YtandbmnhghmcgaaDoor.XK
section
variable {w : World}
theorem Ints_ok {v u : Value} {a b : List Int} (ha : RR w v a) (hb : RR w u b) (hl : a.length ≤ 1000000) : Rt Tryd.prog 63 #[v, u] w fun x w' => x = .bool (decide (a = b)) ∧ Mod none_ w w' := by
  refine dispatcherref11_Ints_calls ?_
  unfold dispatcherref11_Ints_F
  obtain ⟨A, c, es, _⟩ := reads_cap ha
  obtain ⟨A2, c2, es2, _⟩ := reads_cap hb
  rw [es, len_sl vIs, ← es, es2, len_sl vIs, ← es2, BK_neq]
  by_cases hlen : a.length = b.length
  · rw [show ((a.length : Int) != (b.length : Int)) = false by rw [hlen]; simp]
    refine condF ?_
    refine W_loop dispatcherref11_Ints_L0_ok (fun ρ w' => ∃ i : Nat, i ≤ a.length ∧ ρ 5 = .int .i64 i ∧ ρ 0 = v ∧ ρ 1 = u ∧ a.take i = b.take i ∧ Mod none_ w w') (fun ρ _ => a.length - (intOf (ρ 5)).toNat)
      ⟨0, Nat.zero_le _, rfl, rfl, rfl, by simp, Mod.refl _ _⟩ ?_
    rintro ρ w1 ⟨i, hi, e5, e0, e1, heq, hm⟩
    rw [dispatcherref11_Ints_L0_eq]; unfold dispatcherref11_Ints_L0_F
    rw [e5, e0, es, len_sl vIs, ← es, BK_lss]
    by_cases hlt : i < a.length
    · rw [decide_eq_true (by omega)]
      refine condT ?_
      have hx : a[i]? = some a[i] := List.getElem?_eq_getElem hlt
      have hy : b[i]? = some b[i] := List.getElem?_eq_getElem (by omega)
      have ta : a.take (i + 1) = a.take i ++ [a[i]] := by rw [List.take_add_one, hx]; rfl
      have tb : b.take (i + 1) = b.take i ++ [b[i]] := by rw [List.take_add_one, hy]; rfl
      generalize a[i] = x at *
      generalize b[i] = y at *
      obtain ⟨p1, r1, l1⟩ := ixR ha hx
      obtain ⟨p2, r2, l2⟩ := ixR hb hy
      refine dispatcherref11_Ints_R2_quiet (D := []) (fun w' => Mod none_ w w') (hm.trans ((Mod.refl _ w1).drawn _)) ?_
      unfold dispatcherref11_Ints_R2_Q
      simp only [sq_n, sq_x, sq_r, bk_n, bk_r, bk_x, rt_r, rt_n, rs_0, rs_t, pk_1, pk_2, up_at, reduceIte, Nat.reduceEqDiff, e0, e1, e5]
      refine QV_of (fun w' _ => r1 w') (QV_of (fun w' hw => l1 w' hw) (QV_of (fun w' _ => r2 w') (QV_of (fun w' hw => l2 w' hw) ?_)))
      refine Qneq ?_
      intro w' hw
      try rw [sq_n]
      rw [dispatcherref11_Ints_R3_eq]; unfold dispatcherref11_Ints_R3_F
      simp only [sq_n, sq_x, sq_r, bk_n, bk_r, bk_x, rt_r, rt_n, rs_0, rs_t, pk_1, pk_2, up_at, reduceIte, Nat.reduceEqDiff]
      refine caseC (fun q => ?_) (fun q => ?_)
      · refine ⟨?_, hw⟩
        have hne : a ≠ b := fun z => by
          rw [z, hy] at hx
          have : x ≠ y := by simpa using q
          exact this (Option.some.inj hx).symm
        rw [decide_eq_false hne]
        try rfl
      · have hxy : x = y := by simpa using q
        try rw [bk_n, sq_n]
        rw [dispatcherref11_Ints_R4_eq]; unfold dispatcherref11_Ints_R4_F
        simp only [sq_n, sq_x, sq_r, bk_n, bk_r, bk_x, rt_r, rt_n, rs_0, rs_t, pk_1, pk_2, up_at, reduceIte, Nat.reduceEqDiff, e5]
        rw [BK_add, wrap_i (by omega) (by omega)]
        refine ⟨⟨i + 1, hlt, rfl, e0, e1, by rw [ta, tb, heq, hxy], hw⟩, ?_⟩
        simp only [sq_n, sq_x, sq_r, bk_n, bk_r, bk_x, rt_r, rt_n, rs_0, rs_t, pk_1, pk_2, up_at, reduceIte, Nat.reduceEqDiff, intOf]; omega
    · obtain rfl : i = a.length := by omega
      rw [decide_eq_false (by omega)]
      refine condF ?_
      rw [sq_x, bk_x, sq_n, dispatcherref11_Ints_R1_eq]; unfold dispatcherref11_Ints_R1_F
      refine ⟨?_, hm⟩
      rw [List.take_length, hlen, List.take_length] at heq
      rw [decide_eq_true heq]; rfl
  · rw [show ((a.length : Int) != (b.length : Int)) = true by rw [bne_iff_ne]; omega]
    refine condT ⟨?_, Mod.refl _ _⟩
    rw [decide_eq_false fun z => hlen (by rw [z])]
theorem SameD_ok {k1 k2 : Ky} {v u : Value} {a b : List Int} (ha : RR w v a) (hb : RR w u b) (hl : a.length ≤ 1000000) : Rt Tryd.prog 42 #[grpV k1 v, grpV k2 u] w fun x w' => x = .bool (decide (k1 = k2) && decide (a = b)) ∧ Mod none_ w w' := by
  refine dispatcherref11_Same_calls ?_
  unfold dispatcherref11_Same_F
  refine box_k (cs := #[strV k1, v]) rfl fun w1 hb1 hm1 hz1 => ?_
  refine box_k (cs := #[strV k2, u]) rfl fun w2 hb2 hm2 hz2 => ?_
  have hb1' := hm2.blk hb1 id
  have hm := hm1.trans hm2
  simp only [↓(fG0 hb1').e, ↓(fG0 hb2).e]
  by_cases hk : k1 = k2
  · unfold strV
    rw [SEQt (by rw [hk])]
    simp only [↓VG_u, ↓UG_u, ↓MG_u, ↓NG_u, ↓PG_u, ↓BG_u, ↓CG_u, ↓IG_u, ↓VGtt, ↓VGtf, ↓VGft, ↓VGff, ↓UGtt, ↓UGtf, ↓UGft, ↓UGff, ↓MGtt, ↓MGtf, ↓MGft, ↓MGff, ↓NGtt, ↓NGtf, ↓NGft, ↓NGff, ↓PGtt, ↓PGtf, ↓PGft, ↓PGff, ↓BGtt, ↓BGtf, ↓BGft, ↓BGff, ↓CGtt, ↓CGtf, ↓CGft, ↓CGff, ↓IGtt, ↓IGtf, ↓IGft, ↓IGff, ↓PKt, ↓PKf, ↓CDt, ↓CDf, ↓NOTt, ↓NOTf, ↓NK_ptr, ↓(fG1 hb1').e, ↓(fG1 hb2).e]
    refine CK_st Tryd.func63 rfl rfl (Ints_ok (ha.calm hm) (hb.calm hm) hl) ?_
    rintro _ w3 ⟨rfl, hm3⟩
    rw [decide_eq_true hk, Bool.true_and]
    exact ⟨rfl, hm.trans hm3⟩
  · unfold strV
    rw [SEQf (fun q => hk (by simpa using congrArg (fun b : ByteArray => b.data.toList) q))]
    simp only [↓VG_u, ↓UG_u, ↓MG_u, ↓NG_u, ↓PG_u, ↓BG_u, ↓CG_u, ↓IG_u, ↓VGtt, ↓VGtf, ↓VGft, ↓VGff, ↓UGtt, ↓UGtf, ↓UGft, ↓UGff, ↓MGtt, ↓MGtf, ↓MGft, ↓MGff, ↓NGtt, ↓NGtf, ↓NGft, ↓NGff, ↓PGtt, ↓PGtf, ↓PGft, ↓PGff, ↓BGtt, ↓BGtf, ↓BGft, ↓BGff, ↓CGtt, ↓CGtf, ↓CGft, ↓CGff, ↓IGtt, ↓IGtf, ↓IGft, ↓IGff, ↓PKt, ↓PKf, ↓CDt, ↓CDf, ↓NOTt, ↓NOTf, ↓NK_ptr]
    rw [decide_eq_false hk, Bool.false_and]
    exact ⟨rfl, hm⟩
end
end Go.Proofs.YtandbmnhghmcgaaDoor.Col
set_option linter.unusedVariables false
set_option linter.unusedSimpArgs false
set_option maxRecDepth 8000
namespace Go.Proofs.YtandbmnhghmcgaaDoor.Col
open Go Go.X Go.RowKit Go.Proofs.YtandbmnhghmcgaaDoor.XF Go.Proofs.YtandbmnhghmcgaaDoor.XG Go.Proofs.YtandbmnhghmcgaaDoor.XI Go.Proofs.YtandbmnhghmcgaaDoor.XK
def TdR (w : World) (v : Value) (t : Td) : Prop := ∃ row rks, v = .agg (tdCells t row rks) ∧ RR w row t.row ∧ RR w rks t.ranks
section
variable {w : World} {p : Nat} {loose : Bool} {L : List Br} {V : CV}
theorem TdAt.R {B : Nat} {v : Value} {t : Td} (h : TdAt w B v t) : TdR w v t := by
  obtain ⟨row, rks, rfl, h1, h2⟩ := h
  exact ⟨row, rks, rfl, reads_of_owns h1, reads_of_owns h2⟩
theorem TdR.calm {w' : World} {v : Value} {t : Td} (h : TdR w v t) (hm : Mod none_ w w') : TdR w' v t := by
  obtain ⟨row, rks, rfl, h1, h2⟩ := h
  exact ⟨row, rks, rfl, h1.calm hm, h2.calm hm⟩
theorem fT0 {b : Nat} {t : Td} {row rks : Value} (h : w.heap[b]? = some (.cells (tdCells t row rks) tTd (0, 0))) : FO Tryd.prog w tTd 0 0 ⟨b, 0, none⟩ tL (.int .i64 t.val) := FO.blk h (by kernel_rfl) vL rfl rfl
theorem fT1 {b : Nat} {t : Td} {row rks : Value} (h : w.heap[b]? = some (.cells (tdCells t row rks) tTd (0, 0))) : FO Tryd.prog w tTd 1 1 ⟨b, 0, none⟩ tLs row := FO.blk h (by kernel_rfl) vLs rfl rfl
theorem fT3 {b : Nat} {t : Td} {row rks : Value} (h : w.heap[b]? = some (.cells (tdCells t row rks) tTd (0, 0))) : FO Tryd.prog w tTd 3 4 ⟨b, 0, none⟩ 4 (.bool t.has) := FO.blk h (by kernel_rfl) vB rfl rfl
theorem fT2 {b : Nat} {t : Td} {row rks : Value} (h : w.heap[b]? = some (.cells (tdCells t row rks) tTd (0, 0))) : FO Tryd.prog w tTd 2 2 ⟨b, 0, none⟩ tG (grpV t.gkey rks) := ⟨by kernel_rfl, fun K => by
  refine VK_eq_of (run_ldA (cs := [strV t.gkey, rks]) Tryd.underlying32 rfl (by kernel_rfl) fun j v hj => ?_)
  rw [add_pl, Nat.zero_add, add_pl, cell_blk h]
  match j, hj with
  | 0, hj => simpa [tdCells] using hj
  | 1, hj => simpa [tdCells] using hj
  | n + 2, hj => simp at hj⟩
theorem ixRL {v : Value} {l : List Int} {i : Nat} {m : Int} (h : RR w v l) (hi : l[i]? = some m) : ∃ a, (∀ w', (Instr.indexAt tLs v (.int .i64 (i : Int))).run Tryd.prog w' = .ok (.pointer (some a)) w') ∧ ∀ w', Mod none_ w w' → (Instr.loadAt tL (.pointer (some a))).run Tryd.prog w' = .ok (.int .i64 m) w' := by
  have hil := (List.getElem?_eq_some_iff.1 hi).1
  obtain ⟨_, A, c, es, hnc, hr⟩ := id h
  obtain ⟨a, ha, _⟩ := hr i _ (ints_get hi)
  subst es ha
  refine ⟨a.add i, fun w' => ?_, fun w' hw => ?_⟩
  · rw [run_ixa (sz := 0) vLs (by kernel_rfl) (by omega) (by omega) w']
    congr 4
    omega
  · obtain ⟨_, A, c, es, _, hc⟩ := h.calm hw
    cases es
    obtain ⟨b, hb, hcell⟩ := hc i _ (ints_get hi)
    cases hb
    exact run_ld1 vL rfl hcell
def sameTd (a b : Td) : Bool := decide (a.val = b.val) && (decide (a.has = b.has) && ((decide (a.gkey = b.gkey) && decide (a.ranks = b.ranks)) && decide (a.row = b.row)))
theorem sameTd_iff {a b : Td} : sameTd a b = true ↔ a = b := by
  cases a; cases b
  simp only [sameTd, Bool.and_eq_true, decide_eq_true_eq, Td.mk.injEq]
  constructor
  · rintro ⟨h1, h2, ⟨h3, h4⟩, h5⟩; exact ⟨h1, h5, h3, h4, h2⟩
  · rintro ⟨h1, h5, h3, h4, h2⟩; exact ⟨h1, h2, ⟨h3, h4⟩, h5⟩
theorem Same_loop {w0 : World} {ρ : Sl} {b2 b3 : Nat} {a b : Td} {ra ka rb kb : Value} (h2 : w.heap[b2]? = some (.cells (tdCells a ra ka) tTd (0, 0))) (h3 : w.heap[b3]? = some (.cells (tdCells b rb kb) tTd (0, 0))) (ha : RR w ra a.row) (hb : RR w rb b.row) (hlen : a.row.length = b.row.length) (hl : a.row.length ≤ 1000000) (hm0 : Mod none_ w0 w)
    (q2 : ρ 2 = .pointer (some ⟨b2, 0, none⟩)) (q3 : ρ 3 = .pointer (some ⟨b3, 0, none⟩)) : sx fn_ Tryd.prog 53 dispatcherref15_Same_R1 (retK Tryd.prog [ResultVar.tmp 4] fun x w' => x = .bool (decide (a.row = b.row)) ∧ Mod none_ w0 w') ρ w := by
  rw [dispatcherref15_Same_R1_eq]; unfold dispatcherref15_Same_R1_F
  refine W_loop dispatcherref15_Same_L2_ok (fun ρ w' => ∃ i : Nat, i ≤ a.row.length ∧ ρ 5 = .int .i64 i ∧ ρ 2 = .pointer (some ⟨b2, 0, none⟩) ∧ ρ 3 = .pointer (some ⟨b3, 0, none⟩) ∧ a.row.take i = b.row.take i ∧ Mod none_ w w') (fun ρ _ => a.row.length - (intOf (ρ 5)).toNat)
    ⟨0, Nat.zero_le _, rfl, q2, q3, by simp, Mod.refl _ _⟩ ?_
  rintro ρ w1 ⟨i, hi, e5, e2, e3, heq, hm⟩
  rw [dispatcherref15_Same_L2_eq]; unfold dispatcherref15_Same_L2_F
  obtain ⟨A, c, es, _⟩ := reads_cap ha
  rw [e5, e2]
  simp only [↓(fT1 (hm.blk h2 id)).e]
  rw [es, len_sl vLs, BK_lss]
  by_cases hlt : i < a.row.length
  · rw [decide_eq_true (by omega)]
    refine condT ?_
    have hx : a.row[i]? = some a.row[i] := List.getElem?_eq_getElem hlt
    have hy : b.row[i]? = some b.row[i] := List.getElem?_eq_getElem (by omega)
    have ta : a.row.take (i + 1) = a.row.take i ++ [a.row[i]] := by rw [List.take_add_one, hx]; rfl
    have tb : b.row.take (i + 1) = b.row.take i ++ [b.row[i]] := by rw [List.take_add_one, hy]; rfl
    generalize a.row[i] = x at *
    generalize b.row[i] = y at *
    obtain ⟨p1, r1, l1⟩ := ixRL ha hx
    obtain ⟨p2, r2, l2⟩ := ixRL hb hy
    refine dispatcherref15_Same_R4_quiet (D := []) (fun w' => Mod none_ w w') (hm.trans ((Mod.refl _ w1).drawn _)) ?_
    unfold dispatcherref15_Same_R4_Q
    simp only [sq_n, sq_x, sq_r, bk_n, bk_r, bk_x, rt_r, rt_n, rs_0, rs_t, pk_1, pk_2, up_at, reduceIte, Nat.reduceEqDiff, e2, e3, e5]
    refine QV_of (v := .pointer (some ⟨b2, 1, none⟩)) (fun w' _ => by rw [run_fo (show fieldOff Tryd.prog tTd 1 = some 1 by kernel_rfl), add_pl]) (QV_of (v := ra) (fun w' hw => run_ld1 vLs rfl (by rw [cell_blk (hw.blk h2 id)]; rfl)) (QV_of (fun w' _ => r1 w') (QV_of (fun w' hw => l1 w' hw) ?_)))
    refine QV_of (v := .pointer (some ⟨b3, 1, none⟩)) (fun w' _ => by rw [run_fo (show fieldOff Tryd.prog tTd 1 = some 1 by kernel_rfl), add_pl]) (QV_of (v := rb) (fun w' hw => run_ld1 vLs rfl (by rw [cell_blk (hw.blk h3 id)]; rfl)) (QV_of (fun w' _ => r2 w') (QV_of (fun w' hw => l2 w' hw) ?_)))
    refine Qneq ?_
    intro w' hw
    try rw [sq_n]
    rw [dispatcherref15_Same_R5_eq]; unfold dispatcherref15_Same_R5_F
    simp only [sq_n, sq_x, sq_r, bk_n, bk_r, bk_x, rt_r, rt_n, rs_0, rs_t, pk_1, pk_2, up_at, reduceIte, Nat.reduceEqDiff]
    refine caseC (fun q => ?_) (fun q => ?_)
    · refine ⟨?_, hm0.trans hw⟩
      have hne : a.row ≠ b.row := fun z => by
        rw [z, hy] at hx
        have : x ≠ y := by simpa using q
        exact this (Option.some.inj hx).symm
      rw [decide_eq_false hne]
      try rfl
    · have hxy : x = y := by simpa using q
      try rw [bk_n, sq_n]
      rw [dispatcherref15_Same_R6_eq]; unfold dispatcherref15_Same_R6_F
      simp only [sq_n, sq_x, sq_r, bk_n, bk_r, bk_x, rt_r, rt_n, rs_0, rs_t, pk_1, pk_2, up_at, reduceIte, Nat.reduceEqDiff, e5]
      rw [BK_add, wrap_i (by omega) (by omega)]
      refine ⟨⟨i + 1, hlt, rfl, e2, e3, by rw [ta, tb, heq, hxy], hw⟩, ?_⟩
      simp only [sq_n, sq_x, sq_r, bk_n, bk_r, bk_x, rt_r, rt_n, rs_0, rs_t, pk_1, pk_2, up_at, reduceIte, Nat.reduceEqDiff, intOf]; omega
  · obtain rfl : i = a.row.length := by omega
    rw [decide_eq_false (by omega)]
    refine condF ?_
    rw [sq_x, bk_x, sq_n, dispatcherref15_Same_R3_eq]; unfold dispatcherref15_Same_R3_F
    refine ⟨?_, hm0.trans hm⟩
    rw [List.take_length, hlen, List.take_length] at heq
    rw [decide_eq_true heq]; rfl
theorem Same15_ok {v u : Value} {a b : Td} (ha : TdR w v a) (hb : TdR w u b) (hl : a.row.length ≤ 1000000) (hl2 : a.ranks.length ≤ 1000000) : Rt Tryd.prog 28 #[v, u] w fun x w' => x = .bool (sameTd a b) ∧ Mod none_ w w' := by
  obtain ⟨ra, ka, rfl, ha1, ha2⟩ := ha
  obtain ⟨rb, kb, rfl, hb1, hb2⟩ := hb
  refine dispatcherref15_Same_calls ?_
  unfold dispatcherref15_Same_F
  refine box_k (cs := tdCells a ra ka) rfl fun w1 h1 hm1 hz1 => ?_
  refine box_k (cs := tdCells b rb kb) rfl fun w2 h2 hm2 hz2 => ?_
  have h12 := hm2.blk h1 id
  have hm := hm1.trans hm2
  simp only [↓(fT0 h12).e, ↓(fT0 h2).e]
  unfold sameTd
  by_cases c1 : a.val = b.val
  case neg =>
    rw [decide_eq_false c1]
    simp only [↓VG_u, ↓UG_u, ↓MG_u, ↓NG_u, ↓PG_u, ↓BG_u, ↓CG_u, ↓IG_u, ↓VGtt, ↓VGtf, ↓VGft, ↓VGff, ↓UGtt, ↓UGtf, ↓UGft, ↓UGff, ↓MGtt, ↓MGtf, ↓MGft, ↓MGff, ↓NGtt, ↓NGtf, ↓NGft, ↓NGff, ↓PGtt, ↓PGtf, ↓PGft, ↓PGff, ↓BGtt, ↓BGtf, ↓BGft, ↓BGff, ↓CGtt, ↓CGtf, ↓CGft, ↓CGff, ↓IGtt, ↓IGtf, ↓IGft, ↓IGff, ↓PKt, ↓PKf, ↓CDt, ↓CDf, ↓NOTt, ↓NOTf, ↓NK_ptr, ↓NEt c1, dispatcherref15_Same_R0_eq, dispatcherref15_Same_R0_F, sq_n, sq_x, sq_r, bk_n, bk_r, bk_x, rt_r, rt_n, rs_0, rs_t, pk_1, pk_2, up_at, reduceIte, Nat.reduceEqDiff]
    exact ⟨rfl, hm⟩
  rw [decide_eq_true c1]
  simp only [↓VG_u, ↓UG_u, ↓MG_u, ↓NG_u, ↓PG_u, ↓BG_u, ↓CG_u, ↓IG_u, ↓VGtt, ↓VGtf, ↓VGft, ↓VGff, ↓UGtt, ↓UGtf, ↓UGft, ↓UGff, ↓MGtt, ↓MGtf, ↓MGft, ↓MGff, ↓NGtt, ↓NGtf, ↓NGft, ↓NGff, ↓PGtt, ↓PGtf, ↓PGft, ↓PGff, ↓BGtt, ↓BGtf, ↓BGft, ↓BGff, ↓CGtt, ↓CGtf, ↓CGft, ↓CGff, ↓IGtt, ↓IGtf, ↓IGft, ↓IGff, ↓PKt, ↓PKf, ↓CDt, ↓CDf, ↓NOTt, ↓NOTf, ↓NK_ptr, ↓NEf c1, ↓(fT3 h12).e, ↓(fT3 h2).e]
  rw [BK_neqB vB]
  by_cases c2 : a.has = b.has
  case neg =>
    rw [show (!(a.has == b.has)) = true from by simpa using c2, decide_eq_false c2]
    simp only [↓VG_u, ↓UG_u, ↓MG_u, ↓NG_u, ↓PG_u, ↓BG_u, ↓CG_u, ↓IG_u, ↓VGtt, ↓VGtf, ↓VGft, ↓VGff, ↓UGtt, ↓UGtf, ↓UGft, ↓UGff, ↓MGtt, ↓MGtf, ↓MGft, ↓MGff, ↓NGtt, ↓NGtf, ↓NGft, ↓NGff, ↓PGtt, ↓PGtf, ↓PGft, ↓PGff, ↓BGtt, ↓BGtf, ↓BGft, ↓BGff, ↓CGtt, ↓CGtf, ↓CGft, ↓CGff, ↓IGtt, ↓IGtf, ↓IGft, ↓IGff, ↓PKt, ↓PKf, ↓CDt, ↓CDf, ↓NOTt, ↓NOTf, ↓NK_ptr, dispatcherref15_Same_R0_eq, dispatcherref15_Same_R0_F, sq_n, sq_x, sq_r, bk_n, bk_r, bk_x, rt_r, rt_n, rs_0, rs_t, pk_1, pk_2, up_at, reduceIte, Nat.reduceEqDiff]
    exact ⟨rfl, hm⟩
  rw [show (!(a.has == b.has)) = false from by simpa using c2, decide_eq_true c2]
  simp only [↓VG_u, ↓UG_u, ↓MG_u, ↓NG_u, ↓PG_u, ↓BG_u, ↓CG_u, ↓IG_u, ↓VGtt, ↓VGtf, ↓VGft, ↓VGff, ↓UGtt, ↓UGtf, ↓UGft, ↓UGff, ↓MGtt, ↓MGtf, ↓MGft, ↓MGff, ↓NGtt, ↓NGtf, ↓NGft, ↓NGff, ↓PGtt, ↓PGtf, ↓PGft, ↓PGff, ↓BGtt, ↓BGtf, ↓BGft, ↓BGff, ↓CGtt, ↓CGtf, ↓CGft, ↓CGff, ↓IGtt, ↓IGtf, ↓IGft, ↓IGff, ↓PKt, ↓PKf, ↓CDt, ↓CDf, ↓NOTt, ↓NOTf, ↓NK_ptr, ↓(fT2 h12).e, ↓(fT2 h2).e]
  refine CK_st Tryd.func42 rfl rfl (SameD_ok (ha2.calm hm) (hb2.calm hm) hl2) ?_
  rintro _ w3 ⟨rfl, hm3⟩
  have hm03 := hm.trans hm3
  have h13 := hm3.blk h12 id
  have h23 := hm3.blk h2 id
  cases c3 : (decide (a.gkey = b.gkey) && decide (a.ranks = b.ranks)) with
  | false =>
    simp only [↓VG_u, ↓UG_u, ↓MG_u, ↓NG_u, ↓PG_u, ↓BG_u, ↓CG_u, ↓IG_u, ↓VGtt, ↓VGtf, ↓VGft, ↓VGff, ↓UGtt, ↓UGtf, ↓UGft, ↓UGff, ↓MGtt, ↓MGtf, ↓MGft, ↓MGff, ↓NGtt, ↓NGtf, ↓NGft, ↓NGff, ↓PGtt, ↓PGtf, ↓PGft, ↓PGff, ↓BGtt, ↓BGtf, ↓BGft, ↓BGff, ↓CGtt, ↓CGtf, ↓CGft, ↓CGff, ↓IGtt, ↓IGtf, ↓IGft, ↓IGff, ↓PKt, ↓PKf, ↓CDt, ↓CDf, ↓NOTt, ↓NOTf, ↓NK_ptr, dispatcherref15_Same_R0_eq, dispatcherref15_Same_R0_F, sq_n, sq_x, sq_r, bk_n, bk_r, bk_x, rt_r, rt_n, rs_0, rs_t, pk_1, pk_2, up_at, reduceIte, Nat.reduceEqDiff]
    exact ⟨rfl, hm03⟩
  | true =>
    simp only [↓VG_u, ↓UG_u, ↓MG_u, ↓NG_u, ↓PG_u, ↓BG_u, ↓CG_u, ↓IG_u, ↓VGtt, ↓VGtf, ↓VGft, ↓VGff, ↓UGtt, ↓UGtf, ↓UGft, ↓UGff, ↓MGtt, ↓MGtf, ↓MGft, ↓MGff, ↓NGtt, ↓NGtf, ↓NGft, ↓NGff, ↓PGtt, ↓PGtf, ↓PGft, ↓PGff, ↓BGtt, ↓BGtf, ↓BGft, ↓BGff, ↓CGtt, ↓CGtf, ↓CGft, ↓CGff, ↓IGtt, ↓IGtf, ↓IGft, ↓IGff, ↓PKt, ↓PKf, ↓CDt, ↓CDf, ↓NOTt, ↓NOTf, ↓NK_ptr, ↓(fT1 h13).e, ↓(fT1 h23).e]
    obtain ⟨A, c, es, _⟩ := reads_cap ha1
    obtain ⟨A2, c2', es2, _⟩ := reads_cap hb1
    rw [es, len_sl vLs]
    simp only [↓VG_u, ↓UG_u, ↓MG_u, ↓NG_u, ↓PG_u, ↓BG_u, ↓CG_u, ↓IG_u, ↓VGtt, ↓VGtf, ↓VGft, ↓VGff, ↓UGtt, ↓UGtf, ↓UGft, ↓UGff, ↓MGtt, ↓MGtf, ↓MGft, ↓MGff, ↓NGtt, ↓NGtf, ↓NGft, ↓NGff, ↓PGtt, ↓PGtf, ↓PGft, ↓PGff, ↓BGtt, ↓BGtf, ↓BGft, ↓BGff, ↓CGtt, ↓CGtf, ↓CGft, ↓CGff, ↓IGtt, ↓IGtf, ↓IGft, ↓IGff, ↓PKt, ↓PKf, ↓CDt, ↓CDf, ↓NOTt, ↓NOTf, ↓NK_ptr, ↓(fT1 h23).e]
    rw [es2, len_sl vLs, BK_neq]
    by_cases c4 : a.row.length = b.row.length
    · rw [show ((a.row.length : Int) != (b.row.length : Int)) = false by rw [c4]; simp]
      simp only [↓VG_u, ↓UG_u, ↓MG_u, ↓NG_u, ↓PG_u, ↓BG_u, ↓CG_u, ↓IG_u, ↓VGtt, ↓VGtf, ↓VGft, ↓VGff, ↓UGtt, ↓UGtf, ↓UGft, ↓UGff, ↓MGtt, ↓MGtf, ↓MGft, ↓MGff, ↓NGtt, ↓NGtf, ↓NGft, ↓NGff, ↓PGtt, ↓PGtf, ↓PGft, ↓PGff, ↓BGtt, ↓BGtf, ↓BGft, ↓BGff, ↓CGtt, ↓CGtf, ↓CGft, ↓CGff, ↓IGtt, ↓IGtf, ↓IGft, ↓IGff, ↓PKt, ↓PKf, ↓CDt, ↓CDf, ↓NOTt, ↓NOTf, ↓NK_ptr, dispatcherref15_Same_R0_eq, dispatcherref15_Same_R0_F, sq_n, sq_x, sq_r, bk_n, bk_r, bk_x, rt_r, rt_n, rs_0, rs_t, pk_1, pk_2, up_at, reduceIte, Nat.reduceEqDiff]
      exact Same_loop h13 h23 (ha1.calm hm03) (hb1.calm hm03) c4 hl hm03 rfl rfl
    · rw [show ((a.row.length : Int) != (b.row.length : Int)) = true by rw [bne_iff_ne]; omega, decide_eq_false (p := a.row = b.row) fun z => c4 (by rw [z])]
      simp only [↓VG_u, ↓UG_u, ↓MG_u, ↓NG_u, ↓PG_u, ↓BG_u, ↓CG_u, ↓IG_u, ↓VGtt, ↓VGtf, ↓VGft, ↓VGff, ↓UGtt, ↓UGtf, ↓UGft, ↓UGff, ↓MGtt, ↓MGtf, ↓MGft, ↓MGff, ↓NGtt, ↓NGtf, ↓NGft, ↓NGff, ↓PGtt, ↓PGtf, ↓PGft, ↓PGff, ↓BGtt, ↓BGtf, ↓BGft, ↓BGff, ↓CGtt, ↓CGtf, ↓CGft, ↓CGff, ↓IGtt, ↓IGtf, ↓IGft, ↓IGff, ↓PKt, ↓PKf, ↓CDt, ↓CDf, ↓NOTt, ↓NOTf, ↓NK_ptr, dispatcherref15_Same_R0_eq, dispatcherref15_Same_R0_F, sq_n, sq_x, sq_r, bk_n, bk_r, bk_x, rt_r, rt_n, rs_0, rs_t, pk_1, pk_2, up_at, reduceIte, Nat.reduceEqDiff]
      exact ⟨rfl, hm03⟩
def NoC (w : World) (v : Value) : Prop := v = .pointer none ∨ ∃ q, v = .pointer (some ⟨q, 0, none⟩) ∧ w.heap[q]? = some (.cells #[.bool false, .map none] tC (0, 0))
theorem NoC.calm {w' : World} {v : Value} (h : NoC w v) (hm : Mod none_ w w') : NoC w' v := h.imp id fun ⟨q, e, hb⟩ => ⟨q, e, hm.blk hb id⟩
theorem map_nn (x y : Operand) {w : World} {K : Value → World → Prop} : BK Tryd.prog .eql tMp x y (.map none) (.map none) w K = K (.bool true) w := BK_of (by kernel_rfl) (by kernel_rfl)
theorem nn_ok {v : Value} (h : NoC w v) : Rt Tryd.prog 34 #[v] w fun u w' => u = .bool true ∧ w' = w := by
  refine coll_Coll_none_calls ?_
  unfold coll_Coll_none_F
  rcases h with rfl | ⟨q, rfl, hb⟩
  · rw [BK_eqlP uC]
    simp only [Option.isNone_none, ↓VG_u, ↓UG_u, ↓MG_u, ↓NG_u, ↓PG_u, ↓BG_u, ↓CG_u, ↓IG_u, ↓VGtt, ↓VGtf, ↓VGft, ↓VGff, ↓UGtt, ↓UGtf, ↓UGft, ↓UGff, ↓MGtt, ↓MGtf, ↓MGft, ↓MGff, ↓NGtt, ↓NGtf, ↓NGft, ↓NGff, ↓PGtt, ↓PGtf, ↓PGft, ↓PGff, ↓BGtt, ↓BGtf, ↓BGft, ↓BGff, ↓CGtt, ↓CGtf, ↓CGft, ↓CGff, ↓IGtt, ↓IGtf, ↓IGft, ↓IGff, ↓PKt, ↓PKf, ↓CDt, ↓CDf, ↓NOTt, ↓NOTf, ↓NK_ptr]
    exact ⟨by first | trivial | rfl, by first | trivial | rfl⟩
  · rw [BK_eqlP uC]
    simp only [Option.isNone_some, ↓VG_u, ↓UG_u, ↓MG_u, ↓NG_u, ↓PG_u, ↓BG_u, ↓CG_u, ↓IG_u, ↓VGtt, ↓VGtf, ↓VGft, ↓VGff, ↓UGtt, ↓UGtf, ↓UGft, ↓UGff, ↓MGtt, ↓MGtf, ↓MGft, ↓MGff, ↓NGtt, ↓NGtf, ↓NGft, ↓NGff, ↓PGtt, ↓PGtf, ↓PGft, ↓PGff, ↓BGtt, ↓BGtf, ↓BGft, ↓BGff, ↓CGtt, ↓CGtf, ↓CGft, ↓CGff, ↓IGtt, ↓IGtf, ↓IGft, ↓IGff, ↓PKt, ↓PKf, ↓CDt, ↓CDf, ↓NOTt, ↓NOTf, ↓NK_ptr, ↓(FO.blk (v := .map none) hb (show fieldOff Tryd.prog tC 1 = some 1 by kernel_rfl) uMp rfl rfl).e]
    rw [map_nn]
    try simp only [↓VG_u, ↓UG_u, ↓MG_u, ↓NG_u, ↓PG_u, ↓BG_u, ↓CG_u, ↓IG_u, ↓VGtt, ↓VGtf, ↓VGft, ↓VGff, ↓UGtt, ↓UGtf, ↓UGft, ↓UGff, ↓MGtt, ↓MGtf, ↓MGft, ↓MGff, ↓NGtt, ↓NGtf, ↓NGft, ↓NGff, ↓PGtt, ↓PGtf, ↓PGft, ↓PGff, ↓BGtt, ↓BGtf, ↓BGft, ↓BGff, ↓CGtt, ↓CGtf, ↓CGft, ↓CGff, ↓IGtt, ↓IGtf, ↓IGft, ↓IGff, ↓PKt, ↓PKf, ↓CDt, ↓CDf, ↓NOTt, ↓NOTf, ↓NK_ptr]
    exact ⟨by first | trivial | rfl, by first | trivial | rfl⟩
theorem nof_ok {v : Value} (h : NoC w v) (k : Ky) (rank : Int) : Rt Tryd.prog 47 #[v, strV k, .int .i64 rank] w fun u w' => u = .tuple #[.pointer none, .int .i64 0, .bool false] ∧ w' = w := by
  refine coll_Coll_of_calls ?_
  unfold coll_Coll_of_F
  refine CK_st Tryd.func34 rfl rfl (nn_ok h) ?_
  rintro _ w1 ⟨rfl, rfl⟩
  simp only [↓VG_u, ↓UG_u, ↓MG_u, ↓NG_u, ↓PG_u, ↓BG_u, ↓CG_u, ↓IG_u, ↓VGtt, ↓VGtf, ↓VGft, ↓VGff, ↓UGtt, ↓UGtf, ↓UGft, ↓UGff, ↓MGtt, ↓MGtf, ↓MGft, ↓MGff, ↓NGtt, ↓NGtf, ↓NGft, ↓NGff, ↓PGtt, ↓PGtf, ↓PGft, ↓PGff, ↓BGtt, ↓BGtf, ↓BGft, ↓BGff, ↓CGtt, ↓CGtf, ↓CGft, ↓CGff, ↓IGtt, ↓IGtf, ↓IGft, ↓IGff, ↓PKt, ↓PKf, ↓CDt, ↓CDf, ↓NOTt, ↓NOTf, ↓NK_ptr]
  exact ⟨by first | trivial | rfl, by first | trivial | rfl⟩
theorem nMany_ok {v : Value} (h : NoC w v) (k : Ky) (rank : Int) : Rt Tryd.prog 17 #[v, strV k, .int .i64 rank] w fun u w' => u = .int .i64 0 ∧ w' = w := by
  refine coll_Coll_Many_calls ?_
  unfold coll_Coll_Many_F
  refine CK_st Tryd.func47 rfl rfl (nof_ok h k rank) ?_
  rintro _ w1 ⟨rfl, rfl⟩
  rw [extract_ok (v := .pointer none) rfl, extract_ok (v := .int .i64 0) rfl, extract_ok (v := .bool false) rfl]
  simp only [↓VG_u, ↓UG_u, ↓MG_u, ↓NG_u, ↓PG_u, ↓BG_u, ↓CG_u, ↓IG_u, ↓VGtt, ↓VGtf, ↓VGft, ↓VGff, ↓UGtt, ↓UGtf, ↓UGft, ↓UGff, ↓MGtt, ↓MGtf, ↓MGft, ↓MGff, ↓NGtt, ↓NGtf, ↓NGft, ↓NGff, ↓PGtt, ↓PGtf, ↓PGft, ↓PGff, ↓BGtt, ↓BGtf, ↓BGft, ↓BGff, ↓CGtt, ↓CGtf, ↓CGft, ↓CGff, ↓IGtt, ↓IGtf, ↓IGft, ↓IGff, ↓PKt, ↓PKf, ↓CDt, ↓CDf, ↓NOTt, ↓NOTf, ↓NK_ptr]
  exact ⟨by first | trivial | rfl, by first | trivial | rfl⟩
theorem nOver_ok {v : Value} (h : NoC w v) (k : Ky) (rank n : Int) : Rt Tryd.prog 31 #[v, strV k, .int .i64 rank, .int .i64 n] w fun u w' => u = .bool false ∧ w' = w := by
  refine coll_Coll_Over_calls ?_
  unfold coll_Coll_Over_F
  refine CK_st Tryd.func47 rfl rfl (nof_ok h k rank) ?_
  rintro _ w1 ⟨rfl, rfl⟩
  rw [extract_ok (v := .pointer none) rfl, extract_ok (v := .int .i64 0) rfl, extract_ok (v := .bool false) rfl]
  simp only [↓VG_u, ↓UG_u, ↓MG_u, ↓NG_u, ↓PG_u, ↓BG_u, ↓CG_u, ↓IG_u, ↓VGtt, ↓VGtf, ↓VGft, ↓VGff, ↓UGtt, ↓UGtf, ↓UGft, ↓UGff, ↓MGtt, ↓MGtf, ↓MGft, ↓MGff, ↓NGtt, ↓NGtf, ↓NGft, ↓NGff, ↓PGtt, ↓PGtf, ↓PGft, ↓PGff, ↓BGtt, ↓BGtf, ↓BGft, ↓BGff, ↓CGtt, ↓CGtf, ↓CGft, ↓CGff, ↓IGtt, ↓IGtf, ↓IGft, ↓IGff, ↓PKt, ↓PKf, ↓CDt, ↓CDf, ↓NOTt, ↓NOTf, ↓NK_ptr]
  exact ⟨by first | trivial | rfl, by first | trivial | rfl⟩
theorem nTold_ok {v : Value} (h : NoC w v) (k : Ky) (rank n : Int) : Rt Tryd.prog 27 #[v, strV k, .int .i64 rank, .int .i64 n] w (ToP w zTd false) := by
  refine coll_Coll_Told_calls ?_
  unfold coll_Coll_Told_F
  refine al_k (cs := tdCells zTd nilS nilS) zTd_z rfl _ fun w1 hb1 hm1 hz1 => ?_
  refine CK_st Tryd.func47 rfl rfl (nof_ok (h.calm hm1) k rank) ?_
  rintro _ w2 ⟨rfl, rfl⟩
  rw [extract_ok (v := .pointer none) rfl, extract_ok (v := .int .i64 0) rfl, extract_ok (v := .bool false) rfl]
  simp only [↓VG_u, ↓UG_u, ↓MG_u, ↓NG_u, ↓PG_u, ↓BG_u, ↓CG_u, ↓IG_u, ↓VGtt, ↓VGtf, ↓VGft, ↓VGff, ↓UGtt, ↓UGtf, ↓UGft, ↓UGff, ↓MGtt, ↓MGtf, ↓MGft, ↓MGff, ↓NGtt, ↓NGtf, ↓NGft, ↓NGff, ↓PGtt, ↓PGtf, ↓PGft, ↓PGff, ↓BGtt, ↓BGtf, ↓BGft, ↓BGff, ↓CGtt, ↓CGtf, ↓CGft, ↓CGff, ↓IGtt, ↓IGtf, ↓IGft, ↓IGff, ↓PKt, ↓PKf, ↓CDt, ↓CDf, ↓NOTt, ↓NOTf, ↓NK_ptr]
  rw [build_ok zTd_b]
  refine stS (old := tdCells zTd nilS nilS) (cs := tdCells zTd nilS nilS) rfl rfl iTd rfl (td_one _ _ _ _ _ _ _) hb1 fun w6 hb6 hm6 hz6 => ?_
  exact rsCell (R := fun u w'' => ToP w zTd false (.tuple #[u, .bool false]) w'') (cs := tdCells zTd nilS nilS) rfl Tryd.underlying57 rfl iTd hb6 ⟨_, rfl, TdAt.z _ _, hm1.then hm6 fun i hi z => by omega⟩
theorem nOdd_ok {v : Value} (h : NoC w v) : Rt Tryd.prog 24 #[v] w fun u w' => u = nilS ∧ w' = w := by
  refine coll_Coll_Odd_calls ?_
  unfold coll_Coll_Odd_F
  refine CK_st Tryd.func34 rfl rfl (nn_ok h) ?_
  rintro _ w1 ⟨rfl, rfl⟩
  exact condT ⟨rfl, rfl⟩
theorem nCopy_ok (w : World) : Rt Tryd.prog 15 #[.pointer none] w fun u w' => u = .pointer none ∧ w' = w := by
  refine coll_Coll_Copy_calls ?_
  unfold coll_Coll_Copy_F
  rw [BK_eqlP uC]
  exact condT ⟨rfl, rfl⟩
theorem nBring_ok {v : Value} (h : NoC w v) (key : Ky) (rv : Value) (rank : Int) (q : Pt) : Rt Tryd.prog 12 #[v, grpV key rv, .int .i64 rank, q.v] w fun u w' => u = .tuple #[.int .i64 0, .int .i64 1] ∧ Mod none_ w w' := by
  refine coll_Coll_Bring_calls ?_
  unfold coll_Coll_Bring_F
  refine box_k (cs := #[strV key, rv]) rfl fun w1 hb1 hm1 hz1 => ?_
  refine box_k (cs := q.enc.toArray) rfl fun w2 hb2 hm2 hz2 => ?_
  refine CK_st Tryd.func34 rfl rfl (nn_ok (h.calm (hm1.trans hm2))) ?_
  rintro _ w3 ⟨rfl, rfl⟩
  exact condT ⟨rfl, hm1.trans hm2⟩
end
end Go.Proofs.YtandbmnhghmcgaaDoor.Col
set_option linter.unusedVariables false
set_option linter.unusedSimpArgs false
set_option maxRecDepth 8000
namespace Go.X
open Go Go.RowKit
structure Ac where
  key : Ky
  rv : Value
  ranks : List Int
  rank : Int
  p : Pt
  copy : Bool
def Ac.enc (a : Ac) : List Value := [strV a.key, a.rv, .int .i64 a.rank] ++ a.p.enc ++ [.bool a.copy]
theorem Ac.enc_len (a : Ac) : a.enc.length = 9 + 1 := rfl
theorem elIx {P : Program} {w : World} {t e : TypeId} {sz : Nat} (hu : P.underlying t = some (.slice e)) (hc : P.cellsOf e = sz + 1) {α : Type} {enc : α → List Value} (hl : ∀ a, (enc a).length = sz + 1) {l : List α} {v : Value} (h : reads w (sz + 1) v l.length (l.flatMap enc)) {i : Nat} {a : α} (hi : l[i]? = some a) :
    ∃ g : Addr, (∀ w', (Instr.indexAt t v (.int .i64 (i : Int))).run P w' = .ok (.pointer (some g)) w') ∧ ∀ w', Mod none_ w w' → ∀ j c, (enc a)[j]? = some c → w'.cell? (g.add j) = some c := by
  have hil := (List.getElem?_eq_some_iff.1 hi).1
  obtain ⟨_, A, c, es, hnc, hr⟩ := id h
  have h0 : (0 : Nat) < sz + 1 := by omega
  obtain ⟨c0, hc0⟩ : ∃ c0, (enc a)[0]? = some c0 := ⟨_, List.getElem?_eq_getElem (by rw [hl]; exact h0)⟩
  obtain ⟨a0, ha, _⟩ := hr (i * (sz + 1) + 0) c0 (by rw [fl_get hl hi h0]; exact hc0)
  subst es ha
  refine ⟨a0.add (i * (sz + 1)), fun w' => ?_, fun w' hw j x hj => ?_⟩
  · rw [run_ixa hu hc (by omega) (by omega) w']
    rfl
  · have hjl : j < sz + 1 := by have := (List.getElem?_eq_some_iff.1 hj).1; rw [hl] at this; exact this
    obtain ⟨_, A, c, es, _, hc'⟩ := reads_mod h hw (fun _ _ _ => id)
    cases es
    obtain ⟨b, hb, hcell⟩ := hc' (i * (sz + 1) + j) x (by rw [fl_get hl hi hjl]; exact hj)
    cases hb
    rw [add_add]
    exact hcell
def AcAt (w : World) (g : Addr) (a : Ac) : Prop := ∀ j c, a.enc[j]? = some c → w.cell? (g.add j) = some c
structure Acts (w : World) (v : Value) (l : List Ac) : Prop where
  row : reads w (9 + 1) v l.length (l.flatMap Ac.enc)
  rk : ∀ a ∈ l, RR w a.rv a.ranks
theorem Acts.calm {w w' : World} {v : Value} {l : List Ac} (h : Acts w v l) (hm : Mod none_ w w') : Acts w' v l := ⟨reads_mod h.row hm (fun _ _ _ => id), fun a ha => (h.rk a ha).calm hm⟩
structure Small (l : List Ac) : Prop where
  len : l.length ≤ 80
  rk : ∀ a ∈ l, a.ranks.length ≤ 8
  key : ∀ a ∈ l, a.key.length ≤ 200
end Go.X
namespace Go.Proofs.YtandbmnhghmcgaaDoor.Col
open Go Go.X Go.RowKit Go.Proofs.YtandbmnhghmcgaaDoor.XF Go.Proofs.YtandbmnhghmcgaaDoor.XG Go.Proofs.YtandbmnhghmcgaaDoor.XI Go.Proofs.YtandbmnhghmcgaaDoor.XK
abbrev tAc : TypeId := 36
abbrev tAcs : TypeId := 22
theorem vAcs : Tryd.prog.underlying tAcs = some (.slice tAc) := Tryd.underlying22
theorem cAc : Tryd.prog.cellsOf tAc = 9 + 1 := by kernel_rfl
theorem iAc : (Tryd.prog.info? tAc).map (·.size) = some 10 := by kernel_rfl
theorem oAc0 : fieldOff Tryd.prog tAc 0 = some 0 := by kernel_rfl
theorem oAc1 : fieldOff Tryd.prog tAc 1 = some 2 := by kernel_rfl
theorem oAc2 : fieldOff Tryd.prog tAc 2 = some 3 := by kernel_rfl
section
variable {w : World} {g : Addr} {a : Ac}
theorem fC0 (h : AcAt w g a) : FO Tryd.prog w tAc 0 0 g tG (grpV a.key a.rv) := ⟨oAc0, fun K => by
  refine VK_eq_of (run_ldA (cs := [strV a.key, a.rv]) Tryd.underlying32 rfl (by kernel_rfl) fun j v hj => ?_)
  rw [add_add]
  match j, hj with
  | 0, hj => exact h 0 v hj
  | 1, hj => exact h 1 v hj
  | n + 2, hj => simp at hj⟩
theorem fC1 (h : AcAt w g a) : FO Tryd.prog w tAc 1 2 g tI (.int .i64 a.rank) := FO.mk' oAc1 vI rfl (h 2 _ rfl)
theorem fC2 (h : AcAt w g a) : FO Tryd.prog w tAc 2 3 g tPt a.p.v := ⟨oAc2, fun K => by
  refine VK_eq_of (run_ldA (cs := a.p.enc) Tryd.underlying34 rfl (by kernel_rfl) fun j v hj => ?_)
  rw [add_add]
  have hjl := (List.getElem?_eq_some_iff.1 hj).1
  refine h (3 + j) v ?_
  unfold Ac.enc
  rw [List.getElem?_append_left (by simp only [List.length_append, List.length_cons, List.length_nil]; omega), List.getElem?_append_right (by simp)]
  simpa using hj⟩
theorem fCk (h : AcAt w g a) : FO Tryd.prog w tG 0 0 (g.add 0) 9 (strV a.key) := FO.mk' (by kernel_rfl) vS rfl (by rw [add_add]; exact h 0 _ rfl)
theorem fCr (h : AcAt w g a) : FO Tryd.prog w tG 1 1 (g.add 0) tIs a.rv := FO.mk' (by kernel_rfl) vIs rfl (by rw [add_add]; exact h 1 _ rfl)
theorem acAt_blk {b : Nat} (h : w.heap[b]? = some (.cells a.enc.toArray tAc (0, 0))) : AcAt w ⟨b, 0, none⟩ a := fun j c hj => by
  rw [add_pl, cell_blk h, Nat.zero_add]
  simpa using hj
theorem acts_at {v : Value} {l : List Ac} (h : Acts w v l) {i : Nat} {a : Ac} (hi : l[i]? = some a) : ∃ g : Addr, (∀ w', (Instr.indexAt tAcs v (.int .i64 (i : Int))).run Tryd.prog w' = .ok (.pointer (some g)) w') ∧ ∀ w', Mod none_ w w' → AcAt w' g a :=
  elIx vAcs cAc Ac.enc_len h.row hi
theorem Great11_ok {key : Ky} {rv : Value} {r : List Int} (h : RR w rv r) : Rt Tryd.prog 33 #[grpV key rv] w fun v w' => ∃ b, v = .bool b ∧ (b = false → key.length ≤ 200) ∧ Mod none_ w w' := by
  refine dispatcherlaw11_Great_calls ?_
  unfold dispatcherlaw11_Great_F
  refine box_k (cs := #[strV key, rv]) rfl fun w1 hb1 hm1 hz1 => ?_
  simp only [↓(fG1 hb1).e]
  obtain ⟨A, c, es, _⟩ := reads_cap h
  rw [es, len_sl vIs]
  by_cases c1 : (80 : Int) < r.length
  · simp only [↓VG_u, ↓UG_u, ↓MG_u, ↓NG_u, ↓PG_u, ↓BG_u, ↓CG_u, ↓IG_u, ↓VGtt, ↓VGtf, ↓VGft, ↓VGff, ↓UGtt, ↓UGtf, ↓UGft, ↓UGff, ↓MGtt, ↓MGtf, ↓MGft, ↓MGff, ↓NGtt, ↓NGtf, ↓NGft, ↓NGff, ↓PGtt, ↓PGtf, ↓PGft, ↓PGff, ↓BGtt, ↓BGtf, ↓BGft, ↓BGff, ↓CGtt, ↓CGtf, ↓CGft, ↓CGff, ↓IGtt, ↓IGtf, ↓IGft, ↓IGff, ↓PKt, ↓PKf, ↓CDt, ↓CDf, ↓NOTt, ↓NOTf, ↓NK_ptr, ↓GTt c1]
    exact ⟨true, rfl, fun q => by simp at q, hm1⟩
  · simp only [↓VG_u, ↓UG_u, ↓MG_u, ↓NG_u, ↓PG_u, ↓BG_u, ↓CG_u, ↓IG_u, ↓VGtt, ↓VGtf, ↓VGft, ↓VGff, ↓UGtt, ↓UGtf, ↓UGft, ↓UGff, ↓MGtt, ↓MGtf, ↓MGft, ↓MGff, ↓NGtt, ↓NGtf, ↓NGft, ↓NGff, ↓PGtt, ↓PGtf, ↓PGft, ↓PGff, ↓BGtt, ↓BGtf, ↓BGft, ↓BGff, ↓CGtt, ↓CGtf, ↓CGft, ↓CGff, ↓IGtt, ↓IGtf, ↓IGft, ↓IGff, ↓PKt, ↓PKf, ↓CDt, ↓CDf, ↓NOTt, ↓NOTf, ↓NK_ptr, ↓GTf (show (r.length : Int) ≤ 80 by omega), ↓(fG0 hb1).e]
    unfold strV
    rw [len_str vS]
    have hsz : (⟨key.toArray⟩ : ByteArray).size = key.length := by simp [ByteArray.size]
    rw [hsz]
    by_cases c2 : (200 : Int) < key.length
    · simp only [↓VG_u, ↓UG_u, ↓MG_u, ↓NG_u, ↓PG_u, ↓BG_u, ↓CG_u, ↓IG_u, ↓VGtt, ↓VGtf, ↓VGft, ↓VGff, ↓UGtt, ↓UGtf, ↓UGft, ↓UGff, ↓MGtt, ↓MGtf, ↓MGft, ↓MGff, ↓NGtt, ↓NGtf, ↓NGft, ↓NGff, ↓PGtt, ↓PGtf, ↓PGft, ↓PGff, ↓BGtt, ↓BGtf, ↓BGft, ↓BGff, ↓CGtt, ↓CGtf, ↓CGft, ↓CGff, ↓IGtt, ↓IGtf, ↓IGft, ↓IGff, ↓PKt, ↓PKf, ↓CDt, ↓CDf, ↓NOTt, ↓NOTf, ↓NK_ptr, ↓GTt c2]
      exact ⟨true, rfl, fun q => by simp at q, hm1⟩
    · simp only [↓VG_u, ↓UG_u, ↓MG_u, ↓NG_u, ↓PG_u, ↓BG_u, ↓CG_u, ↓IG_u, ↓VGtt, ↓VGtf, ↓VGft, ↓VGff, ↓UGtt, ↓UGtf, ↓UGft, ↓UGff, ↓MGtt, ↓MGtf, ↓MGft, ↓MGff, ↓NGtt, ↓NGtf, ↓NGft, ↓NGff, ↓PGtt, ↓PGtf, ↓PGft, ↓PGff, ↓BGtt, ↓BGtf, ↓BGft, ↓BGff, ↓CGtt, ↓CGtf, ↓CGft, ↓CGff, ↓IGtt, ↓IGtf, ↓IGft, ↓IGff, ↓PKt, ↓PKf, ↓CDt, ↓CDf, ↓NOTt, ↓NOTf, ↓NK_ptr, ↓GTf (show (key.length : Int) ≤ 200 by omega)]
      exact ⟨false, rfl, fun _ => by omega, hm1⟩
theorem Great_ok {v : Value} {l : List Ac} (h : Acts w v l) : Rt Tryd.prog 10 #[v] w fun u w' => ∃ b, u = .bool b ∧ (b = false → Small l) ∧ Mod none_ w w' := by
  refine dispatcherlaw15_Great_calls ?_
  unfold dispatcherlaw15_Great_F
  obtain ⟨A, c, es, _⟩ := reads_cap h.row
  have ev := es
  rw [es, len_sl vAcs, ← ev]
  by_cases c1 : (80 : Int) < l.length
  · simp only [↓VG_u, ↓UG_u, ↓MG_u, ↓NG_u, ↓PG_u, ↓BG_u, ↓CG_u, ↓IG_u, ↓VGtt, ↓VGtf, ↓VGft, ↓VGff, ↓UGtt, ↓UGtf, ↓UGft, ↓UGff, ↓MGtt, ↓MGtf, ↓MGft, ↓MGff, ↓NGtt, ↓NGtf, ↓NGft, ↓NGff, ↓PGtt, ↓PGtf, ↓PGft, ↓PGff, ↓BGtt, ↓BGtf, ↓BGft, ↓BGff, ↓CGtt, ↓CGtf, ↓CGft, ↓CGff, ↓IGtt, ↓IGtf, ↓IGft, ↓IGff, ↓PKt, ↓PKf, ↓CDt, ↓CDf, ↓NOTt, ↓NOTf, ↓NK_ptr, ↓GTt c1]
    exact ⟨true, rfl, fun q => by simp at q, Mod.refl _ _⟩
  simp only [↓VG_u, ↓UG_u, ↓MG_u, ↓NG_u, ↓PG_u, ↓BG_u, ↓CG_u, ↓IG_u, ↓VGtt, ↓VGtf, ↓VGft, ↓VGff, ↓UGtt, ↓UGtf, ↓UGft, ↓UGff, ↓MGtt, ↓MGtf, ↓MGft, ↓MGff, ↓NGtt, ↓NGtf, ↓NGft, ↓NGff, ↓PGtt, ↓PGtf, ↓PGft, ↓PGff, ↓BGtt, ↓BGtf, ↓BGft, ↓BGff, ↓CGtt, ↓CGtf, ↓CGft, ↓CGff, ↓IGtt, ↓IGtf, ↓IGft, ↓IGff, ↓PKt, ↓PKf, ↓CDt, ↓CDf, ↓NOTt, ↓NOTf, ↓NK_ptr, ↓GTf (show (l.length : Int) ≤ 80 by omega)]
  refine W_loop dispatcherlaw15_Great_L0_ok (fun ρ w' => ∃ i : Nat, i ≤ l.length ∧ ρ 3 = .int .i64 i ∧ ρ 0 = v ∧ (∀ a ∈ l.take i, a.ranks.length ≤ 8 ∧ a.key.length ≤ 200) ∧ Mod none_ w w') (fun ρ _ => l.length - (intOf (ρ 3)).toNat)
    ⟨0, Nat.zero_le _, rfl, rfl, by simp, Mod.refl _ _⟩ ?_
  rintro ρ w1 ⟨i, hi, e3, e0, hall, hm⟩
  rw [dispatcherlaw15_Great_L0_eq]; unfold dispatcherlaw15_Great_L0_F
  rw [e3, e0, ev, len_sl vAcs, ← ev, BK_lss]
  by_cases hlt : i < l.length
  · rw [decide_eq_true (by omega)]
    refine condT ?_
    have hx : l[i]? = some l[i] := List.getElem?_eq_getElem hlt
    have hmem : l[i] ∈ l := List.getElem_mem hlt
    have etk : l.take (i + 1) = l.take i ++ [l[i]] := by rw [List.take_add_one, hx]; rfl
    generalize l[i] = a at *
    obtain ⟨g, hix, hat⟩ := acts_at h hx
    refine VK_of (hix _) ?_
    simp only [↓(fC0 (hat _ hm)).e]
    refine CK_st Tryd.func33 rfl rfl (Great11_ok (key := a.key) ((h.rk a hmem).calm hm)) ?_
    rintro _ w2 ⟨b, rfl, hb, hm2⟩
    have hm02 := hm.trans hm2
    cases b with
    | true =>
      simp only [↓VG_u, ↓UG_u, ↓MG_u, ↓NG_u, ↓PG_u, ↓BG_u, ↓CG_u, ↓IG_u, ↓VGtt, ↓VGtf, ↓VGft, ↓VGff, ↓UGtt, ↓UGtf, ↓UGft, ↓UGff, ↓MGtt, ↓MGtf, ↓MGft, ↓MGff, ↓NGtt, ↓NGtf, ↓NGft, ↓NGff, ↓PGtt, ↓PGtf, ↓PGft, ↓PGff, ↓BGtt, ↓BGtf, ↓BGft, ↓BGff, ↓CGtt, ↓CGtf, ↓CGft, ↓CGff, ↓IGtt, ↓IGtf, ↓IGft, ↓IGff, ↓PKt, ↓PKf, ↓CDt, ↓CDf, ↓NOTt, ↓NOTf, ↓NK_ptr]
      exact ⟨true, rfl, fun q => by simp at q, hm02⟩
    | false =>
      simp only [↓VG_u, ↓UG_u, ↓MG_u, ↓NG_u, ↓PG_u, ↓BG_u, ↓CG_u, ↓IG_u, ↓VGtt, ↓VGtf, ↓VGft, ↓VGff, ↓UGtt, ↓UGtf, ↓UGft, ↓UGff, ↓MGtt, ↓MGtf, ↓MGft, ↓MGff, ↓NGtt, ↓NGtf, ↓NGft, ↓NGff, ↓PGtt, ↓PGtf, ↓PGft, ↓PGff, ↓BGtt, ↓BGtf, ↓BGft, ↓BGff, ↓CGtt, ↓CGtf, ↓CGft, ↓CGff, ↓IGtt, ↓IGtf, ↓IGft, ↓IGff, ↓PKt, ↓PKf, ↓CDt, ↓CDf, ↓NOTt, ↓NOTf, ↓NK_ptr]
      refine VK_of (hix _) ?_
      rw [fo oAc0]
      simp only [↓(fCr (hat _ hm02)).e]
      obtain ⟨A', c', es', _⟩ := reads_cap (h.rk a hmem)
      rw [es', len_sl vIs]
      by_cases c2 : (8 : Int) < a.ranks.length
      · simp only [↓VG_u, ↓UG_u, ↓MG_u, ↓NG_u, ↓PG_u, ↓BG_u, ↓CG_u, ↓IG_u, ↓VGtt, ↓VGtf, ↓VGft, ↓VGff, ↓UGtt, ↓UGtf, ↓UGft, ↓UGff, ↓MGtt, ↓MGtf, ↓MGft, ↓MGff, ↓NGtt, ↓NGtf, ↓NGft, ↓NGff, ↓PGtt, ↓PGtf, ↓PGft, ↓PGff, ↓BGtt, ↓BGtf, ↓BGft, ↓BGff, ↓CGtt, ↓CGtf, ↓CGft, ↓CGff, ↓IGtt, ↓IGtf, ↓IGft, ↓IGff, ↓PKt, ↓PKf, ↓CDt, ↓CDf, ↓NOTt, ↓NOTf, ↓NK_ptr, ↓GTt c2]
        exact ⟨true, rfl, fun q => by simp at q, hm02⟩
      · simp only [↓VG_u, ↓UG_u, ↓MG_u, ↓NG_u, ↓PG_u, ↓BG_u, ↓CG_u, ↓IG_u, ↓VGtt, ↓VGtf, ↓VGft, ↓VGff, ↓UGtt, ↓UGtf, ↓UGft, ↓UGff, ↓MGtt, ↓MGtf, ↓MGft, ↓MGff, ↓NGtt, ↓NGtf, ↓NGft, ↓NGff, ↓PGtt, ↓PGtf, ↓PGft, ↓PGff, ↓BGtt, ↓BGtf, ↓BGft, ↓BGff, ↓CGtt, ↓CGtf, ↓CGft, ↓CGff, ↓IGtt, ↓IGtf, ↓IGft, ↓IGff, ↓PKt, ↓PKf, ↓CDt, ↓CDf, ↓NOTt, ↓NOTf, ↓NK_ptr, ↓GTf (show (a.ranks.length : Int) ≤ 8 by omega)]
        rw [BK_add, wrap_i (by omega) (by omega)]
        refine ⟨⟨i + 1, hlt, rfl, e0, fun x hx' => ?_, hm02⟩, ?_⟩
        · rw [etk] at hx'
          rcases List.mem_append.1 hx' with z | z
          · exact hall x z
          · rw [List.mem_singleton.1 z]; exact ⟨by omega, hb rfl⟩
        · simp only [sq_n, sq_x, sq_r, bk_n, bk_r, bk_x, rt_r, rt_n, rs_0, rs_t, pk_1, pk_2, up_at, reduceIte, Nat.reduceEqDiff, intOf]; omega
  · obtain rfl : i = l.length := by omega
    rw [decide_eq_false (by omega)]
    refine condF ?_
    rw [sq_x, bk_x, sq_n, dispatcherlaw15_Great_R1_eq]; unfold dispatcherlaw15_Great_R1_F
    rw [List.take_length] at hall
    exact ⟨false, rfl, fun _ => ⟨by omega, fun a ha => (hall a ha).1, fun a ha => (hall a ha).2⟩, hm⟩
end
end Go.Proofs.YtandbmnhghmcgaaDoor.Col
set_option linter.unusedVariables false
set_option linter.unusedSimpArgs false
set_option maxRecDepth 8000
namespace Go.Proofs.YtandbmnhghmcgaaDoor.Col
open Go Go.X Go.RowKit Go.Proofs.YtandbmnhghmcgaaDoor.XF Go.Proofs.YtandbmnhghmcgaaDoor.XG Go.Proofs.YtandbmnhghmcgaaDoor.XI Go.Proofs.YtandbmnhghmcgaaDoor.XK
abbrev tCs : TypeId := 73
theorem vCs : Tryd.prog.underlying tCs = some (.slice 24) := Tryd.underlying73
theorem bAcs (key : Ky) (A : Option Addr) (n c : Nat) (r : Int) (p : Pt) (cp : Bool) : builtRow Tryd.prog tAcs 1 [(0, .agg (Ac.enc ⟨key, .slice A n c, [], r, p, cp⟩).toArray)] = some (Ac.enc ⟨key, .slice A n c, [], r, p, cp⟩).toArray := by kernel_rfl
theorem bC0 : Tryd.prog.built tC [] = some #[.bool false, .map none] := by kernel_rfl
theorem bCs (a : Option Addr) : builtRow Tryd.prog tCs 2 [(0, .pointer none), (1, .pointer a)] = some #[.pointer none, .pointer a] := by kernel_rfl
section
variable {w : World} {a : Ac}
theorem ac_one (h : RR w a.rv a.ranks) : ∃ A n c, a.rv = .slice A n c := by
  obtain ⟨A, c, e, _⟩ := reads_cap h
  exact ⟨A, _, c, e⟩
theorem bAcs' (h : RR w a.rv a.ranks) : builtRow Tryd.prog tAcs 1 [(0, .agg a.enc.toArray)] = some a.enc.toArray := by
  obtain ⟨A, n, c, e⟩ := ac_one h
  cases a
  subst e
  exact bAcs _ A n c _ _ _
theorem acs1 {g : Nat} (h : RR w a.rv a.ranks) (hb : w.heap[g]? = some (.cells a.enc.toArray tAc (0, 0))) : Acts w (.slice (some ⟨g, 0, none⟩) 1 1) [a] :=
  ⟨reads_blk (size := 10) (n := 1) hb (by simp [Ac.enc, Pt.enc]), fun x hx => by rw [List.mem_singleton.1 hx]; exact h⟩
theorem nil_R2 {ρ : Sl} {K : Exit → Sl → World → Prop} {b1 b9 : Nat} {v row rks : Value} (hv : NoC w v) (hb1 : w.heap[b1]? = some (.cells a.enc.toArray tAc (0, 0))) (hb9 : w.heap[b9]? = some (.cells (tdCells zTd row rks) tTd (0, 0))) (hT : TdR w (.agg (tdCells zTd row rks)) zTd)
    (q1 : ρ 1 = .pointer (some ⟨b1, 0, none⟩)) (q6 : ρ 6 = v) (q8 : ρ 8 = .int .i64 1) (q9 : ρ 9 = .pointer (some ⟨b9, 0, none⟩)) (q10 : ρ 10 = .bool false)
    (hK : ∀ (ρ' : Sl) (w' : World), (∀ i, i < 6 → ρ' i = ρ i) → Mod none_ w w' → K .normal ρ' w') : sx fn_ Tryd.prog 88 dispatcherlaw15_CollNil_R2 K ρ w := by
  rw [dispatcherlaw15_CollNil_R2_eq]; unfold dispatcherlaw15_CollNil_R2_F
  rw [q8, q10, q9, q6, q1]
  simp only [↓VG_u, ↓UG_u, ↓MG_u, ↓NG_u, ↓PG_u, ↓BG_u, ↓CG_u, ↓IG_u, ↓VGtt, ↓VGtf, ↓VGft, ↓VGff, ↓UGtt, ↓UGtf, ↓UGft, ↓UGff, ↓MGtt, ↓MGtf, ↓MGft, ↓MGff, ↓NGtt, ↓NGtf, ↓NGft, ↓NGff, ↓PGtt, ↓PGtf, ↓PGft, ↓PGff, ↓BGtt, ↓BGtf, ↓BGft, ↓BGff, ↓CGtt, ↓CGtf, ↓CGft, ↓CGff, ↓IGtt, ↓IGtf, ↓IGft, ↓IGff, ↓PKt, ↓PKf, ↓CDt, ↓CDf, ↓NOTt, ↓NOTf, ↓NK_ptr, ↓NEf (show (1 : Int) = 1 from rfl)]
  refine ldS (cs := tdCells zTd row rks) rfl Tryd.underlying57 rfl iTd hb9 ?_
  rw [build_ok zTd_b]
  have tz : ∀ w', TdR w' (.agg (tdCells zTd nilS nilS)) zTd := fun w' => (TdAt.z w' 0).R
  refine CK_st Tryd.func28 rfl rfl (Same15_ok hT (tz w) (by decide) (by decide)) ?_
  rintro _ w1 ⟨rfl, hm1⟩
  rw [sameTd_iff.2 rfl]
  have h1 := acAt_blk (hm1.blk hb1 id)
  simp only [↓VG_u, ↓UG_u, ↓MG_u, ↓NG_u, ↓PG_u, ↓BG_u, ↓CG_u, ↓IG_u, ↓VGtt, ↓VGtf, ↓VGft, ↓VGff, ↓UGtt, ↓UGtf, ↓UGft, ↓UGff, ↓MGtt, ↓MGtf, ↓MGft, ↓MGff, ↓NGtt, ↓NGtf, ↓NGft, ↓NGff, ↓PGtt, ↓PGtf, ↓PGft, ↓PGff, ↓BGtt, ↓BGtf, ↓BGft, ↓BGff, ↓CGtt, ↓CGtf, ↓CGft, ↓CGff, ↓IGtt, ↓IGtf, ↓IGft, ↓IGff, ↓PKt, ↓PKf, ↓CDt, ↓CDf, ↓NOTt, ↓NOTf, ↓NK_ptr]
  rw [fo oAc0]
  simp only [↓(fCk h1).e, ↓(fC1 h1).e]
  refine CK_st Tryd.func31 rfl rfl (nOver_ok (hv.calm hm1) _ _ _) ?_
  rintro _ w2 ⟨rfl, rfl⟩
  simp only [↓VG_u, ↓UG_u, ↓MG_u, ↓NG_u, ↓PG_u, ↓BG_u, ↓CG_u, ↓IG_u, ↓VGtt, ↓VGtf, ↓VGft, ↓VGff, ↓UGtt, ↓UGtf, ↓UGft, ↓UGff, ↓MGtt, ↓MGtf, ↓MGft, ↓MGff, ↓NGtt, ↓NGtf, ↓NGft, ↓NGff, ↓PGtt, ↓PGtf, ↓PGft, ↓PGff, ↓BGtt, ↓BGtf, ↓BGft, ↓BGff, ↓CGtt, ↓CGtf, ↓CGft, ↓CGff, ↓IGtt, ↓IGtf, ↓IGft, ↓IGff, ↓PKt, ↓PKf, ↓CDt, ↓CDf, ↓NOTt, ↓NOTf, ↓NK_ptr]
  rw [fo oAc0]
  simp only [↓(fCk h1).e, ↓(fC1 h1).e]
  refine CK_st Tryd.func17 rfl rfl (nMany_ok (hv.calm hm1) _ _) ?_
  rintro _ w3 ⟨rfl, rfl⟩
  simp only [↓VG_u, ↓UG_u, ↓MG_u, ↓NG_u, ↓PG_u, ↓BG_u, ↓CG_u, ↓IG_u, ↓VGtt, ↓VGtf, ↓VGft, ↓VGff, ↓UGtt, ↓UGtf, ↓UGft, ↓UGff, ↓MGtt, ↓MGtf, ↓MGft, ↓MGff, ↓NGtt, ↓NGtf, ↓NGft, ↓NGff, ↓PGtt, ↓PGtf, ↓PGft, ↓PGff, ↓BGtt, ↓BGtf, ↓BGft, ↓BGff, ↓CGtt, ↓CGtf, ↓CGft, ↓CGff, ↓IGtt, ↓IGtf, ↓IGft, ↓IGff, ↓PKt, ↓PKf, ↓CDt, ↓CDf, ↓NOTt, ↓NOTf, ↓NK_ptr, ↓NEf (show (0 : Int) = 0 from rfl)]
  refine CK_st Tryd.func24 rfl rfl (nOdd_ok (hv.calm hm1)) ?_
  rintro _ w4 ⟨rfl, rfl⟩
  rw [len_sl vSs]
  simp only [↓VG_u, ↓UG_u, ↓MG_u, ↓NG_u, ↓PG_u, ↓BG_u, ↓CG_u, ↓IG_u, ↓VGtt, ↓VGtf, ↓VGft, ↓VGff, ↓UGtt, ↓UGtf, ↓UGft, ↓UGff, ↓MGtt, ↓MGtf, ↓MGft, ↓MGff, ↓NGtt, ↓NGtf, ↓NGft, ↓NGff, ↓PGtt, ↓PGtf, ↓PGft, ↓PGff, ↓BGtt, ↓BGtf, ↓BGft, ↓BGff, ↓CGtt, ↓CGtf, ↓CGft, ↓CGff, ↓IGtt, ↓IGtf, ↓IGft, ↓IGff, ↓PKt, ↓PKf, ↓CDt, ↓CDf, ↓NOTt, ↓NOTf, ↓NK_ptr, ↓NEf (show ((0 : Nat) : Int) = 0 from rfl)]
  rw [dispatcherlaw15_CollNil_R4_eq]; unfold dispatcherlaw15_CollNil_R4_F
  refine condF ?_
  refine hK _ _ (fun i hi => ?_) hm1
  repeat rw [up_at, if_neg (by omega)]
theorem CollNil_ok (h : RR w a.rv a.ranks) : Rt Tryd.prog 9 #[.agg a.enc.toArray] w fun v w' => v = .bool true ∧ Mod none_ w w' := by
  refine dispatcherlaw15_CollNil_calls ?_
  unfold dispatcherlaw15_CollNil_F
  refine box_k (cs := a.enc.toArray) rfl fun w1 hb1 hm1 hz1 => ?_
  refine ldS (cs := a.enc.toArray) rfl Tryd.underlying36 rfl iAc hb1 ?_
  refine bs_k (bAcs' h) fun w2 hb2 hm2 hz2 => ?_
  have hm02 := hm1.trans hm2
  refine CK_st Tryd.func10 rfl rfl (Great_ok (acs1 (h.calm hm02) hb2)) ?_
  rintro _ w3 ⟨b, rfl, _, hm3⟩
  have hm03 := hm02.trans hm3
  cases b with
  | true => exact condT ⟨rfl, hm03⟩
  | false =>
  refine condF ?_
  rw [build_ok bC0]
  refine box_k (cs := #[.bool false, .map none]) rfl fun w4 hb4 hm4 hz4 => ?_
  refine bs_k (bCs _) fun w5 hb5 hm5 hz5 => ?_
  have hb15 := ((hm2.trans hm3).trans (hm4.trans hm5)).blk hb1 id
  have hm05 := hm03.trans (hm4.trans hm5)
  have hrd : reads w5 1 (.slice (some ⟨w4.heap.size, 0, none⟩) 2 2) 2 [.pointer none, .pointer (some ⟨w3.heap.size, 0, none⟩)] := reads_blk (size := 1) (n := 2) hb5 rfl
  have hq := hm5.blk hb4 id
  refine W_loop dispatcherlaw15_CollNil_L0_ok (fun ρ w' => ∃ i : Nat, i ≤ 2 ∧ ρ 5 = .int .i64 i ∧ ρ 4 = .slice (some ⟨w4.heap.size, 0, none⟩) 2 2 ∧ ρ 3 = .pointer none ∧ ρ 1 = .pointer (some ⟨w.heap.size, 0, none⟩) ∧ Mod none_ w5 w') (fun ρ _ => 2 - (intOf (ρ 5)).toNat)
    ⟨0, Nat.zero_le _, rfl, rfl, rfl, rfl, Mod.refl _ _⟩ ?_
  rintro ρ w6 ⟨i, hi, e5, e4, e3, e1, hm6⟩
  have hm06 := hm05.trans hm6
  rw [dispatcherlaw15_CollNil_L0_eq]; unfold dispatcherlaw15_CollNil_L0_F
  rw [e5, e4, e1, len_sl vCs, BK_lss]
  by_cases hlt : i < 2
  · rw [decide_eq_true (by omega)]
    refine condT ?_
    obtain ⟨v, hvi, hv⟩ : ∃ v, ([.pointer none, .pointer (some ⟨w3.heap.size, 0, none⟩)] : List Value)[i]? = some v ∧ ∀ w', Mod none_ w5 w' → NoC w' v := by
      have : i = 0 ∨ i = 1 := by omega
      rcases this with rfl | rfl
      · exact ⟨_, rfl, fun _ _ => .inl rfl⟩
      · exact ⟨_, rfl, fun w' hw => .inr ⟨_, rfl, hw.blk hq id⟩⟩
    refine ixld vCs (by kernel_rfl) uC rfl (reads_mod hrd hm6 (fun _ _ _ => id)) (by omega) (by rw [Int.toNat_natCast]; exact hvi) fun y => ?_
    have h6 := acAt_blk (hm6.blk hb15 id)
    simp only [↓(fC0 h6).e, ↓(fC1 h6).e, ↓(fC2 h6).e]
    refine CK_st Tryd.func12 rfl rfl (nBring_ok (hv _ hm6) _ _ _ _) ?_
    rintro _ w7 ⟨rfl, hm7⟩
    have hm57 := hm6.trans hm7
    have h7 := acAt_blk (hm57.blk hb15 id)
    rw [extract_ok (v := .int .i64 0) rfl, extract_ok (v := .int .i64 1) rfl, fo oAc0]
    simp only [↓(fCk h7).e, ↓(fC1 h7).e]
    refine CK_st Tryd.func27 rfl rfl (nTold_ok (hv _ hm57) _ _ _) ?_
    rintro _ w8 ⟨u, rfl, ⟨row, rks, rfl, hr1, hr2⟩, hm8⟩
    rw [extract_ok (v := .agg (tdCells zTd row rks)) rfl, extract_ok (v := .bool false) rfl]
    have hT : TdR w8 (.agg (tdCells zTd row rks)) zTd := ⟨row, rks, rfl, reads_of_owns hr1, reads_of_owns hr2⟩
    obtain ⟨A1, c1, es1, _⟩ := reads_cap (reads_of_owns hr1)
    obtain ⟨A2, c2, es2, _⟩ := reads_cap (reads_of_owns hr2)
    refine lcl_k (cs := tdCells zTd row rks) zTd_z _ iTd rfl (by rw [es1, es2]; exact td_one _ _ _ _ _ _ _) fun w9 hb9 hm9 hz9 => ?_
    have hm59 := (hm57.trans hm8).trans hm9
    refine nil_R2 (b1 := w.heap.size) (b9 := w8.heap.size) (hv _ hm59) (hm59.blk hb15 id) hb9 (hT.calm hm9) ?_ rfl rfl rfl rfl ?_
    · exact e1
    intro ρ' w10 hs hm10
    have s : ∀ i, i < 6 → ρ' i = ρ i := fun i hi => by
      rw [hs i hi]
      repeat rw [up_at, if_neg (by omega)]
    rw [bk_n, sq_n, dispatcherlaw15_CollNil_R3_eq]; unfold dispatcherlaw15_CollNil_R3_F
    rw [s 5 (by decide), e5, BK_add, wrap_i (by omega) (by omega)]
    refine ⟨⟨i + 1, hlt, rfl, ?_, ?_, ?_, hm59.trans hm10⟩, ?_⟩
    · exact (s 4 (by decide)).trans e4
    · exact (s 3 (by decide)).trans e3
    · exact (s 1 (by decide)).trans e1
    · simp only [sq_n, sq_x, sq_r, bk_n, bk_r, bk_x, rt_r, rt_n, rs_0, rs_t, pk_1, pk_2, up_at, reduceIte, Nat.reduceEqDiff, intOf]; omega
  · obtain rfl : i = 2 := by omega
    rw [decide_eq_false (by omega)]
    refine condF ?_
    rw [sq_x, bk_x, sq_n, dispatcherlaw15_CollNil_R1_eq]; unfold dispatcherlaw15_CollNil_R1_F
    simp only [sq_n, sq_x, sq_r, bk_n, bk_r, bk_x, rt_r, rt_n, rs_0, rs_t, pk_1, pk_2, up_at, reduceIte, Nat.reduceEqDiff, e3]
    refine CK_st Tryd.func15 rfl rfl (nCopy_ok _) ?_
    rintro _ w7 ⟨rfl, rfl⟩
    rw [BK_eqlP uC]
    exact ⟨rfl, hm06⟩
end
end Go.Proofs.YtandbmnhghmcgaaDoor.Col
set_option linter.unusedVariables false
set_option maxRecDepth 8000
namespace Go.X
open Go Go.RowKit
def in64 (n : Int) : Prop := -9223372036854775808 ≤ n ∧ n ≤ 9223372036854775807
theorem in64_of {n : Int} (h : (Lit.int .i64 n).wf = true) : in64 n := by
  simp [Lit.wf, IntKind.min, IntKind.max, IntKind.signed, IntKind.bits, IntKind.has] at h
  unfold in64
  omega
end Go.X
namespace Go.Proofs.YtandbmnhghmcgaaDoor.Col
open Go Go.X Go.RowKit
def shPt : Sh Pt := ⟨6, fun w p cs => cs = p.enc ∧ in64 p.color ∧ in64 p.val⟩
def shAc : Sh Ac := ⟨10, fun w a cs => cs = a.enc ∧ RR w a.rv a.ranks ∧ in64 a.p.color⟩
theorem strV_back (b : ByteArray) : strV b.data.toList = .string b := by unfold strV; rw [Array.toArray_toList]
theorem opensPt (n : Nat) : OpensAt Tryd.prog n shPt 34 :=
  opens_as (opens_struct Tryd.underlying34 (by kernel_rfl) (fun m _ => fields_cons rfl (by kernel_rfl) (opens_int Tryd.underlying5) (fields_cons rfl (by kernel_rfl) (opens_int Tryd.underlying3) (fields_cons rfl (by kernel_rfl) (opens_int Tryd.underlying5)
    (fields_cons rfl (by kernel_rfl) (opens_int Tryd.underlying2) (fields_cons rfl (by kernel_rfl) (opens_int Tryd.underlying3) (fields_one rfl (by kernel_rfl) (opens_int Tryd.underlying3))))))))
    (fun x => (⟨x.1, x.2.1, x.2.2.1, x.2.2.2.1, x.2.2.2.2.1, x.2.2.2.2.2⟩ : Pt))
    (fun w v cs h => by
      obtain ⟨c0, d0, rfl, _, ⟨rfl, h0⟩, c1, d1, rfl, _, ⟨rfl, h1⟩, c2, d2, rfl, _, ⟨rfl, h2⟩, c3, d3, rfl, _, ⟨rfl, h3⟩, c4, d4, rfl, _, ⟨rfl, h4⟩, ⟨h5, h6⟩⟩ := h
      subst h5
      exact ⟨rfl, in64_of h4, in64_of h3⟩)
def shG : Sh ((Value × List Int) × ByteArray) := ⟨2, fun w x cs => cs = [.string x.2, x.1.1] ∧ RR w x.1.1 x.1.2⟩
theorem RR_of {w : World} {x : Value × List Int} {cs : List Value} (h : (Sh.slice (Sh.int .i64)).K w x cs) : cs = [x.1] ∧ RR w x.1 x.2 := by
  refine ⟨h.1, ?_⟩
  have := reads_sh h (fun g => [Value.int .i64 g]) (fun _ => rfl) (fun _ _ hd => hd.1)
  have e : ∀ l : List Int, (l.flatMap fun g => [Value.int .i64 g]) = ints l := fun l => by
    unfold ints
    induction l with
    | nil => rfl
    | cons a l ih => rw [List.flatMap_cons, ih]; rfl
  rw [e] at this
  exact this
theorem opensG (n : Nat) : OpensAt Tryd.prog n shG tG :=
  opens_as (opens_struct Tryd.underlying32 (by kernel_rfl) (fun m _ => fields_cons rfl (by kernel_rfl) (opens_string Tryd.underlying9) (fields_one rfl (by kernel_rfl) (opens_slice vIs (by kernel_rfl) (fun m _ => opens_int vI)))))
    (fun x => ((x.2.1, x.2.2), x.1))
    (fun w v cs h => by
      obtain ⟨c0, d0, rfl, _, ⟨rfl, h0⟩, h1⟩ := h
      obtain ⟨e, hr⟩ := RR_of h1
      subst e
      exact ⟨rfl, hr⟩)
theorem opensAc (n : Nat) : OpensAt Tryd.prog n shAc tAc :=
  opens_as (opens_struct Tryd.underlying36 (by kernel_rfl) (fun m _ => fields_cons rfl (by kernel_rfl) (opensG m) (fields_cons rfl (by kernel_rfl) (opens_int Tryd.underlying3) (fields_cons rfl (by kernel_rfl) (opensPt m) (fields_one rfl (by kernel_rfl) (opens_bool Tryd.underlying4))))))
    (fun x => (⟨x.1.2.data.toList, x.1.1.1, x.1.1.2, x.2.1, x.2.2.1, x.2.2.2⟩ : Ac))
    (fun w v cs h => by
      obtain ⟨c0, d0, rfl, _, ⟨h0, h0r⟩, c1, d1, rfl, _, ⟨rfl, h1⟩, c2, d2, rfl, _, ⟨h2, h2c, _⟩, h3⟩ := h
      subst h0 h2 h3
      refine ⟨?_, h0r, h2c⟩
      show _ = Ac.enc _
      simp only [Ac.enc, strV_back]
      rfl)
end Go.Proofs.YtandbmnhghmcgaaDoor.Col
