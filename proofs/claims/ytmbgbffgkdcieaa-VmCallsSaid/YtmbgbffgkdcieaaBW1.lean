/- Several texts of this repo, one behind the other, without what is not used here. -/
import Derived.WalkKit
import Derived.ProofKit
import Derived.OpenShut
import Derived.ShutString
import Derived.ChangeOld
import Derived.Below
import Derived.Carry
import Derived.SizedLaws
import Derived.KernelRfl
import Derived.Deep.Quiet
import Derived.StillTail
import Derived.RangeFuncIn
import Derived.RangeFuncRecord
import Derived.Maps.AppendAt
import Derived.Great.BuildSlice
import Derived.ChangeArms
import Derived.DataReads
import Derived.OrdersHeld
set_option linter.unusedVariables false
namespace Go.X
open Go Go.ChangeShapes Go.WideShapes Go.ChangeAt Go.RowKit
theorem trodAll_lt {H : Type} {enc : TypeId × Value → H} {P : Program} {w : World} {base : Nat} {sp : Nat → Bool} {hd : Bool} : ∀ {ts : List TypeId} {vs : List Value} {ds : List (DataW H)} {p : List MemPlace},
    DataW.TrodAll enc P w base sp hd ts vs ds p → ∀ x ∈ p, x.block < w.heap.size
  | [], [], [], p, h => by
    have : p = [] := h
    subst this
    simp
  | t :: ts, v :: vs, d :: ds, p, h => by
    obtain ⟨p1, q1, h1, h2, rfl⟩ := h
    intro x hx
    rcases List.mem_append.1 hx with hx | hx
    · obtain ⟨m, hm⟩ := h1
      exact DataW.trod_lt m _ _ _ hm x hx
    · exact trodAll_lt h2 x hx
  | [], [], _ :: _, _, h => h.elim
  | [], _ :: _, _, _, h => h.elim
  | _ :: _, [], _, _, h => h.elim
  | _ :: _, _ :: _, [], _, h => h.elim
theorem trodAll_length {H : Type} {enc : TypeId × Value → H} {P : Program} {w : World} {base : Nat} {sp : Nat → Bool} {hd : Bool} : ∀ {ts : List TypeId} {vs : List Value} {ds : List (DataW H)} {p : List MemPlace},
    DataW.TrodAll enc P w base sp hd ts vs ds p → ds.length = ts.length
  | [], [], [], p, h => rfl
  | t :: ts, v :: vs, d :: ds, p, h => by
    obtain ⟨p1, q1, h1, h2, rfl⟩ := h
    simp [trodAll_length h2]
  | [], [], _ :: _, _, h => h.elim
  | [], _ :: _, _, _, h => h.elim
  | _ :: _, [], _, _, h => h.elim
  | _ :: _, _ :: _, [], _, h => h.elim
theorem below_trodAll {H : Type} {enc : TypeId × Value → H} {P : Program} {W W' : World} (hl : laidOutB P = true) (hb : Below W.heap.size W W') : ∀ {ts : List TypeId} {vs : List Value} {ds : List (DataW H)} {p : List MemPlace},
    (ts.all fun t => P.readableRec t && decide (t < P.types.size)) = true → DataW.TrodAll enc P W 0 (fun _ => true) true ts vs ds p → DataW.TrodAll enc P W' 0 (fun b => decide (b < W.heap.size)) true ts vs ds p
  | [], [], [], p, _, h => h
  | t :: ts, v :: vs, d :: ds, p, hr, h => by
    have hlt := trodAll_lt h
    obtain ⟨p1, q1, h1, h2, rfl⟩ := h
    simp only [List.all_cons, Bool.and_eq_true, decide_eq_true_eq] at hr
    exact ⟨p1, q1, Below.trod hl hr.1.1 hr.1.2 h1 hb (fun x hx => hlt x (List.mem_append_left _ hx)), below_trodAll hl hb (by simpa using hr.2) h2, rfl⟩
  | [], [], _ :: _, _, _, h => h.elim
  | [], _ :: _, _, _, _, h => h.elim
  | _ :: _, [], _, _, _, h => h.elim
  | _ :: _, _ :: _, [], _, _, h => h.elim
theorem law_lifted {H : Type} {enc : TypeId × Value → H} {C : Checked} {os : Os} {f : FuncId} {fn : Func} {s : ChangeSpec} {tb : TypeId}
    (own : ownKnob C.prog.godebug = none) (started : os.Started) (noInit : C.prog.inits.idxOf? f = none) (hfn : C.prog.funcs[f]? = some fn) (hvars : s.vars = []) (hlaid : laidOutB C.prog = true)
    (hr : (fn.params.toList.all fun t => C.prog.readableRec t && decide (t < C.prog.types.size)) = true) (hres : fn.resultTypes = #[tb]) (hb : C.prog.underlying tb = some .bool)
    (hspec : ∀ ds : List (DataW H), ds.length = fn.params.toList.length → s.fn H ds = { results := [.lit (.bool true)], args := ds })
    (witness : ∃ (w : World) (tape : Tape) (i : Input), w.os = os ∧ (w.forCall tape i).Shaped C.prog ∧ i.vars = [] ∧ Input.okWide C.prog (w.forCall tape i) .any w.heap.size f i ∧
      s.pre6 enc C.prog fn [] false (w.forCall tape i).memory i.args ∧ ({} : Assume).holds C.prog (lone (Frame.enter C.prog f i.args .normal) [] (w.forCall tape i)))
    (contract : ∀ (W : World) (base : Nat) (args : Array Value) (ds : List (DataW H)) (p : List MemPlace),
      (∀ (j : Nat) t v, fn.params[j]? = some t → args[j]? = some v → Value.okWide C.prog W .any base t v) →
      DataW.TrodAll enc C.prog W 0 (fun _ => true) true fn.params.toList args.toList ds p →
      (DataW.weightsEach C.prog fn.params.toList ds).all (· ≤ reachBytes) = true →
      Calls C.prog f args W fun e W' => e = .returned (.bool true) ∧ Below W.heap.size W W') :
    ReturnsInHanded {} C os f .any (s.pre6 enc C.prog fn [] false) (s.post enc C.prog fn false true false false) := by
  refine returnsInHanded_of_change_sized (C := C) own started noInit hfn witness ?_
  intro W base args ds gs before hval hW hcnd hsz _
  have hW' := hW
  obtain ⟨p, q, hA, hV, rfl, hfz, hnd⟩ := hW
  have hpv : s.plain.varTypes C.prog = [] := by simp [ChangeSpec.plain, DataSpec.varTypes, hvars]
  rw [hvars] at hV
  obtain ⟨rfl, rfl⟩ := trodVars_none hV
  rw [hpv] at hsz
  simp only [List.append_nil] at hsz
  refine (contract W base args ds p hval hA hsz).mono fun e W' ⟨he, bel⟩ => ?_
  subst he
  have hlen := trodAll_length hA
  have hs := hspec ds hlen
  refine ⟨_, rfl, ds, [], _, [], p, [], hW', ?_, ?_, ?_, bel.frame _, fun h => by cases h⟩
  · simp only [List.append_nil, hs, hres]
    exact trodAll_mk1 (shut_bool hb _)
  · simp only [List.append_nil, hs]
    exact below_trodAll hlaid bel hr hA
  · simp only [List.append_nil, hs, hvars]
    exact rfl
end Go.X
set_option linter.unusedVariables false
set_option linter.unusedSimpArgs false
namespace Go.X
open Go
abbrev Sl := Nat → Value
def ev (ρ : Sl) : Operand → Value
  | .tmp t => ρ t
  | .const v => v
  | .global g => .pointer (some ⟨g, 0, none⟩)
  | .func f => .func (.func f) #[] #[]
def up (ρ : Sl) (d : Nat) (v : Value) : Sl := fun i => cond (Nat.beq i d) v (ρ i)
def upo (ρ : Sl) (d : Option Nat) (v : Value) : Sl :=
  match d with
  | some d => up ρ d v
  | none => ρ
structure At where
  r : Option Nat := none
  D : List Deferred := []
def fn_ : At := {}
def FF (c : At) : Fence := { Fence.wide with round := c.r }
structure Lk (z : At) (n : Nat) (a : Act) (ρ : Sl) : Prop where
  size : a.tmps.size = n
  defers : a.defers = z.D
  val : ∀ i, a.tmps.getD i undef = ρ i
theorem Lk.ev {z : At} {n : Nat} {a : Act} {ρ : Sl} (h : Lk z n a ρ) (x : Operand) : a.eval x = ev ρ x := by
  cases x with
  | tmp t => exact h.val t
  | const v => rfl
  | global g => rfl
  | func f => rfl
theorem Lk.put {z : At} {n : Nat} {a : Act} {ρ : Sl} (h : Lk z n a ρ) (d : Option Nat) (v : Value) (hd : ∀ k, d = some k → k < n) : Lk z n (a.put d v) (upo ρ d v) := by
  cases d with
  | none => exact h
  | some k =>
    have hk := hd k rfl
    refine ⟨?_, h.defers, fun i => ?_⟩
    · simp only [Act.put]
      rw [Array.size_setIfInBounds]; exact h.size
    · have hv := h.val i
      simp only [Act.put, upo, up]
      by_cases e : i = k
      · subst e
        have hlt : i < a.tmps.size := by rw [h.size]; exact hk
        simp [Array.getD_eq_getD_getElem?, hlt, Nat.beq_refl]
      · have hb : Nat.beq i k = false := by
          cases hq : Nat.beq i k with
          | false => rfl
          | true => exact absurd (Nat.eq_of_beq_eq_true hq) e
        rw [hb]
        simp only [cond_false]
        simp only [Array.getD_eq_getD_getElem?] at hv ⊢
        rw [Array.getElem?_setIfInBounds]
        rw [if_neg (fun q => e q.symm)]
        simpa using hv
def OpK (P : Program) (s : Sem Next) (w : World) (K : Value → World → Prop) : Prop :=
  match s.run P w with
  | .ok (.value v) w' => K v w'
  | .ok .skip w' => K undef w'
  | .ok (.enter f args) w' => Calls P f args w' fun e w'' => ∃ v, e = .returned v ∧ K v w''
  | .ok (.round l f tmps assign body) w' => RoundIn Fence.wide 0 P l f tmps assign body w' fun e w'' => ∃ v, e = .returned v ∧ K v w''
  | _ => False
def wantB (v : Value) (b : Bool) : Bool := match v with | .bool t => t == b | _ => false
def GuardK (v : Value) (b : Bool) (A B : Prop) : Prop := (wantB v b = true → A) ∧ (wantB v b = false → B)
def CondK (v : Value) (A B : Prop) : Prop := ∃ t, v = .bool t ∧ (t = true → A) ∧ (t = false → B)
def GOp (P : Program) (g : Value) (b : Bool) (s : Sem Next) (w : World) (K : Value → World → Prop) : Prop := GuardK g b (OpK P s w K) (K undef w)
def nilCk (v : Value) : Sem Next := execOp (fun _ => v) { dst := none, op := .nilCheck (.tmp 0), type := 0, pos := "", after := #[], guard := none }
def exo (ρ : Operand → Value) (op : Op) (ty : TypeId) : Sem Next :=
  match op with
  | .build t parts => do pure (.value (← Instr.build t (parts.toList.map fun p => (p.1, ρ p.2)).toArray))
  | .buildSlice t len parts => do pure (.value (← Instr.buildSlice t len (parts.toList.map fun p => (p.1, ρ p.2)).toArray))
  | .makeFunc fn first captured => do pure (.value (← Instr.makeFunc fn (first.toList.map ρ).toArray (captured.toList.map ρ).toArray))
  | .nilCheck x => nilCk (ρ x)
  | .call { callee := .builtin b, args, argTypes } => builtin b argTypes ty ((args.toList.map fun | .const _ => true | _ => false).toArray) (args.toList.map ρ).toArray
  | .call { callee := .value f, args, .. } => do let d ← Deferred.ofValue (ρ f) (args.toList.map ρ).toArray; invoke d.target d.args
  | op => execOp ρ { dst := none, op, type := ty, pos := "", after := #[], guard := none }
theorem arr_map {α β : Type} (f : α → β) (a : Array α) : a.map f = (a.toList.map f).toArray := by
  rw [← Array.toList_map]
theorem exo_eq (ρ : Operand → Value) (o : Oper) : exo ρ o.op o.type = execOp ρ o := by
  obtain ⟨dst, op, ty, pos, after, guard⟩ := o
  cases op with
  | build t parts => simp only [exo, execOp, arr_map]
  | buildSlice t len parts => simp only [exo, execOp, arr_map]
  | makeFunc fn first captured => simp only [exo, execOp, arr_map]
  | nilCheck x => rfl
  | call c =>
    obtain ⟨callee, args, argTypes⟩ := c
    cases callee with
    | value f => simp only [exo, execOp, resolve, arr_map]
    | invoke r m => rfl
    | builtin b =>
      simp only [exo, execOp, resolve, arr_map]
      rfl
  | _ => rfl
def gv (ops : Array Oper) (ρ : Sl) (j : Nat) : Value :=
  match (ops[j]?).bind (·.dst) with
  | some d => ρ d
  | none => undef
def mvOf : Op → Option Operand
  | .move x => some x
  | .assign x => some x
  | _ => none
def sx1 (P : Program) (ops : Array Oper) (o : Oper) (N : Sl → World → Prop) (ρ : Sl) (w : World) : Prop :=
  match o with
  | ⟨dst, op, ty, _, _, g⟩ =>
    match g, dst with
    | none, some d => match mvOf op with
      | some x => N (up ρ d (ev ρ x)) w
      | none => OpK P (exo (ev ρ) op ty) w fun v w' => N (up ρ d v) w'
    | none, none => OpK P (exo (ev ρ) op ty) w fun _ w' => N ρ w'
    | some (j, b), some d => GOp P (gv ops ρ j) b (exo (ev ρ) op ty) w fun v w' => N (up ρ d v) w'
    | some (j, b), none => GOp P (gv ops ρ j) b (exo (ev ρ) op ty) w fun _ w' => N ρ w'
def sxL (P : Program) (ops : Array Oper) (K : Sl → World → Prop) : List Oper → Sl → World → Prop
  | [], ρ, w => K ρ w
  | o :: r, ρ, w => sx1 P ops o (sxL P ops K r) ρ w
def lift (z : At) (n : Nat) (K : Exit → Sl → World → Prop) : Exit → Act → World → Prop := fun e a w => ∃ ρ, Lk z n a ρ ∧ K e ρ w
def W (z : At) (P : Program) (n : Nat) (c : Code) (K : Exit → Sl → World → Prop) (ρ : Sl) (w : World) : Prop :=
  ∀ a, Lk z n a ρ → c.wpIn (FF z) 0 P (lift z n K) a w
def seqK (N : Sl → World → Prop) (K : Exit → Sl → World → Prop) : Exit → Sl → World → Prop
  | .normal => N
  | e => K e
def blkK (id : Nat) (K : Exit → Sl → World → Prop) : Exit → Sl → World → Prop
  | .exit i => if Nat.beq i id then K .normal else K (.exit i)
  | e => K e
def sx (z : At) (P : Program) (n : Nat) : Code → (Exit → Sl → World → Prop) → Sl → World → Prop
  | .skip, K, ρ, w => K .normal ρ w
  | .region id ops false, K, ρ, w => sxL P ops (K .normal) ops.toList ρ w
  | .seq a b, K, ρ, w => sx z P n a (seqK (sx z P n b K) K) ρ w
  | .cond c x y, K, ρ, w => CondK (ev ρ c) (sx z P n x K ρ w) (sx z P n y K ρ w)
  | .block id c, K, ρ, w => sx z P n c (blkK id K) ρ w
  | .exit id, K, ρ, w => K (.exit id) ρ w
  | .ret, K, ρ, w => K .ret ρ w
  | .label _, K, ρ, w => K .normal ρ w
  | c, K, ρ, w => W z P n c K ρ w
def isDefer : Op → Bool
  | .defer _ => true
  | _ => false
def oOk (n : Nat) (o : Oper) : Bool := (match o.dst with | some d => Nat.blt d n | none => true) && !isDefer o.op
def dstOk (n : Nat) : Code → Bool
  | .region _ ops _ => ops.toList.all (oOk n)
  | .seq a b => dstOk n a && dstOk n b
  | .cond _ a b => dstOk n a && dstOk n b
  | .block _ c => dstOk n c
  | .scope c => dstOk n c
  | .loop c => dstOk n c
  | _ => true
theorem yielded_gv {z : At} {n : Nat} {a : Act} {ρ : Sl} (h : Lk z n a ρ) (ops : Array Oper) (j : Nat) : yielded ops a.tmps j = (match gv ops ρ j with | .bool t => some t | _ => none) := by
  unfold gv yielded
  cases hq : (ops[j]?).bind (·.dst) with
  | none => simp [undef]
  | some d =>
    have hd := h.val d
    simp only [Option.bind_some]
    cases hz : a.tmps[d]? with
    | none =>
      rw [Array.getD_eq_getD_getElem?, hz] at hd
      simp only [Option.getD_none] at hd
      rw [← hd]
      simp [undef]
    | some v =>
      rw [Array.getD_eq_getD_getElem?, hz] at hd
      simp only [Option.getD_some] at hd
      rw [← hd]
      cases v <;> simp
theorem wanted_gv {z : At} {n : Nat} {a : Act} {ρ : Sl} (h : Lk z n a ρ) (ops : Array Oper) {o : Oper} {j : Nat} {b : Bool} (hg : o.guard = some (j, b)) : Region.wanted o (yielded ops a.tmps) = wantB (gv ops ρ j) b := by
  unfold Region.wanted
  rw [hg]
  dsimp only
  rw [yielded_gv h ops j]
  unfold wantB
  cases gv ops ρ j <;> simp
theorem opK_wp {P : Program} {z : At} {n : Nat} {a : Act} {ρ : Sl} {o : Oper} {w : World} {K : Value → World → Prop} {next : Act → World → Prop} {Q : Exit → Act → World → Prop}
    (hdf : isDefer o.op = false) (h : Lk z n a ρ) (hk : OpK P (exo (ev ρ) o.op o.type) w K) (hn : ∀ v w', K v w' → next (a.put o.dst v) w') : o.wpIn (FF z) 0 P a w next Q := by
  have he : a.eval = ev ρ := funext (fun x => h.ev x)
  refine ⟨fun _ _ => trivial, ?_⟩
  rw [Oper.semAt_eq _ _ _ (fun c hc => by rw [hc] at hdf; cases hdf), he]
  rw [exo_eq] at hk
  unfold OpK at hk
  unfold Oper.uponIn
  split at hk
  · rename_i v w' hr; rw [hr]; exact hn _ _ hk
  · rename_i w' hr; rw [hr]; exact hn _ _ hk
  · rename_i f args w' hr
    rw [hr]
    refine ⟨fun q => by simp [FF, Fence.wide] at q, ?_⟩
    have hk' : CallsIn Fence.wide 0 P f args w' fun e w'' => ∃ v, e = .returned v ∧ K v w'' := callsIn_wide.2 hk
    refine CallsIn.mono (F := FF z) (n := 0) hk' ?_
    rintro e w'' ⟨v, rfl, hv⟩
    exact hn _ _ hv
  · rename_i l f tmps assign body w' hr
    rw [hr]
    refine ⟨fun q => by simp [FF, Fence.wide] at q, ?_⟩
    refine RoundIn.mono (F := FF z) (n := 0) hk ?_
    rintro e w'' ⟨v, rfl, hv⟩
    exact hn _ _ hv
  · exact hk.elim
theorem sx1_eq (P : Program) (ops : Array Oper) (o : Oper) (N : Sl → World → Prop) (ρ : Sl) (w : World) :
    sx1 P ops o N ρ w = match o.guard with
      | none => OpK P (exo (ev ρ) o.op o.type) w fun v w' => N (upo ρ o.dst v) w'
      | some (j, b) => GOp P (gv ops ρ j) b (exo (ev ρ) o.op o.type) w fun v w' => N (upo ρ o.dst v) w' := by
  obtain ⟨dst, op, ty, pos, after, guard⟩ := o
  cases guard with
  | none =>
    cases dst with
    | none => rfl
    | some d => cases op <;> rfl
  | some jb => cases dst <;> rfl
theorem oOk_dst {n : Nat} {o : Oper} (h : oOk n o = true) : ∀ k, o.dst = some k → k < n := by
  intro k hk
  simp only [oOk, Bool.and_eq_true] at h
  have := h.1
  rw [hk] at this
  exact Nat.lt_of_lt_of_le (Nat.lt_succ_self _) (Nat.le_of_ble_eq_true this)
theorem oOk_df {n : Nat} {o : Oper} (h : oOk n o = true) : isDefer o.op = false := by
  simp only [oOk, Bool.and_eq_true, Bool.not_eq_true'] at h
  exact h.2
theorem sx1_wp {P : Program} {z : At} {n : Nat} {ops : Array Oper} {Q : Exit → Act → World → Prop} {o : Oper} {N : Sl → World → Prop} {next : Act → World → Prop} {a : Act} {ρ : Sl} {w : World}
    (ho : oOk n o = true) (hl : Lk z n a ρ) (h : sx1 P ops o N ρ w) (hn : ∀ a ρ w, Lk z n a ρ → N ρ w → next a w) :
    if Region.wanted o (yielded ops a.tmps) then o.wpIn (FF z) 0 P a w next Q else next (a.put o.dst undef) w := by
  have hd := oOk_dst ho
  rw [sx1_eq] at h
  cases hg : o.guard with
  | none =>
    rw [hg] at h
    have hw : Region.wanted o (yielded ops a.tmps) = true := by unfold Region.wanted; rw [hg]
    rw [hw]
    simp only [if_true]
    exact opK_wp (oOk_df ho) hl h fun v w' hv => hn _ _ _ (hl.put _ _ hd) hv
  | some jb =>
    obtain ⟨j, b⟩ := jb
    rw [hg] at h
    obtain ⟨h1, h2⟩ := h
    have hy := wanted_gv hl ops hg
    by_cases htb : wantB (gv ops ρ j) b = true
    · have hw : Region.wanted o (yielded ops a.tmps) = true := hy.trans htb
      rw [hw]
      simp only [if_true]
      exact opK_wp (oOk_df ho) hl (h1 htb) fun v w' hv => hn _ _ _ (hl.put _ _ hd) hv
    · have htb : wantB (gv ops ρ j) b = false := Bool.eq_false_iff.2 htb
      have hw : Region.wanted o (yielded ops a.tmps) = false := hy.trans htb
      rw [hw]
      simp only [Bool.false_eq_true, if_false]
      exact hn _ _ _ (hl.put _ _ hd) (h2 htb)
theorem oOk_at {n : Nat} {ops : Array Oper} (hd : (ops.toList.all (oOk n)) = true) {i : Nat} {o : Oper} (ho : ops[i]? = some o) : oOk n o = true := by
  have hm : o ∈ ops.toList := by
    obtain ⟨hi, hv⟩ := Array.getElem?_eq_some_iff.1 ho
    rw [← hv]; exact Array.getElem_mem_toList hi
  exact List.all_eq_true.1 hd o hm
theorem sxL_wp {P : Program} {z : At} {n : Nat} {ops : Array Oper} {K : Sl → World → Prop} {Q : Exit → Act → World → Prop}
    (hd : (ops.toList.all (oOk n)) = true)
    (hQ : ∀ a ρ w, Lk z n a ρ → K ρ w → Q .normal a w) (m : Nat) : ∀ k a ρ w, k + m = ops.size → Lk z n a ρ → sxL P ops K (ops.toList.drop k) ρ w → wpOpsIn (FF z) 0 P ops Q (List.range' k m) a w := by
  induction m with
  | zero =>
    intro k a ρ w hk hl h
    rw [List.drop_of_length_le (by simp; omega)] at h
    exact hQ a ρ w hl h
  | succ m ih =>
    intro k a ρ w hk hl h
    have hlt : k < ops.toList.length := by simp; omega
    rw [List.drop_eq_getElem_cons hlt] at h
    have ho : ops[k]? = some ops.toList[k] := by
      rw [← Array.getElem?_toList]
      exact List.getElem?_eq_getElem hlt
    show wpOpsIn (FF z) 0 P ops Q (k :: List.range' (k + 1) m) a w
    unfold wpOpsIn
    rw [ho]
    have := sx1_wp (Q := Q) (oOk_at hd ho) hl h (fun a ρ w hl hq => ih (k + 1) a ρ w (by omega) hl hq)
    dsimp only
    split at this
    · rename_i hw; rw [if_pos hw]; exact this
    · rename_i hw; rw [if_neg hw]; exact ⟨fun _ _ => trivial, this⟩
theorem sx_W {P : Program} {z : At} {n : Nat} : ∀ (c : Code) (K : Exit → Sl → World → Prop) (ρ : Sl) (w : World), dstOk n c = true → sx z P n c K ρ w → W z P n c K ρ w
  | .skip, K, ρ, w, _, h => fun a hl => wpIn_skip ⟨ρ, hl, h⟩
  | .region id ops false, K, ρ, w, hd, h => fun a hl => wpIn_region (by rw [List.range_eq_range']; exact sxL_wp hd (fun a ρ w hl hk => ⟨ρ, hl, hk⟩) ops.size 0 a ρ w (by omega) hl h)
  | .region id ops true, K, ρ, w, hd, h => h
  | .seq x y, K, ρ, w, hd, h => by
    intro a hl
    simp only [dstOk, Bool.and_eq_true] at hd
    refine wpIn_seq (wpIn_mono (sx_W x _ ρ w hd.1 h a hl) ?_)
    rintro e a' w' ⟨ρ', hl', hk⟩
    cases e with
    | normal => exact sx_W y K ρ' w' hd.2 hk a' hl'
    | exit id => exact ⟨ρ', hl', hk⟩
    | goto l => exact ⟨ρ', hl', hk⟩
    | ret => exact ⟨ρ', hl', hk⟩
    | panic c => exact ⟨ρ', hl', hk⟩
    | outgrown => exact ⟨ρ', hl', hk⟩
  | .cond c x y, K, ρ, w, hd, h => by
    intro a hl
    simp only [dstOk, Bool.and_eq_true] at hd
    obtain ⟨t, hv, h1, h2⟩ := h
    exact wpIn_cond_split ((hl.ev c).trans hv) (fun ht => sx_W x K ρ w hd.1 (h1 ht) a hl) (fun ht => sx_W y K ρ w hd.2 (h2 ht) a hl)
  | .block id c, K, ρ, w, hd, h => by
    intro a hl
    refine wpIn_block (wpIn_mono (sx_W c _ ρ w hd h a hl) ?_)
    rintro e a' w' ⟨ρ', hl', hk⟩
    cases e with
    | exit i =>
      simp only [Exit.inBlock]
      unfold blkK at hk
      dsimp only at hk
      by_cases e : i = id
      · subst e
        rw [if_pos rfl]
        rw [if_pos (Nat.beq_refl i)] at hk
        exact ⟨ρ', hl', hk⟩
      · rw [if_neg e]
        rw [if_neg (fun q => e (Nat.eq_of_beq_eq_true q))] at hk
        exact ⟨ρ', hl', hk⟩
    | normal => exact ⟨ρ', hl', hk⟩
    | goto l => exact ⟨ρ', hl', hk⟩
    | ret => exact ⟨ρ', hl', hk⟩
    | panic c => exact ⟨ρ', hl', hk⟩
    | outgrown => exact ⟨ρ', hl', hk⟩
  | .exit id, K, ρ, w, hd, h => fun a hl => wpIn_exit ⟨ρ, hl, h⟩
  | .ret, K, ρ, w, hd, h => fun a hl => wpIn_ret ⟨ρ, hl, h⟩
  | .label _, K, ρ, w, hd, h => fun a hl => wpIn_label ⟨ρ, hl, h⟩
  | .loop c, K, ρ, w, hd, h => h
  | .rangeFunc .., K, ρ, w, hd, h => h
  | .scope _, K, ρ, w, hd, h => h
  | .goto _, K, ρ, w, hd, h => h
  | .refuse _, K, ρ, w, hd, h => h
theorem W_loop {P : Program} {z : At} {n : Nat} {c : Code} {K : Exit → Sl → World → Prop} {ρ : Sl} {w : World} (hd : dstOk n c = true) (I : Sl → World → Prop) (μ : Sl → World → Nat) (h0 : I ρ w)
    (round : ∀ ρ w, I ρ w → sx z P n c (seqK (fun ρ' w' => I ρ' w' ∧ μ ρ' w' < μ ρ w) K) ρ w) : W z P n (.loop c) K ρ w := by
  intro a hl
  let M : Act → World → Nat := fun a w => μ (fun i => a.tmps.getD i undef) w
  have hM : ∀ a ρ w, Lk z n a ρ → M a w = μ ρ w := by
    intro a ρ w hl
    have : (fun i => a.tmps.getD i undef) = ρ := funext hl.val
    show μ (fun i => a.tmps.getD i undef) w = μ ρ w
    rw [this]
  refine wpIn_loop (fun a w => ∃ ρ, Lk z n a ρ ∧ I ρ w) M ⟨ρ, hl, h0⟩ ?_
  rintro a w ⟨ρ, hl, hI⟩
  refine wpIn_mono (sx_W c _ ρ w hd (round ρ w hI) a hl) ?_
  rintro e a' w' ⟨ρ', hl', hk⟩
  cases e with
  | normal => exact ⟨⟨ρ', hl', hk.1⟩, by rw [hM a' ρ' w' hl', hM a ρ w hl]; exact hk.2⟩
  | exit id => exact ⟨ρ', hl', hk⟩
  | goto l => exact ⟨ρ', hl', hk⟩
  | ret => exact ⟨ρ', hl', hk⟩
  | panic c => exact ⟨ρ', hl', hk⟩
  | outgrown => exact ⟨ρ', hl', hk⟩
def noRound (P : Program) : Op → Bool
  | .call { callee := .value (.func f), .. } => (P.funcs[f]?).any fun fn => fn.body.isSome && !(fn.name == "runtime.NumGoroutine")
  | .call { callee := .builtin .append, .. } => true
  | .call { callee := .builtin .len, .. } => true
  | .call { callee := .builtin .max, .. } => true
  | .call { callee := .builtin .min, .. } => true
  | .call { callee := .builtin .copy, .. } => true
  | .move _ | .assign _ | .pick .. | .alloc _ | .box .. | .build .. | .buildSlice .. | .load .. | .store .. | .binOp .. | .unOp .. | .convert .. | .makeFunc .. | .makeMap .. | .makeSlice .. | .slice .. | .fieldAddr .. | .indexAddr .. | .lookup .. | .mapUpdate .. | .mapEntry .. | .entryStore .. | .field .. | .index .. | .makeInterface .. | .extract .. => true
  | _ => false
theorem run_value_ne {P : Program} {w w' : World} (s : Sem Value) (l : Nat) (f : FuncId) (t : Array Value) (x y : Code) : (do pure (Next.value (← s)) : Sem Next).run P w ≠ .ok (.round l f t x y) w' := by
  rw [Sem.run_bind]
  cases s.run P w with
  | ok v w1 => simp
  | halt h w1 => simp
theorem run_skip_ne {P : Program} {w w' : World} (s : Sem Unit) (l : Nat) (f : FuncId) (t : Array Value) (x y : Code) : (do s; pure Next.skip : Sem Next).run P w ≠ .ok (.round l f t x y) w' := by
  rw [Sem.run_bind]
  cases s.run P w with
  | ok v w1 => simp
  | halt h w1 => simp
theorem noRound_run {P : Program} {w w' : World} {ρ : Operand → Value} {o : Oper} {l : Nat} {f : FuncId} {t : Array Value} {x y : Code} (hρ : ∀ k, ρ (.func k) = .func (.func k) #[] #[]) (h : noRound P o.op = true) : (execOp ρ o).run P w ≠ .ok (.round l f t x y) w' := by
  obtain ⟨dst, op, ty, pos, after, guard⟩ := o
  dsimp only at h
  cases op with
  | move a => intro q; cases q
  | assign a => intro q; cases q
  | pick c a b =>
    show ((asBool (ρ c)) >>= fun t => pure (Next.value (if t then ρ a else ρ b)) : Sem Next).run P w ≠ _
    rw [Sem.run_bind]
    cases (asBool (ρ c)).run P w with
    | ok v w1 => simp
    | halt h w1 => simp
  | store t a v => exact run_skip_ne _ _ _ _ _ _
  | mapUpdate t m k v => exact run_skip_ne _ _ _ _ _ _
  | entryStore t m k v => exact run_skip_ne _ _ _ _ _ _
  | call c =>
    obtain ⟨callee, args, argTypes⟩ := c
    cases callee with
    | invoke r m => simp [noRound] at h
    | builtin b =>
      cases b <;> first | (simp [noRound] at h; done) | exact run_value_ne _ _ _ _ _ _
    | value g =>
      cases g <;> first | (simp [noRound] at h; done) | skip
      rename_i k
      simp only [noRound] at h
      cases hk : P.funcs[k]? with
      | none => rw [hk] at h; simp at h
      | some fn =>
        rw [hk] at h
        simp only [Option.any_some, Bool.and_eq_true, Bool.not_eq_true'] at h
        obtain ⟨h1, h2⟩ := h
        have hb' : fn.body ≠ none := by intro q; rw [q] at h1; cases h1
        have hn' : fn.name ≠ "runtime.NumGoroutine" := by intro q; rw [q] at h2; simp at h2
        have hc : (callFunc k ((args.map ρ) ++ #[])).run P w = .ok (.enter k ((args.map ρ) ++ #[])) w := by
          simp [callFunc, program, Sem.run, hk, hb', hn', Sem.run_bind, pure, bind, Sem.bind]
        intro q
        by_cases hf : ρ (.func k) = .func (.func k) #[] #[]
        · have he : (execOp ρ { dst := dst, op := .call { callee := .value (.func k), args := args, argTypes := argTypes }, type := ty, pos := pos, after := after, guard := guard }).run P w = .ok (.enter k ((args.map ρ) ++ #[])) w := by
            simp only [execOp, resolve, hf, Deferred.ofValue, Sem.run_bind, Sem.run_pure, Result.andThen_ok, invoke, Array.empty_append]
            exact hc
          rw [he] at q
          cases q
        · exact absurd (hρ k) hf
  | _ => first | (simp [noRound] at h; done) | exact run_value_ne _ _ _ _ _ _
def dstsIn (n : Nat) (ops : Array Oper) : Bool := ops.toList.all (oOk n)
def QK (P : Program) (C : World → Prop) (s : Sem Next) (K : Value → Prop) : Prop := ∃ v, (∀ w, C w → Oper.quietUpon P C w v (s.run P w)) ∧ K v
def QG (P : Program) (C : World → Prop) (g : Value) (b : Bool) (s : Sem Next) (K : Value → Prop) : Prop := GuardK g b (QK P C s K) (K undef)
def sxq1 (P : Program) (C : World → Prop) (ops : Array Oper) (o : Oper) (N : Sl → Prop) (ρ : Sl) : Prop :=
  match o with
  | ⟨dst, op, ty, _, _, g⟩ =>
    match g, dst with
    | none, some d => match mvOf op with
      | some x => N (up ρ d (ev ρ x))
      | none => QK P C (exo (ev ρ) op ty) fun v => N (up ρ d v)
    | none, none => QK P C (exo (ev ρ) op ty) fun _ => N ρ
    | some (j, b), some d => QG P C (gv ops ρ j) b (exo (ev ρ) op ty) fun v => N (up ρ d v)
    | some (j, b), none => QG P C (gv ops ρ j) b (exo (ev ρ) op ty) fun _ => N ρ
def sxq (P : Program) (C : World → Prop) (ops : Array Oper) (K : Sl → Prop) : List Oper → Sl → Prop
  | [], ρ => K ρ
  | o :: r, ρ => sxq1 P C ops o (sxq P C ops K r) ρ
theorem sxq1_eq (P : Program) (C : World → Prop) (ops : Array Oper) (o : Oper) (N : Sl → Prop) (ρ : Sl) (h : sxq1 P C ops o N ρ) :
    match o.guard with
      | none => QK P C (exo (ev ρ) o.op o.type) fun v => N (upo ρ o.dst v)
      | some (j, b) => QG P C (gv ops ρ j) b (exo (ev ρ) o.op o.type) fun v => N (upo ρ o.dst v) := by
  obtain ⟨dst, op, ty, pos, after, guard⟩ := o
  cases guard with
  | none =>
    cases dst with
    | none => exact h
    | some d =>
      cases op <;> first | exact h | exact ⟨_, fun w _ => ⟨rfl, rfl⟩, h⟩
  | some jb => cases dst <;> exact h
theorem sxq1_wp {P : Program} {z : At} {n : Nat} {C : World → Prop} {ops : Array Oper} {o : Oper} {N : Sl → Prop} {next : Act → Prop} {a : Act} {ρ : Sl}
    (hd : ∀ k, o.dst = some k → k < n) (hl : Lk z n a ρ) (h : sxq1 P C ops o N ρ) (hn : ∀ a ρ, Lk z n a ρ → N ρ → next a) :
    if Region.wanted o (yielded ops a.tmps) then o.quiet P a C next else next (a.put o.dst undef) := by
  have he : a.eval = ev ρ := funext (fun x => hl.ev x)
  have h := sxq1_eq P C ops o N ρ h
  have key : ∀ (hk : QK P C (exo (ev ρ) o.op o.type) fun v => N (upo ρ o.dst v)), o.quiet P a C next := by
    rintro ⟨v, h1, h2⟩
    refine ⟨v, fun w hw => ?_, hn _ _ (hl.put _ _ hd) h2⟩
    unfold Oper.quietAt
    rw [he, ← exo_eq]
    exact h1 w hw
  cases hg : o.guard with
  | none =>
    rw [hg] at h
    have hw : Region.wanted o (yielded ops a.tmps) = true := by unfold Region.wanted; rw [hg]
    rw [hw]
    simp only [if_true]
    exact key h
  | some jb =>
    obtain ⟨j, b⟩ := jb
    rw [hg] at h
    obtain ⟨h1, h2⟩ := h
    have hy := wanted_gv hl ops hg
    by_cases htb : wantB (gv ops ρ j) b = true
    · have hw : Region.wanted o (yielded ops a.tmps) = true := hy.trans htb
      rw [hw]
      simp only [if_true]
      exact key (h1 htb)
    · have htb : wantB (gv ops ρ j) b = false := Bool.eq_false_iff.2 htb
      have hw : Region.wanted o (yielded ops a.tmps) = false := hy.trans htb
      rw [hw]
      simp only [Bool.false_eq_true, if_false]
      exact hn _ _ (hl.put _ _ hd) (h2 htb)
theorem sxq_quiet {P : Program} {z : At} {n : Nat} {C : World → Prop} {ops : Array Oper} {K : Sl → Prop} {Q : Act → Prop} (hQ : ∀ a ρ, Lk z n a ρ → K ρ → Q a) : ∀ (l : List Oper) a ρ,
    (l.all (oOk n)) = true → Lk z n a ρ → sxq P C ops K l ρ → wpQuiet P ops C Q l a
  | [], a, ρ, _, hl, h => hQ a ρ hl h
  | o :: r, a, ρ, hd, hl, h => by
    simp only [List.all_cons, Bool.and_eq_true] at hd
    exact sxq1_wp (n := n) (oOk_dst hd.1) hl h (fun a ρ hl hq => sxq_quiet hQ r a ρ hd.2 hl hq)
theorem quiet_still {P : Program} {w : World} {ops : Array Oper} {Q : Act → Prop} : ∀ (l : List Oper) (a : Act), wpQuiet P ops (fun w' => w' = w) Q l a → wpStill P ops w Q l a
  | [], a, h => h
  | o :: r, a, h => by
    unfold wpQuiet at h
    unfold wpStill
    split at h
    · rename_i hw
      rw [if_pos hw]
      obtain ⟨v, h1, h2⟩ := h
      have h3 := h1 w rfl
      unfold Oper.quietAt at h3
      unfold Oper.still
      generalize (execOp a.eval o).run P w = x at *
      cases x with
      | halt x w' => exact h3.elim
      | ok x w' =>
        cases x <;> first | exact h3.elim | skip
        case value u => obtain ⟨rfl, rfl⟩ := h3; exact ⟨rfl, quiet_still r _ h2⟩
        case skip => obtain ⟨rfl, rfl⟩ := h3; exact ⟨rfl, quiet_still r _ h2⟩
        case enter f args => obtain ⟨rfl, hc⟩ := h3; exact ⟨rfl, v, hc, quiet_still r _ h2⟩
    · rename_i hw
      rw [if_neg hw]
      exact quiet_still r _ h
theorem W_quiet {P : Program} {n : Nat} {D : List Deferred} {id : Nat} {ops : Array Oper} {K : Exit → Sl → World → Prop} {ρ : Sl} {w : World} (C : World → Prop) (hd : dstsIn n ops = true)
    (hm : P.follows .mixedOrders = true) (hB : Region.lexB .any ops = true) (hC : C { w with drawn := w.drawn + 1 })
    (h : sxq P C ops (fun ρ' => ∀ w', C w' → K .normal ρ' w') ops.toList ρ) : W ⟨none, D⟩ P n (.region id ops true) K ρ w := by
  intro a hl
  refine wpIn_wide.2 (wp_region_quiet (C := C) hm hB hC ?_)
  exact sxq_quiet (n := n) (fun a ρ hl hq w' hw' => ⟨ρ, hl, hq w' hw'⟩) _ a ρ hd hl h
theorem sx1_wp0 {P : Program} {D : List Deferred} {n : Nat} {ops : Array Oper} {Q : Exit → Act → World → Prop} {o : Oper} {N : Sl → World → Prop} {next : Act → World → Prop} {a : Act} {ρ : Sl} {w : World}
    (hr : noRound P o.op = true) (hd : ∀ k, o.dst = some k → k < n) (hl : Lk ⟨none, D⟩ n a ρ) (h : sx1 P ops o N ρ w) (hn : ∀ a ρ w, Lk ⟨none, D⟩ n a ρ → N ρ w → next a w) :
    if Region.wanted o (yielded ops a.tmps) then o.wp P a w next Q ∨ (o.asks P a w ∧ LetsOut Q) else next (a.put o.dst undef) w := by
  have he : a.eval = ev ρ := funext (fun x => hl.ev x)
  rw [sx1_eq] at h
  have key : ∀ (hk : OpK P (exo (ev ρ) o.op o.type) w fun v w' => N (upo ρ o.dst v) w'), o.wp P a w next Q := by
    intro hk
    unfold Oper.wp
    rw [he]
    rw [exo_eq] at hk
    unfold OpK at hk
    unfold Oper.upon
    split at hk
    · rename_i v w' hr; rw [hr]; exact hn _ _ _ (hl.put _ _ hd) hk
    · rename_i w' hr; rw [hr]; exact hn _ _ _ (hl.put _ _ hd) hk
    · rename_i f args w' hr
      rw [hr]
      refine hk.mono ?_
      rintro e w'' ⟨v, rfl, hv⟩
      exact hn _ _ _ (hl.put _ _ hd) hv
    · rename_i l f tmps assign body w' hrun
      exact absurd hrun (noRound_run (fun _ => rfl) hr)
    · exact hk.elim
  cases hg : o.guard with
  | none =>
    rw [hg] at h
    have hw : Region.wanted o (yielded ops a.tmps) = true := by unfold Region.wanted; rw [hg]
    rw [hw]
    simp only [if_true]
    exact .inl (key h)
  | some jb =>
    obtain ⟨j, b⟩ := jb
    rw [hg] at h
    obtain ⟨h1, h2⟩ := h
    have hy := wanted_gv hl ops hg
    by_cases htb : wantB (gv ops ρ j) b = true
    · have hw : Region.wanted o (yielded ops a.tmps) = true := hy.trans htb
      rw [hw]
      simp only [if_true]
      exact .inl (key (h1 htb))
    · have htb : wantB (gv ops ρ j) b = false := Bool.eq_false_iff.2 htb
      have hw : Region.wanted o (yielded ops a.tmps) = false := hy.trans htb
      rw [hw]
      simp only [Bool.false_eq_true, if_false]
      exact hn _ _ _ (hl.put _ _ hd) (h2 htb)
theorem sxL_list {P : Program} {D : List Deferred} {n : Nat} {ops : Array Oper} {K : Sl → World → Prop} {Q : Exit → Act → World → Prop} (hQ : ∀ a ρ w, Lk ⟨none, D⟩ n a ρ → K ρ w → Q .normal a w) : ∀ (l : List Oper) a ρ w,
    (l.all (oOk n)) = true → (l.all fun o => noRound P o.op) = true → Lk ⟨none, D⟩ n a ρ → sxL P ops K l ρ w → wpList P ops Q l a w
  | [], a, ρ, w, _, _, hl, h => hQ a ρ w hl h
  | o :: r, a, ρ, w, hd, hr, hl, h => by
    simp only [List.all_cons, Bool.and_eq_true] at hd hr
    unfold wpList
    exact sx1_wp0 (n := n) hr.1 (oOk_dst hd.1) hl h (fun a ρ w hl hq => sxL_list hQ r a ρ w hd.2 hr.2 hl hq)
theorem W_tail {P : Program} {n : Nat} {D : List Deferred} {id : Nat} {ops : Array Oper} {K : Exit → Sl → World → Prop} {ρ : Sl} {w : World} (m : Nat) (hd : dstsIn n ops = true) (hr : ((ops.toList.drop m).all fun o => noRound P o.op) = true)
    (hm : P.follows .mixedOrders = true) (hB : Region.lexTailB .any ops m = true)
    (h : sxq P (fun w' => w' = { w with drawn := w.drawn + 1 }) ops (fun ρ' => sxL P ops (K .normal) (ops.toList.drop m) ρ' { w with drawn := w.drawn + 1 }) (ops.toList.take m) ρ) : W ⟨none, D⟩ P n (.region id ops true) K ρ w := by
  intro a hl
  obtain ⟨l⟩ := ops
  have ht : ((l.take m).all (oOk n)) = true := List.all_eq_true.2 fun o ho => List.all_eq_true.1 hd o (List.mem_of_mem_take ho)
  have hdr : ((l.drop m).all (oOk n)) = true := List.all_eq_true.2 fun o ho => List.all_eq_true.1 hd o (List.mem_of_mem_drop ho)
  refine wpIn_wide.2 (wp_region_still_tail m hm hB (quiet_still _ _ ?_))
  refine sxq_quiet (n := n) (fun a ρ hl hq => ?_) _ a ρ ht hl h
  exact sxL_list (fun a ρ w hl hq => ⟨ρ, hl, hq⟩) _ a ρ _ hdr hr hl hq
def rho0 (args : List Value) : Sl := fun i => args.getD i undef
def resK (P : Program) (ρ : Sl) (k : List Value → World → Prop) : List ResultVar → World → Prop
  | [], w => k [] w
  | .tmp t :: r, w => resK P ρ (fun vs w => k (ρ t :: vs) w) r w
  | .cell x t :: r, w => ∃ v, (do loadVar t (← asAddr (ρ x)) : Sem Value).run P w = .ok v w ∧ resK P ρ (fun vs w => k (v :: vs) w) r w
def packV : List Value → Value
  | [v] => v
  | vs => .tuple vs.toArray
def retK (P : Program) (rs : List ResultVar) (R : Value → World → Prop) : Exit → Sl → World → Prop
  | .normal, ρ, w | .ret, ρ, w => resK P ρ (fun vs w => R (packV vs) w) rs w
  | _, _, _ => False
theorem resK_run {P : Program} {ρ : Sl} {w : World} (g : ResultVar → Sem Value) (hg : ∀ t, g (.tmp t) = Sem.pure (ρ t)) (hc : ∀ x t, g (.cell x t) = (do loadVar t (← asAddr (ρ x)))) (l : List ResultVar) :
    ∀ (k : List Value → World → Prop), resK P ρ k l w → ∃ vs, (l.mapM g).run P w = .ok vs w ∧ k vs w := by
  induction l with
  | nil => intro k h; exact ⟨[], rfl, h⟩
  | cons x r ih =>
    intro k h
    cases x with
    | tmp t =>
      obtain ⟨vs, hr, hk⟩ := ih _ h
      refine ⟨ρ t :: vs, ?_, hk⟩
      rw [List.mapM_cons, hg, Sem.run_bind]
      show ((List.mapM g r >>= fun us => pure (ρ t :: us)) : Sem (List Value)).run P w = _
      rw [Sem.run_bind, hr]
      rfl
    | cell x t =>
      obtain ⟨v, hv, h⟩ := h
      obtain ⟨vs, hr, hk⟩ := ih _ h
      refine ⟨v :: vs, ?_, hk⟩
      rw [List.mapM_cons, hc, Sem.run_bind, hv]
      simp only [Result.andThen_ok, Sem.run_bind, hr]
      rfl
theorem results_of_resK {P : Program} {z : At} {n : Nat} {fn : Func} {a : Act} {ρ : Sl} {w : World} {R : Value → World → Prop} (hl : Lk z n a ρ) (h : resK P ρ (fun vs w => R (packV vs) w) fn.results.toList w) :
    ∃ v, (results fn a.tmps).run P w = .ok v w ∧ R v w := by
  have key : ∀ g : ResultVar → Sem Value, (∀ t, g (.tmp t) = Sem.pure (ρ t)) → (∀ x t, g (.cell x t) = (do loadVar t (← asAddr (ρ x)))) →
      ∃ v, (do let vs ← List.toArray <$> fn.results.toList.mapM g; pure (if h : vs.size = 1 then vs[0] else .tuple vs) : Sem Value).run P w = .ok v w ∧ R v w := by
    intro g hg hc
    obtain ⟨vs, hr, hk⟩ := resK_run (P := P) (ρ := ρ) (w := w) g hg hc fn.results.toList _ h
    refine ⟨packV vs, ?_, hk⟩
    rw [Sem.run_bind, Sem.run_map, hr]
    simp only [Result.andThen_ok]
    match vs with
    | [] => rfl
    | [v] => rfl
    | v :: u :: r => rfl
  unfold results
  rw [Array.mapM_eq_mapM_toList]
  refine key _ ?_ ?_
  · intro t; rw [← hl.val t]; rfl
  · intro x t; rw [← hl.val x]
theorem calls_of_sx {P : Program} {f : FuncId} {fn : Func} {c : Code} {args : Array Value} {w : World} {R : Value → World → Prop} {n : Nat}
    (hf : P.funcs[f]? = some fn) (hb : fn.body = some c) (hn : fn.ntmps = n) (hsz : args.size ≤ n) (hd : dstOk n c = true)
    (h : sx fn_ P n c (retK P fn.results.toList R) (rho0 args.toList) w) : Calls P f args w fun e w' => ∃ v, e = .returned v ∧ R v w' := by
  refine callsIn_wide.1 (callsIn_of_wp (F := Fence.wide) (n := 0) hf hb trivial (wpIn_mono (sx_W c _ _ w hd h { tmps := args ++ Array.replicate (fn.ntmps - args.size) undef, defers := [] } ⟨?_, rfl, fun i => ?_⟩) ?_))
  · simp [hn]; omega
  · simp only [rho0, Array.getD_eq_getD_getElem?, List.getD_eq_getElem?_getD, Array.getElem?_append, Array.getElem?_toList]
    by_cases hi : i < args.size
    · rw [if_pos hi]
    · rw [if_neg hi, Array.getElem?_replicate, Array.getElem?_eq_none (xs := args) (by omega)]
      split <;> rfl
  · rintro e a' w' ⟨ρ', hl', hk⟩
    have key : ∀ (hq : resK P ρ' (fun vs w => R (packV vs) w) fn.results.toList w'), a'.defers = [] ∧ ∃ v, (results fn a'.tmps).run P w' = .ok v w' ∧ ∃ u, Ending.returned v = .returned u ∧ R u w' := by
      intro hq
      obtain ⟨v, hr, hk⟩ := results_of_resK hl' hq
      exact ⟨hl'.defers, v, hr, v, rfl, hk⟩
    cases e with
    | normal => exact key hk
    | ret => exact key hk
    | exit id => exact hk.elim
    | goto l => exact hk.elim
    | panic c => exact hk.elim
    | outgrown => exact hk.elim
def VK (P : Program) (s : Sem Value) (w : World) (K : Value → World → Prop) : Prop := OpK P (do pure (Next.value (← s))) w K
def UK (P : Program) (s : Sem Unit) (w : World) (K : Value → World → Prop) : Prop := OpK P (do s; pure Next.skip) w K
def NK (P : Program) (v : Value) (w : World) (K : Value → World → Prop) : Prop := OpK P (nilCk v) w K
def PK (P : Program) (c a b : Value) (w : World) (K : Value → World → Prop) : Prop := OpK P (do pure (Next.value (if ← asBool c then a else b))) w K
def BK (P : Program) (op : BinOp) (t : TypeId) (x y : Operand) (a b : Value) (w : World) (K : Value → World → Prop) : Prop := OpK P (do pure (Next.value (← (do eqGuard op t x y a b; binOp op t a b)))) w K
def CK (P : Program) (f : Value) (args : List Value) (w : World) (K : Value → World → Prop) : Prop := OpK P (do let d ← Deferred.ofValue f args.toArray; invoke d.target d.args) w K
def IK (P : Program) (b : Builtin) (ts : Array TypeId) (t : TypeId) (cs : List Bool) (args : List Value) (w : World) (K : Value → World → Prop) : Prop := OpK P (builtin b ts t cs.toArray args.toArray) w K
def VG (P : Program) (g : Value) (b : Bool) (s : Sem Value) (w : World) (K : Value → World → Prop) : Prop := GOp P g b (do pure (Next.value (← s))) w K
def UG (P : Program) (g : Value) (b : Bool) (s : Sem Unit) (w : World) (K : Value → World → Prop) : Prop := GOp P g b (do s; pure Next.skip) w K
def MG (P : Program) (g : Value) (b : Bool) (v : Value) (w : World) (K : Value → World → Prop) : Prop := GOp P g b (pure (Next.value v)) w K
def NG (P : Program) (g : Value) (b : Bool) (v : Value) (w : World) (K : Value → World → Prop) : Prop := GOp P g b (nilCk v) w K
def PG (P : Program) (g : Value) (gb : Bool) (c a b : Value) (w : World) (K : Value → World → Prop) : Prop := GOp P g gb (do pure (Next.value (if ← asBool c then a else b))) w K
def BG (P : Program) (g : Value) (gb : Bool) (op : BinOp) (t : TypeId) (x y : Operand) (a b : Value) (w : World) (K : Value → World → Prop) : Prop := GOp P g gb (do pure (Next.value (← (do eqGuard op t x y a b; binOp op t a b)))) w K
def CG (P : Program) (g : Value) (gb : Bool) (f : Value) (args : List Value) (w : World) (K : Value → World → Prop) : Prop := GOp P g gb (do let d ← Deferred.ofValue f args.toArray; invoke d.target d.args) w K
def IG (P : Program) (g : Value) (gb : Bool) (b : Builtin) (ts : Array TypeId) (t : TypeId) (cs : List Bool) (args : List Value) (w : World) (K : Value → World → Prop) : Prop := GOp P g gb (builtin b ts t cs.toArray args.toArray) w K
def cAt : List Nat → Code → Code
  | [], c => c
  | 0 :: p, .seq a _ => cAt p a
  | _ :: p, .seq _ b => cAt p b
  | 0 :: p, .cond _ a _ => cAt p a
  | _ :: p, .cond _ _ b => cAt p b
  | _ :: p, .block _ c => cAt p c
  | _ :: p, .loop c => cAt p c
  | _ :: p, .scope c => cAt p c
  | 0 :: p, .rangeFunc _ _ a _ => cAt p a
  | _ :: p, .rangeFunc _ _ _ b => cAt p b
  | _, c => c
def opsOf : Code → Array Oper
  | .region _ ops _ => ops
  | _ => #[]
def idOf : Code → Nat
  | .region id _ _ => id
  | _ => 0
def skK (z : At) (P : Program) (n : Nat) (c : Code) (K : Exit → Sl → World → Prop) : Exit → Sl → World → Prop := seqK (sx z P n c K) K
theorem calls_eq {P : Program} {f : FuncId} {fn : Func} {c : Code} {args : Array Value} {w : World} {R : Value → World → Prop} {n : Nat} {F : Prop}
    (hf : P.funcs[f]? = some fn) (hb : fn.body = some c) (hn : fn.ntmps = n) (hsz : args.size ≤ n) (hd : dstOk n c = true)
    (e : sx fn_ P n c (retK P fn.results.toList R) (rho0 args.toList) w = F) (h : F) : Calls P f args w fun e w' => ∃ v, e = .returned v ∧ R v w' :=
  calls_of_sx hf hb hn hsz hd (Eq.mpr e h)
end Go.X
set_option linter.unusedVariables false
set_option linter.unusedSimpArgs false
namespace Go.X
open Go Go.RowKit
section
variable {P : Program} {w w' : World} {K : Value → World → Prop}
theorem VK_of {s : Sem Value} {v : Value} (h : s.run P w = .ok v w') (hk : K v w') : VK P s w K := by
  unfold VK OpK
  simp only [Sem.run_bind, h, Result.andThen_ok]
  exact hk
theorem VK_eq_of {s : Sem Value} {v : Value} (h : s.run P w = .ok v w') : VK P s w K = K v w' := by
  unfold VK OpK
  simp only [Sem.run_bind, h, Result.andThen_ok]
  rfl
theorem UK_of {s : Sem Unit} (h : s.run P w = .ok () w') (hk : K undef w') : UK P s w K := by
  unfold UK OpK
  simp only [Sem.run_bind, h, Result.andThen_ok]
  exact hk
theorem CK_fn {f : FuncId} {fn : Func} {first cap : Array Value} {args : List Value} {R : Value → World → Prop} (hf : P.funcs[f]? = some fn) (hb : fn.body.isNone = false) (hn : (fn.name == "runtime.NumGoroutine") = false)
    (h : Calls P f (first ++ args.toArray ++ cap) w fun e w' => ∃ v, e = .returned v ∧ R v w') (hk : ∀ v w', R v w' → K v w') : CK P (.func (.func f) first cap) args w K := by
  unfold CK OpK
  have hr : (do let d ← Deferred.ofValue (.func (.func f) first cap) args.toArray; invoke d.target d.args : Sem Next).run P w = .ok (.enter f (first ++ args.toArray ++ cap)) w := by
    have hb' : fn.body ≠ none := by intro q; rw [q] at hb; cases hb
    have hn' : fn.name ≠ "runtime.NumGoroutine" := by intro q; rw [q] at hn; simp at hn
    simp [Deferred.ofValue, invoke, callFunc, program, Sem.run, hf, hb', hn', Sem.run_bind, pure, bind, Sem.bind]
  rw [hr]
  exact h.mono fun e w' ⟨v, he, hv⟩ => ⟨v, he, hk _ _ hv⟩
theorem CK_st {f : FuncId} {fn : Func} {args : List Value} {R : Value → World → Prop} (hf : P.funcs[f]? = some fn) (hb : fn.body.isNone = false) (hn : (fn.name == "runtime.NumGoroutine") = false)
    (h : Calls P f args.toArray w fun e w' => ∃ v, e = .returned v ∧ R v w') (hk : ∀ v w', R v w' → K v w') : CK P (.func (.func f) #[] #[]) args w K :=
  CK_fn hf hb hn (by simpa using h) hk
theorem PK_bool (t : Bool) (a b : Value) : PK P (.bool t) a b w K = K (if t then a else b) w := by
  unfold PK OpK; cases t <;> rfl
theorem NK_ptr (a : Addr) : NK P (.pointer (some a)) w K = K (.pointer (some a)) w := by
  unfold NK OpK; rfl
theorem extract_ok {vs : Array Value} {i : Nat} {v : Value} (h : vs[i]? = some v) : VK P (Instr.extract (.tuple vs) i) w K = K v w := by
  unfold VK OpK; simp [Instr.extract, h]
theorem not_ok (t : Bool) : VK P (Op.unary .not (.bool t)) w K = K (.bool (!t)) w := by
  unfold VK OpK; rfl
section
variable (t : TypeId) (x y : Operand) (k : IntKind) (a b : Int)
theorem BK_lss : BK P .lss t x y (.int k a) (.int k b) w K = K (.bool (decide (a < b))) w := by unfold BK OpK; go_simp
theorem BK_leq : BK P .leq t x y (.int k a) (.int k b) w K = K (.bool (decide (a ≤ b))) w := by unfold BK OpK; go_simp
theorem BK_gtr : BK P .gtr t x y (.int k a) (.int k b) w K = K (.bool (decide (b < a))) w := by unfold BK OpK; go_simp
theorem BK_geq : BK P .geq t x y (.int k a) (.int k b) w K = K (.bool (decide (b ≤ a))) w := by unfold BK OpK; go_simp
theorem BK_eql : BK P .eql t x y (.int k a) (.int k b) w K = K (.bool (a == b)) w := by unfold BK OpK; go_simp
theorem BK_neq : BK P .neq t x y (.int k a) (.int k b) w K = K (.bool (a != b)) w := by unfold BK OpK; go_simp
theorem BK_add : BK P .add t x y (.int k a) (.int k b) w K = K (.int k (k.wrap (a + b))) w := by unfold BK OpK; go_simp
theorem BK_sub : BK P .sub t x y (.int k a) (.int k b) w K = K (.int k (k.wrap (a - b))) w := by unfold BK OpK; go_simp
theorem BK_mul : BK P .mul t x y (.int k a) (.int k b) w K = K (.int k (k.wrap (a * b))) w := by unfold BK OpK; go_simp
end
theorem BK_of {op : BinOp} {t : TypeId} {x y : Operand} {a b v : Value} (hg : (eqGuard op t x y a b).run P w = .ok () w) (h : (binOp op t a b).run P w = .ok v w) : BK P op t x y a b w K = K v w := by
  unfold BK OpK
  simp only [Sem.run_bind, hg, h, Result.andThen_ok]
  rfl
theorem BK_eqlP {t e : TypeId} (h : P.underlying t = some (.pointer e)) (x y : Operand) (p : Option Addr) : BK P .eql t x y (.pointer p) (.pointer none) w K = K (.bool p.isNone) w :=
  BK_of rfl (run_eql_pointer_nil w t p (by simp [Program.pointee, h]))
theorem BK_neqP {t e : TypeId} (h : P.underlying t = some (.pointer e)) (x y : Operand) (p : Option Addr) : BK P .neq t x y (.pointer p) (.pointer none) w K = K (.bool (!p.isNone)) w :=
  BK_of rfl (run_neq_pointer_nil w t p (by simp [Program.pointee, h]))
theorem GOp_bool (t b : Bool) (s : Sem Next) : GOp P (.bool t) b s w K = if t = b then OpK P s w K else K undef w := by
  unfold GOp GuardK wantB
  by_cases h : t = b <;> simp [h]
theorem GOp_u (b : Bool) (s : Sem Next) : GOp P undef b s w K = K undef w := by
  unfold GOp GuardK wantB undef
  simp
theorem VG_u (b : Bool) (s : Sem Value) : VG P undef b s w K = K undef w := GOp_u b _
theorem UG_u (b : Bool) (s : Sem Unit) : UG P undef b s w K = K undef w := GOp_u b _
theorem MG_u (b : Bool) (v : Value) : MG P undef b v w K = K undef w := by unfold MG; rw [GOp_u]
theorem NG_u (b : Bool) (v : Value) : NG P undef b v w K = K undef w := GOp_u b _
theorem PG_u (gb : Bool) (c a b : Value) : PG P undef gb c a b w K = K undef w := GOp_u gb _
theorem BG_u (gb : Bool) (op : BinOp) (ty : TypeId) (x y : Operand) (a b : Value) : BG P undef gb op ty x y a b w K = K undef w := GOp_u gb _
theorem CG_u (gb : Bool) (f : Value) (args : List Value) : CG P undef gb f args w K = K undef w := GOp_u gb _
theorem IG_u (gb : Bool) (b : Builtin) (ts : Array TypeId) (ty : TypeId) (cs : List Bool) (args : List Value) : IG P undef gb b ts ty cs args w K = K undef w := GOp_u gb _
theorem VG_b (t b : Bool) (s : Sem Value) : VG P (.bool t) b s w K = if t = b then VK P s w K else K undef w := GOp_bool t b _
theorem UG_b (t b : Bool) (s : Sem Unit) : UG P (.bool t) b s w K = if t = b then UK P s w K else K undef w := GOp_bool t b _
theorem MG_b (t b : Bool) (v : Value) : MG P (.bool t) b v w K = K (if t = b then v else undef) w := by
  unfold MG; rw [GOp_bool]; by_cases h : t = b <;> simp [h]; rfl
theorem NG_b (t b : Bool) (v : Value) : NG P (.bool t) b v w K = if t = b then NK P v w K else K undef w := GOp_bool t b _
theorem PG_b (t gb : Bool) (c a b : Value) : PG P (.bool t) gb c a b w K = if t = gb then PK P c a b w K else K undef w := GOp_bool t gb _
theorem BG_b (t gb : Bool) (op : BinOp) (ty : TypeId) (x y : Operand) (a b : Value) : BG P (.bool t) gb op ty x y a b w K = if t = gb then BK P op ty x y a b w K else K undef w := GOp_bool t gb _
theorem CG_b (t gb : Bool) (f : Value) (args : List Value) : CG P (.bool t) gb f args w K = if t = gb then CK P f args w K else K undef w := GOp_bool t gb _
theorem IG_b (t gb : Bool) (b : Builtin) (ts : Array TypeId) (ty : TypeId) (cs : List Bool) (args : List Value) : IG P (.bool t) gb b ts ty cs args w K = if t = gb then IK P b ts ty cs args w K else K undef w := GOp_bool t gb _
theorem IK_of {b : Builtin} {ts : Array TypeId} {ty : TypeId} {cs : List Bool} {args : List Value} {v : Value} {s : Sem Value} (he : builtin b ts ty cs.toArray args.toArray = (do pure (Next.value (← s)))) (h : s.run P w = .ok v w') (hk : K v w') : IK P b ts ty cs args w K := by
  unfold IK OpK
  rw [he]
  simp only [Sem.run_bind, h, Result.andThen_ok]
  exact hk
theorem elem_of {t e : TypeId} (h : P.underlying t = some (.slice e)) : P.underlying t = some (.slice (P.elem t)) := by simp [Program.elem, h]
theorem len_sl {t e ty : TypeId} (h : P.underlying t = some (.slice e)) (cs : List Bool) (A : Option Addr) (n c : Nat) : IK P .len #[t] ty cs [.slice A n c] w K = K (.int .i64 n) w := by
  unfold IK OpK
  simp [builtin, run_len_slice w t ty A n c (elem_of h), goInt]
theorem mkFunc (f : Fn) (a b : List Value) : VK P (Instr.makeFunc f a.toArray b.toArray) w K = K (.func f a.toArray b.toArray) w := rfl
theorem CondK_bool (t : Bool) (A B : Prop) : CondK (.bool t) A B = if t then A else B := by
  unfold CondK; cases t <;> simp
end
theorem up_at (ρ : Sl) (d : Nat) (v : Value) (i : Nat) : up ρ d v i = if i = d then v else ρ i := by
  unfold up
  by_cases h : i = d
  · subst h; simp [Nat.beq_refl]
  · have : Nat.beq i d = false := by
      cases hq : Nat.beq i d with
      | false => rfl
      | true => exact absurd (Nat.eq_of_beq_eq_true hq) h
    simp [this, h]
def setB (w : World) (b : Nat) (o : Obj) : World := { w with heap := w.heap.setIfInBounds b o }
theorem setB_size (w : World) (b : Nat) (o : Obj) : (setB w b o).heap.size = w.heap.size := by simp [setB]
theorem setB_new (w : World) (b : Nat) (o : Obj) (h : b < w.heap.size) : (setB w b o).heap[b]? = some o := by simp [setB, h]
theorem setB_old (w : World) (b i : Nat) (o : Obj) (h : i ≠ b) : (setB w b o).heap[i]? = w.heap[i]? := by
  simp only [setB]; rw [Array.getElem?_setIfInBounds_ne (Ne.symm h)]
theorem alloc_size (w : World) (o : Obj) : (w.alloc o).heap.size = w.heap.size + 1 := by simp
theorem alloc_new (w : World) (o : Obj) : (w.alloc o).heap[w.heap.size]? = some o := heap_alloc_new w o
theorem alloc_old (w : World) (o : Obj) (i : Nat) (h : i < w.heap.size) : (w.alloc o).heap[i]? = w.heap[i]? := by
  show (w.heap.push o)[i]? = _
  rw [Array.getElem?_push, if_neg (Nat.ne_of_lt h)]
theorem cell_blk {w : World} {b j : Nat} {cs : Array Value} {t : TypeId} {fr : Nat × Nat} (h : w.heap[b]? = some (.cells cs t fr)) : w.cell? ⟨b, j, none⟩ = cs[j]? := by simp [World.cell?, h]
theorem blk_lt {w : World} {b : Nat} {o : Obj} (h : w.heap[b]? = some o) : b < w.heap.size := (Array.getElem?_eq_some_iff.1 h).1
theorem add_pl (b o j : Nat) : (⟨b, o, none⟩ : Addr).add j = ⟨b, o + j, none⟩ := by unfold Addr.add; split <;> simp_all
structure Mod (S : Nat → Prop) (w w' : World) : Prop where
  os : w'.os = w.os
  tape : w'.tape = w.tape
  output : w'.output = w.output
  size : w.heap.size ≤ w'.heap.size
  block : ∀ k, k < w.heap.size → ¬ S k → w'.heap[k]? = w.heap[k]?
def none_ : Nat → Prop := fun _ => False
theorem Mod.refl (S : Nat → Prop) (w : World) : Mod S w w := ⟨rfl, rfl, rfl, Nat.le_refl _, fun _ _ _ => rfl⟩
theorem Mod.trans {S : Nat → Prop} {a b c : World} (h : Mod S a b) (k : Mod S b c) : Mod S a c :=
  ⟨k.os.trans h.os, k.tape.trans h.tape, k.output.trans h.output, Nat.le_trans h.size k.size, fun i hi hs => (k.block i (Nat.lt_of_lt_of_le hi h.size) hs).trans (h.block i hi hs)⟩
theorem Mod.mono {S S' : Nat → Prop} {a b : World} (h : Mod S a b) (hs : ∀ k, k < a.heap.size → S k → S' k) : Mod S' a b :=
  ⟨h.os, h.tape, h.output, h.size, fun i hi hn => h.block i hi (fun q => hn (hs i hi q))⟩
theorem Mod.then {S T : Nat → Prop} {a b c : World} (h : Mod S a b) (k : Mod T b c) (hT : ∀ i, i < a.heap.size → T i → S i) : Mod S a c :=
  ⟨k.os.trans h.os, k.tape.trans h.tape, k.output.trans h.output, Nat.le_trans h.size k.size, fun i hi hs => (k.block i (Nat.lt_of_lt_of_le hi h.size) (fun q => hs (hT i hi q))).trans (h.block i hi hs)⟩
theorem Mod.alloc {S : Nat → Prop} {a b : World} (h : Mod S a b) (o : Obj) : Mod S a (b.alloc o) :=
  h.trans ⟨rfl, rfl, rfl, by simp, fun k hk _ => alloc_old b o k hk⟩
theorem Mod.set {S : Nat → Prop} {a b : World} (h : Mod S a b) {i : Nat} (o : Obj) (hi : i < a.heap.size → S i) : Mod S a (setB b i o) :=
  h.then (T := fun k => k = i) ⟨rfl, rfl, rfl, Nat.le_of_eq (setB_size b i o).symm, fun k _ hk => setB_old b i k o hk⟩ (fun k hk e => e ▸ hi (e ▸ hk))
theorem Mod.drawn {S : Nat → Prop} {a b : World} (h : Mod S a b) (n : Nat) : Mod S a { b with drawn := n } := ⟨h.os, h.tape, h.output, h.size, h.block⟩
theorem Mod.ofGrown {a b : World} {row : Option Nat} (h : a.grownBy b row) : Mod (fun k => some k = row) a b := ⟨h.os, h.tape, h.output, h.size, fun k hk hn => h.block k hk hn⟩
theorem Mod.toBelow {a b : World} (h : Mod none_ a b) : Below a.heap.size a b := ⟨h.os, h.tape, h.output, h.size, fun k hk => h.block k hk id⟩
theorem Mod.blk {S : Nat → Prop} {a b : World} (h : Mod S a b) {i : Nat} {o : Obj} (hi : a.heap[i]? = some o) (hn : ¬ S i) : b.heap[i]? = some o := (h.block i (blk_lt hi) hn).trans hi
section
variable {P : Program} {w w' : World} {K : Value → World → Prop}
theorem info_of {t : TypeId} {n : Nat} (h : P.cellsOf t = n + 1) : ∃ z, P.info? t = some z ∧ z.size = n + 1 := by
  unfold Program.cellsOf at h
  cases hz : P.info? t with
  | none => rw [hz] at h; simp at h
  | some z => rw [hz] at h; exact ⟨z, rfl, by simpa using h⟩
theorem alloc_ok {t : TypeId} {z : Value} (hz0 : (P.info? t).bind (·.zero) = some z) (v : Value) : VK P (Instr.alloc t true v) w K = K (.pointer (some ⟨w.heap.size, 0, none⟩)) (w.alloc (.cells z.cells t)) := by
  obtain ⟨i, hi, hz⟩ := Option.bind_eq_some_iff.1 hz0
  have h : (Instr.alloc t true v).run P w = .ok (.pointer (some ⟨w.heap.size, 0, none⟩)) (w.alloc (.cells z.cells t)) := by
    simp only [Instr.alloc, zeroValue, typeInfo, program, Sem.run_bind, Sem.run, hi, hz, newVar, newRow, newObj, Result.andThen_ok, Sem.run_pure]
    rfl
  unfold VK OpK
  simp only [Sem.run_bind, h, Result.andThen_ok]
  rfl
theorem box_ok (t : TypeId) (v : Value) : VK P (Instr.box t v) w K = K (.pointer (some ⟨w.heap.size, 0, none⟩)) (w.alloc (.cells v.cells t)) := rfl
theorem run_ld1 {t : TypeId} {d : TypeDesc} {a : Addr} {v : Value} (hu : P.underlying t = some d) (hd : (match d with | .struct _ | .array _ _ => true | _ => false) = false) (hc : w.cell? a = some v) : (Instr.loadAt t (.pointer (some a))).run P w = .ok v w := by
  have hagg : (isAgg t).run P w = .ok false w := by
    unfold isAgg
    rw [Sem.run_bind, run_underlying hu w]
    cases d <;> simp_all
  simp [Instr.loadAt, Instr.sureAddr, loadVar, Sem.run_bind, hagg, load, Sem.run, hc]
theorem ld1 {t : TypeId} {d : TypeDesc} {a : Addr} {v : Value} (hu : P.underlying t = some d) (hd : (match d with | .struct _ | .array _ _ => true | _ => false) = false) (hc : w.cell? a = some v) (hk : K v w) : VK P (Instr.loadAt t (.pointer (some a))) w K :=
  VK_of (run_ld1 hu hd hc) hk
theorem run_ldA {t : TypeId} {d : TypeDesc} {a : Addr} {cs : List Value} (hu : P.underlying t = some d) (hd : (match d with | .struct _ | .array _ _ => true | _ => false) = true) (hi : (P.info? t).map (·.size) = some cs.length)
    (hc : ∀ j v, cs[j]? = some v → w.cell? (a.add j) = some v) : (Instr.loadAt t (.pointer (some a))).run P w = .ok (.agg cs.toArray) w := by
  have hl := run_loadCells_list (P := P) w a cs hc
  cases hq : P.info? t with
  | none => simp [hq] at hi
  | some i =>
    have hs : i.size = cs.length := by simpa [hq] using hi
    have hagg : (isAgg t).run P w = .ok true w := by
      unfold isAgg
      rw [Sem.run_bind, run_underlying hu w]
      cases d <;> simp_all
    simp [Instr.loadAt, Instr.sureAddr, loadVar, Sem.run_bind, hagg, sizeOf, typeInfo, hq, hs, hl]
theorem ldA {t : TypeId} {d : TypeDesc} {a : Addr} {cs : List Value} (hu : P.underlying t = some d) (hd : (match d with | .struct _ | .array _ _ => true | _ => false) = true) (hi : (P.info? t).map (·.size) = some cs.length)
    (hc : ∀ j v, cs[j]? = some v → w.cell? (a.add j) = some v) (hk : K (.agg cs.toArray) w) : VK P (Instr.loadAt t (.pointer (some a))) w K := VK_of (run_ldA hu hd hi hc) hk
theorem run_ldB {t ty : TypeId} {d : TypeDesc} {b : Nat} {cs : Array Value} {fr : Nat × Nat} (hu : P.underlying t = some d) (hd : (match d with | .struct _ | .array _ _ => true | _ => false) = true) (hi : (P.info? t).map (·.size) = some cs.size)
    (hc : w.heap[b]? = some (.cells cs ty fr)) : (Instr.loadAt t (.pointer (some ⟨b, 0, none⟩))).run P w = .ok (.agg cs) w := by
  have := run_ldA (P := P) (w := w) (a := ⟨b, 0, none⟩) (cs := cs.toList) hu hd (by simpa using hi) (fun j v hv => by
    rw [add_pl, cell_blk hc]
    simpa using hv)
  simpa using this
theorem ldB {t ty : TypeId} {d : TypeDesc} {b : Nat} {cs : Array Value} {fr : Nat × Nat} (hu : P.underlying t = some d) (hd : (match d with | .struct _ | .array _ _ => true | _ => false) = true) (hi : (P.info? t).map (·.size) = some cs.size)
    (hc : w.heap[b]? = some (.cells cs ty fr)) (hk : K (.agg cs) w) : VK P (Instr.loadAt t (.pointer (some ⟨b, 0, none⟩))) w K := VK_of (run_ldB hu hd hi hc) hk
theorem fld {s : TypeId} {fs : Array Field} {i n : Nat} {f : Field} (hu : P.underlying s = some (.struct fs)) (hf : fs[i]? = some f) (hc : P.cellsOf f.type = n + 1) (a : Addr) :
    VK P (Instr.fieldAt s (.pointer (some a)) i) w K = K (.pointer (some (a.add f.offset))) w := by
  obtain ⟨z, hz, hzs⟩ := info_of hc
  have h0 : z.size ≠ 0 := by omega
  have h : (Instr.fieldAt s (.pointer (some a)) i).run P w = .ok (.pointer (some (a.add f.offset))) w := by
    simp [Instr.fieldAt, run_underlying hu, Sem.run_bind, hf, Instr.sureAddr, fieldPlace, sizeOf, typeInfo, hz, h0]
  unfold VK OpK
  simp only [Sem.run_bind, h, Result.andThen_ok]
  rfl
def fieldOff (P : Program) (s : TypeId) (i : Nat) : Option Nat :=
  match P.underlying s with
  | some (.struct fs) =>
    match fs[i]? with
    | some f => match P.cellsOf f.type with | 0 => none | _ + 1 => some f.offset
    | none => none
  | _ => none
theorem fo {s : TypeId} {i off : Nat} (h : fieldOff P s i = some off) (a : Addr) : VK P (Instr.fieldAt s (.pointer (some a)) i) w K = K (.pointer (some (a.add off))) w := by
  unfold fieldOff at h
  split at h
  · rename_i fs hu
    split at h
    · rename_i f hf
      split at h
      · cases h
      · rename_i n hc
        cases h
        exact fld hu hf hc a
    · cases h
  · cases h
theorem ixa {t e : TypeId} {sz : Nat} (hu : P.underlying t = some (.slice e)) (hc : P.cellsOf e = sz + 1) {a : Addr} {n c : Nat} {k : IntKind} {i : Int} (h0 : 0 ≤ i) (h1 : i < n) :
    VK P (Instr.indexAt t (.slice (some a) n c) (.int k i)) w K = K (.pointer (some (a.add (i.toNat * (sz + 1))))) w := by
  obtain ⟨z, hz, hzs⟩ := info_of hc
  have h : (Instr.indexAt t (.slice (some a) n c) (.int k i)).run P w = .ok (.pointer (some (a.add (i.toNat * (sz + 1))))) w := by
    simp [Instr.indexAt, run_underlying hu, Sem.run_bind, asIntOf, h0, h1, sizeOf, typeInfo, hz, hzs]
  unfold VK OpK
  simp only [Sem.run_bind, h, Result.andThen_ok]
  rfl
theorem setB_setCell (w : World) (b o : Nat) (cs : Array Value) (t : TypeId) (fr : Nat × Nat) (v : Value) (h : w.heap[b]? = some (.cells cs t fr)) : w.setCell ⟨b, o, none⟩ v = setB w b (.cells (cs.setIfInBounds o v) t fr) := by
  unfold World.setCell setB
  congr 1
  apply Array.ext_getElem?
  intro i
  rw [Array.getElem?_modify, Array.getElem?_setIfInBounds]
  by_cases e : b = i
  · subst e
    obtain ⟨hlt, hg⟩ := Array.getElem?_eq_some_iff.1 h
    simp [hlt, hg]
  · rw [if_neg e, if_neg e]
theorem st1 {t ty : TypeId} {b o : Nat} {cs : Array Value} {v : Value} (hc1 : P.cellsOf t = 1) (hv : v.oneCell' = true) (hb : w.heap[b]? = some (.cells cs ty (0, 0))) (ho : o < cs.size)
    (hk : K undef (setB w b (.cells (cs.setIfInBounds o v) ty (0, 0)))) : UK P (Instr.storeAt t (.pointer (some ⟨b, o, none⟩)) v) w K := by
  obtain ⟨z, hz, h1⟩ := info_of hc1
  refine UK_of (w' := setB w b (.cells (cs.setIfInBounds o v) ty (0, 0))) ?_ hk
  have hc : w.cell? ⟨b, o, none⟩ = some cs[o] := by rw [cell_blk hb]; simp [ho]
  have hf : w.frozen? ⟨b, o, none⟩ = false := by simp [World.frozen?, hb]
  have hcl : v.cells = #[v] := by cases v <;> first | rfl | simp [Value.oneCell'] at hv
  have ha : (⟨b, o, none⟩ : Addr).add 0 = ⟨b, o, none⟩ := rfl
  have hst : (Sem.store .plain ⟨b, o, none⟩ v (.pure ()) : Sem Unit).run P w = .ok () (w.setCell ⟨b, o, none⟩ v) := by
    cases v <;> first | (simp [Value.oneCell'] at hv; done) | simp [Sem.run, hc, hf]
  rw [← setB_setCell w b o cs ty (0, 0) v hb]
  simp only [Instr.storeAt, Instr.sureAddr, storeVar, Sem.run_bind, Sem.run_pure, Result.andThen_ok, sizeOf, typeInfo, program, Sem.run, hz, hcl]
  simp [h1, storeCells, store, ha, hst, Sem.run_bind]
end
section
variable {P : Program} {w w' : World} {K : Value → World → Prop}
theorem setRow_setB (w : World) (g : Nat) (cs cs' : Array Value) (t : TypeId) (h : w.heap[g]? = some (.cells cs t (0, 0))) : w.setRow g cs' = setB w g (.cells cs' t (0, 0)) := by
  obtain ⟨hlt, hg⟩ := Array.getElem?_eq_some_iff.1 h
  unfold World.setRow setB
  congr 1
  apply Array.ext_getElem?
  intro i
  rw [Array.getElem?_modify, Array.getElem?_setIfInBounds]
  by_cases e : g = i
  · subst e
    simp [hlt, hg]
  · rw [if_neg e, if_neg e]
theorem stB {t ty : TypeId} {b : Nat} {old cs : Array Value} (hi : (P.info? t).map (·.size) = some cs.size) (ho : old.size = cs.size) (h1 : cs.all (·.oneCell') = true) (hb : w.heap[b]? = some (.cells old ty (0, 0)))
    (hk : K undef (setB w b (.cells cs ty (0, 0)))) : UK P (Instr.storeAt t (.pointer (some ⟨b, 0, none⟩)) (.agg cs)) w K := by
  rw [← setRow_setB w b old cs ty hb] at hk
  refine UK_of ?_ hk
  simp only [Instr.storeAt, Instr.sureAddr, Sem.run_bind, Sem.run_pure, Result.andThen_ok]
  exact run_storeVar_row w b ty t old cs hb hi ho h1
theorem build_ok {t : TypeId} {parts : List (Nat × Value)} {cs : Array Value} (h : P.built t parts = some cs) : VK P (Instr.build t parts.toArray) w K = K (.agg cs) w := by
  have := run_build (P := P) w t parts.toArray cs (by simpa using h)
  unfold VK OpK
  simp only [Sem.run_bind, this, Result.andThen_ok]
  rfl
end
section
variable {P : Program} {C : World → Prop} {K : Value → Prop}
theorem QV_of {s : Sem Value} {v : Value} (h : ∀ w, C w → s.run P w = .ok v w) (hk : K v) : QK P C (do pure (Next.value (← s))) K := by
  refine ⟨v, fun w hw => ?_, hk⟩
  simp only [Sem.run_bind, h w hw, Result.andThen_ok]
  exact ⟨rfl, rfl⟩
theorem QN_ptr {a : Addr} (hk : K (.pointer (some a))) : QK P C (nilCk (.pointer (some a))) K := ⟨_, fun _ _ => ⟨rfl, rfl⟩, hk⟩
theorem QP_of {t : Bool} {a b : Value} (hk : K (if t then a else b)) : QK P C (do pure (Next.value (if ← asBool (.bool t) then a else b))) K :=
  ⟨_, fun _ _ => by cases t <;> exact ⟨rfl, rfl⟩, hk⟩
theorem QB_of {op : BinOp} {t : TypeId} {x y : Operand} {a b v : Value} (hg : ∀ w, (eqGuard op t x y a b).run P w = .ok () w) (h : ∀ w, (binOp op t a b).run P w = .ok v w) (hk : K v) : QK P C (do pure (Next.value (← (do eqGuard op t x y a b; binOp op t a b)))) K := by
  refine QV_of (fun w _ => ?_) hk
  simp only [Sem.run_bind, hg, h, Result.andThen_ok]
theorem QC_fn {f : FuncId} {fn : Func} {first cap : Array Value} {args : Array Value} {v : Value} (hf : P.funcs[f]? = some fn) (hb : fn.body.isNone = false) (hn : (fn.name == "runtime.NumGoroutine") = false)
    (h : ∀ w, C w → Calls P f (first ++ args ++ cap) w fun e w' => e = .returned v ∧ C w') (hk : K v) : QK P C (do let d ← Deferred.ofValue (.func (.func f) first cap) args; invoke d.target d.args) K := by
  refine ⟨v, fun w hw => ?_, hk⟩
  have hr : (do let d ← Deferred.ofValue (.func (.func f) first cap) args; invoke d.target d.args : Sem Next).run P w = .ok (.enter f (first ++ args ++ cap)) w := by
    have hb' : fn.body ≠ none := by intro q; rw [q] at hb; cases hb
    have hn' : fn.name ≠ "runtime.NumGoroutine" := by intro q; rw [q] at hn; simp at hn
    simp [Deferred.ofValue, invoke, callFunc, program, Sem.run, hf, hb', hn', Sem.run_bind, pure, bind, Sem.bind]
  rw [hr]
  exact ⟨rfl, h w hw⟩
theorem QC_st {f : FuncId} {fn : Func} {args : Array Value} {v : Value} (hf : P.funcs[f]? = some fn) (hb : fn.body.isNone = false) (hn : (fn.name == "runtime.NumGoroutine") = false)
    (h : ∀ w, C w → Calls P f args w fun e w' => e = .returned v ∧ C w') (hk : K v) : QK P C (do let d ← Deferred.ofValue (.func (.func f) #[] #[]) args; invoke d.target d.args) K :=
  QC_fn hf hb hn (by simpa using h) hk
theorem QG_b (t b : Bool) (s : Sem Next) : QG P C (.bool t) b s K = if t = b then QK P C s K else K undef := by
  unfold QG GuardK wantB
  by_cases h : t = b <;> simp [h]
end
end Go.X
set_option linter.unusedVariables false
set_option linter.unusedSimpArgs false
namespace Go.X
open Go Go.RowKit
def reads (w : World) (size : Nat) (v : Value) (n : Nat) (xs : List Value) : Prop :=
  xs.length = n * size ∧ ∃ A c, v = .slice A n c ∧ n ≤ c ∧ ∀ j u, xs[j]? = some u → ∃ a, A = some a ∧ w.cell? (a.add j) = some u
theorem reads_nil (w : World) (size : Nat) : reads w size (.slice none 0 0) 0 [] := ⟨by simp, none, 0, rfl, Nat.le_refl _, by simp⟩
theorem add_block (a : Addr) (j : Nat) : (a.add j).block = a.block := by unfold Addr.add; split <;> rfl
theorem reads_mod {S : Nat → Prop} {w w' : World} {size : Nat} {v : Value} {n : Nat} {xs : List Value} (h : reads w size v n xs) (hm : Mod S w w') (hS : ∀ k, k < w.heap.size → v.ownBlock = some k → ¬ S k) : reads w' size v n xs := by
  obtain ⟨hl, A, c, rfl, hc, hr⟩ := h
  refine ⟨hl, A, c, rfl, hc, fun j u hu => ?_⟩
  obtain ⟨a, rfl, hcell⟩ := hr j u hu
  have hlt := World.block_lt_of_cell? _ _ hcell
  rw [add_block] at hlt
  refine ⟨a, rfl, (World.cell?_of_block ?_).trans hcell⟩
  rw [add_block]
  exact hm.block _ hlt (hS _ hlt rfl)
theorem reads_of_owns {w : World} {base : Nat} {e : TypeId} {size : Nat} {v : Value} {n : Nat} {xs : List Value} (h : w.ownsRow base e size v n xs) : reads w size v n xs := by
  refine ⟨h.1, ?_⟩
  have hc := fun g hg => h.cells (g := g) hg
  rcases h.2 with ⟨rfl, rfl⟩ | ⟨g, cap, cur, rfl, _, _, hn, _⟩
  · have : xs = [] := List.length_eq_zero_iff.1 (by simpa using h.1)
    subst this
    exact ⟨none, 0, rfl, Nat.le_refl _, by simp⟩
  · exact ⟨_, cap, rfl, hn, fun j u hu => ⟨_, rfl, hc g rfl j u hu⟩⟩
theorem owns_mod {S : Nat → Prop} {w w' : World} {base : Nat} {e : TypeId} {size : Nat} {v : Value} {n : Nat} {xs : List Value} (h : w.ownsRow base e size v n xs) (hm : Mod S w w') (hS : ∀ k, v.ownBlock = some k → ¬ S k) : w'.ownsRow base e size v n xs := by
  refine ⟨h.1, ?_⟩
  rcases h.2 with hn | ⟨g, cap, cur, rfl, hb, hgg, rest⟩
  · exact .inl hn
  · exact .inr ⟨g, cap, cur, rfl, hb, hm.blk hgg (hS g rfl), rest⟩
theorem add_add (a : Addr) (i j : Nat) : (a.add i).add j = a.add (i + j) := by
  unfold Addr.add
  by_cases e1 : i = 0
  · by_cases e2 : j = 0
    · simp [e1, e2]
    · simp [e1, e2]
  · by_cases e2 : j = 0
    · simp [e1, e2]
    · rw [if_neg e2, if_neg e1, if_neg (by omega)]
      simp [Nat.add_assoc]
section
variable {P : Program} {w w' : World} {K : Value → World → Prop}
theorem ixld {t e : TypeId} {d : TypeDesc} (hu : P.underlying t = some (.slice e)) (hc : P.cellsOf e = 1) (hue : P.underlying e = some d) (hd : (match d with | .struct _ | .array _ _ => true | _ => false) = false) {v : Value} {n : Nat} {xs : List Value} (h : reads w 1 v n xs) {k : IntKind} {i : Int}
    (h0 : 0 ≤ i) {u : Value} (hi : xs[i.toNat]? = some u) {K : Value → Value → World → Prop} (hk : ∀ x, K x u w) : VK P (Instr.indexAt t v (.int k i)) w fun x w => VK P (Instr.loadAt e x) w (K x) := by
  obtain ⟨hl, A, c, rfl, _, hr⟩ := h
  obtain ⟨a, rfl, hcell⟩ := hr _ _ hi
  have hlt : i.toNat < xs.length := by
    rcases Nat.lt_or_ge i.toNat xs.length with q | q
    · exact q
    · rw [List.getElem?_eq_none q] at hi; cases hi
  rw [ixa (sz := 0) hu hc h0 (by omega)]
  exact ld1 hue hd (by simpa using hcell) (hk _)
theorem rd_cell {size : Nat} {n : Nat} {xs : List Value} {A : Option Addr} {c : Nat} (h : reads w size (.slice A n c) n xs) {i : Nat} (hi : i < n) : ∃ a, A = some a ∨ size = 0 := by
  by_cases hs : size = 0
  · exact ⟨⟨0, 0, none⟩, .inr hs⟩
  · obtain ⟨hl, A', c', he, _, hr⟩ := h
    have hlt : 0 < xs.length := by rw [hl]; exact Nat.mul_pos (by omega) (by omega)
    obtain ⟨a, rfl, _⟩ := hr 0 _ (List.getElem?_eq_getElem hlt)
    cases he
    exact ⟨a, .inl rfl⟩
theorem ixat {t e : TypeId} {sz : Nat} (hu : P.underlying t = some (.slice e)) (hc : P.cellsOf e = sz + 1) {v : Value} {n : Nat} {xs : List Value} (h : reads w (sz + 1) v n xs) {k : IntKind} {i : Int} (h0 : 0 ≤ i) (h1 : i < n)
    (hk : ∀ a, (∀ j u, j < sz + 1 → xs[i.toNat * (sz + 1) + j]? = some u → w.cell? (a.add j) = some u) → v.ownBlock = some a.block → K (.pointer (some a)) w) : VK P (Instr.indexAt t v (.int k i)) w K := by
  obtain ⟨hl, A, c, rfl, hnc, hr⟩ := h
  obtain ⟨a, ha | q⟩ := rd_cell ⟨hl, A, c, rfl, hnc, hr⟩ (i := i.toNat) (by omega)
  · subst ha
    rw [ixa hu hc h0 h1]
    refine hk _ (fun j u hj hx => ?_) (by rw [add_block]; rfl)
    obtain ⟨a', ha', hcell⟩ := hr _ _ hx
    cases ha'
    rw [add_add]
    exact hcell
  · omega
theorem ixldA {t e : TypeId} {d : TypeDesc} {sz : Nat} (hu : P.underlying t = some (.slice e)) (hc : P.cellsOf e = sz + 1) (hue : P.underlying e = some d) (hd : (match d with | .struct _ | .array _ _ => true | _ => false) = true) {v : Value} {n : Nat} {xs : List Value} (h : reads w (sz + 1) v n xs) {k : IntKind} {i : Int}
    (h0 : 0 ≤ i) (h1 : i < n) {K : Value → Value → World → Prop} (hk : ∀ x, K x (.agg ((xs.drop (i.toNat * (sz + 1))).take (sz + 1)).toArray) w) : VK P (Instr.indexAt t v (.int k i)) w fun x w => VK P (Instr.loadAt e x) w (K x) := by
  refine ixat hu hc h h0 h1 fun a ha _ => ?_
  have hlen : ((xs.drop (i.toNat * (sz + 1))).take (sz + 1)).length = sz + 1 := by
    have hm : (i.toNat + 1) * (sz + 1) ≤ n * (sz + 1) := Nat.mul_le_mul_right _ (by omega)
    rw [Nat.succ_mul] at hm
    rw [List.length_take, List.length_drop, h.1]
    omega
  obtain ⟨z, hz, hzs⟩ := info_of hc
  refine ldA hue hd (by rw [hz, hlen]; simp [hzs]) (fun j u hj => ?_) (hk _)
  rw [List.getElem?_take] at hj
  split at hj
  · rw [List.getElem?_drop] at hj
    exact ha j u (by omega) hj
  · cases hj
def builtRow (P : Program) (t : TypeId) (len : Nat) (parts : List (Nat × Value)) : Option (Array Value) :=
  match P.underlying t with
  | some (.slice e) =>
    match P.info? e with
    | some ie =>
      match ie.zero with
      | some z => if decide (len * ie.size > 2 ^ 24) || decide (len * ie.size = 0) then none else Instr.fill (fun i => some (i * ie.size, ie.size)) ((Array.range (len * ie.size)).map (z.cells[· % z.cells.size]!)) parts
      | none => none
    | none => none
  | _ => none
theorem bs_ok {t : TypeId} {len : Nat} {parts : List (Nat × Value)} {cs : Array Value} (h : builtRow P t len parts = some cs) : VK P (Instr.buildSlice t len parts.toArray) w K = K (.slice (some ⟨w.heap.size, 0, none⟩) len len) (w.alloc (.cells cs (P.elem t))) := by
  unfold builtRow at h
  split at h
  · rename_i e hu
    split at h
    · rename_i ie hie
      split at h
      · rename_i z hz
        split at h
        · cases h
        · rename_i hn
          simp only [Bool.or_eq_true, decide_eq_true_eq, not_or] at hn
          have := run_buildSlice (P := P) w t e len parts.toArray cs ie z hu hie hz hn.1 hn.2 h
          unfold VK OpK
          simp only [Sem.run_bind, this, Result.andThen_ok]
          have he : P.elem t = e := by simp [Program.elem, hu]
          rw [he]
          rfl
      · cases h
    · cases h
  · cases h
theorem owns_new {w : World} {cs : Array Value} {e : TypeId} {size n base : Nat} (hs : cs.size = n * size) (hb : base ≤ w.heap.size) (hm : n ≤ maxLen) : (w.alloc (.cells cs e)).ownsRow base e size (.slice (some ⟨w.heap.size, 0, none⟩) n n) n cs.toList :=
  ⟨by simpa using hs, .inr ⟨w.heap.size, n, cs, rfl, hb, alloc_new w _, Nat.le_refl _, hm, hs, List.take_of_length_le (by simp [hs])⟩⟩
def elemOk (P : Program) (t e : TypeId) (size bytes : Nat) : Bool :=
  match P.underlying t, P.info? e with
  | some (.slice e'), some i => e' == e && (match i.zero with | some z => z.cells.size == size | none => false) && i.size == size && i.bytes == bytes && Nat.blt 0 size
  | _, _ => false
end
theorem wrap_i {n : Int} (h0 : -9223372036854775808 ≤ n) (h1 : n < 9223372036854775808) : IntKind.i64.wrap n = n := by rw [IntKind.wrap_i64]; omega
theorem res_ld {P : Program} {t : TypeId} {a : Addr} {v : Value} {w : World} (h : (Instr.loadAt t (.pointer (some a))).run P w = .ok v w) : (do loadVar t (← asAddr (.pointer (some a))) : Sem Value).run P w = .ok v w := h
def Rt (P : Program) (f : FuncId) (args : Array Value) (w : World) (R : Value → World → Prop) : Prop := Calls P f args w fun e w' => ∃ v, e = .returned v ∧ R v w'
theorem Rt.mono {P : Program} {f : FuncId} {args : Array Value} {w : World} {R R' : Value → World → Prop} (h : Rt P f args w R) (hk : ∀ v w', R v w' → R' v w') : Rt P f args w R' := Calls.mono h fun e w' ⟨v, he, hv⟩ => ⟨v, he, hk v w' hv⟩
section
variable {P : Program} {N : Sl → World → Prop} {K : Exit → Sl → World → Prop} {ρ : Sl} {w : World} {rs : List ResultVar} {R : Value → World → Prop}
theorem sq_n : seqK N K .normal = N := rfl
theorem sq_x (i : Nat) : seqK N K (.exit i) = K (.exit i) := rfl
theorem sq_r : seqK N K .ret = K .ret := rfl
theorem bk_n (i : Nat) : blkK i K .normal = K .normal := rfl
theorem bk_r (i : Nat) : blkK i K .ret = K .ret := rfl
theorem bk_x (i : Nat) : blkK i K (.exit i) = K .normal := by
  show (if Nat.beq i i then K .normal else K (.exit i)) = _
  rw [if_pos (Nat.beq_refl i)]
theorem rt_r : retK P rs R .ret ρ w = resK P ρ (fun vs w => R (packV vs) w) rs w := rfl
theorem rt_n : retK P rs R .normal ρ w = resK P ρ (fun vs w => R (packV vs) w) rs w := rfl
theorem rs_0 {k : List Value → World → Prop} : resK P ρ k [] w = k [] w := rfl
theorem rs_t {k : List Value → World → Prop} (t : Nat) : resK P ρ k (.tmp t :: rs) w = resK P ρ (fun vs w => k (ρ t :: vs) w) rs w := rfl
theorem pk_1 (v : Value) : packV [v] = v := rfl
theorem pk_2 (v u : Value) : packV [v, u] = .tuple #[v, u] := rfl
end
theorem Mod.put {S : Nat → Prop} {a b : World} (h : Mod S a b) {i : Nat} (o : Obj) (hi : i < a.heap.size → S i) : Mod S a (b.putObj i o) := Mod.set h o hi
section
variable {α : Type} {enc : α → List Value} {k : Nat} (hk : ∀ a, (enc a).length = k)
include hk
theorem fl_len (xs : List α) : (xs.flatMap enc).length = xs.length * k := by
  induction xs with
  | nil => simp
  | cons r xs ih => simp only [List.flatMap_cons, List.length_append, List.length_cons, hk, ih, Nat.add_mul]; omega
theorem fl_drop {xs : List α} {n : Nat} {r : α} (h : xs[n]? = some r) : ((xs.flatMap enc).drop (n * k)).take k = enc r := by
  induction xs generalizing n with
  | nil => simp at h
  | cons q xs ih =>
    cases n with
    | zero =>
      simp at h
      subst h
      rw [List.flatMap_cons, Nat.zero_mul, List.drop_zero, List.take_append_of_le_length (by rw [hk]; exact Nat.le_refl _), List.take_of_length_le (by rw [hk]; exact Nat.le_refl _)]
    | succ n =>
      have := ih (n := n) (by simpa using h)
      rw [List.flatMap_cons, List.drop_append, List.drop_of_length_le (by rw [hk, Nat.add_mul]; omega), List.nil_append, hk, show (n + 1) * k - k = n * k by rw [Nat.add_mul]; omega]
      exact this
theorem fl_get {xs : List α} {n j : Nat} {r : α} (h : xs[n]? = some r) (hj : j < k) : (xs.flatMap enc)[n * k + j]? = (enc r)[j]? := by
  have := fl_drop hk h
  rw [← this, List.getElem?_take, if_pos hj, List.getElem?_drop]
end
section
variable {P : Program} {w : World} {K : Value → World → Prop}
theorem new_k (w : World) (o : Obj) {M : World → Prop} (hk : ∀ w', w'.heap[w.heap.size]? = some o → Mod none_ w w' → w'.heap.size = w.heap.size + 1 → M w') : M (w.alloc o) := hk _ (alloc_new w o) ((Mod.refl _ w).alloc _) (alloc_size w o)
theorem bs_k {t : TypeId} {len : Nat} {parts : List (Nat × Value)} {cs : Array Value} (h : builtRow P t len parts = some cs)
    (hk : ∀ w', w'.heap[w.heap.size]? = some (.cells cs (P.elem t) (0, 0)) → Mod none_ w w' → w'.heap.size = w.heap.size + 1 → K (.slice (some ⟨w.heap.size, 0, none⟩) len len) w') : VK P (Instr.buildSlice t len parts.toArray) w K := by
  rw [bs_ok h]
  exact new_k w _ hk
theorem box_k {t : TypeId} {v : Value} {cs : Array Value} (hc : v.cells = cs) (hk : ∀ w', w'.heap[w.heap.size]? = some (.cells cs t (0, 0)) → Mod none_ w w' → w'.heap.size = w.heap.size + 1 → K (.pointer (some ⟨w.heap.size, 0, none⟩)) w') : VK P (Instr.box t v) w K := by
  rw [box_ok, hc]
  exact new_k w _ hk
theorem al_k {t : TypeId} {z : Value} {cs : Array Value} (hz0 : (P.info? t).bind (·.zero) = some z) (hc : z.cells = cs) (v : Value) (hk : ∀ w', w'.heap[w.heap.size]? = some (.cells cs t (0, 0)) → Mod none_ w w' → w'.heap.size = w.heap.size + 1 → K (.pointer (some ⟨w.heap.size, 0, none⟩)) w') : VK P (Instr.alloc t true v) w K := by
  rw [alloc_ok hz0, hc]
  exact new_k w _ hk
theorem reads_blk {w : World} {b : Nat} {cs : Array Value} {e : TypeId} {fr : Nat × Nat} {size n : Nat} (h : w.heap[b]? = some (.cells cs e fr)) (hs : cs.size = n * size) : reads w size (.slice (some ⟨b, 0, none⟩) n n) n cs.toList :=
  ⟨by simpa using hs, _, _, rfl, Nat.le_refl _, fun j u hu => ⟨_, rfl, by rw [add_pl, cell_blk h]; simpa using hu⟩⟩
end
theorem run_fo {P : Program} {s : TypeId} {i off : Nat} (h : fieldOff P s i = some off) (a : Addr) (w : World) : (Instr.fieldAt s (.pointer (some a)) i).run P w = .ok (.pointer (some (a.add off))) w := by
  unfold fieldOff at h
  split at h
  · rename_i fs hu
    split at h
    · rename_i f hf
      split at h
      · cases h
      · rename_i n hc
        cases h
        obtain ⟨z, hz, hzs⟩ := info_of hc
        have h0 : z.size ≠ 0 := by omega
        simp [Instr.fieldAt, run_underlying hu, Sem.run_bind, hf, Instr.sureAddr, fieldPlace, sizeOf, typeInfo, hz, h0]
    · cases h
  · cases h
theorem run_ixa {P : Program} {t e : TypeId} {sz : Nat} (hu : P.underlying t = some (.slice e)) (hc : P.cellsOf e = sz + 1) {a : Addr} {n c : Nat} {k : IntKind} {i : Int} (h0 : 0 ≤ i) (h1 : i < n) (w : World) :
    (Instr.indexAt t (.slice (some a) n c) (.int k i)).run P w = .ok (.pointer (some (a.add (i.toNat * (sz + 1))))) w := by
  obtain ⟨z, hz, hzs⟩ := info_of hc
  simp [Instr.indexAt, run_underlying hu, Sem.run_bind, asIntOf, h0, h1, sizeOf, typeInfo, hz, hzs]
theorem owns_blk {w : World} {base : Nat} {e : TypeId} {size : Nat} {v : Value} {n : Nat} {xs : List Value} (h : w.ownsRow base e size v n xs) {g : Nat} (hg : v.ownBlock = some g) : ∃ cur, w.heap[g]? = some (.cells cur e (0, 0)) := by
  rcases h.2 with ⟨rfl, rfl⟩ | ⟨g', cap, cur, rfl, _, hg', _⟩
  · simp [Value.ownBlock] at hg
  · simp [Value.ownBlock] at hg
    subst hg
    exact ⟨cur, hg'⟩
theorem st_row {P : Program} {w : World} {K : Value → World → Prop} {t e : TypeId} {base size n cap g : Nat} {u : Value} {xs : List Value} (hc1 : P.cellsOf t = 1) (hv : u.oneCell' = true) (hown : w.ownsRow base e size (.slice (some ⟨g, 0, none⟩) n cap) n xs) {k : Nat} (hk : k < n * size)
    (hK : ∀ w', w'.ownsRow base e size (.slice (some ⟨g, 0, none⟩) n cap) n (xs.set k u) → Mod (fun b => b = g) w w' → K undef w') : UK P (Instr.storeAt t (.pointer (some ⟨g, k, none⟩)) u) w K := by
  obtain ⟨hl, h⟩ := hown
  rcases h with ⟨q, _⟩ | ⟨g', cap', cur, q, hb, hg, hn, hm, hs, ht⟩
  · cases q
  · cases q
    have hcap : n * size ≤ cap * size := Nat.mul_le_mul_right _ hn
    refine st1 hc1 hv hg (by omega) (hK _ ⟨by rw [List.length_set]; exact hl, .inr ⟨g, cap, _, rfl, hb, setB_new _ _ _ (X.blk_lt hg), hn, hm, by simpa using hs, ?_⟩⟩ ((Mod.refl _ w).set _ (fun _ => rfl)))
    rw [← ht, Array.toList_setIfInBounds, List.take_set]
theorem run_cut {P : Program} {t e : TypeId} {sz : Nat} (hu : P.underlying t = some (.slice e)) (hc : P.cellsOf e = sz + 1) {A : Option Addr} {n c : Nat} (hnc : n ≤ c) {k : IntKind} {i : Int} (h0 : 0 ≤ i) (h1 : i ≤ n) (w : World) :
    (Instr.sliceAt t (.slice A n c) none (some (.int k i)) none).run P w = .ok (sliced A 0 i.toNat c (sz + 1)) w := by
  obtain ⟨z, hz, hzs⟩ := info_of hc
  have he : P.elem t = e := by simp [Program.elem, hu]
  rw [run_sliceAt_slice (h := elem_of hu), run_slice_h w t A n c (elem_of hu) k i h0 (by omega), he]
  simp [sizeOf, typeInfo, hz, hzs]
theorem reads_cut {w : World} {size : Nat} {A : Option Addr} {n c : Nat} {xs : List Value} (h : reads w size (.slice A n c) n xs) {m : Nat} (hm : m ≤ n) (s : Nat) : reads w size (sliced A 0 m c s) m (xs.take (m * size)) := by
  obtain ⟨hl, A', c', q, hnc, hr⟩ := h
  cases q
  refine ⟨?_, _, _, rfl, by omega, fun j u hu => ?_⟩
  · rw [List.length_take, hl]
    exact Nat.min_eq_left (Nat.mul_le_mul_right _ hm)
  · rw [List.getElem?_take] at hu
    split at hu
    · obtain ⟨a, rfl, hcell⟩ := hr j u hu
      refine ⟨a, ?_, hcell⟩
      by_cases hq : c = 0 <;> simp [hq, Addr.add]
    · cases hu
theorem reads_cap {w : World} {size : Nat} {v : Value} {n : Nat} {xs : List Value} (h : reads w size v n xs) : ∃ A c, v = .slice A n c ∧ n ≤ c := by
  obtain ⟨_, A, c, rfl, hnc, _⟩ := h
  exact ⟨A, c, rfl, hnc⟩
section
variable {P : Program} {C : World → Prop}
theorem q_ixld {t e : TypeId} {d : TypeDesc} (hu : P.underlying t = some (.slice e)) (hc : P.cellsOf e = 1) (hue : P.underlying e = some d) (hd : (match d with | .struct _ | .array _ _ => true | _ => false) = false) {w : World} (hw : C w) {v : Value} {n : Nat} {xs : List Value} (h : ∀ w, C w → reads w 1 v n xs) {k : IntKind} {i : Int}
    (h0 : 0 ≤ i) {u : Value} (hi : xs[i.toNat]? = some u) {K : Value → Value → Prop} (hk : ∀ x, K x u) : QK P C (do pure (Next.value (← Instr.indexAt t v (.int k i)))) fun x => QK P C (do pure (Next.value (← Instr.loadAt e x))) (K x) := by
  obtain ⟨hl, A, c, rfl, _, hr⟩ := h w hw
  obtain ⟨a, rfl, hcell⟩ := hr _ _ hi
  have hlt : i.toNat < xs.length := by
    rcases Nat.lt_or_ge i.toNat xs.length with q | q
    · exact q
    · rw [List.getElem?_eq_none q] at hi; cases hi
  refine QV_of (fun w _ => run_ixa (sz := 0) hu hc h0 (by omega) w) (QV_of (fun w hw => run_ld1 hue hd ?_) (hk _))
  obtain ⟨_, A', c', q, _, hr'⟩ := h w hw
  cases q
  obtain ⟨a', q, hcell'⟩ := hr' _ _ hi
  cases q
  simpa using hcell'
end
theorem BK_rem {P : Program} {w : World} {K : Value → World → Prop} {t : TypeId} {x y : Operand} {k : IntKind} {a b : Int} (hb : b ≠ 0) : BK P .rem t x y (.int k a) (.int k b) w K = K (.int k (a.tmod b)) w := by
  refine BK_of rfl ?_
  rw [binOp_rem]
  simp [Op.intDiv, hb]
theorem QI_len {P : Program} {C : World → Prop} {K : Value → Prop} {t e ty : TypeId} (h : P.underlying t = some (.slice e)) (cs : Array Bool) (A : Option Addr) (n c : Nat) (hk : K (.int .i64 n)) : QK P C (builtin .len #[t] ty cs [Value.slice A n c].toArray) K := by
  refine ⟨_, fun w _ => ?_, hk⟩
  have : (builtin .len #[t] ty cs [Value.slice A n c].toArray).run P w = .ok (.value (.int .i64 n)) w := by simp [builtin, run_len_slice w t ty A n c (elem_of h), goInt]
  rw [this]
  exact ⟨rfl, rfl⟩
def ldStuck (P : Program) (t : TypeId) (a : Addr) (K : Value → World → Prop) (w : World) : Prop := VK P (Instr.loadAt t (.pointer (some a))) w K
def ldK (o : Option Value) (s : Prop) (K : Value → World → Prop) (w : World) : Prop := match o with | some v => K v w | none => s
theorem ldK_some (v : Value) (s : Prop) (K : Value → World → Prop) (w : World) : ldK (some v) s K w = K v w := rfl
theorem ldE {P : Program} {w : World} {K : Value → World → Prop} {t : TypeId} {d : TypeDesc} (hu : P.underlying t = some d) (hd : (match d with | .struct _ | .array _ _ => true | _ => false) = false) (a : Addr) : VK P (Instr.loadAt t (.pointer (some a))) w K = ldK (w.cell? a) (ldStuck P t a K w) K w := by
  cases hc : w.cell? a with
  | some v =>
    have := run_ld1 hu hd hc
    unfold VK OpK
    simp only [Sem.run_bind, this, Result.andThen_ok]
    rfl
  | none => rfl
def blkC (o : Option Obj) (j : Nat) : Option Value := match o with | some (.cells cs _ _) => cs[j]? | _ => none
theorem blkC_c (cs : Array Value) (t : TypeId) (fr : Nat × Nat) (j : Nat) : blkC (some (.cells cs t fr)) j = cs[j]? := rfl
theorem cellE (w : World) (b j : Nat) : w.cell? ⟨b, j, none⟩ = blkC (w.heap[b]?) j := by
  unfold World.cell? blkC
  cases h : w.heap[b]? with
  | none => simp [h]
  | some o => cases o <;> simp [h]
theorem caseI {P : Program} {w : World} {K : Value → World → Prop} {t : TypeId} {x y : Operand} {k : IntKind} {a b : Int} (h1 : a = b → K (.bool true) w) (h2 : a ≠ b → K (.bool false) w) : BK P .eql t x y (.int k a) (.int k b) w K := by
  rw [BK_eql]
  by_cases h : a = b
  · rw [beq_iff_eq.2 h]; exact h1 h
  · rw [beq_eq_false_iff_ne.2 h]; exact h2 h
theorem caseC {A B : Prop} {b : Bool} (h1 : b = true → A) (h2 : b = false → B) : CondK (.bool b) A B := ⟨b, rfl, h1, h2⟩
theorem condT {A B : Prop} (h : A) : CondK (.bool true) A B := ⟨true, rfl, fun _ => h, fun q => by cases q⟩
theorem condF {A B : Prop} (h : B) : CondK (.bool false) A B := ⟨false, rfl, (fun q => by cases q), fun _ => h⟩
section
variable {P : Program} {C : World → Prop} {K : Value → Prop}
theorem Qfo {s : TypeId} {i off : Nat} (h : fieldOff P s i = some off) {a : Addr} (hk : K (.pointer (some (a.add off)))) : QK P C (do pure (Next.value (← Instr.fieldAt s (.pointer (some a)) i))) K := QV_of (fun w _ => run_fo h a w) hk
theorem Qld {t : TypeId} {d : TypeDesc} {a : Addr} {v : Value} (hu : P.underlying t = some d) (hd : (match d with | .struct _ | .array _ _ => true | _ => false) = false) (hc : ∀ w, C w → w.cell? a = some v) (hk : K v) : QK P C (do pure (Next.value (← Instr.loadAt t (.pointer (some a))))) K := QV_of (fun w hw => run_ld1 hu hd (hc w hw)) hk
section
variable (t : TypeId) (x y : Operand) (k : IntKind) (a b : Int)
theorem Qleq {t : TypeId} {x y : Operand} {k : IntKind} {a b : Int} (hk : K (.bool (decide (a ≤ b)))) : QK P C (do pure (Next.value (← (do eqGuard .leq t x y (.int k a) (.int k b); binOp .leq t (.int k a) (.int k b))))) K := QB_of (fun _ => rfl) (fun w => by simp [go_sem]) hk
theorem Qgeq {t : TypeId} {x y : Operand} {k : IntKind} {a b : Int} (hk : K (.bool (decide (b ≤ a)))) : QK P C (do pure (Next.value (← (do eqGuard .geq t x y (.int k a) (.int k b); binOp .geq t (.int k a) (.int k b))))) K := QB_of (fun _ => rfl) (fun w => by simp [go_sem]) hk
theorem Qneq {t : TypeId} {x y : Operand} {k : IntKind} {a b : Int} (hk : K (.bool (a != b))) : QK P C (do pure (Next.value (← (do eqGuard .neq t x y (.int k a) (.int k b); binOp .neq t (.int k a) (.int k b))))) K := QB_of (fun _ => rfl) (fun w => by simp [go_sem]) hk
theorem Qadd {t : TypeId} {x y : Operand} {k : IntKind} {a b : Int} (hk : K (.int k (k.wrap (a + b)))) : QK P C (do pure (Next.value (← (do eqGuard .add t x y (.int k a) (.int k b); binOp .add t (.int k a) (.int k b))))) K := QB_of (fun _ => rfl) (fun w => by simp [go_sem]) hk
end
theorem QC_rt {f : FuncId} {fn : Func} {args : Array Value} {R : World → Value → World → Prop} {v : Value} (hf : P.funcs[f]? = some fn) (hb : fn.body.isNone = false) (hn : (fn.name == "runtime.NumGoroutine") = false)
    (h : ∀ w, C w → Rt P f args w (R w)) (hR : ∀ w u w', C w → R w u w' → u = v ∧ C w') (hk : K v) : QK P C (do let d ← Deferred.ofValue (.func (.func f) #[] #[]) args; invoke d.target d.args) K :=
  QC_st hf hb hn (fun w hw => Calls.mono (h w hw) fun e w' ⟨u, he, hu⟩ => by obtain ⟨rfl, hc⟩ := hR w u w' hw hu; exact ⟨he, hc⟩) hk
end
theorem st_k {P : Program} {w : World} {K : Value → World → Prop} {t ty : TypeId} {b o : Nat} {cs : Array Value} {v : Value} (hc1 : P.cellsOf t = 1) (hv : v.oneCell' = true) (hb : w.heap[b]? = some (.cells cs ty (0, 0))) (ho : o < cs.size)
    (hk : ∀ w', w'.heap[b]? = some (.cells (cs.setIfInBounds o v) ty (0, 0)) → (∀ i, i ≠ b → w'.heap[i]? = w.heap[i]?) → w'.heap.size = w.heap.size → Mod (fun k => k = b) w w' → K undef w') : UK P (Instr.storeAt t (.pointer (some ⟨b, o, none⟩)) v) w K :=
  st1 hc1 hv hb ho (hk _ (setB_new _ _ _ (X.blk_lt hb)) (fun i hi => setB_old _ _ _ _ hi) (setB_size _ _ _) ((Mod.refl _ w).set _ (fun _ => rfl)))
end Go.X
set_option linter.unusedVariables false
namespace Go.X
open Go Go.RowKit
structure Sh (α : Type) where
  sz : Nat
  K : World → α → List Value → Prop
structure OpensAt (P : Program) (n : Nat) {α : Type} (k : Sh α) (t : TypeId) : Prop where
  go : ∀ {H : Type} {enc : TypeId × Value → H} {w : World} {base : Nat} {sp : Nat → Bool} {hd : Bool} {cs : List Value} {x : DataW H × List MemPlace}, DataW.trod enc P w base sp hd n t cs = some x → ∃ v : α, k.K w v cs
def Sh.int (k : IntKind) : Sh Int := ⟨1, fun _ v cs => cs = [.int k v] ∧ (Lit.int k v).wf = true⟩
def Sh.bool : Sh Bool := ⟨1, fun _ v cs => cs = [.bool v]⟩
def Sh.string : Sh ByteArray := ⟨1, fun _ v cs => cs = [.string v] ∧ v.size ≤ maxLen⟩
def Sh.slice {α : Type} (k : Sh α) : Sh (Value × List α) := ⟨1, fun w x cs => cs = [x.1] ∧ x.2.length ≤ maxLen ∧ ∃ A c, x.1 = .slice A x.2.length c ∧ x.2.length ≤ c ∧ ∀ (i : Nat) y, x.2[i]? = some y → ∃ a d, A = some a ∧ d.length = k.sz ∧ k.K w y d ∧ ∀ (j : Nat) u, d[j]? = some u → w.cell? (a.add (i * k.sz + j)) = some u⟩
section
variable {P : Program} {n : Nat}
theorem opens_int {k : IntKind} {t : TypeId} (h : P.underlying t = some (.int k)) : OpensAt P n (Sh.int k) t := by
  constructor
  intro H enc w base sp hd cs x hx
  cases n with
  | zero => simp [DataW.trod] at hx
  | succ n =>
    unfold DataW.trod at hx
    rw [h] at hx
    match cs with
    | [.int k' m] =>
      simp only at hx
      split at hx
      · rename_i hk
        obtain ⟨rfl, hw⟩ := hk
        exact ⟨m, rfl, hw⟩
      · cases hx
    | [] => simp at hx
    | [.bool _] => simp at hx
    | [.float ..] => simp at hx
    | [.complex ..] => simp at hx
    | [.string _] => simp at hx
    | [.pointer _] => simp at hx
    | [.slice ..] => simp at hx
    | [.map _] => simp at hx
    | [.chan _] => simp at hx
    | [.func ..] => simp at hx
    | [.nilFunc] => simp at hx
    | [.iface ..] => simp at hx
    | [.nilIface] => simp at hx
    | [.agg _] => simp at hx
    | [.tuple _] => simp at hx
    | _ :: _ :: _ => simp at hx
theorem choose_list {α : Type} {Q : Nat → α → Prop} : ∀ n : Nat, (∀ i, i < n → ∃ v, Q i v) → ∃ l : List α, l.length = n ∧ ∀ i v, l[i]? = some v → Q i v
  | 0, _ => ⟨[], rfl, fun i v h => by simp at h⟩
  | n + 1, h => by
    obtain ⟨l, hl, hq⟩ := choose_list n (fun i hi => h i (by omega))
    obtain ⟨v, hv⟩ := h n (by omega)
    refine ⟨l ++ [v], by simp [hl], fun i u hu => ?_⟩
    rcases Nat.lt_trichotomy i n with hi | hi | hi
    · rw [List.getElem?_append_left (by omega)] at hu; exact hq i u hu
    · subst hi
      rw [List.getElem?_append_right (by omega), hl] at hu
      simp at hu
      exact hu ▸ hv
    · rw [List.getElem?_eq_none (by simp [hl]; omega)] at hu; cases hu
theorem opens_slice {α : Type} {k : Sh α} {t e : TypeId} (h : P.underlying t = some (.slice e)) (hs : P.cellsOf e = k.sz) (he : ∀ m, m < n → OpensAt P m k e) : OpensAt P n (Sh.slice k) t := by
  constructor
  intro H enc w base sp hd cs x hx
  rcases DataW.trod_slice h hx with ⟨rfl, rfl⟩ | ⟨a, len, cap, elems, rest, m, hn, rfl, rfl, hb, hl, hm, hlen, hel, _, _⟩
  · exact ⟨(.slice none 0 0, []), rfl, by simp, none, 0, rfl, Nat.le_refl _, by simp⟩
  · have key : ∀ i, i < len → ∃ v : α, ∃ c, c.length = k.sz ∧ k.K w v c ∧ ∀ j u, c[j]? = some u → w.cell? (a.add (i * k.sz + j)) = some u := by
      intro i hi
      have h1 := hel i hi
      rw [List.getElem?_eq_getElem (show i < elems.length by omega)] at h1
      obtain ⟨c, hc, ht⟩ := Option.bind_eq_some_iff.1 h1
      obtain ⟨_, hcl, hcell⟩ := World.cells?_some hc
      obtain ⟨v, hv⟩ := (he m (by omega)).go ht
      refine ⟨v, c, by rw [hcl, hs], hv, fun j u hu => ?_⟩
      have hj : j < P.cellsOf e := by
        rcases Nat.lt_or_ge j c.length with q | q
        · omega
        · rw [List.getElem?_eq_none q] at hu; cases hu
      have := hcell j hj
      rw [hu] at this
      rw [← this, ← hs, add_add]
    obtain ⟨l, hll, hq⟩ := choose_list len key
    refine ⟨(.slice (some a) len cap, l), rfl, ?_, some a, cap, by rw [hll], by show l.length ≤ cap; omega, fun i y hy => ?_⟩
    · show l.length ≤ maxLen; omega
    · obtain ⟨d, h1, h2, h3⟩ := hq i y hy
      exact ⟨a, d, rfl, h1, h2, h3⟩
end
theorem reads_sh {α : Type} {k : Sh α} {w : World} {x : Value × List α} {cs : List Value} (h : (Sh.slice k).K w x cs) (enc : α → List Value) (hk : ∀ a, (enc a).length = k.sz) (he : ∀ a d, k.K w a d → d = enc a) : reads w k.sz x.1 x.2.length (x.2.flatMap enc) := by
  obtain ⟨_, _, A, c, hv, hc, hr⟩ := h
  refine ⟨fl_len hk _, A, c, hv, hc, fun j u hu => ?_⟩
  have hlen := fl_len hk x.2
  have hj : j < x.2.length * k.sz := by
    rcases Nat.lt_or_ge j (x.2.flatMap enc).length with q | q
    · omega
    · rw [List.getElem?_eq_none q] at hu; cases hu
  have hs : 0 < k.sz := by
    rcases Nat.eq_zero_or_pos k.sz with q | q
    · rw [q] at hj; omega
    · exact q
  have hi : j / k.sz < x.2.length := by rw [Nat.div_lt_iff_lt_mul hs]; exact hj
  obtain ⟨a, d, rfl, hdl, hkd, hcell⟩ := hr _ _ (List.getElem?_eq_getElem hi)
  have hjd : j / k.sz * k.sz + j % k.sz = j := by rw [Nat.mul_comm]; exact Nat.div_add_mod j k.sz
  refine ⟨a, rfl, ?_⟩
  have h1 := hcell (j % k.sz) u (by
    rw [he _ _ hkd, ← fl_get hk (List.getElem?_eq_getElem hi) (Nat.mod_lt _ hs), hjd]
    exact hu)
  rwa [hjd] at h1
theorem slice_arg {P : Program} {t e : TypeId} {w : World} {base : Nat} {v : Value} {α : Type} {k : Sh α} {x : Value × List α} (hu : P.underlying t = some (.slice e)) (hv : Value.okWide P w .any base t v) (hK : (Sh.slice k).K w x v.cells.toList) : v = x.1 := by
  obtain ⟨hcs, _, A, c, hx, _⟩ := hK
  rw [hx] at hcs ⊢
  cases v <;> first | (simp [Value.cells] at hcs ⊢; done) | (simp [Value.cells] at hcs ⊢; exact hcs) | (exfalso; simp [Value.okWide, hu, Cell.okWide, Cell.ok] at hv; done) | skip
end Go.X
set_option linter.unusedVariables false
set_option linter.unusedSimpArgs false
namespace Go.X
open Go Go.RowKit
structure FAt (P : Program) (w : World) (t : TypeId) (i : Nat) (a : Addr) (t' : TypeId) (v : Value) : Prop where
  go : ∃ off, fieldOff P t i = some off ∧ ∀ K : Value → World → Prop, VK P (Instr.loadAt t' (.pointer (some (a.add off)))) w K = K v w
theorem FAt.mk' {P : Program} {w : World} {t : TypeId} {i : Nat} {a : Addr} {t' : TypeId} {v : Value} {off : Nat} {d : TypeDesc} (h1 : fieldOff P t i = some off) (h2 : P.underlying t' = some d) (h3 : (match d with | .struct _ | .array _ _ => true | _ => false) = false) (h4 : w.cell? (a.add off) = some v) : FAt P w t i a t' v :=
  ⟨_, h1, fun K => VK_eq_of (run_ld1 h2 h3 h4)⟩
section
variable {P : Program} {w : World} {K : Value → World → Prop} {t t' ty ty' : TypeId} {i : Nat} {a : Addr} {v : Value} {b : Bool}
theorem FAt.eq (h : FAt P w t i a t' v) (K : Value → World → Prop) : (VK P (Instr.fieldAt t (.pointer (some a)) i) w fun x w => VK P (Instr.loadAt t' x) w K) = K v w := by
  obtain ⟨off, h1, h2⟩ := h.go
  rw [fo h1, h2]
variable {t2 t2' : TypeId} {i2 : Nat} {v2 : Value}
theorem FAt.vk' {K : Value → Value → World → Prop} (h : FAt P w t i a t' v) (hk : ∀ x, K x v w) : VK P (Instr.fieldAt t (.pointer (some a)) i) w fun x w => VK P (Instr.loadAt t' x) w (K x) := by
  obtain ⟨off, h1, h2⟩ := h.go
  rw [fo h1, h2]
  exact hk _
end
end Go.X
set_option linter.unusedVariables false
set_option linter.unusedSimpArgs false
namespace Go.X
open Go Go.RowKit
structure Ins where
  op : Int
  n : Int
  deriving DecidableEq
def Ins.cells (i : Ins) : List Value := [.int .u8 i.op, .int .i64 i.n]
def zIns : Ins := ⟨0, 0⟩
structure Pg where
  code : List Ins
  vars : Int
  arrs : List Int
def isCall (k : Int) : Option (Int × Int) :=
  if 1 ≤ k ∧ k ≤ 5 then some (5, 5) else if k = 9 ∨ k = 10 ∨ k = 12 then some (1, 8) else if k = 8 ∨ k = 11 ∨ k = 15 ∨ k = 20 ∨ k = 22 then some (1, 1) else if k = 18 then some (2, 2) else if 1 ≤ k ∧ k ≤ 22 then some (3, 3) else none
def argsV (n : Int) : Int :=
  if n < 0 ∨ 3072 ≤ n then -1 else
    match isCall (n % 32) with
    | none => -1
    | some (a, b) => if n % 1024 / 32 < a ∨ b < n % 1024 / 32 ∨ (0 < n / 1024 ∧ n % 32 ≠ 17 ∧ n % 32 ≠ 18) then -1 else n % 1024 / 32
def inV (n many : Int) : Bool := decide (0 ≤ n) && decide (n < many)
def Pg.tk (P : Pg) (i : Ins) : Int × Int × Bool :=
  if i.op = 1 then (0, 1, true) else if i.op = 2 then (0, 1, inV i.n P.vars) else if i.op = 3 then (1, 0, inV i.n P.vars)
  else if i.op = 4 then (1, 1, inV i.n P.arrs.length) else if i.op = 5 then (2, 0, inV i.n P.arrs.length) else if i.op = 7 then (0, 1, inV i.n 10)
  else if i.op = 6 ∨ i.op = 8 ∨ i.op = 9 ∨ i.op = 21 then (1, 1, decide (i.n = 0)) else if i.op = 25 ∨ i.op = 27 then (1, 0, decide (i.n = 0)) else if i.op = 26 then (1, 2, decide (i.n = 0))
  else if i.op = 22 then (0, 0, inV i.n P.code.length) else if i.op = 23 ∨ i.op = 24 then (1, 0, inV i.n P.code.length)
  else if i.op = 28 then (argsV i.n, 0, decide (0 ≤ argsV i.n)) else if i.op = 29 then (0, 0, decide (i.n = 0))
  else (2, 1, decide (i.n = 0) && decide (10 ≤ i.op) && decide (i.op ≤ 20))
def wayV (at_ : Int) (i : Ins) : List Int := if i.op = 29 then [] else if i.op = 22 then [i.n] else if i.op = 23 ∨ i.op = 24 then [at_ + 1, i.n] else [at_ + 1]
def cellsV : Int → List Int → Option Int
  | c, [] => some c
  | c, n :: r => if n < 1 ∨ 1000 - c < n then none else cellsV (c + n) r
def Pg.whole (P : Pg) : Bool :=
  (cellsV 0 P.arrs).isSome && decide (0 < P.code.length) && decide (P.code.length ≤ 4000) && decide (0 ≤ P.vars) && decide (P.vars ≤ 64) && P.code.all (fun i => (P.tk i).2.2) && (P.code.getLast?.any fun i => decide (i.op = 29))
def wlS (high : Int) : List Int → List Int → List Int → Option (List Int × List Int)
  | [], out, todo => some (out, todo)
  | w :: ws, out, todo => if out.getD w.toNat 0 = -1 then wlS high ws (out.set w.toNat high) (todo ++ [w]) else if out.getD w.toNat 0 = high then wlS high ws out todo else none
def wl (P : Pg) : Nat → List Int → List Int → Option (List Int)
  | 0, out, todo => if todo = [] then some out else none
  | f + 1, out, todo =>
    match todo.getLast? with
    | none => some out
    | some a =>
      let i := P.code.getD a.toNat zIns
      let h := out.getD a.toNat 0
      if h < (P.tk i).1 ∨ 200 < h - (P.tk i).1 + (P.tk i).2.1 then none else
        match wlS (h - (P.tk i).1 + (P.tk i).2.1) (wayV a i) out todo.dropLast with
        | none => none
        | some (o, t) => wl P f o t
def Pg.heights (P : Pg) : Option (List Int) := if P.whole then wl P (2 * P.code.length + 1) ((List.replicate P.code.length (-1)).set 0 0) [0] else none
def Pg.may (P : Pg) : Bool := P.heights.isSome
structure Hts (P : Pg) (out : List Int) : Prop where
  len : out.length = P.code.length
  zero : out.getD 0 0 = 0
  at_ : ∀ a : Nat, a < P.code.length → 0 ≤ out.getD a 0 → (P.tk (P.code.getD a zIns)).1 ≤ out.getD a 0 ∧ out.getD a 0 - (P.tk (P.code.getD a zIns)).1 + (P.tk (P.code.getD a zIns)).2.1 ≤ 200 ∧
    ∀ w ∈ wayV a (P.code.getD a zIns), out.getD w.toNat 0 = out.getD a 0 - (P.tk (P.code.getD a zIns)).1 + (P.tk (P.code.getD a zIns)).2.1
theorem whole_op {P : Pg} (h : P.whole = true) : ∀ i ∈ P.code, (P.tk i).2.2 = true := by
  unfold Pg.whole at h
  simp only [Bool.and_eq_true, List.all_eq_true] at h
  exact h.1.2
theorem whole_len {P : Pg} (h : P.whole = true) : 0 < P.code.length ∧ P.code.length ≤ 4000 ∧ 0 ≤ P.vars ∧ P.vars ≤ 64 := by
  unfold Pg.whole at h
  simp only [Bool.and_eq_true, decide_eq_true_iff] at h
  exact ⟨h.1.1.1.1.1.2, h.1.1.1.1.2, h.1.1.1.2, h.1.1.2⟩
theorem whole_last {P : Pg} (h : P.whole = true) : (P.code.getD (P.code.length - 1) zIns).op = 29 := by
  have hl := (whole_len h).1
  unfold Pg.whole at h
  simp only [Bool.and_eq_true] at h
  have h2 := h.2
  rw [List.getLast?_eq_getElem?] at h2
  rw [List.getD_eq_getElem?_getD]
  cases hq : P.code[P.code.length - 1]? with
  | none => rw [hq] at h2; simp at h2
  | some i => rw [hq] at h2; simpa using h2
theorem nn4 {a b : Int} {c : Bool} (h : 0 ≤ a ∧ a ≤ 8 ∧ 0 ≤ b ∧ b ≤ 2) : 0 ≤ (a, b, c).1 ∧ (a, b, c).1 ≤ 8 ∧ 0 ≤ (a, b, c).2.1 ∧ (a, b, c).2.1 ≤ 2 := h
theorem tk_nn {P : Pg} {i : Ins} (h : (P.tk i).2.2 = true) : 0 ≤ (P.tk i).1 ∧ (P.tk i).1 ≤ 8 ∧ 0 ≤ (P.tk i).2.1 ∧ (P.tk i).2.1 ≤ 2 := by
  have ha : argsV i.n ≤ 8 := by
    unfold argsV
    split
    · omega
    · split
      · omega
      · rename_i a b hq
        unfold isCall at hq
        split
        · omega
        · rename_i hn
          have : b ≤ 8 := by
            repeat' split at hq
            all_goals first | (injection hq with hq; injection hq with _ hq; omega) | cases hq
          omega
  by_cases q : i.op = 28
  · unfold Pg.tk at h ⊢
    simp [q] at h ⊢
    omega
  · unfold Pg.tk
    by_cases c : i.op = 1
    · rw [if_pos c]; exact nn4 (by decide)
    rw [if_neg c]
    clear c
    by_cases c : i.op = 2
    · rw [if_pos c]; exact nn4 (by decide)
    rw [if_neg c]
    clear c
    by_cases c : i.op = 3
    · rw [if_pos c]; exact nn4 (by decide)
    rw [if_neg c]
    clear c
    by_cases c : i.op = 4
    · rw [if_pos c]; exact nn4 (by decide)
    rw [if_neg c]
    clear c
    by_cases c : i.op = 5
    · rw [if_pos c]; exact nn4 (by decide)
    rw [if_neg c]
    clear c
    by_cases c : i.op = 7
    · rw [if_pos c]; exact nn4 (by decide)
    rw [if_neg c]
    clear c
    by_cases c : i.op = 6 ∨ i.op = 8 ∨ i.op = 9 ∨ i.op = 21
    · rw [if_pos c]; exact nn4 (by decide)
    rw [if_neg c]
    clear c
    by_cases c : i.op = 25 ∨ i.op = 27
    · rw [if_pos c]; exact nn4 (by decide)
    rw [if_neg c]
    clear c
    by_cases c : i.op = 26
    · rw [if_pos c]; exact nn4 (by decide)
    rw [if_neg c]
    clear c
    by_cases c : i.op = 22
    · rw [if_pos c]; exact nn4 (by decide)
    rw [if_neg c]
    clear c
    by_cases c : i.op = 23 ∨ i.op = 24
    · rw [if_pos c]; exact nn4 (by decide)
    rw [if_neg c]
    clear c
    rw [if_neg q]
    by_cases c : i.op = 29
    · rw [if_pos c]; exact nn4 (by decide)
    rw [if_neg c]
    exact nn4 (by decide)
theorem wayV_in {P : Pg} (hw : P.whole = true) {a : Nat} (ha : a < P.code.length) : ∀ w ∈ wayV a (P.code.getD a zIns), 0 ≤ w ∧ w < P.code.length := by
  have hop := whole_op hw (P.code.getD a zIns) (by rw [List.getD_eq_getElem?_getD, List.getElem?_eq_getElem ha]; exact List.getElem_mem ha)
  have hl := whole_last hw
  generalize hi : P.code.getD a zIns = i at *
  have hnext : i.op ≠ 29 → (a : Int) + 1 < P.code.length := fun q => by
    rcases Nat.lt_or_ge (a + 1) P.code.length with z | z
    · omega
    · exfalso
      apply q
      rw [← hi, show a = P.code.length - 1 by omega]
      exact hl
  have hjump : i.op = 22 ∨ i.op = 23 ∨ i.op = 24 → 0 ≤ i.n ∧ i.n < P.code.length := fun q => by
    unfold Pg.tk at hop
    rcases q with q | q | q
    · rw [q] at hop; simpa [inV] using hop
    · rw [q] at hop; simpa [inV] using hop
    · rw [q] at hop; simpa [inV] using hop
  unfold wayV
  intro w hwm
  split at hwm
  · cases hwm
  · rename_i q
    have := hnext q
    split at hwm
    · rename_i q2
      rw [List.mem_singleton.1 hwm]
      exact hjump (.inl q2)
    · split at hwm
      · rename_i q3
        have hj := hjump (.inr q3)
        rcases List.mem_cons.1 hwm with rfl | hwm
        · omega
        · rw [List.mem_singleton.1 hwm]; exact hj
      · rw [List.mem_singleton.1 hwm]; omega
end Go.X
set_option linter.unusedVariables false
set_option linter.unusedSimpArgs false
namespace Go.X
open Go Go.RowKit
def cnt (out : List Int) : Nat := out.count (-1)
def wlM (out todo : List Int) : Nat := 2 * cnt out + todo.length
theorem getD_set {l : List Int} {i j : Nat} {v d : Int} (hi : i < l.length) : (l.set i v).getD j d = if j = i then v else l.getD j d := by
  rw [List.getD_eq_getElem?_getD, List.getD_eq_getElem?_getD, List.getElem?_set]
  by_cases h : i = j
  · subst h; simp [hi]
  · rw [if_neg h, if_neg fun q => h q.symm]
theorem cnt_set : ∀ {l : List Int} {i : Nat} {v : Int}, l.getD i 0 = -1 → v ≠ -1 → cnt (l.set i v) + 1 = cnt l
  | [], i, v, h, _ => by simp at h
  | a :: r, 0, v, h, hv => by
    have h : a = -1 := by simpa using h
    unfold cnt
    rw [List.set_cons_zero, List.count_cons, List.count_cons, h]
    have : (v == -1) = false := by simpa using hv
    simp [this]
  | a :: r, i + 1, v, h, hv => by
    have ih := cnt_set (l := r) (i := i) (v := v) (by simpa using h) hv
    unfold cnt at ih ⊢
    rw [List.set_cons_succ, List.count_cons, List.count_cons]
    omega
structure WlS (high : Int) (ws out todo o t : List Int) : Prop where
  len : o.length = out.length
  old : ∀ b : Nat, out.getD b 0 ≠ -1 → o.getD b 0 = out.getD b 0
  new : ∀ b : Nat, o.getD b 0 = out.getD b 0 ∨ (o.getD b 0 = high ∧ (b : Int) ∈ t)
  way : ∀ w ∈ ws, o.getD w.toNat 0 = high
  sub : ∀ x ∈ todo, x ∈ t
  add : ∀ x ∈ t, x ∈ todo ∨ x ∈ ws
  m : wlM o t ≤ wlM out todo
theorem wlS_ok {high : Int} (hh : 0 ≤ high) : ∀ {ws out todo o t : List Int}, (∀ w ∈ ws, 0 ≤ w ∧ w < out.length) → wlS high ws out todo = some (o, t) → WlS high ws out todo o t
  | [], out, todo, o, t, _, h => by
    rw [wlS] at h
    injection h with h; injection h with h1 h2
    subst h1; subst h2
    exact ⟨rfl, fun _ _ => rfl, fun _ => .inl rfl, (fun w hw => by cases hw), fun x hx => hx, fun x hx => .inl hx, Nat.le_refl _⟩
  | w :: ws, out, todo, o, t, hr, h => by
    rw [wlS] at h
    have hw := hr w (by simp)
    have hwn : w.toNat < out.length := by omega
    split at h
    · rename_i q
      have ih := wlS_ok hh (ws := ws) (out := out.set w.toNat high) (todo := todo ++ [w]) (fun x hx => by rw [List.length_set]; exact hr x (List.mem_cons_of_mem _ hx)) h
      have hset : ∀ b : Nat, (out.set w.toNat high).getD b 0 = if b = w.toNat then high else out.getD b 0 := fun b => getD_set hwn
      have hnew : (out.set w.toNat high).getD w.toNat 0 = high := by rw [hset, if_pos rfl]
      refine ⟨by rw [ih.len, List.length_set], fun b hb => ?_, fun b => ?_, fun x hx => ?_, fun x hx => ih.sub x (List.mem_append_left _ hx), fun x hx => ?_, ?_⟩
      · have hbw : b ≠ w.toNat := fun z => by subst z; exact hb q
        have := ih.old b (by rw [hset, if_neg hbw]; exact hb)
        rw [this, hset, if_neg hbw]
      · by_cases hbw : b = w.toNat
        · subst hbw
          have := ih.old w.toNat (by rw [hnew]; omega)
          rw [hnew] at this
          refine .inr ⟨this, ih.sub _ (List.mem_append_right _ ?_)⟩
          rw [List.mem_singleton, Int.toNat_of_nonneg hw.1]
        · rcases ih.new b with z | z
          · rw [hset, if_neg hbw] at z; exact .inl z
          · exact .inr z
      · rcases List.mem_cons.1 hx with rfl | hx
        · have := ih.old x.toNat (by rw [hnew]; omega)
          rw [this, hnew]
        · exact ih.way x hx
      · rcases ih.add x hx with z | z
        · rcases List.mem_append.1 z with z | z
          · exact .inl z
          · rw [List.mem_singleton.1 z]; exact .inr (by simp)
        · exact .inr (List.mem_cons_of_mem _ z)
      · have hc := cnt_set (v := high) q (by omega)
        have := ih.m
        unfold wlM at this ⊢
        rw [List.length_append, List.length_singleton] at this
        omega
    · rename_i q
      split at h
      · rename_i q2
        have ih := wlS_ok hh (ws := ws) (out := out) (todo := todo) (fun x hx => hr x (List.mem_cons_of_mem _ hx)) h
        refine ⟨ih.len, ih.old, ih.new, fun x hx => ?_, ih.sub, fun x hx => (ih.add x hx).imp id (List.mem_cons_of_mem _), ih.m⟩
        rcases List.mem_cons.1 hx with rfl | hx
        · rw [ih.old _ q]; exact q2
        · exact ih.way x hx
      · cases h
structure WlI (P : Pg) (out todo : List Int) : Prop where
  len : out.length = P.code.length
  zero : out.getD 0 0 = 0
  val : ∀ a : Nat, a < P.code.length → out.getD a 0 = -1 ∨ 0 ≤ out.getD a 0
  td : ∀ t ∈ todo, 0 ≤ t ∧ t < P.code.length ∧ 0 ≤ out.getD t.toNat 0
  closed : ∀ a : Nat, a < P.code.length → 0 ≤ out.getD a 0 → (a : Int) ∈ todo ∨ ((P.tk (P.code.getD a zIns)).1 ≤ out.getD a 0 ∧ out.getD a 0 - (P.tk (P.code.getD a zIns)).1 + (P.tk (P.code.getD a zIns)).2.1 ≤ 200 ∧
    ∀ w ∈ wayV a (P.code.getD a zIns), out.getD w.toNat 0 = out.getD a 0 - (P.tk (P.code.getD a zIns)).1 + (P.tk (P.code.getD a zIns)).2.1)
theorem WlI.start {P : Pg} (hw : P.whole = true) : WlI P ((List.replicate P.code.length (-1)).set 0 0) [0] := by
  have hl := (whole_len hw).1
  have hs : ∀ b : Nat, b < P.code.length → ((List.replicate P.code.length (-1)).set 0 0).getD b 0 = if b = 0 then 0 else -1 := fun b hb => by
    rw [getD_set (by simpa using hl)]
    split
    · rfl
    · rw [List.getD_eq_getElem?_getD, List.getElem?_replicate, if_pos hb]; rfl
  refine ⟨by simp, by rw [hs 0 hl, if_pos rfl], fun a ha => ?_, fun t ht => ?_, fun a ha h0 => ?_⟩
  · rw [hs a ha]; split <;> omega
  · rw [List.mem_singleton.1 ht]
    refine ⟨by omega, by omega, ?_⟩
    show 0 ≤ ((List.replicate P.code.length (-1)).set 0 0).getD 0 0
    rw [hs 0 hl, if_pos rfl]; omega
  · rw [hs a ha] at h0
    by_cases q : a = 0
    · subst q; exact .inl (by simp)
    · rw [if_neg q] at h0; omega
theorem WlI.step {P : Pg} (hw : P.whole = true) {out todo o t : List Int} {a : Int} (h : WlI P out (todo ++ [a])) (hs : wlS (out.getD a.toNat 0 - (P.tk (P.code.getD a.toNat zIns)).1 + (P.tk (P.code.getD a.toNat zIns)).2.1) (wayV a (P.code.getD a.toNat zIns)) out todo = some (o, t))
    (h1 : (P.tk (P.code.getD a.toNat zIns)).1 ≤ out.getD a.toNat 0) (h2 : out.getD a.toNat 0 - (P.tk (P.code.getD a.toNat zIns)).1 + (P.tk (P.code.getD a.toNat zIns)).2.1 ≤ 200) : WlI P o t ∧ wlM o t < wlM out (todo ++ [a]) := by
  obtain ⟨a0, a1, a2⟩ := h.td a (by simp)
  have han : a.toNat < P.code.length := by omega
  have hop := whole_op hw (P.code.getD a.toNat zIns) (by rw [List.getD_eq_getElem?_getD, List.getElem?_eq_getElem han]; exact List.getElem_mem han)
  have htk := tk_nn hop
  have hways : ∀ w ∈ wayV a (P.code.getD a.toNat zIns), 0 ≤ w ∧ w < out.length := fun w hm => by
    have := wayV_in hw han w (by rw [Int.toNat_of_nonneg a0]; exact hm)
    rw [h.len]; exact this
  have hS := wlS_ok (by omega) hways hs
  have keep : ∀ b : Nat, 0 ≤ out.getD b 0 → o.getD b 0 = out.getD b 0 := fun b hb => hS.old b (by omega)
  refine ⟨⟨by rw [hS.len, h.len], by rw [keep 0 (by rw [h.zero]; omega), h.zero], fun b hb => ?_, fun x hx => ?_, fun b hb h0 => ?_⟩, ?_⟩
  · rcases hS.new b with z | z
    · rw [z]; exact h.val b hb
    · right; rw [z.1]; omega
  · rcases hS.add x hx with z | z
    · obtain ⟨x0, x1, x2⟩ := h.td x (List.mem_append_left _ z)
      exact ⟨x0, x1, by rw [keep _ x2]; exact x2⟩
    · have hx2 := hways x z
      rw [h.len] at hx2
      exact ⟨hx2.1, hx2.2, by rw [hS.way x z]; omega⟩
  · rcases hS.new b with z | z
    · rw [z] at h0 ⊢
      rcases h.closed b hb h0 with q | q
      · rcases List.mem_append.1 q with q | q
        · exact .inl (hS.sub _ q)
        · have hba : (b : Int) = a := List.mem_singleton.1 q
          have hbn : a.toNat = b := by omega
          right
          rw [hbn] at h1 h2 hS
          refine ⟨h1, h2, fun w hwm => ?_⟩
          rw [hba] at hwm
          exact hS.way w hwm
      · right
        refine ⟨q.1, q.2.1, fun w hwm => ?_⟩
        have hq := q.2.2 w hwm
        have hopb := whole_op hw (P.code.getD b zIns) (by rw [List.getD_eq_getElem?_getD, List.getElem?_eq_getElem hb]; exact List.getElem_mem hb)
        have htb := tk_nn hopb
        rw [keep _ (by rw [hq]; omega)]
        exact hq
    · exact .inl z.2
  · have := hS.m
    unfold wlM at this ⊢
    rw [List.length_append, List.length_singleton]
    omega
theorem wl_nil {P : Pg} (f : Nat) (out : List Int) : wl P f out [] = some out := by cases f <;> simp [wl]
theorem wl_snoc {P : Pg} (f : Nat) (out todo : List Int) (a : Int) : wl P (f + 1) out (todo ++ [a]) = if out.getD a.toNat 0 < (P.tk (P.code.getD a.toNat zIns)).1 ∨ 200 < out.getD a.toNat 0 - (P.tk (P.code.getD a.toNat zIns)).1 + (P.tk (P.code.getD a.toNat zIns)).2.1 then none else
    match wlS (out.getD a.toNat 0 - (P.tk (P.code.getD a.toNat zIns)).1 + (P.tk (P.code.getD a.toNat zIns)).2.1) (wayV a (P.code.getD a.toNat zIns)) out todo with
    | none => none
    | some (o, t) => wl P f o t := by
  rw [wl]
  simp only [List.getLast?_append, List.getLast?_singleton, Option.some_or, List.dropLast_concat]
  try rfl
theorem wl_hts {P : Pg} (hw : P.whole = true) : ∀ (f : Nat) (out todo r : List Int), WlI P out todo → wl P f out todo = some r → Hts P r := by
  intro f
  induction f with
  | zero =>
    intro out todo r hI h
    rw [wl] at h
    split at h
    · rename_i q
      injection h with h; subst h; subst q
      exact ⟨hI.len, hI.zero, fun a ha h0 => by
        rcases hI.closed a ha h0 with z | z
        · cases z
        · exact z⟩
    · cases h
  | succ f ih =>
    intro out todo r hI h
    rcases List.eq_nil_or_concat todo with rfl | ⟨l, a, rfl⟩
    · rw [wl_nil] at h
      injection h with h; subst h
      exact ⟨hI.len, hI.zero, fun a ha h0 => by
        rcases hI.closed a ha h0 with z | z
        · cases z
        · exact z⟩
    · rw [List.concat_eq_append] at hI h
      rw [wl_snoc] at h
      split at h
      · cases h
      · rename_i q
        cases hs : wlS (out.getD a.toNat 0 - (P.tk (P.code.getD a.toNat zIns)).1 + (P.tk (P.code.getD a.toNat zIns)).2.1) (wayV a (P.code.getD a.toNat zIns)) out l with
        | none => rw [hs] at h; cases h
        | some ot =>
          obtain ⟨o, t⟩ := ot
          rw [hs] at h
          exact ih o t r (hI.step hw hs (by omega) (by omega)).1 h
theorem heights_hts {P : Pg} {r : List Int} (h : P.heights = some r) : P.whole = true ∧ Hts P r := by
  unfold Pg.heights at h
  split at h
  · rename_i hw
    exact ⟨hw, wl_hts hw _ _ _ _ (WlI.start hw) h⟩
  · cases h
theorem wlM_start {P : Pg} (hw : P.whole = true) : wlM ((List.replicate P.code.length (-1)).set 0 0) [0] ≤ 2 * P.code.length + 1 := by
  unfold wlM cnt
  have := List.count_le_length (a := (-1 : Int)) (l := (List.replicate P.code.length (-1)).set 0 0)
  simp at this ⊢
  omega
end Go.X
set_option linter.unusedVariables false
set_option linter.unusedSimpArgs false
namespace Go.X
open Go Go.RowKit
abbrev w64 (n : Int) : Int := IntKind.i64.wrap n
structure Cl where
  kind : Int
  comm : Int
  peer : Int
  tag : Int
  value : Int
  size : Int
  root : Int
  op : Int
  reqs : List Int
  color : Int
  key : Int
  deriving DecidableEq
def zCl : Cl := ⟨0, 0, 0, 0, 0, 0, 0, 0, [], 0, 0⟩
structure Rs where
  flag : Bool
  value : Int
  peer : Int
  tag : Int
  req : Int
  index : Int
  comm : Int
  row : List Int
  deriving DecidableEq
def zRs : Rs := ⟨false, 0, 0, 0, 0, 0, 0, []⟩
structure Rk where
  pg : Pg
  rank : Int
  size : Int
  at_ : Int
  stack : List Int
  vars : List Int
  cells : List Int
  bases : List Int
  last : Rs
  kind : Int
  call : Cl
  fault : Int
def truV (b : Bool) : Int := if b then 1 else 0
def twoV (op a b : Int) : Int :=
  if op = 10 then w64 (a * b) else if op = 11 then (if a = -9223372036854775808 ∧ b = -1 then a else w64 (a.tdiv b)) else if op = 12 then (if b = -1 then 0 else a.tmod b)
  else if op = 13 then w64 (a + b) else if op = 14 then w64 (a - b) else if op = 15 then truV (decide (a < b)) else if op = 16 then truV (decide (a ≤ b)) else if op = 17 then truV (decide (b < a))
  else if op = 18 then truV (decide (b ≤ a)) else if op = 19 then truV (decide (a = b)) else truV (!decide (a = b))
def wordV (n rank size : Int) (x : Rs) : Int := ([rank, size, -1, x.value, x.peer, x.tag, truV x.flag, x.index, x.req, x.comm] : List Int).getD n.toNat 0
def callV (kind red : Int) (l : List Int) : Cl :=
  let g := fun k => l.getD k 0
  if 1 ≤ kind ∧ kind ≤ 5 then ⟨kind, g 0, g 1, g 2, l.getD 3 0, g 4, 0, red, [], 0, 0⟩
  else if kind = 6 ∨ kind = 7 ∨ kind = 13 ∨ kind = 14 then ⟨kind, g 0, g 1, g 2, 0, 0, 0, red, [], 0, 0⟩
  else if kind = 8 ∨ kind = 9 ∨ kind = 10 ∨ kind = 11 ∨ kind = 12 then ⟨kind, 0, 0, 0, 0, 0, 0, red, l, 0, 0⟩
  else if kind = 15 ∨ kind = 20 ∨ kind = 22 then ⟨kind, g 0, 0, 0, 0, 0, 0, red, [], 0, 0⟩
  else if kind = 18 then ⟨kind, g 0, 0, 0, l.getD 1 0, 0, 0, red, [], 0, 0⟩
  else if kind = 21 then ⟨kind, g 0, 0, 0, 0, 0, 0, red, [], g 1, g 2⟩
  else ⟨kind, g 0, 0, 0, l.getD 2 0, 0, g 1, red, [], 0, 0⟩
namespace Rk
def push (s : Rk) (n : Int) : Rk := { s with stack := s.stack ++ [n] }
def drop1 (s : Rk) : Rk := { s with stack := s.stack.dropLast }
def top (s : Rk) : Int := s.stack.getLast?.getD 0
def ends (s : Rk) (kind fault : Int) : Rk := { s with kind := kind, call := zCl, fault := fault }
def jump (s : Rk) (n : Int) : Rk := { s with at_ := n }
def cellAt (s : Rk) (array place : Int) : Option Nat := if place < 0 ∨ s.pg.arrs.getD array.toNat 0 ≤ place then none else some (s.bases.getD array.toNat 0 + place).toNat
def doV (s : Rk) (i : Ins) : Rk :=
  if i.op = 1 then s.push i.n
  else if i.op = 2 then s.push (s.vars.getD i.n.toNat 0)
  else if i.op = 3 then { s.drop1 with vars := s.vars.set i.n.toNat s.top }
  else if i.op = 4 then (match s.cellAt i.n s.top with | some c => s.drop1.push (s.cells.getD c 0) | none => s.drop1.ends 4 2)
  else if i.op = 5 then (match s.cellAt i.n s.drop1.top with | some c => { s.drop1.drop1 with cells := s.cells.set c s.top } | none => s.drop1.drop1.ends 4 2)
  else if i.op = 6 then (if 0 ≤ s.top ∧ s.top < s.last.row.length then s.drop1.push (s.last.row.getD s.top.toNat 0) else s.drop1.ends 4 2)
  else if i.op = 7 then s.push (wordV i.n s.rank s.size s.last)
  else if i.op = 8 then s.drop1.push (w64 (-s.top))
  else if i.op = 9 then s.drop1.push (truV (decide (s.top = 0)))
  else if i.op = 21 then s.drop1.push (truV (!decide (s.top = 0)))
  else if i.op = 22 then s.jump i.n
  else if i.op = 23 then (if s.top = 0 then s.drop1.jump i.n else s.drop1)
  else if i.op = 24 then (if s.top = 0 then s.drop1 else s.drop1.jump i.n)
  else if i.op = 25 then s.drop1
  else if i.op = 26 then s.push s.top
  else if i.op = 27 then (if s.top = 0 then s.drop1.ends 3 0 else s.drop1)
  else if i.op = 28 then { s with stack := s.stack.take (s.stack.length - (i.n / 32 % 32).toNat), kind := 1, call := callV (i.n % 32) (i.n / 1024) (s.stack.drop (s.stack.length - (i.n / 32 % 32).toNat)), fault := 0 }
  else if i.op = 29 then s.ends 2 0
  else if s.top = 0 ∧ (i.op = 11 ∨ i.op = 12) then s.drop1.drop1.ends 4 1 else s.drop1.drop1.push (twoV i.op s.drop1.top s.top)
def step (s : Rk) : Rk := doV { s with at_ := s.at_ + 1 } (s.pg.code.getD s.at_.toNat zIns)
def run : Nat → Rk → Rk × Nat
  | 0, s => (s, 0)
  | k + 1, s => if s.kind = 0 then ((run k s.step).1, (run k s.step).2 + 1) else (s, 0)
theorem run_add : ∀ (m n : Nat) (s : Rk), run (m + n) s = ((run n (run m s).1).1, (run m s).2 + (run n (run m s).1).2)
  | 0, n, s => by rw [Nat.zero_add, run]; simp
  | m + 1, n, s => by
    rw [show m + 1 + n = (m + n) + 1 by omega, run, run]
    by_cases h : s.kind = 0
    · rw [if_pos h, if_pos h, run_add m n s.step]
      simp only [Prod.mk.injEq]
      exact ⟨trivial, by omega⟩
    · rw [if_neg h, if_neg h]
      have : run n s = (s, 0) := by cases n <;> simp [run, h]
      rw [this]; rfl
theorem run_stop {s : Rk} (h : s.kind ≠ 0) (m : Nat) : run m s = (s, 0) := by cases m <;> simp [run, h]
theorem run_snoc : ∀ (m : Nat) (s : Rk), (run m s).2 = m → (run m s).1.kind = 0 → run (m + 1) s = ((run m s).1.step, m + 1) := by
  intro m s h1 h2
  rw [run_add, run, if_pos h2, run, h1]
theorem run_end : ∀ (m k : Nat) (s : Rk), (run m s).1.kind ≠ 0 → run (m + k) s = run m s := by
  intro m k s h
  rw [run_add, run_stop h]; rfl
structure Inv (H : List Int) (s : Rk) : Prop where
  hts : s.pg.heights = some H
  go : s.kind = 0 ∨ s.kind = 1 → 0 ≤ s.at_ ∧ s.at_ < s.pg.code.length ∧ H.getD s.at_.toNat 0 = s.stack.length
  st : s.stack.length ≤ 200
  vars : (s.vars.length : Int) = s.pg.vars
  bases : s.bases.length = s.pg.arrs.length
  base : ∀ a : Nat, a < s.pg.arrs.length → 0 ≤ s.bases.getD a 0 ∧ s.bases.getD a 0 + s.pg.arrs.getD a 0 ≤ s.cells.length
  cells : s.cells.length ≤ 1000
  reqs : s.call.reqs.length ≤ 8
  row : s.last.row.length ≤ 1000
end Rk
end Go.X
set_option linter.unusedVariables false
set_option linter.unusedSimpArgs false
namespace Go.X
open Go Go.RowKit
namespace Rk
structure Done (s s' : Rk) (i : Ins) : Prop where
  pg : s'.pg = s.pg
  rank : s'.rank = s.rank
  size : s'.size = s.size
  last : s'.last = s.last
  bases : s'.bases = s.bases
  vars : s'.vars.length = s.vars.length
  cells : s'.cells.length = s.cells.length
  go : s'.kind = 0 ∨ s'.kind = 1 → (s'.at_ = s.at_ ∧ i.op ≠ 29 ∧ i.op ≠ 22 ∨ s'.at_ = i.n ∧ (i.op = 22 ∨ i.op = 23 ∨ i.op = 24)) ∧ (s'.stack.length : Int) = s.stack.length - (s.pg.tk i).1 + (s.pg.tk i).2.1
  st : s'.stack.length ≤ s.stack.length ∨ s'.kind = 0 ∨ s'.kind = 1
  rq : s'.call.reqs.length ≤ max s.call.reqs.length 8
theorem callV_reqs (k r : Int) (l : List Int) : (callV k r l).reqs.length ≤ l.length := by
  unfold callV
  dsimp only
  repeat' split
  all_goals simp
theorem argsV_many {n : Int} (h : 0 ≤ argsV n) : argsV n = n / 32 % 32 ∧ 0 ≤ n ∧ n < 3072 ∧ argsV n ≤ 8 ∧ 1 ≤ argsV n := by
  unfold argsV at h ⊢
  split at h
  · omega
  · rename_i q
    rw [if_neg q]
    cases hq : isCall (n % 32) with
    | none => rw [hq] at h; dsimp only at h; omega
    | some ab =>
      obtain ⟨a, b⟩ := ab
      rw [hq] at h
      dsimp only at h ⊢
      split at h
      · omega
      · rename_i z
        rw [if_neg z]
        have hb : b ≤ 8 ∧ 1 ≤ a := by
          unfold isCall at hq
          repeat' split at hq
          all_goals first | (injection hq with hq; injection hq with h1 h2; omega) | cases hq
        omega
theorem tk1 {P : Pg} {i : Ins} (h : i.op = 1) : (P.tk i).1 = 0 ∧ (P.tk i).2.1 = 1 := by unfold Pg.tk; simp [h]
theorem tk2 {P : Pg} {i : Ins} (h : i.op = 2) : (P.tk i).1 = 0 ∧ (P.tk i).2.1 = 1 := by unfold Pg.tk; simp [h]
theorem tk3 {P : Pg} {i : Ins} (h : i.op = 3) : (P.tk i).1 = 1 ∧ (P.tk i).2.1 = 0 := by unfold Pg.tk; simp [h]
theorem tk4 {P : Pg} {i : Ins} (h : i.op = 4) : (P.tk i).1 = 1 ∧ (P.tk i).2.1 = 1 := by unfold Pg.tk; simp [h]
theorem tk5 {P : Pg} {i : Ins} (h : i.op = 5) : (P.tk i).1 = 2 ∧ (P.tk i).2.1 = 0 := by unfold Pg.tk; simp [h]
theorem tk6 {P : Pg} {i : Ins} (h : i.op = 6) : (P.tk i).1 = 1 ∧ (P.tk i).2.1 = 1 := by unfold Pg.tk; simp [h]
theorem tk7 {P : Pg} {i : Ins} (h : i.op = 7) : (P.tk i).1 = 0 ∧ (P.tk i).2.1 = 1 := by unfold Pg.tk; simp [h]
theorem tk8 {P : Pg} {i : Ins} (h : i.op = 8) : (P.tk i).1 = 1 ∧ (P.tk i).2.1 = 1 := by unfold Pg.tk; simp [h]
theorem tk9 {P : Pg} {i : Ins} (h : i.op = 9) : (P.tk i).1 = 1 ∧ (P.tk i).2.1 = 1 := by unfold Pg.tk; simp [h]
theorem tk21 {P : Pg} {i : Ins} (h : i.op = 21) : (P.tk i).1 = 1 ∧ (P.tk i).2.1 = 1 := by unfold Pg.tk; simp [h]
theorem tk22 {P : Pg} {i : Ins} (h : i.op = 22) : (P.tk i).1 = 0 ∧ (P.tk i).2.1 = 0 := by unfold Pg.tk; simp [h]
theorem tk23 {P : Pg} {i : Ins} (h : i.op = 23) : (P.tk i).1 = 1 ∧ (P.tk i).2.1 = 0 := by unfold Pg.tk; simp [h]
theorem tk24 {P : Pg} {i : Ins} (h : i.op = 24) : (P.tk i).1 = 1 ∧ (P.tk i).2.1 = 0 := by unfold Pg.tk; simp [h]
theorem tk25 {P : Pg} {i : Ins} (h : i.op = 25) : (P.tk i).1 = 1 ∧ (P.tk i).2.1 = 0 := by unfold Pg.tk; simp [h]
theorem tk26 {P : Pg} {i : Ins} (h : i.op = 26) : (P.tk i).1 = 1 ∧ (P.tk i).2.1 = 2 := by unfold Pg.tk; simp [h]
theorem tk27 {P : Pg} {i : Ins} (h : i.op = 27) : (P.tk i).1 = 1 ∧ (P.tk i).2.1 = 0 := by unfold Pg.tk; simp [h]
theorem tk29 {P : Pg} {i : Ins} (h : i.op = 29) : (P.tk i).1 = 0 ∧ (P.tk i).2.1 = 0 := by unfold Pg.tk; simp [h]
theorem tk28 {P : Pg} {i : Ins} (h : i.op = 28) : (P.tk i).1 = argsV i.n ∧ (P.tk i).2.1 = 0 ∧ (P.tk i).2.2 = decide (0 ≤ argsV i.n) := by unfold Pg.tk; simp [h]
theorem tkE {P : Pg} {i : Ins} (h : (P.tk i).2.2 = true) (hn : i.op ≠ 1 ∧ i.op ≠ 2 ∧ i.op ≠ 3 ∧ i.op ≠ 4 ∧ i.op ≠ 5 ∧ i.op ≠ 6 ∧ i.op ≠ 7 ∧ i.op ≠ 8 ∧ i.op ≠ 9 ∧ i.op ≠ 21 ∧ i.op ≠ 22 ∧ i.op ≠ 23 ∧ i.op ≠ 24 ∧ i.op ≠ 25 ∧ i.op ≠ 26 ∧ i.op ≠ 27 ∧ i.op ≠ 29 ∧ i.op ≠ 28) : (P.tk i).1 = 2 ∧ (P.tk i).2.1 = 1 ∧ 10 ≤ i.op ∧ i.op ≤ 20 ∧ i.n = 0 := by
  obtain ⟨n1, n2, n3, n4, n5, n6, n7, n8, n9, n21, n22, n23, n24, n25, n26, n27, n29, n28⟩ := hn
  have e : P.tk i = (2, 1, decide (i.n = 0) && decide (10 ≤ i.op) && decide (i.op ≤ 20)) := by unfold Pg.tk; simp [*]
  rw [e] at h ⊢
  simp only [Bool.and_eq_true, decide_eq_true_iff] at h
  exact ⟨rfl, rfl, h.1.2, h.2, h.1.1⟩
theorem Done.mk1 {s s' : Rk} {i : Ins} {t g : Int} (ht : (s.pg.tk i).1 = t ∧ (s.pg.tk i).2.1 = g) (h1 : s'.pg = s.pg) (h2 : s'.rank = s.rank) (h3 : s'.size = s.size) (h4 : s'.last = s.last) (h5 : s'.bases = s.bases) (h6 : s'.vars.length = s.vars.length) (h7 : s'.cells.length = s.cells.length)
    (h8 : s'.kind = 0 ∨ s'.kind = 1 → (s'.at_ = s.at_ ∧ i.op ≠ 29 ∧ i.op ≠ 22 ∨ s'.at_ = i.n ∧ (i.op = 22 ∨ i.op = 23 ∨ i.op = 24)) ∧ (s'.stack.length : Int) = s.stack.length - t + g) (h9 : s'.stack.length ≤ s.stack.length ∨ s'.kind = 0 ∨ s'.kind = 1) (h10 : s'.call.reqs.length ≤ max s.call.reqs.length 8) : Done s s' i :=
  ⟨h1, h2, h3, h4, h5, h6, h7, fun q => by rw [ht.1, ht.2]; exact h8 q, h9, h10⟩
theorem done_ok {s : Rk} {i : Ins} (hk : s.kind = 0) (hop : (s.pg.tk i).2.2 = true) (hle : (s.pg.tk i).1 ≤ s.stack.length) : Done s (s.doV i) i := by
  unfold doV
  by_cases c1 : i.op = 1
  · rw [if_pos c1]
    rw [(tk1 (P := s.pg) c1).1] at hle
    exact Done.mk1 (tk1 c1) rfl rfl rfl rfl rfl (by simp [Rk.push, Rk.drop1, Rk.ends, Rk.jump]) (by simp [Rk.push, Rk.drop1, Rk.ends, Rk.jump]) (fun q => by first | (exfalso; simp [Rk.push, Rk.drop1, Rk.ends, Rk.jump] at q; done) | (exfalso; simp [Rk.push, Rk.drop1, Rk.ends, Rk.jump] at q; omega) | exact ⟨.inl ⟨rfl, by omega, by omega⟩, by (simp [Rk.push, Rk.drop1, Rk.ends, Rk.jump]) <;> omega⟩ | exact ⟨.inr ⟨rfl, by omega⟩, by (simp [Rk.push, Rk.drop1, Rk.ends, Rk.jump]) <;> omega⟩) (by first | exact .inr (.inl hk) | exact .inr (.inr rfl) | (left; (simp [Rk.push, Rk.drop1, Rk.ends, Rk.jump]) <;> omega)) (by first | exact Nat.le_max_left _ _ | simp [Rk.ends, zCl])
  rw [if_neg c1]
  by_cases c2 : i.op = 2
  · rw [if_pos c2]
    rw [(tk2 (P := s.pg) c2).1] at hle
    exact Done.mk1 (tk2 c2) rfl rfl rfl rfl rfl (by simp [Rk.push, Rk.drop1, Rk.ends, Rk.jump]) (by simp [Rk.push, Rk.drop1, Rk.ends, Rk.jump]) (fun q => by first | (exfalso; simp [Rk.push, Rk.drop1, Rk.ends, Rk.jump] at q; done) | (exfalso; simp [Rk.push, Rk.drop1, Rk.ends, Rk.jump] at q; omega) | exact ⟨.inl ⟨rfl, by omega, by omega⟩, by (simp [Rk.push, Rk.drop1, Rk.ends, Rk.jump]) <;> omega⟩ | exact ⟨.inr ⟨rfl, by omega⟩, by (simp [Rk.push, Rk.drop1, Rk.ends, Rk.jump]) <;> omega⟩) (by first | exact .inr (.inl hk) | exact .inr (.inr rfl) | (left; (simp [Rk.push, Rk.drop1, Rk.ends, Rk.jump]) <;> omega)) (by first | exact Nat.le_max_left _ _ | simp [Rk.ends, zCl])
  rw [if_neg c2]
  by_cases c3 : i.op = 3
  · rw [if_pos c3]
    rw [(tk3 (P := s.pg) c3).1] at hle
    exact Done.mk1 (tk3 c3) rfl rfl rfl rfl rfl (by simp [Rk.push, Rk.drop1, Rk.ends, Rk.jump]) (by simp [Rk.push, Rk.drop1, Rk.ends, Rk.jump]) (fun q => by first | (exfalso; simp [Rk.push, Rk.drop1, Rk.ends, Rk.jump] at q; done) | (exfalso; simp [Rk.push, Rk.drop1, Rk.ends, Rk.jump] at q; omega) | exact ⟨.inl ⟨rfl, by omega, by omega⟩, by (simp [Rk.push, Rk.drop1, Rk.ends, Rk.jump]) <;> omega⟩ | exact ⟨.inr ⟨rfl, by omega⟩, by (simp [Rk.push, Rk.drop1, Rk.ends, Rk.jump]) <;> omega⟩) (by first | exact .inr (.inl hk) | exact .inr (.inr rfl) | (left; (simp [Rk.push, Rk.drop1, Rk.ends, Rk.jump]) <;> omega)) (by first | exact Nat.le_max_left _ _ | simp [Rk.ends, zCl])
  rw [if_neg c3]
  by_cases c4 : i.op = 4
  · rw [if_pos c4]
    rw [(tk4 (P := s.pg) c4).1] at hle
    split
    · exact Done.mk1 (tk4 c4) rfl rfl rfl rfl rfl (by simp [Rk.push, Rk.drop1, Rk.ends, Rk.jump]) (by simp [Rk.push, Rk.drop1, Rk.ends, Rk.jump]) (fun q => by first | (exfalso; simp [Rk.push, Rk.drop1, Rk.ends, Rk.jump] at q; done) | (exfalso; simp [Rk.push, Rk.drop1, Rk.ends, Rk.jump] at q; omega) | exact ⟨.inl ⟨rfl, by omega, by omega⟩, by (simp [Rk.push, Rk.drop1, Rk.ends, Rk.jump]) <;> omega⟩ | exact ⟨.inr ⟨rfl, by omega⟩, by (simp [Rk.push, Rk.drop1, Rk.ends, Rk.jump]) <;> omega⟩) (by first | exact .inr (.inl hk) | exact .inr (.inr rfl) | (left; (simp [Rk.push, Rk.drop1, Rk.ends, Rk.jump]) <;> omega)) (by first | exact Nat.le_max_left _ _ | simp [Rk.ends, zCl])
    · exact Done.mk1 (tk4 c4) rfl rfl rfl rfl rfl (by simp [Rk.push, Rk.drop1, Rk.ends, Rk.jump]) (by simp [Rk.push, Rk.drop1, Rk.ends, Rk.jump]) (fun q => by first | (exfalso; simp [Rk.push, Rk.drop1, Rk.ends, Rk.jump] at q; done) | (exfalso; simp [Rk.push, Rk.drop1, Rk.ends, Rk.jump] at q; omega) | exact ⟨.inl ⟨rfl, by omega, by omega⟩, by (simp [Rk.push, Rk.drop1, Rk.ends, Rk.jump]) <;> omega⟩ | exact ⟨.inr ⟨rfl, by omega⟩, by (simp [Rk.push, Rk.drop1, Rk.ends, Rk.jump]) <;> omega⟩) (by first | exact .inr (.inl hk) | exact .inr (.inr rfl) | (left; (simp [Rk.push, Rk.drop1, Rk.ends, Rk.jump]) <;> omega)) (by first | exact Nat.le_max_left _ _ | simp [Rk.ends, zCl])
  rw [if_neg c4]
  by_cases c5 : i.op = 5
  · rw [if_pos c5]
    rw [(tk5 (P := s.pg) c5).1] at hle
    split
    · exact Done.mk1 (tk5 c5) rfl rfl rfl rfl rfl (by simp [Rk.push, Rk.drop1, Rk.ends, Rk.jump]) (by simp [Rk.push, Rk.drop1, Rk.ends, Rk.jump]) (fun q => by first | (exfalso; simp [Rk.push, Rk.drop1, Rk.ends, Rk.jump] at q; done) | (exfalso; simp [Rk.push, Rk.drop1, Rk.ends, Rk.jump] at q; omega) | exact ⟨.inl ⟨rfl, by omega, by omega⟩, by (simp [Rk.push, Rk.drop1, Rk.ends, Rk.jump]) <;> omega⟩ | exact ⟨.inr ⟨rfl, by omega⟩, by (simp [Rk.push, Rk.drop1, Rk.ends, Rk.jump]) <;> omega⟩) (by first | exact .inr (.inl hk) | exact .inr (.inr rfl) | (left; (simp [Rk.push, Rk.drop1, Rk.ends, Rk.jump]) <;> omega)) (by first | exact Nat.le_max_left _ _ | simp [Rk.ends, zCl])
    · exact Done.mk1 (tk5 c5) rfl rfl rfl rfl rfl (by simp [Rk.push, Rk.drop1, Rk.ends, Rk.jump]) (by simp [Rk.push, Rk.drop1, Rk.ends, Rk.jump]) (fun q => by first | (exfalso; simp [Rk.push, Rk.drop1, Rk.ends, Rk.jump] at q; done) | (exfalso; simp [Rk.push, Rk.drop1, Rk.ends, Rk.jump] at q; omega) | exact ⟨.inl ⟨rfl, by omega, by omega⟩, by (simp [Rk.push, Rk.drop1, Rk.ends, Rk.jump]) <;> omega⟩ | exact ⟨.inr ⟨rfl, by omega⟩, by (simp [Rk.push, Rk.drop1, Rk.ends, Rk.jump]) <;> omega⟩) (by first | exact .inr (.inl hk) | exact .inr (.inr rfl) | (left; (simp [Rk.push, Rk.drop1, Rk.ends, Rk.jump]) <;> omega)) (by first | exact Nat.le_max_left _ _ | simp [Rk.ends, zCl])
  rw [if_neg c5]
  by_cases c6 : i.op = 6
  · rw [if_pos c6]
    rw [(tk6 (P := s.pg) c6).1] at hle
    split
    · exact Done.mk1 (tk6 c6) rfl rfl rfl rfl rfl (by simp [Rk.push, Rk.drop1, Rk.ends, Rk.jump]) (by simp [Rk.push, Rk.drop1, Rk.ends, Rk.jump]) (fun q => by first | (exfalso; simp [Rk.push, Rk.drop1, Rk.ends, Rk.jump] at q; done) | (exfalso; simp [Rk.push, Rk.drop1, Rk.ends, Rk.jump] at q; omega) | exact ⟨.inl ⟨rfl, by omega, by omega⟩, by (simp [Rk.push, Rk.drop1, Rk.ends, Rk.jump]) <;> omega⟩ | exact ⟨.inr ⟨rfl, by omega⟩, by (simp [Rk.push, Rk.drop1, Rk.ends, Rk.jump]) <;> omega⟩) (by first | exact .inr (.inl hk) | exact .inr (.inr rfl) | (left; (simp [Rk.push, Rk.drop1, Rk.ends, Rk.jump]) <;> omega)) (by first | exact Nat.le_max_left _ _ | simp [Rk.ends, zCl])
    · exact Done.mk1 (tk6 c6) rfl rfl rfl rfl rfl (by simp [Rk.push, Rk.drop1, Rk.ends, Rk.jump]) (by simp [Rk.push, Rk.drop1, Rk.ends, Rk.jump]) (fun q => by first | (exfalso; simp [Rk.push, Rk.drop1, Rk.ends, Rk.jump] at q; done) | (exfalso; simp [Rk.push, Rk.drop1, Rk.ends, Rk.jump] at q; omega) | exact ⟨.inl ⟨rfl, by omega, by omega⟩, by (simp [Rk.push, Rk.drop1, Rk.ends, Rk.jump]) <;> omega⟩ | exact ⟨.inr ⟨rfl, by omega⟩, by (simp [Rk.push, Rk.drop1, Rk.ends, Rk.jump]) <;> omega⟩) (by first | exact .inr (.inl hk) | exact .inr (.inr rfl) | (left; (simp [Rk.push, Rk.drop1, Rk.ends, Rk.jump]) <;> omega)) (by first | exact Nat.le_max_left _ _ | simp [Rk.ends, zCl])
  rw [if_neg c6]
  by_cases c7 : i.op = 7
  · rw [if_pos c7]
    rw [(tk7 (P := s.pg) c7).1] at hle
    exact Done.mk1 (tk7 c7) rfl rfl rfl rfl rfl (by simp [Rk.push, Rk.drop1, Rk.ends, Rk.jump]) (by simp [Rk.push, Rk.drop1, Rk.ends, Rk.jump]) (fun q => by first | (exfalso; simp [Rk.push, Rk.drop1, Rk.ends, Rk.jump] at q; done) | (exfalso; simp [Rk.push, Rk.drop1, Rk.ends, Rk.jump] at q; omega) | exact ⟨.inl ⟨rfl, by omega, by omega⟩, by (simp [Rk.push, Rk.drop1, Rk.ends, Rk.jump]) <;> omega⟩ | exact ⟨.inr ⟨rfl, by omega⟩, by (simp [Rk.push, Rk.drop1, Rk.ends, Rk.jump]) <;> omega⟩) (by first | exact .inr (.inl hk) | exact .inr (.inr rfl) | (left; (simp [Rk.push, Rk.drop1, Rk.ends, Rk.jump]) <;> omega)) (by first | exact Nat.le_max_left _ _ | simp [Rk.ends, zCl])
  rw [if_neg c7]
  by_cases c8 : i.op = 8
  · rw [if_pos c8]
    rw [(tk8 (P := s.pg) c8).1] at hle
    exact Done.mk1 (tk8 c8) rfl rfl rfl rfl rfl (by simp [Rk.push, Rk.drop1, Rk.ends, Rk.jump]) (by simp [Rk.push, Rk.drop1, Rk.ends, Rk.jump]) (fun q => by first | (exfalso; simp [Rk.push, Rk.drop1, Rk.ends, Rk.jump] at q; done) | (exfalso; simp [Rk.push, Rk.drop1, Rk.ends, Rk.jump] at q; omega) | exact ⟨.inl ⟨rfl, by omega, by omega⟩, by (simp [Rk.push, Rk.drop1, Rk.ends, Rk.jump]) <;> omega⟩ | exact ⟨.inr ⟨rfl, by omega⟩, by (simp [Rk.push, Rk.drop1, Rk.ends, Rk.jump]) <;> omega⟩) (by first | exact .inr (.inl hk) | exact .inr (.inr rfl) | (left; (simp [Rk.push, Rk.drop1, Rk.ends, Rk.jump]) <;> omega)) (by first | exact Nat.le_max_left _ _ | simp [Rk.ends, zCl])
  rw [if_neg c8]
  by_cases c9 : i.op = 9
  · rw [if_pos c9]
    rw [(tk9 (P := s.pg) c9).1] at hle
    exact Done.mk1 (tk9 c9) rfl rfl rfl rfl rfl (by simp [Rk.push, Rk.drop1, Rk.ends, Rk.jump]) (by simp [Rk.push, Rk.drop1, Rk.ends, Rk.jump]) (fun q => by first | (exfalso; simp [Rk.push, Rk.drop1, Rk.ends, Rk.jump] at q; done) | (exfalso; simp [Rk.push, Rk.drop1, Rk.ends, Rk.jump] at q; omega) | exact ⟨.inl ⟨rfl, by omega, by omega⟩, by (simp [Rk.push, Rk.drop1, Rk.ends, Rk.jump]) <;> omega⟩ | exact ⟨.inr ⟨rfl, by omega⟩, by (simp [Rk.push, Rk.drop1, Rk.ends, Rk.jump]) <;> omega⟩) (by first | exact .inr (.inl hk) | exact .inr (.inr rfl) | (left; (simp [Rk.push, Rk.drop1, Rk.ends, Rk.jump]) <;> omega)) (by first | exact Nat.le_max_left _ _ | simp [Rk.ends, zCl])
  rw [if_neg c9]
  by_cases c21 : i.op = 21
  · rw [if_pos c21]
    rw [(tk21 (P := s.pg) c21).1] at hle
    exact Done.mk1 (tk21 c21) rfl rfl rfl rfl rfl (by simp [Rk.push, Rk.drop1, Rk.ends, Rk.jump]) (by simp [Rk.push, Rk.drop1, Rk.ends, Rk.jump]) (fun q => by first | (exfalso; simp [Rk.push, Rk.drop1, Rk.ends, Rk.jump] at q; done) | (exfalso; simp [Rk.push, Rk.drop1, Rk.ends, Rk.jump] at q; omega) | exact ⟨.inl ⟨rfl, by omega, by omega⟩, by (simp [Rk.push, Rk.drop1, Rk.ends, Rk.jump]) <;> omega⟩ | exact ⟨.inr ⟨rfl, by omega⟩, by (simp [Rk.push, Rk.drop1, Rk.ends, Rk.jump]) <;> omega⟩) (by first | exact .inr (.inl hk) | exact .inr (.inr rfl) | (left; (simp [Rk.push, Rk.drop1, Rk.ends, Rk.jump]) <;> omega)) (by first | exact Nat.le_max_left _ _ | simp [Rk.ends, zCl])
  rw [if_neg c21]
  by_cases c22 : i.op = 22
  · rw [if_pos c22]
    rw [(tk22 (P := s.pg) c22).1] at hle
    exact Done.mk1 (tk22 c22) rfl rfl rfl rfl rfl (by simp [Rk.push, Rk.drop1, Rk.ends, Rk.jump]) (by simp [Rk.push, Rk.drop1, Rk.ends, Rk.jump]) (fun q => by first | (exfalso; simp [Rk.push, Rk.drop1, Rk.ends, Rk.jump] at q; done) | (exfalso; simp [Rk.push, Rk.drop1, Rk.ends, Rk.jump] at q; omega) | exact ⟨.inl ⟨rfl, by omega, by omega⟩, by (simp [Rk.push, Rk.drop1, Rk.ends, Rk.jump]) <;> omega⟩ | exact ⟨.inr ⟨rfl, by omega⟩, by (simp [Rk.push, Rk.drop1, Rk.ends, Rk.jump]) <;> omega⟩) (by first | exact .inr (.inl hk) | exact .inr (.inr rfl) | (left; (simp [Rk.push, Rk.drop1, Rk.ends, Rk.jump]) <;> omega)) (by first | exact Nat.le_max_left _ _ | simp [Rk.ends, zCl])
  rw [if_neg c22]
  by_cases c23 : i.op = 23
  · rw [if_pos c23]
    rw [(tk23 (P := s.pg) c23).1] at hle
    split
    · exact Done.mk1 (tk23 c23) rfl rfl rfl rfl rfl (by simp [Rk.push, Rk.drop1, Rk.ends, Rk.jump]) (by simp [Rk.push, Rk.drop1, Rk.ends, Rk.jump]) (fun q => by first | (exfalso; simp [Rk.push, Rk.drop1, Rk.ends, Rk.jump] at q; done) | (exfalso; simp [Rk.push, Rk.drop1, Rk.ends, Rk.jump] at q; omega) | exact ⟨.inl ⟨rfl, by omega, by omega⟩, by (simp [Rk.push, Rk.drop1, Rk.ends, Rk.jump]) <;> omega⟩ | exact ⟨.inr ⟨rfl, by omega⟩, by (simp [Rk.push, Rk.drop1, Rk.ends, Rk.jump]) <;> omega⟩) (by first | exact .inr (.inl hk) | exact .inr (.inr rfl) | (left; (simp [Rk.push, Rk.drop1, Rk.ends, Rk.jump]) <;> omega)) (by first | exact Nat.le_max_left _ _ | simp [Rk.ends, zCl])
    · exact Done.mk1 (tk23 c23) rfl rfl rfl rfl rfl (by simp [Rk.push, Rk.drop1, Rk.ends, Rk.jump]) (by simp [Rk.push, Rk.drop1, Rk.ends, Rk.jump]) (fun q => by first | (exfalso; simp [Rk.push, Rk.drop1, Rk.ends, Rk.jump] at q; done) | (exfalso; simp [Rk.push, Rk.drop1, Rk.ends, Rk.jump] at q; omega) | exact ⟨.inl ⟨rfl, by omega, by omega⟩, by (simp [Rk.push, Rk.drop1, Rk.ends, Rk.jump]) <;> omega⟩ | exact ⟨.inr ⟨rfl, by omega⟩, by (simp [Rk.push, Rk.drop1, Rk.ends, Rk.jump]) <;> omega⟩) (by first | exact .inr (.inl hk) | exact .inr (.inr rfl) | (left; (simp [Rk.push, Rk.drop1, Rk.ends, Rk.jump]) <;> omega)) (by first | exact Nat.le_max_left _ _ | simp [Rk.ends, zCl])
  rw [if_neg c23]
  by_cases c24 : i.op = 24
  · rw [if_pos c24]
    rw [(tk24 (P := s.pg) c24).1] at hle
    split
    · exact Done.mk1 (tk24 c24) rfl rfl rfl rfl rfl (by simp [Rk.push, Rk.drop1, Rk.ends, Rk.jump]) (by simp [Rk.push, Rk.drop1, Rk.ends, Rk.jump]) (fun q => by first | (exfalso; simp [Rk.push, Rk.drop1, Rk.ends, Rk.jump] at q; done) | (exfalso; simp [Rk.push, Rk.drop1, Rk.ends, Rk.jump] at q; omega) | exact ⟨.inl ⟨rfl, by omega, by omega⟩, by (simp [Rk.push, Rk.drop1, Rk.ends, Rk.jump]) <;> omega⟩ | exact ⟨.inr ⟨rfl, by omega⟩, by (simp [Rk.push, Rk.drop1, Rk.ends, Rk.jump]) <;> omega⟩) (by first | exact .inr (.inl hk) | exact .inr (.inr rfl) | (left; (simp [Rk.push, Rk.drop1, Rk.ends, Rk.jump]) <;> omega)) (by first | exact Nat.le_max_left _ _ | simp [Rk.ends, zCl])
    · exact Done.mk1 (tk24 c24) rfl rfl rfl rfl rfl (by simp [Rk.push, Rk.drop1, Rk.ends, Rk.jump]) (by simp [Rk.push, Rk.drop1, Rk.ends, Rk.jump]) (fun q => by first | (exfalso; simp [Rk.push, Rk.drop1, Rk.ends, Rk.jump] at q; done) | (exfalso; simp [Rk.push, Rk.drop1, Rk.ends, Rk.jump] at q; omega) | exact ⟨.inl ⟨rfl, by omega, by omega⟩, by (simp [Rk.push, Rk.drop1, Rk.ends, Rk.jump]) <;> omega⟩ | exact ⟨.inr ⟨rfl, by omega⟩, by (simp [Rk.push, Rk.drop1, Rk.ends, Rk.jump]) <;> omega⟩) (by first | exact .inr (.inl hk) | exact .inr (.inr rfl) | (left; (simp [Rk.push, Rk.drop1, Rk.ends, Rk.jump]) <;> omega)) (by first | exact Nat.le_max_left _ _ | simp [Rk.ends, zCl])
  rw [if_neg c24]
  by_cases c25 : i.op = 25
  · rw [if_pos c25]
    rw [(tk25 (P := s.pg) c25).1] at hle
    exact Done.mk1 (tk25 c25) rfl rfl rfl rfl rfl (by simp [Rk.push, Rk.drop1, Rk.ends, Rk.jump]) (by simp [Rk.push, Rk.drop1, Rk.ends, Rk.jump]) (fun q => by first | (exfalso; simp [Rk.push, Rk.drop1, Rk.ends, Rk.jump] at q; done) | (exfalso; simp [Rk.push, Rk.drop1, Rk.ends, Rk.jump] at q; omega) | exact ⟨.inl ⟨rfl, by omega, by omega⟩, by (simp [Rk.push, Rk.drop1, Rk.ends, Rk.jump]) <;> omega⟩ | exact ⟨.inr ⟨rfl, by omega⟩, by (simp [Rk.push, Rk.drop1, Rk.ends, Rk.jump]) <;> omega⟩) (by first | exact .inr (.inl hk) | exact .inr (.inr rfl) | (left; (simp [Rk.push, Rk.drop1, Rk.ends, Rk.jump]) <;> omega)) (by first | exact Nat.le_max_left _ _ | simp [Rk.ends, zCl])
  rw [if_neg c25]
  by_cases c26 : i.op = 26
  · rw [if_pos c26]
    rw [(tk26 (P := s.pg) c26).1] at hle
    exact Done.mk1 (tk26 c26) rfl rfl rfl rfl rfl (by simp [Rk.push, Rk.drop1, Rk.ends, Rk.jump]) (by simp [Rk.push, Rk.drop1, Rk.ends, Rk.jump]) (fun q => by first | (exfalso; simp [Rk.push, Rk.drop1, Rk.ends, Rk.jump] at q; done) | (exfalso; simp [Rk.push, Rk.drop1, Rk.ends, Rk.jump] at q; omega) | exact ⟨.inl ⟨rfl, by omega, by omega⟩, by (simp [Rk.push, Rk.drop1, Rk.ends, Rk.jump]) <;> omega⟩ | exact ⟨.inr ⟨rfl, by omega⟩, by (simp [Rk.push, Rk.drop1, Rk.ends, Rk.jump]) <;> omega⟩) (by first | exact .inr (.inl hk) | exact .inr (.inr rfl) | (left; (simp [Rk.push, Rk.drop1, Rk.ends, Rk.jump]) <;> omega)) (by first | exact Nat.le_max_left _ _ | simp [Rk.ends, zCl])
  rw [if_neg c26]
  by_cases c27 : i.op = 27
  · rw [if_pos c27]
    rw [(tk27 (P := s.pg) c27).1] at hle
    split
    · exact Done.mk1 (tk27 c27) rfl rfl rfl rfl rfl (by simp [Rk.push, Rk.drop1, Rk.ends, Rk.jump]) (by simp [Rk.push, Rk.drop1, Rk.ends, Rk.jump]) (fun q => by first | (exfalso; simp [Rk.push, Rk.drop1, Rk.ends, Rk.jump] at q; done) | (exfalso; simp [Rk.push, Rk.drop1, Rk.ends, Rk.jump] at q; omega) | exact ⟨.inl ⟨rfl, by omega, by omega⟩, by (simp [Rk.push, Rk.drop1, Rk.ends, Rk.jump]) <;> omega⟩ | exact ⟨.inr ⟨rfl, by omega⟩, by (simp [Rk.push, Rk.drop1, Rk.ends, Rk.jump]) <;> omega⟩) (by first | exact .inr (.inl hk) | exact .inr (.inr rfl) | (left; (simp [Rk.push, Rk.drop1, Rk.ends, Rk.jump]) <;> omega)) (by first | exact Nat.le_max_left _ _ | simp [Rk.ends, zCl])
    · exact Done.mk1 (tk27 c27) rfl rfl rfl rfl rfl (by simp [Rk.push, Rk.drop1, Rk.ends, Rk.jump]) (by simp [Rk.push, Rk.drop1, Rk.ends, Rk.jump]) (fun q => by first | (exfalso; simp [Rk.push, Rk.drop1, Rk.ends, Rk.jump] at q; done) | (exfalso; simp [Rk.push, Rk.drop1, Rk.ends, Rk.jump] at q; omega) | exact ⟨.inl ⟨rfl, by omega, by omega⟩, by (simp [Rk.push, Rk.drop1, Rk.ends, Rk.jump]) <;> omega⟩ | exact ⟨.inr ⟨rfl, by omega⟩, by (simp [Rk.push, Rk.drop1, Rk.ends, Rk.jump]) <;> omega⟩) (by first | exact .inr (.inl hk) | exact .inr (.inr rfl) | (left; (simp [Rk.push, Rk.drop1, Rk.ends, Rk.jump]) <;> omega)) (by first | exact Nat.le_max_left _ _ | simp [Rk.ends, zCl])
  rw [if_neg c27]
  by_cases c28 : i.op = 28
  · rw [if_pos c28]
    have ht := tk28 (P := s.pg) c28
    rw [ht.1] at hle
    obtain ⟨m1, m2, m3, m4, m5⟩ := argsV_many (by rw [ht.2.2] at hop; exact of_decide_eq_true hop : 0 ≤ argsV i.n)
    exact Done.mk1 ⟨ht.1, ht.2.1⟩ rfl rfl rfl rfl rfl rfl rfl (fun q => ⟨.inl ⟨rfl, by omega, by omega⟩, by simp; omega⟩) (.inr (.inr rfl)) (Nat.le_trans (callV_reqs _ _ _) (Nat.le_trans (by rw [List.length_drop]; omega) (Nat.le_max_right _ _)))
  rw [if_neg c28]
  by_cases c29 : i.op = 29
  · rw [if_pos c29]
    rw [(tk29 (P := s.pg) c29).1] at hle
    exact Done.mk1 (tk29 c29) rfl rfl rfl rfl rfl (by simp [Rk.push, Rk.drop1, Rk.ends, Rk.jump]) (by simp [Rk.push, Rk.drop1, Rk.ends, Rk.jump]) (fun q => by first | (exfalso; simp [Rk.push, Rk.drop1, Rk.ends, Rk.jump] at q; done) | (exfalso; simp [Rk.push, Rk.drop1, Rk.ends, Rk.jump] at q; omega) | exact ⟨.inl ⟨rfl, by omega, by omega⟩, by (simp [Rk.push, Rk.drop1, Rk.ends, Rk.jump]) <;> omega⟩ | exact ⟨.inr ⟨rfl, by omega⟩, by (simp [Rk.push, Rk.drop1, Rk.ends, Rk.jump]) <;> omega⟩) (by first | exact .inr (.inl hk) | exact .inr (.inr rfl) | (left; (simp [Rk.push, Rk.drop1, Rk.ends, Rk.jump]) <;> omega)) (by first | exact Nat.le_max_left _ _ | simp [Rk.ends, zCl])
  rw [if_neg c29]
  obtain ⟨e1, e2, e3, e4, e5⟩ := tkE hop ⟨c1, c2, c3, c4, c5, c6, c7, c8, c9, c21, c22, c23, c24, c25, c26, c27, c29, c28⟩
  rw [e1] at hle
  split
  · exact Done.mk1 ⟨e1, e2⟩ rfl rfl rfl rfl rfl (by simp [Rk.push, Rk.drop1, Rk.ends, Rk.jump]) (by simp [Rk.push, Rk.drop1, Rk.ends, Rk.jump]) (fun q => by first | (exfalso; simp [Rk.push, Rk.drop1, Rk.ends, Rk.jump] at q; done) | exact ⟨.inl ⟨rfl, by omega, by omega⟩, by (simp [Rk.push, Rk.drop1, Rk.ends, Rk.jump]) <;> omega⟩) (by first | exact .inr (.inl hk) | exact .inr (.inr rfl) | (left; (simp [Rk.push, Rk.drop1, Rk.ends, Rk.jump]) <;> omega)) (by first | exact Nat.le_max_left _ _ | simp [Rk.ends, zCl])
  · exact Done.mk1 ⟨e1, e2⟩ rfl rfl rfl rfl rfl (by simp [Rk.push, Rk.drop1, Rk.ends, Rk.jump]) (by simp [Rk.push, Rk.drop1, Rk.ends, Rk.jump]) (fun q => by first | (exfalso; simp [Rk.push, Rk.drop1, Rk.ends, Rk.jump] at q; done) | exact ⟨.inl ⟨rfl, by omega, by omega⟩, by (simp [Rk.push, Rk.drop1, Rk.ends, Rk.jump]) <;> omega⟩) (by first | exact .inr (.inl hk) | exact .inr (.inr rfl) | (left; (simp [Rk.push, Rk.drop1, Rk.ends, Rk.jump]) <;> omega)) (by first | exact Nat.le_max_left _ _ | simp [Rk.ends, zCl])
theorem Inv.step {H : List Int} {s : Rk} (h : Inv H s) (hk : s.kind = 0) : Inv H s.step := by
  obtain ⟨hw, ht⟩ := heights_hts h.hts
  obtain ⟨g1, g2, g3⟩ := h.go (.inl hk)
  have hl := whole_len hw
  have ha : s.at_.toNat < s.pg.code.length := by omega
  have hat : (s.at_.toNat : Int) = s.at_ := Int.toNat_of_nonneg g1
  generalize hi : s.pg.code.getD s.at_.toNat zIns = i
  have hop : (s.pg.tk i).2.2 = true := by
    rw [← hi]
    exact whole_op hw _ (by rw [List.getD_eq_getElem?_getD, List.getElem?_eq_getElem ha]; exact List.getElem_mem ha)
  obtain ⟨k1, k2, k3⟩ := ht.at_ s.at_.toNat ha (by rw [g3]; omega)
  have kin := wayV_in hw ha
  rw [hi] at k1 k2 k3 kin
  rw [g3] at k1 k2 k3
  rw [hat] at k3 kin
  have D : Done { s with at_ := s.at_ + 1 } s.step i := by
    unfold Rk.step
    rw [hi]
    exact done_ok hk hop k1
  have e := D.go
  have pgE := D.pg
  dsimp only at e pgE
  refine ⟨by rw [pgE]; exact h.hts, fun q => ?_, ?_, by rw [D.vars, pgE]; exact h.vars, by rw [D.bases, pgE]; exact h.bases, by rw [D.bases, pgE, D.cells]; exact h.base, by rw [D.cells]; exact h.cells, Nat.le_trans D.rq (Nat.max_le.2 ⟨h.reqs, Nat.le_refl _⟩), by rw [D.last]; exact h.row⟩
  · obtain ⟨e1, e2⟩ := e q
    have hm : s.step.at_ ∈ wayV s.at_ i := by
      unfold wayV
      rcases e1 with ⟨e1, e3, e4⟩ | ⟨e1, e3⟩
      · rw [e1, if_neg e3, if_neg e4]
        split <;> simp
      · have hn : 0 ≤ i.n ∧ i.n < s.pg.code.length := by
          have := kin i.n (by unfold wayV; rcases e3 with e3 | e3 | e3 <;> simp [e3])
          exact this
        rw [e1]
        rcases e3 with e3 | e3 | e3 <;> simp [e3]
    have r := kin _ hm
    rw [pgE]
    refine ⟨r.1, r.2, ?_⟩
    rw [k3 _ hm, e2]
  · rcases D.st with q | q
    · have := h.st; dsimp only at q; omega
    · have := (e q).2; omega
theorem Inv.done {H : List Int} {s : Rk} (h : Inv H s) (hk : s.kind = 0) : (s.pg.tk (s.pg.code.getD s.at_.toNat zIns)).2.2 = true ∧ (s.pg.tk (s.pg.code.getD s.at_.toNat zIns)).1 ≤ s.stack.length ∧ s.at_.toNat < s.pg.code.length ∧ 0 ≤ s.at_ ∧ s.step.pg = s.pg := by
  obtain ⟨hw, ht⟩ := heights_hts h.hts
  obtain ⟨g1, g2, g3⟩ := h.go (.inl hk)
  have ha : s.at_.toNat < s.pg.code.length := by omega
  generalize hi : s.pg.code.getD s.at_.toNat zIns = i
  have hop : (s.pg.tk i).2.2 = true := by
    rw [← hi]
    exact whole_op hw _ (by rw [List.getD_eq_getElem?_getD, List.getElem?_eq_getElem ha]; exact List.getElem_mem ha)
  obtain ⟨k1, _, _⟩ := ht.at_ s.at_.toNat ha (by rw [g3]; omega)
  rw [hi, g3] at k1
  have D : Done { s with at_ := s.at_ + 1 } s.step i := by
    unfold Rk.step
    rw [hi]
    exact done_ok hk hop k1
  exact ⟨hop, k1, ha, g1, D.pg⟩
theorem Inv.run_pg {H : List Int} : ∀ (m : Nat) {s : Rk}, Inv H s → (run m s).1.pg = s.pg
  | 0, s, h => rfl
  | m + 1, s, h => by
    rw [Rk.run]
    by_cases q : s.kind = 0
    · rw [if_pos q]; exact (Inv.run_pg m (h.step q)).trans (h.done q).2.2.2.2
    · rw [if_neg q]
theorem Inv.run {H : List Int} : ∀ (m : Nat) {s : Rk}, Inv H s → Inv H (run m s).1
  | 0, s, h => h
  | m + 1, s, h => by
    rw [Rk.run]
    by_cases q : s.kind = 0
    · rw [if_pos q]; exact Inv.run m (h.step q)
    · rw [if_neg q]; exact h
end Rk
end Go.X
set_option linter.unusedVariables false
set_option linter.unusedSimpArgs false
namespace Go.X
open Go Go.RowKit
def Cl.nums (c : Cl) : List Int := [w64 c.kind, c.comm, c.peer, c.tag, c.value, c.size, c.root, w64 c.op, c.color, c.key, c.reqs.length] ++ c.reqs
namespace Rk
structure Wk (s : Rk) : Prop where
  st : s.stack.length ≤ 200
  vars : (s.vars.length : Int) = s.pg.vars
  bases : s.bases.length = s.pg.arrs.length
  base : ∀ a : Nat, a < s.pg.arrs.length → 0 ≤ s.bases.getD a 0 ∧ s.bases.getD a 0 + s.pg.arrs.getD a 0 ≤ s.cells.length
  cells : s.cells.length ≤ 1000
  row : s.last.row.length ≤ 1000
theorem Inv.wk {H : List Int} {s : Rk} (h : Inv H s) : s.Wk := ⟨h.st, h.vars, h.bases, h.base, h.cells, h.row⟩
theorem Wk.at1 {s : Rk} (h : s.Wk) (n : Int) : Wk { s with at_ := n } := ⟨h.st, h.vars, h.bases, h.base, h.cells, h.row⟩
theorem Wk.drop1 {s : Rk} (h : s.Wk) : s.drop1.Wk := ⟨by have := h.st; simp [Rk.drop1]; omega, h.vars, h.bases, h.base, h.cells, h.row⟩
end Rk
end Go.X
set_option linter.unusedVariables false
set_option linter.unusedSimpArgs false
namespace Go.X
open Go Go.RowKit
abbrev tR : TypeId := 56
abbrev tN : TypeId := 2
def i64s (l : List Int) : List Value := l.map (Value.int .i64)
theorem i64s_get {l : List Int} {i : Nat} {x : Int} (h : l[i]? = some x) : (i64s l)[i]? = some (.int .i64 x) := by unfold i64s; simp [h]
structure RkV where
  c : Value
  a : Value
  s : Value
  v : Value
  l : Value
  b : Value
  r : Value
  q : Value
def rsC (x : Rs) (r : Value) : List Value := [.bool x.flag, .int .i64 x.value, .int .i64 x.peer, .int .i64 x.tag, .int .i64 x.req, .int .i64 x.index, .int .i64 x.comm, r]
def clC (c : Cl) (q : Value) : List Value := [.int .u8 c.kind, .int .i64 c.comm, .int .i64 c.peer, .int .i64 c.tag, .int .i64 c.value, .int .i64 c.size, .int .i64 c.root, .int .u8 c.op, q, .int .i64 c.color, .int .i64 c.key]
def rkC (s : Rk) (V : RkV) : List Value := [V.c, .int .i64 s.pg.vars, V.a, .int .i64 s.rank, .int .i64 s.size, .int .i64 s.at_, V.s, V.v, V.l, V.b] ++ rsC s.last V.r ++ [.int .u8 s.kind] ++ clC s.call V.q ++ [.int .u8 s.fault]
def sb (v : Value) (b : Nat) : Prop := v.ownBlock = some b
namespace RkV
def F (V : RkV) (p b : Nat) : Prop := b = p ∨ sb V.s b ∨ sb V.v b ∨ sb V.l b
def R (V : RkV) (b : Nat) : Prop := sb V.c b ∨ sb V.a b ∨ sb V.b b ∨ sb V.r b ∨ sb V.q b
def G (V : RkV) (p b : Nat) : Prop := V.F p b ∨ V.R b
structure Dj (V : RkV) (p : Nat) : Prop where
  sp : ¬ sb V.s p
  vp : ¬ sb V.v p
  lp : ¬ sb V.l p
  sv : ∀ b, sb V.s b → ¬ sb V.v b
  sl : ∀ b, sb V.s b → ¬ sb V.l b
  vl : ∀ b, sb V.v b → ¬ sb V.l b
  ro : ∀ b, V.R b → ¬ V.F p b
end RkV
structure RkAt (w : World) (p : Nat) (s : Rk) (V : RkV) : Prop where
  blk : w.heap[p]? = some (.cells (rkC s V).toArray tR (0, 0))
  code : reads w 2 V.c s.pg.code.length (s.pg.code.flatMap Ins.cells)
  arrs : reads w 1 V.a s.pg.arrs.length (i64s s.pg.arrs)
  stack : w.ownsRow 0 tN 1 V.s s.stack.length (i64s s.stack)
  vars : w.ownsRow 0 tN 1 V.v s.vars.length (i64s s.vars)
  cells : w.ownsRow 0 tN 1 V.l s.cells.length (i64s s.cells)
  bases : reads w 1 V.b s.bases.length (i64s s.bases)
  row : reads w 1 V.r s.last.row.length (i64s s.last.row)
  reqs : reads w 1 V.q s.call.reqs.length (i64s s.call.reqs)
  dj : V.Dj p
  old : ∀ b, V.G p b → b < w.heap.size
structure Fr (p : Nat) (w : World) (V : RkV) (w' : World) (V' : RkV) : Prop where
  mod : Mod (V.F p) w w'
  f : ∀ b, V'.F p b → V.F p b ∨ w.heap.size ≤ b
  g : ∀ b, V'.G p b → V.G p b ∨ w.heap.size ≤ b
theorem Fr.refl (p : Nat) (w : World) (V : RkV) : Fr p w V w V := ⟨Mod.refl _ _, fun _ h => .inl h, fun _ h => .inl h⟩
theorem Fr.trans {p : Nat} {w w1 w2 : World} {V V1 V2 : RkV} (h : Fr p w V w1 V1) (k : Fr p w1 V1 w2 V2) : Fr p w V w2 V2 := by
  have hs := h.mod.size
  refine ⟨h.mod.then k.mod fun i hi q => ?_, fun b q => ?_, fun b q => ?_⟩
  · rcases h.f i q with z | z
    · exact z
    · omega
  · rcases k.f b q with z | z
    · exact h.f b z
    · exact .inr (by omega)
  · rcases k.g b q with z | z
    · exact h.g b z
    · exact .inr (by omega)
theorem Fr.calm {p : Nat} {w w' : World} {V : RkV} (h : Mod none_ w w') : Fr p w V w' V := ⟨h.mono fun _ _ q => q.elim, fun _ q => .inl q, fun _ q => .inl q⟩
theorem RkAt.mod {w w' : World} {p : Nat} {s : Rk} {V : RkV} {S : Nat → Prop} (h : RkAt w p s V) (hm : Mod S w w') (hS : ∀ b, V.G p b → ¬ S b) : RkAt w' p s V :=
  ⟨hm.blk h.blk (hS _ (.inl (.inl rfl))), reads_mod h.code hm fun k _ q => hS k (.inr (.inl q)), reads_mod h.arrs hm fun k _ q => hS k (.inr (.inr (.inl q))),
    owns_mod h.stack hm fun k q => hS k (.inl (.inr (.inl q))), owns_mod h.vars hm fun k q => hS k (.inl (.inr (.inr (.inl q)))), owns_mod h.cells hm fun k q => hS k (.inl (.inr (.inr (.inr q)))),
    reads_mod h.bases hm fun k _ q => hS k (.inr (.inr (.inr (.inl q)))), reads_mod h.row hm fun k _ q => hS k (.inr (.inr (.inr (.inr (.inl q))))), reads_mod h.reqs hm fun k _ q => hS k (.inr (.inr (.inr (.inr (.inr q))))),
    h.dj, fun b q => Nat.lt_of_lt_of_le (h.old b q) hm.size⟩
theorem RkAt.calm {w w' : World} {p : Nat} {s : Rk} {V : RkV} (h : RkAt w p s V) (hm : Mod none_ w w') : RkAt w' p s V := h.mod hm fun _ _ q => q
theorem RkAt.put {w w' : World} {p : Nat} {s s' : Rk} {V : RkV} (h : RkAt w p s V) (hm : Mod (fun b => b = p) w w') (hb : w'.heap[p]? = some (.cells (rkC s' V).toArray tR (0, 0)))
    (e1 : s'.pg = s.pg) (e2 : s'.stack = s.stack) (e3 : s'.vars = s.vars) (e4 : s'.cells = s.cells) (e5 : s'.bases = s.bases) (e6 : s'.last.row = s.last.row) (e7 : s'.call.reqs = s.call.reqs) : RkAt w' p s' V ∧ Fr p w V w' V := by
  have hF : ∀ b, V.R b → b ≠ p := fun b q z => h.dj.ro b q (.inl z)
  refine ⟨⟨hb, ?_, ?_, ?_, ?_, ?_, ?_, ?_, ?_, h.dj, fun b q => Nat.lt_of_lt_of_le (h.old b q) hm.size⟩, ⟨hm.mono fun k _ q => .inl q, fun _ q => .inl q, fun _ q => .inl q⟩⟩
  · rw [e1]; exact reads_mod h.code hm fun k _ q => hF k (.inl q)
  · rw [e1]; exact reads_mod h.arrs hm fun k _ q => hF k (.inr (.inl q))
  · rw [e2]; exact owns_mod h.stack hm fun k q z => h.dj.sp (z ▸ q)
  · rw [e3]; exact owns_mod h.vars hm fun k q z => h.dj.vp (z ▸ q)
  · rw [e4]; exact owns_mod h.cells hm fun k q z => h.dj.lp (z ▸ q)
  · rw [e5]; exact reads_mod h.bases hm fun k _ q => hF k (.inr (.inr (.inl q)))
  · rw [e6]; exact reads_mod h.row hm fun k _ q => hF k (.inr (.inr (.inr (.inl q))))
  · rw [e7]; exact reads_mod h.reqs hm fun k _ q => hF k (.inr (.inr (.inr (.inr q))))
theorem RkAt.stk {w w1 w' : World} {p : Nat} {s s' : Rk} {V : RkV} {v' : Value} (h : RkAt w p s V) (hm1 : Mod (sb V.s) w w1) (ho : w1.ownsRow 0 tN 1 v' s'.stack.length (i64s s'.stack)) (hv : v'.ownBlock = V.s.ownBlock ∨ ∀ k, v'.ownBlock = some k → w.heap.size ≤ k)
    (hm : Mod (fun b => b = p) w1 w') (hb : w'.heap[p]? = some (.cells (rkC s' { V with s := v' }).toArray tR (0, 0)))
    (e1 : s'.pg = s.pg) (e3 : s'.vars = s.vars) (e4 : s'.cells = s.cells) (e5 : s'.bases = s.bases) (e6 : s'.last = s.last) (e7 : s'.call.reqs = s.call.reqs) : RkAt w' p s' { V with s := v' } ∧ Fr p w V w' { V with s := v' } := by
  have hs := hm1.size
  have hp : p < w.heap.size := h.old p (.inl (.inl rfl))
  have hF : ∀ b, V.R b → b ≠ p := fun b q z => h.dj.ro b q (.inl z)
  have hR : ∀ b, V.R b → ¬ sb V.s b := fun b q z => h.dj.ro b q (.inr (.inl z))
  have hv2 : ∀ b, sb v' b → sb V.s b ∨ w.heap.size ≤ b := fun b q => by
    rcases hv with z | z
    · unfold sb at q; rw [z] at q; exact .inl q
    · exact .inr (z b q)
  have hvp : ¬ sb v' p := fun q => by
    rcases hv2 p q with z | z
    · exact h.dj.sp z
    · omega
  have hlt : ∀ b, sb v' b → b < w1.heap.size := fun b q => by
    obtain ⟨c, hc⟩ := owns_blk ho q
    exact X.blk_lt hc
  refine ⟨⟨hb, ?_, ?_, ?_, ?_, ?_, ?_, ?_, ?_, ⟨hvp, h.dj.vp, h.dj.lp, ?_, ?_, h.dj.vl, ?_⟩, ?_⟩, ⟨?_, ?_, ?_⟩⟩
  · rw [e1]; exact reads_mod (reads_mod h.code hm1 fun k _ q => hR k (.inl q)) hm fun k _ q => hF k (.inl q)
  · rw [e1]; exact reads_mod (reads_mod h.arrs hm1 fun k _ q => hR k (.inr (.inl q))) hm fun k _ q => hF k (.inr (.inl q))
  · exact owns_mod ho hm fun k q z => hvp (z ▸ q)
  · rw [e3]; exact owns_mod (owns_mod h.vars hm1 fun k q z => h.dj.sv k z q) hm fun k q z => h.dj.vp (z ▸ q)
  · rw [e4]; exact owns_mod (owns_mod h.cells hm1 fun k q z => h.dj.sl k z q) hm fun k q z => h.dj.lp (z ▸ q)
  · rw [e5]; exact reads_mod (reads_mod h.bases hm1 fun k _ q => hR k (.inr (.inr (.inl q)))) hm fun k _ q => hF k (.inr (.inr (.inl q)))
  · rw [e6]; exact reads_mod (reads_mod h.row hm1 fun k _ q => hR k (.inr (.inr (.inr (.inl q))))) hm fun k _ q => hF k (.inr (.inr (.inr (.inl q))))
  · rw [e7]; exact reads_mod (reads_mod h.reqs hm1 fun k _ q => hR k (.inr (.inr (.inr (.inr q))))) hm fun k _ q => hF k (.inr (.inr (.inr (.inr q))))
  · intro b q z
    rcases hv2 b q with y | y
    · exact h.dj.sv b y z
    · have := h.old b (.inl (.inr (.inr (.inl z)))); omega
  · intro b q z
    rcases hv2 b q with y | y
    · exact h.dj.sl b y z
    · have := h.old b (.inl (.inr (.inr (.inr z)))); omega
  · intro b q z
    have hb2 := h.old b (.inr q)
    rcases z with z | z | z
    · exact hF b q z
    · rcases hv2 b z with y | y
      · exact hR b q y
      · omega
    · exact h.dj.ro b q (.inr (.inr z))
  · intro b q
    refine Nat.lt_of_lt_of_le ?_ hm.size
    rcases q with (q | q | q) | q
    · omega
    · exact hlt b q
    · exact Nat.lt_of_lt_of_le (h.old b (.inl (.inr (.inr q)))) hs
    · exact Nat.lt_of_lt_of_le (h.old b (.inr q)) hs
  · exact (hm1.mono fun k _ q => .inr (.inl q)).then hm fun k _ q => .inl q
  · intro b q
    rcases q with q | q | q
    · exact .inl (.inl q)
    · rcases hv2 b q with y | y
      · exact .inl (.inr (.inl y))
      · exact .inr (by omega)
    · exact .inl (.inr (.inr q))
  · intro b q
    rcases q with (q | q | q) | q
    · exact .inl (.inl (.inl q))
    · rcases hv2 b q with y | y
      · exact .inl (.inl (.inr (.inl y)))
      · exact .inr (by omega)
    · exact .inl (.inl (.inr (.inr q)))
    · exact .inl (.inr q)
theorem RkAt.var {w w' : World} {p : Nat} {s s' : Rk} {V : RkV} (h : RkAt w p s V) (hm : Mod (sb V.v) w w') (ho : w'.ownsRow 0 tN 1 V.v s'.vars.length (i64s s'.vars))
    (e0 : rkC s' V = rkC s V) (e1 : s'.pg = s.pg) (e2 : s'.stack = s.stack) (e4 : s'.cells = s.cells) (e5 : s'.bases = s.bases) (e6 : s'.last = s.last) (e7 : s'.call = s.call) : RkAt w' p s' V ∧ Fr p w V w' V := by
  have hR : ∀ b, V.R b → ¬ sb V.v b := fun b q z => h.dj.ro b q (.inr (.inr (.inl z)))
  refine ⟨⟨?_, ?_, ?_, ?_, ho, ?_, ?_, ?_, ?_, h.dj, fun b q => Nat.lt_of_lt_of_le (h.old b q) hm.size⟩, ⟨hm.mono fun k _ q => .inr (.inr (.inl q)), fun _ q => .inl q, fun _ q => .inl q⟩⟩
  · rw [e0]; exact hm.blk h.blk h.dj.vp
  · rw [e1]; exact reads_mod h.code hm fun k _ q => hR k (.inl q)
  · rw [e1]; exact reads_mod h.arrs hm fun k _ q => hR k (.inr (.inl q))
  · rw [e2]; exact owns_mod h.stack hm fun k q z => h.dj.sv k q z
  · rw [e4]; exact owns_mod h.cells hm fun k q z => h.dj.vl k z q
  · rw [e5]; exact reads_mod h.bases hm fun k _ q => hR k (.inr (.inr (.inl q)))
  · rw [e6]; exact reads_mod h.row hm fun k _ q => hR k (.inr (.inr (.inr (.inl q))))
  · rw [e7]; exact reads_mod h.reqs hm fun k _ q => hR k (.inr (.inr (.inr (.inr q))))
theorem RkAt.cell {w w' : World} {p : Nat} {s s' : Rk} {V : RkV} (h : RkAt w p s V) (hm : Mod (sb V.l) w w') (ho : w'.ownsRow 0 tN 1 V.l s'.cells.length (i64s s'.cells))
    (e0 : rkC s' V = rkC s V) (e1 : s'.pg = s.pg) (e2 : s'.stack = s.stack) (e3 : s'.vars = s.vars) (e5 : s'.bases = s.bases) (e6 : s'.last = s.last) (e7 : s'.call = s.call) : RkAt w' p s' V ∧ Fr p w V w' V := by
  have hR : ∀ b, V.R b → ¬ sb V.l b := fun b q z => h.dj.ro b q (.inr (.inr (.inr z)))
  refine ⟨⟨?_, ?_, ?_, ?_, ?_, ho, ?_, ?_, ?_, h.dj, fun b q => Nat.lt_of_lt_of_le (h.old b q) hm.size⟩, ⟨hm.mono fun k _ q => .inr (.inr (.inr q)), fun _ q => .inl q, fun _ q => .inl q⟩⟩
  · rw [e0]; exact hm.blk h.blk h.dj.lp
  · rw [e1]; exact reads_mod h.code hm fun k _ q => hR k (.inl q)
  · rw [e1]; exact reads_mod h.arrs hm fun k _ q => hR k (.inr (.inl q))
  · rw [e2]; exact owns_mod h.stack hm fun k q z => h.dj.sl k q z
  · rw [e3]; exact owns_mod h.vars hm fun k q z => h.dj.vl k q z
  · rw [e5]; exact reads_mod h.bases hm fun k _ q => hR k (.inr (.inr (.inl q)))
  · rw [e6]; exact reads_mod h.row hm fun k _ q => hR k (.inr (.inr (.inr (.inl q))))
  · rw [e7]; exact reads_mod h.reqs hm fun k _ q => hR k (.inr (.inr (.inr (.inr q))))
theorem RkAt.out {w w1 w' : World} {p : Nat} {s s' : Rk} {V : RkV} {r' q' : Value} (h : RkAt w p s V) (hm0 : Mod none_ w w1) (hr : reads w1 1 r' s'.last.row.length (i64s s'.last.row)) (hq : reads w1 1 q' s'.call.reqs.length (i64s s'.call.reqs))
    (hrn : ∀ k, r'.ownBlock = some k → V.r.ownBlock = some k ∨ w.heap.size ≤ k ∧ k < w1.heap.size) (hqn : ∀ k, q'.ownBlock = some k → V.q.ownBlock = some k ∨ w.heap.size ≤ k ∧ k < w1.heap.size)
    (hm : Mod (fun b => b = p) w1 w') (hb : w'.heap[p]? = some (.cells (rkC s' { V with r := r', q := q' }).toArray tR (0, 0)))
    (e1 : s'.pg = s.pg) (e2 : s'.stack = s.stack) (e3 : s'.vars = s.vars) (e4 : s'.cells = s.cells) (e5 : s'.bases = s.bases) : RkAt w' p s' { V with r := r', q := q' } ∧ Fr p w V w' { V with r := r', q := q' } := by
  have hs := hm0.size
  have h1 := h.calm hm0
  have hp : p < w.heap.size := h.old p (.inl (.inl rfl))
  have hF : ∀ b, V.R b → b ≠ p := fun b q z => h.dj.ro b q (.inl z)
  have hold : ∀ b, V.F p b → b < w.heap.size := fun b q => h.old b (.inl q)
  have hR : ∀ b, ({ V with r := r', q := q' } : RkV).R b → V.R b ∨ w.heap.size ≤ b ∧ b < w1.heap.size := fun b q => by
    rcases q with q | q | q | q | q
    · exact .inl (.inl q)
    · exact .inl (.inr (.inl q))
    · exact .inl (.inr (.inr (.inl q)))
    · exact (hrn b q).imp (fun z => .inr (.inr (.inr (.inl z)))) id
    · exact (hqn b q).imp (fun z => .inr (.inr (.inr (.inr z)))) id
  have hnp : ∀ b, V.R b ∨ w.heap.size ≤ b ∧ b < w1.heap.size → b ≠ p := fun b q => by
    rcases q with q | q
    · exact hF b q
    · omega
  refine ⟨⟨hb, ?_, ?_, ?_, ?_, ?_, ?_, ?_, ?_, ⟨h.dj.sp, h.dj.vp, h.dj.lp, h.dj.sv, h.dj.sl, h.dj.vl, fun b q z => ?_⟩, fun b q => ?_⟩, ⟨(hm0.mono fun _ _ q => q.elim).then hm fun k _ q => .inl q, fun b q => .inl q, fun b q => ?_⟩⟩
  · rw [e1]; exact reads_mod h1.code hm fun k _ q => hF k (.inl q)
  · rw [e1]; exact reads_mod h1.arrs hm fun k _ q => hF k (.inr (.inl q))
  · rw [e2]; exact owns_mod h1.stack hm fun k q z => h.dj.sp (z ▸ q)
  · rw [e3]; exact owns_mod h1.vars hm fun k q z => h.dj.vp (z ▸ q)
  · rw [e4]; exact owns_mod h1.cells hm fun k q z => h.dj.lp (z ▸ q)
  · rw [e5]; exact reads_mod h1.bases hm fun k _ q => hF k (.inr (.inr (.inl q)))
  · exact reads_mod hr hm fun k _ q => hnp k (hR k (.inr (.inr (.inr (.inl q)))))
  · exact reads_mod hq hm fun k _ q => hnp k (hR k (.inr (.inr (.inr (.inr q)))))
  · rcases hR b q with y | y
    · exact h.dj.ro b y z
    · have := hold b z; omega
  · refine Nat.lt_of_lt_of_le ?_ hm.size
    rcases q with q | q
    · have := hold b q; omega
    · rcases hR b q with y | y
      · have := h.old b (.inr y); omega
      · exact y.2
  · rcases q with q | q
    · exact .inl (.inl q)
    · rcases hR b q with y | y
      · exact .inl (.inr y)
      · exact .inr y.1
end Go.X
set_option linter.unusedVariables false
set_option linter.unusedSimpArgs false
namespace Go.X
open Go
def HK (P : Program) (S : World → Prop) (s : Sem Next) (K : Value → Prop) : Prop := ∃ v, (∀ w, S w → s.run P w = .ok (.value v) w) ∧ K v
def HG (P : Program) (S : World → Prop) (g : Value) (b : Bool) (s : Sem Next) (K : Value → Prop) : Prop := GuardK g b (HK P S s K) (K undef)
def sxt1 (P : Program) (S : World → Prop) (ops : Array Oper) (o : Oper) (N : Sl → Prop) (ρ : Sl) : Prop :=
  match o with
  | ⟨dst, op, ty, _, _, g⟩ =>
    match g, dst with
    | none, some d => match mvOf op with
      | some x => N (up ρ d (ev ρ x))
      | none => HK P S (exo (ev ρ) op ty) fun v => N (up ρ d v)
    | none, none => HK P S (exo (ev ρ) op ty) fun _ => N ρ
    | some (j, b), some d => HG P S (gv ops ρ j) b (exo (ev ρ) op ty) fun v => N (up ρ d v)
    | some (j, b), none => HG P S (gv ops ρ j) b (exo (ev ρ) op ty) fun _ => N ρ
def sxh (P : Program) (S : World → Prop) (ops : Array Oper) (K : Sl → World → Prop) : List (Nat × Bool) → Sl → World → Prop
  | [], ρ, w => K ρ w
  | (i, t) :: r, ρ, w =>
    match ops[i]? with
    | none => False
    | some o => if t then sxt1 P S ops o (fun ρ => sxh P S ops K r ρ w) ρ else sx1 P ops o (fun ρ w => S w ∧ sxh P S ops K r ρ w) ρ w
def planOk (P : Program) (n : Nat) (ops : Array Oper) : List (Nat × Bool) → Array Bool → Bool
  | [], listed => (Region.ready .any ops listed).isEmpty
  | (i, t) :: r, listed =>
    (match ops[i]? with
     | none => false
     | some o => oOk n o && (if t then Region.free .any ops listed i && (Region.ready .any ops listed).contains i else noRound P o.op && (Region.ready .any ops listed == [i]))) && planOk P n ops r (listed.setIfInBounds i true)
theorem sxt1_eq (P : Program) (S : World → Prop) (ops : Array Oper) (o : Oper) (N : Sl → Prop) (ρ : Sl) (h : sxt1 P S ops o N ρ) :
    match o.guard with
      | none => HK P S (exo (ev ρ) o.op o.type) fun v => N (upo ρ o.dst v)
      | some (j, b) => HG P S (gv ops ρ j) b (exo (ev ρ) o.op o.type) fun v => N (upo ρ o.dst v) := by
  obtain ⟨dst, op, ty, pos, after, guard⟩ := o
  cases guard with
  | none =>
    cases dst with
    | none => exact h
    | some d =>
      cases op <;> first | exact h | exact ⟨_, fun w _ => rfl, h⟩
  | some jb => cases dst <;> exact h
theorem sxt1_yields {P : Program} {z : At} {n : Nat} {S : World → Prop} {ops : Array Oper} {o : Oper} {N : Sl → Prop} {a : Act} {ρ : Sl}
    (hd : ∀ k, o.dst = some k → k < n) (hl : Lk z n a ρ) (h : sxt1 P S ops o N ρ) : ∃ v, YieldsIf P ops S o v a ∧ ∃ ρ', Lk z n (a.put o.dst v) ρ' ∧ N ρ' := by
  have he : a.eval = ev ρ := funext (fun x => hl.ev x)
  have h := sxt1_eq P S ops o N ρ h
  cases hg : o.guard with
  | none =>
    rw [hg] at h
    obtain ⟨v, h1, h2⟩ := h
    refine ⟨v, .inl ⟨by unfold Region.wanted; rw [hg], fun w hw => ?_⟩, _, hl.put _ _ hd, h2⟩
    rw [he, ← exo_eq]
    exact h1 w hw
  | some jb =>
    obtain ⟨j, b⟩ := jb
    rw [hg] at h
    obtain ⟨h1, h2⟩ := h
    have hy := wanted_gv hl ops hg
    by_cases htb : wantB (gv ops ρ j) b = true
    · obtain ⟨v, h3, h4⟩ := h1 htb
      refine ⟨v, .inl ⟨hy.trans htb, fun w hw => ?_⟩, _, hl.put _ _ hd, h4⟩
      rw [he, ← exo_eq]
      exact h3 w hw
    · have htb : wantB (gv ops ρ j) b = false := Bool.eq_false_iff.2 htb
      exact ⟨undef, .inr ⟨hy.trans htb, rfl⟩, _, hl.put _ _ hd, h2 htb⟩
theorem sxh_held {P : Program} {n : Nat} {D : List Deferred} {S : World → Prop} {ops : Array Oper} {K : Sl → World → Prop} {Q : Exit → Act → World → Prop} (hQ : ∀ a ρ w, Lk ⟨none, D⟩ n a ρ → K ρ w → Q .normal a w)
    (hp : ∀ c a w, ¬ Q (.panic c) a w) (hs : Region.noSelect ops = true) : ∀ (l : List (Nat × Bool)) (listed : Array Bool) a ρ w,
    planOk P n ops l listed = true → Lk ⟨none, D⟩ n a ρ → S w → sxh P S ops K l ρ w → wpAnyH P .any ops Q S l.length listed a w
  | [], listed, a, ρ, w, hpl, hl, hS, h => ⟨List.isEmpty_iff.1 hpl, hQ a ρ w hl h⟩
  | (i, t) :: r, listed, a, ρ, w, hpl, hl, hS, h => by
    unfold planOk at hpl
    unfold sxh at h
    cases ho : ops[i]? with
    | none => rw [ho] at h; exact h.elim
    | some o =>
      rw [ho] at h hpl
      dsimp only at h hpl
      cases t with
      | true =>
        simp only [if_true, Bool.and_eq_true] at h hpl
        obtain ⟨⟨h1, h2, h3⟩, h4⟩ := hpl
        obtain ⟨v, hy, ρ', hl', hN⟩ := sxt1_yields (oOk_dst h1) hl h
        exact wpAnyH_take ho hs h2 h3 (fun c a w q => absurd q (hp _ _ _)) hy hS (sxh_held hQ hp hs r _ _ ρ' w h4 hl' hS hN)
      | false =>
        simp only [Bool.false_eq_true, if_false, Bool.and_eq_true, beq_iff_eq] at h hpl
        obtain ⟨⟨h1, h2, h3⟩, h4⟩ := hpl
        refine wpAnyH_all h3 (by simp) fun j hj => ?_
        obtain rfl : j = i := by simpa using hj
        unfold wpOp
        rw [ho]
        exact sx1_wp0 (n := n) h2 (oOk_dst h1) hl h (fun a ρ w hl hq => ⟨hq.1, sxh_held hQ hp hs r _ a ρ w h4 hl hq.1 hq.2⟩)
theorem W_held {P : Program} {n : Nat} {D : List Deferred} {id : Nat} {ops : Array Oper} {K : Exit → Sl → World → Prop} {ρ : Sl} {w : World} (S : World → Prop) (plan : List (Nat × Bool)) (hlen : plan.length = ops.size)
    (hs : Region.noSelect ops = true) (hpl : planOk P n ops plan (Array.replicate ops.size false) = true) (hm : P.follows .mixedOrders = true) (hS : S { w with drawn := w.drawn + 1 })
    (h : sxh P S ops (K .normal) plan ρ { w with drawn := w.drawn + 1 }) : W ⟨none, D⟩ P n (.region id ops true) K ρ w := by
  intro a hl
  refine wpIn_wide.2 (Code.wp_mono ?_ (wp_region_held (S := S) (Q := fun e a w => e = .normal ∧ ∃ ρ, Lk ⟨none, D⟩ n a ρ ∧ K .normal ρ w) hm ?_))
  · rintro e a w ⟨rfl, ρ, hl, hk⟩
    exact ⟨ρ, hl, hk⟩
  · have := sxh_held (Q := fun e a w => e = .normal ∧ ∃ ρ, Lk ⟨none, D⟩ n a ρ ∧ K .normal ρ w) (fun a ρ w hl hk => ⟨rfl, ρ, hl, hk⟩) (fun c a w q => by cases q.1) hs plan _ a ρ _ hpl hl hS h
    rw [hlen] at this
    exact this
section
variable {P : Program} {S : World → Prop} {K : Value → Prop}
theorem HV_of {s : Sem Value} {v : Value} (h : ∀ w, S w → s.run P w = .ok v w) (hk : K v) : HK P S (do pure (Next.value (← s))) K := by
  refine ⟨v, fun w hw => ?_, hk⟩
  simp only [Sem.run_bind, h w hw, Result.andThen_ok]
  rfl
theorem HN_ptr {a : Addr} (hk : K (.pointer (some a))) : HK P S (nilCk (.pointer (some a))) K := ⟨_, fun _ _ => rfl, hk⟩
theorem HB_of {op : BinOp} {t : TypeId} {x y : Operand} {a b v : Value} (hg : ∀ w, (eqGuard op t x y a b).run P w = .ok () w) (h : ∀ w, (binOp op t a b).run P w = .ok v w) (hk : K v) : HK P S (do pure (Next.value (← (do eqGuard op t x y a b; binOp op t a b)))) K := by
  refine HV_of (fun w _ => ?_) hk
  simp only [Sem.run_bind, hg, h, Result.andThen_ok]
theorem HI_len {t e ty : TypeId} (h : P.underlying t = some (.slice e)) (cs : Array Bool) (A : Option Addr) (n c : Nat) (hk : K (.int .i64 n)) : HK P S (builtin .len #[t] ty cs [Value.slice A n c].toArray) K := by
  refine ⟨_, fun w _ => ?_, hk⟩
  have h' : P.underlying t = some (.slice (P.elem t)) := by simp [Program.elem, h]
  simp [builtin, run_len_slice w t ty A n c h', goInt]
end
end Go.X
set_option linter.unusedVariables false
set_option linter.unusedSimpArgs false
namespace Go.X
open Go
inductive Pd where
  | done
  | take (i : Nat) (r : Pd)
  | only (d : Bool) (i : Nat) (r : Pd)
  | two (d e : Bool) (i j : Nat) (a b : Pd)
def Pd.len : Pd → Nat
  | .done => 0
  | .take _ r => r.len + 1
  | .only _ _ r => r.len + 1
  | .two _ _ _ _ a _ => a.len + 1
def FnL (P : Program) (v : Value) : Prop := ∃ f fn a b, v = .func (.func f) a b ∧ P.funcs[f]? = some fn ∧ fn.body.isNone = false ∧ (fn.name == "runtime.NumGoroutine") = false
def fnOf : Op → Option Operand
  | .call { callee := .value g, .. } => some g
  | _ => none
def stepD (P : Program) (ops : Array Oper) (o : Oper) (N : Sl → World → Prop) (ρ : Sl) (w : World) : Bool → Prop
  | false => sx1 P ops o N ρ w
  | true => (match fnOf o.op with | none => False | some g => FnL P (ev ρ g)) ∧ sx1 P ops o N ρ w
theorem dyn_run {P : Program} {w w' : World} {ρ : Operand → Value} {o : Oper} {g : Operand} {l : Nat} {f : FuncId} {t : Array Value} {x y : Code} (hg : fnOf o.op = some g) (h : FnL P (ρ g)) : (execOp ρ o).run P w ≠ .ok (.round l f t x y) w' := by
  obtain ⟨dst, op, ty, pos, after, guard⟩ := o
  cases op with
  | call c =>
    obtain ⟨callee, args, argTypes⟩ := c
    cases callee with
    | value g' =>
      cases hg
      obtain ⟨k, fn, a, b, hf, hk, h1, h2⟩ := h
      have hb' : fn.body ≠ none := by intro q; rw [q] at h1; cases h1
      have hn' : fn.name ≠ "runtime.NumGoroutine" := by intro q; rw [q] at h2; simp at h2
      have hc : (callFunc k (a ++ args.map ρ ++ b)).run P w = .ok (.enter k (a ++ args.map ρ ++ b)) w := by
        simp [callFunc, program, Sem.run, hk, hb', hn', Sem.run_bind, pure, bind, Sem.bind]
      intro q
      have he : (execOp ρ { dst := dst, op := .call { callee := .value g, args := args, argTypes := argTypes }, type := ty, pos := pos, after := after, guard := guard }).run P w = .ok (.enter k (a ++ args.map ρ ++ b)) w := by
        simp only [execOp, resolve, hf, Deferred.ofValue, Sem.run_bind, Sem.run_pure, Result.andThen_ok, invoke]
        exact hc
      rw [he] at q
      cases q
    | _ => cases hg
  | _ => cases hg
def sxd (P : Program) (S : World → Prop) (ops : Array Oper) (K : Sl → World → Prop) : Pd → Sl → World → Prop
  | .done, ρ, w => K ρ w
  | .take i r, ρ, w => match ops[i]? with | none => False | some o => sxt1 P S ops o (fun ρ => sxd P S ops K r ρ w) ρ
  | .only d i r, ρ, w => match ops[i]? with | none => False | some o => stepD P ops o (fun ρ w => S w ∧ sxd P S ops K r ρ w) ρ w d
  | .two d e i j a b, ρ, w => (match ops[i]? with | none => False | some o => stepD P ops o (fun ρ w => S w ∧ sxd P S ops K a ρ w) ρ w d) ∧ (match ops[j]? with | none => False | some o => stepD P ops o (fun ρ w => S w ∧ sxd P S ops K b ρ w) ρ w e)
def opOkD (P : Program) (n : Nat) (ops : Array Oper) (d : Bool) (i : Nat) : Bool := match ops[i]? with | none => false | some o => oOk n o && (d || noRound P o.op)
def Pd.ok (P : Program) (n : Nat) (ops : Array Oper) : Pd → Array Bool → Bool
  | .done, listed => (Region.ready .any ops listed).isEmpty
  | .take i r, listed => (match ops[i]? with | none => false | some o => oOk n o && (Region.free .any ops listed i && (Region.ready .any ops listed).contains i)) && Pd.ok P n ops r (listed.setIfInBounds i true)
  | .only d i r, listed => opOkD P n ops d i && (Region.ready .any ops listed == [i]) && Pd.ok P n ops r (listed.setIfInBounds i true)
  | .two d e i j a b, listed => opOkD P n ops d i && opOkD P n ops e j && (Region.ready .any ops listed == [i, j]) && (a.len == b.len) && Pd.ok P n ops a (listed.setIfInBounds i true) && Pd.ok P n ops b (listed.setIfInBounds j true)
theorem opOkD_some {P : Program} {n : Nat} {ops : Array Oper} {d : Bool} {i : Nat} (h : opOkD P n ops d i = true) : ∃ o, ops[i]? = some o ∧ oOk n o = true ∧ (d || noRound P o.op) = true := by
  unfold opOkD at h
  cases ho : ops[i]? with
  | none => rw [ho] at h; cases h
  | some o =>
    rw [ho] at h
    simp only [Bool.and_eq_true] at h
    exact ⟨o, rfl, h.1, h.2⟩
theorem stepD_wp {P : Program} {D : List Deferred} {n : Nat} {ops : Array Oper} {Q : Exit → Act → World → Prop} {o : Oper} {N : Sl → World → Prop} {next : Act → World → Prop} {a : Act} {ρ : Sl} {w : World} {dy : Bool}
    (hr : (dy || noRound P o.op) = true) (hd : ∀ k, o.dst = some k → k < n) (hl : Lk ⟨none, D⟩ n a ρ) (h : stepD P ops o N ρ w dy) (hn : ∀ a ρ w, Lk ⟨none, D⟩ n a ρ → N ρ w → next a w) :
    if Region.wanted o (yielded ops a.tmps) then o.wp P a w next Q ∨ (o.asks P a w ∧ LetsOut Q) else next (a.put o.dst undef) w := by
  cases dy with
  | false => exact sx1_wp0 (n := n) (by simpa using hr) hd hl h hn
  | true =>
    obtain ⟨hg, h⟩ := h
    cases hf : fnOf o.op with
    | none => rw [hf] at hg; exact hg.elim
    | some g =>
      rw [hf] at hg
      have he : a.eval = ev ρ := funext (fun x => hl.ev x)
      rw [sx1_eq] at h
      have key : ∀ (hk : OpK P (exo (ev ρ) o.op o.type) w fun v w' => N (upo ρ o.dst v) w'), o.wp P a w next Q := by
        intro hk
        unfold Oper.wp
        rw [he]
        rw [exo_eq] at hk
        unfold OpK at hk
        unfold Oper.upon
        split at hk
        · rename_i v w' hr; rw [hr]; exact hn _ _ _ (hl.put _ _ hd) hk
        · rename_i w' hr; rw [hr]; exact hn _ _ _ (hl.put _ _ hd) hk
        · rename_i f args w' hr
          rw [hr]
          refine hk.mono ?_
          rintro e w'' ⟨v, rfl, hv⟩
          exact hn _ _ _ (hl.put _ _ hd) hv
        · rename_i l f tmps assign body w' hrun
          exact absurd hrun (dyn_run hf hg)
        · exact hk.elim
      cases hgd : o.guard with
      | none =>
        rw [hgd] at h
        have hw : Region.wanted o (yielded ops a.tmps) = true := by unfold Region.wanted; rw [hgd]
        rw [hw]
        simp only [if_true]
        exact .inl (key h)
      | some jb =>
        obtain ⟨j, b⟩ := jb
        rw [hgd] at h
        obtain ⟨h1, h2⟩ := h
        have hy := wanted_gv hl ops hgd
        by_cases htb : wantB (gv ops ρ j) b = true
        · have hw : Region.wanted o (yielded ops a.tmps) = true := hy.trans htb
          rw [hw]
          simp only [if_true]
          exact .inl (key (h1 htb))
        · have htb : wantB (gv ops ρ j) b = false := Bool.eq_false_iff.2 htb
          have hw : Region.wanted o (yielded ops a.tmps) = false := hy.trans htb
          rw [hw]
          simp only [Bool.false_eq_true, if_false]
          exact hn _ _ _ (hl.put _ _ hd) (h2 htb)
theorem sxd_held {P : Program} {n : Nat} {D : List Deferred} {S : World → Prop} {ops : Array Oper} {K : Sl → World → Prop} {Q : Exit → Act → World → Prop} (hQ : ∀ a ρ w, Lk ⟨none, D⟩ n a ρ → K ρ w → Q .normal a w)
    (hp : ∀ c a w, ¬ Q (.panic c) a w) (hs : Region.noSelect ops = true) : ∀ (l : Pd) (listed : Array Bool) a ρ w,
    l.ok P n ops listed = true → Lk ⟨none, D⟩ n a ρ → S w → sxd P S ops K l ρ w → wpAnyH P .any ops Q S l.len listed a w
  | .done, listed, a, ρ, w, hpl, hl, hS, h => ⟨List.isEmpty_iff.1 hpl, hQ a ρ w hl h⟩
  | .take i r, listed, a, ρ, w, hpl, hl, hS, h => by
    unfold Pd.ok at hpl
    unfold sxd at h
    cases ho : ops[i]? with
    | none => rw [ho] at h; exact h.elim
    | some o =>
      rw [ho] at h hpl
      dsimp only at h hpl
      simp only [Bool.and_eq_true] at hpl
      obtain ⟨⟨h1, h2, h3⟩, h4⟩ := hpl
      obtain ⟨v, hy, ρ', hl', hN⟩ := sxt1_yields (oOk_dst h1) hl h
      exact wpAnyH_take ho hs h2 h3 (fun c a w q => absurd q (hp _ _ _)) hy hS (sxd_held hQ hp hs r _ _ ρ' w h4 hl' hS hN)
  | .only d i r, listed, a, ρ, w, hpl, hl, hS, h => by
    unfold Pd.ok at hpl
    unfold sxd at h
    simp only [Bool.and_eq_true, beq_iff_eq] at hpl
    obtain ⟨⟨h1, h3⟩, h4⟩ := hpl
    obtain ⟨o, ho, g1, g2⟩ := opOkD_some h1
    rw [ho] at h
    dsimp only at h
    refine wpAnyH_all h3 (by simp) fun j hj => ?_
    obtain rfl : j = i := by simpa using hj
    unfold wpOp
    rw [ho]
    exact stepD_wp (n := n) g2 (oOk_dst g1) hl h (fun a ρ w hl hq => ⟨hq.1, sxd_held hQ hp hs r _ a ρ w h4 hl hq.1 hq.2⟩)
  | .two d e i j a b, listed, ac, ρ, w, hpl, hl, hS, h => by
    unfold Pd.ok at hpl
    unfold sxd at h
    simp only [Bool.and_eq_true, beq_iff_eq] at hpl
    obtain ⟨⟨⟨⟨⟨h1, h2⟩, h3⟩, h4⟩, h5⟩, h6⟩ := hpl
    obtain ⟨o, ho, g1, g1'⟩ := opOkD_some h1
    obtain ⟨o', ho', g2, g2'⟩ := opOkD_some h2
    rw [ho, ho'] at h
    dsimp only at h
    refine wpAnyH_all h3 (by simp) fun k hk => ?_
    rcases List.mem_cons.1 hk with rfl | hk
    · unfold wpOp
      rw [ho]
      exact stepD_wp (n := n) g1' (oOk_dst g1) hl h.1 (fun a' ρ w hl hq => ⟨hq.1, sxd_held hQ hp hs a _ a' ρ w h5 hl hq.1 hq.2⟩)
    · obtain rfl : k = j := by simpa using hk
      unfold wpOp
      rw [ho']
      have h4' : a.len = b.len := by simpa using h4
      rw [h4']
      exact stepD_wp (n := n) g2' (oOk_dst g2) hl h.2 (fun a' ρ w hl hq => ⟨hq.1, sxd_held hQ hp hs b _ a' ρ w h6 hl hq.1 hq.2⟩)
theorem W_pland {P : Program} {n : Nat} {D : List Deferred} {id : Nat} {ops : Array Oper} {K : Exit → Sl → World → Prop} {ρ : Sl} {w : World} (S : World → Prop) (plan : Pd) (hlen : plan.len = ops.size)
    (hs : Region.noSelect ops = true) (hpl : plan.ok P n ops (Array.replicate ops.size false) = true) (hm : P.follows .mixedOrders = true) (hS : S { w with drawn := w.drawn + 1 })
    (h : sxd P S ops (K .normal) plan ρ { w with drawn := w.drawn + 1 }) : W ⟨none, D⟩ P n (.region id ops true) K ρ w := by
  intro a hl
  refine wpIn_wide.2 (Code.wp_mono ?_ (wp_region_held (S := S) (Q := fun e a w => e = .normal ∧ ∃ ρ, Lk ⟨none, D⟩ n a ρ ∧ K .normal ρ w) hm ?_))
  · rintro e a w ⟨rfl, ρ, hl, hk⟩
    exact ⟨ρ, hl, hk⟩
  · have := sxd_held (Q := fun e a w => e = .normal ∧ ∃ ρ, Lk ⟨none, D⟩ n a ρ ∧ K .normal ρ w) (fun a ρ w hl hk => ⟨rfl, ρ, hl, hk⟩) (fun c a w q => by cases q.1) hs plan _ a ρ _ hpl hl hS h
    rw [hlen] at this
    exact this
end Go.X
