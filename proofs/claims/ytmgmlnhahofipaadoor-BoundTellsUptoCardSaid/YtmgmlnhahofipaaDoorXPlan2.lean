/- The framework X, part 1 (c): as part 1 (b), with calls of functions that lie in a slot. -/
import Derived.Test.YtmgmlnhahofipaaDoorXHeld
set_option linter.unusedVariables false
set_option linter.unusedSimpArgs false
namespace Go.X
open Go

inductive Pd where
  | done
  | take (i : Nat) (r : Pd)
  | only (d : Bool) (i : Nat) (r : Pd)
  | two (d e : Bool) (i j : Nat) (a b : Pd)
def Pd.len : Pd → Nat
  | .done => 0
  | .take _ r => r.len + 1
  | .only _ _ r => r.len + 1
  | .two _ _ _ _ a _ => a.len + 1
/-- A function's value, of a function that has a body. -/
def FnL (P : Program) (v : Value) : Prop := ∃ f fn a b, v = .func (.func f) a b ∧ P.funcs[f]? = some fn ∧ fn.body.isNone = false ∧ (fn.name == "runtime.NumGoroutine") = false
def fnOf : Op → Option Operand
  | .call { callee := .value g, .. } => some g
  | _ => none
def stepD (P : Program) (ops : Array Oper) (o : Oper) (N : Sl → World → Prop) (ρ : Sl) (w : World) : Bool → Prop
  | false => sx1 P ops o N ρ w
  | true => (match fnOf o.op with | none => False | some g => FnL P (ev ρ g)) ∧ sx1 P ops o N ρ w
theorem dyn_run {P : Program} {w w' : World} {ρ : Operand → Value} {o : Oper} {g : Operand} {l : Nat} {f : FuncId} {t : Array Value} {x y : Code} (hg : fnOf o.op = some g) (h : FnL P (ρ g)) : (execOp ρ o).run P w ≠ .ok (.round l f t x y) w' := by
  obtain ⟨dst, op, ty, pos, after, guard⟩ := o
  cases op with
  | call c =>
    obtain ⟨callee, args, argTypes⟩ := c
    cases callee with
    | value g' =>
      cases hg
      obtain ⟨k, fn, a, b, hf, hk, h1, h2⟩ := h
      have hb' : fn.body ≠ none := by intro q; rw [q] at h1; cases h1
      have hn' : fn.name ≠ "runtime.NumGoroutine" := by intro q; rw [q] at h2; simp at h2
      have hc : (callFunc k (a ++ args.map ρ ++ b)).run P w = .ok (.enter k (a ++ args.map ρ ++ b)) w := by
        simp [callFunc, program, Sem.run, hk, hb', hn', Sem.run_bind, pure, bind, Sem.bind]
      intro q
      have he : (execOp ρ { dst := dst, op := .call { callee := .value g, args := args, argTypes := argTypes }, type := ty, pos := pos, after := after, guard := guard }).run P w = .ok (.enter k (a ++ args.map ρ ++ b)) w := by
        simp only [execOp, resolve, hf, Deferred.ofValue, Sem.run_bind, Sem.run_pure, Result.andThen_ok, invoke]
        exact hc
      rw [he] at q
      cases q
    | _ => cases hg
  | _ => cases hg
def sxd (P : Program) (S : World → Prop) (ops : Array Oper) (K : Sl → World → Prop) : Pd → Sl → World → Prop
  | .done, ρ, w => K ρ w
  | .take i r, ρ, w => match ops[i]? with | none => False | some o => sxt1 P S ops o (fun ρ => sxd P S ops K r ρ w) ρ
  | .only d i r, ρ, w => match ops[i]? with | none => False | some o => stepD P ops o (fun ρ w => S w ∧ sxd P S ops K r ρ w) ρ w d
  | .two d e i j a b, ρ, w => (match ops[i]? with | none => False | some o => stepD P ops o (fun ρ w => S w ∧ sxd P S ops K a ρ w) ρ w d) ∧ (match ops[j]? with | none => False | some o => stepD P ops o (fun ρ w => S w ∧ sxd P S ops K b ρ w) ρ w e)
def opOkD (P : Program) (n : Nat) (ops : Array Oper) (d : Bool) (i : Nat) : Bool := match ops[i]? with | none => false | some o => oOk n o && (d || noRound P o.op)
def Pd.ok (P : Program) (n : Nat) (ops : Array Oper) : Pd → Array Bool → Bool
  | .done, listed => (Region.ready .any ops listed).isEmpty
  | .take i r, listed => (match ops[i]? with | none => false | some o => oOk n o && (Region.free .any ops listed i && (Region.ready .any ops listed).contains i)) && Pd.ok P n ops r (listed.setIfInBounds i true)
  | .only d i r, listed => opOkD P n ops d i && (Region.ready .any ops listed == [i]) && Pd.ok P n ops r (listed.setIfInBounds i true)
  | .two d e i j a b, listed => opOkD P n ops d i && opOkD P n ops e j && (Region.ready .any ops listed == [i, j]) && (a.len == b.len) && Pd.ok P n ops a (listed.setIfInBounds i true) && Pd.ok P n ops b (listed.setIfInBounds j true)
theorem opOkD_some {P : Program} {n : Nat} {ops : Array Oper} {d : Bool} {i : Nat} (h : opOkD P n ops d i = true) : ∃ o, ops[i]? = some o ∧ oOk n o = true ∧ (d || noRound P o.op) = true := by
  unfold opOkD at h
  cases ho : ops[i]? with
  | none => rw [ho] at h; cases h
  | some o =>
    rw [ho] at h
    simp only [Bool.and_eq_true] at h
    exact ⟨o, rfl, h.1, h.2⟩
theorem stepD_wp {P : Program} {D : List Deferred} {n : Nat} {ops : Array Oper} {Q : Exit → Act → World → Prop} {o : Oper} {N : Sl → World → Prop} {next : Act → World → Prop} {a : Act} {ρ : Sl} {w : World} {dy : Bool}
    (hr : (dy || noRound P o.op) = true) (hd : ∀ k, o.dst = some k → k < n) (hl : Lk ⟨none, D⟩ n a ρ) (h : stepD P ops o N ρ w dy) (hn : ∀ a ρ w, Lk ⟨none, D⟩ n a ρ → N ρ w → next a w) :
    if Region.wanted o (yielded ops a.tmps) then o.wp P a w next Q ∨ (o.asks P a w ∧ LetsOut Q) else next (a.put o.dst undef) w := by
  cases dy with
  | false => exact sx1_wp0 (n := n) (by simpa using hr) hd hl h hn
  | true =>
    obtain ⟨hg, h⟩ := h
    cases hf : fnOf o.op with
    | none => rw [hf] at hg; exact hg.elim
    | some g =>
      rw [hf] at hg
      have he : a.eval = ev ρ := funext (fun x => hl.ev x)
      rw [sx1_eq] at h
      have key : ∀ (hk : OpK P (exo (ev ρ) o.op o.type) w fun v w' => N (upo ρ o.dst v) w'), o.wp P a w next Q := by
        intro hk
        unfold Oper.wp
        rw [he]
        rw [exo_eq] at hk
        unfold OpK at hk
        unfold Oper.upon
        split at hk
        · rename_i v w' hr; rw [hr]; exact hn _ _ _ (hl.put _ _ hd) hk
        · rename_i w' hr; rw [hr]; exact hn _ _ _ (hl.put _ _ hd) hk
        · rename_i f args w' hr
          rw [hr]
          refine hk.mono ?_
          rintro e w'' ⟨v, rfl, hv⟩
          exact hn _ _ _ (hl.put _ _ hd) hv
        · rename_i l f tmps assign body w' hrun
          exact absurd hrun (dyn_run hf hg)
        · exact hk.elim
      cases hgd : o.guard with
      | none =>
        rw [hgd] at h
        have hw : Region.wanted o (yielded ops a.tmps) = true := by unfold Region.wanted; rw [hgd]
        rw [hw]
        simp only [if_true]
        exact .inl (key h)
      | some jb =>
        obtain ⟨j, b⟩ := jb
        rw [hgd] at h
        obtain ⟨h1, h2⟩ := h
        have hy := wanted_gv hl ops hgd
        by_cases htb : wantB (gv ops ρ j) b = true
        · have hw : Region.wanted o (yielded ops a.tmps) = true := hy.trans htb
          rw [hw]
          simp only [if_true]
          exact .inl (key (h1 htb))
        · have htb : wantB (gv ops ρ j) b = false := Bool.eq_false_iff.2 htb
          have hw : Region.wanted o (yielded ops a.tmps) = false := hy.trans htb
          rw [hw]
          simp only [Bool.false_eq_true, if_false]
          exact hn _ _ _ (hl.put _ _ hd) (h2 htb)
theorem sxd_held {P : Program} {n : Nat} {D : List Deferred} {S : World → Prop} {ops : Array Oper} {K : Sl → World → Prop} {Q : Exit → Act → World → Prop} (hQ : ∀ a ρ w, Lk ⟨none, D⟩ n a ρ → K ρ w → Q .normal a w)
    (hp : ∀ c a w, ¬ Q (.panic c) a w) (hs : Region.noSelect ops = true) : ∀ (l : Pd) (listed : Array Bool) a ρ w,
    l.ok P n ops listed = true → Lk ⟨none, D⟩ n a ρ → S w → sxd P S ops K l ρ w → wpAnyH P .any ops Q S l.len listed a w
  | .done, listed, a, ρ, w, hpl, hl, hS, h => ⟨List.isEmpty_iff.1 hpl, hQ a ρ w hl h⟩
  | .take i r, listed, a, ρ, w, hpl, hl, hS, h => by
    unfold Pd.ok at hpl
    unfold sxd at h
    cases ho : ops[i]? with
    | none => rw [ho] at h; exact h.elim
    | some o =>
      rw [ho] at h hpl
      dsimp only at h hpl
      simp only [Bool.and_eq_true] at hpl
      obtain ⟨⟨h1, h2, h3⟩, h4⟩ := hpl
      obtain ⟨v, hy, ρ', hl', hN⟩ := sxt1_yields (oOk_dst h1) hl h
      exact wpAnyH_take ho hs h2 h3 (fun c a w q => absurd q (hp _ _ _)) hy hS (sxd_held hQ hp hs r _ _ ρ' w h4 hl' hS hN)
  | .only d i r, listed, a, ρ, w, hpl, hl, hS, h => by
    unfold Pd.ok at hpl
    unfold sxd at h
    simp only [Bool.and_eq_true, beq_iff_eq] at hpl
    obtain ⟨⟨h1, h3⟩, h4⟩ := hpl
    obtain ⟨o, ho, g1, g2⟩ := opOkD_some h1
    rw [ho] at h
    dsimp only at h
    refine wpAnyH_all h3 (by simp) fun j hj => ?_
    obtain rfl : j = i := by simpa using hj
    unfold wpOp
    rw [ho]
    exact stepD_wp (n := n) g2 (oOk_dst g1) hl h (fun a ρ w hl hq => ⟨hq.1, sxd_held hQ hp hs r _ a ρ w h4 hl hq.1 hq.2⟩)
  | .two d e i j a b, listed, ac, ρ, w, hpl, hl, hS, h => by
    unfold Pd.ok at hpl
    unfold sxd at h
    simp only [Bool.and_eq_true, beq_iff_eq] at hpl
    obtain ⟨⟨⟨⟨⟨h1, h2⟩, h3⟩, h4⟩, h5⟩, h6⟩ := hpl
    obtain ⟨o, ho, g1, g1'⟩ := opOkD_some h1
    obtain ⟨o', ho', g2, g2'⟩ := opOkD_some h2
    rw [ho, ho'] at h
    dsimp only at h
    refine wpAnyH_all h3 (by simp) fun k hk => ?_
    rcases List.mem_cons.1 hk with rfl | hk
    · unfold wpOp
      rw [ho]
      exact stepD_wp (n := n) g1' (oOk_dst g1) hl h.1 (fun a' ρ w hl hq => ⟨hq.1, sxd_held hQ hp hs a _ a' ρ w h5 hl hq.1 hq.2⟩)
    · obtain rfl : k = j := by simpa using hk
      unfold wpOp
      rw [ho']
      have h4' : a.len = b.len := by simpa using h4
      rw [h4']
      exact stepD_wp (n := n) g2' (oOk_dst g2) hl h.2 (fun a' ρ w hl hq => ⟨hq.1, sxd_held hQ hp hs b _ a' ρ w h6 hl hq.1 hq.2⟩)
theorem W_pland {P : Program} {n : Nat} {D : List Deferred} {id : Nat} {ops : Array Oper} {K : Exit → Sl → World → Prop} {ρ : Sl} {w : World} (S : World → Prop) (plan : Pd) (hlen : plan.len = ops.size)
    (hs : Region.noSelect ops = true) (hpl : plan.ok P n ops (Array.replicate ops.size false) = true) (hm : P.follows .mixedOrders = true) (hS : S { w with drawn := w.drawn + 1 })
    (h : sxd P S ops (K .normal) plan ρ { w with drawn := w.drawn + 1 }) : W ⟨none, D⟩ P n (.region id ops true) K ρ w := by
  intro a hl
  refine wpIn_wide.2 (Code.wp_mono ?_ (wp_region_held (S := S) (Q := fun e a w => e = .normal ∧ ∃ ρ, Lk ⟨none, D⟩ n a ρ ∧ K .normal ρ w) hm ?_))
  · rintro e a w ⟨rfl, ρ, hl, hk⟩
    exact ⟨ρ, hl, hk⟩
  · have := sxd_held (Q := fun e a w => e = .normal ∧ ∃ ρ, Lk ⟨none, D⟩ n a ρ ∧ K .normal ρ w) (fun a ρ w hl hk => ⟨rfl, ρ, hl, hk⟩) (fun c a w q => by cases q.1) hs plan _ a ρ _ hpl hl hS h
    rw [hlen] at this
    exact this
end Go.X
