/- The framework X, part 1 (a): a region that draws its order, by a plan: what yields the same in every world of a class is taken first; where just one may come up it is carried out. -/
import Derived.Test.YtbnbcimjapiicaaDoorXBase
import Derived.OrdersHeld
set_option linter.unusedVariables false
set_option linter.unusedSimpArgs false
namespace Go.X
open Go

/-- One value in every world of the class, nothing else. -/
def HK (P : Program) (S : World → Prop) (s : Sem Next) (K : Value → Prop) : Prop := ∃ v, (∀ w, S w → s.run P w = .ok (.value v) w) ∧ K v
def HG (P : Program) (S : World → Prop) (g : Value) (b : Bool) (s : Sem Next) (K : Value → Prop) : Prop := GuardK g b (HK P S s K) (K undef)
def sxt1 (P : Program) (S : World → Prop) (ops : Array Oper) (o : Oper) (N : Sl → Prop) (ρ : Sl) : Prop :=
  match o with
  | ⟨dst, op, ty, _, _, g⟩ =>
    match g, dst with
    | none, some d => match mvOf op with
      | some x => N (up ρ d (ev ρ x))
      | none => HK P S (exo (ev ρ) op ty) fun v => N (up ρ d v)
    | none, none => HK P S (exo (ev ρ) op ty) fun _ => N ρ
    | some (j, b), some d => HG P S (gv ops ρ j) b (exo (ev ρ) op ty) fun v => N (up ρ d v)
    | some (j, b), none => HG P S (gv ops ρ j) b (exo (ev ρ) op ty) fun _ => N ρ
def sxh (P : Program) (S : World → Prop) (ops : Array Oper) (K : Sl → World → Prop) : List (Nat × Bool) → Sl → World → Prop
  | [], ρ, w => K ρ w
  | (i, t) :: r, ρ, w =>
    match ops[i]? with
    | none => False
    | some o => if t then sxt1 P S ops o (fun ρ => sxh P S ops K r ρ w) ρ else sx1 P ops o (fun ρ w => S w ∧ sxh P S ops K r ρ w) ρ w
def planOk (P : Program) (n : Nat) (ops : Array Oper) : List (Nat × Bool) → Array Bool → Bool
  | [], listed => (Region.ready .any ops listed).isEmpty
  | (i, t) :: r, listed =>
    (match ops[i]? with
     | none => false
     | some o => oOk n o && (if t then Region.free .any ops listed i && (Region.ready .any ops listed).contains i else noRound P o.op && (Region.ready .any ops listed == [i]))) && planOk P n ops r (listed.setIfInBounds i true)

theorem sxt1_eq (P : Program) (S : World → Prop) (ops : Array Oper) (o : Oper) (N : Sl → Prop) (ρ : Sl) (h : sxt1 P S ops o N ρ) :
    match o.guard with
      | none => HK P S (exo (ev ρ) o.op o.type) fun v => N (upo ρ o.dst v)
      | some (j, b) => HG P S (gv ops ρ j) b (exo (ev ρ) o.op o.type) fun v => N (upo ρ o.dst v) := by
  obtain ⟨dst, op, ty, pos, after, guard⟩ := o
  cases guard with
  | none =>
    cases dst with
    | none => exact h
    | some d =>
      cases op <;> first | exact h | exact ⟨_, fun w _ => rfl, h⟩
  | some jb => cases dst <;> exact h
theorem sxt1_yields {P : Program} {z : At} {n : Nat} {S : World → Prop} {ops : Array Oper} {o : Oper} {N : Sl → Prop} {a : Act} {ρ : Sl}
    (hd : ∀ k, o.dst = some k → k < n) (hl : Lk z n a ρ) (h : sxt1 P S ops o N ρ) : ∃ v, YieldsIf P ops S o v a ∧ ∃ ρ', Lk z n (a.put o.dst v) ρ' ∧ N ρ' := by
  have he : a.eval = ev ρ := funext (fun x => hl.ev x)
  have h := sxt1_eq P S ops o N ρ h
  cases hg : o.guard with
  | none =>
    rw [hg] at h
    obtain ⟨v, h1, h2⟩ := h
    refine ⟨v, .inl ⟨by unfold Region.wanted; rw [hg], fun w hw => ?_⟩, _, hl.put _ _ hd, h2⟩
    rw [he, ← exo_eq]
    exact h1 w hw
  | some jb =>
    obtain ⟨j, b⟩ := jb
    rw [hg] at h
    obtain ⟨h1, h2⟩ := h
    have hy := wanted_gv hl ops hg
    by_cases htb : wantB (gv ops ρ j) b = true
    · obtain ⟨v, h3, h4⟩ := h1 htb
      refine ⟨v, .inl ⟨hy.trans htb, fun w hw => ?_⟩, _, hl.put _ _ hd, h4⟩
      rw [he, ← exo_eq]
      exact h3 w hw
    · have htb : wantB (gv ops ρ j) b = false := Bool.eq_false_iff.2 htb
      exact ⟨undef, .inr ⟨hy.trans htb, rfl⟩, _, hl.put _ _ hd, h2 htb⟩
theorem sxh_held {P : Program} {n : Nat} {D : List Deferred} {S : World → Prop} {ops : Array Oper} {K : Sl → World → Prop} {Q : Exit → Act → World → Prop} (hQ : ∀ a ρ w, Lk ⟨none, D⟩ n a ρ → K ρ w → Q .normal a w)
    (hp : ∀ c a w, ¬ Q (.panic c) a w) (hs : Region.noSelect ops = true) : ∀ (l : List (Nat × Bool)) (listed : Array Bool) a ρ w,
    planOk P n ops l listed = true → Lk ⟨none, D⟩ n a ρ → S w → sxh P S ops K l ρ w → wpAnyH P .any ops Q S l.length listed a w
  | [], listed, a, ρ, w, hpl, hl, hS, h => ⟨List.isEmpty_iff.1 hpl, hQ a ρ w hl h⟩
  | (i, t) :: r, listed, a, ρ, w, hpl, hl, hS, h => by
    unfold planOk at hpl
    unfold sxh at h
    cases ho : ops[i]? with
    | none => rw [ho] at h; exact h.elim
    | some o =>
      rw [ho] at h hpl
      dsimp only at h hpl
      cases t with
      | true =>
        simp only [if_true, Bool.and_eq_true] at h hpl
        obtain ⟨⟨h1, h2, h3⟩, h4⟩ := hpl
        obtain ⟨v, hy, ρ', hl', hN⟩ := sxt1_yields (oOk_dst h1) hl h
        exact wpAnyH_take ho hs h2 h3 (fun c a w q => absurd q (hp _ _ _)) hy hS (sxh_held hQ hp hs r _ _ ρ' w h4 hl' hS hN)
      | false =>
        simp only [Bool.false_eq_true, if_false, Bool.and_eq_true, beq_iff_eq] at h hpl
        obtain ⟨⟨h1, h2, h3⟩, h4⟩ := hpl
        refine wpAnyH_all h3 (by simp) fun j hj => ?_
        obtain rfl : j = i := by simpa using hj
        unfold wpOp
        rw [ho]
        exact sx1_wp0 (n := n) h2 (oOk_dst h1) hl h (fun a ρ w hl hq => ⟨hq.1, sxh_held hQ hp hs r _ a ρ w h4 hl hq.1 hq.2⟩)
theorem W_held {P : Program} {n : Nat} {D : List Deferred} {id : Nat} {ops : Array Oper} {K : Exit → Sl → World → Prop} {ρ : Sl} {w : World} (S : World → Prop) (plan : List (Nat × Bool)) (hlen : plan.length = ops.size)
    (hs : Region.noSelect ops = true) (hpl : planOk P n ops plan (Array.replicate ops.size false) = true) (hm : P.follows .mixedOrders = true) (hS : S { w with drawn := w.drawn + 1 })
    (h : sxh P S ops (K .normal) plan ρ { w with drawn := w.drawn + 1 }) : W ⟨none, D⟩ P n (.region id ops true) K ρ w := by
  intro a hl
  refine wpIn_wide.2 (Code.wp_mono ?_ (wp_region_held (S := S) (Q := fun e a w => e = .normal ∧ ∃ ρ, Lk ⟨none, D⟩ n a ρ ∧ K .normal ρ w) hm ?_))
  · rintro e a w ⟨rfl, ρ, hl, hk⟩
    exact ⟨ρ, hl, hk⟩
  · have := sxh_held (Q := fun e a w => e = .normal ∧ ∃ ρ, Lk ⟨none, D⟩ n a ρ ∧ K .normal ρ w) (fun a ρ w hl hk => ⟨rfl, ρ, hl, hk⟩) (fun c a w q => by cases q.1) hs plan _ a ρ _ hpl hl hS h
    rw [hlen] at this
    exact this

section
variable {P : Program} {S : World → Prop} {K : Value → Prop}
theorem HV_of {s : Sem Value} {v : Value} (h : ∀ w, S w → s.run P w = .ok v w) (hk : K v) : HK P S (do pure (Next.value (← s))) K := by
  refine ⟨v, fun w hw => ?_, hk⟩
  simp only [Sem.run_bind, h w hw, Result.andThen_ok]
  rfl
theorem HN_ptr {a : Addr} (hk : K (.pointer (some a))) : HK P S (nilCk (.pointer (some a))) K := ⟨_, fun _ _ => rfl, hk⟩
theorem HP_of {t : Bool} {a b : Value} (hk : K (if t then a else b)) : HK P S (do pure (Next.value (if ← asBool (.bool t) then a else b))) K :=
  ⟨_, fun _ _ => by cases t <;> rfl, hk⟩
theorem HB_of {op : BinOp} {t : TypeId} {x y : Operand} {a b v : Value} (hg : ∀ w, (eqGuard op t x y a b).run P w = .ok () w) (h : ∀ w, (binOp op t a b).run P w = .ok v w) (hk : K v) : HK P S (do pure (Next.value (← (do eqGuard op t x y a b; binOp op t a b)))) K := by
  refine HV_of (fun w _ => ?_) hk
  simp only [Sem.run_bind, hg, h, Result.andThen_ok]
theorem HG_b (t b : Bool) (s : Sem Next) : HG P S (.bool t) b s K = if t = b then HK P S s K else K undef := by
  unfold HG GuardK wantB
  by_cases h : t = b <;> simp [h]
theorem HI_len {t e ty : TypeId} (h : P.underlying t = some (.slice e)) (cs : Array Bool) (A : Option Addr) (n c : Nat) (hk : K (.int .i64 n)) : HK P S (builtin .len #[t] ty cs [Value.slice A n c].toArray) K := by
  refine ⟨_, fun w _ => ?_, hk⟩
  have h' : P.underlying t = some (.slice (P.elem t)) := by simp [Program.elem, h]
  simp [builtin, run_len_slice w t ty A n c h', goInt]
end
end Go.X
