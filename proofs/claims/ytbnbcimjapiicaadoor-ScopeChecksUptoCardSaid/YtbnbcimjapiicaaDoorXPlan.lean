/- The framework X, part 1 (b): a region that draws its order, by a plan that may part where two operations may come up. -/
import Derived.Test.YtbnbcimjapiicaaDoorXHeld
set_option linter.unusedVariables false
set_option linter.unusedSimpArgs false
namespace Go.X
open Go

inductive Pl where
  | done
  | take (i : Nat) (r : Pl)
  | only (i : Nat) (r : Pl)
  | two (i j : Nat) (a b : Pl)
def Pl.len : Pl → Nat
  | .done => 0
  | .take _ r => r.len + 1
  | .only _ r => r.len + 1
  | .two _ _ a _ => a.len + 1
def sxp (P : Program) (S : World → Prop) (ops : Array Oper) (K : Sl → World → Prop) : Pl → Sl → World → Prop
  | .done, ρ, w => K ρ w
  | .take i r, ρ, w => match ops[i]? with | none => False | some o => sxt1 P S ops o (fun ρ => sxp P S ops K r ρ w) ρ
  | .only i r, ρ, w => match ops[i]? with | none => False | some o => sx1 P ops o (fun ρ w => S w ∧ sxp P S ops K r ρ w) ρ w
  | .two i j a b, ρ, w => (match ops[i]? with | none => False | some o => sx1 P ops o (fun ρ w => S w ∧ sxp P S ops K a ρ w) ρ w) ∧ (match ops[j]? with | none => False | some o => sx1 P ops o (fun ρ w => S w ∧ sxp P S ops K b ρ w) ρ w)
def opOk (P : Program) (n : Nat) (ops : Array Oper) (i : Nat) : Bool := match ops[i]? with | none => false | some o => oOk n o && noRound P o.op
def Pl.ok (P : Program) (n : Nat) (ops : Array Oper) : Pl → Array Bool → Bool
  | .done, listed => (Region.ready .any ops listed).isEmpty
  | .take i r, listed => (match ops[i]? with | none => false | some o => oOk n o && (Region.free .any ops listed i && (Region.ready .any ops listed).contains i)) && Pl.ok P n ops r (listed.setIfInBounds i true)
  | .only i r, listed => opOk P n ops i && (Region.ready .any ops listed == [i]) && Pl.ok P n ops r (listed.setIfInBounds i true)
  | .two i j a b, listed => opOk P n ops i && opOk P n ops j && (Region.ready .any ops listed == [i, j]) && (a.len == b.len) && Pl.ok P n ops a (listed.setIfInBounds i true) && Pl.ok P n ops b (listed.setIfInBounds j true)
theorem opOk_some {P : Program} {n : Nat} {ops : Array Oper} {i : Nat} (h : opOk P n ops i = true) : ∃ o, ops[i]? = some o ∧ oOk n o = true ∧ noRound P o.op = true := by
  unfold opOk at h
  cases ho : ops[i]? with
  | none => rw [ho] at h; cases h
  | some o =>
    rw [ho] at h
    simp only [Bool.and_eq_true] at h
    exact ⟨o, rfl, h.1, h.2⟩
theorem sxp_held {P : Program} {n : Nat} {D : List Deferred} {S : World → Prop} {ops : Array Oper} {K : Sl → World → Prop} {Q : Exit → Act → World → Prop} (hQ : ∀ a ρ w, Lk ⟨none, D⟩ n a ρ → K ρ w → Q .normal a w)
    (hp : ∀ c a w, ¬ Q (.panic c) a w) (hs : Region.noSelect ops = true) : ∀ (l : Pl) (listed : Array Bool) a ρ w,
    l.ok P n ops listed = true → Lk ⟨none, D⟩ n a ρ → S w → sxp P S ops K l ρ w → wpAnyH P .any ops Q S l.len listed a w
  | .done, listed, a, ρ, w, hpl, hl, hS, h => ⟨List.isEmpty_iff.1 hpl, hQ a ρ w hl h⟩
  | .take i r, listed, a, ρ, w, hpl, hl, hS, h => by
    unfold Pl.ok at hpl
    unfold sxp at h
    cases ho : ops[i]? with
    | none => rw [ho] at h; exact h.elim
    | some o =>
      rw [ho] at h hpl
      dsimp only at h hpl
      simp only [Bool.and_eq_true] at hpl
      obtain ⟨⟨h1, h2, h3⟩, h4⟩ := hpl
      obtain ⟨v, hy, ρ', hl', hN⟩ := sxt1_yields (oOk_dst h1) hl h
      exact wpAnyH_take ho hs h2 h3 (fun c a w q => absurd q (hp _ _ _)) hy hS (sxp_held hQ hp hs r _ _ ρ' w h4 hl' hS hN)
  | .only i r, listed, a, ρ, w, hpl, hl, hS, h => by
    unfold Pl.ok at hpl
    unfold sxp at h
    simp only [Bool.and_eq_true, beq_iff_eq] at hpl
    obtain ⟨⟨h1, h3⟩, h4⟩ := hpl
    obtain ⟨o, ho, g1, g2⟩ := opOk_some h1
    rw [ho] at h
    dsimp only at h
    refine wpAnyH_all h3 (by simp) fun j hj => ?_
    obtain rfl : j = i := by simpa using hj
    unfold wpOp
    rw [ho]
    exact sx1_wp0 (n := n) g2 (oOk_dst g1) hl h (fun a ρ w hl hq => ⟨hq.1, sxp_held hQ hp hs r _ a ρ w h4 hl hq.1 hq.2⟩)
  | .two i j a b, listed, ac, ρ, w, hpl, hl, hS, h => by
    unfold Pl.ok at hpl
    unfold sxp at h
    simp only [Bool.and_eq_true, beq_iff_eq] at hpl
    obtain ⟨⟨⟨⟨⟨h1, h2⟩, h3⟩, h4⟩, h5⟩, h6⟩ := hpl
    obtain ⟨o, ho, g1, g1'⟩ := opOk_some h1
    obtain ⟨o', ho', g2, g2'⟩ := opOk_some h2
    rw [ho, ho'] at h
    dsimp only at h
    refine wpAnyH_all h3 (by simp) fun k hk => ?_
    rcases List.mem_cons.1 hk with rfl | hk
    · unfold wpOp
      rw [ho]
      exact sx1_wp0 (n := n) g1' (oOk_dst g1) hl h.1 (fun a' ρ w hl hq => ⟨hq.1, sxp_held hQ hp hs a _ a' ρ w h5 hl hq.1 hq.2⟩)
    · obtain rfl : k = j := by simpa using hk
      unfold wpOp
      rw [ho']
      have h4' : a.len = b.len := by simpa using h4
      rw [h4']
      exact sx1_wp0 (n := n) g2' (oOk_dst g2) hl h.2 (fun a' ρ w hl hq => ⟨hq.1, sxp_held hQ hp hs b _ a' ρ w h6 hl hq.1 hq.2⟩)
theorem W_plan {P : Program} {n : Nat} {D : List Deferred} {id : Nat} {ops : Array Oper} {K : Exit → Sl → World → Prop} {ρ : Sl} {w : World} (S : World → Prop) (plan : Pl) (hlen : plan.len = ops.size)
    (hs : Region.noSelect ops = true) (hpl : plan.ok P n ops (Array.replicate ops.size false) = true) (hm : P.follows .mixedOrders = true) (hS : S { w with drawn := w.drawn + 1 })
    (h : sxp P S ops (K .normal) plan ρ { w with drawn := w.drawn + 1 }) : W ⟨none, D⟩ P n (.region id ops true) K ρ w := by
  intro a hl
  refine wpIn_wide.2 (Code.wp_mono ?_ (wp_region_held (S := S) (Q := fun e a w => e = .normal ∧ ∃ ρ, Lk ⟨none, D⟩ n a ρ ∧ K .normal ρ w) hm ?_))
  · rintro e a w ⟨rfl, ρ, hl, hk⟩
    exact ⟨ρ, hl, hk⟩
  · have := sxp_held (Q := fun e a w => e = .normal ∧ ∃ ρ, Lk ⟨none, D⟩ n a ρ ∧ K .normal ρ w) (fun a ρ w hl hk => ⟨rfl, ρ, hl, hk⟩) (fun c a w q => by cases q.1) hs plan _ a ρ _ hpl hl hS h
    rw [hlen] at this
    exact this
end Go.X
